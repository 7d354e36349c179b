/- Walks: ghash's halves: sums, moved by a place. -/
import Derived.Test.YtjbdimfpjbmggaaGreatDoorHm
import Derived.Test.YtjbdimfpjbmggaaGreatDoorLb
section
set_option linter.unusedVariables false
set_option linter.unusedSimpArgs false
namespace Go.Proofs.YtjbdimfpjbmggaaGreatDoor.Hm

theorem split_xor (k a a' b b' : Nat) (hb : b < 2 ^ k) (hb' : b' < 2 ^ k) : (2 ^ k * a + b) ^^^ (2 ^ k * a' + b') = 2 ^ k * (a ^^^ a') + (b ^^^ b') := by
  apply Nat.eq_of_testBit_eq
  intro i
  rw [Nat.testBit_xor, Nat.testBit_two_pow_mul_add _ hb, Nat.testBit_two_pow_mul_add _ hb', Nat.testBit_two_pow_mul_add _ (Nat.xor_lt_two_pow hb hb')]
  split <;> simp [Nat.testBit_xor]
theorem or_halves (a b : Nat) (hb : b < 2 ^ 64) : b / 2 ||| (a * 2 ^ 63 % 2 ^ 64) = a % 2 * 2 ^ 63 + b / 2 := by
  have h1 : a * 2 ^ 63 % 2 ^ 64 = 2 ^ 63 * (a % 2) := by omega
  rw [h1, Nat.or_comm, ← Nat.two_pow_add_eq_or_of_lt (by omega), Nat.mul_comm]
theorem mv_halves (a b : Nat) (hb : b < 2 ^ 64) : mv (2 ^ 64 * a + b) = 2 ^ 64 * (a / 2 ^^^ (if b % 2 = 1 then 0xe1 * 2 ^ 56 else 0)) + (a % 2 * 2 ^ 63 + b / 2) := by
  unfold mv
  have h1 : (2 ^ 64 * a + b) / 2 = 2 ^ 64 * (a / 2) + (a % 2 * 2 ^ 63 + b / 2) := by omega
  have h2 : (2 ^ 64 * a + b) % 2 = b % 2 := by omega
  have h3 : (if b % 2 = 1 then R else 0) = 2 ^ 64 * (if b % 2 = 1 then 0xe1 * 2 ^ 56 else 0) + 0 := by
    split
    · decide
    · rfl
  rw [h1, h2, h3, split_xor 64 _ _ _ _ (by omega) (by decide), Nat.xor_zero]

/-! ### bytes, the first one uppermost -/
def be (l : List Nat) : Nat := l.foldl (fun a b => 256 * a + b) 0
theorem be_snoc (l : List Nat) (b : Nat) : be (l ++ [b]) = 256 * be l + b := by simp [be]
theorem foldl_be (l : List Nat) (a : Nat) : l.foldl (fun a b => 256 * a + b) a = 256 ^ l.length * a + be l := by
  induction l generalizing a with
  | nil => simp [be]
  | cons b l ih =>
    show l.foldl _ (256 * a + b) = _
    rw [ih]
    show _ = 256 ^ (l.length + 1) * a + l.foldl _ (256 * 0 + b)
    rw [ih (256 * 0 + b), Nat.pow_succ]
    rw [Nat.mul_zero, Nat.zero_add, Nat.mul_add, ← Nat.add_assoc, Nat.mul_assoc]
theorem be_append (l m : List Nat) : be (l ++ m) = 256 ^ m.length * be l + be m := by
  show (l ++ m).foldl _ 0 = _
  rw [List.foldl_append]
  exact foldl_be m (be l)
theorem be_lt {l : List Nat} (h : ∀ n ∈ l, n < 256) : be l < 256 ^ l.length := by
  induction l with
  | nil => decide
  | cons b l ih =>
    have h1 := ih (fun n hn => h n (by simp [hn]))
    have h2 := h b (by simp)
    show l.foldl _ (256 * 0 + b) < _
    rw [foldl_be, List.length_cons, Nat.pow_succ, Nat.mul_zero, Nat.zero_add]
    have : 256 ^ l.length * b ≤ 256 ^ l.length * 255 := Nat.mul_le_mul_left _ (by omega)
    omega
/-- A number's bytes. -/
def toB : Nat → Nat → List Nat
  | 0, _ => []
  | n + 1, v => toB n (v / 256) ++ [v % 256]
theorem toB_length (n v : Nat) : (toB n v).length = n := by
  induction n generalizing v with
  | zero => rfl
  | succ n ih => show (_ ++ [_]).length = _; rw [List.length_append, ih]; rfl
theorem toB_byte (n v : Nat) : ∀ b ∈ toB n v, b < 256 := by
  induction n generalizing v with
  | zero => simp [toB]
  | succ n ih =>
    intro b hb
    rcases List.mem_append.1 hb with h | h
    · exact ih _ b h
    · have : b = v % 256 := by simpa using h
      omega
theorem be_toB (n v : Nat) : be (toB n v) = v % 256 ^ n := by
  induction n generalizing v with
  | zero => show 0 = _; rw [Nat.pow_zero, Nat.mod_one]
  | succ n ih =>
    show be (_ ++ [_]) = _
    rw [be_snoc, ih, Nat.pow_succ, Nat.mul_comm (256 ^ n) 256, Nat.mod_mul, Nat.add_comm]
theorem toB_be {l : List Nat} (h : ∀ n ∈ l, n < 256) : toB l.length (be l) = l := by
  obtain ⟨m, hm⟩ : ∃ m, m = l.reverse := ⟨_, rfl⟩
  obtain rfl : l = m.reverse := by rw [hm, List.reverse_reverse]
  clear hm
  induction m with
  | nil => rfl
  | cons b m ih =>
    rw [List.reverse_cons, be_snoc, List.length_append]
    show toB ((m.reverse).length + 1) _ = _
    have hb := h b (by simp)
    show toB _ ((256 * be m.reverse + b) / 256) ++ [(256 * be m.reverse + b) % 256] = _
    have e1 : (256 * be m.reverse + b) / 256 = be m.reverse := by omega
    have e2 : (256 * be m.reverse + b) % 256 = b := by omega
    rw [e1, e2, ih (fun n hn => h n (by simp at hn ⊢; exact .inl hn))]
theorem toB_inj {n v w : Nat} (hv : v < 256 ^ n) (hw : w < 256 ^ n) (h : toB n v = toB n w) : v = w := by
  have := congrArg be h
  rwa [be_toB, be_toB, Nat.mod_eq_of_lt hv, Nat.mod_eq_of_lt hw] at this
theorem toB_get (n v i : Nat) (hi : i < n) : (toB n v)[i]? = some (v / 256 ^ (n - 1 - i) % 256) := by
  induction n generalizing v with
  | zero => omega
  | succ n ih =>
    show (toB n (v / 256) ++ [v % 256])[i]? = _
    by_cases h : i = n
    · subst h
      rw [List.getElem?_append_right (by rw [toB_length]; omega), toB_length]
      simp
    · rw [List.getElem?_append_left (by rw [toB_length]; omega), ih _ (by omega), Nat.div_div_eq_div_mul]
      have : n + 1 - 1 - i = (n - 1 - i) + 1 := by omega
      rw [this, Nat.pow_succ, Nat.mul_comm 256]
theorem be_xor : ∀ (l m : List Nat), l.length = m.length → (∀ n ∈ l, n < 256) → (∀ n ∈ m, n < 256) → be (List.zipWith (· ^^^ ·) l m) = be l ^^^ be m := by
  intro l m hlen hl hm
  obtain ⟨l', hl'⟩ : ∃ l', l' = l.reverse := ⟨_, rfl⟩
  obtain ⟨m', hm'⟩ : ∃ m', m' = m.reverse := ⟨_, rfl⟩
  obtain rfl : l = l'.reverse := by rw [hl', List.reverse_reverse]
  obtain rfl : m = m'.reverse := by rw [hm', List.reverse_reverse]
  clear hl' hm'
  simp only [List.length_reverse] at hlen
  induction l' generalizing m' with
  | nil =>
    have : m' = [] := List.eq_nil_of_length_eq_zero (by simpa using hlen.symm)
    subst this
    decide
  | cons a l' ih =>
    cases m' with
    | nil => simp at hlen
    | cons b m' =>
      have ha := hl a (by simp)
      have hb := hm b (by simp)
      have hlen' : l'.length = m'.length := by simpa using hlen
      rw [List.reverse_cons, List.reverse_cons, List.zipWith_append (by simpa using hlen'), be_snoc, be_snoc]
      show be (_ ++ [a ^^^ b]) = _
      rw [be_snoc, ih m' (fun n hn => hl n (by simp at hn ⊢; exact .inl hn)) (fun n hn => hm n (by simp at hn ⊢; exact .inl hn)) hlen']
      exact (split_xor 8 _ _ _ _ ha hb).symm
end Go.Proofs.YtjbdimfpjbmggaaGreatDoor.Hm
end
section
set_option linter.unusedVariables false
set_option linter.unusedSimpArgs false
namespace Go.Proofs.YtjbdimfpjbmggaaGreatDoor
open Go.RowKit

/-- A number of 128 bits, in halves. -/
def hi (v : Nat) : Nat := v / 2 ^ 64
def lo (v : Nat) : Nat := v % 2 ^ 64
def hv (v : Nat) : Value := .agg #[.int .u64 ((hi v : Nat) : Int), .int .u64 ((lo v : Nat) : Int)]
theorem hv_def (v : Nat) : hv v = .agg #[.int .u64 ((hi v : Nat) : Int), .int .u64 ((lo v : Nat) : Int)] := rfl
theorem hi_lt {v : Nat} (h : v < 2 ^ 128) : hi v < 2 ^ 64 := by unfold hi; omega
theorem lo_lt (v : Nat) : lo v < 2 ^ 64 := by unfold lo; omega
theorem hv_eq {v a b : Nat} (hb : b < 2 ^ 64) (h : v = 2 ^ 64 * a + b) : hv v = .agg #[.int .u64 (a : Int), .int .u64 (b : Int)] := by
  subst h
  have h1 : (2 ^ 64 * a + b) / 2 ^ 64 = a := by omega
  have h2 : (2 ^ 64 * a + b) % 2 ^ 64 = b := by omega
  unfold hv hi lo
  rw [h1, h2]
theorem hv_ex (v : Nat) (hv' : v < 2 ^ 128) : ∃ a b, a < 2 ^ 64 ∧ b < 2 ^ 64 ∧ v = 2 ^ 64 * a + b ∧ hv v = .agg #[.int .u64 (a : Int), .int .u64 (b : Int)] :=
  ⟨v / 2 ^ 64, v % 2 ^ 64, by omega, by omega, by omega, rfl⟩

set_option maxHeartbeats 400000 in
theorem half_plus (x y : Nat) (hx : x < 2 ^ 128) (hy : y < 2 ^ 128) (w : World) :
    Calls Tryz.prog 80 #[hv x, hv y] w fun e w' => e = .returned (hv (x ^^^ y)) ∧ Kp No w w' := by
  obtain ⟨a, b, ha, hb, hab, e⟩ := hv_ex x hx
  obtain ⟨c, d, hc, hd, hcd, e'⟩ := hv_ex y hy
  have er := Lib.hid (hv_eq (v := x ^^^ y) (Nat.xor_lt_two_pow hb hd) (by rw [hab, hcd, Hm.split_xor 64 _ _ _ _ hb hd]))
  have e1 := u64_xor_nat a c ha hc
  have e2 := u64_xor_nat b d hb hd
  rw [e, e']
  clear ha hb hc hd hab hcd e e' hx hy
  go_enter Tryz.func80, Tryz.ntmps80
  go_wp2
  exact bodyPost_ret (v := .agg #[.int .u64 ((a ^^^ c : Nat) : Int), .int .u64 ((b ^^^ d : Nat) : Int)]) (by simp [results, Tryz.results80, go_sem]) rfl ⟨by rw [er.out], ((((Kp.refl No w).alloc _).alloc _).alloc _)⟩

/-- What a move by a place comes to, in the machine's own words. -/
theorem moved_odd (a b x : Nat) (ha : a < 2 ^ 64) (hb : b < 2 ^ 64) (hx : x = 2 ^ 64 * a + b) (h1 : b % 2 = 1) :
    (.agg #[.int .u64 (bits .xor .u64 ((a : Int) / 2) 16212958658533785600), .int .u64 (bits .or .u64 ((b : Int) / 2) (IntKind.u64.wrap ((a : Int) * 9223372036854775808)))] : Value) = hv (Hm.mv x) := by
  have hm := Hm.mv_halves a b hb
  rw [← hx, if_pos h1] at hm
  rw [hv_eq (by omega) hm]
  have h1 : IntKind.u64.wrap ((a : Int) * 9223372036854775808) = ((a * 2 ^ 63 % 2 ^ 64 : Nat) : Int) := by rw [IntKind.wrap_u64]; omega
  have h2 : (b : Int) / 2 = ((b / 2 : Nat) : Int) := by omega
  have h3 : (a : Int) / 2 = ((a / 2 : Nat) : Int) := by omega
  have h4 : bits .xor .u64 ((a / 2 : Nat) : Int) 16212958658533785600 = ((a / 2 ^^^ 0xe1 * 2 ^ 56 : Nat) : Int) := by
    have c : (16212958658533785600 : Int) = ((0xe1 * 2 ^ 56 : Nat) : Int) := by decide
    rw [c]
    exact u64_xor_nat (a / 2) (0xe1 * 2 ^ 56) (by omega) (by decide)
  rw [h1, h2, h3, h4, u64_or_nat _ _ (by omega) (by omega), Hm.or_halves a b hb]
theorem moved_even (a b x : Nat) (ha : a < 2 ^ 64) (hb : b < 2 ^ 64) (hx : x = 2 ^ 64 * a + b) (h1 : ¬ b % 2 = 1) :
    (.agg #[.int .u64 ((a : Int) / 2), .int .u64 (bits .or .u64 ((b : Int) / 2) (IntKind.u64.wrap ((a : Int) * 9223372036854775808)))] : Value) = hv (Hm.mv x) := by
  have hm := Hm.mv_halves a b hb
  rw [← hx, if_neg h1, Nat.xor_zero] at hm
  rw [hv_eq (by omega) hm]
  have h1 : IntKind.u64.wrap ((a : Int) * 9223372036854775808) = ((a * 2 ^ 63 % 2 ^ 64 : Nat) : Int) := by rw [IntKind.wrap_u64]; omega
  have h2 : (b : Int) / 2 = ((b / 2 : Nat) : Int) := by omega
  have h3 : (a : Int) / 2 = ((a / 2 : Nat) : Int) := by omega
  rw [h1, h2, h3, u64_or_nat _ _ (by omega) (by omega), Hm.or_halves a b hb]
theorem odd_test (b : Nat) (hb : b < 2 ^ 64) : (bits .and .u64 (b : Int) 1 != 0) = decide (b % 2 = 1) := by
  have h : bits .and .u64 (b : Int) 1 = ((b % 2 : Nat) : Int) := by
    have := u64_and_nat b 1 hb (by decide)
    rwa [nat_mask1] at this
  rw [h, Bool.eq_iff_iff, bne_iff_ne, decide_eq_true_iff]
  omega

set_option maxHeartbeats 400000 in
theorem half_moved (x : Nat) (hx : x < 2 ^ 128) (w : World) :
    Calls Tryz.prog 99 #[hv x] w fun e w' => e = .returned (hv (Hm.mv x)) ∧ Kp No w w' := by
  obtain ⟨a, b, ha, hb, hab, e⟩ := hv_ex x hx
  have ht := odd_test b hb
  rw [e]
  clear e
  by_cases h1 : b % 2 = 1
  · have er := Lib.hid (moved_odd a b x ha hb hab h1)
    have t : (bits .and .u64 (b : Int) 1 != 0) = true := by rw [ht]; exact decide_eq_true h1
    clear ha hb hab hx h1 ht
    go_enter Tryz.func99, Tryz.ntmps99
    go_wp2
    exact bodyPost_ret (v := .agg #[.int .u64 (bits .xor .u64 ((a : Int) / 2) 16212958658533785600), .int .u64 (bits .or .u64 ((b : Int) / 2) (IntKind.u64.wrap ((a : Int) * 9223372036854775808)))]) (by simp [results, Tryz.results99, go_sem]) rfl ⟨by rw [er.out], (((Kp.refl No w).alloc _).alloc _).alloc _⟩
  · have er := Lib.hid (moved_even a b x ha hb hab h1)
    have t : (bits .and .u64 (b : Int) 1 != 0) = false := by rw [ht]; exact decide_eq_false h1
    clear ha hb hab hx h1 ht
    go_enter Tryz.func99, Tryz.ntmps99
    go_wp2
    exact bodyPost_ret (v := .agg #[.int .u64 ((a : Int) / 2), .int .u64 (bits .or .u64 ((b : Int) / 2) (IntKind.u64.wrap ((a : Int) * 9223372036854775808)))]) (by simp [results, Tryz.results99, go_sem]) rfl ⟨by rw [er.out], (((Kp.refl No w).alloc _).alloc _).alloc _⟩
end Go.Proofs.YtjbdimfpjbmggaaGreatDoor
end
