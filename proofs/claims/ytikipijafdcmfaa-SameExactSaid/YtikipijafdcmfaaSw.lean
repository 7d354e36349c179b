/- Walks: bytes held against bytes (layer 12), and the document's own. -/
import Derived.Test.YtikipijafdcmfaaBs
set_option linter.unusedVariables false
set_option linter.unusedSimpArgs false
namespace Go.Proofs.Ytikipijafdcmfaa
open Go.RowKit

/-! ### plain -/
namespace Sm
def acc (l m : List Nat) : Nat → Nat
  | 0 => l.length ^^^ m.length
  | k + 1 => acc l m k ||| (l.getD k 0 ^^^ m.getD k 0)
theorem or_eq0 {a b : Nat} : a ||| b = 0 ↔ a = 0 ∧ b = 0 := by
  constructor
  · intro h
    constructor
    · apply Nat.eq_of_testBit_eq; intro i
      have := congrArg (·.testBit i) h
      simp only [Nat.testBit_or, Nat.zero_testBit, Bool.or_eq_false_iff] at this
      simp [this.1]
    · apply Nat.eq_of_testBit_eq; intro i
      have := congrArg (·.testBit i) h
      simp only [Nat.testBit_or, Nat.zero_testBit, Bool.or_eq_false_iff] at this
      simp [this.2]
  · rintro ⟨rfl, rfl⟩; rfl
theorem xor_eq0 {a b : Nat} : a ^^^ b = 0 ↔ a = b := by
  constructor
  · intro h
    have : a ^^^ b ^^^ b = b := by rw [h, Nat.zero_xor]
    rwa [Nat.xor_assoc, Nat.xor_self, Nat.xor_zero] at this
  · rintro rfl; exact Nat.xor_self a
theorem acc_eq0 (l m : List Nat) (k : Nat) : acc l m k = 0 ↔ l.length = m.length ∧ ∀ i, i < k → l.getD i 0 = m.getD i 0 := by
  induction k with
  | zero => simp [acc, xor_eq0]
  | succ k ih =>
    show acc l m k ||| _ = 0 ↔ _
    rw [or_eq0, ih, xor_eq0]
    constructor
    · rintro ⟨⟨h1, h2⟩, h3⟩
      exact ⟨h1, fun i hi => by
        by_cases e : i = k
        · subst e; exact h3
        · exact h2 i (by omega)⟩
    · rintro ⟨h1, h2⟩
      exact ⟨⟨h1, fun i hi => h2 i (by omega)⟩, h2 k (by omega)⟩
theorem acc_all (l m : List Nat) : acc l m (max l.length m.length) = 0 ↔ l = m := by
  rw [acc_eq0]
  constructor
  · rintro ⟨h1, h2⟩
    apply List.ext_getElem h1
    intro i hi hj
    have := h2 i (by omega)
    simpa [List.getD_eq_getElem?_getD, hi, hj] using this
  · rintro rfl; exact ⟨rfl, fun _ _ => rfl⟩
theorem acc_lt (l m : List Nat) (hl : ∀ n ∈ l, n < 256) (hm : ∀ n ∈ m, n < 256) (h1 : l.length < 2 ^ 40) (h2 : m.length < 2 ^ 40) (k : Nat) : acc l m k < 2 ^ 40 := by
  have hg : ∀ (l : List Nat), (∀ n ∈ l, n < 256) → ∀ i, l.getD i 0 < 2 ^ 40 := by
    intro l hl i
    rw [List.getD_eq_getElem?_getD]
    cases h : l[i]? with
    | none => simp
    | some n => have := hl n (List.mem_of_getElem? h); simp; omega
  induction k with
  | zero => exact Nat.xor_lt_two_pow h1 h2
  | succ k ih => exact Nat.or_lt_two_pow ih (Nat.xor_lt_two_pow (hg l hl k) (hg m hm k))
end Sm

theorem i64_wraps (n : Int) (h0 : 0 ≤ n) (h1 : n < 2 ^ 62) : IntKind.i64.wrap n = n := IntWalk.i64_in _ (by omega)
theorem i64_or_nat (a b : Nat) (ha : a < 2 ^ 62) (hb : b < 2 ^ 62) : bits .or .i64 (a : Int) (b : Int) = ((a ||| b : Nat) : Int) := (bits_nat .i64 62 (by decide) i64_wraps a b ha hb).2
theorem i64_xor_nat (a b : Nat) (ha : a < 2 ^ 62) (hb : b < 2 ^ 62) : bits .xor .i64 (a : Int) (b : Int) = ((a ^^^ b : Nat) : Int) := by
  have hp : (2 : Nat) ^ 62 ≤ 2 ^ IntKind.i64.bits := Nat.pow_le_pow_right (by decide) (by decide)
  have ha' : a % 2 ^ IntKind.i64.bits = a := Nat.mod_eq_of_lt (Nat.lt_of_lt_of_le ha hp)
  have hb' : b % 2 ^ IntKind.i64.bits = b := Nat.mod_eq_of_lt (Nat.lt_of_lt_of_le hb hp)
  simp only [bits, BitVec.ofInt_natCast, BitVec.toNat_xor, BitVec.toNat_ofNat, ha', hb']
  exact i64_wraps _ (Int.natCast_nonneg _) (by exact_mod_cast Nat.xor_lt_two_pow ha hb)

theorem getD_of {l : List Nat} {i : Nat} (h : i < l.length) : l[i]? = some (l.getD i 0) := by
  rw [List.getD_eq_getElem?_getD, List.getElem?_eq_getElem h]; rfl

set_option maxHeartbeats 400000 in
theorem same_at (a : Option Addr) (cap : Nat) (l : List Nat) (i : Nat) (w : World) (h : Bs w a l) (hl : l.length < 2 ^ 40) :
    Calls Try.prog 22 #[.slice a l.length cap, .int .i64 (i : Int)] w fun e w' => e = .returned (.int .u8 ((l.getD i 0 : Nat) : Int)) ∧ w = w' := by
  by_cases hi : i < l.length
  · obtain ⟨b, o, rfl, hc⟩ := h.at (getD_of hi)
    have hi' : (i : Int) < (l.length : Int) := by omega
    clear h
    obtain ⟨v, hv⟩ : ∃ v, v = l.getD i 0 := ⟨_, rfl⟩
    rw [← hv] at hc ⊢
    clear hv
    go_enter Try.func22, Try.ntmps22
    go_wp2
    go_ret
    exact ⟨rfl, rfl⟩
  · have e : l.getD i 0 = 0 := by rw [List.getD_eq_getElem?_getD, List.getElem?_eq_none (by omega)]; rfl
    rw [e]
    have hi' : ¬ (i : Int) < (l.length : Int) := by omega
    clear h e
    go_enter Try.func22, Try.ntmps22
    go_wp2
    go_ret
    exact ⟨rfl, rfl⟩

theorem bmax2 (k k' : IntKind) (x y : Int) : Builtin.max2 (.int k x) (.int k' y) = pure (.int k (if x < y then y else x)) := by simp only [Builtin.max2, gt_iff_lt]
theorem bmax (ats : Array TypeId) (ty : TypeId) (a b : Value) : Builtin.max_ ats ty #[a, b] = (Builtin.max2 a b >>= fun s => pure s) := by simp only [Builtin.max_, List.foldlM_cons, List.foldlM_nil]
attribute [local go_sem] bmax2 bmax
theorem getD_lt {l : List Nat} (h : ∀ n ∈ l, n < 256) (i : Nat) : l.getD i 0 < 256 := by
  rw [List.getD_eq_getElem?_getD]
  cases e : l[i]? with
  | none => simp
  | some n => have := h n (List.mem_of_getElem? e); simpa using this

set_option maxRecDepth 100000 in
set_option maxHeartbeats 400000 in
theorem same_Equal (a c : Option Addr) (cap cap' : Nat) (l m : List Nat) (w : World) (h : Bs w a l) (h' : Bs w c m) (hl : l.length < 2 ^ 40) (hm : m.length < 2 ^ 40) :
    Calls Try.prog 9 #[.slice a l.length cap, .slice c m.length cap'] w fun e w' => e = .returned (.tuple #[.bool (decide (l = m)), .int .i64 ((max l.length m.length : Nat) : Int)]) ∧ w = w' := by
  have H := Lib.hid h
  have H' := Lib.hid h'
  have HL := Lib.hid hl
  have HM := Lib.hid hm
  have hl1 : l.length < 1099511627776 := hl
  have hm1 : m.length < 1099511627776 := hm
  obtain ⟨N, hN⟩ : ∃ N, N = max l.length m.length := ⟨_, rfl⟩
  have hN1 : N < 1099511627776 := by omega
  have hcase : (N = m.length ∧ l.length < m.length) ∨ (N = l.length ∧ m.length ≤ l.length) := by omega
  have hx0 : bits .xor .i64 (l.length : Int) (m.length : Int) = ((Sm.acc l m 0 : Nat) : Int) := i64_xor_nat _ _ (by omega) (by omega)
  have HN := Lib.hid hN
  rw [← hN]
  clear hl hm h h' hN
  rcases hcase with ⟨rfl, hlm⟩ | ⟨rfl, hlm⟩
  · go_enter Try.func9, Try.ntmps9
    go_wp2
    go_loop [6, 20] (fun v i => ∃ k : Nat, k ≤ m.length ∧ i = .int .i64 (k : Int) ∧ v = .int .i64 ((Sm.acc l m k : Nat) : Int)) (fun _ i => m.length - (intOf i).toNat)
    case atStart => exact ⟨0, by omega, rfl, rfl⟩
    case round =>
      clear hx0
      obtain ⟨k, hk, rfl, rfl⟩ := hrel
      by_cases hlt : k < m.length
      · have hlt' : (k : Int) < (m.length : Int) := by omega
        have b1 := getD_lt H.out.byte k
        have b2 := getD_lt H'.out.byte k
        have ha := Sm.acc_lt l m H.out.byte H'.out.byte HL.out HM.out k
        have hor := Lib.hid (i64_or_nat (Sm.acc l m k) (l.getD k 0 ^^^ m.getD k 0) (by omega) (by have := Nat.xor_lt_two_pow (n := 8) b1 b2; omega))
        have hxo := u8_xor_nat _ _ b1 b2
        have hxl : l.getD k 0 ^^^ m.getD k 0 < 256 := Nat.xor_lt_two_pow (n := 8) b1 b2
        clear ha
        obtain ⟨p, hp⟩ : ∃ p, p = l.getD k 0 := ⟨_, rfl⟩
        obtain ⟨q, hq⟩ : ∃ q, q = m.getD k 0 := ⟨_, rfl⟩
        obtain ⟨z, hz⟩ : ∃ z, z = Sm.acc l m k := ⟨_, rfl⟩
        have c1 := same_at a cap l k w H.out HL.out
        have c2 := same_at c cap' m k w H'.out HM.out
        have hr : Hid (Sm.acc l m (k + 1) = z ||| (p ^^^ q)) := Lib.hid (by rw [hp, hq, hz]; rfl)
        rw [← hp] at c1 hor hxo hxl b1
        rw [← hq] at c2 hor hxo hxl b2
        rw [← hz] at hor ⊢
        have C1 := Lib.hid c1
        have C2 := Lib.hid c2
        clear c1 c2 hp hq hz
        go_wp2_with fail
        refine C1.out.mono ?_
        rintro e w' ⟨rfl, rfl⟩
        go_wp2_with fail
        refine C2.out.mono ?_
        rintro e w' ⟨rfl, rfl⟩
        go_wp2_with fail
        go_round
        case rel => exact ⟨k + 1, by omega, by go_num, by rw [hr.out]; exact valI hor.out⟩
        case measure => simp [intOf]; omega
      · have hkN : k = m.length := by omega
        rw [hkN] at *
        clear hkN
        have hE : Hid ((((Sm.acc l m m.length : Nat) : Int) == 0) = decide (l = m)) := Lib.hid (by
          rw [HN.out, Bool.eq_iff_iff, beq_iff_eq, decide_eq_true_iff]
          have hz := Sm.acc_all l m
          exact ⟨fun h => hz.1 (by omega), fun h => by have := hz.2 h; omega⟩)
        go_wp2
        go_ret2
        exact ⟨by rw [hE.out]; rfl, rfl⟩
  · go_enter Try.func9, Try.ntmps9
    go_wp2
    go_loop [6, 20] (fun v i => ∃ k : Nat, k ≤ l.length ∧ i = .int .i64 (k : Int) ∧ v = .int .i64 ((Sm.acc l m k : Nat) : Int)) (fun _ i => l.length - (intOf i).toNat)
    case atStart => exact ⟨0, by omega, rfl, rfl⟩
    case round =>
      clear hx0
      obtain ⟨k, hk, rfl, rfl⟩ := hrel
      by_cases hlt : k < l.length
      · have hlt' : (k : Int) < (l.length : Int) := by omega
        have b1 := getD_lt H.out.byte k
        have b2 := getD_lt H'.out.byte k
        have ha := Sm.acc_lt l m H.out.byte H'.out.byte HL.out HM.out k
        have hor := Lib.hid (i64_or_nat (Sm.acc l m k) (l.getD k 0 ^^^ m.getD k 0) (by omega) (by have := Nat.xor_lt_two_pow (n := 8) b1 b2; omega))
        have hxo := u8_xor_nat _ _ b1 b2
        have hxl : l.getD k 0 ^^^ m.getD k 0 < 256 := Nat.xor_lt_two_pow (n := 8) b1 b2
        clear ha
        obtain ⟨p, hp⟩ : ∃ p, p = l.getD k 0 := ⟨_, rfl⟩
        obtain ⟨q, hq⟩ : ∃ q, q = m.getD k 0 := ⟨_, rfl⟩
        obtain ⟨z, hz⟩ : ∃ z, z = Sm.acc l m k := ⟨_, rfl⟩
        have c1 := same_at a cap l k w H.out HL.out
        have c2 := same_at c cap' m k w H'.out HM.out
        have hr : Hid (Sm.acc l m (k + 1) = z ||| (p ^^^ q)) := Lib.hid (by rw [hp, hq, hz]; rfl)
        rw [← hp] at c1 hor hxo hxl b1
        rw [← hq] at c2 hor hxo hxl b2
        rw [← hz] at hor ⊢
        have C1 := Lib.hid c1
        have C2 := Lib.hid c2
        clear c1 c2 hp hq hz
        go_wp2_with fail
        refine C1.out.mono ?_
        rintro e w' ⟨rfl, rfl⟩
        go_wp2_with fail
        refine C2.out.mono ?_
        rintro e w' ⟨rfl, rfl⟩
        go_wp2_with fail
        go_round
        case rel => exact ⟨k + 1, by omega, by go_num, by rw [hr.out]; exact valI hor.out⟩
        case measure => simp [intOf]; omega
      · have hkN : k = l.length := by omega
        rw [hkN] at *
        clear hkN
        have hE : Hid ((((Sm.acc l m l.length : Nat) : Int) == 0) = decide (l = m)) := Lib.hid (by
          rw [HN.out, Bool.eq_iff_iff, beq_iff_eq, decide_eq_true_iff]
          have hz := Sm.acc_all l m
          exact ⟨fun h => hz.1 (by omega), fun h => by have := hz.2 h; omega⟩)
        go_wp2
        go_ret2
        exact ⟨by rw [hE.out]; rfl, rfl⟩
end Go.Proofs.Ytikipijafdcmfaa
