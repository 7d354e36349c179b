/- append and copy on slices of bytes, by explicit steps. -/
import Derived.Test.YtjbdimfpjbmggaaGreatDoorGm2
import Derived.Laws.CopyOwn
section
set_option linter.unusedVariables false
set_option linter.unusedSimpArgs false
namespace Go.Proofs.YtjbdimfpjbmggaaGreatDoor.Gm
abbrev bit (n i : Nat) : Bool := decide (n / 2 ^ i % 2 = 1)
theorem bit_testBit (n i : Nat) : bit n i = n.testBit i := by rw [Nat.testBit_eq_decide_div_mod_eq]
theorem bit_xor (a b i : Nat) : bit (a ^^^ b) i = (bit a i ^^ bit b i) := by rw [bit_testBit, bit_testBit, bit_testBit, Nat.testBit_xor]
theorem mod_pow_succ' (x i : Nat) : x % 2 ^ (i + 1) = x % 2 ^ i + (if bit x i = true then 2 ^ i else 0) := by
  rw [Nat.mod_pow_succ]
  have := Nat.mod_two_eq_zero_or_one (x / 2 ^ i)
  rcases this with h | h <;> simp [bit, h]
theorem plus_step (a b i : Nat) : (a ^^^ b) % 2 ^ (i + 1) = (a ^^^ b) % 2 ^ i + (if bit a i = bit b i then 0 else 2 ^ i) := by
  rw [mod_pow_succ', bit_xor]
  cases bit a i <;> cases bit b i <;> simp
theorem plus_all {a b : Nat} (ha : a < 65536) (hb : b < 65536) : (a ^^^ b) % 2 ^ 16 = a ^^^ b := Nat.mod_eq_of_lt (Nat.xor_lt_two_pow (n := 16) ha hb)
/-- A number times what the first powers of another one make, carried out nowhere. -/
def mulA (a b : Nat) : Nat → Nat
  | 0 => 0
  | i + 1 => if bit b i = true then mulA a b i ^^^ (a * 2 ^ i) else mulA a b i
theorem mulA_lt {a b : Nat} (ha : a < 256) : ∀ i, i ≤ 8 → mulA a b i < 32768 := by
  intro i; induction i with
  | zero => intro _; exact (by decide : (0 : Nat) < 32768)
  | succ i ih =>
    intro h; unfold mulA
    have := ih (by omega)
    split
    · refine Nat.xor_lt_two_pow (n := 15) this ?_
      have h2 : 2 ^ i ≤ 2 ^ 7 := Nat.pow_le_pow_right (by decide) (by omega)
      exact Nat.lt_of_lt_of_le (Nat.mul_lt_mul_of_lt_of_le ha h2 (by decide)) (by decide)
    · exact this
def red1 (v i : Nat) : Nat := if bit v i = true then v ^^^ (283 * 2 ^ (i - 8)) else v
/-- What is left behind n steps of carrying, from power 14 on. -/
def redN (v : Nat) : Nat → Nat
  | 0 => v
  | n + 1 => red1 (redN v n) (14 - n)
theorem red1_lt {v i : Nat} (h : v < 32768) (hi : i ≤ 14) : red1 v i < 32768 := by
  unfold red1; split
  · refine Nat.xor_lt_two_pow (n := 15) h ?_
    have h2 : 2 ^ (i - 8) ≤ 2 ^ 6 := Nat.pow_le_pow_right (by decide) (by omega)
    exact Nat.lt_of_le_of_lt (Nat.mul_le_mul_left 283 h2) (by decide)
  · exact h
theorem redN_lt {v : Nat} (h : v < 32768) : ∀ n, redN v n < 32768 := by
  intro n; induction n with
  | zero => exact h
  | succ n ih => exact red1_lt ih (by omega)
theorem red1_xor (u v i : Nat) : red1 (u ^^^ v) i = red1 u i ^^^ red1 v i := by
  unfold red1; rw [bit_xor]
  generalize 283 * 2 ^ (i - 8) = c
  cases bit u i <;> cases bit v i
  · rfl
  · exact Nat.xor_assoc u v c
  · show u ^^^ v ^^^ c = u ^^^ c ^^^ v
    rw [Nat.xor_assoc, Nat.xor_comm v, ← Nat.xor_assoc]
  · show u ^^^ v = (u ^^^ c) ^^^ (v ^^^ c)
    rw [Nat.xor_assoc u c, Nat.xor_comm v, ← Nat.xor_assoc c, Nat.xor_self, Nat.zero_xor]
theorem redN_xor (u v n : Nat) : redN (u ^^^ v) n = redN u n ^^^ redN v n := by
  induction n with
  | zero => rfl
  | succ n ih => show red1 (redN (u ^^^ v) n) _ = _; rw [ih, red1_xor]; rfl
def redG (v : Nat) : Nat := redN v 7
theorem red_pow : ∀ a, a < 256 → ∀ i, i < 8 → redG (a * 2 ^ i) = gmul a (2 ^ i) := by decide +kernel
theorem red_mulA {a b : Nat} (ha : a < 256) (hb : b < 256) : ∀ i, i ≤ 8 → redG (mulA a b i) = gmul a (b % 2 ^ i) := by
  intro i; induction i with
  | zero => intro _; rw [Nat.pow_zero, Nat.mod_one, gmul_zero]; show redG 0 = 0; decide
  | succ i ih =>
    intro h
    rw [mod_pow_succ']
    unfold mulA
    by_cases hbit : bit b i = true
    · rw [if_pos hbit, if_pos hbit]
      have h0 : b % 2 ^ i < 2 ^ i := Nat.mod_lt _ (Nat.two_pow_pos i)
      have hx : b % 2 ^ i + 2 ^ i = b % 2 ^ i ^^^ 2 ^ i := by
        rw [Nat.add_comm]
        refine Nat.eq_of_testBit_eq fun j => ?_
        rw [Nat.testBit_xor, Nat.testBit_two_pow, Nat.add_comm]
        have := Nat.testBit_two_pow_add_gt (i := i) (j := j)
        rcases Nat.lt_trichotomy j i with hj | hj | hj
        · rw [Nat.add_comm, Nat.testBit_two_pow_add_gt hj]; simp [show i ≠ j by omega]
        · subst hj; rw [Nat.add_comm, Nat.testBit_two_pow_add_eq]; simp [Nat.testBit_lt_two_pow h0]
        · have hj2 : b % 2 ^ i + 2 ^ i < 2 ^ j := Nat.lt_of_lt_of_le (by omega : b % 2 ^ i + 2 ^ i < 2 ^ i * 2) (by rw [← Nat.pow_succ]; exact Nat.pow_le_pow_right (by decide) hj)
          rw [Nat.testBit_lt_two_pow hj2, Nat.testBit_lt_two_pow (Nat.lt_trans (by omega : b % 2 ^ i < b % 2 ^ i + 2 ^ i) hj2)]; simp [show i ≠ j by omega]
      have hp : 2 ^ i < 256 := Nat.lt_of_le_of_lt (Nat.pow_le_pow_right (by decide) (by omega : i ≤ 7)) (by decide)
      rw [hx, gmul_xor (Nat.lt_trans h0 hp) hp, ← ih (by omega), ← red_pow a ha i (by omega)]
      exact redN_xor _ _ _
    · rw [if_neg hbit, if_neg hbit, Nat.add_zero]; exact ih (by omega)
theorem mul_all {a b : Nat} (ha : a < 256) (hb : b < 256) : redN (mulA a b 8) 7 % 256 = gmul a b := by
  have h := red_mulA ha hb 8 (by decide)
  rw [show b % 2 ^ 8 = b from Nat.mod_eq_of_lt hb] at h
  unfold redG at h
  rw [h, Nat.mod_eq_of_lt (gmul_lt a b)]
theorem inv_of {a v : Nat} (ha : a < 256) (hv : v < 256) (h : gmul a v = 1) : v = gdiv 1 a := by
  have h0 : a ≠ 0 := by intro h0; subst h0; rw [zero_gmul] at h; cases h
  refine gmul_cancel hv (gdiv_lt _ _) h0 ?_
  rw [gmul_comm, h, gdiv_mul (by decide) ha h0]
/-- What times a is 1; 0 of 0. -/
def iv (a : Nat) : Nat := if a = 0 then 0 else gdiv 1 a
theorem iv_lt (a : Nat) : iv a < 256 := by unfold iv; split; decide; exact gdiv_lt _ _
theorem iv_none {a : Nat} (ha : a < 256) (h : ∀ u, 1 ≤ u → u < 256 → gmul a u ≠ 1) : iv a = 0 := by
  unfold iv; split
  · rfl
  · rename_i h0
    exact absurd (mul_inv ha h0) (h _ (Nat.pos_of_ne_zero (gdiv_ne0 (by decide))) (gdiv_lt _ _))
theorem gpow_one {a : Nat} (h : a < 256) : gpow a 1 = a := by
  by_cases h0 : a = 0
  · subst h0; rfl
  · unfold gpow; rw [if_neg (by decide), if_neg h0, Nat.mod_eq_of_lt (by decide : 1 < 255), Nat.mul_one, Nat.mod_eq_of_lt (log_lt h h0), exp_log h h0]
theorem gpow_succ {a : Nat} (i : Nat) (h : a < 256) : gmul (gpow a i) a = gpow a (i + 1) := by
  conv => lhs; arg 2; rw [← gpow_one h]
  exact gpow_add i 1 h
theorem gpow_red {a n : Nat} (h0 : a ≠ 0) : gpow a (n % 255) = gpow a n := by
  rw [gpow_of h0, gpow_of h0, ← exp_mod, ← exp_mod (glog a * n)]
  congr 1
  rw [Nat.mul_mod, Nat.mod_mod, ← Nat.mul_mod]
theorem gpow_zero' (a : Nat) : gpow a 0 = 1 := rfl
theorem gmul_three (n : Nat) : gmul (gexp n) 3 = gexp (n + 1) := by
  have h3 : glog 3 = 1 := by decide
  have hn : gexp n ≠ 0 := by rw [← exp_mod]; exact exp_ne0 _ (Nat.mod_lt _ (by decide))
  rw [gmul_of hn (by decide), log_gexp, h3, exp_mod, ← exp_mod (n % 255 + 1), Nat.add_mod, Nat.mod_mod, ← Nat.add_mod, exp_mod]
/-- To what power 3 is a: the first one. -/
theorem log_first {a n : Nat} (ha : a < 256) (h0 : a ≠ 0) (hn : n ≤ 255) (hf : ∀ m, m < n → gexp m ≠ a) (he : n = 255 ∨ gexp n = a) : n = glog a := by
  have hl := log_lt ha h0
  have hg := exp_log ha h0
  have h1 : n ≤ glog a := Nat.le_of_not_lt fun h => hf _ h hg
  rcases he with h | h
  · omega
  · exact exp_inj (by omega) hl (by rw [h, hg])
theorem log_step {a n : Nat} (hf : ∀ m, m < n → gexp m ≠ a) (h : gexp n ≠ a) : ∀ m, m < n + 1 → gexp m ≠ a := fun m hm => by
  rcases Nat.lt_or_ge m n with h2 | h2
  · exact hf m h2
  · rw [show m = n by omega]; exact h
theorem gpow_pw {a n : Nat} (hn : n ≠ 0) (h0 : a ≠ 0) : gexp (glog a * (n % 255) % 255) = gpow a n := by unfold gpow; rw [if_neg hn, if_neg h0]
theorem gdiv_eq {a b : Nat} (ha : a < 256) (hb : b < 256) (h0 : b ≠ 0) : gdiv a b = gmul a (gdiv 1 b) :=
  gmul_cancel (gdiv_lt _ _) (gmul_lt _ _) h0 (by rw [gdiv_mul ha hb h0, ← gmul_assoc, gdiv_mul (by decide) hb h0, gmul_one ha])
theorem iv_eq {a v : Nat} (ha : a < 256) (hv : v < 256) (h : gmul a v = 1) : v = iv a := by
  have h0 : a ≠ 0 := by intro h0; subst h0; rw [zero_gmul] at h; cases h
  unfold iv; rw [if_neg h0]; exact inv_of ha hv h
theorem plus_ne {a b i : Nat} (h : (!(bit a i == bit b i)) = true) : (a ^^^ b) % 2 ^ i + 2 ^ i = (a ^^^ b) % 2 ^ (i + 1) := by
  rw [plus_step, if_neg (by intro e; rw [e] at h; simp at h)]
theorem plus_eq {a b i : Nat} (h : (!(bit a i == bit b i)) = false) : (a ^^^ b) % 2 ^ i = (a ^^^ b) % 2 ^ (i + 1) := by
  rw [plus_step, if_pos (by simpa using h), Nat.add_zero]
theorem mulA_yes {a b i : Nat} (h : bit b i = true) : mulA a b i ^^^ (a * 2 ^ i) = mulA a b (i + 1) := (if_pos h).symm
theorem mulA_no {a b i : Nat} (h : bit b i = false) : mulA a b i = mulA a b (i + 1) := (if_neg (by rw [h]; decide)).symm
theorem red_yes {v n : Nat} (h : bit (redN v n) (14 - n) = true) : redN v n ^^^ (283 * 2 ^ (14 - n - 8)) = redN v (n + 1) := (if_pos h).symm
theorem red_no {v n : Nat} (h : bit (redN v n) (14 - n) = false) : redN v n = redN v (n + 1) := (if_neg (by rw [h]; decide)).symm
theorem pow_le (i m c : Nat) (h : i ≤ m) (hc : 2 ^ m = c) : 2 ^ i ≤ c := hc ▸ Nat.pow_le_pow_right (by decide) h
theorem none_succ {a u : Nat} (hn : ∀ t, 1 ≤ t → t < u → gmul a t ≠ 1) (h : ¬ gmul a u = 1) : ∀ t, 1 ≤ t → t < u + 1 → gmul a t ≠ 1 := by
  intro t h1 h2
  rcases Nat.lt_or_ge t u with h3 | h3
  · exact hn t h1 h3
  · rw [show t = u by omega]; exact h
end Go.Proofs.YtjbdimfpjbmggaaGreatDoor.Gm
end
section
set_option linter.unusedVariables false
set_option linter.unusedSimpArgs false
namespace Go.Proofs.YtjbdimfpjbmggaaGreatDoor
open Go.RowKit
theorem Bs.ofBk {w : World} {p n t : Nat} {X : List Nat} (h : Bk w p (u8s X) t) (b : By n X) : Bs w (some ⟨p, 0, none⟩) X :=
  ⟨b.2, fun _ => ⟨p, 0, rfl, fun i v hi => by rw [Nat.zero_add]; exact h.cell (u8s_get hi)⟩⟩
theorem Bs.ofBk' {w : World} {p t : Nat} {X : List Nat} (h : Bk w p (u8s X) t) (b : ∀ n ∈ X, n < 256) : Bs w (some ⟨p, 0, none⟩) X :=
  ⟨b, fun _ => ⟨p, 0, rfl, fun i v hi => by rw [Nat.zero_add]; exact h.cell (u8s_get hi)⟩⟩
theorem Ob.bs {w : World} {base n c : Nat} {A : Option Addr} {X : List Nat} (h : Ob w base (.slice A n c) X) : Bs w A X := by
  obtain ⟨A', c', e, hb, _⟩ := h.reads
  injection e with e1 e2 e3
  rw [e1]; exact hb
theorem Ob.le {w : World} {base n c : Nat} {A : Option Addr} {X : List Nat} (h : Ob w base (.slice A n c) X) : X.length = n ∧ X.length ≤ c := by
  rcases h.own.2 with ⟨e, hn⟩ | ⟨g, cap, cur, e, _, _, hn, _⟩
  · injection e with e1 e2 e3; omega
  · injection e with e1 e2 e3; subst e2 e3; exact ⟨rfl, hn⟩
theorem Ob.on {w w' : World} {base p : Nat} {v : Value} {X : List Nat} (h : Ob w base v X) (k : Kp (On p) w w') (hp : p < base) : Ob w' base v X := h.kept k (fun b hb hc => by have := (h.lt b hb).1; have : b = p := hc; omega)
theorem Ob.onN {w w' w0 : World} {base base' p : Nat} {v : Value} {X Y : List Nat} (h : Ob w base v X) (k : Kp (On p) w w') (h0 : Ob w0 base' v Y) (hp : w0.heap.size ≤ p) : Ob w' base v X := h.kept k (fun b hb hc => by have := (h0.lt b hb).2; have : b = p := hc; omega)
theorem Ob.top {w : World} {base : Nat} {v : Value} {X : List Nat} (h : Ob w base v X) : ∀ b, v.ownBlock = some b → b < w.heap.size := fun b hb => (h.lt b hb).2
theorem Ob.past {w w' : World} {base b2 : Nat} {v : Value} {X : List Nat} (h : Ob w base v X) (hl : ∀ b, v.ownBlock = some b → b < b2) (k : Kp (fun i => b2 ≤ i) w w') : Ob w' base v X := h.kept k (fun b hb hc => by have := hl b hb; have hc' : b2 ≤ b := hc; omega)
theorem Ob.draw {w : World} {base : Nat} {v : Value} {X : List Nat} (h : Ob w base v X) : Ob w.drew base v X := ⟨h.own, h.byte⟩
/-- The bytes X lie in a slice of the call's own, behind base; nothing below base is touched. -/
structure Apd (w : World) (base : Nat) (X : List Nat) (A : Option Addr) (c : Nat) (w' : World) : Prop where
  ob : Ob w' base (.slice A X.length c) X
  le : X.length ≤ c
  kp : Kp (fun i => base ≤ i) w w'
section
variable {n : Nat} {l : List (Nat × Value)} {w : World} {d? : Option Tmp} {ty : TypeId} {pos : String} {af : Array Edge} {g? : Option (Nat × Bool)} {x y : Operand} {A B : Option Addr} {X Y : List Nat} {c c' k k' base : Nat}
theorem lo_app (h : Ob w base (.slice A k c) X) (hk : X.length = k) (hx : lk l x = some (.slice A k c)) (hy : lk l y = some (.slice B k' c')) (hk' : Y.length = k') (hB : Bs w B Y) (hlen : X.length + Y.length ≤ 70368744177664) (hbase : base ≤ w.heap.size) :
    Lo Tryz.prog ⟨d?, .call ⟨.builtin .append, #[x, y], #[22, 22]⟩, ty, pos, af, g?⟩ n l w (fun v w' => ∃ A' c', v = .slice A' (X ++ Y).length c' ∧ Apd w base (X ++ Y) A' c' w') := fun a ha K Q hK => by
  subst hk'
  refine wp_app x y rfl base (.slice A k c) X Y (ha.eval hx) h B c' (ha.eval hy) hB hlen hbase (fun v' w' h1 h2 h3 => ?_)
  obtain ⟨A', c2, rfl, h4, _⟩ := h1.reads
  exact hK _ _ ⟨A', c2, rfl, h1, h1.le.2, (Kp.refl _ w).grown h2 (fun b hb => .inl (h.lt b hb).1)⟩
end
end Go.Proofs.YtjbdimfpjbmggaaGreatDoor
end
