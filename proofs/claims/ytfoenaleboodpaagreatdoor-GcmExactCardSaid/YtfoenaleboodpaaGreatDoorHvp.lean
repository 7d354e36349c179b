/- Plain: the sum over bytes goes through sums. -/
import Derived.Test.YtfoenaleboodpaaGreatDoorHv8
set_option linter.unusedVariables false
namespace Go.Proofs.YtfoenaleboodpaaGreatDoor
open Go.RowKit
def zx (l m : List Nat) : List Nat := List.zipWith (· ^^^ ·) l m
theorem zx_length {l m : List Nat} (h : l.length = m.length) : (zx l m).length = l.length := by simp [zx, h]
theorem zx_lt {l m : List Nat} (hl : ∀ n ∈ l, n < 256) (hm : ∀ n ∈ m, n < 256) : ∀ n ∈ zx l m, n < 256 := by
  intro n hn
  unfold zx at hn
  obtain ⟨i, hi, rfl⟩ := List.mem_iff_getElem.1 hn
  rw [List.getElem_zipWith]
  exact Nat.xor_lt_two_pow (n := 8) (hl _ (List.getElem_mem _)) (hm _ (List.getElem_mem _))
theorem zx_pad {l m : List Nat} (h : l.length = m.length) : pad (zx l m) = zx (pad l) (pad m) := by
  unfold pad
  rw [zx_length h]
  unfold zx
  rw [List.zipWith_append (by simp [h]), ← List.take_zipWith, h]
  congr 1
  rw [List.zipWith_replicate]
  simp
theorem zx_be {l m : List Nat} (h : l.length = m.length) (hl : ∀ n ∈ l, n < 256) (hm : ∀ n ∈ m, n < 256) : Hm.be (zx l m) = Hm.be l ^^^ Hm.be m := Hm.be_xor l m h hl hm
theorem tk_add {h : Nat} (hh : h < 2 ^ 128) : ∀ (n : Nat) (l m : List Nat) (z y : Nat), l.length ≤ n → l.length = m.length → (∀ x ∈ l, x < 256) → (∀ x ∈ m, x < 256) → z < 2 ^ 128 → y < 2 ^ 128 →
    tk h (z ^^^ y) (zx l m) = tk h z l ^^^ tk h y m := by
  intro n
  induction n with
  | zero =>
    intro l m z y hn hlm hl hm hz hy
    obtain rfl : l = [] := List.length_eq_zero_iff.1 (by omega)
    obtain rfl : m = [] := List.length_eq_zero_iff.1 (by simpa using hlm.symm)
    simp [zx, tk_nil]
  | succ n ih =>
    intro l m z y hn hlm hl hm hz hy
    by_cases h0 : l = []
    · subst h0
      obtain rfl : m = [] := List.length_eq_zero_iff.1 (by simpa using hlm.symm)
      simp [zx, tk_nil]
    · have hp : 0 < l.length := List.length_pos_iff.2 h0
      have hm0 : m ≠ [] := by intro e; subst e; simp at hlm; exact h0 hlm
      have hz0 : zx l m ≠ [] := by intro e; have := zx_length hlm; rw [e] at this; simp at this; omega
      rw [tk_cons h _ hz0, tk_cons h z h0, tk_cons h y hm0]
      have e1 : Hm.be (pad (zx l m)) = Hm.be (pad l) ^^^ Hm.be (pad m) := by
        rw [zx_pad hlm]
        exact zx_be ((pad_by hl).1.trans (pad_by hm).1.symm) (pad_by hl).2 (pad_by hm).2
      have e2 : (zx l m).drop 16 = zx (l.drop 16) (m.drop 16) := by unfold zx; rw [List.drop_zipWith]
      have lp := by_lt (pad_by hl)
      have lq := by_lt (pad_by hm)
      rw [e1, e2]
      have e3 : z ^^^ y ^^^ (Hm.be (pad l) ^^^ Hm.be (pad m)) = (z ^^^ Hm.be (pad l)) ^^^ (y ^^^ Hm.be (pad m)) := by
        rw [Nat.xor_assoc, Nat.xor_assoc]
        congr 1
        rw [← Nat.xor_assoc, Nat.xor_comm y, Nat.xor_assoc]
      rw [e3, Hm.xor_gm hh (Nat.xor_lt_two_pow hz lp) (Nat.xor_lt_two_pow hy lq)]
      exact ih _ _ _ _ (by rw [List.length_drop]; omega) (by rw [List.length_drop, List.length_drop, hlm]) (fun x hx => hl x (List.mem_of_mem_drop hx)) (fun x hx => hm x (List.mem_of_mem_drop hx)) (Hm.gm_lt hh) (Hm.gm_lt hh)
theorem tk_zeros {h : Nat} (hh : h < 2 ^ 128) : ∀ (n k : Nat), k ≤ n → tk h 0 (List.replicate k 0) = 0 := by
  intro n
  induction n with
  | zero =>
    intro k hk
    obtain rfl : k = 0 := by omega
    exact tk_nil h 0
  | succ n ih =>
    intro k hk
    by_cases h0 : k = 0
    · subst h0; exact tk_nil h 0
    · rw [tk_cons h 0 (by simp; omega)]
      have e : Hm.be (pad (List.replicate k 0)) = 0 := by
        have e1 : pad (List.replicate k 0) = zeroB := by
          apply List.ext_getElem?
          intro j
          simp only [pad, zeroB, List.take_replicate, List.length_replicate]
          rw [List.replicate_append_replicate]
          congr 2
          omega
        rw [e1]; exact zeroB_be
      rw [e, Nat.xor_zero, Hm.zero_gm hh, List.drop_replicate]
      exact ih _ (by omega)
theorem hash_linear {x l m : List Nat} (bx : By 16 x) (hlm : l.length = m.length) (hl : ∀ n ∈ l, n < 256) (hm : ∀ n ∈ m, n < 256) (hs : l.length < 2 ^ 60) :
    addB (hashB x [] l) (hashB x [] m) = addB (hashB x [] (zx l m)) (hashB x [] (List.replicate l.length 0)) := by
  have hK := by_lt bx
  obtain ⟨K, hKe⟩ : ∃ K, K = Hm.be x := ⟨_, rfl⟩
  rw [← hKe] at hK
  obtain ⟨LN, hLN⟩ : ∃ LN, LN = 2 ^ 64 * (8 * ([] : List Nat).length) + 8 * l.length := ⟨_, rfl⟩
  have hLl : LN < 2 ^ 128 := by rw [hLN]; simp only [List.length_nil]; omega
  have h0 : (0 : Nat) < 2 ^ 128 := by decide
  have be_h : ∀ t : List Nat, t.length = l.length → Hm.be (hashB x [] t) = Hm.gm (tk K 0 t ^^^ LN) K := by
    intro t ht
    rw [hashB_eq, be_toB16 (Hm.gm_lt (by rw [← hKe]; exact hK)), ← hKe, tk_nil, ht, ← hLN]
  have gx : ∀ a b : Nat, a < 2 ^ 128 → b < 2 ^ 128 → Hm.gm (a ^^^ LN) K ^^^ Hm.gm (b ^^^ LN) K = Hm.gm (a ^^^ b) K := by
    intro a b ha hb
    rw [← Hm.xor_gm hK (Nat.xor_lt_two_pow ha hLl) (Nat.xor_lt_two_pow hb hLl)]
    congr 1
    rw [Nat.xor_comm b LN, ← Nat.xor_assoc, Nat.xor_assoc a LN LN, Nat.xor_self, Nat.xor_zero]
  have t1 := tk_lt hK h0 l.length l (Nat.le_refl _)
  have t2 := tk_lt hK h0 m.length m (Nat.le_refl _)
  have ta : tk K 0 (zx l m) = tk K 0 l ^^^ tk K 0 m := by
    have := tk_add hK l.length l m 0 0 (Nat.le_refl _) hlm hl hm h0 h0
    rwa [Nat.xor_zero] at this
  rw [addB_eq, addB_eq, be_h l rfl, be_h m hlm.symm, be_h _ (zx_length hlm), be_h _ (by simp), gx _ _ t1 t2, ta, tk_zeros hK l.length l.length (Nat.le_refl _),
    gx _ _ (Nat.xor_lt_two_pow t1 t2) h0, Nat.xor_zero]
end Go.Proofs.YtfoenaleboodpaaGreatDoor
