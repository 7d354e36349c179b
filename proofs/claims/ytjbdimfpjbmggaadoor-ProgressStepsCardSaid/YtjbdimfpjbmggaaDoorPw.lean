/- What a place counts for, as the document reckons it. Nothing of Go. -/
import Derived.Test.YtjbdimfpjbmggaaDoorPp
set_option linter.unusedVariables false
set_option linter.unusedSimpArgs false
namespace Go.Proofs.YtjbdimfpjbmggaaDoor.Gm
theorem inv_mul {c d : Nat} (hc : c < 256) (hd : d < 256) (c0 : c ≠ 0) (d0 : d ≠ 0) : gdiv 1 (gmul c d) = gmul (gdiv 1 c) (gdiv 1 d) := by
  have h0 := gmul_ne0 c0 d0
  refine gmul_cancel (gdiv_lt _ _) (gmul_lt _ _) h0 ?_
  rw [gdiv_mul (by decide) (gmul_lt _ _) h0, ← gmul_assoc, gmul_comm c d, gmul_assoc (gdiv 1 d) d c, gdiv_mul (by decide) hd d0, gmul_comm 1 c, gmul_one hc, gdiv_mul (by decide) hc c0]
def rwN (xs : List Nat) (x i : Nat) : Nat → Nat
  | 0 => 1
  | k + 1 => if k = i then rwN xs x i k else gmul (rwN xs x i k) (gmul (x ^^^ xs.getD k 0) (iv (xs.getD i 0 ^^^ xs.getD k 0)))
theorem rwN_lt (xs : List Nat) (x i k : Nat) : rwN xs x i k < 256 := by
  induction k with
  | zero => exact (by decide : 1 < 256)
  | succ k ih => unfold rwN; split; exact ih; exact gmul_lt _ _
theorem rwN_skip {xs : List Nat} {x i k : Nat} (h : k = i) : rwN xs x i k = rwN xs x i (k + 1) := (if_pos h).symm
theorem rwN_step {xs : List Nat} {x i k : Nat} (h : k ≠ i) : gmul (rwN xs x i k) (gmul (x ^^^ xs.getD k 0) (iv (xs.getD i 0 ^^^ xs.getD k 0))) = rwN xs x i (k + 1) := (if_neg h).symm
theorem rwN_eq {xs : List Nat} (hb : Bl xs) (hd : Di xs) {i x : Nat} (hi : i < xs.length) (hx : x < 256) : ∀ k, k ≤ xs.length → rwN xs x i k = gdiv (upN xs i x k) (upN xs i (xs.getD i 0) k) := by
  intro k; induction k with
  | zero => intro _; exact (by decide : (1 : Nat) = gdiv 1 1)
  | succ k ih =>
    intro hk
    unfold rwN upN
    by_cases h : k = i
    · rw [if_pos h, if_pos h, if_pos h]; exact ih (by omega)
    · rw [if_neg h, if_neg h, if_neg h, ih (by omega)]
      have n1 := upN_ne hd hi (show k ≤ xs.length by omega)
      have n2 : xs.getD i 0 ^^^ xs.getD k 0 ≠ 0 := fun e => hd.ne hi (by omega : k < xs.length) (fun e' => h e'.symm) (x_zero e)
      have b2 := xor_lt (hb.getD i) (hb.getD k)
      rw [gdiv_eq (upN_lt _ _ _ _) (upN_lt _ _ _ _) n1, gdiv_eq (gmul_lt _ _) (gmul_lt _ _) (gmul_ne0 n1 n2), inv_mul (upN_lt _ _ _ _) b2 n1 n2]
      unfold iv; rw [if_neg n2]
      generalize gdiv 1 (upN xs i (xs.getD i 0) k) = p
      generalize gdiv 1 (xs.getD i 0 ^^^ xs.getD k 0) = q
      generalize upN xs i x k = u
      generalize x ^^^ xs.getD k 0 = y
      rw [← gmul_assoc u p, gmul_assoc p y q, gmul_comm p y, ← gmul_assoc y p q, gmul_assoc u y]
theorem rwN_wt {xs : List Nat} (hb : Bl xs) (hd : Di xs) {i x : Nat} (hi : i < xs.length) (hx : x < 256) : rwN xs x i xs.length = wt xs x i := rwN_eq hb hd hi hx _ (Nat.le_refl _)
def wtL (xs : List Nat) (x : Nat) : List Nat := (List.range xs.length).map (wt xs x)
def wtT (xs : List Nat) (x k : Nat) : List Nat := (List.range k).map (wt xs x)
theorem wtL_length (xs : List Nat) (x : Nat) : (wtL xs x).length = xs.length := by simp [wtL]
theorem wtT_length (xs : List Nat) (x k : Nat) : (wtT xs x k).length = k := by simp [wtT]
theorem wtT_snoc (xs : List Nat) (x k : Nat) : wtT xs x k ++ [wt xs x k] = wtT xs x (k + 1) := by unfold wtT; rw [List.range_succ, List.map_append]; rfl
theorem wtL_get {xs : List Nat} {x i : Nat} (h : i < xs.length) : (wtL xs x)[i]? = some (wt xs x i) := by simp [wtL, List.getElem?_map, List.getElem?_range h]
theorem wtL_bl (xs : List Nat) (x : Nat) : Bl (wtL xs x) := fun n hn => by obtain ⟨j, _, rfl⟩ := List.mem_map.1 hn; exact wt_lt _ _ _
end Go.Proofs.YtjbdimfpjbmggaaDoor.Gm
