/- Parts of a secret: what they are. Nothing of Go. -/
import Derived.Test.YtjbdimfpjbmggaaDoorPw
set_option linter.unusedVariables false
set_option linter.unusedSimpArgs false
namespace Go.Proofs.YtjbdimfpjbmggaaDoor.Gm
/-- A byte's polynomial: the byte, and q drawn bytes. -/
def coef (l d : List Nat) (q j : Nat) : List Nat := l.getD j 0 :: (d.drop (j * q)).take q
theorem coef_bl {l d : List Nat} (hl : Bl l) (hd : Bl d) (q j : Nat) : Bl (coef l d q j) := Bl.cons (hl.getD j) (fun n hn => hd n (List.mem_of_mem_drop (List.mem_of_mem_take hn)))
def ptX (l d : List Nat) (q x : Nat) : List Nat := (List.range l.length).map fun j => hE (coef l d q j) x
def ptT (l d : List Nat) (q x i : Nat) : List Nat := (List.range i).map fun j => hE (coef l d q j) x
theorem ptT_length (l d : List Nat) (q x i : Nat) : (ptT l d q x i).length = i := by simp [ptT]
theorem ptX_length (l d : List Nat) (q x : Nat) : (ptX l d q x).length = l.length := by simp [ptX]
theorem ptT_snoc {l d : List Nat} {q x i n : Nat} (h : l[i]? = some n) : ptT l d q x i ++ [hE (n :: (d.drop (i * q)).take q) x] = ptT l d q x (i + 1) := by
  unfold ptT; rw [List.range_succ, List.map_append]
  show _ ++ [hE _ x] = _ ++ [hE (coef l d q i) x]
  unfold coef; rw [List.getD_eq_getElem?_getD, h]; rfl
theorem ptT_snoc' {l d : List Nat} {q x i n k : Nat} (hk : k = q) (h : l[i]? = some n) : ptT l d q x i ++ [hE (n :: (d.drop (i * q)).take k) x] = ptT l d q x (i + 1) := by subst hk; exact ptT_snoc h
theorem ptX_getD {l d : List Nat} {q x j : Nat} (h : j < l.length) : (ptX l d q x).getD j 0 = hE (coef l d q j) x := by simp [ptX, List.getD_eq_getElem?_getD, List.getElem?_map, List.getElem?_range h]
theorem ptX_bl {l d : List Nat} (hl : Bl l) (hd : Bl d) (q x : Nat) : Bl (ptX l d q x) := fun n hn => by obtain ⟨j, _, rfl⟩ := List.mem_map.1 hn; exact hE_lt (coef_bl hl hd q j) _
/-- All parts: places from 1 on. -/
def ptK (l d : List Nat) (q ge i : Nat) : List (Nat × Nat × List Nat) := (List.range i).map fun k => (k + 1, ge, ptX l d q (k + 1))
theorem ptK_length (l d : List Nat) (q ge i : Nat) : (ptK l d q ge i).length = i := by simp [ptK]
theorem ptK_snoc (l d : List Nat) (q ge i : Nat) : ptK l d q ge i ++ [(i + 1, ge, ptX l d q (i + 1))] = ptK l d q ge (i + 1) := by unfold ptK; rw [List.range_succ, List.map_append]; rfl
theorem ptK_get {l d : List Nat} {q ge i k : Nat} (h : k < i) : (ptK l d q ge i)[k]? = some (k + 1, ge, ptX l d q (k + 1)) := by simp [ptK, List.getElem?_map, List.getElem?_range h]
theorem mul_fit {j n q d : Nat} (hj : j < n) (hd : d = q * n) : j * q + q ≤ d := by
  subst hd
  have : (j + 1) * q ≤ n * q := Nat.mul_le_mul_right q hj
  rw [Nat.add_mul, Nat.one_mul] at this
  rw [Nat.mul_comm q n]; exact this
theorem mul_most {q n d : Nat} (hd : d = q * n) (hq : q ≤ 254) (hn : n ≤ 64) : d ≤ 16256 := by
  subst hd; exact Nat.le_trans (Nat.mul_le_mul hq hn) (by decide)
theorem cw_eq {cc Y : List Nat} {q n : Nat} (hc : cc.length = q + 1) : (cc.set 0 n).take 1 ++ Y ++ (cc.set 0 n).drop (1 + q) = n :: Y := by
  cases cc with
  | nil => simp at hc
  | cons a t =>
    rw [List.set_cons_zero, List.drop_eq_nil_of_le (by rw [List.length_cons] at *; omega), List.append_nil]; rfl
theorem coef_by {d : List Nat} {q j n : Nat} (hn : n < 256) (hd : Bl d) (h : j * q + q ≤ d.length) : (n :: (d.drop (j * q)).take q).length = q + 1 ∧ ∀ v ∈ (n :: (d.drop (j * q)).take q), v < 256 :=
  ⟨by rw [List.length_cons, List.length_take, List.length_drop]; omega, Bl.cons hn (fun v hv => hd v (List.mem_of_mem_drop (List.mem_of_mem_take hv)))⟩
theorem coef_snoc {d : List Nat} {q j i a n : Nat} (h : d[j * q + i]? = some n) : (a :: (d.drop (j * q)).take i) ++ [n] = a :: (d.drop (j * q)).take (i + 1) := by
  rw [List.take_add_one, List.getElem?_drop, h]; rfl
end Go.Proofs.YtjbdimfpjbmggaaDoor.Gm
