/- Parts of a secret: what they are. Nothing of Go. -/
import Derived.Test.YtjbdimfpjbmggaaDoorPw
set_option linter.unusedVariables false
set_option linter.unusedSimpArgs false
namespace Go.Proofs.YtjbdimfpjbmggaaDoor.Gm
/-- A byte's polynomial: the byte, and q drawn bytes. -/
def coef (l d : List Nat) (q j : Nat) : List Nat := l.getD j 0 :: (d.drop (j * q)).take q
theorem coef_bl {l d : List Nat} (hl : Bl l) (hd : Bl d) (q j : Nat) : Bl (coef l d q j) := Bl.cons (hl.getD j) (fun n hn => hd n (List.mem_of_mem_drop (List.mem_of_mem_take hn)))
def ptX (l d : List Nat) (q x : Nat) : List Nat := (List.range l.length).map fun j => hE (coef l d q j) x
def ptT (l d : List Nat) (q x i : Nat) : List Nat := (List.range i).map fun j => hE (coef l d q j) x
theorem ptT_length (l d : List Nat) (q x i : Nat) : (ptT l d q x i).length = i := by simp [ptT]
theorem ptX_length (l d : List Nat) (q x : Nat) : (ptX l d q x).length = l.length := by simp [ptX]
theorem ptT_snoc {l d : List Nat} {q x i n : Nat} (h : l[i]? = some n) : ptT l d q x i ++ [hE (n :: (d.drop (i * q)).take q) x] = ptT l d q x (i + 1) := by
  unfold ptT; rw [List.range_succ, List.map_append]
  show _ ++ [hE _ x] = _ ++ [hE (coef l d q i) x]
  unfold coef; rw [List.getD_eq_getElem?_getD, h]; rfl
theorem ptT_snoc' {l d : List Nat} {q x i n k : Nat} (hk : k = q) (h : l[i]? = some n) : ptT l d q x i ++ [hE (n :: (d.drop (i * q)).take k) x] = ptT l d q x (i + 1) := by subst hk; exact ptT_snoc h
theorem ptX_getD {l d : List Nat} {q x j : Nat} (h : j < l.length) : (ptX l d q x).getD j 0 = hE (coef l d q j) x := by simp [ptX, List.getD_eq_getElem?_getD, List.getElem?_map, List.getElem?_range h]
theorem ptX_bl {l d : List Nat} (hl : Bl l) (hd : Bl d) (q x : Nat) : Bl (ptX l d q x) := fun n hn => by obtain ⟨j, _, rfl⟩ := List.mem_map.1 hn; exact hE_lt (coef_bl hl hd q j) _
/-- All parts: places from 1 on. -/
def ptK (l d : List Nat) (q ge i : Nat) : List (Nat × Nat × List Nat) := (List.range i).map fun k => (k + 1, ge, ptX l d q (k + 1))
theorem ptK_length (l d : List Nat) (q ge i : Nat) : (ptK l d q ge i).length = i := by simp [ptK]
theorem ptK_snoc (l d : List Nat) (q ge i : Nat) : ptK l d q ge i ++ [(i + 1, ge, ptX l d q (i + 1))] = ptK l d q ge (i + 1) := by unfold ptK; rw [List.range_succ, List.map_append]; rfl
theorem ptK_get {l d : List Nat} {q ge i k : Nat} (h : k < i) : (ptK l d q ge i)[k]? = some (k + 1, ge, ptX l d q (k + 1)) := by simp [ptK, List.getElem?_map, List.getElem?_range h]
theorem mul_fit {j n q d : Nat} (hj : j < n) (hd : d = q * n) : j * q + q ≤ d := by
  subst hd
  have : (j + 1) * q ≤ n * q := Nat.mul_le_mul_right q hj
  rw [Nat.add_mul, Nat.one_mul] at this
  rw [Nat.mul_comm q n]; exact this
theorem mul_most {q n d : Nat} (hd : d = q * n) (hq : q ≤ 254) (hn : n ≤ 64) : d ≤ 16256 := by
  subst hd; exact Nat.le_trans (Nat.mul_le_mul hq hn) (by decide)
theorem cw_eq {cc Y : List Nat} {q n : Nat} (hc : cc.length = q + 1) : (cc.set 0 n).take 1 ++ Y ++ (cc.set 0 n).drop (1 + q) = n :: Y := by
  cases cc with
  | nil => simp at hc
  | cons a t =>
    rw [List.set_cons_zero, List.drop_eq_nil_of_le (by rw [List.length_cons] at *; omega), List.append_nil]; rfl
theorem coef_by {d : List Nat} {q j n : Nat} (hn : n < 256) (hd : Bl d) (h : j * q + q ≤ d.length) : (n :: (d.drop (j * q)).take q).length = q + 1 ∧ ∀ v ∈ (n :: (d.drop (j * q)).take q), v < 256 :=
  ⟨by rw [List.length_cons, List.length_take, List.length_drop]; omega, Bl.cons hn (fun v hv => hd v (List.mem_of_mem_drop (List.mem_of_mem_take hv)))⟩
theorem coef_snoc {d : List Nat} {q j i a n : Nat} (h : d[j * q + i]? = some n) : (a :: (d.drop (j * q)).take i) ++ [n] = a :: (d.drop (j * q)).take (i + 1) := by
  rw [List.take_add_one, List.getElem?_drop, h]; rfl
/-! ### sums -/
def sumL (a b : List Nat) : List Nat := (List.range a.length).map fun j => a.getD j 0 ^^^ b.getD j 0
theorem sumL_length (a b : List Nat) : (sumL a b).length = a.length := by simp [sumL]
theorem sumL_get {a b : List Nat} {j : Nat} (h : j < a.length) : (sumL a b)[j]? = some (a.getD j 0 ^^^ b.getD j 0) := by simp [sumL, List.getElem?_map, List.getElem?_range h]
theorem sumL_getD {a b : List Nat} (hl : b.length = a.length) (j : Nat) : (sumL a b).getD j 0 = a.getD j 0 ^^^ b.getD j 0 := by
  rcases Nat.lt_or_ge j a.length with h | h
  · rw [List.getD_eq_getElem?_getD, sumL_get h]; rfl
  · rw [getD_ge (by rw [sumL_length]; exact h), getD_ge h, getD_ge (by omega)]; rfl
theorem sumL_bl {a b : List Nat} (ha : Bl a) (hb : Bl b) : Bl (sumL a b) := fun n hn => by obtain ⟨j, _, rfl⟩ := List.mem_map.1 hn; exact xor_lt (ha.getD j) (hb.getD j)
theorem eq_addL : ∀ {l m k : List Nat}, m.length = l.length → k.length = l.length → (∀ j, j < l.length → k.getD j 0 = l.getD j 0 ^^^ m.getD j 0) → k = addL l m
  | [], [], [], _, _, _ => rfl
  | [], [], _ :: _, _, h, _ => by simp at h
  | [], _ :: _, _, h, _, _ => by simp at h
  | _ :: _, [], _, h, _, _ => by simp at h
  | _ :: _, _ :: _, [], _, h, _ => by simp at h
  | a :: l, b :: m, c :: k, h1, h2, h3 => by
    have h0 := h3 0 (by simp)
    have ht := eq_addL (l := l) (m := m) (k := k) (by simpa using h1) (by simpa using h2) (fun j hj => h3 (j + 1) (by simpa using hj))
    show c :: k = (a ^^^ b) :: addL l m
    rw [← ht, show c = a ^^^ b from h0]
theorem cut_getD {d : List Nat} {o q j : Nat} (h : j < q) : ((d.drop o).take q).getD j 0 = d.getD (o + j) 0 := by
  rw [List.getD_eq_getElem?_getD, List.getElem?_take, if_pos h, List.getElem?_drop, ← List.getD_eq_getElem?_getD]
theorem coef_sum {s o d f : List Nat} {q j : Nat} (ho : o.length = s.length) (hd : d.length = q * s.length) (hf : f.length = d.length) (hj : j < s.length) : coef (sumL s o) (sumL d f) q j = addL (coef s d q j) (coef o f q j) := by
  have hfit := mul_fit hj hd
  unfold coef
  rw [sumL_getD ho]
  show _ :: _ = (s.getD j 0 ^^^ o.getD j 0) :: addL _ _
  congr 1
  refine eq_addL ?_ ?_ (fun i hi => ?_)
  · rw [List.length_take, List.length_take, List.length_drop, List.length_drop]; omega
  · rw [List.length_take, List.length_take, List.length_drop, List.length_drop, sumL_length]
  · have hq : i < q := by rw [List.length_take] at hi; omega
    rw [cut_getD hq, cut_getD hq, cut_getD hq, sumL_getD hf]
theorem ptX_sum {s o d f : List Nat} {q x : Nat} (hs : Bl s) (ho2 : Bl o) (hd2 : Bl d) (hf2 : Bl f) (ho : o.length = s.length) (hd : d.length = q * s.length) (hf : f.length = d.length) : ptX (sumL s o) (sumL d f) q x = sumL (ptX s d q x) (ptX o f q x) := by
  unfold ptX
  show _ = (List.range ((List.range s.length).map _).length).map _
  rw [List.length_map, List.length_range, sumL_length]
  refine List.map_congr_left fun j hj => ?_
  have hj := List.mem_range.1 hj
  rw [coef_sum ho hd hf hj, hE_add (coef_bl hs hd2 q j) (coef_bl ho2 hf2 q j)]
  have e1 : ((List.range s.length).map fun j => hE (coef s d q j) x).getD j 0 = hE (coef s d q j) x := by simp [List.getD_eq_getElem?_getD, List.getElem?_map, List.getElem?_range hj]
  have e2 : ((List.range o.length).map fun j => hE (coef o f q j) x).getD j 0 = hE (coef o f q j) x := by simp [List.getD_eq_getElem?_getD, List.getElem?_map, List.getElem?_range (show j < o.length by omega)]
  rw [e1, e2]
end Go.Proofs.YtjbdimfpjbmggaaDoor.Gm
