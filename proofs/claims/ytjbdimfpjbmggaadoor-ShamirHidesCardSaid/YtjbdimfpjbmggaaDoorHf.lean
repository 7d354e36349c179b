/- Draws by which a secret has some parts: all bytes together. -/
import Derived.Test.YtjbdimfpjbmggaaDoorSv
set_option linter.unusedVariables false
set_option linter.unusedSimpArgs false
namespace Go.Proofs.YtjbdimfpjbmggaaDoor
open Go.RowKit Gm
theorem drL_pre {S : List Nat} {M : List Shr} {q j n : Nat} (h : j ≤ n) : ∃ R, drL S M q n = drL S M q j ++ R := by
  induction n with
  | zero => obtain rfl : j = 0 := by omega
            exact ⟨[], by simp⟩
  | succ n ih =>
    rcases Nat.lt_or_ge j (n + 1) with h1 | h1
    · obtain ⟨R, e⟩ := ih (by omega)
      exact ⟨R ++ drB (ixs M) (ysL M n) (S.getD n 0) q, by rw [← drL_succ, e, List.append_assoc]⟩
    · obtain rfl : j = n + 1 := by omega
      exact ⟨[], by simp⟩
theorem drL_chunk {S : List Nat} {M : List Shr} {q j n : Nat} (h : j < n) : ((drL S M q n).drop (j * q)).take q = drB (ixs M) (ysL M j) (S.getD j 0) q := by
  obtain ⟨R, e⟩ := drL_pre (S := S) (M := M) (q := q) (show j + 1 ≤ n from h)
  rw [e, ← drL_succ, List.append_assoc, List.drop_append, List.drop_of_length_le (by rw [drL_length]; exact Nat.le_refl _), List.nil_append, drL_length, Nat.sub_self, List.drop_zero, List.take_append, List.take_of_length_le (by rw [drB_length]; exact Nat.le_refl _), drB_length, Nat.sub_self, List.take_zero, List.append_nil]
/-- The other secret has the same parts there. -/
theorem hides_there {o : List Nat} {M : List Shr} {q : Nat} (hq : M.length = q) (hX : ∀ s ∈ M, s.ix < 256 ∧ s.ix ≠ 0 ∧ s.X.length = o.length ∧ Bl s.X) (hd : Di (ixs M)) (bo : Bl o) {s : Shr} (hs : s ∈ M) : ptX o (drL o M q o.length) q s.ix = s.X := by
  obtain ⟨i, hi, e⟩ := List.getElem_of_mem hs
  have es : M[i]? = some s := List.getElem?_eq_some_iff.2 ⟨hi, e⟩
  have hb : Bl (ixs M) := fun n hn => by obtain ⟨s, hs, rfl⟩ := List.mem_map.1 hn; exact (hX s hs).1
  have h0 : ∀ i, i < (ixs M).length → (ixs M).getD i 0 ≠ 0 := fun i hi => by
    rw [ixs_length] at hi
    obtain ⟨u, eu⟩ : ∃ u, M[i]? = some u := ⟨_, List.getElem?_eq_getElem hi⟩
    rw [getD_some (ixs_get eu)]; exact (hX u (List.mem_of_getElem? eu)).2.1
  have hxi : (ixs M).getD i 0 = s.ix := getD_some (ixs_get es)
  have hln := (hX s hs).2.2.1
  apply List.ext_getElem?
  intro j
  rcases Nat.lt_or_ge j o.length with h | h
  · have hj2 : j < s.X.length := by omega
    have h1 := ptX_getD (d := drL o M q o.length) (q := q) (x := s.ix) h
    have hys : Bl (ysL M j) := fun n hn => by obtain ⟨u, hu, rfl⟩ := List.mem_map.1 hn; exact Bl.getD (hX u hu).2.2.2 j
    have h2 := drB_there (s := o.getD j 0) hb hys hd h0 (bo.getD j) (show i < (ixs M).length by rw [ixs_length]; exact hi)
    have h3 : (ysL M j).getD i 0 = s.X.getD j 0 := getD_some (show (ysL M j)[i]? = some (s.X.getD j 0) by unfold ysL; rw [List.getElem?_map, es]; rfl)
    have h4 : (ptX o (drL o M q o.length) q s.ix).getD j 0 = s.X.getD j 0 := by
      rw [h1]; unfold coef
      rw [drL_chunk h, ← h3, ← h2, hxi, ixs_length, hq]
    rw [List.getElem?_eq_getElem (by rw [ptX_length]; exact h), List.getElem?_eq_getElem hj2]
    rw [getD_eq (by rw [ptX_length]; exact h), getD_eq hj2] at h4
    rw [h4]
  · rw [List.getElem?_eq_none (by rw [ptX_length]; exact h), List.getElem?_eq_none (by omega)]
/-- Back from the parts one comes to the draws that were. -/
theorem hides_back {S D : List Nat} {M : List Shr} {q : Nat} (hq : M.length = q) (hX : ∀ s ∈ M, s.ix < 256 ∧ s.ix ≠ 0 ∧ s.X = ptX S D q s.ix) (hd : Di (ixs M)) (bS : Bl S) (bD : Bl D) (hD : D.length = q * S.length) : drL S M q S.length = D := by
  have hb : Bl (ixs M) := fun n hn => by obtain ⟨s, hs, rfl⟩ := List.mem_map.1 hn; exact (hX s hs).1
  have h0 : ∀ i, i < (ixs M).length → (ixs M).getD i 0 ≠ 0 := fun i hi => by
    rw [ixs_length] at hi
    obtain ⟨u, eu⟩ : ∃ u, M[i]? = some u := ⟨_, List.getElem?_eq_getElem hi⟩
    rw [getD_some (ixs_get eu)]; exact (hX u (List.mem_of_getElem? eu)).2.1
  have ch : ∀ j, j < S.length → drB (ixs M) (ysL M j) (S.getD j 0) q = (D.drop (j * q)).take q := fun j hj => by
    have hf := mul_fit hj hD
    have := drB_back (xs := ixs M) (Xj := ysL M j) (P := (D.drop (j * q)).take q) (s := S.getD j 0) hb hd h0 (fun n hn => bD n (List.mem_of_mem_drop (List.mem_of_mem_take hn))) (by rw [List.length_take, List.length_drop, ixs_length]; omega) (bS.getD j) (fun i hi => by
      rw [ixs_length] at hi
      obtain ⟨u, eu⟩ : ∃ u, M[i]? = some u := ⟨_, List.getElem?_eq_getElem hi⟩
      have h1 := hX u (List.mem_of_getElem? eu)
      rw [getD_some (show (ysL M j)[i]? = some (u.X.getD j 0) by unfold ysL; rw [List.getElem?_map, eu]; rfl), getD_some (ixs_get eu), h1.2.2, ptX_getD hj]; rfl)
    rw [ixs_length, hq] at this; exact this
  have all : ∀ n, n ≤ S.length → drL S M q n = D.take (n * q) := by
    intro n; induction n with
    | zero => intro _; simp [drL]
    | succ n ih => intro hn; rw [← drL_succ, ih (by omega), ch n (by omega), Nat.add_mul, Nat.one_mul, List.take_add]
  rw [all _ (Nat.le_refl _), List.take_of_length_le (by rw [hD, Nat.mul_comm]; exact Nat.le_refl _)]
theorem mod_ne {f n i k : Nat} (h : i < k) (hk : k - i < n) : (f + i) % n ≠ (f + k) % n := fun e => by
  have h1 := Nat.sub_mod_eq_zero_of_mod_eq e.symm
  rw [show f + k - (f + i) = k - i by omega, Nat.mod_eq_of_lt hk] at h1
  omega
theorem row_di {M : List Shr} {fr n q : Nat} (hl : M.length = q) (hq : q ≤ n) (h : ∀ a, a < q → (ixs M).getD a 0 = (fr + a) % n + 1) : Di (ixs M) := fun i j hij hj => by
  rw [ixs_length] at hj
  rw [h i (by omega), h j (by omega)]
  have := mod_ne (f := fr) (n := n) hij (by omega)
  omega
theorem row_step {M : List Shr} {fr n i : Nat} {s : Shr} (hl : M.length = i) (h : ∀ a, a < i → (ixs M).getD a 0 = (fr + a) % n + 1) (hs : s.ix = (fr + i) % n + 1) : ∀ a, a < i + 1 → (ixs (M ++ [s])).getD a 0 = (fr + a) % n + 1 := fun a ha => by
  have e : ixs (M ++ [s]) = ixs M ++ [s.ix] := by unfold ixs; rw [List.map_append]; rfl
  rw [e, List.getD_eq_getElem?_getD]
  rcases Nat.lt_or_ge a i with h1 | h1
  · rw [List.getElem?_append_left (by rw [ixs_length]; omega), ← List.getD_eq_getElem?_getD]; exact h a h1
  · obtain rfl : a = i := by omega
    rw [List.getElem?_append_right (by rw [ixs_length]; omega), ixs_length, hl, Nat.sub_self]; exact hs
theorem Sw.datU {T : TypeId} {low low2 : Nat} {w : World} {b0 base : Nat} {v0 v : Value} {L M : List Shr} {s : Shr} (h : Sw T low w b0 v0 L) (ht : Sw.Top v0 L base) (hk : Sw T low2 w base v M) (hs : s ∈ L) : ∀ u ∈ [s], ∀ x, u.A = some x → low ≤ x.block ∧ x.block < w.heap.size ∧ v.ownBlock ≠ some x.block := fun u hu x hx => by
  rw [List.mem_singleton.1 hu] at hx
  have h1 := h.dat s hs x hx
  have h2 := ht.2 s hs x hx
  exact ⟨h1.1, h1.2.1, fun e => by have := (hk.lt _ e).1; omega⟩
end Go.Proofs.YtjbdimfpjbmggaaDoor
