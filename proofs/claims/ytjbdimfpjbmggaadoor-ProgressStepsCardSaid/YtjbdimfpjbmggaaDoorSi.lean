/- Parts put elsewhere: slices of parts that share their bytes, swaps. -/
import Derived.Test.YtjbdimfpjbmggaaDoorSn
set_option linter.unusedVariables false
set_option linter.unusedSimpArgs false
namespace Go.Proofs.YtjbdimfpjbmggaaDoor
open Go.RowKit Gm
theorem shsC_set {L : List Shr} {i : Nat} (s : Shr) (hi : i < L.length) : shsC (L.set i s) = (shsC L).take (i * 3) ++ shC s ++ (shsC L).drop (i * 3 + 3) := by
  induction L generalizing i with
  | nil => simp at hi
  | cons a L ih =>
    cases i with
    | zero => rfl
    | succ i =>
      show shC a ++ shsC (L.set i s) = (shC a ++ shsC L).take ((i + 1) * 3) ++ shC s ++ (shC a ++ shsC L).drop ((i + 1) * 3 + 3)
      rw [ih (by simpa using hi), show (i + 1) * 3 = (shC a).length + i * 3 by show _ = 3 + _; omega, List.take_length_add_append, show (shC a).length + i * 3 + 3 = (shC a).length + (i * 3 + 3) by omega, List.drop_length_add_append]
      simp [List.append_assoc]
theorem take_mid {C s : List Value} {a n : Nat} (h : a + s.length ≤ n) (hn : n ≤ C.length) : (C.take a ++ s ++ C.drop (a + s.length)).take n = (C.take n).take a ++ s ++ (C.take n).drop (a + s.length) := by
  rw [List.append_assoc, List.take_append, List.take_of_length_le (l := C.take a) (by rw [List.length_take]; omega), List.take_append, List.take_of_length_le (l := s) (by rw [List.length_take]; omega), List.take_take, Nat.min_eq_left (by omega : a ≤ n), List.drop_take, List.append_assoc, List.length_take]
  congr 3
  omega
section
variable {T : TypeId} {low : Nat} {w w0 : World} {base b0 p k c lim n : Nat} {v0 : Value} {A : Option Addr} {L : List Shr} {s : Shr}
theorem Sw.ofEmpty (h : Bk w p [] T) (hb : base ≤ p) : Sw T low w base (.slice (some ⟨p, 0, none⟩) ([] : List Shr).length 0) [] :=
  ⟨⟨rfl, .inr ⟨p, 0, #[], rfl, hb, h, Nat.le_refl _, Nat.zero_le _, rfl, rfl⟩⟩, fun _ h => (by cases h), fun _ h => (by cases h)⟩
theorem Sw.datNew (h : Sw T low w0 b0 v0 L) (hp : w0.heap.size ≤ p) (hw : w0.heap.size ≤ w.heap.size) : ∀ s ∈ L, ∀ x, s.A = some x → low ≤ x.block ∧ x.block < w.heap.size ∧ (Value.slice (some ⟨p, 0, none⟩) k c).ownBlock ≠ some x.block := fun s hs x hx => by
  have h1 := h.dat s hs x hx
  exact ⟨h1.1, Nat.lt_of_lt_of_le h1.2.1 hw, fun e => by have : p = x.block := Option.some.inj e; omega⟩
theorem Sw.datT (h : Sw T low w b0 v0 L) (ht : Sw.Top v0 L lim) (hp : lim ≤ p) (hs : s ∈ L) : ∀ x, s.A = some x → low ≤ x.block ∧ x.block < w.heap.size ∧ (Value.slice (some ⟨p, 0, none⟩) k c).ownBlock ≠ some x.block := fun x hx => by
  have h1 := h.dat s hs x hx
  have h2 := ht.2 s hs x hx
  exact ⟨h1.1, h1.2.1, fun e => by have : p = x.block := Option.some.inj e; omega⟩
theorem Sw.blk (h : Sw T low w base (.slice A n c) L) (hx : 0 < L.length) : ∃ p, A = some ⟨p, 0, none⟩ ∧ base ≤ p ∧ p < w.heap.size := by
  rcases h.own.2 with ⟨e, hn⟩ | ⟨g, cap, cur, e, hb, hh, _⟩
  · omega
  · injection e with e1 e2 e3
    exact ⟨g, e1, hb, lt_of_block hh⟩
theorem Sw.onF {w' : World} {q : Nat} (h : Sw T low w base (.slice (some ⟨p, 0, none⟩) k c) L) (kk : Kp (On q) w w') (hn : p ≠ q) (hq : q < low) : Sw T low w' base (.slice (some ⟨p, 0, none⟩) k c) L :=
  h.kept kk (fun b hb hc => hn ((Option.some.inj hb).trans hc)) (fun s hs x hx hc => by have := (h.dat s hs x hx).1; have : x.block = q := hc; omega)
end
section
variable {P : Program} {n : Nat} {l : List (Nat × Value)} {w : World} {d? : Option Tmp} {ty : TypeId} {pos : String} {af : Array Edge} {g? : Option (Nat × Bool)} {x y : Operand} {t e T : TypeId} {p k c low base m len : Nat} {kd : IntKind} {i : Int} {L : List Shr} {s : Shr}
theorem pu_indexAddrG (hu : P.underlying t = some (.slice e)) (hs : sizeB P e 3 = true) (hx : lk l x = some (.slice (some ⟨p, 0, none⟩) len c)) (hy : lk l y = some (.int kd i)) (hi : i = (m : Int)) (hm : m < len) :
    Pu P (.indexAddr t x y) l w (.pointer (some ((adr (some ⟨p, 0, none⟩)).add (m * 3)))) := pu_indexAddrS (w := w) (q := ⟨p, 0, none⟩) (c := c) hu hs hx hy hi hm
/-- A part put into a slice of parts of the call's own. -/
theorem lo_storeSw (h : Sw T low w base (.slice (some ⟨p, 0, none⟩) k c) L) (hs : sizeB P t 3 = true) (hx : lk l x = some (.pointer (some ((adr (some ⟨p, 0, none⟩)).add (m * 3))))) (hy : lk l y = some (.agg (shC s).toArray)) (hm : m < L.length) (hok : s.ok w)
    (hd : ∀ x, s.A = some x → low ≤ x.block ∧ x.block < w.heap.size ∧ (Value.slice (some ⟨p, 0, none⟩) k c).ownBlock ≠ some x.block) :
    Lo P ⟨d?, .store t x y, ty, pos, af, g?⟩ n l w (fun _ w' => Sw T low w' base (.slice (some ⟨p, 0, none⟩) k c) (L.set m s) ∧ Kp (On p) w w') := by
  have hx' : lk l x = some (.pointer (some ⟨p, 0 + m * 3, none⟩)) := by rw [hx]; show some (Value.pointer (some ((⟨p, 0, none⟩ : Addr).add (m * 3)))) = _; rw [add_at]
  have hlt := h.lt
  rcases h.own.2 with ⟨e, hn⟩ | ⟨g, cap, cur, e, hb, hh, hn, hcm, hcs, ht⟩
  · cases e
  · injection e with e1 e2 e3
    have e1' := Option.some.inj e1
    injection e1' with e4
    subst e4 e2 e3
    have hB : Bk w p cur.toList T := by unfold Bk; simpa using hh
    have hlen : cur.toList.length = c * 3 := by simpa using hcs
    refine (lo_storeCs (C := shC s) hB hs hx' hy rfl (fun u hu => by simp only [shC, List.mem_cons, List.not_mem_nil, or_false] at hu; rcases hu with rfl | rfl | rfl <;> rfl) (by rw [hlen]; show 0 + m * 3 + 3 ≤ _; omega)).mono fun _ w' hw => ?_
    have hkp := hw.1
    have hne : ∀ s' ∈ L, ∀ x, s'.A = some x → ¬ On p x.block := fun s' hs' x hx hc => (h.dat s' hs' x hx).2.2 (by show some p = some x.block; rw [show x.block = p from hc])
    have hall : ∀ s' ∈ L.set m s, s'.ok w ∧ ∀ x, s'.A = some x → low ≤ x.block ∧ x.block < w.heap.size ∧ (Value.slice (some ⟨p, 0, none⟩) L.length c).ownBlock ≠ some x.block := fun s' hs' => (List.mem_or_eq_of_mem_set hs').elim (fun h1 => ⟨h.ok s' h1, h.dat s' h1⟩) (fun h1 => by rw [h1]; exact ⟨hok, hd⟩)
    refine ⟨⟨⟨by rw [shsC_length], .inr ⟨p, c, _, by rw [List.length_set], hb, hw.2, by rw [List.length_set]; exact hn, hcm, ?_, ?_⟩⟩, fun s' hs' => (hall s' hs').1.kept hkp (fun _ x hx hc => ((hall s' hs').2 x hx).2.2 (by show some p = some x.block; rw [show x.block = p from hc])), fun s' hs' x hx => ⟨((hall s' hs').2 x hx).1, Nat.lt_of_lt_of_le ((hall s' hs').2 x hx).2.1 hkp.size, ((hall s' hs').2 x hx).2.2⟩⟩, hkp⟩
    · have h3 : (shC s).length = 3 := rfl
      simp only [List.size_toArray, List.length_append, List.length_take, List.length_drop, h3, hlen]; omega
    · rw [List.length_set, shsC_set s hm]
      have h3 : (shC s).length = 3 := rfl
      have ht' : cur.toList.take (L.length * 3) = shsC L := ht
      show ((cur.toList.take (0 + m * 3) ++ shC s ++ cur.toList.drop (0 + m * 3 + (shC s).length)).take (L.length * 3)) = _
      rw [← ht', Nat.zero_add, take_mid (by rw [h3]; omega) (by rw [hlen]; omega), h3]
end
/-! ### swaps -/
theorem swap_di {X : List Nat} {a b xa xb : Nat} (h : Di X) (ha : X[a]? = some xa) (hb : X[b]? = some xb) : Di ((X.set a xb).set b xa) := fun i j hij hj => by
  have la := (List.getElem?_eq_some_iff.1 ha).1
  have lb := (List.getElem?_eq_some_iff.1 hb).1
  rw [List.length_set, List.length_set] at hj
  have val : ∀ k, k < X.length → ((X.set a xb).set b xa).getD k 0 = X.getD (if k = b then a else if k = a then b else k) 0 := fun k hk => by
    rw [List.getD_eq_getElem?_getD, List.getElem?_set, List.getElem?_set, List.length_set, List.getD_eq_getElem?_getD]
    by_cases h1 : b = k
    · subst h1; rw [if_pos rfl, if_pos hk, if_pos rfl, ha]
    · rw [if_neg h1, if_neg (show ¬ k = b from fun e => h1 e.symm)]
      by_cases h2 : a = k
      · subst h2; rw [if_pos rfl, if_pos hk, if_pos rfl, hb]
      · rw [if_neg h2, if_neg (show ¬ k = a from fun e => h2 e.symm)]
  rw [val i (by omega), val j hj]
  refine h.ne ?_ ?_ ?_
  · split; exact la; split; exact lb; omega
  · split; exact la; split; exact lb; exact hj
  · split <;> split <;> (try split) <;> (try split) <;> omega
theorem ixs_set (M : List Shr) (i : Nat) (s : Shr) : ixs (M.set i s) = (ixs M).set i s.ix := by unfold ixs; rw [List.map_set]
theorem mem_set2 {L M : List Shr} {a b : Nat} {s t : Shr} (h : ∀ u ∈ M, u ∈ L) (hs : s ∈ L) (ht : t ∈ L) : ∀ u ∈ (M.set a s).set b t, u ∈ L := fun u hu =>
  (List.mem_or_eq_of_mem_set hu).elim (fun h1 => (List.mem_or_eq_of_mem_set h1).elim (h u) (fun e => e ▸ hs)) (fun e => e ▸ ht)
/-! ### any parts of a secret make it, and each other part -/
theorem part_of {L : List Shr} {S D : List Nat} {q ge n : Nat} (hk : L.map Shr.key = ptK S D q ge n) {s : Shr} (hs : s ∈ L) : s.gen = ge ∧ (1 ≤ s.ix ∧ s.ix ≤ n) ∧ s.X = ptX S D q s.ix := by
  have : s.key ∈ ptK S D q ge n := hk ▸ List.mem_map_of_mem hs
  obtain ⟨k, hk1, hk2⟩ := List.mem_map.1 this
  have hk3 := List.mem_range.1 hk1
  simp only [Shr.key, Prod.mk.injEq] at hk2
  obtain ⟨h1, h2, h3⟩ := hk2
  exact ⟨h2.symm, by omega, by rw [← h3, h1]⟩
theorem di_of {L : List Shr} {S D : List Nat} {q ge n : Nat} (hk : L.map Shr.key = ptK S D q ge n) : Di (ixs L) := fun i j hij hj => by
  rw [ixs_length] at hj
  have hn : L.length = n := (key_len hk).trans (ptK_length ..)
  have v : ∀ k, k < L.length → (ixs L).getD k 0 = k + 1 := fun k hk' => by
    obtain ⟨s, es⟩ : ∃ s, L[k]? = some s := ⟨_, List.getElem?_eq_getElem hk'⟩
    rw [List.getD_eq_getElem?_getD, ixs_get es]
    exact (key_at hk es (ptK_get (by omega))).1
  rw [v i (by omega), v j hj]; omega
theorem di_take {X : List Nat} (h : Di X) (n : Nat) : Di (X.take n) := fun i j hij hj => by
  rw [List.length_take] at hj
  have g : ∀ k, k < n → (X.take n).getD k 0 = X.getD k 0 := fun k hk => by rw [List.getD_eq_getElem?_getD, List.getElem?_take, if_pos hk, ← List.getD_eq_getElem?_getD]
  rw [g i (by omega), g j (by omega)]
  exact h i j hij (by omega)
theorem ixs_take (M : List Shr) (n : Nat) : ixs (M.take n) = (ixs M).take n := by unfold ixs; rw [List.map_take]
theorem good_sub {L M : List Shr} {S D : List Nat} {q ge n : Nat} (hk : L.map Shr.key = ptK S D q ge n) (hsub : ∀ s ∈ M, s ∈ L) (hdi : Di (ixs M)) (h1 : 1 ≤ S.length) (h2 : S.length ≤ 64) (m : Nat) : Good (M.take m) ge S.length :=
  have hs : ∀ s ∈ M.take m, s ∈ L := fun s h => hsub s (List.mem_of_mem_take h)
  ⟨fun s h => (part_of hk (hs s h)).1, fun s h => by have := (part_of hk (hs s h)).2.1.1; omega, fun s h => by rw [(part_of hk (hs s h)).2.2, ptX_length], by rw [ixs_take]; exact di_take hdi m, h1, h2⟩
theorem thX_all {M : List Shr} {S D : List Nat} {q x : Nat} (hM : ∀ s ∈ M, s.ix < 256 ∧ s.X = ptX S D q s.ix) (hdi : Di (ixs M)) (hlen : q + 1 ≤ M.length) (hD : D.length = q * S.length) (bS : Bl S) (bD : Bl D) (hx : x < 256) : thX M S.length x = ptX S D q x := by
  unfold thX ptX arr
  refine List.map_congr_left fun j hj => ?_
  have hj := List.mem_range.1 hj
  have hb : Bl (ixs M) := fun n hn => by obtain ⟨s, hs, rfl⟩ := List.mem_map.1 hn; exact (hM s hs).1
  have hfit := mul_fit hj hD
  refine alone (c := coef S D q j) (coef_bl bS bD q j) hb hdi ?_ (fun k hk => ?_) (fun n hn => ?_) hx
  · unfold coef; rw [List.length_cons, List.length_take, List.length_drop, ixs_length]; omega
  · rw [ixs_length] at hk
    obtain ⟨s, es⟩ : ∃ s, M[k]? = some s := ⟨_, List.getElem?_eq_getElem hk⟩
    have h1 := hM s (List.mem_of_getElem? es)
    have h2 : (ysL M j)[k]? = some (s.X.getD j 0) := by unfold ysL; rw [List.getElem?_map, es]; rfl
    rw [getD_some h2, getD_some (ixs_get es)]
    rw [h1.2, ptX_getD hj]
  · obtain ⟨s, hs, rfl⟩ := List.mem_map.1 hn
    refine Bl.getD ?_ j
    rw [(hM s hs).2]; exact ptX_bl bS bD q _
theorem ptX_zero {S D : List Nat} {q : Nat} : ptX S D q 0 = S := by
  have e : ∀ j, hE (coef S D q j) 0 = S.getD j 0 := fun j => by unfold coef; rw [hE_cons, gmul_zero, Nat.zero_xor]
  apply List.ext_getElem?
  intro i
  rcases Nat.lt_or_ge i S.length with h | h
  · rw [List.getElem?_eq_getElem h, List.getElem?_eq_getElem (by rw [ptX_length]; exact h)]
    congr 1
    have h1 := ptX_getD (d := D) (q := q) (x := 0) h
    rw [e, List.getD_eq_getElem?_getD, List.getD_eq_getElem?_getD, List.getElem?_eq_getElem h, List.getElem?_eq_getElem (by rw [ptX_length]; exact h)] at h1
    exact h1
  · rw [List.getElem?_eq_none h, List.getElem?_eq_none (by rw [ptX_length]; exact h)]
end Go.Proofs.YtjbdimfpjbmggaaDoor
