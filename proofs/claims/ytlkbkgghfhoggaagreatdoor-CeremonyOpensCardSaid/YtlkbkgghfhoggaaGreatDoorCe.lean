/- What the ceremony needs beside: a slice held against nil; drawn bytes cut into keys. -/
import Derived.Test.YtlkbkgghfhoggaaGreatDoorSn
import Derived.Test.YtlkbkgghfhoggaaGreatDoorKs
import Derived.Lib.SliceRun
section
set_option linter.unusedVariables false
set_option linter.unusedSimpArgs false
namespace Go.Proofs.YtlkbkgghfhoggaaGreatDoor
open Go.RowKit Gm
theorem shsC_set {L : List Shr} {i : Nat} (s : Shr) (hi : i < L.length) : shsC (L.set i s) = (shsC L).take (i * 3) ++ shC s ++ (shsC L).drop (i * 3 + 3) := by
  induction L generalizing i with
  | nil => simp at hi
  | cons a L ih =>
    cases i with
    | zero => rfl
    | succ i =>
      show shC a ++ shsC (L.set i s) = (shC a ++ shsC L).take ((i + 1) * 3) ++ shC s ++ (shC a ++ shsC L).drop ((i + 1) * 3 + 3)
      rw [ih (by simpa using hi), show (i + 1) * 3 = (shC a).length + i * 3 by show _ = 3 + _; omega, List.take_length_add_append, show (shC a).length + i * 3 + 3 = (shC a).length + (i * 3 + 3) by omega, List.drop_length_add_append]
      simp [List.append_assoc]
theorem take_mid {C s : List Value} {a n : Nat} (h : a + s.length ≤ n) (hn : n ≤ C.length) : (C.take a ++ s ++ C.drop (a + s.length)).take n = (C.take n).take a ++ s ++ (C.take n).drop (a + s.length) := by
  rw [List.append_assoc, List.take_append, List.take_of_length_le (l := C.take a) (by rw [List.length_take]; omega), List.take_append, List.take_of_length_le (l := s) (by rw [List.length_take]; omega), List.take_take, Nat.min_eq_left (by omega : a ≤ n), List.drop_take, List.append_assoc, List.length_take]
  congr 3
  omega
section
variable {T : TypeId} {low : Nat} {w w0 : World} {base b0 p k c lim n : Nat} {v0 : Value} {A : Option Addr} {L : List Shr} {s : Shr}
theorem Sw.ofEmpty (h : Bk w p [] T) (hb : base ≤ p) : Sw T low w base (.slice (some ⟨p, 0, none⟩) ([] : List Shr).length 0) [] :=
  ⟨⟨rfl, .inr ⟨p, 0, #[], rfl, hb, h, Nat.le_refl _, Nat.zero_le _, rfl, rfl⟩⟩, fun _ h => (by cases h), fun _ h => (by cases h)⟩
theorem Sw.blk (h : Sw T low w base (.slice A n c) L) (hx : 0 < L.length) : ∃ p, A = some ⟨p, 0, none⟩ ∧ base ≤ p ∧ p < w.heap.size := by
  rcases h.own.2 with ⟨e, hn⟩ | ⟨g, cap, cur, e, hb, hh, _⟩
  · omega
  · injection e with e1 e2 e3
    exact ⟨g, e1, hb, lt_of_block hh⟩
theorem Sw.onF {w' : World} {q : Nat} (h : Sw T low w base (.slice (some ⟨p, 0, none⟩) k c) L) (kk : Kp (On q) w w') (hn : p ≠ q) (hq : q < low) : Sw T low w' base (.slice (some ⟨p, 0, none⟩) k c) L :=
  h.kept kk (fun b hb hc => hn ((Option.some.inj hb).trans hc)) (fun s hs x hx hc => by have := (h.dat s hs x hx).1; have : x.block = q := hc; omega)
end
section
variable {P : Program} {n : Nat} {l : List (Nat × Value)} {w : World} {d? : Option Tmp} {ty : TypeId} {pos : String} {af : Array Edge} {g? : Option (Nat × Bool)} {x y : Operand} {t e T : TypeId} {p k c low base m len : Nat} {kd : IntKind} {i : Int} {L : List Shr} {s : Shr}
theorem pu_indexAddrG (hu : P.underlying t = some (.slice e)) (hs : sizeB P e 3 = true) (hx : lk l x = some (.slice (some ⟨p, 0, none⟩) len c)) (hy : lk l y = some (.int kd i)) (hi : i = (m : Int)) (hm : m < len) :
    Pu P (.indexAddr t x y) l w (.pointer (some ((adr (some ⟨p, 0, none⟩)).add (m * 3)))) := pu_indexAddrS (w := w) (q := ⟨p, 0, none⟩) (c := c) hu hs hx hy hi hm
end
/-! ### swaps -/
/-! ### any parts of a secret make it, and each other part -/
theorem part_of {L : List Shr} {S D : List Nat} {q ge n : Nat} (hk : L.map Shr.key = ptK S D q ge n) {s : Shr} (hs : s ∈ L) : s.gen = ge ∧ (1 ≤ s.ix ∧ s.ix ≤ n) ∧ s.X = ptX S D q s.ix := by
  have : s.key ∈ ptK S D q ge n := hk ▸ List.mem_map_of_mem hs
  obtain ⟨k, hk1, hk2⟩ := List.mem_map.1 this
  have hk3 := List.mem_range.1 hk1
  simp only [Shr.key, Prod.mk.injEq] at hk2
  obtain ⟨h1, h2, h3⟩ := hk2
  exact ⟨h2.symm, by omega, by rw [← h3, h1]⟩
theorem di_of {L : List Shr} {S D : List Nat} {q ge n : Nat} (hk : L.map Shr.key = ptK S D q ge n) : Di (ixs L) := fun i j hij hj => by
  rw [ixs_length] at hj
  have hn : L.length = n := (key_len hk).trans (ptK_length ..)
  have v : ∀ k, k < L.length → (ixs L).getD k 0 = k + 1 := fun k hk' => by
    obtain ⟨s, es⟩ : ∃ s, L[k]? = some s := ⟨_, List.getElem?_eq_getElem hk'⟩
    rw [List.getD_eq_getElem?_getD, ixs_get es]
    exact (key_at hk es (ptK_get (by omega))).1
  rw [v i (by omega), v j hj]; omega
theorem di_take {X : List Nat} (h : Di X) (n : Nat) : Di (X.take n) := fun i j hij hj => by
  rw [List.length_take] at hj
  have g : ∀ k, k < n → (X.take n).getD k 0 = X.getD k 0 := fun k hk => by rw [List.getD_eq_getElem?_getD, List.getElem?_take, if_pos hk, ← List.getD_eq_getElem?_getD]
  rw [g i (by omega), g j (by omega)]
  exact h i j hij (by omega)
theorem ixs_take (M : List Shr) (n : Nat) : ixs (M.take n) = (ixs M).take n := by unfold ixs; rw [List.map_take]
theorem good_sub {L M : List Shr} {S D : List Nat} {q ge n : Nat} (hk : L.map Shr.key = ptK S D q ge n) (hsub : ∀ s ∈ M, s ∈ L) (hdi : Di (ixs M)) (h1 : 1 ≤ S.length) (h2 : S.length ≤ 64) (m : Nat) : Good (M.take m) ge S.length :=
  have hs : ∀ s ∈ M.take m, s ∈ L := fun s h => hsub s (List.mem_of_mem_take h)
  ⟨fun s h => (part_of hk (hs s h)).1, fun s h => by have := (part_of hk (hs s h)).2.1.1; omega, fun s h => by rw [(part_of hk (hs s h)).2.2, ptX_length], by rw [ixs_take]; exact di_take hdi m, h1, h2⟩
theorem thX_all {M : List Shr} {S D : List Nat} {q x : Nat} (hM : ∀ s ∈ M, s.ix < 256 ∧ s.X = ptX S D q s.ix) (hdi : Di (ixs M)) (hlen : q + 1 ≤ M.length) (hD : D.length = q * S.length) (bS : Bl S) (bD : Bl D) (hx : x < 256) : thX M S.length x = ptX S D q x := by
  unfold thX ptX arr
  refine List.map_congr_left fun j hj => ?_
  have hj := List.mem_range.1 hj
  have hb : Bl (ixs M) := fun n hn => by obtain ⟨s, hs, rfl⟩ := List.mem_map.1 hn; exact (hM s hs).1
  have hfit := mul_fit hj hD
  refine alone (c := coef S D q j) (coef_bl bS bD q j) hb hdi ?_ (fun k hk => ?_) (fun n hn => ?_) hx
  · unfold coef; rw [List.length_cons, List.length_take, List.length_drop, ixs_length]; omega
  · rw [ixs_length] at hk
    obtain ⟨s, es⟩ : ∃ s, M[k]? = some s := ⟨_, List.getElem?_eq_getElem hk⟩
    have h1 := hM s (List.mem_of_getElem? es)
    have h2 : (ysL M j)[k]? = some (s.X.getD j 0) := by unfold ysL; rw [List.getElem?_map, es]; rfl
    rw [getD_some h2, getD_some (ixs_get es)]
    rw [h1.2, ptX_getD hj]
  · obtain ⟨s, hs, rfl⟩ := List.mem_map.1 hn
    refine Bl.getD ?_ j
    rw [(hM s hs).2]; exact ptX_bl bS bD q _
theorem ptX_zero {S D : List Nat} {q : Nat} : ptX S D q 0 = S := by
  have e : ∀ j, hE (coef S D q j) 0 = S.getD j 0 := fun j => by unfold coef; rw [hE_cons, gmul_zero, Nat.zero_xor]
  apply List.ext_getElem?
  intro i
  rcases Nat.lt_or_ge i S.length with h | h
  · rw [List.getElem?_eq_getElem h, List.getElem?_eq_getElem (by rw [ptX_length]; exact h)]
    congr 1
    have h1 := ptX_getD (d := D) (q := q) (x := 0) h
    rw [e, List.getD_eq_getElem?_getD, List.getD_eq_getElem?_getD, List.getElem?_eq_getElem h, List.getElem?_eq_getElem (by rw [ptX_length]; exact h)] at h1
    exact h1
  · rw [List.getElem?_eq_none h, List.getElem?_eq_none (by rw [ptX_length]; exact h)]
end Go.Proofs.YtlkbkgghfhoggaaGreatDoor
end
section
set_option linter.unusedVariables false
set_option linter.unusedSimpArgs false
namespace Go.Proofs.YtlkbkgghfhoggaaGreatDoor
open Go.RowKit Gm
theorem pu_eqlsn {P : Program} {l : List (Nat × Value)} {w : World} {x : Operand} {t t' e : TypeId} {A : Option Addr} {m c : Nat} (hu : P.underlying t = some (.slice e)) (hx : lk l x = some (.slice A m c)) (hA : A.isNone = false) : Pu P (.binOp .eql t x (.const (.slice none 0 0)) t') l w (.bool false) := fun n A' ha d ty pos af g => by
  have h2 : A'.eval (.const (.slice none 0 0)) = .slice none 0 0 := rfl
  unfold execOp
  simp only [ha.eval hx, h2]
  simp [eqGuard, Go.Lib.run_eql_slice_nil w t e A m c 0 0 hu, hA]
theorem lo_copyG {l : List (Nat × Value)} {w : World} {x y : Operand} {m m' c c' n : Nat} {d? g?} {ty pos af} {A : Option Addr} {X Y : List Nat} {t' : TypeId} {p o k : Nat} (hB : Bk w p (u8s X) t') (hx : lk l x = some (.slice (some ⟨p, o, none⟩) k c)) (hy : lk l y = some (.slice A m c')) (hS : Bs w A Y) (hY : Y.length = m)
    (hm : m' = min m k) (ho : o + m' ≤ X.length) :
    Lo Tryz.prog ⟨d?, .call ⟨.builtin .copy, #[x, y], #[22, 22]⟩, ty, pos, af, g?⟩ n l w (fun v w' => v = .int .i64 ((m' : Nat) : Int) ∧ Kp (On p) w w' ∧ Bk w' p (u8s (X.take o ++ Y.take m' ++ X.drop (o + m'))) t') := by
  rcases Nat.eq_zero_or_pos Y.length with h0 | hp
  · have hm0 : m' = 0 := by omega
    subst hm0
    have r := run_copy_none (P := Tryz.prog) w 22 22 ty 5 (some ⟨p, o, none⟩) A k c m c' Tryz.underlying22 (by kernel_rfl) (show min m k = 0 from hm.symm)
    refine lo_run (v := .int .i64 ((0 : Nat) : Int)) (w' := w) (fun a ha => ?_) ⟨rfl, Kp.refl _ _, by simpa using hB⟩
    unfold execOp
    simp only [resolve, invoke, builtin, Sem.run_bind, Sem.run_pure, Result.andThen_ok, List.map_toArray, List.map_cons, List.map_nil, ha.eval hx, ha.eval hy, r]
    rfl
  · exact lo_copy hB hx hy hS hY hp hm ho
theorem some_of {w : World} {A : Option Addr} {l : List Nat} (h : Bs w A l) (hp : 0 < l.length) : A.isNone = false := by
  obtain ⟨_, _, e, _⟩ := h.cell (List.length_pos_iff.1 hp)
  rw [e]; rfl
/-- Drawn bytes are three keys and what else is drawn. -/
theorem cut_draws {D : List Nat} {n : Nat} (h : D.length = 96 + n) : ∃ U R Y X : List Nat, D = U ++ (R ++ (Y ++ X)) ∧ U.length = 32 ∧ R.length = 32 ∧ Y.length = 32 ∧ X.length = n :=
  ⟨D.take 32, (D.drop 32).take 32, (D.drop 64).take 32, D.drop 96, by
    have h1 : D.drop 64 = (D.drop 32).drop 32 := by rw [List.drop_drop]
    have h2 : D.drop 96 = ((D.drop 32).drop 32).drop 32 := by rw [List.drop_drop, List.drop_drop]
    rw [h1, h2, List.take_append_drop, List.take_append_drop, List.take_append_drop],
    by rw [List.length_take]; omega, by rw [List.length_take, List.length_drop]; omega, by rw [List.length_take, List.length_drop]; omega, by rw [List.length_drop]; omega⟩
theorem cut_two {D : List Nat} {n : Nat} (h : D.length = 32 + n) : ∃ U X : List Nat, D = U ++ X ∧ U.length = 32 ∧ X.length = n :=
  ⟨D.take 32, D.drop 32, (List.take_append_drop _ _).symm, by rw [List.length_take]; omega, by rw [List.length_drop]; omega⟩
theorem dr_take {U T : List Nat} {n : Nat} (h : U.length = n) : (U ++ T).take n = U := List.take_left' h
theorem dr_drop {U T : List Nat} {n : Nat} (h : U.length = n) : (U ++ T).drop n = T := List.drop_left' h
/-- The parts of a secret of 32 bytes, K of them, in whatever order, open to it. -/
theorem opens_parts {L M : List Shr} {U X : List Nat} {q ge n : Nat} (hK : L.map Shr.key = ptK U X q ge n) (hsub : ∀ s ∈ M, s ∈ L) (hdi : Di (ixs M)) (hM : q + 1 ≤ M.length) (hn : n ≤ 255) (hU : U.length = 32) (hX : X.length = q * 32) (bU : Bl U) (bX : Bl X) : Good (M.take (q + 1)) ge 32 ∧ thX (M.take (q + 1)) 32 0 = U := by
  have h1 := good_sub hK hsub hdi (by omega) (by omega) (q + 1)
  have h2 := thX_all (M := M.take (q + 1)) (S := U) (D := X) (q := q) (x := 0) (fun s hs => by have h := part_of hK (hsub s (List.mem_of_mem_take hs)); exact ⟨by omega, h.2.2⟩) (by rw [ixs_take]; exact di_take hdi _) (by rw [List.length_take]; omega) (by rw [hU]; exact hX) bU bX (by decide)
  rw [hU] at h1 h2
  exact ⟨h1, h2.trans ptX_zero⟩
theorem opens_own {L : List Shr} {U X : List Nat} {q ge n : Nat} (hK : L.map Shr.key = ptK U X q ge n) (hM : q + 1 ≤ n) (hn : n ≤ 255) (hU : U.length = 32) (hX : X.length = q * 32) (bU : Bl U) (bX : Bl X) : Good (L.take (q + 1)) ge 32 ∧ thX (L.take (q + 1)) 32 0 = U :=
  opens_parts hK (fun _ h => h) (di_of hK) (by rw [(key_len hK).trans (ptK_length ..)]; exact hM) hn hU hX bU bX
/-- Drawn bytes, so many: others are noughts. -/
def fullB (l : List Nat) (n : Nat) : List Nat := l.take n ++ List.replicate (n - l.length) 0
theorem fullB_length (l : List Nat) (n : Nat) : (fullB l n).length = n := by unfold fullB; rw [List.length_append, List.length_take, List.length_replicate]; omega
theorem fullB_by {l : List Nat} (n : Nat) (h : ∀ v ∈ l, v < 256) : By n (fullB l n) := ⟨fullB_length l n, fun v hv => (List.mem_append.1 hv).elim (fun h1 => h v (List.mem_of_mem_take h1)) (fun h1 => by rw [(List.mem_replicate.1 h1).2]; decide)⟩
theorem fullB_copy (l : List Nat) (n : Nat) : (List.replicate n 0).take 0 ++ l.take (min n l.length) ++ (List.replicate n 0).drop (0 + min n l.length) = fullB l n := by
  unfold fullB
  rw [List.take_zero, List.nil_append, Nat.zero_add, List.drop_replicate]
  have h1 : l.take (min n l.length) = l.take n := by
    rcases Nat.le_total n l.length with h | h
    · rw [Nat.min_eq_left h]
    · rw [Nat.min_eq_right h, List.take_length, List.take_of_length_le h]
  rw [h1]; congr 2; omega
end Go.Proofs.YtlkbkgghfhoggaaGreatDoor
end
