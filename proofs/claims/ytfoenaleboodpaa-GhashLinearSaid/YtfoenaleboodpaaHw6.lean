/- Walks: what is sure of layer 10, and GhashField: printed by wip/gen/gen10c.py. -/
import Derived.Test.YtfoenaleboodpaaHw5
import Derived.Deep.DeepCutAuto
set_option linter.unusedVariables false
set_option linter.unusedSimpArgs false
namespace Go.Proofs.Ytfoenaleboodpaa
open Go.RowKit
theorem size_u8 : ∀ w, (sizeOf 5).run Try.prog w = .ok 1 w := by intro w; simp [go_sem]
theorem guard_block : Try.prog.eqGuardType Try.prog.depth 23 = false := by kernel_rfl
theorem info_arr : (Try.prog.info? 22).map (·.size) = some 16 := by kernel_rfl


set_option maxRecDepth 100000 in
set_option maxHeartbeats 2000000 in
theorem c_sure (w : World) :
    Calls Try.prog 12 #[] w fun e w' => e = .returned (.bool true) ∧ Kp No w w' := by
  go_enter Try.func12, Try.ntmps12
  go_wp2_with fail
  have HI := Lib.hid info_block
  have HU := Lib.hid Try.underlying23
  have HE := Lib.hid Try.underlying5
  have HZ := Lib.hid size_u8
  have HG := Lib.hid guard_block
  refine wp_region_held_drew (S := (fun W => W.heap[w.heap.size]? = some (.cells (u8s oneB).toArray 23 (0, 0)) ∧ W.heap[w.heap.size + 1]? = some (.cells (u8s sureX).toArray 23 (0, 0)) ∧ Kp No w W)) (by kernel_rfl) ⟨old_at _ (new_at w _), new_is _ (by simp), (((Kp.refl No w).alloc _).alloc _).drew⟩ (fun hHeld => ?_)
  refine wpAnyH_take (i := 0) (oi := _) (v := .agg (u8s sureX).toArray) rfl (by kernel_rfl) (by kernel_rfl) (by kernel_rfl) (fun _ _ _ h => h) ?hy0_1 (by assumption) ?hz0_1
  case hy0_1 => exact yields_row 23 _ (by rfl) (by rfl) (w.heap.size + 1) (by rfl) (u8s sureX).toArray _ _ HU.out (by rfl) (row_info HI.out (by_of _ (by decide)).1) (by intro W h; exact h.2.1)
  try simp only [List.getElem_toArray, List.getElem_cons_zero, List.getElem_cons_succ, Act.put, List.setIfInBounds_toArray, List.set_cons_zero, List.set_cons_succ]
  refine wpAnyH_take (i := 1) (oi := _) (v := .agg (u8s oneB).toArray) rfl (by kernel_rfl) (by kernel_rfl) (by kernel_rfl) (fun _ _ _ h => h) ?hy1_2 (by assumption) ?hz1_2
  case hy1_2 => exact yields_row 23 _ (by rfl) (by rfl) (w.heap.size) (by rfl) (u8s oneB).toArray _ _ HU.out (by rfl) (row_info HI.out (by_of _ (by decide)).1) (by intro W h; exact h.1)
  try simp only [List.getElem_toArray, List.getElem_cons_zero, List.getElem_cons_succ, Act.put, List.setIfInBounds_toArray, List.set_cons_zero, List.set_cons_succ]
  refine wpAnyH_take (i := 3) (oi := _) (v := .agg (u8s sureX).toArray) rfl (by kernel_rfl) (by kernel_rfl) (by kernel_rfl) (fun _ _ _ h => h) ?hy3_3 (by assumption) ?hz3_3
  case hy3_3 => exact yields_row 23 _ (by rfl) (by rfl) (w.heap.size + 1) (by rfl) (u8s sureX).toArray _ _ HU.out (by rfl) (row_info HI.out (by_of _ (by decide)).1) (by intro W h; exact h.2.1)
  try simp only [List.getElem_toArray, List.getElem_cons_zero, List.getElem_cons_succ, Act.put, List.setIfInBounds_toArray, List.set_cons_zero, List.set_cons_succ]
  refine wpAnyH_ready (rs := [2]) (by kernel_rfl) (by simp) ?_
  refine AllReadyH.cons (i := 2) (o := _) rfl (fun K hK => ?_) AllReadyH.nil
  go_simp; refine (c_mul (by_of _ (by decide)) (by_of _ (by decide)) _).mono ?_; rintro e w1 ⟨rfl, k1⟩; go_simp
  refine hK.out _ _ ⟨k1.blk hHeld.1 (fun h => h), k1.blk hHeld.2.1 (fun h => h), hHeld.2.2.then_ k1⟩ (fun hHeld => ?_)
  clear hK K
  try simp only [List.getElem_toArray, List.getElem_cons_zero, List.getElem_cons_succ, Act.put, List.setIfInBounds_toArray, List.set_cons_zero, List.set_cons_succ]
  refine wpAnyH_take (i := 4) (oi := _) (v := .bool true) rfl (by kernel_rfl) (by kernel_rfl) (by kernel_rfl) (fun _ _ _ h => h) ?hy4_4 (by assumption) ?hz4_4
  case hy4_4 => exact yields_eql 23 5 _ 16 _ _ (by rfl) (by rfl) (mulB sureX oneB) sureX (by rfl) (by rfl) HU.out HE.out HZ.out HG.out (mulB_by _ _) (by_of _ (by decide)) true (decide_eq_true sure_1)
  try simp only [List.getElem_toArray, List.getElem_cons_zero, List.getElem_cons_succ, Act.put, List.setIfInBounds_toArray, List.set_cons_zero, List.set_cons_succ]
  refine wpAnyH_take (i := 5) (oi := _) (v := ?v5_5) rfl (by kernel_rfl) (by kernel_rfl) (by kernel_rfl) (fun _ _ _ h => h) (Or.inl ⟨by rfl, ?hy5_5⟩) (by assumption) ?hz5_5
  case hy5_5 => (intro w hSw; (try dsimp only at hSw); go_simp; try with_reducible rfl)
  try simp only [List.getElem_toArray, List.getElem_cons_zero, List.getElem_cons_succ, Act.put, List.setIfInBounds_toArray, List.set_cons_zero, List.set_cons_succ]
  refine wpAnyH_take (i := 6) (oi := _) (v := .agg (u8s oneB).toArray) rfl (by kernel_rfl) (by kernel_rfl) (by kernel_rfl) (fun _ _ _ h => h) ?hy6_6 (by assumption) ?hz6_6
  case hy6_6 => exact yields_row 23 _ (by rfl) (by rfl) (w.heap.size) (by rfl) (u8s oneB).toArray _ _ HU.out (by rfl) (row_info HI.out (by_of _ (by decide)).1) (by intro W h; exact h.1)
  try simp only [List.getElem_toArray, List.getElem_cons_zero, List.getElem_cons_succ, Act.put, List.setIfInBounds_toArray, List.set_cons_zero, List.set_cons_succ]
  refine wpAnyH_take (i := 7) (oi := _) (v := .agg (u8s sureX).toArray) rfl (by kernel_rfl) (by kernel_rfl) (by kernel_rfl) (fun _ _ _ h => h) ?hy7_7 (by assumption) ?hz7_7
  case hy7_7 => exact yields_row 23 _ (by rfl) (by rfl) (w.heap.size + 1) (by rfl) (u8s sureX).toArray _ _ HU.out (by rfl) (row_info HI.out (by_of _ (by decide)).1) (by intro W h; exact h.2.1)
  try simp only [List.getElem_toArray, List.getElem_cons_zero, List.getElem_cons_succ, Act.put, List.setIfInBounds_toArray, List.set_cons_zero, List.set_cons_succ]
  refine wpAnyH_take (i := 9) (oi := _) (v := .agg (u8s sureX).toArray) rfl (by kernel_rfl) (by kernel_rfl) (by kernel_rfl) (fun _ _ _ h => h) ?hy9_8 (by assumption) ?hz9_8
  case hy9_8 => exact yields_row 23 _ (by rfl) (by rfl) (w.heap.size + 1) (by rfl) (u8s sureX).toArray _ _ HU.out (by rfl) (row_info HI.out (by_of _ (by decide)).1) (by intro W h; exact h.2.1)
  try simp only [List.getElem_toArray, List.getElem_cons_zero, List.getElem_cons_succ, Act.put, List.setIfInBounds_toArray, List.set_cons_zero, List.set_cons_succ]
  refine wpAnyH_ready (rs := [8]) (by kernel_rfl) (by simp) ?_
  refine AllReadyH.cons (i := 8) (o := _) rfl (fun K hK => ?_) AllReadyH.nil
  go_simp; refine (c_mul (by_of _ (by decide)) (by_of _ (by decide)) _).mono ?_; rintro e w2 ⟨rfl, k2⟩; go_simp
  refine hK.out _ _ ⟨k2.blk hHeld.1 (fun h => h), k2.blk hHeld.2.1 (fun h => h), hHeld.2.2.then_ k2⟩ (fun hHeld => ?_)
  clear hK K
  try simp only [List.getElem_toArray, List.getElem_cons_zero, List.getElem_cons_succ, Act.put, List.setIfInBounds_toArray, List.set_cons_zero, List.set_cons_succ]
  refine wpAnyH_take (i := 10) (oi := _) (v := .bool true) rfl (by kernel_rfl) (by kernel_rfl) (by kernel_rfl) (fun _ _ _ h => h) ?hy10_9 (by assumption) ?hz10_9
  case hy10_9 => exact yields_eql 23 5 _ 16 _ _ (by rfl) (by rfl) (mulB oneB sureX) sureX (by rfl) (by rfl) HU.out HE.out HZ.out HG.out (mulB_by _ _) (by_of _ (by decide)) true (decide_eq_true sure_2)
  try simp only [List.getElem_toArray, List.getElem_cons_zero, List.getElem_cons_succ, Act.put, List.setIfInBounds_toArray, List.set_cons_zero, List.set_cons_succ]
  refine wpAnyH_take (i := 11) (oi := _) (v := ?v11_10) rfl (by kernel_rfl) (by kernel_rfl) (by kernel_rfl) (fun _ _ _ h => h) (Or.inl ⟨by rfl, ?hy11_10⟩) (by assumption) ?hz11_10
  case hy11_10 => (intro w hSw; (try dsimp only at hSw); go_simp; try with_reducible rfl)
  try simp only [List.getElem_toArray, List.getElem_cons_zero, List.getElem_cons_succ, Act.put, List.setIfInBounds_toArray, List.set_cons_zero, List.set_cons_succ]
  refine wpAnyH_take (i := 12) (oi := _) (v := ?v12_11) rfl (by kernel_rfl) (by kernel_rfl) (by kernel_rfl) (fun _ _ _ h => h) (Or.inl ⟨by rfl, ?hy12_11⟩) (by assumption) ?hz12_11
  case hy12_11 => (intro w hSw; (try dsimp only at hSw); go_simp; try with_reducible rfl)
  try simp only [List.getElem_toArray, List.getElem_cons_zero, List.getElem_cons_succ, Act.put, List.setIfInBounds_toArray, List.set_cons_zero, List.set_cons_succ]
  refine wpAnyH_take (i := 13) (oi := _) (v := .agg (u8s sureX).toArray) rfl (by kernel_rfl) (by kernel_rfl) (by kernel_rfl) (fun _ _ _ h => h) ?hy13_12 (by assumption) ?hz13_12
  case hy13_12 => exact yields_row 23 _ (by rfl) (by rfl) (w.heap.size + 1) (by rfl) (u8s sureX).toArray _ _ HU.out (by rfl) (row_info HI.out (by_of _ (by decide)).1) (by intro W h; exact h.2.1)
  try simp only [List.getElem_toArray, List.getElem_cons_zero, List.getElem_cons_succ, Act.put, List.setIfInBounds_toArray, List.set_cons_zero, List.set_cons_succ]
  refine wpAnyH_take (i := 14) (oi := _) (v := .agg (u8s sureX).toArray) rfl (by kernel_rfl) (by kernel_rfl) (by kernel_rfl) (fun _ _ _ h => h) ?hy14_13 (by assumption) ?hz14_13
  case hy14_13 => exact yields_row 23 _ (by rfl) (by rfl) (w.heap.size + 1) (by rfl) (u8s sureX).toArray _ _ HU.out (by rfl) (row_info HI.out (by_of _ (by decide)).1) (by intro W h; exact h.2.1)
  try simp only [List.getElem_toArray, List.getElem_cons_zero, List.getElem_cons_succ, Act.put, List.setIfInBounds_toArray, List.set_cons_zero, List.set_cons_succ]
  refine wpAnyH_take (i := 16) (oi := _) (v := .agg (u8s zeroB).toArray) rfl (by kernel_rfl) (by kernel_rfl) (by kernel_rfl) (fun _ _ _ h => h) ?hy16_14 (by assumption) ?hz16_14
  case hy16_14 => exact (by refine .inl ⟨by rfl, ?_⟩; intro W _; go_simp; rfl)
  try simp only [List.getElem_toArray, List.getElem_cons_zero, List.getElem_cons_succ, Act.put, List.setIfInBounds_toArray, List.set_cons_zero, List.set_cons_succ]
  refine wpAnyH_ready (rs := [15]) (by kernel_rfl) (by simp) ?_
  refine AllReadyH.cons (i := 15) (o := _) rfl (fun K hK => ?_) AllReadyH.nil
  go_simp; refine (c_add (by_of _ (by decide)) (by_of _ (by decide)) _).mono ?_; rintro e w3 ⟨rfl, k3⟩; go_simp
  refine hK.out _ _ ⟨k3.blk hHeld.1 (fun h => h), k3.blk hHeld.2.1 (fun h => h), hHeld.2.2.then_ k3⟩ (fun hHeld => ?_)
  clear hK K
  try simp only [List.getElem_toArray, List.getElem_cons_zero, List.getElem_cons_succ, Act.put, List.setIfInBounds_toArray, List.set_cons_zero, List.set_cons_succ]
  refine wpAnyH_take (i := 17) (oi := _) (v := .bool true) rfl (by kernel_rfl) (by kernel_rfl) (by kernel_rfl) (fun _ _ _ h => h) ?hy17_15 (by assumption) ?hz17_15
  case hy17_15 => exact yields_eql 23 5 _ 16 _ _ (by rfl) (by rfl) (addB sureX sureX) zeroB (by rfl) (by rfl) HU.out HE.out HZ.out HG.out (addB_by _ _) (by_of _ (by decide)) true (decide_eq_true (addB_self _))
  try simp only [List.getElem_toArray, List.getElem_cons_zero, List.getElem_cons_succ, Act.put, List.setIfInBounds_toArray, List.set_cons_zero, List.set_cons_succ]
  refine wpAnyH_take (i := 18) (oi := _) (v := ?v18_16) rfl (by kernel_rfl) (by kernel_rfl) (by kernel_rfl) (fun _ _ _ h => h) (Or.inl ⟨by rfl, ?hy18_16⟩) (by assumption) ?hz18_16
  case hy18_16 => (intro w hSw; (try dsimp only at hSw); go_simp; try with_reducible rfl)
  try simp only [List.getElem_toArray, List.getElem_cons_zero, List.getElem_cons_succ, Act.put, List.setIfInBounds_toArray, List.set_cons_zero, List.set_cons_succ]
  refine wpAnyH_take (i := 19) (oi := _) (v := ?v19_17) rfl (by kernel_rfl) (by kernel_rfl) (by kernel_rfl) (fun _ _ _ h => h) (Or.inl ⟨by rfl, ?hy19_17⟩) (by assumption) ?hz19_17
  case hy19_17 => (intro w hSw; (try dsimp only at hSw); go_simp; try with_reducible rfl)
  try simp only [List.getElem_toArray, List.getElem_cons_zero, List.getElem_cons_succ, Act.put, List.setIfInBounds_toArray, List.set_cons_zero, List.set_cons_succ]
  refine wpAnyH_take (i := 20) (oi := _) (v := .agg (u8s sureP).toArray) rfl (by kernel_rfl) (by kernel_rfl) (by kernel_rfl) (fun _ _ _ h => h) ?hy20_18 (by assumption) ?hz20_18
  case hy20_18 => exact (by refine .inl ⟨by rfl, ?_⟩; intro W _; go_simp; rfl)
  try simp only [List.getElem_toArray, List.getElem_cons_zero, List.getElem_cons_succ, Act.put, List.setIfInBounds_toArray, List.set_cons_zero, List.set_cons_succ]
  refine wpAnyH_take (i := 21) (oi := _) (v := .agg (u8s sureQ).toArray) rfl (by kernel_rfl) (by kernel_rfl) (by kernel_rfl) (fun _ _ _ h => h) ?hy21_19 (by assumption) ?hz21_19
  case hy21_19 => exact (by refine .inl ⟨by rfl, ?_⟩; intro W _; go_simp; rfl)
  try simp only [List.getElem_toArray, List.getElem_cons_zero, List.getElem_cons_succ, Act.put, List.setIfInBounds_toArray, List.set_cons_zero, List.set_cons_succ]
  refine wpAnyH_take (i := 23) (oi := _) (v := .agg (u8s sureR).toArray) rfl (by kernel_rfl) (by kernel_rfl) (by kernel_rfl) (fun _ _ _ h => h) ?hy23_20 (by assumption) ?hz23_20
  case hy23_20 => exact (by refine .inl ⟨by rfl, ?_⟩; intro W _; go_simp; rfl)
  try simp only [List.getElem_toArray, List.getElem_cons_zero, List.getElem_cons_succ, Act.put, List.setIfInBounds_toArray, List.set_cons_zero, List.set_cons_succ]
  refine wpAnyH_ready (rs := [22]) (by kernel_rfl) (by simp) ?_
  refine AllReadyH.cons (i := 22) (o := _) rfl (fun K hK => ?_) AllReadyH.nil
  go_simp; refine (c_mul (by_of _ (by decide)) (by_of _ (by decide)) _).mono ?_; rintro e w4 ⟨rfl, k4⟩; go_simp
  refine hK.out _ _ ⟨k4.blk hHeld.1 (fun h => h), k4.blk hHeld.2.1 (fun h => h), hHeld.2.2.then_ k4⟩ (fun hHeld => ?_)
  clear hK K
  try simp only [List.getElem_toArray, List.getElem_cons_zero, List.getElem_cons_succ, Act.put, List.setIfInBounds_toArray, List.set_cons_zero, List.set_cons_succ]
  refine wpAnyH_take (i := 24) (oi := _) (v := .bool true) rfl (by kernel_rfl) (by kernel_rfl) (by kernel_rfl) (fun _ _ _ h => h) ?hy24_21 (by assumption) ?hz24_21
  case hy24_21 => exact yields_eql 23 5 _ 16 _ _ (by rfl) (by rfl) (mulB sureP sureQ) sureR (by rfl) (by rfl) HU.out HE.out HZ.out HG.out (mulB_by _ _) (by_of _ (by decide)) true (decide_eq_true sure_4)
  try simp only [List.getElem_toArray, List.getElem_cons_zero, List.getElem_cons_succ, Act.put, List.setIfInBounds_toArray, List.set_cons_zero, List.set_cons_succ]
  refine wpAnyH_take (i := 25) (oi := _) (v := ?v25_22) rfl (by kernel_rfl) (by kernel_rfl) (by kernel_rfl) (fun _ _ _ h => h) (Or.inl ⟨by rfl, ?hy25_22⟩) (by assumption) ?hz25_22
  case hy25_22 => (intro w hSw; (try dsimp only at hSw); go_simp; try with_reducible rfl)
  try simp only [List.getElem_toArray, List.getElem_cons_zero, List.getElem_cons_succ, Act.put, List.setIfInBounds_toArray, List.set_cons_zero, List.set_cons_succ]
  refine wpAnyH_take (i := 26) (oi := _) (v := ?v26_23) rfl (by kernel_rfl) (by kernel_rfl) (by kernel_rfl) (fun _ _ _ h => h) (Or.inl ⟨by rfl, ?hy26_23⟩) (by assumption) ?hz26_23
  case hy26_23 => (intro w hSw; (try dsimp only at hSw); go_simp; try with_reducible rfl)
  try simp only [List.getElem_toArray, List.getElem_cons_zero, List.getElem_cons_succ, Act.put, List.setIfInBounds_toArray, List.set_cons_zero, List.set_cons_succ]
  refine wpAnyH_done (by kernel_rfl) ?_ _
  go_wp2_with fail
  go_ret
  exact ⟨rfl, hHeld.2.2⟩

set_option maxRecDepth 100000 in
set_option maxHeartbeats 4000000 in
theorem ghashField_ (x y z : List Nat) (bx : By 16 x) (by_ : By 16 y) (bz : By 16 z) (w : World) :
    Calls Try.prog 3 #[.agg (u8s x).toArray, .agg (u8s y).toArray, .agg (u8s z).toArray] w fun e w' => e = .returned (.bool true) ∧ Kp No w w' := by
  have HI := Lib.hid info_block
  have HU := Lib.hid Try.underlying23
  have HE := Lib.hid Try.underlying5
  have HZ := Lib.hid size_u8
  have HG := Lib.hid guard_block
  have BX := Lib.hid bx
  have BY := Lib.hid by_
  have BZ := Lib.hid bz
  have HA := Lib.hid info_arr
  have HD := Lib.hid Try.underlying22
  obtain ⟨C, hC⟩ : ∃ C, C = (u8s x).toArray := ⟨_, rfl⟩
  obtain ⟨D, hD⟩ : ∃ D, D = (u8s y).toArray := ⟨_, rfl⟩
  obtain ⟨E, hE⟩ : ∃ E, E = (u8s z).toArray := ⟨_, rfl⟩
  rw [← hC, ← hD, ← hE]
  have SC : C.size = 16 := by rw [hC, u8s_row, bx.1]
  have SD : D.size = 16 := by rw [hD, u8s_row, by_.1]
  have SE : E.size = 16 := by rw [hE, u8s_row, bz.1]
  clear bx by_ bz
  go_enter Try.func3, Try.ntmps3
  go_upto_region 1 with (fail)
  subst hC hD hE
  clear SC SD SE
  go_cut [7, 8, 9] (fun s7 s8 s9 wr => ∃ p q r : Nat, s7 = .pointer (some ⟨p, 0, none⟩) ∧ s8 = .pointer (some ⟨q, 0, none⟩) ∧ s9 = .pointer (some ⟨r, 0, none⟩) ∧ wr.heap[p]? = some (.cells (u8s x).toArray 23 (0, 0)) ∧ wr.heap[q]? = some (.cells (u8s y).toArray 23 (0, 0)) ∧ wr.heap[r]? = some (.cells (u8s z).toArray 23 (0, 0)) ∧ Kp No w wr)
  case first =>
    obtain ⟨wc, e⟩ : ∃ W, W = ((w.alloc (.cells (u8s x).toArray 22)).alloc (.cells (u8s y).toArray 22)).alloc (.cells (u8s z).toArray 22) := ⟨_, rfl⟩
    rw [← e]
    have HP : wc.heap[w.heap.size]? = some (.cells (u8s x).toArray 22 (0, 0)) := by rw [e]; exact old_at _ (old_at _ (new_at w _))
    have HQ : wc.heap[w.heap.size + 1]? = some (.cells (u8s y).toArray 22 (0, 0)) := by rw [e]; exact old_at _ (new_is _ (by simp))
    have HR : wc.heap[w.heap.size + 2]? = some (.cells (u8s z).toArray 22 (0, 0)) := by rw [e]; exact new_is _ (by simp)
    have HK : Kp No w wc := by rw [e]; exact (((Kp.refl No w).alloc _).alloc _).alloc _
    clear e
    refine wp_region_held_drew (S := (fun W => W.heap[w.heap.size]? = some (.cells (u8s x).toArray 22 (0, 0)) ∧ W.heap[w.heap.size + 1]? = some (.cells (u8s y).toArray 22 (0, 0)) ∧ W.heap[w.heap.size + 2]? = some (.cells (u8s z).toArray 22 (0, 0)) ∧ Kp No w W)) (by kernel_rfl) ⟨HP, HQ, HR, HK.drew⟩ (fun hHeld => ?_)
    clear HP HQ HR HK
    generalize wc.drew = v0 at hHeld ⊢
    have y0 := lt_of_block (hHeld.1)
    have y1 := lt_of_block (hHeld.2.1)
    have y2 := lt_of_block (hHeld.2.2.1)
    have yk := (hHeld.2.2.2).size
    refine wpAnyH_take (i := 0) (oi := _) (v := .agg (u8s x).toArray) rfl (by kernel_rfl) (by kernel_rfl) (by kernel_rfl) (fun _ _ _ h => h) ?hy0_48 (by assumption) ?hz0_48
    case hy0_48 => exact yields_row 22 _ (by rfl) (by rfl) (w.heap.size) (by rfl) (u8s x).toArray _ _ HD.out (by rfl) (row_info HA.out (BX.out).1) (by intro W h; exact h.1)
    try simp only [List.getElem_toArray, List.getElem_cons_zero, List.getElem_cons_succ, Act.put, List.setIfInBounds_toArray, List.set_cons_zero, List.set_cons_succ]
    refine wpAnyH_take (i := 1) (oi := _) (v := .agg (u8s y).toArray) rfl (by kernel_rfl) (by kernel_rfl) (by kernel_rfl) (fun _ _ _ h => h) ?hy1_49 (by assumption) ?hz1_49
    case hy1_49 => exact yields_row 22 _ (by rfl) (by rfl) (w.heap.size + 1) (by rfl) (u8s y).toArray _ _ HD.out (by rfl) (row_info HA.out (BY.out).1) (by intro W h; exact h.2.1)
    try simp only [List.getElem_toArray, List.getElem_cons_zero, List.getElem_cons_succ, Act.put, List.setIfInBounds_toArray, List.set_cons_zero, List.set_cons_succ]
    refine wpAnyH_take (i := 2) (oi := _) (v := .agg (u8s z).toArray) rfl (by kernel_rfl) (by kernel_rfl) (by kernel_rfl) (fun _ _ _ h => h) ?hy2_50 (by assumption) ?hz2_50
    case hy2_50 => exact yields_row 22 _ (by rfl) (by rfl) (w.heap.size + 2) (by rfl) (u8s z).toArray _ _ HD.out (by rfl) (row_info HA.out (BZ.out).1) (by intro W h; exact h.2.2.1)
    try simp only [List.getElem_toArray, List.getElem_cons_zero, List.getElem_cons_succ, Act.put, List.setIfInBounds_toArray, List.set_cons_zero, List.set_cons_succ]
    refine wpAnyH_ready (rs := [3, 4, 5]) (by kernel_rfl) (by simp) ?_
    refine AllReadyH.cons (i := 3) (o := _) rfl (fun K hK => ?_) (AllReadyH.cons (i := 4) (o := _) rfl (fun K hK => ?_) (AllReadyH.cons (i := 5) (o := _) rfl (fun K hK => ?_) AllReadyH.nil))
    · skip
      go_simp
      refine hK.out _ _ ⟨old_at _ hHeld.1, old_at _ hHeld.2.1, old_at _ hHeld.2.2.1, hHeld.2.2.2.alloc _⟩ (fun hHeld => ?_)
      clear hK K
      try simp only [List.getElem_toArray, List.getElem_cons_zero, List.getElem_cons_succ, Act.put, List.setIfInBounds_toArray, List.set_cons_zero, List.set_cons_succ]
      obtain ⟨v1, e1⟩ : ∃ V, V = v0.alloc (Obj.cells #[.int .u8 0, .int .u8 0, .int .u8 0, .int .u8 0, .int .u8 0, .int .u8 0, .int .u8 0, .int .u8 0, .int .u8 0, .int .u8 0, .int .u8 0, .int .u8 0, .int .u8 0, .int .u8 0, .int .u8 0, .int .u8 0] 23) := ⟨_, rfl⟩
      rw [← e1] at hHeld ⊢
      have z1 : v1.heap.size = v0.heap.size + 1 := by rw [e1, alloc_size]
      have n1 : v1.heap[v0.heap.size]? = some (.cells (u8s zeroB).toArray 23 (0, 0)) := by rw [e1]; exact new_is _ (by first | rfl | omega)
      clear e1
      refine wpAnyH_ready (rs := [4, 5]) (by kernel_rfl) (by simp) ?_
      refine AllReadyH.cons (i := 4) (o := _) rfl (fun K hK => ?_) (AllReadyH.cons (i := 5) (o := _) rfl (fun K hK => ?_) AllReadyH.nil)
      · skip
        go_simp
        refine hK.out _ _ ⟨old_at _ hHeld.1, old_at _ hHeld.2.1, old_at _ hHeld.2.2.1, hHeld.2.2.2.alloc _⟩ (fun hHeld => ?_)
        clear hK K
        try simp only [List.getElem_toArray, List.getElem_cons_zero, List.getElem_cons_succ, Act.put, List.setIfInBounds_toArray, List.set_cons_zero, List.set_cons_succ]
        obtain ⟨v2, e2⟩ : ∃ V, V = v1.alloc (Obj.cells #[.int .u8 0, .int .u8 0, .int .u8 0, .int .u8 0, .int .u8 0, .int .u8 0, .int .u8 0, .int .u8 0, .int .u8 0, .int .u8 0, .int .u8 0, .int .u8 0, .int .u8 0, .int .u8 0, .int .u8 0, .int .u8 0] 23) := ⟨_, rfl⟩
        rw [← e2] at hHeld ⊢
        have z2 : v2.heap.size = v0.heap.size + 1 + 1 := by rw [e2, alloc_size]; omega
        replace n1 : v2.heap[v0.heap.size]? = some (.cells (u8s zeroB).toArray 23 (0, 0)) := by rw [e2]; exact old_at _ n1
        have n2 : v2.heap[v0.heap.size + 1]? = some (.cells (u8s zeroB).toArray 23 (0, 0)) := by rw [e2]; exact new_is _ (by first | rfl | omega)
        clear e2
        refine wpAnyH_ready (rs := [5]) (by kernel_rfl) (by simp) ?_
        refine AllReadyH.cons (i := 5) (o := _) rfl (fun K hK => ?_) AllReadyH.nil
        go_simp
        refine hK.out _ _ ⟨old_at _ hHeld.1, old_at _ hHeld.2.1, old_at _ hHeld.2.2.1, hHeld.2.2.2.alloc _⟩ (fun hHeld => ?_)
        clear hK K
        try simp only [List.getElem_toArray, List.getElem_cons_zero, List.getElem_cons_succ, Act.put, List.setIfInBounds_toArray, List.set_cons_zero, List.set_cons_succ]
        obtain ⟨v3, e3⟩ : ∃ V, V = v2.alloc (Obj.cells #[.int .u8 0, .int .u8 0, .int .u8 0, .int .u8 0, .int .u8 0, .int .u8 0, .int .u8 0, .int .u8 0, .int .u8 0, .int .u8 0, .int .u8 0, .int .u8 0, .int .u8 0, .int .u8 0, .int .u8 0, .int .u8 0] 23) := ⟨_, rfl⟩
        rw [← e3] at hHeld ⊢
        have z3 : v3.heap.size = v0.heap.size + 1 + 1 + 1 := by rw [e3, alloc_size]; omega
        replace n1 : v3.heap[v0.heap.size]? = some (.cells (u8s zeroB).toArray 23 (0, 0)) := by rw [e3]; exact old_at _ n1
        replace n2 : v3.heap[v0.heap.size + 1]? = some (.cells (u8s zeroB).toArray 23 (0, 0)) := by rw [e3]; exact old_at _ n2
        have n3 : v3.heap[v0.heap.size + 1 + 1]? = some (.cells (u8s zeroB).toArray 23 (0, 0)) := by rw [e3]; exact new_is _ (by first | rfl | omega)
        clear e3
        refine wpAnyH_ready (rs := [6]) (by kernel_rfl) (by simp) ?_
        refine AllReadyH.cons (i := 6) (o := _) rfl (fun K hK => ?_) AllReadyH.nil
        rw [if_pos (by rfl)]; refine wp_store_row 23 _ _ rfl (v0.heap.size) (u8s x).toArray rfl rfl 23 _ n1 (row_info HI.out (BX.out).1) (by simp only [u8s_row, (BX.out).1]; rfl) (u8s_one _) ?_
        refine hK.out _ _ ⟨row_far (hHeld.1) (by omega) _, row_far (hHeld.2.1) (by omega) _, row_far (hHeld.2.2.1) (by omega) _, (hHeld.2.2.2).setRow (.inr (by omega)) _⟩ (fun hHeld => ?_)
        clear hK K
        try simp only [List.getElem_toArray, List.getElem_cons_zero, List.getElem_cons_succ, Act.put, List.setIfInBounds_toArray, List.set_cons_zero, List.set_cons_succ]
        obtain ⟨v4, e4⟩ : ∃ V, V = v3.setRow (v0.heap.size) (u8s x).toArray := ⟨_, rfl⟩
        rw [← e4] at hHeld ⊢
        have z4 : v4.heap.size = v0.heap.size + 1 + 1 + 1 := by rw [e4, setRow_size]; omega
        replace n1 : v4.heap[v0.heap.size]? = some (.cells (u8s x).toArray 23 (0, 0)) := by rw [e4]; exact row_at n1 _
        replace n2 : v4.heap[v0.heap.size + 1]? = some (.cells (u8s zeroB).toArray 23 (0, 0)) := by rw [e4]; exact row_far n2 (by omega) _
        replace n3 : v4.heap[v0.heap.size + 1 + 1]? = some (.cells (u8s zeroB).toArray 23 (0, 0)) := by rw [e4]; exact row_far n3 (by omega) _
        clear e4
        refine wpAnyH_ready (rs := [7]) (by kernel_rfl) (by simp) ?_
        refine AllReadyH.cons (i := 7) (o := _) rfl (fun K hK => ?_) AllReadyH.nil
        rw [if_pos (by rfl)]; refine wp_store_row 23 _ _ rfl (v0.heap.size + 1) (u8s y).toArray rfl rfl 23 _ n2 (row_info HI.out (BY.out).1) (by simp only [u8s_row, (BY.out).1]; rfl) (u8s_one _) ?_
        refine hK.out _ _ ⟨row_far (hHeld.1) (by omega) _, row_far (hHeld.2.1) (by omega) _, row_far (hHeld.2.2.1) (by omega) _, (hHeld.2.2.2).setRow (.inr (by omega)) _⟩ (fun hHeld => ?_)
        clear hK K
        try simp only [List.getElem_toArray, List.getElem_cons_zero, List.getElem_cons_succ, Act.put, List.setIfInBounds_toArray, List.set_cons_zero, List.set_cons_succ]
        obtain ⟨v5, e5⟩ : ∃ V, V = v4.setRow (v0.heap.size + 1) (u8s y).toArray := ⟨_, rfl⟩
        rw [← e5] at hHeld ⊢
        have z5 : v5.heap.size = v0.heap.size + 1 + 1 + 1 := by rw [e5, setRow_size]; omega
        replace n1 : v5.heap[v0.heap.size]? = some (.cells (u8s x).toArray 23 (0, 0)) := by rw [e5]; exact row_far n1 (by omega) _
        replace n2 : v5.heap[v0.heap.size + 1]? = some (.cells (u8s y).toArray 23 (0, 0)) := by rw [e5]; exact row_at n2 _
        replace n3 : v5.heap[v0.heap.size + 1 + 1]? = some (.cells (u8s zeroB).toArray 23 (0, 0)) := by rw [e5]; exact row_far n3 (by omega) _
        clear e5
        refine wpAnyH_ready (rs := [8]) (by kernel_rfl) (by simp) ?_
        refine AllReadyH.cons (i := 8) (o := _) rfl (fun K hK => ?_) AllReadyH.nil
        rw [if_pos (by rfl)]; refine wp_store_row 23 _ _ rfl (v0.heap.size + 1 + 1) (u8s z).toArray rfl rfl 23 _ n3 (row_info HI.out (BZ.out).1) (by simp only [u8s_row, (BZ.out).1]; rfl) (u8s_one _) ?_
        refine hK.out _ _ ⟨row_far (hHeld.1) (by omega) _, row_far (hHeld.2.1) (by omega) _, row_far (hHeld.2.2.1) (by omega) _, (hHeld.2.2.2).setRow (.inr (by omega)) _⟩ (fun hHeld => ?_)
        clear hK K
        try simp only [List.getElem_toArray, List.getElem_cons_zero, List.getElem_cons_succ, Act.put, List.setIfInBounds_toArray, List.set_cons_zero, List.set_cons_succ]
        obtain ⟨v6, e6⟩ : ∃ V, V = v5.setRow (v0.heap.size + 1 + 1) (u8s z).toArray := ⟨_, rfl⟩
        rw [← e6] at hHeld ⊢
        have z6 : v6.heap.size = v0.heap.size + 1 + 1 + 1 := by rw [e6, setRow_size]; omega
        replace n1 : v6.heap[v0.heap.size]? = some (.cells (u8s x).toArray 23 (0, 0)) := by rw [e6]; exact row_far n1 (by omega) _
        replace n2 : v6.heap[v0.heap.size + 1]? = some (.cells (u8s y).toArray 23 (0, 0)) := by rw [e6]; exact row_far n2 (by omega) _
        replace n3 : v6.heap[v0.heap.size + 1 + 1]? = some (.cells (u8s z).toArray 23 (0, 0)) := by rw [e6]; exact row_at n3 _
        clear e6
        refine wpAnyH_done (by kernel_rfl) ?_ _
        go_wp2_with fail
        go_meet
        case rel => exact ⟨_, _, _, rfl, rfl, rfl, n1, n2, n3, hHeld.2.2.2⟩
      · skip
        go_simp
        refine hK.out _ _ ⟨old_at _ hHeld.1, old_at _ hHeld.2.1, old_at _ hHeld.2.2.1, hHeld.2.2.2.alloc _⟩ (fun hHeld => ?_)
        clear hK K
        try simp only [List.getElem_toArray, List.getElem_cons_zero, List.getElem_cons_succ, Act.put, List.setIfInBounds_toArray, List.set_cons_zero, List.set_cons_succ]
        obtain ⟨v7, e7⟩ : ∃ V, V = v1.alloc (Obj.cells #[.int .u8 0, .int .u8 0, .int .u8 0, .int .u8 0, .int .u8 0, .int .u8 0, .int .u8 0, .int .u8 0, .int .u8 0, .int .u8 0, .int .u8 0, .int .u8 0, .int .u8 0, .int .u8 0, .int .u8 0, .int .u8 0] 23) := ⟨_, rfl⟩
        rw [← e7] at hHeld ⊢
        have z7 : v7.heap.size = v0.heap.size + 1 + 1 := by rw [e7, alloc_size]; omega
        replace n1 : v7.heap[v0.heap.size]? = some (.cells (u8s zeroB).toArray 23 (0, 0)) := by rw [e7]; exact old_at _ n1
        have n7 : v7.heap[v0.heap.size + 1]? = some (.cells (u8s zeroB).toArray 23 (0, 0)) := by rw [e7]; exact new_is _ (by first | rfl | omega)
        clear e7
        refine wpAnyH_ready (rs := [4]) (by kernel_rfl) (by simp) ?_
        refine AllReadyH.cons (i := 4) (o := _) rfl (fun K hK => ?_) AllReadyH.nil
        go_simp
        refine hK.out _ _ ⟨old_at _ hHeld.1, old_at _ hHeld.2.1, old_at _ hHeld.2.2.1, hHeld.2.2.2.alloc _⟩ (fun hHeld => ?_)
        clear hK K
        try simp only [List.getElem_toArray, List.getElem_cons_zero, List.getElem_cons_succ, Act.put, List.setIfInBounds_toArray, List.set_cons_zero, List.set_cons_succ]
        obtain ⟨v8, e8⟩ : ∃ V, V = v7.alloc (Obj.cells #[.int .u8 0, .int .u8 0, .int .u8 0, .int .u8 0, .int .u8 0, .int .u8 0, .int .u8 0, .int .u8 0, .int .u8 0, .int .u8 0, .int .u8 0, .int .u8 0, .int .u8 0, .int .u8 0, .int .u8 0, .int .u8 0] 23) := ⟨_, rfl⟩
        rw [← e8] at hHeld ⊢
        have z8 : v8.heap.size = v0.heap.size + 1 + 1 + 1 := by rw [e8, alloc_size]; omega
        replace n1 : v8.heap[v0.heap.size]? = some (.cells (u8s zeroB).toArray 23 (0, 0)) := by rw [e8]; exact old_at _ n1
        replace n7 : v8.heap[v0.heap.size + 1]? = some (.cells (u8s zeroB).toArray 23 (0, 0)) := by rw [e8]; exact old_at _ n7
        have n8 : v8.heap[v0.heap.size + 1 + 1]? = some (.cells (u8s zeroB).toArray 23 (0, 0)) := by rw [e8]; exact new_is _ (by first | rfl | omega)
        clear e8
        refine wpAnyH_ready (rs := [6]) (by kernel_rfl) (by simp) ?_
        refine AllReadyH.cons (i := 6) (o := _) rfl (fun K hK => ?_) AllReadyH.nil
        rw [if_pos (by rfl)]; refine wp_store_row 23 _ _ rfl (v0.heap.size) (u8s x).toArray rfl rfl 23 _ n1 (row_info HI.out (BX.out).1) (by simp only [u8s_row, (BX.out).1]; rfl) (u8s_one _) ?_
        refine hK.out _ _ ⟨row_far (hHeld.1) (by omega) _, row_far (hHeld.2.1) (by omega) _, row_far (hHeld.2.2.1) (by omega) _, (hHeld.2.2.2).setRow (.inr (by omega)) _⟩ (fun hHeld => ?_)
        clear hK K
        try simp only [List.getElem_toArray, List.getElem_cons_zero, List.getElem_cons_succ, Act.put, List.setIfInBounds_toArray, List.set_cons_zero, List.set_cons_succ]
        obtain ⟨v9, e9⟩ : ∃ V, V = v8.setRow (v0.heap.size) (u8s x).toArray := ⟨_, rfl⟩
        rw [← e9] at hHeld ⊢
        have z9 : v9.heap.size = v0.heap.size + 1 + 1 + 1 := by rw [e9, setRow_size]; omega
        replace n1 : v9.heap[v0.heap.size]? = some (.cells (u8s x).toArray 23 (0, 0)) := by rw [e9]; exact row_at n1 _
        replace n7 : v9.heap[v0.heap.size + 1]? = some (.cells (u8s zeroB).toArray 23 (0, 0)) := by rw [e9]; exact row_far n7 (by omega) _
        replace n8 : v9.heap[v0.heap.size + 1 + 1]? = some (.cells (u8s zeroB).toArray 23 (0, 0)) := by rw [e9]; exact row_far n8 (by omega) _
        clear e9
        refine wpAnyH_ready (rs := [7]) (by kernel_rfl) (by simp) ?_
        refine AllReadyH.cons (i := 7) (o := _) rfl (fun K hK => ?_) AllReadyH.nil
        rw [if_pos (by rfl)]; refine wp_store_row 23 _ _ rfl (v0.heap.size + 1 + 1) (u8s y).toArray rfl rfl 23 _ n8 (row_info HI.out (BY.out).1) (by simp only [u8s_row, (BY.out).1]; rfl) (u8s_one _) ?_
        refine hK.out _ _ ⟨row_far (hHeld.1) (by omega) _, row_far (hHeld.2.1) (by omega) _, row_far (hHeld.2.2.1) (by omega) _, (hHeld.2.2.2).setRow (.inr (by omega)) _⟩ (fun hHeld => ?_)
        clear hK K
        try simp only [List.getElem_toArray, List.getElem_cons_zero, List.getElem_cons_succ, Act.put, List.setIfInBounds_toArray, List.set_cons_zero, List.set_cons_succ]
        obtain ⟨v10, e10⟩ : ∃ V, V = v9.setRow (v0.heap.size + 1 + 1) (u8s y).toArray := ⟨_, rfl⟩
        rw [← e10] at hHeld ⊢
        have z10 : v10.heap.size = v0.heap.size + 1 + 1 + 1 := by rw [e10, setRow_size]; omega
        replace n1 : v10.heap[v0.heap.size]? = some (.cells (u8s x).toArray 23 (0, 0)) := by rw [e10]; exact row_far n1 (by omega) _
        replace n7 : v10.heap[v0.heap.size + 1]? = some (.cells (u8s zeroB).toArray 23 (0, 0)) := by rw [e10]; exact row_far n7 (by omega) _
        replace n8 : v10.heap[v0.heap.size + 1 + 1]? = some (.cells (u8s y).toArray 23 (0, 0)) := by rw [e10]; exact row_at n8 _
        clear e10
        refine wpAnyH_ready (rs := [8]) (by kernel_rfl) (by simp) ?_
        refine AllReadyH.cons (i := 8) (o := _) rfl (fun K hK => ?_) AllReadyH.nil
        rw [if_pos (by rfl)]; refine wp_store_row 23 _ _ rfl (v0.heap.size + 1) (u8s z).toArray rfl rfl 23 _ n7 (row_info HI.out (BZ.out).1) (by simp only [u8s_row, (BZ.out).1]; rfl) (u8s_one _) ?_
        refine hK.out _ _ ⟨row_far (hHeld.1) (by omega) _, row_far (hHeld.2.1) (by omega) _, row_far (hHeld.2.2.1) (by omega) _, (hHeld.2.2.2).setRow (.inr (by omega)) _⟩ (fun hHeld => ?_)
        clear hK K
        try simp only [List.getElem_toArray, List.getElem_cons_zero, List.getElem_cons_succ, Act.put, List.setIfInBounds_toArray, List.set_cons_zero, List.set_cons_succ]
        obtain ⟨v11, e11⟩ : ∃ V, V = v10.setRow (v0.heap.size + 1) (u8s z).toArray := ⟨_, rfl⟩
        rw [← e11] at hHeld ⊢
        have z11 : v11.heap.size = v0.heap.size + 1 + 1 + 1 := by rw [e11, setRow_size]; omega
        replace n1 : v11.heap[v0.heap.size]? = some (.cells (u8s x).toArray 23 (0, 0)) := by rw [e11]; exact row_far n1 (by omega) _
        replace n7 : v11.heap[v0.heap.size + 1]? = some (.cells (u8s z).toArray 23 (0, 0)) := by rw [e11]; exact row_at n7 _
        replace n8 : v11.heap[v0.heap.size + 1 + 1]? = some (.cells (u8s y).toArray 23 (0, 0)) := by rw [e11]; exact row_far n8 (by omega) _
        clear e11
        refine wpAnyH_done (by kernel_rfl) ?_ _
        go_wp2_with fail
        go_meet
        case rel => exact ⟨_, _, _, rfl, rfl, rfl, n1, n8, n7, hHeld.2.2.2⟩
    · skip
      go_simp
      refine hK.out _ _ ⟨old_at _ hHeld.1, old_at _ hHeld.2.1, old_at _ hHeld.2.2.1, hHeld.2.2.2.alloc _⟩ (fun hHeld => ?_)
      clear hK K
      try simp only [List.getElem_toArray, List.getElem_cons_zero, List.getElem_cons_succ, Act.put, List.setIfInBounds_toArray, List.set_cons_zero, List.set_cons_succ]
      obtain ⟨v12, e12⟩ : ∃ V, V = v0.alloc (Obj.cells #[.int .u8 0, .int .u8 0, .int .u8 0, .int .u8 0, .int .u8 0, .int .u8 0, .int .u8 0, .int .u8 0, .int .u8 0, .int .u8 0, .int .u8 0, .int .u8 0, .int .u8 0, .int .u8 0, .int .u8 0, .int .u8 0] 23) := ⟨_, rfl⟩
      rw [← e12] at hHeld ⊢
      have z12 : v12.heap.size = v0.heap.size + 1 := by rw [e12, alloc_size]
      have n12 : v12.heap[v0.heap.size]? = some (.cells (u8s zeroB).toArray 23 (0, 0)) := by rw [e12]; exact new_is _ (by first | rfl | omega)
      clear e12
      refine wpAnyH_ready (rs := [3, 5]) (by kernel_rfl) (by simp) ?_
      refine AllReadyH.cons (i := 3) (o := _) rfl (fun K hK => ?_) (AllReadyH.cons (i := 5) (o := _) rfl (fun K hK => ?_) AllReadyH.nil)
      · skip
        go_simp
        refine hK.out _ _ ⟨old_at _ hHeld.1, old_at _ hHeld.2.1, old_at _ hHeld.2.2.1, hHeld.2.2.2.alloc _⟩ (fun hHeld => ?_)
        clear hK K
        try simp only [List.getElem_toArray, List.getElem_cons_zero, List.getElem_cons_succ, Act.put, List.setIfInBounds_toArray, List.set_cons_zero, List.set_cons_succ]
        obtain ⟨v13, e13⟩ : ∃ V, V = v12.alloc (Obj.cells #[.int .u8 0, .int .u8 0, .int .u8 0, .int .u8 0, .int .u8 0, .int .u8 0, .int .u8 0, .int .u8 0, .int .u8 0, .int .u8 0, .int .u8 0, .int .u8 0, .int .u8 0, .int .u8 0, .int .u8 0, .int .u8 0] 23) := ⟨_, rfl⟩
        rw [← e13] at hHeld ⊢
        have z13 : v13.heap.size = v0.heap.size + 1 + 1 := by rw [e13, alloc_size]; omega
        replace n12 : v13.heap[v0.heap.size]? = some (.cells (u8s zeroB).toArray 23 (0, 0)) := by rw [e13]; exact old_at _ n12
        have n13 : v13.heap[v0.heap.size + 1]? = some (.cells (u8s zeroB).toArray 23 (0, 0)) := by rw [e13]; exact new_is _ (by first | rfl | omega)
        clear e13
        refine wpAnyH_ready (rs := [5]) (by kernel_rfl) (by simp) ?_
        refine AllReadyH.cons (i := 5) (o := _) rfl (fun K hK => ?_) AllReadyH.nil
        go_simp
        refine hK.out _ _ ⟨old_at _ hHeld.1, old_at _ hHeld.2.1, old_at _ hHeld.2.2.1, hHeld.2.2.2.alloc _⟩ (fun hHeld => ?_)
        clear hK K
        try simp only [List.getElem_toArray, List.getElem_cons_zero, List.getElem_cons_succ, Act.put, List.setIfInBounds_toArray, List.set_cons_zero, List.set_cons_succ]
        obtain ⟨v14, e14⟩ : ∃ V, V = v13.alloc (Obj.cells #[.int .u8 0, .int .u8 0, .int .u8 0, .int .u8 0, .int .u8 0, .int .u8 0, .int .u8 0, .int .u8 0, .int .u8 0, .int .u8 0, .int .u8 0, .int .u8 0, .int .u8 0, .int .u8 0, .int .u8 0, .int .u8 0] 23) := ⟨_, rfl⟩
        rw [← e14] at hHeld ⊢
        have z14 : v14.heap.size = v0.heap.size + 1 + 1 + 1 := by rw [e14, alloc_size]; omega
        replace n12 : v14.heap[v0.heap.size]? = some (.cells (u8s zeroB).toArray 23 (0, 0)) := by rw [e14]; exact old_at _ n12
        replace n13 : v14.heap[v0.heap.size + 1]? = some (.cells (u8s zeroB).toArray 23 (0, 0)) := by rw [e14]; exact old_at _ n13
        have n14 : v14.heap[v0.heap.size + 1 + 1]? = some (.cells (u8s zeroB).toArray 23 (0, 0)) := by rw [e14]; exact new_is _ (by first | rfl | omega)
        clear e14
        refine wpAnyH_ready (rs := [6]) (by kernel_rfl) (by simp) ?_
        refine AllReadyH.cons (i := 6) (o := _) rfl (fun K hK => ?_) AllReadyH.nil
        rw [if_pos (by rfl)]; refine wp_store_row 23 _ _ rfl (v0.heap.size + 1) (u8s x).toArray rfl rfl 23 _ n13 (row_info HI.out (BX.out).1) (by simp only [u8s_row, (BX.out).1]; rfl) (u8s_one _) ?_
        refine hK.out _ _ ⟨row_far (hHeld.1) (by omega) _, row_far (hHeld.2.1) (by omega) _, row_far (hHeld.2.2.1) (by omega) _, (hHeld.2.2.2).setRow (.inr (by omega)) _⟩ (fun hHeld => ?_)
        clear hK K
        try simp only [List.getElem_toArray, List.getElem_cons_zero, List.getElem_cons_succ, Act.put, List.setIfInBounds_toArray, List.set_cons_zero, List.set_cons_succ]
        obtain ⟨v15, e15⟩ : ∃ V, V = v14.setRow (v0.heap.size + 1) (u8s x).toArray := ⟨_, rfl⟩
        rw [← e15] at hHeld ⊢
        have z15 : v15.heap.size = v0.heap.size + 1 + 1 + 1 := by rw [e15, setRow_size]; omega
        replace n12 : v15.heap[v0.heap.size]? = some (.cells (u8s zeroB).toArray 23 (0, 0)) := by rw [e15]; exact row_far n12 (by omega) _
        replace n13 : v15.heap[v0.heap.size + 1]? = some (.cells (u8s x).toArray 23 (0, 0)) := by rw [e15]; exact row_at n13 _
        replace n14 : v15.heap[v0.heap.size + 1 + 1]? = some (.cells (u8s zeroB).toArray 23 (0, 0)) := by rw [e15]; exact row_far n14 (by omega) _
        clear e15
        refine wpAnyH_ready (rs := [7]) (by kernel_rfl) (by simp) ?_
        refine AllReadyH.cons (i := 7) (o := _) rfl (fun K hK => ?_) AllReadyH.nil
        rw [if_pos (by rfl)]; refine wp_store_row 23 _ _ rfl (v0.heap.size) (u8s y).toArray rfl rfl 23 _ n12 (row_info HI.out (BY.out).1) (by simp only [u8s_row, (BY.out).1]; rfl) (u8s_one _) ?_
        refine hK.out _ _ ⟨row_far (hHeld.1) (by omega) _, row_far (hHeld.2.1) (by omega) _, row_far (hHeld.2.2.1) (by omega) _, (hHeld.2.2.2).setRow (.inr (by omega)) _⟩ (fun hHeld => ?_)
        clear hK K
        try simp only [List.getElem_toArray, List.getElem_cons_zero, List.getElem_cons_succ, Act.put, List.setIfInBounds_toArray, List.set_cons_zero, List.set_cons_succ]
        obtain ⟨v16, e16⟩ : ∃ V, V = v15.setRow (v0.heap.size) (u8s y).toArray := ⟨_, rfl⟩
        rw [← e16] at hHeld ⊢
        have z16 : v16.heap.size = v0.heap.size + 1 + 1 + 1 := by rw [e16, setRow_size]; omega
        replace n12 : v16.heap[v0.heap.size]? = some (.cells (u8s y).toArray 23 (0, 0)) := by rw [e16]; exact row_at n12 _
        replace n13 : v16.heap[v0.heap.size + 1]? = some (.cells (u8s x).toArray 23 (0, 0)) := by rw [e16]; exact row_far n13 (by omega) _
        replace n14 : v16.heap[v0.heap.size + 1 + 1]? = some (.cells (u8s zeroB).toArray 23 (0, 0)) := by rw [e16]; exact row_far n14 (by omega) _
        clear e16
        refine wpAnyH_ready (rs := [8]) (by kernel_rfl) (by simp) ?_
        refine AllReadyH.cons (i := 8) (o := _) rfl (fun K hK => ?_) AllReadyH.nil
        rw [if_pos (by rfl)]; refine wp_store_row 23 _ _ rfl (v0.heap.size + 1 + 1) (u8s z).toArray rfl rfl 23 _ n14 (row_info HI.out (BZ.out).1) (by simp only [u8s_row, (BZ.out).1]; rfl) (u8s_one _) ?_
        refine hK.out _ _ ⟨row_far (hHeld.1) (by omega) _, row_far (hHeld.2.1) (by omega) _, row_far (hHeld.2.2.1) (by omega) _, (hHeld.2.2.2).setRow (.inr (by omega)) _⟩ (fun hHeld => ?_)
        clear hK K
        try simp only [List.getElem_toArray, List.getElem_cons_zero, List.getElem_cons_succ, Act.put, List.setIfInBounds_toArray, List.set_cons_zero, List.set_cons_succ]
        obtain ⟨v17, e17⟩ : ∃ V, V = v16.setRow (v0.heap.size + 1 + 1) (u8s z).toArray := ⟨_, rfl⟩
        rw [← e17] at hHeld ⊢
        have z17 : v17.heap.size = v0.heap.size + 1 + 1 + 1 := by rw [e17, setRow_size]; omega
        replace n12 : v17.heap[v0.heap.size]? = some (.cells (u8s y).toArray 23 (0, 0)) := by rw [e17]; exact row_far n12 (by omega) _
        replace n13 : v17.heap[v0.heap.size + 1]? = some (.cells (u8s x).toArray 23 (0, 0)) := by rw [e17]; exact row_far n13 (by omega) _
        replace n14 : v17.heap[v0.heap.size + 1 + 1]? = some (.cells (u8s z).toArray 23 (0, 0)) := by rw [e17]; exact row_at n14 _
        clear e17
        refine wpAnyH_done (by kernel_rfl) ?_ _
        go_wp2_with fail
        go_meet
        case rel => exact ⟨_, _, _, rfl, rfl, rfl, n13, n12, n14, hHeld.2.2.2⟩
      · skip
        go_simp
        refine hK.out _ _ ⟨old_at _ hHeld.1, old_at _ hHeld.2.1, old_at _ hHeld.2.2.1, hHeld.2.2.2.alloc _⟩ (fun hHeld => ?_)
        clear hK K
        try simp only [List.getElem_toArray, List.getElem_cons_zero, List.getElem_cons_succ, Act.put, List.setIfInBounds_toArray, List.set_cons_zero, List.set_cons_succ]
        obtain ⟨v18, e18⟩ : ∃ V, V = v12.alloc (Obj.cells #[.int .u8 0, .int .u8 0, .int .u8 0, .int .u8 0, .int .u8 0, .int .u8 0, .int .u8 0, .int .u8 0, .int .u8 0, .int .u8 0, .int .u8 0, .int .u8 0, .int .u8 0, .int .u8 0, .int .u8 0, .int .u8 0] 23) := ⟨_, rfl⟩
        rw [← e18] at hHeld ⊢
        have z18 : v18.heap.size = v0.heap.size + 1 + 1 := by rw [e18, alloc_size]; omega
        replace n12 : v18.heap[v0.heap.size]? = some (.cells (u8s zeroB).toArray 23 (0, 0)) := by rw [e18]; exact old_at _ n12
        have n18 : v18.heap[v0.heap.size + 1]? = some (.cells (u8s zeroB).toArray 23 (0, 0)) := by rw [e18]; exact new_is _ (by first | rfl | omega)
        clear e18
        refine wpAnyH_ready (rs := [3]) (by kernel_rfl) (by simp) ?_
        refine AllReadyH.cons (i := 3) (o := _) rfl (fun K hK => ?_) AllReadyH.nil
        go_simp
        refine hK.out _ _ ⟨old_at _ hHeld.1, old_at _ hHeld.2.1, old_at _ hHeld.2.2.1, hHeld.2.2.2.alloc _⟩ (fun hHeld => ?_)
        clear hK K
        try simp only [List.getElem_toArray, List.getElem_cons_zero, List.getElem_cons_succ, Act.put, List.setIfInBounds_toArray, List.set_cons_zero, List.set_cons_succ]
        obtain ⟨v19, e19⟩ : ∃ V, V = v18.alloc (Obj.cells #[.int .u8 0, .int .u8 0, .int .u8 0, .int .u8 0, .int .u8 0, .int .u8 0, .int .u8 0, .int .u8 0, .int .u8 0, .int .u8 0, .int .u8 0, .int .u8 0, .int .u8 0, .int .u8 0, .int .u8 0, .int .u8 0] 23) := ⟨_, rfl⟩
        rw [← e19] at hHeld ⊢
        have z19 : v19.heap.size = v0.heap.size + 1 + 1 + 1 := by rw [e19, alloc_size]; omega
        replace n12 : v19.heap[v0.heap.size]? = some (.cells (u8s zeroB).toArray 23 (0, 0)) := by rw [e19]; exact old_at _ n12
        replace n18 : v19.heap[v0.heap.size + 1]? = some (.cells (u8s zeroB).toArray 23 (0, 0)) := by rw [e19]; exact old_at _ n18
        have n19 : v19.heap[v0.heap.size + 1 + 1]? = some (.cells (u8s zeroB).toArray 23 (0, 0)) := by rw [e19]; exact new_is _ (by first | rfl | omega)
        clear e19
        refine wpAnyH_ready (rs := [6]) (by kernel_rfl) (by simp) ?_
        refine AllReadyH.cons (i := 6) (o := _) rfl (fun K hK => ?_) AllReadyH.nil
        rw [if_pos (by rfl)]; refine wp_store_row 23 _ _ rfl (v0.heap.size + 1 + 1) (u8s x).toArray rfl rfl 23 _ n19 (row_info HI.out (BX.out).1) (by simp only [u8s_row, (BX.out).1]; rfl) (u8s_one _) ?_
        refine hK.out _ _ ⟨row_far (hHeld.1) (by omega) _, row_far (hHeld.2.1) (by omega) _, row_far (hHeld.2.2.1) (by omega) _, (hHeld.2.2.2).setRow (.inr (by omega)) _⟩ (fun hHeld => ?_)
        clear hK K
        try simp only [List.getElem_toArray, List.getElem_cons_zero, List.getElem_cons_succ, Act.put, List.setIfInBounds_toArray, List.set_cons_zero, List.set_cons_succ]
        obtain ⟨v20, e20⟩ : ∃ V, V = v19.setRow (v0.heap.size + 1 + 1) (u8s x).toArray := ⟨_, rfl⟩
        rw [← e20] at hHeld ⊢
        have z20 : v20.heap.size = v0.heap.size + 1 + 1 + 1 := by rw [e20, setRow_size]; omega
        replace n12 : v20.heap[v0.heap.size]? = some (.cells (u8s zeroB).toArray 23 (0, 0)) := by rw [e20]; exact row_far n12 (by omega) _
        replace n18 : v20.heap[v0.heap.size + 1]? = some (.cells (u8s zeroB).toArray 23 (0, 0)) := by rw [e20]; exact row_far n18 (by omega) _
        replace n19 : v20.heap[v0.heap.size + 1 + 1]? = some (.cells (u8s x).toArray 23 (0, 0)) := by rw [e20]; exact row_at n19 _
        clear e20
        refine wpAnyH_ready (rs := [7]) (by kernel_rfl) (by simp) ?_
        refine AllReadyH.cons (i := 7) (o := _) rfl (fun K hK => ?_) AllReadyH.nil
        rw [if_pos (by rfl)]; refine wp_store_row 23 _ _ rfl (v0.heap.size) (u8s y).toArray rfl rfl 23 _ n12 (row_info HI.out (BY.out).1) (by simp only [u8s_row, (BY.out).1]; rfl) (u8s_one _) ?_
        refine hK.out _ _ ⟨row_far (hHeld.1) (by omega) _, row_far (hHeld.2.1) (by omega) _, row_far (hHeld.2.2.1) (by omega) _, (hHeld.2.2.2).setRow (.inr (by omega)) _⟩ (fun hHeld => ?_)
        clear hK K
        try simp only [List.getElem_toArray, List.getElem_cons_zero, List.getElem_cons_succ, Act.put, List.setIfInBounds_toArray, List.set_cons_zero, List.set_cons_succ]
        obtain ⟨v21, e21⟩ : ∃ V, V = v20.setRow (v0.heap.size) (u8s y).toArray := ⟨_, rfl⟩
        rw [← e21] at hHeld ⊢
        have z21 : v21.heap.size = v0.heap.size + 1 + 1 + 1 := by rw [e21, setRow_size]; omega
        replace n12 : v21.heap[v0.heap.size]? = some (.cells (u8s y).toArray 23 (0, 0)) := by rw [e21]; exact row_at n12 _
        replace n18 : v21.heap[v0.heap.size + 1]? = some (.cells (u8s zeroB).toArray 23 (0, 0)) := by rw [e21]; exact row_far n18 (by omega) _
        replace n19 : v21.heap[v0.heap.size + 1 + 1]? = some (.cells (u8s x).toArray 23 (0, 0)) := by rw [e21]; exact row_far n19 (by omega) _
        clear e21
        refine wpAnyH_ready (rs := [8]) (by kernel_rfl) (by simp) ?_
        refine AllReadyH.cons (i := 8) (o := _) rfl (fun K hK => ?_) AllReadyH.nil
        rw [if_pos (by rfl)]; refine wp_store_row 23 _ _ rfl (v0.heap.size + 1) (u8s z).toArray rfl rfl 23 _ n18 (row_info HI.out (BZ.out).1) (by simp only [u8s_row, (BZ.out).1]; rfl) (u8s_one _) ?_
        refine hK.out _ _ ⟨row_far (hHeld.1) (by omega) _, row_far (hHeld.2.1) (by omega) _, row_far (hHeld.2.2.1) (by omega) _, (hHeld.2.2.2).setRow (.inr (by omega)) _⟩ (fun hHeld => ?_)
        clear hK K
        try simp only [List.getElem_toArray, List.getElem_cons_zero, List.getElem_cons_succ, Act.put, List.setIfInBounds_toArray, List.set_cons_zero, List.set_cons_succ]
        obtain ⟨v22, e22⟩ : ∃ V, V = v21.setRow (v0.heap.size + 1) (u8s z).toArray := ⟨_, rfl⟩
        rw [← e22] at hHeld ⊢
        have z22 : v22.heap.size = v0.heap.size + 1 + 1 + 1 := by rw [e22, setRow_size]; omega
        replace n12 : v22.heap[v0.heap.size]? = some (.cells (u8s y).toArray 23 (0, 0)) := by rw [e22]; exact row_far n12 (by omega) _
        replace n18 : v22.heap[v0.heap.size + 1]? = some (.cells (u8s z).toArray 23 (0, 0)) := by rw [e22]; exact row_at n18 _
        replace n19 : v22.heap[v0.heap.size + 1 + 1]? = some (.cells (u8s x).toArray 23 (0, 0)) := by rw [e22]; exact row_far n19 (by omega) _
        clear e22
        refine wpAnyH_done (by kernel_rfl) ?_ _
        go_wp2_with fail
        go_meet
        case rel => exact ⟨_, _, _, rfl, rfl, rfl, n19, n12, n18, hHeld.2.2.2⟩
    · skip
      go_simp
      refine hK.out _ _ ⟨old_at _ hHeld.1, old_at _ hHeld.2.1, old_at _ hHeld.2.2.1, hHeld.2.2.2.alloc _⟩ (fun hHeld => ?_)
      clear hK K
      try simp only [List.getElem_toArray, List.getElem_cons_zero, List.getElem_cons_succ, Act.put, List.setIfInBounds_toArray, List.set_cons_zero, List.set_cons_succ]
      obtain ⟨v23, e23⟩ : ∃ V, V = v0.alloc (Obj.cells #[.int .u8 0, .int .u8 0, .int .u8 0, .int .u8 0, .int .u8 0, .int .u8 0, .int .u8 0, .int .u8 0, .int .u8 0, .int .u8 0, .int .u8 0, .int .u8 0, .int .u8 0, .int .u8 0, .int .u8 0, .int .u8 0] 23) := ⟨_, rfl⟩
      rw [← e23] at hHeld ⊢
      have z23 : v23.heap.size = v0.heap.size + 1 := by rw [e23, alloc_size]
      have n23 : v23.heap[v0.heap.size]? = some (.cells (u8s zeroB).toArray 23 (0, 0)) := by rw [e23]; exact new_is _ (by first | rfl | omega)
      clear e23
      refine wpAnyH_ready (rs := [3, 4]) (by kernel_rfl) (by simp) ?_
      refine AllReadyH.cons (i := 3) (o := _) rfl (fun K hK => ?_) (AllReadyH.cons (i := 4) (o := _) rfl (fun K hK => ?_) AllReadyH.nil)
      · skip
        go_simp
        refine hK.out _ _ ⟨old_at _ hHeld.1, old_at _ hHeld.2.1, old_at _ hHeld.2.2.1, hHeld.2.2.2.alloc _⟩ (fun hHeld => ?_)
        clear hK K
        try simp only [List.getElem_toArray, List.getElem_cons_zero, List.getElem_cons_succ, Act.put, List.setIfInBounds_toArray, List.set_cons_zero, List.set_cons_succ]
        obtain ⟨v24, e24⟩ : ∃ V, V = v23.alloc (Obj.cells #[.int .u8 0, .int .u8 0, .int .u8 0, .int .u8 0, .int .u8 0, .int .u8 0, .int .u8 0, .int .u8 0, .int .u8 0, .int .u8 0, .int .u8 0, .int .u8 0, .int .u8 0, .int .u8 0, .int .u8 0, .int .u8 0] 23) := ⟨_, rfl⟩
        rw [← e24] at hHeld ⊢
        have z24 : v24.heap.size = v0.heap.size + 1 + 1 := by rw [e24, alloc_size]; omega
        replace n23 : v24.heap[v0.heap.size]? = some (.cells (u8s zeroB).toArray 23 (0, 0)) := by rw [e24]; exact old_at _ n23
        have n24 : v24.heap[v0.heap.size + 1]? = some (.cells (u8s zeroB).toArray 23 (0, 0)) := by rw [e24]; exact new_is _ (by first | rfl | omega)
        clear e24
        refine wpAnyH_ready (rs := [4]) (by kernel_rfl) (by simp) ?_
        refine AllReadyH.cons (i := 4) (o := _) rfl (fun K hK => ?_) AllReadyH.nil
        go_simp
        refine hK.out _ _ ⟨old_at _ hHeld.1, old_at _ hHeld.2.1, old_at _ hHeld.2.2.1, hHeld.2.2.2.alloc _⟩ (fun hHeld => ?_)
        clear hK K
        try simp only [List.getElem_toArray, List.getElem_cons_zero, List.getElem_cons_succ, Act.put, List.setIfInBounds_toArray, List.set_cons_zero, List.set_cons_succ]
        obtain ⟨v25, e25⟩ : ∃ V, V = v24.alloc (Obj.cells #[.int .u8 0, .int .u8 0, .int .u8 0, .int .u8 0, .int .u8 0, .int .u8 0, .int .u8 0, .int .u8 0, .int .u8 0, .int .u8 0, .int .u8 0, .int .u8 0, .int .u8 0, .int .u8 0, .int .u8 0, .int .u8 0] 23) := ⟨_, rfl⟩
        rw [← e25] at hHeld ⊢
        have z25 : v25.heap.size = v0.heap.size + 1 + 1 + 1 := by rw [e25, alloc_size]; omega
        replace n23 : v25.heap[v0.heap.size]? = some (.cells (u8s zeroB).toArray 23 (0, 0)) := by rw [e25]; exact old_at _ n23
        replace n24 : v25.heap[v0.heap.size + 1]? = some (.cells (u8s zeroB).toArray 23 (0, 0)) := by rw [e25]; exact old_at _ n24
        have n25 : v25.heap[v0.heap.size + 1 + 1]? = some (.cells (u8s zeroB).toArray 23 (0, 0)) := by rw [e25]; exact new_is _ (by first | rfl | omega)
        clear e25
        refine wpAnyH_ready (rs := [6]) (by kernel_rfl) (by simp) ?_
        refine AllReadyH.cons (i := 6) (o := _) rfl (fun K hK => ?_) AllReadyH.nil
        rw [if_pos (by rfl)]; refine wp_store_row 23 _ _ rfl (v0.heap.size + 1) (u8s x).toArray rfl rfl 23 _ n24 (row_info HI.out (BX.out).1) (by simp only [u8s_row, (BX.out).1]; rfl) (u8s_one _) ?_
        refine hK.out _ _ ⟨row_far (hHeld.1) (by omega) _, row_far (hHeld.2.1) (by omega) _, row_far (hHeld.2.2.1) (by omega) _, (hHeld.2.2.2).setRow (.inr (by omega)) _⟩ (fun hHeld => ?_)
        clear hK K
        try simp only [List.getElem_toArray, List.getElem_cons_zero, List.getElem_cons_succ, Act.put, List.setIfInBounds_toArray, List.set_cons_zero, List.set_cons_succ]
        obtain ⟨v26, e26⟩ : ∃ V, V = v25.setRow (v0.heap.size + 1) (u8s x).toArray := ⟨_, rfl⟩
        rw [← e26] at hHeld ⊢
        have z26 : v26.heap.size = v0.heap.size + 1 + 1 + 1 := by rw [e26, setRow_size]; omega
        replace n23 : v26.heap[v0.heap.size]? = some (.cells (u8s zeroB).toArray 23 (0, 0)) := by rw [e26]; exact row_far n23 (by omega) _
        replace n24 : v26.heap[v0.heap.size + 1]? = some (.cells (u8s x).toArray 23 (0, 0)) := by rw [e26]; exact row_at n24 _
        replace n25 : v26.heap[v0.heap.size + 1 + 1]? = some (.cells (u8s zeroB).toArray 23 (0, 0)) := by rw [e26]; exact row_far n25 (by omega) _
        clear e26
        refine wpAnyH_ready (rs := [7]) (by kernel_rfl) (by simp) ?_
        refine AllReadyH.cons (i := 7) (o := _) rfl (fun K hK => ?_) AllReadyH.nil
        rw [if_pos (by rfl)]; refine wp_store_row 23 _ _ rfl (v0.heap.size + 1 + 1) (u8s y).toArray rfl rfl 23 _ n25 (row_info HI.out (BY.out).1) (by simp only [u8s_row, (BY.out).1]; rfl) (u8s_one _) ?_
        refine hK.out _ _ ⟨row_far (hHeld.1) (by omega) _, row_far (hHeld.2.1) (by omega) _, row_far (hHeld.2.2.1) (by omega) _, (hHeld.2.2.2).setRow (.inr (by omega)) _⟩ (fun hHeld => ?_)
        clear hK K
        try simp only [List.getElem_toArray, List.getElem_cons_zero, List.getElem_cons_succ, Act.put, List.setIfInBounds_toArray, List.set_cons_zero, List.set_cons_succ]
        obtain ⟨v27, e27⟩ : ∃ V, V = v26.setRow (v0.heap.size + 1 + 1) (u8s y).toArray := ⟨_, rfl⟩
        rw [← e27] at hHeld ⊢
        have z27 : v27.heap.size = v0.heap.size + 1 + 1 + 1 := by rw [e27, setRow_size]; omega
        replace n23 : v27.heap[v0.heap.size]? = some (.cells (u8s zeroB).toArray 23 (0, 0)) := by rw [e27]; exact row_far n23 (by omega) _
        replace n24 : v27.heap[v0.heap.size + 1]? = some (.cells (u8s x).toArray 23 (0, 0)) := by rw [e27]; exact row_far n24 (by omega) _
        replace n25 : v27.heap[v0.heap.size + 1 + 1]? = some (.cells (u8s y).toArray 23 (0, 0)) := by rw [e27]; exact row_at n25 _
        clear e27
        refine wpAnyH_ready (rs := [8]) (by kernel_rfl) (by simp) ?_
        refine AllReadyH.cons (i := 8) (o := _) rfl (fun K hK => ?_) AllReadyH.nil
        rw [if_pos (by rfl)]; refine wp_store_row 23 _ _ rfl (v0.heap.size) (u8s z).toArray rfl rfl 23 _ n23 (row_info HI.out (BZ.out).1) (by simp only [u8s_row, (BZ.out).1]; rfl) (u8s_one _) ?_
        refine hK.out _ _ ⟨row_far (hHeld.1) (by omega) _, row_far (hHeld.2.1) (by omega) _, row_far (hHeld.2.2.1) (by omega) _, (hHeld.2.2.2).setRow (.inr (by omega)) _⟩ (fun hHeld => ?_)
        clear hK K
        try simp only [List.getElem_toArray, List.getElem_cons_zero, List.getElem_cons_succ, Act.put, List.setIfInBounds_toArray, List.set_cons_zero, List.set_cons_succ]
        obtain ⟨v28, e28⟩ : ∃ V, V = v27.setRow (v0.heap.size) (u8s z).toArray := ⟨_, rfl⟩
        rw [← e28] at hHeld ⊢
        have z28 : v28.heap.size = v0.heap.size + 1 + 1 + 1 := by rw [e28, setRow_size]; omega
        replace n23 : v28.heap[v0.heap.size]? = some (.cells (u8s z).toArray 23 (0, 0)) := by rw [e28]; exact row_at n23 _
        replace n24 : v28.heap[v0.heap.size + 1]? = some (.cells (u8s x).toArray 23 (0, 0)) := by rw [e28]; exact row_far n24 (by omega) _
        replace n25 : v28.heap[v0.heap.size + 1 + 1]? = some (.cells (u8s y).toArray 23 (0, 0)) := by rw [e28]; exact row_far n25 (by omega) _
        clear e28
        refine wpAnyH_done (by kernel_rfl) ?_ _
        go_wp2_with fail
        go_meet
        case rel => exact ⟨_, _, _, rfl, rfl, rfl, n24, n25, n23, hHeld.2.2.2⟩
      · skip
        go_simp
        refine hK.out _ _ ⟨old_at _ hHeld.1, old_at _ hHeld.2.1, old_at _ hHeld.2.2.1, hHeld.2.2.2.alloc _⟩ (fun hHeld => ?_)
        clear hK K
        try simp only [List.getElem_toArray, List.getElem_cons_zero, List.getElem_cons_succ, Act.put, List.setIfInBounds_toArray, List.set_cons_zero, List.set_cons_succ]
        obtain ⟨v29, e29⟩ : ∃ V, V = v23.alloc (Obj.cells #[.int .u8 0, .int .u8 0, .int .u8 0, .int .u8 0, .int .u8 0, .int .u8 0, .int .u8 0, .int .u8 0, .int .u8 0, .int .u8 0, .int .u8 0, .int .u8 0, .int .u8 0, .int .u8 0, .int .u8 0, .int .u8 0] 23) := ⟨_, rfl⟩
        rw [← e29] at hHeld ⊢
        have z29 : v29.heap.size = v0.heap.size + 1 + 1 := by rw [e29, alloc_size]; omega
        replace n23 : v29.heap[v0.heap.size]? = some (.cells (u8s zeroB).toArray 23 (0, 0)) := by rw [e29]; exact old_at _ n23
        have n29 : v29.heap[v0.heap.size + 1]? = some (.cells (u8s zeroB).toArray 23 (0, 0)) := by rw [e29]; exact new_is _ (by first | rfl | omega)
        clear e29
        refine wpAnyH_ready (rs := [3]) (by kernel_rfl) (by simp) ?_
        refine AllReadyH.cons (i := 3) (o := _) rfl (fun K hK => ?_) AllReadyH.nil
        go_simp
        refine hK.out _ _ ⟨old_at _ hHeld.1, old_at _ hHeld.2.1, old_at _ hHeld.2.2.1, hHeld.2.2.2.alloc _⟩ (fun hHeld => ?_)
        clear hK K
        try simp only [List.getElem_toArray, List.getElem_cons_zero, List.getElem_cons_succ, Act.put, List.setIfInBounds_toArray, List.set_cons_zero, List.set_cons_succ]
        obtain ⟨v30, e30⟩ : ∃ V, V = v29.alloc (Obj.cells #[.int .u8 0, .int .u8 0, .int .u8 0, .int .u8 0, .int .u8 0, .int .u8 0, .int .u8 0, .int .u8 0, .int .u8 0, .int .u8 0, .int .u8 0, .int .u8 0, .int .u8 0, .int .u8 0, .int .u8 0, .int .u8 0] 23) := ⟨_, rfl⟩
        rw [← e30] at hHeld ⊢
        have z30 : v30.heap.size = v0.heap.size + 1 + 1 + 1 := by rw [e30, alloc_size]; omega
        replace n23 : v30.heap[v0.heap.size]? = some (.cells (u8s zeroB).toArray 23 (0, 0)) := by rw [e30]; exact old_at _ n23
        replace n29 : v30.heap[v0.heap.size + 1]? = some (.cells (u8s zeroB).toArray 23 (0, 0)) := by rw [e30]; exact old_at _ n29
        have n30 : v30.heap[v0.heap.size + 1 + 1]? = some (.cells (u8s zeroB).toArray 23 (0, 0)) := by rw [e30]; exact new_is _ (by first | rfl | omega)
        clear e30
        refine wpAnyH_ready (rs := [6]) (by kernel_rfl) (by simp) ?_
        refine AllReadyH.cons (i := 6) (o := _) rfl (fun K hK => ?_) AllReadyH.nil
        rw [if_pos (by rfl)]; refine wp_store_row 23 _ _ rfl (v0.heap.size + 1 + 1) (u8s x).toArray rfl rfl 23 _ n30 (row_info HI.out (BX.out).1) (by simp only [u8s_row, (BX.out).1]; rfl) (u8s_one _) ?_
        refine hK.out _ _ ⟨row_far (hHeld.1) (by omega) _, row_far (hHeld.2.1) (by omega) _, row_far (hHeld.2.2.1) (by omega) _, (hHeld.2.2.2).setRow (.inr (by omega)) _⟩ (fun hHeld => ?_)
        clear hK K
        try simp only [List.getElem_toArray, List.getElem_cons_zero, List.getElem_cons_succ, Act.put, List.setIfInBounds_toArray, List.set_cons_zero, List.set_cons_succ]
        obtain ⟨v31, e31⟩ : ∃ V, V = v30.setRow (v0.heap.size + 1 + 1) (u8s x).toArray := ⟨_, rfl⟩
        rw [← e31] at hHeld ⊢
        have z31 : v31.heap.size = v0.heap.size + 1 + 1 + 1 := by rw [e31, setRow_size]; omega
        replace n23 : v31.heap[v0.heap.size]? = some (.cells (u8s zeroB).toArray 23 (0, 0)) := by rw [e31]; exact row_far n23 (by omega) _
        replace n29 : v31.heap[v0.heap.size + 1]? = some (.cells (u8s zeroB).toArray 23 (0, 0)) := by rw [e31]; exact row_far n29 (by omega) _
        replace n30 : v31.heap[v0.heap.size + 1 + 1]? = some (.cells (u8s x).toArray 23 (0, 0)) := by rw [e31]; exact row_at n30 _
        clear e31
        refine wpAnyH_ready (rs := [7]) (by kernel_rfl) (by simp) ?_
        refine AllReadyH.cons (i := 7) (o := _) rfl (fun K hK => ?_) AllReadyH.nil
        rw [if_pos (by rfl)]; refine wp_store_row 23 _ _ rfl (v0.heap.size + 1) (u8s y).toArray rfl rfl 23 _ n29 (row_info HI.out (BY.out).1) (by simp only [u8s_row, (BY.out).1]; rfl) (u8s_one _) ?_
        refine hK.out _ _ ⟨row_far (hHeld.1) (by omega) _, row_far (hHeld.2.1) (by omega) _, row_far (hHeld.2.2.1) (by omega) _, (hHeld.2.2.2).setRow (.inr (by omega)) _⟩ (fun hHeld => ?_)
        clear hK K
        try simp only [List.getElem_toArray, List.getElem_cons_zero, List.getElem_cons_succ, Act.put, List.setIfInBounds_toArray, List.set_cons_zero, List.set_cons_succ]
        obtain ⟨v32, e32⟩ : ∃ V, V = v31.setRow (v0.heap.size + 1) (u8s y).toArray := ⟨_, rfl⟩
        rw [← e32] at hHeld ⊢
        have z32 : v32.heap.size = v0.heap.size + 1 + 1 + 1 := by rw [e32, setRow_size]; omega
        replace n23 : v32.heap[v0.heap.size]? = some (.cells (u8s zeroB).toArray 23 (0, 0)) := by rw [e32]; exact row_far n23 (by omega) _
        replace n29 : v32.heap[v0.heap.size + 1]? = some (.cells (u8s y).toArray 23 (0, 0)) := by rw [e32]; exact row_at n29 _
        replace n30 : v32.heap[v0.heap.size + 1 + 1]? = some (.cells (u8s x).toArray 23 (0, 0)) := by rw [e32]; exact row_far n30 (by omega) _
        clear e32
        refine wpAnyH_ready (rs := [8]) (by kernel_rfl) (by simp) ?_
        refine AllReadyH.cons (i := 8) (o := _) rfl (fun K hK => ?_) AllReadyH.nil
        rw [if_pos (by rfl)]; refine wp_store_row 23 _ _ rfl (v0.heap.size) (u8s z).toArray rfl rfl 23 _ n23 (row_info HI.out (BZ.out).1) (by simp only [u8s_row, (BZ.out).1]; rfl) (u8s_one _) ?_
        refine hK.out _ _ ⟨row_far (hHeld.1) (by omega) _, row_far (hHeld.2.1) (by omega) _, row_far (hHeld.2.2.1) (by omega) _, (hHeld.2.2.2).setRow (.inr (by omega)) _⟩ (fun hHeld => ?_)
        clear hK K
        try simp only [List.getElem_toArray, List.getElem_cons_zero, List.getElem_cons_succ, Act.put, List.setIfInBounds_toArray, List.set_cons_zero, List.set_cons_succ]
        obtain ⟨v33, e33⟩ : ∃ V, V = v32.setRow (v0.heap.size) (u8s z).toArray := ⟨_, rfl⟩
        rw [← e33] at hHeld ⊢
        have z33 : v33.heap.size = v0.heap.size + 1 + 1 + 1 := by rw [e33, setRow_size]; omega
        replace n23 : v33.heap[v0.heap.size]? = some (.cells (u8s z).toArray 23 (0, 0)) := by rw [e33]; exact row_at n23 _
        replace n29 : v33.heap[v0.heap.size + 1]? = some (.cells (u8s y).toArray 23 (0, 0)) := by rw [e33]; exact row_far n29 (by omega) _
        replace n30 : v33.heap[v0.heap.size + 1 + 1]? = some (.cells (u8s x).toArray 23 (0, 0)) := by rw [e33]; exact row_far n30 (by omega) _
        clear e33
        refine wpAnyH_done (by kernel_rfl) ?_ _
        go_wp2_with fail
        go_meet
        case rel => exact ⟨_, _, _, rfl, rfl, rfl, n30, n29, n23, hHeld.2.2.2⟩
  case rest =>
    obtain ⟨p, q, r, rfl, rfl, rfl, hp, hq, hr, kp⟩ := hcut
    have HP := Lib.hid hp
    have HQ := Lib.hid hq
    have HR := Lib.hid hr
    have HKP := Lib.hid kp
    clear hp hq hr kp
    go_wp2_with fail
    refine wp_region_held_drew (S := (fun W => W.heap[p]? = some (.cells (u8s x).toArray 23 (0, 0)) ∧ W.heap[q]? = some (.cells (u8s y).toArray 23 (0, 0)) ∧ W.heap[r]? = some (.cells (u8s z).toArray 23 (0, 0)) ∧ Kp No w W)) (by kernel_rfl) ⟨HP.out, HQ.out, HR.out, HKP.out.drew⟩ (fun hHeld => ?_)
    refine wpAnyH_take (i := 0) (oi := _) (v := .agg (u8s x).toArray) rfl (by kernel_rfl) (by kernel_rfl) (by kernel_rfl) (fun _ _ _ h => h) ?hy0_24 (by assumption) ?hz0_24
    case hy0_24 => exact yields_row 23 _ (by rfl) (by rfl) (p) (by rfl) (u8s x).toArray _ _ HU.out (by rfl) (row_info HI.out (BX.out).1) (by intro W h; exact h.1)
    try simp only [List.getElem_toArray, List.getElem_cons_zero, List.getElem_cons_succ, Act.put, List.setIfInBounds_toArray, List.set_cons_zero, List.set_cons_succ]
    refine wpAnyH_take (i := 1) (oi := _) (v := .agg (u8s y).toArray) rfl (by kernel_rfl) (by kernel_rfl) (by kernel_rfl) (fun _ _ _ h => h) ?hy1_25 (by assumption) ?hz1_25
    case hy1_25 => exact yields_row 23 _ (by rfl) (by rfl) (q) (by rfl) (u8s y).toArray _ _ HU.out (by rfl) (row_info HI.out (BY.out).1) (by intro W h; exact h.2.1)
    try simp only [List.getElem_toArray, List.getElem_cons_zero, List.getElem_cons_succ, Act.put, List.setIfInBounds_toArray, List.set_cons_zero, List.set_cons_succ]
    refine wpAnyH_take (i := 3) (oi := _) (v := .agg (u8s y).toArray) rfl (by kernel_rfl) (by kernel_rfl) (by kernel_rfl) (fun _ _ _ h => h) ?hy3_26 (by assumption) ?hz3_26
    case hy3_26 => exact yields_row 23 _ (by rfl) (by rfl) (q) (by rfl) (u8s y).toArray _ _ HU.out (by rfl) (row_info HI.out (BY.out).1) (by intro W h; exact h.2.1)
    try simp only [List.getElem_toArray, List.getElem_cons_zero, List.getElem_cons_succ, Act.put, List.setIfInBounds_toArray, List.set_cons_zero, List.set_cons_succ]
    refine wpAnyH_take (i := 4) (oi := _) (v := .agg (u8s x).toArray) rfl (by kernel_rfl) (by kernel_rfl) (by kernel_rfl) (fun _ _ _ h => h) ?hy4_27 (by assumption) ?hz4_27
    case hy4_27 => exact yields_row 23 _ (by rfl) (by rfl) (p) (by rfl) (u8s x).toArray _ _ HU.out (by rfl) (row_info HI.out (BX.out).1) (by intro W h; exact h.1)
    try simp only [List.getElem_toArray, List.getElem_cons_zero, List.getElem_cons_succ, Act.put, List.setIfInBounds_toArray, List.set_cons_zero, List.set_cons_succ]
    refine wpAnyH_ready (rs := [2]) (by kernel_rfl) (by simp) ?_
    refine AllReadyH.cons (i := 2) (o := _) rfl (fun K hK => ?_) AllReadyH.nil
    go_simp; refine (c_mul (BX.out) (BY.out) _).mono ?_; rintro e w1 ⟨rfl, k1⟩; go_simp
    refine hK.out _ _ ⟨k1.blk hHeld.1 (fun h => h), k1.blk hHeld.2.1 (fun h => h), k1.blk hHeld.2.2.1 (fun h => h), hHeld.2.2.2.then_ k1⟩ (fun hHeld => ?_)
    clear hK K
    try simp only [List.getElem_toArray, List.getElem_cons_zero, List.getElem_cons_succ, Act.put, List.setIfInBounds_toArray, List.set_cons_zero, List.set_cons_succ]
    refine wpAnyH_ready (rs := [5]) (by kernel_rfl) (by simp) ?_
    refine AllReadyH.cons (i := 5) (o := _) rfl (fun K hK => ?_) AllReadyH.nil
    go_simp; refine (c_mul (BY.out) (BX.out) _).mono ?_; rintro e w2 ⟨rfl, k2⟩; go_simp
    refine hK.out _ _ ⟨k2.blk hHeld.1 (fun h => h), k2.blk hHeld.2.1 (fun h => h), k2.blk hHeld.2.2.1 (fun h => h), hHeld.2.2.2.then_ k2⟩ (fun hHeld => ?_)
    clear hK K
    try simp only [List.getElem_toArray, List.getElem_cons_zero, List.getElem_cons_succ, Act.put, List.setIfInBounds_toArray, List.set_cons_zero, List.set_cons_succ]
    refine wpAnyH_take (i := 6) (oi := _) (v := .bool false) rfl (by kernel_rfl) (by kernel_rfl) (by kernel_rfl) (fun _ _ _ h => h) ?hy6_28 (by assumption) ?hz6_28
    case hy6_28 => exact yields_neq 23 5 _ 16 _ _ (by rfl) (by rfl) (mulB x y) (mulB y x) (by rfl) (by rfl) HU.out HE.out HZ.out HG.out (mulB_by _ _) (mulB_by _ _) false (by rw [decide_eq_true (mulB_comm BX.out BY.out)]; rfl)
    try simp only [List.getElem_toArray, List.getElem_cons_zero, List.getElem_cons_succ, Act.put, List.setIfInBounds_toArray, List.set_cons_zero, List.set_cons_succ]
    refine wpAnyH_take (i := 7) (oi := _) (v := ?v7_29) rfl (by kernel_rfl) (by kernel_rfl) (by kernel_rfl) (fun _ _ _ h => h) (Or.inl ⟨by rfl, ?hy7_29⟩) (by assumption) ?hz7_29
    case hy7_29 => (intro w hSw; (try dsimp only at hSw); go_simp; try with_reducible rfl)
    try simp only [List.getElem_toArray, List.getElem_cons_zero, List.getElem_cons_succ, Act.put, List.setIfInBounds_toArray, List.set_cons_zero, List.set_cons_succ]
    refine wpAnyH_take (i := 8) (oi := _) (v := .agg (u8s x).toArray) rfl (by kernel_rfl) (by kernel_rfl) (by kernel_rfl) (fun _ _ _ h => h) ?hy8_30 (by assumption) ?hz8_30
    case hy8_30 => exact yields_row 23 _ (by rfl) (by rfl) (p) (by rfl) (u8s x).toArray _ _ HU.out (by rfl) (row_info HI.out (BX.out).1) (by intro W h; exact h.1)
    try simp only [List.getElem_toArray, List.getElem_cons_zero, List.getElem_cons_succ, Act.put, List.setIfInBounds_toArray, List.set_cons_zero, List.set_cons_succ]
    refine wpAnyH_take (i := 9) (oi := _) (v := .agg (u8s y).toArray) rfl (by kernel_rfl) (by kernel_rfl) (by kernel_rfl) (fun _ _ _ h => h) ?hy9_31 (by assumption) ?hz9_31
    case hy9_31 => exact yields_row 23 _ (by rfl) (by rfl) (q) (by rfl) (u8s y).toArray _ _ HU.out (by rfl) (row_info HI.out (BY.out).1) (by intro W h; exact h.2.1)
    try simp only [List.getElem_toArray, List.getElem_cons_zero, List.getElem_cons_succ, Act.put, List.setIfInBounds_toArray, List.set_cons_zero, List.set_cons_succ]
    refine wpAnyH_take (i := 10) (oi := _) (v := .agg (u8s z).toArray) rfl (by kernel_rfl) (by kernel_rfl) (by kernel_rfl) (fun _ _ _ h => h) ?hy10_32 (by assumption) ?hz10_32
    case hy10_32 => exact yields_row 23 _ (by rfl) (by rfl) (r) (by rfl) (u8s z).toArray _ _ HU.out (by rfl) (row_info HI.out (BZ.out).1) (by intro W h; exact h.2.2.1)
    try simp only [List.getElem_toArray, List.getElem_cons_zero, List.getElem_cons_succ, Act.put, List.setIfInBounds_toArray, List.set_cons_zero, List.set_cons_succ]
    refine wpAnyH_take (i := 13) (oi := _) (v := .agg (u8s x).toArray) rfl (by kernel_rfl) (by kernel_rfl) (by kernel_rfl) (fun _ _ _ h => h) ?hy13_33 (by assumption) ?hz13_33
    case hy13_33 => exact yields_row 23 _ (by rfl) (by rfl) (p) (by rfl) (u8s x).toArray _ _ HU.out (by rfl) (row_info HI.out (BX.out).1) (by intro W h; exact h.1)
    try simp only [List.getElem_toArray, List.getElem_cons_zero, List.getElem_cons_succ, Act.put, List.setIfInBounds_toArray, List.set_cons_zero, List.set_cons_succ]
    refine wpAnyH_take (i := 14) (oi := _) (v := .agg (u8s y).toArray) rfl (by kernel_rfl) (by kernel_rfl) (by kernel_rfl) (fun _ _ _ h => h) ?hy14_34 (by assumption) ?hz14_34
    case hy14_34 => exact yields_row 23 _ (by rfl) (by rfl) (q) (by rfl) (u8s y).toArray _ _ HU.out (by rfl) (row_info HI.out (BY.out).1) (by intro W h; exact h.2.1)
    try simp only [List.getElem_toArray, List.getElem_cons_zero, List.getElem_cons_succ, Act.put, List.setIfInBounds_toArray, List.set_cons_zero, List.set_cons_succ]
    refine wpAnyH_take (i := 16) (oi := _) (v := .agg (u8s z).toArray) rfl (by kernel_rfl) (by kernel_rfl) (by kernel_rfl) (fun _ _ _ h => h) ?hy16_35 (by assumption) ?hz16_35
    case hy16_35 => exact yields_row 23 _ (by rfl) (by rfl) (r) (by rfl) (u8s z).toArray _ _ HU.out (by rfl) (row_info HI.out (BZ.out).1) (by intro W h; exact h.2.2.1)
    try simp only [List.getElem_toArray, List.getElem_cons_zero, List.getElem_cons_succ, Act.put, List.setIfInBounds_toArray, List.set_cons_zero, List.set_cons_succ]
    refine wpAnyH_ready (rs := [11]) (by kernel_rfl) (by simp) ?_
    refine AllReadyH.cons (i := 11) (o := _) rfl (fun K hK => ?_) AllReadyH.nil
    go_simp; refine (c_mul (BY.out) (BZ.out) _).mono ?_; rintro e w3 ⟨rfl, k3⟩; go_simp
    refine hK.out _ _ ⟨k3.blk hHeld.1 (fun h => h), k3.blk hHeld.2.1 (fun h => h), k3.blk hHeld.2.2.1 (fun h => h), hHeld.2.2.2.then_ k3⟩ (fun hHeld => ?_)
    clear hK K
    try simp only [List.getElem_toArray, List.getElem_cons_zero, List.getElem_cons_succ, Act.put, List.setIfInBounds_toArray, List.set_cons_zero, List.set_cons_succ]
    refine wpAnyH_ready (rs := [12]) (by kernel_rfl) (by simp) ?_
    refine AllReadyH.cons (i := 12) (o := _) rfl (fun K hK => ?_) AllReadyH.nil
    go_simp; refine (c_mul (BX.out) (mulB_by _ _) _).mono ?_; rintro e w4 ⟨rfl, k4⟩; go_simp
    refine hK.out _ _ ⟨k4.blk hHeld.1 (fun h => h), k4.blk hHeld.2.1 (fun h => h), k4.blk hHeld.2.2.1 (fun h => h), hHeld.2.2.2.then_ k4⟩ (fun hHeld => ?_)
    clear hK K
    try simp only [List.getElem_toArray, List.getElem_cons_zero, List.getElem_cons_succ, Act.put, List.setIfInBounds_toArray, List.set_cons_zero, List.set_cons_succ]
    refine wpAnyH_ready (rs := [15]) (by kernel_rfl) (by simp) ?_
    refine AllReadyH.cons (i := 15) (o := _) rfl (fun K hK => ?_) AllReadyH.nil
    go_simp; refine (c_mul (BX.out) (BY.out) _).mono ?_; rintro e w5 ⟨rfl, k5⟩; go_simp
    refine hK.out _ _ ⟨k5.blk hHeld.1 (fun h => h), k5.blk hHeld.2.1 (fun h => h), k5.blk hHeld.2.2.1 (fun h => h), hHeld.2.2.2.then_ k5⟩ (fun hHeld => ?_)
    clear hK K
    try simp only [List.getElem_toArray, List.getElem_cons_zero, List.getElem_cons_succ, Act.put, List.setIfInBounds_toArray, List.set_cons_zero, List.set_cons_succ]
    refine wpAnyH_ready (rs := [17]) (by kernel_rfl) (by simp) ?_
    refine AllReadyH.cons (i := 17) (o := _) rfl (fun K hK => ?_) AllReadyH.nil
    go_simp; refine (c_mul (mulB_by _ _) (BZ.out) _).mono ?_; rintro e w6 ⟨rfl, k6⟩; go_simp
    refine hK.out _ _ ⟨k6.blk hHeld.1 (fun h => h), k6.blk hHeld.2.1 (fun h => h), k6.blk hHeld.2.2.1 (fun h => h), hHeld.2.2.2.then_ k6⟩ (fun hHeld => ?_)
    clear hK K
    try simp only [List.getElem_toArray, List.getElem_cons_zero, List.getElem_cons_succ, Act.put, List.setIfInBounds_toArray, List.set_cons_zero, List.set_cons_succ]
    refine wpAnyH_take (i := 18) (oi := _) (v := .bool false) rfl (by kernel_rfl) (by kernel_rfl) (by kernel_rfl) (fun _ _ _ h => h) ?hy18_36 (by assumption) ?hz18_36
    case hy18_36 => exact yields_neq 23 5 _ 16 _ _ (by rfl) (by rfl) (mulB x (mulB y z)) (mulB (mulB x y) z) (by rfl) (by rfl) HU.out HE.out HZ.out HG.out (mulB_by _ _) (mulB_by _ _) false (by rw [decide_eq_true (mulB_assoc BX.out BY.out BZ.out)]; rfl)
    try simp only [List.getElem_toArray, List.getElem_cons_zero, List.getElem_cons_succ, Act.put, List.setIfInBounds_toArray, List.set_cons_zero, List.set_cons_succ]
    refine wpAnyH_take (i := 19) (oi := _) (v := ?v19_37) rfl (by kernel_rfl) (by kernel_rfl) (by kernel_rfl) (fun _ _ _ h => h) (Or.inl ⟨by rfl, ?hy19_37⟩) (by assumption) ?hz19_37
    case hy19_37 => (intro w hSw; (try dsimp only at hSw); go_simp; try with_reducible rfl)
    try simp only [List.getElem_toArray, List.getElem_cons_zero, List.getElem_cons_succ, Act.put, List.setIfInBounds_toArray, List.set_cons_zero, List.set_cons_succ]
    refine wpAnyH_take (i := 20) (oi := _) (v := ?v20_38) rfl (by kernel_rfl) (by kernel_rfl) (by kernel_rfl) (fun _ _ _ h => h) (Or.inl ⟨by rfl, ?hy20_38⟩) (by assumption) ?hz20_38
    case hy20_38 => (intro w hSw; (try dsimp only at hSw); go_simp; try with_reducible rfl)
    try simp only [List.getElem_toArray, List.getElem_cons_zero, List.getElem_cons_succ, Act.put, List.setIfInBounds_toArray, List.set_cons_zero, List.set_cons_succ]
    refine wpAnyH_take (i := 21) (oi := _) (v := .agg (u8s x).toArray) rfl (by kernel_rfl) (by kernel_rfl) (by kernel_rfl) (fun _ _ _ h => h) ?hy21_39 (by assumption) ?hz21_39
    case hy21_39 => exact yields_row 23 _ (by rfl) (by rfl) (p) (by rfl) (u8s x).toArray _ _ HU.out (by rfl) (row_info HI.out (BX.out).1) (by intro W h; exact h.1)
    try simp only [List.getElem_toArray, List.getElem_cons_zero, List.getElem_cons_succ, Act.put, List.setIfInBounds_toArray, List.set_cons_zero, List.set_cons_succ]
    refine wpAnyH_take (i := 22) (oi := _) (v := .agg (u8s y).toArray) rfl (by kernel_rfl) (by kernel_rfl) (by kernel_rfl) (fun _ _ _ h => h) ?hy22_40 (by assumption) ?hz22_40
    case hy22_40 => exact yields_row 23 _ (by rfl) (by rfl) (q) (by rfl) (u8s y).toArray _ _ HU.out (by rfl) (row_info HI.out (BY.out).1) (by intro W h; exact h.2.1)
    try simp only [List.getElem_toArray, List.getElem_cons_zero, List.getElem_cons_succ, Act.put, List.setIfInBounds_toArray, List.set_cons_zero, List.set_cons_succ]
    refine wpAnyH_take (i := 23) (oi := _) (v := .agg (u8s z).toArray) rfl (by kernel_rfl) (by kernel_rfl) (by kernel_rfl) (fun _ _ _ h => h) ?hy23_41 (by assumption) ?hz23_41
    case hy23_41 => exact yields_row 23 _ (by rfl) (by rfl) (r) (by rfl) (u8s z).toArray _ _ HU.out (by rfl) (row_info HI.out (BZ.out).1) (by intro W h; exact h.2.2.1)
    try simp only [List.getElem_toArray, List.getElem_cons_zero, List.getElem_cons_succ, Act.put, List.setIfInBounds_toArray, List.set_cons_zero, List.set_cons_succ]
    refine wpAnyH_take (i := 26) (oi := _) (v := .agg (u8s x).toArray) rfl (by kernel_rfl) (by kernel_rfl) (by kernel_rfl) (fun _ _ _ h => h) ?hy26_42 (by assumption) ?hz26_42
    case hy26_42 => exact yields_row 23 _ (by rfl) (by rfl) (p) (by rfl) (u8s x).toArray _ _ HU.out (by rfl) (row_info HI.out (BX.out).1) (by intro W h; exact h.1)
    try simp only [List.getElem_toArray, List.getElem_cons_zero, List.getElem_cons_succ, Act.put, List.setIfInBounds_toArray, List.set_cons_zero, List.set_cons_succ]
    refine wpAnyH_take (i := 27) (oi := _) (v := .agg (u8s y).toArray) rfl (by kernel_rfl) (by kernel_rfl) (by kernel_rfl) (fun _ _ _ h => h) ?hy27_43 (by assumption) ?hz27_43
    case hy27_43 => exact yields_row 23 _ (by rfl) (by rfl) (q) (by rfl) (u8s y).toArray _ _ HU.out (by rfl) (row_info HI.out (BY.out).1) (by intro W h; exact h.2.1)
    try simp only [List.getElem_toArray, List.getElem_cons_zero, List.getElem_cons_succ, Act.put, List.setIfInBounds_toArray, List.set_cons_zero, List.set_cons_succ]
    refine wpAnyH_take (i := 29) (oi := _) (v := .agg (u8s x).toArray) rfl (by kernel_rfl) (by kernel_rfl) (by kernel_rfl) (fun _ _ _ h => h) ?hy29_44 (by assumption) ?hz29_44
    case hy29_44 => exact yields_row 23 _ (by rfl) (by rfl) (p) (by rfl) (u8s x).toArray _ _ HU.out (by rfl) (row_info HI.out (BX.out).1) (by intro W h; exact h.1)
    try simp only [List.getElem_toArray, List.getElem_cons_zero, List.getElem_cons_succ, Act.put, List.setIfInBounds_toArray, List.set_cons_zero, List.set_cons_succ]
    refine wpAnyH_take (i := 30) (oi := _) (v := .agg (u8s z).toArray) rfl (by kernel_rfl) (by kernel_rfl) (by kernel_rfl) (fun _ _ _ h => h) ?hy30_45 (by assumption) ?hz30_45
    case hy30_45 => exact yields_row 23 _ (by rfl) (by rfl) (r) (by rfl) (u8s z).toArray _ _ HU.out (by rfl) (row_info HI.out (BZ.out).1) (by intro W h; exact h.2.2.1)
    try simp only [List.getElem_toArray, List.getElem_cons_zero, List.getElem_cons_succ, Act.put, List.setIfInBounds_toArray, List.set_cons_zero, List.set_cons_succ]
    refine wpAnyH_ready (rs := [24]) (by kernel_rfl) (by simp) ?_
    refine AllReadyH.cons (i := 24) (o := _) rfl (fun K hK => ?_) AllReadyH.nil
    go_simp; refine (c_add (BY.out) (BZ.out) _).mono ?_; rintro e w7 ⟨rfl, k7⟩; go_simp
    refine hK.out _ _ ⟨k7.blk hHeld.1 (fun h => h), k7.blk hHeld.2.1 (fun h => h), k7.blk hHeld.2.2.1 (fun h => h), hHeld.2.2.2.then_ k7⟩ (fun hHeld => ?_)
    clear hK K
    try simp only [List.getElem_toArray, List.getElem_cons_zero, List.getElem_cons_succ, Act.put, List.setIfInBounds_toArray, List.set_cons_zero, List.set_cons_succ]
    refine wpAnyH_ready (rs := [25]) (by kernel_rfl) (by simp) ?_
    refine AllReadyH.cons (i := 25) (o := _) rfl (fun K hK => ?_) AllReadyH.nil
    go_simp; refine (c_mul (BX.out) (addB_by _ _) _).mono ?_; rintro e w8 ⟨rfl, k8⟩; go_simp
    refine hK.out _ _ ⟨k8.blk hHeld.1 (fun h => h), k8.blk hHeld.2.1 (fun h => h), k8.blk hHeld.2.2.1 (fun h => h), hHeld.2.2.2.then_ k8⟩ (fun hHeld => ?_)
    clear hK K
    try simp only [List.getElem_toArray, List.getElem_cons_zero, List.getElem_cons_succ, Act.put, List.setIfInBounds_toArray, List.set_cons_zero, List.set_cons_succ]
    refine wpAnyH_ready (rs := [28]) (by kernel_rfl) (by simp) ?_
    refine AllReadyH.cons (i := 28) (o := _) rfl (fun K hK => ?_) AllReadyH.nil
    go_simp; refine (c_mul (BX.out) (BY.out) _).mono ?_; rintro e w9 ⟨rfl, k9⟩; go_simp
    refine hK.out _ _ ⟨k9.blk hHeld.1 (fun h => h), k9.blk hHeld.2.1 (fun h => h), k9.blk hHeld.2.2.1 (fun h => h), hHeld.2.2.2.then_ k9⟩ (fun hHeld => ?_)
    clear hK K
    try simp only [List.getElem_toArray, List.getElem_cons_zero, List.getElem_cons_succ, Act.put, List.setIfInBounds_toArray, List.set_cons_zero, List.set_cons_succ]
    refine wpAnyH_ready (rs := [31]) (by kernel_rfl) (by simp) ?_
    refine AllReadyH.cons (i := 31) (o := _) rfl (fun K hK => ?_) AllReadyH.nil
    go_simp; refine (c_mul (BX.out) (BZ.out) _).mono ?_; rintro e w10 ⟨rfl, k10⟩; go_simp
    refine hK.out _ _ ⟨k10.blk hHeld.1 (fun h => h), k10.blk hHeld.2.1 (fun h => h), k10.blk hHeld.2.2.1 (fun h => h), hHeld.2.2.2.then_ k10⟩ (fun hHeld => ?_)
    clear hK K
    try simp only [List.getElem_toArray, List.getElem_cons_zero, List.getElem_cons_succ, Act.put, List.setIfInBounds_toArray, List.set_cons_zero, List.set_cons_succ]
    refine wpAnyH_ready (rs := [32]) (by kernel_rfl) (by simp) ?_
    refine AllReadyH.cons (i := 32) (o := _) rfl (fun K hK => ?_) AllReadyH.nil
    go_simp; refine (c_add (mulB_by _ _) (mulB_by _ _) _).mono ?_; rintro e w11 ⟨rfl, k11⟩; go_simp
    refine hK.out _ _ ⟨k11.blk hHeld.1 (fun h => h), k11.blk hHeld.2.1 (fun h => h), k11.blk hHeld.2.2.1 (fun h => h), hHeld.2.2.2.then_ k11⟩ (fun hHeld => ?_)
    clear hK K
    try simp only [List.getElem_toArray, List.getElem_cons_zero, List.getElem_cons_succ, Act.put, List.setIfInBounds_toArray, List.set_cons_zero, List.set_cons_succ]
    refine wpAnyH_take (i := 33) (oi := _) (v := .bool false) rfl (by kernel_rfl) (by kernel_rfl) (by kernel_rfl) (fun _ _ _ h => h) ?hy33_46 (by assumption) ?hz33_46
    case hy33_46 => exact yields_neq 23 5 _ 16 _ _ (by rfl) (by rfl) (mulB x (addB y z)) (addB (mulB x y) (mulB x z)) (by rfl) (by rfl) HU.out HE.out HZ.out HG.out (mulB_by _ _) (addB_by _ _) false (by rw [decide_eq_true (mulB_add BX.out BY.out BZ.out)]; rfl)
    try simp only [List.getElem_toArray, List.getElem_cons_zero, List.getElem_cons_succ, Act.put, List.setIfInBounds_toArray, List.set_cons_zero, List.set_cons_succ]
    refine wpAnyH_take (i := 34) (oi := _) (v := ?v34_47) rfl (by kernel_rfl) (by kernel_rfl) (by kernel_rfl) (fun _ _ _ h => h) (Or.inl ⟨by rfl, ?hy34_47⟩) (by assumption) ?hz34_47
    case hy34_47 => (intro w hSw; (try dsimp only at hSw); go_simp; try with_reducible rfl)
    try simp only [List.getElem_toArray, List.getElem_cons_zero, List.getElem_cons_succ, Act.put, List.setIfInBounds_toArray, List.set_cons_zero, List.set_cons_succ]
    refine wpAnyH_done (by kernel_rfl) ?_ _
    go_wp2_with fail
    by_cases hx : x = zeroB
    · have HXZ := Lib.hid hx
      clear hx
      refine wp_region_held_drew (S := (fun W => W.heap[p]? = some (.cells (u8s x).toArray 23 (0, 0)) ∧ W.heap[q]? = some (.cells (u8s y).toArray 23 (0, 0)) ∧ W.heap[r]? = some (.cells (u8s z).toArray 23 (0, 0)) ∧ W.heap[w11.heap.size]? = some (.cells (u8s zeroB).toArray 23 (0, 0)) ∧ Kp No w W)) (by kernel_rfl) ⟨old_at _ hHeld.1, old_at _ hHeld.2.1, old_at _ hHeld.2.2.1, new_is _ rfl, (hHeld.2.2.2.alloc _).drew⟩ (fun hHeld => ?_)
      refine wpAnyH_take (i := 0) (oi := _) (v := .agg (u8s x).toArray) rfl (by kernel_rfl) (by kernel_rfl) (by kernel_rfl) (fun _ _ _ h => h) ?hy0_51 (by assumption) ?hz0_51
      case hy0_51 => exact yields_row 23 _ (by rfl) (by rfl) (p) (by rfl) (u8s x).toArray _ _ HU.out (by rfl) (row_info HI.out (BX.out).1) (by intro W h; exact h.1)
      try simp only [List.getElem_toArray, List.getElem_cons_zero, List.getElem_cons_succ, Act.put, List.setIfInBounds_toArray, List.set_cons_zero, List.set_cons_succ]
      refine wpAnyH_take (i := 1) (oi := _) (v := .agg (u8s y).toArray) rfl (by kernel_rfl) (by kernel_rfl) (by kernel_rfl) (fun _ _ _ h => h) ?hy1_52 (by assumption) ?hz1_52
      case hy1_52 => exact yields_row 23 _ (by rfl) (by rfl) (q) (by rfl) (u8s y).toArray _ _ HU.out (by rfl) (row_info HI.out (BY.out).1) (by intro W h; exact h.2.1)
      try simp only [List.getElem_toArray, List.getElem_cons_zero, List.getElem_cons_succ, Act.put, List.setIfInBounds_toArray, List.set_cons_zero, List.set_cons_succ]
      refine wpAnyH_take (i := 3) (oi := _) (v := .agg (u8s zeroB).toArray) rfl (by kernel_rfl) (by kernel_rfl) (by kernel_rfl) (fun _ _ _ h => h) ?hy3_53 (by assumption) ?hz3_53
      case hy3_53 => exact yields_row 23 _ (by rfl) (by rfl) (w11.heap.size) (by rfl) (u8s zeroB).toArray _ _ HU.out (by rfl) (row_info HI.out (by_of _ (by decide)).1) (by intro W h; exact h.2.2.2.1)
      try simp only [List.getElem_toArray, List.getElem_cons_zero, List.getElem_cons_succ, Act.put, List.setIfInBounds_toArray, List.set_cons_zero, List.set_cons_succ]
      refine wpAnyH_take (i := 5) (oi := _) (v := .agg (u8s x).toArray) rfl (by kernel_rfl) (by kernel_rfl) (by kernel_rfl) (fun _ _ _ h => h) ?hy5_54 (by assumption) ?hz5_54
      case hy5_54 => exact yields_row 23 _ (by rfl) (by rfl) (p) (by rfl) (u8s x).toArray _ _ HU.out (by rfl) (row_info HI.out (BX.out).1) (by intro W h; exact h.1)
      try simp only [List.getElem_toArray, List.getElem_cons_zero, List.getElem_cons_succ, Act.put, List.setIfInBounds_toArray, List.set_cons_zero, List.set_cons_succ]
      refine wpAnyH_take (i := 6) (oi := _) (v := .agg (u8s zeroB).toArray) rfl (by kernel_rfl) (by kernel_rfl) (by kernel_rfl) (fun _ _ _ h => h) ?hy6_55 (by assumption) ?hz6_55
      case hy6_55 => exact yields_row 23 _ (by rfl) (by rfl) (w11.heap.size) (by rfl) (u8s zeroB).toArray _ _ HU.out (by rfl) (row_info HI.out (by_of _ (by decide)).1) (by intro W h; exact h.2.2.2.1)
      try simp only [List.getElem_toArray, List.getElem_cons_zero, List.getElem_cons_succ, Act.put, List.setIfInBounds_toArray, List.set_cons_zero, List.set_cons_succ]
      refine wpAnyH_take (i := 7) (oi := _) (v := .bool true) rfl (by kernel_rfl) (by kernel_rfl) (by kernel_rfl) (fun _ _ _ h => h) ?hy7_56 (by assumption) ?hz7_56
      case hy7_56 => exact yields_eql 23 5 _ 16 _ _ (by rfl) (by rfl) x zeroB (by rfl) (by rfl) HU.out HE.out HZ.out HG.out (BX.out) (by_of _ (by decide)) true (decide_eq_true HXZ.out)
      try simp only [List.getElem_toArray, List.getElem_cons_zero, List.getElem_cons_succ, Act.put, List.setIfInBounds_toArray, List.set_cons_zero, List.set_cons_succ]
      refine wpAnyH_ready (rs := [2]) (by kernel_rfl) (by simp) ?_
      refine AllReadyH.cons (i := 2) (o := _) rfl (fun K hK => ?_) AllReadyH.nil
      go_simp; refine (c_mul (BX.out) (BY.out) _).mono ?_; rintro e w1 ⟨rfl, k1⟩; go_simp
      refine hK.out _ _ ⟨k1.blk hHeld.1 (fun h => h), k1.blk hHeld.2.1 (fun h => h), k1.blk hHeld.2.2.1 (fun h => h), k1.blk hHeld.2.2.2.1 (fun h => h), hHeld.2.2.2.2.then_ k1⟩ (fun hHeld => ?_)
      clear hK K
      try simp only [List.getElem_toArray, List.getElem_cons_zero, List.getElem_cons_succ, Act.put, List.setIfInBounds_toArray, List.set_cons_zero, List.set_cons_succ]
      refine wpAnyH_take (i := 4) (oi := _) (v := .bool true) rfl (by kernel_rfl) (by kernel_rfl) (by kernel_rfl) (fun _ _ _ h => h) ?hy4_57 (by assumption) ?hz4_57
      case hy4_57 => exact yields_eql 23 5 _ 16 _ _ (by rfl) (by rfl) (mulB x y) zeroB (by rfl) (by rfl) HU.out HE.out HZ.out HG.out (mulB_by _ _) (by_of _ (by decide)) true (decide_eq_true ((mulB_zero BX.out BY.out).2 (.inl HXZ.out)))
      try simp only [List.getElem_toArray, List.getElem_cons_zero, List.getElem_cons_succ, Act.put, List.setIfInBounds_toArray, List.set_cons_zero, List.set_cons_succ]
      refine wpAnyH_take (i := 8) (oi := _) (v := ?v8_58) rfl (by kernel_rfl) (by kernel_rfl) (by kernel_rfl) (fun _ _ _ h => h) (Or.inl ⟨by rfl, ?hy8_58⟩) (by assumption) ?hz8_58
      case hy8_58 => (intro w hSw; (try dsimp only at hSw); go_simp; try with_reducible rfl)
      try simp only [List.getElem_toArray, List.getElem_cons_zero, List.getElem_cons_succ, Act.put, List.setIfInBounds_toArray, List.set_cons_zero, List.set_cons_succ]
      refine wpAnyH_take (i := 9) (oi := _) (v := undef) rfl (by kernel_rfl) (by kernel_rfl) (by kernel_rfl) (fun _ _ _ h => h) ?hy9_59 (by assumption) ?hz9_59
      case hy9_59 => exact yields_not (by rfl)
      try simp only [List.getElem_toArray, List.getElem_cons_zero, List.getElem_cons_succ, Act.put, List.setIfInBounds_toArray, List.set_cons_zero, List.set_cons_succ]
      refine wpAnyH_take (i := 10) (oi := _) (v := undef) rfl (by kernel_rfl) (by kernel_rfl) (by kernel_rfl) (fun _ _ _ h => h) ?hy10_60 (by assumption) ?hz10_60
      case hy10_60 => exact yields_not (by rfl)
      try simp only [List.getElem_toArray, List.getElem_cons_zero, List.getElem_cons_succ, Act.put, List.setIfInBounds_toArray, List.set_cons_zero, List.set_cons_succ]
      refine wpAnyH_take (i := 11) (oi := _) (v := undef) rfl (by kernel_rfl) (by kernel_rfl) (by kernel_rfl) (fun _ _ _ h => h) ?hy11_61 (by assumption) ?hz11_61
      case hy11_61 => exact yields_not (by rfl)
      try simp only [List.getElem_toArray, List.getElem_cons_zero, List.getElem_cons_succ, Act.put, List.setIfInBounds_toArray, List.set_cons_zero, List.set_cons_succ]
      refine wpAnyH_take (i := 12) (oi := _) (v := ?v12_62) rfl (by kernel_rfl) (by kernel_rfl) (by kernel_rfl) (fun _ _ _ h => h) (Or.inl ⟨by rfl, ?hy12_62⟩) (by assumption) ?hz12_62
      case hy12_62 => (intro w hSw; (try dsimp only at hSw); go_simp; try with_reducible rfl)
      try simp only [List.getElem_toArray, List.getElem_cons_zero, List.getElem_cons_succ, Act.put, List.setIfInBounds_toArray, List.set_cons_zero, List.set_cons_succ]
      refine wpAnyH_take (i := 13) (oi := _) (v := ?v13_63) rfl (by kernel_rfl) (by kernel_rfl) (by kernel_rfl) (fun _ _ _ h => h) (Or.inl ⟨by rfl, ?hy13_63⟩) (by assumption) ?hz13_63
      case hy13_63 => (intro w hSw; (try dsimp only at hSw); go_simp; try with_reducible rfl)
      try simp only [List.getElem_toArray, List.getElem_cons_zero, List.getElem_cons_succ, Act.put, List.setIfInBounds_toArray, List.set_cons_zero, List.set_cons_succ]
      refine wpAnyH_take (i := 14) (oi := _) (v := ?v14_64) rfl (by kernel_rfl) (by kernel_rfl) (by kernel_rfl) (fun _ _ _ h => h) (Or.inl ⟨by rfl, ?hy14_64⟩) (by assumption) ?hz14_64
      case hy14_64 => (intro w hSw; (try dsimp only at hSw); go_simp; try with_reducible rfl)
      try simp only [List.getElem_toArray, List.getElem_cons_zero, List.getElem_cons_succ, Act.put, List.setIfInBounds_toArray, List.set_cons_zero, List.set_cons_succ]
      refine wpAnyH_take (i := 15) (oi := _) (v := .agg (u8s x).toArray) rfl (by kernel_rfl) (by kernel_rfl) (by kernel_rfl) (fun _ _ _ h => h) ?hy15_65 (by assumption) ?hz15_65
      case hy15_65 => exact yields_row 23 _ (by rfl) (by rfl) (p) (by rfl) (u8s x).toArray _ _ HU.out (by rfl) (row_info HI.out (BX.out).1) (by intro W h; exact h.1)
      try simp only [List.getElem_toArray, List.getElem_cons_zero, List.getElem_cons_succ, Act.put, List.setIfInBounds_toArray, List.set_cons_zero, List.set_cons_succ]
      refine wpAnyH_take (i := 16) (oi := _) (v := .agg (u8s x).toArray) rfl (by kernel_rfl) (by kernel_rfl) (by kernel_rfl) (fun _ _ _ h => h) ?hy16_66 (by assumption) ?hz16_66
      case hy16_66 => exact yields_row 23 _ (by rfl) (by rfl) (p) (by rfl) (u8s x).toArray _ _ HU.out (by rfl) (row_info HI.out (BX.out).1) (by intro W h; exact h.1)
      try simp only [List.getElem_toArray, List.getElem_cons_zero, List.getElem_cons_succ, Act.put, List.setIfInBounds_toArray, List.set_cons_zero, List.set_cons_succ]
      refine wpAnyH_take (i := 18) (oi := _) (v := .agg (u8s zeroB).toArray) rfl (by kernel_rfl) (by kernel_rfl) (by kernel_rfl) (fun _ _ _ h => h) ?hy18_67 (by assumption) ?hz18_67
      case hy18_67 => exact yields_row 23 _ (by rfl) (by rfl) (w11.heap.size) (by rfl) (u8s zeroB).toArray _ _ HU.out (by rfl) (row_info HI.out (by_of _ (by decide)).1) (by intro W h; exact h.2.2.2.1)
      try simp only [List.getElem_toArray, List.getElem_cons_zero, List.getElem_cons_succ, Act.put, List.setIfInBounds_toArray, List.set_cons_zero, List.set_cons_succ]
      refine wpAnyH_ready (rs := [17]) (by kernel_rfl) (by simp) ?_
      refine AllReadyH.cons (i := 17) (o := _) rfl (fun K hK => ?_) AllReadyH.nil
      go_simp; refine (c_add (BX.out) (BX.out) _).mono ?_; rintro e w2 ⟨rfl, k2⟩; go_simp
      refine hK.out _ _ ⟨k2.blk hHeld.1 (fun h => h), k2.blk hHeld.2.1 (fun h => h), k2.blk hHeld.2.2.1 (fun h => h), k2.blk hHeld.2.2.2.1 (fun h => h), hHeld.2.2.2.2.then_ k2⟩ (fun hHeld => ?_)
      clear hK K
      try simp only [List.getElem_toArray, List.getElem_cons_zero, List.getElem_cons_succ, Act.put, List.setIfInBounds_toArray, List.set_cons_zero, List.set_cons_succ]
      refine wpAnyH_take (i := 19) (oi := _) (v := .bool true) rfl (by kernel_rfl) (by kernel_rfl) (by kernel_rfl) (fun _ _ _ h => h) ?hy19_68 (by assumption) ?hz19_68
      case hy19_68 => exact yields_eql 23 5 _ 16 _ _ (by rfl) (by rfl) (addB x x) zeroB (by rfl) (by rfl) HU.out HE.out HZ.out HG.out (addB_by _ _) (by_of _ (by decide)) true (decide_eq_true (addB_self _))
      try simp only [List.getElem_toArray, List.getElem_cons_zero, List.getElem_cons_succ, Act.put, List.setIfInBounds_toArray, List.set_cons_zero, List.set_cons_succ]
      refine wpAnyH_take (i := 20) (oi := _) (v := ?v20_69) rfl (by kernel_rfl) (by kernel_rfl) (by kernel_rfl) (fun _ _ _ h => h) (Or.inl ⟨by rfl, ?hy20_69⟩) (by assumption) ?hz20_69
      case hy20_69 => (intro w hSw; (try dsimp only at hSw); go_simp; try with_reducible rfl)
      try simp only [List.getElem_toArray, List.getElem_cons_zero, List.getElem_cons_succ, Act.put, List.setIfInBounds_toArray, List.set_cons_zero, List.set_cons_succ]
      refine wpAnyH_take (i := 21) (oi := _) (v := ?v21_70) rfl (by kernel_rfl) (by kernel_rfl) (by kernel_rfl) (fun _ _ _ h => h) (Or.inl ⟨by rfl, ?hy21_70⟩) (by assumption) ?hz21_70
      case hy21_70 => (intro w hSw; (try dsimp only at hSw); go_simp; try with_reducible rfl)
      try simp only [List.getElem_toArray, List.getElem_cons_zero, List.getElem_cons_succ, Act.put, List.setIfInBounds_toArray, List.set_cons_zero, List.set_cons_succ]
      refine wpAnyH_ready (rs := [22]) (by kernel_rfl) (by simp) ?_
      refine AllReadyH.cons (i := 22) (o := _) rfl (fun K hK => ?_) AllReadyH.nil
      go_simp; refine (c_sure _).mono ?_; rintro e w3 ⟨rfl, k3⟩; go_simp
      refine hK.out _ _ ⟨k3.blk hHeld.1 (fun h => h), k3.blk hHeld.2.1 (fun h => h), k3.blk hHeld.2.2.1 (fun h => h), k3.blk hHeld.2.2.2.1 (fun h => h), hHeld.2.2.2.2.then_ k3⟩ (fun hHeld => ?_)
      clear hK K
      try simp only [List.getElem_toArray, List.getElem_cons_zero, List.getElem_cons_succ, Act.put, List.setIfInBounds_toArray, List.set_cons_zero, List.set_cons_succ]
      refine wpAnyH_take (i := 23) (oi := _) (v := ?v23_71) rfl (by kernel_rfl) (by kernel_rfl) (by kernel_rfl) (fun _ _ _ h => h) (Or.inl ⟨by rfl, ?hy23_71⟩) (by assumption) ?hz23_71
      case hy23_71 => (intro w hSw; (try dsimp only at hSw); go_simp; try with_reducible rfl)
      try simp only [List.getElem_toArray, List.getElem_cons_zero, List.getElem_cons_succ, Act.put, List.setIfInBounds_toArray, List.set_cons_zero, List.set_cons_succ]
      refine wpAnyH_take (i := 24) (oi := _) (v := ?v24_72) rfl (by kernel_rfl) (by kernel_rfl) (by kernel_rfl) (fun _ _ _ h => h) (Or.inl ⟨by rfl, ?hy24_72⟩) (by assumption) ?hz24_72
      case hy24_72 => (intro w hSw; (try dsimp only at hSw); go_simp; try with_reducible rfl)
      try simp only [List.getElem_toArray, List.getElem_cons_zero, List.getElem_cons_succ, Act.put, List.setIfInBounds_toArray, List.set_cons_zero, List.set_cons_succ]
      refine wpAnyH_done (by kernel_rfl) ?_ _
      go_wp2_with fail
      go_ret
      exact ⟨rfl, hHeld.2.2.2.2⟩
    by_cases hy : y = zeroB
    · have HXZ := Lib.hid hx
      have HYZ := Lib.hid hy
      clear hx hy
      refine wp_region_held_drew (S := (fun W => W.heap[p]? = some (.cells (u8s x).toArray 23 (0, 0)) ∧ W.heap[q]? = some (.cells (u8s y).toArray 23 (0, 0)) ∧ W.heap[r]? = some (.cells (u8s z).toArray 23 (0, 0)) ∧ W.heap[w11.heap.size]? = some (.cells (u8s zeroB).toArray 23 (0, 0)) ∧ Kp No w W)) (by kernel_rfl) ⟨old_at _ hHeld.1, old_at _ hHeld.2.1, old_at _ hHeld.2.2.1, new_is _ rfl, (hHeld.2.2.2.alloc _).drew⟩ (fun hHeld => ?_)
      refine wpAnyH_take (i := 0) (oi := _) (v := .agg (u8s x).toArray) rfl (by kernel_rfl) (by kernel_rfl) (by kernel_rfl) (fun _ _ _ h => h) ?hy0_73 (by assumption) ?hz0_73
      case hy0_73 => exact yields_row 23 _ (by rfl) (by rfl) (p) (by rfl) (u8s x).toArray _ _ HU.out (by rfl) (row_info HI.out (BX.out).1) (by intro W h; exact h.1)
      try simp only [List.getElem_toArray, List.getElem_cons_zero, List.getElem_cons_succ, Act.put, List.setIfInBounds_toArray, List.set_cons_zero, List.set_cons_succ]
      refine wpAnyH_take (i := 1) (oi := _) (v := .agg (u8s y).toArray) rfl (by kernel_rfl) (by kernel_rfl) (by kernel_rfl) (fun _ _ _ h => h) ?hy1_74 (by assumption) ?hz1_74
      case hy1_74 => exact yields_row 23 _ (by rfl) (by rfl) (q) (by rfl) (u8s y).toArray _ _ HU.out (by rfl) (row_info HI.out (BY.out).1) (by intro W h; exact h.2.1)
      try simp only [List.getElem_toArray, List.getElem_cons_zero, List.getElem_cons_succ, Act.put, List.setIfInBounds_toArray, List.set_cons_zero, List.set_cons_succ]
      refine wpAnyH_take (i := 3) (oi := _) (v := .agg (u8s zeroB).toArray) rfl (by kernel_rfl) (by kernel_rfl) (by kernel_rfl) (fun _ _ _ h => h) ?hy3_75 (by assumption) ?hz3_75
      case hy3_75 => exact yields_row 23 _ (by rfl) (by rfl) (w11.heap.size) (by rfl) (u8s zeroB).toArray _ _ HU.out (by rfl) (row_info HI.out (by_of _ (by decide)).1) (by intro W h; exact h.2.2.2.1)
      try simp only [List.getElem_toArray, List.getElem_cons_zero, List.getElem_cons_succ, Act.put, List.setIfInBounds_toArray, List.set_cons_zero, List.set_cons_succ]
      refine wpAnyH_take (i := 5) (oi := _) (v := .agg (u8s x).toArray) rfl (by kernel_rfl) (by kernel_rfl) (by kernel_rfl) (fun _ _ _ h => h) ?hy5_76 (by assumption) ?hz5_76
      case hy5_76 => exact yields_row 23 _ (by rfl) (by rfl) (p) (by rfl) (u8s x).toArray _ _ HU.out (by rfl) (row_info HI.out (BX.out).1) (by intro W h; exact h.1)
      try simp only [List.getElem_toArray, List.getElem_cons_zero, List.getElem_cons_succ, Act.put, List.setIfInBounds_toArray, List.set_cons_zero, List.set_cons_succ]
      refine wpAnyH_take (i := 6) (oi := _) (v := .agg (u8s zeroB).toArray) rfl (by kernel_rfl) (by kernel_rfl) (by kernel_rfl) (fun _ _ _ h => h) ?hy6_77 (by assumption) ?hz6_77
      case hy6_77 => exact yields_row 23 _ (by rfl) (by rfl) (w11.heap.size) (by rfl) (u8s zeroB).toArray _ _ HU.out (by rfl) (row_info HI.out (by_of _ (by decide)).1) (by intro W h; exact h.2.2.2.1)
      try simp only [List.getElem_toArray, List.getElem_cons_zero, List.getElem_cons_succ, Act.put, List.setIfInBounds_toArray, List.set_cons_zero, List.set_cons_succ]
      refine wpAnyH_take (i := 7) (oi := _) (v := .bool false) rfl (by kernel_rfl) (by kernel_rfl) (by kernel_rfl) (fun _ _ _ h => h) ?hy7_78 (by assumption) ?hz7_78
      case hy7_78 => exact yields_eql 23 5 _ 16 _ _ (by rfl) (by rfl) x zeroB (by rfl) (by rfl) HU.out HE.out HZ.out HG.out (BX.out) (by_of _ (by decide)) false (decide_eq_false HXZ.out)
      try simp only [List.getElem_toArray, List.getElem_cons_zero, List.getElem_cons_succ, Act.put, List.setIfInBounds_toArray, List.set_cons_zero, List.set_cons_succ]
      refine wpAnyH_ready (rs := [2]) (by kernel_rfl) (by simp) ?_
      refine AllReadyH.cons (i := 2) (o := _) rfl (fun K hK => ?_) AllReadyH.nil
      go_simp; refine (c_mul (BX.out) (BY.out) _).mono ?_; rintro e w1 ⟨rfl, k1⟩; go_simp
      refine hK.out _ _ ⟨k1.blk hHeld.1 (fun h => h), k1.blk hHeld.2.1 (fun h => h), k1.blk hHeld.2.2.1 (fun h => h), k1.blk hHeld.2.2.2.1 (fun h => h), hHeld.2.2.2.2.then_ k1⟩ (fun hHeld => ?_)
      clear hK K
      try simp only [List.getElem_toArray, List.getElem_cons_zero, List.getElem_cons_succ, Act.put, List.setIfInBounds_toArray, List.set_cons_zero, List.set_cons_succ]
      refine wpAnyH_take (i := 4) (oi := _) (v := .bool true) rfl (by kernel_rfl) (by kernel_rfl) (by kernel_rfl) (fun _ _ _ h => h) ?hy4_79 (by assumption) ?hz4_79
      case hy4_79 => exact yields_eql 23 5 _ 16 _ _ (by rfl) (by rfl) (mulB x y) zeroB (by rfl) (by rfl) HU.out HE.out HZ.out HG.out (mulB_by _ _) (by_of _ (by decide)) true (decide_eq_true ((mulB_zero BX.out BY.out).2 (.inr HYZ.out)))
      try simp only [List.getElem_toArray, List.getElem_cons_zero, List.getElem_cons_succ, Act.put, List.setIfInBounds_toArray, List.set_cons_zero, List.set_cons_succ]
      refine wpAnyH_take (i := 8) (oi := _) (v := ?v8_80) rfl (by kernel_rfl) (by kernel_rfl) (by kernel_rfl) (fun _ _ _ h => h) (Or.inl ⟨by rfl, ?hy8_80⟩) (by assumption) ?hz8_80
      case hy8_80 => (intro w hSw; (try dsimp only at hSw); go_simp; try with_reducible rfl)
      try simp only [List.getElem_toArray, List.getElem_cons_zero, List.getElem_cons_succ, Act.put, List.setIfInBounds_toArray, List.set_cons_zero, List.set_cons_succ]
      refine wpAnyH_take (i := 9) (oi := _) (v := .agg (u8s y).toArray) rfl (by kernel_rfl) (by kernel_rfl) (by kernel_rfl) (fun _ _ _ h => h) ?hy9_81 (by assumption) ?hz9_81
      case hy9_81 => exact yields_row 23 _ (by rfl) (by rfl) (q) (by rfl) (u8s y).toArray _ _ HU.out (by rfl) (row_info HI.out (BY.out).1) (by intro W h; exact h.2.1)
      try simp only [List.getElem_toArray, List.getElem_cons_zero, List.getElem_cons_succ, Act.put, List.setIfInBounds_toArray, List.set_cons_zero, List.set_cons_succ]
      refine wpAnyH_take (i := 10) (oi := _) (v := .agg (u8s zeroB).toArray) rfl (by kernel_rfl) (by kernel_rfl) (by kernel_rfl) (fun _ _ _ h => h) ?hy10_82 (by assumption) ?hz10_82
      case hy10_82 => exact yields_row 23 _ (by rfl) (by rfl) (w11.heap.size) (by rfl) (u8s zeroB).toArray _ _ HU.out (by rfl) (row_info HI.out (by_of _ (by decide)).1) (by intro W h; exact h.2.2.2.1)
      try simp only [List.getElem_toArray, List.getElem_cons_zero, List.getElem_cons_succ, Act.put, List.setIfInBounds_toArray, List.set_cons_zero, List.set_cons_succ]
      refine wpAnyH_take (i := 11) (oi := _) (v := .bool true) rfl (by kernel_rfl) (by kernel_rfl) (by kernel_rfl) (fun _ _ _ h => h) ?hy11_83 (by assumption) ?hz11_83
      case hy11_83 => exact yields_eql 23 5 _ 16 _ _ (by rfl) (by rfl) y zeroB (by rfl) (by rfl) HU.out HE.out HZ.out HG.out (BY.out) (by_of _ (by decide)) true (decide_eq_true HYZ.out)
      try simp only [List.getElem_toArray, List.getElem_cons_zero, List.getElem_cons_succ, Act.put, List.setIfInBounds_toArray, List.set_cons_zero, List.set_cons_succ]
      refine wpAnyH_take (i := 12) (oi := _) (v := ?v12_84) rfl (by kernel_rfl) (by kernel_rfl) (by kernel_rfl) (fun _ _ _ h => h) (Or.inl ⟨by rfl, ?hy12_84⟩) (by assumption) ?hz12_84
      case hy12_84 => (intro w hSw; (try dsimp only at hSw); go_simp; try with_reducible rfl)
      try simp only [List.getElem_toArray, List.getElem_cons_zero, List.getElem_cons_succ, Act.put, List.setIfInBounds_toArray, List.set_cons_zero, List.set_cons_succ]
      refine wpAnyH_take (i := 13) (oi := _) (v := ?v13_85) rfl (by kernel_rfl) (by kernel_rfl) (by kernel_rfl) (fun _ _ _ h => h) (Or.inl ⟨by rfl, ?hy13_85⟩) (by assumption) ?hz13_85
      case hy13_85 => (intro w hSw; (try dsimp only at hSw); go_simp; try with_reducible rfl)
      try simp only [List.getElem_toArray, List.getElem_cons_zero, List.getElem_cons_succ, Act.put, List.setIfInBounds_toArray, List.set_cons_zero, List.set_cons_succ]
      refine wpAnyH_take (i := 14) (oi := _) (v := ?v14_86) rfl (by kernel_rfl) (by kernel_rfl) (by kernel_rfl) (fun _ _ _ h => h) (Or.inl ⟨by rfl, ?hy14_86⟩) (by assumption) ?hz14_86
      case hy14_86 => (intro w hSw; (try dsimp only at hSw); go_simp; try with_reducible rfl)
      try simp only [List.getElem_toArray, List.getElem_cons_zero, List.getElem_cons_succ, Act.put, List.setIfInBounds_toArray, List.set_cons_zero, List.set_cons_succ]
      refine wpAnyH_take (i := 15) (oi := _) (v := .agg (u8s x).toArray) rfl (by kernel_rfl) (by kernel_rfl) (by kernel_rfl) (fun _ _ _ h => h) ?hy15_87 (by assumption) ?hz15_87
      case hy15_87 => exact yields_row 23 _ (by rfl) (by rfl) (p) (by rfl) (u8s x).toArray _ _ HU.out (by rfl) (row_info HI.out (BX.out).1) (by intro W h; exact h.1)
      try simp only [List.getElem_toArray, List.getElem_cons_zero, List.getElem_cons_succ, Act.put, List.setIfInBounds_toArray, List.set_cons_zero, List.set_cons_succ]
      refine wpAnyH_take (i := 16) (oi := _) (v := .agg (u8s x).toArray) rfl (by kernel_rfl) (by kernel_rfl) (by kernel_rfl) (fun _ _ _ h => h) ?hy16_88 (by assumption) ?hz16_88
      case hy16_88 => exact yields_row 23 _ (by rfl) (by rfl) (p) (by rfl) (u8s x).toArray _ _ HU.out (by rfl) (row_info HI.out (BX.out).1) (by intro W h; exact h.1)
      try simp only [List.getElem_toArray, List.getElem_cons_zero, List.getElem_cons_succ, Act.put, List.setIfInBounds_toArray, List.set_cons_zero, List.set_cons_succ]
      refine wpAnyH_take (i := 18) (oi := _) (v := .agg (u8s zeroB).toArray) rfl (by kernel_rfl) (by kernel_rfl) (by kernel_rfl) (fun _ _ _ h => h) ?hy18_89 (by assumption) ?hz18_89
      case hy18_89 => exact yields_row 23 _ (by rfl) (by rfl) (w11.heap.size) (by rfl) (u8s zeroB).toArray _ _ HU.out (by rfl) (row_info HI.out (by_of _ (by decide)).1) (by intro W h; exact h.2.2.2.1)
      try simp only [List.getElem_toArray, List.getElem_cons_zero, List.getElem_cons_succ, Act.put, List.setIfInBounds_toArray, List.set_cons_zero, List.set_cons_succ]
      refine wpAnyH_ready (rs := [17]) (by kernel_rfl) (by simp) ?_
      refine AllReadyH.cons (i := 17) (o := _) rfl (fun K hK => ?_) AllReadyH.nil
      go_simp; refine (c_add (BX.out) (BX.out) _).mono ?_; rintro e w2 ⟨rfl, k2⟩; go_simp
      refine hK.out _ _ ⟨k2.blk hHeld.1 (fun h => h), k2.blk hHeld.2.1 (fun h => h), k2.blk hHeld.2.2.1 (fun h => h), k2.blk hHeld.2.2.2.1 (fun h => h), hHeld.2.2.2.2.then_ k2⟩ (fun hHeld => ?_)
      clear hK K
      try simp only [List.getElem_toArray, List.getElem_cons_zero, List.getElem_cons_succ, Act.put, List.setIfInBounds_toArray, List.set_cons_zero, List.set_cons_succ]
      refine wpAnyH_take (i := 19) (oi := _) (v := .bool true) rfl (by kernel_rfl) (by kernel_rfl) (by kernel_rfl) (fun _ _ _ h => h) ?hy19_90 (by assumption) ?hz19_90
      case hy19_90 => exact yields_eql 23 5 _ 16 _ _ (by rfl) (by rfl) (addB x x) zeroB (by rfl) (by rfl) HU.out HE.out HZ.out HG.out (addB_by _ _) (by_of _ (by decide)) true (decide_eq_true (addB_self _))
      try simp only [List.getElem_toArray, List.getElem_cons_zero, List.getElem_cons_succ, Act.put, List.setIfInBounds_toArray, List.set_cons_zero, List.set_cons_succ]
      refine wpAnyH_take (i := 20) (oi := _) (v := ?v20_91) rfl (by kernel_rfl) (by kernel_rfl) (by kernel_rfl) (fun _ _ _ h => h) (Or.inl ⟨by rfl, ?hy20_91⟩) (by assumption) ?hz20_91
      case hy20_91 => (intro w hSw; (try dsimp only at hSw); go_simp; try with_reducible rfl)
      try simp only [List.getElem_toArray, List.getElem_cons_zero, List.getElem_cons_succ, Act.put, List.setIfInBounds_toArray, List.set_cons_zero, List.set_cons_succ]
      refine wpAnyH_take (i := 21) (oi := _) (v := ?v21_92) rfl (by kernel_rfl) (by kernel_rfl) (by kernel_rfl) (fun _ _ _ h => h) (Or.inl ⟨by rfl, ?hy21_92⟩) (by assumption) ?hz21_92
      case hy21_92 => (intro w hSw; (try dsimp only at hSw); go_simp; try with_reducible rfl)
      try simp only [List.getElem_toArray, List.getElem_cons_zero, List.getElem_cons_succ, Act.put, List.setIfInBounds_toArray, List.set_cons_zero, List.set_cons_succ]
      refine wpAnyH_ready (rs := [22]) (by kernel_rfl) (by simp) ?_
      refine AllReadyH.cons (i := 22) (o := _) rfl (fun K hK => ?_) AllReadyH.nil
      go_simp; refine (c_sure _).mono ?_; rintro e w3 ⟨rfl, k3⟩; go_simp
      refine hK.out _ _ ⟨k3.blk hHeld.1 (fun h => h), k3.blk hHeld.2.1 (fun h => h), k3.blk hHeld.2.2.1 (fun h => h), k3.blk hHeld.2.2.2.1 (fun h => h), hHeld.2.2.2.2.then_ k3⟩ (fun hHeld => ?_)
      clear hK K
      try simp only [List.getElem_toArray, List.getElem_cons_zero, List.getElem_cons_succ, Act.put, List.setIfInBounds_toArray, List.set_cons_zero, List.set_cons_succ]
      refine wpAnyH_take (i := 23) (oi := _) (v := ?v23_93) rfl (by kernel_rfl) (by kernel_rfl) (by kernel_rfl) (fun _ _ _ h => h) (Or.inl ⟨by rfl, ?hy23_93⟩) (by assumption) ?hz23_93
      case hy23_93 => (intro w hSw; (try dsimp only at hSw); go_simp; try with_reducible rfl)
      try simp only [List.getElem_toArray, List.getElem_cons_zero, List.getElem_cons_succ, Act.put, List.setIfInBounds_toArray, List.set_cons_zero, List.set_cons_succ]
      refine wpAnyH_take (i := 24) (oi := _) (v := ?v24_94) rfl (by kernel_rfl) (by kernel_rfl) (by kernel_rfl) (fun _ _ _ h => h) (Or.inl ⟨by rfl, ?hy24_94⟩) (by assumption) ?hz24_94
      case hy24_94 => (intro w hSw; (try dsimp only at hSw); go_simp; try with_reducible rfl)
      try simp only [List.getElem_toArray, List.getElem_cons_zero, List.getElem_cons_succ, Act.put, List.setIfInBounds_toArray, List.set_cons_zero, List.set_cons_succ]
      refine wpAnyH_done (by kernel_rfl) ?_ _
      go_wp2_with fail
      go_ret
      exact ⟨rfl, hHeld.2.2.2.2⟩
    · have HXZ := Lib.hid hx
      have HYZ := Lib.hid hy
      clear hx hy
      refine wp_region_held_drew (S := (fun W => W.heap[p]? = some (.cells (u8s x).toArray 23 (0, 0)) ∧ W.heap[q]? = some (.cells (u8s y).toArray 23 (0, 0)) ∧ W.heap[r]? = some (.cells (u8s z).toArray 23 (0, 0)) ∧ W.heap[w11.heap.size]? = some (.cells (u8s zeroB).toArray 23 (0, 0)) ∧ Kp No w W)) (by kernel_rfl) ⟨old_at _ hHeld.1, old_at _ hHeld.2.1, old_at _ hHeld.2.2.1, new_is _ rfl, (hHeld.2.2.2.alloc _).drew⟩ (fun hHeld => ?_)
      refine wpAnyH_take (i := 0) (oi := _) (v := .agg (u8s x).toArray) rfl (by kernel_rfl) (by kernel_rfl) (by kernel_rfl) (fun _ _ _ h => h) ?hy0_95 (by assumption) ?hz0_95
      case hy0_95 => exact yields_row 23 _ (by rfl) (by rfl) (p) (by rfl) (u8s x).toArray _ _ HU.out (by rfl) (row_info HI.out (BX.out).1) (by intro W h; exact h.1)
      try simp only [List.getElem_toArray, List.getElem_cons_zero, List.getElem_cons_succ, Act.put, List.setIfInBounds_toArray, List.set_cons_zero, List.set_cons_succ]
      refine wpAnyH_take (i := 1) (oi := _) (v := .agg (u8s y).toArray) rfl (by kernel_rfl) (by kernel_rfl) (by kernel_rfl) (fun _ _ _ h => h) ?hy1_96 (by assumption) ?hz1_96
      case hy1_96 => exact yields_row 23 _ (by rfl) (by rfl) (q) (by rfl) (u8s y).toArray _ _ HU.out (by rfl) (row_info HI.out (BY.out).1) (by intro W h; exact h.2.1)
      try simp only [List.getElem_toArray, List.getElem_cons_zero, List.getElem_cons_succ, Act.put, List.setIfInBounds_toArray, List.set_cons_zero, List.set_cons_succ]
      refine wpAnyH_take (i := 3) (oi := _) (v := .agg (u8s zeroB).toArray) rfl (by kernel_rfl) (by kernel_rfl) (by kernel_rfl) (fun _ _ _ h => h) ?hy3_97 (by assumption) ?hz3_97
      case hy3_97 => exact yields_row 23 _ (by rfl) (by rfl) (w11.heap.size) (by rfl) (u8s zeroB).toArray _ _ HU.out (by rfl) (row_info HI.out (by_of _ (by decide)).1) (by intro W h; exact h.2.2.2.1)
      try simp only [List.getElem_toArray, List.getElem_cons_zero, List.getElem_cons_succ, Act.put, List.setIfInBounds_toArray, List.set_cons_zero, List.set_cons_succ]
      refine wpAnyH_take (i := 5) (oi := _) (v := .agg (u8s x).toArray) rfl (by kernel_rfl) (by kernel_rfl) (by kernel_rfl) (fun _ _ _ h => h) ?hy5_98 (by assumption) ?hz5_98
      case hy5_98 => exact yields_row 23 _ (by rfl) (by rfl) (p) (by rfl) (u8s x).toArray _ _ HU.out (by rfl) (row_info HI.out (BX.out).1) (by intro W h; exact h.1)
      try simp only [List.getElem_toArray, List.getElem_cons_zero, List.getElem_cons_succ, Act.put, List.setIfInBounds_toArray, List.set_cons_zero, List.set_cons_succ]
      refine wpAnyH_take (i := 6) (oi := _) (v := .agg (u8s zeroB).toArray) rfl (by kernel_rfl) (by kernel_rfl) (by kernel_rfl) (fun _ _ _ h => h) ?hy6_99 (by assumption) ?hz6_99
      case hy6_99 => exact yields_row 23 _ (by rfl) (by rfl) (w11.heap.size) (by rfl) (u8s zeroB).toArray _ _ HU.out (by rfl) (row_info HI.out (by_of _ (by decide)).1) (by intro W h; exact h.2.2.2.1)
      try simp only [List.getElem_toArray, List.getElem_cons_zero, List.getElem_cons_succ, Act.put, List.setIfInBounds_toArray, List.set_cons_zero, List.set_cons_succ]
      refine wpAnyH_take (i := 7) (oi := _) (v := .bool false) rfl (by kernel_rfl) (by kernel_rfl) (by kernel_rfl) (fun _ _ _ h => h) ?hy7_100 (by assumption) ?hz7_100
      case hy7_100 => exact yields_eql 23 5 _ 16 _ _ (by rfl) (by rfl) x zeroB (by rfl) (by rfl) HU.out HE.out HZ.out HG.out (BX.out) (by_of _ (by decide)) false (decide_eq_false HXZ.out)
      try simp only [List.getElem_toArray, List.getElem_cons_zero, List.getElem_cons_succ, Act.put, List.setIfInBounds_toArray, List.set_cons_zero, List.set_cons_succ]
      refine wpAnyH_ready (rs := [2]) (by kernel_rfl) (by simp) ?_
      refine AllReadyH.cons (i := 2) (o := _) rfl (fun K hK => ?_) AllReadyH.nil
      go_simp; refine (c_mul (BX.out) (BY.out) _).mono ?_; rintro e w1 ⟨rfl, k1⟩; go_simp
      refine hK.out _ _ ⟨k1.blk hHeld.1 (fun h => h), k1.blk hHeld.2.1 (fun h => h), k1.blk hHeld.2.2.1 (fun h => h), k1.blk hHeld.2.2.2.1 (fun h => h), hHeld.2.2.2.2.then_ k1⟩ (fun hHeld => ?_)
      clear hK K
      try simp only [List.getElem_toArray, List.getElem_cons_zero, List.getElem_cons_succ, Act.put, List.setIfInBounds_toArray, List.set_cons_zero, List.set_cons_succ]
      refine wpAnyH_take (i := 4) (oi := _) (v := .bool false) rfl (by kernel_rfl) (by kernel_rfl) (by kernel_rfl) (fun _ _ _ h => h) ?hy4_101 (by assumption) ?hz4_101
      case hy4_101 => exact yields_eql 23 5 _ 16 _ _ (by rfl) (by rfl) (mulB x y) zeroB (by rfl) (by rfl) HU.out HE.out HZ.out HG.out (mulB_by _ _) (by_of _ (by decide)) false (decide_eq_false (fun h => ((mulB_zero BX.out BY.out).1 h).elim HXZ.out HYZ.out))
      try simp only [List.getElem_toArray, List.getElem_cons_zero, List.getElem_cons_succ, Act.put, List.setIfInBounds_toArray, List.set_cons_zero, List.set_cons_succ]
      refine wpAnyH_take (i := 8) (oi := _) (v := ?v8_102) rfl (by kernel_rfl) (by kernel_rfl) (by kernel_rfl) (fun _ _ _ h => h) (Or.inl ⟨by rfl, ?hy8_102⟩) (by assumption) ?hz8_102
      case hy8_102 => (intro w hSw; (try dsimp only at hSw); go_simp; try with_reducible rfl)
      try simp only [List.getElem_toArray, List.getElem_cons_zero, List.getElem_cons_succ, Act.put, List.setIfInBounds_toArray, List.set_cons_zero, List.set_cons_succ]
      refine wpAnyH_take (i := 9) (oi := _) (v := .agg (u8s y).toArray) rfl (by kernel_rfl) (by kernel_rfl) (by kernel_rfl) (fun _ _ _ h => h) ?hy9_103 (by assumption) ?hz9_103
      case hy9_103 => exact yields_row 23 _ (by rfl) (by rfl) (q) (by rfl) (u8s y).toArray _ _ HU.out (by rfl) (row_info HI.out (BY.out).1) (by intro W h; exact h.2.1)
      try simp only [List.getElem_toArray, List.getElem_cons_zero, List.getElem_cons_succ, Act.put, List.setIfInBounds_toArray, List.set_cons_zero, List.set_cons_succ]
      refine wpAnyH_take (i := 10) (oi := _) (v := .agg (u8s zeroB).toArray) rfl (by kernel_rfl) (by kernel_rfl) (by kernel_rfl) (fun _ _ _ h => h) ?hy10_104 (by assumption) ?hz10_104
      case hy10_104 => exact yields_row 23 _ (by rfl) (by rfl) (w11.heap.size) (by rfl) (u8s zeroB).toArray _ _ HU.out (by rfl) (row_info HI.out (by_of _ (by decide)).1) (by intro W h; exact h.2.2.2.1)
      try simp only [List.getElem_toArray, List.getElem_cons_zero, List.getElem_cons_succ, Act.put, List.setIfInBounds_toArray, List.set_cons_zero, List.set_cons_succ]
      refine wpAnyH_take (i := 11) (oi := _) (v := .bool false) rfl (by kernel_rfl) (by kernel_rfl) (by kernel_rfl) (fun _ _ _ h => h) ?hy11_105 (by assumption) ?hz11_105
      case hy11_105 => exact yields_eql 23 5 _ 16 _ _ (by rfl) (by rfl) y zeroB (by rfl) (by rfl) HU.out HE.out HZ.out HG.out (BY.out) (by_of _ (by decide)) false (decide_eq_false HYZ.out)
      try simp only [List.getElem_toArray, List.getElem_cons_zero, List.getElem_cons_succ, Act.put, List.setIfInBounds_toArray, List.set_cons_zero, List.set_cons_succ]
      refine wpAnyH_take (i := 12) (oi := _) (v := ?v12_106) rfl (by kernel_rfl) (by kernel_rfl) (by kernel_rfl) (fun _ _ _ h => h) (Or.inl ⟨by rfl, ?hy12_106⟩) (by assumption) ?hz12_106
      case hy12_106 => (intro w hSw; (try dsimp only at hSw); go_simp; try with_reducible rfl)
      try simp only [List.getElem_toArray, List.getElem_cons_zero, List.getElem_cons_succ, Act.put, List.setIfInBounds_toArray, List.set_cons_zero, List.set_cons_succ]
      refine wpAnyH_take (i := 13) (oi := _) (v := ?v13_107) rfl (by kernel_rfl) (by kernel_rfl) (by kernel_rfl) (fun _ _ _ h => h) (Or.inl ⟨by rfl, ?hy13_107⟩) (by assumption) ?hz13_107
      case hy13_107 => (intro w hSw; (try dsimp only at hSw); go_simp; try with_reducible rfl)
      try simp only [List.getElem_toArray, List.getElem_cons_zero, List.getElem_cons_succ, Act.put, List.setIfInBounds_toArray, List.set_cons_zero, List.set_cons_succ]
      refine wpAnyH_take (i := 14) (oi := _) (v := ?v14_108) rfl (by kernel_rfl) (by kernel_rfl) (by kernel_rfl) (fun _ _ _ h => h) (Or.inl ⟨by rfl, ?hy14_108⟩) (by assumption) ?hz14_108
      case hy14_108 => (intro w hSw; (try dsimp only at hSw); go_simp; try with_reducible rfl)
      try simp only [List.getElem_toArray, List.getElem_cons_zero, List.getElem_cons_succ, Act.put, List.setIfInBounds_toArray, List.set_cons_zero, List.set_cons_succ]
      refine wpAnyH_take (i := 15) (oi := _) (v := .agg (u8s x).toArray) rfl (by kernel_rfl) (by kernel_rfl) (by kernel_rfl) (fun _ _ _ h => h) ?hy15_109 (by assumption) ?hz15_109
      case hy15_109 => exact yields_row 23 _ (by rfl) (by rfl) (p) (by rfl) (u8s x).toArray _ _ HU.out (by rfl) (row_info HI.out (BX.out).1) (by intro W h; exact h.1)
      try simp only [List.getElem_toArray, List.getElem_cons_zero, List.getElem_cons_succ, Act.put, List.setIfInBounds_toArray, List.set_cons_zero, List.set_cons_succ]
      refine wpAnyH_take (i := 16) (oi := _) (v := .agg (u8s x).toArray) rfl (by kernel_rfl) (by kernel_rfl) (by kernel_rfl) (fun _ _ _ h => h) ?hy16_110 (by assumption) ?hz16_110
      case hy16_110 => exact yields_row 23 _ (by rfl) (by rfl) (p) (by rfl) (u8s x).toArray _ _ HU.out (by rfl) (row_info HI.out (BX.out).1) (by intro W h; exact h.1)
      try simp only [List.getElem_toArray, List.getElem_cons_zero, List.getElem_cons_succ, Act.put, List.setIfInBounds_toArray, List.set_cons_zero, List.set_cons_succ]
      refine wpAnyH_take (i := 18) (oi := _) (v := .agg (u8s zeroB).toArray) rfl (by kernel_rfl) (by kernel_rfl) (by kernel_rfl) (fun _ _ _ h => h) ?hy18_111 (by assumption) ?hz18_111
      case hy18_111 => exact yields_row 23 _ (by rfl) (by rfl) (w11.heap.size) (by rfl) (u8s zeroB).toArray _ _ HU.out (by rfl) (row_info HI.out (by_of _ (by decide)).1) (by intro W h; exact h.2.2.2.1)
      try simp only [List.getElem_toArray, List.getElem_cons_zero, List.getElem_cons_succ, Act.put, List.setIfInBounds_toArray, List.set_cons_zero, List.set_cons_succ]
      refine wpAnyH_ready (rs := [17]) (by kernel_rfl) (by simp) ?_
      refine AllReadyH.cons (i := 17) (o := _) rfl (fun K hK => ?_) AllReadyH.nil
      go_simp; refine (c_add (BX.out) (BX.out) _).mono ?_; rintro e w2 ⟨rfl, k2⟩; go_simp
      refine hK.out _ _ ⟨k2.blk hHeld.1 (fun h => h), k2.blk hHeld.2.1 (fun h => h), k2.blk hHeld.2.2.1 (fun h => h), k2.blk hHeld.2.2.2.1 (fun h => h), hHeld.2.2.2.2.then_ k2⟩ (fun hHeld => ?_)
      clear hK K
      try simp only [List.getElem_toArray, List.getElem_cons_zero, List.getElem_cons_succ, Act.put, List.setIfInBounds_toArray, List.set_cons_zero, List.set_cons_succ]
      refine wpAnyH_take (i := 19) (oi := _) (v := .bool true) rfl (by kernel_rfl) (by kernel_rfl) (by kernel_rfl) (fun _ _ _ h => h) ?hy19_112 (by assumption) ?hz19_112
      case hy19_112 => exact yields_eql 23 5 _ 16 _ _ (by rfl) (by rfl) (addB x x) zeroB (by rfl) (by rfl) HU.out HE.out HZ.out HG.out (addB_by _ _) (by_of _ (by decide)) true (decide_eq_true (addB_self _))
      try simp only [List.getElem_toArray, List.getElem_cons_zero, List.getElem_cons_succ, Act.put, List.setIfInBounds_toArray, List.set_cons_zero, List.set_cons_succ]
      refine wpAnyH_take (i := 20) (oi := _) (v := ?v20_113) rfl (by kernel_rfl) (by kernel_rfl) (by kernel_rfl) (fun _ _ _ h => h) (Or.inl ⟨by rfl, ?hy20_113⟩) (by assumption) ?hz20_113
      case hy20_113 => (intro w hSw; (try dsimp only at hSw); go_simp; try with_reducible rfl)
      try simp only [List.getElem_toArray, List.getElem_cons_zero, List.getElem_cons_succ, Act.put, List.setIfInBounds_toArray, List.set_cons_zero, List.set_cons_succ]
      refine wpAnyH_take (i := 21) (oi := _) (v := ?v21_114) rfl (by kernel_rfl) (by kernel_rfl) (by kernel_rfl) (fun _ _ _ h => h) (Or.inl ⟨by rfl, ?hy21_114⟩) (by assumption) ?hz21_114
      case hy21_114 => (intro w hSw; (try dsimp only at hSw); go_simp; try with_reducible rfl)
      try simp only [List.getElem_toArray, List.getElem_cons_zero, List.getElem_cons_succ, Act.put, List.setIfInBounds_toArray, List.set_cons_zero, List.set_cons_succ]
      refine wpAnyH_ready (rs := [22]) (by kernel_rfl) (by simp) ?_
      refine AllReadyH.cons (i := 22) (o := _) rfl (fun K hK => ?_) AllReadyH.nil
      go_simp; refine (c_sure _).mono ?_; rintro e w3 ⟨rfl, k3⟩; go_simp
      refine hK.out _ _ ⟨k3.blk hHeld.1 (fun h => h), k3.blk hHeld.2.1 (fun h => h), k3.blk hHeld.2.2.1 (fun h => h), k3.blk hHeld.2.2.2.1 (fun h => h), hHeld.2.2.2.2.then_ k3⟩ (fun hHeld => ?_)
      clear hK K
      try simp only [List.getElem_toArray, List.getElem_cons_zero, List.getElem_cons_succ, Act.put, List.setIfInBounds_toArray, List.set_cons_zero, List.set_cons_succ]
      refine wpAnyH_take (i := 23) (oi := _) (v := ?v23_115) rfl (by kernel_rfl) (by kernel_rfl) (by kernel_rfl) (fun _ _ _ h => h) (Or.inl ⟨by rfl, ?hy23_115⟩) (by assumption) ?hz23_115
      case hy23_115 => (intro w hSw; (try dsimp only at hSw); go_simp; try with_reducible rfl)
      try simp only [List.getElem_toArray, List.getElem_cons_zero, List.getElem_cons_succ, Act.put, List.setIfInBounds_toArray, List.set_cons_zero, List.set_cons_succ]
      refine wpAnyH_take (i := 24) (oi := _) (v := ?v24_116) rfl (by kernel_rfl) (by kernel_rfl) (by kernel_rfl) (fun _ _ _ h => h) (Or.inl ⟨by rfl, ?hy24_116⟩) (by assumption) ?hz24_116
      case hy24_116 => (intro w hSw; (try dsimp only at hSw); go_simp; try with_reducible rfl)
      try simp only [List.getElem_toArray, List.getElem_cons_zero, List.getElem_cons_succ, Act.put, List.setIfInBounds_toArray, List.set_cons_zero, List.set_cons_succ]
      refine wpAnyH_done (by kernel_rfl) ?_ _
      go_wp2_with fail
      go_ret
      exact ⟨rfl, hHeld.2.2.2.2⟩

end Go.Proofs.Ytfoenaleboodpaa
