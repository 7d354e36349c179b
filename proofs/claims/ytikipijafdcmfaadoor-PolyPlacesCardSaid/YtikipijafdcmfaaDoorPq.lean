/- The bodies of PolyEvals, PolyPlaces, PolyAlone, PolyProducts. -/
import Derived.Test.YtikipijafdcmfaaDoorPo
set_option linter.unusedVariables false
set_option linter.unusedSimpArgs false
namespace Go.Proofs.YtikipijafdcmfaaDoor
open Go.RowKit Gm
set_option maxRecDepth 100000 in
set_option maxHeartbeats 2000000 in
theorem num01_nil  (w : World)  : Ret Tryd.prog 13 #[.nilIface] w (fun v w' => v = .int .i64 0 ∧ Kp No w w') := by
  have kk0 := Kp.refl No w
  refine enter (n := 10) [.nilIface] Tryd.func13 rfl rfl rfl ?_
  show Cw _ _ _ _ [(0, .nilIface)] _
  refine C_seq (fun K1 hK1 => ?_)
  refine C_region ?_
  refine R_pu (pu_assign rfl) rfl ?_
  refine R_nil ?_
  refine X_then hK1 ?_
  refine C_seq (fun K2 hK2 => ?_)
  refine C_region ?_
  refine R_lo (lo_alloc (L := [.int .i64 0]) (by kernel_rfl)) rfl ?_
  rintro _ w1 ⟨p1_0, rfl, N1⟩
  have k1 := N1.kp
  have kk1 := kk0.then_ k1
  have f_p1_0_1 : Bk w1 p1_0 ([.int .i64 0]) 69 := N1.bk
  refine R_nil ?_
  refine X_then hK2 ?_
  refine C_seq (fun K3 hK3 => ?_)
  refine C_seq (fun K4 hK4 => ?_)
  refine C_region ?_
  refine R_pu (pu_move rfl) rfl ?_
  refine R_pu (pu_eqlnn (by kernel_rfl) rfl) rfl ?_
  refine R_nil ?_
  refine X_then hK4 ?_
  refine C_true rfl ?_
  refine C_seq (fun K5 hK5 => ?_)
  refine C_region ?_
  refine R_pu (pu_assign rfl) rfl ?_
  refine R_nil ?_
  refine X_then hK5 ?_
  refine C_ret ?_
  refine X_then_ret ?_
  exact X_ret1 (.inl rfl) rfl rfl ⟨rfl, kk1⟩
set_option maxRecDepth 100000 in
set_option maxHeartbeats 2000000 in
theorem num01_err (e : Int) (w : World) (hG : Gt w) : Ret Tryd.prog 13 #[.iface 69 (.int .i64 (e))] w (fun v w' => v = .int .i64 e ∧ Kp No w w') := by
  have kk0 := Kp.refl No w
  refine enter (n := 10) [.iface 69 (.int .i64 (e))] Tryd.func13 rfl rfl rfl ?_
  show Cw _ _ _ _ [(0, .iface 69 (.int .i64 (e)))] _
  refine C_seq (fun K1 hK1 => ?_)
  refine C_region ?_
  refine R_pu (pu_assign rfl) rfl ?_
  refine R_nil ?_
  refine X_then hK1 ?_
  refine C_seq (fun K2 hK2 => ?_)
  refine C_region ?_
  refine R_lo (lo_alloc (L := [.int .i64 0]) (by kernel_rfl)) rfl ?_
  rintro _ w1 ⟨p1_0, rfl, N1⟩
  have k1 := N1.kp
  have kk1 := kk0.then_ k1
  have ne_p1_0_0 : p1_0 ≠ 0 := Nat.ne_of_gt (Nat.lt_of_lt_of_le hG.lt N1.le)
  have f_p1_0_1 : Bk w1 p1_0 ([.int .i64 0]) 69 := N1.bk
  refine R_nil ?_
  refine X_then hK2 ?_
  refine C_seq (fun K3 hK3 => ?_)
  refine C_seq (fun K4 hK4 => ?_)
  refine C_region ?_
  refine R_pu (pu_move rfl) rfl ?_
  refine R_pu (pu_eqlin (by kernel_rfl) rfl rfl) rfl ?_
  refine R_nil ?_
  refine X_then hK4 ?_
  refine C_false rfl ?_
  refine C_skip ?_
  refine X_then hK3 ?_
  refine C_seq (fun K5 hK5 => ?_)
  refine C_seq (fun K6 hK6 => ?_)
  refine C_region ?_
  refine R_pu (pu_move rfl) rfl ?_
  refine R_pu (pu_makeInterface Tryd.underlying73 rfl rfl) rfl ?_
  have o7 : Gt w1 := (hG.no k1)
  refine R_lo (lo_call (by kernel_rfl) rfl (as_ret e p1_0 _ _ o7 f_p1_0_1)) rfl ?_
  rintro _ w2 ⟨rfl, B2, k2⟩
  have kk2 := kk1.trans k2 (fun i hi => .inr (hi ▸ (Nat.le_trans kk0.size N1.le)))
  refine R_nil ?_
  refine X_then hK6 ?_
  refine C_true rfl ?_
  refine C_seq (fun K8 hK8 => ?_)
  refine C_region ?_
  refine R_pu (pu_loadK B2 (by kernel_rfl) rfl rfl) rfl ?_
  refine R_pu (pu_assign rfl) rfl ?_
  refine R_nil ?_
  refine X_then hK8 ?_
  refine C_ret ?_
  refine X_then_ret ?_
  exact X_ret1 (.inl rfl) rfl rfl ⟨rfl, kk2⟩
set_option maxRecDepth 100000 in
set_option maxHeartbeats 2000000 in
theorem num02_nil  (w : World)  : Ret Tryd.prog 32 #[.nilIface] w (fun v w' => v = .int .i64 0 ∧ Kp No w w') := by
  have kk0 := Kp.refl No w
  refine enter (n := 10) [.nilIface] Tryd.func32 rfl rfl rfl ?_
  show Cw _ _ _ _ [(0, .nilIface)] _
  refine C_seq (fun K1 hK1 => ?_)
  refine C_region ?_
  refine R_pu (pu_assign rfl) rfl ?_
  refine R_nil ?_
  refine X_then hK1 ?_
  refine C_seq (fun K2 hK2 => ?_)
  refine C_region ?_
  refine R_lo (lo_alloc (L := [.int .i64 0]) (by kernel_rfl)) rfl ?_
  rintro _ w1 ⟨p1_0, rfl, N1⟩
  have k1 := N1.kp
  have kk1 := kk0.then_ k1
  have f_p1_0_1 : Bk w1 p1_0 ([.int .i64 0]) 69 := N1.bk
  refine R_nil ?_
  refine X_then hK2 ?_
  refine C_seq (fun K3 hK3 => ?_)
  refine C_seq (fun K4 hK4 => ?_)
  refine C_region ?_
  refine R_pu (pu_move rfl) rfl ?_
  refine R_pu (pu_eqlnn (by kernel_rfl) rfl) rfl ?_
  refine R_nil ?_
  refine X_then hK4 ?_
  refine C_true rfl ?_
  refine C_seq (fun K5 hK5 => ?_)
  refine C_region ?_
  refine R_pu (pu_assign rfl) rfl ?_
  refine R_nil ?_
  refine X_then hK5 ?_
  refine C_ret ?_
  refine X_then_ret ?_
  exact X_ret1 (.inl rfl) rfl rfl ⟨rfl, kk1⟩
set_option maxRecDepth 100000 in
set_option maxHeartbeats 2000000 in
theorem num02_err (e : Int) (w : World) (hG : Gt w) : Ret Tryd.prog 32 #[.iface 69 (.int .i64 (e))] w (fun v w' => v = .int .i64 e ∧ Kp No w w') := by
  have kk0 := Kp.refl No w
  refine enter (n := 10) [.iface 69 (.int .i64 (e))] Tryd.func32 rfl rfl rfl ?_
  show Cw _ _ _ _ [(0, .iface 69 (.int .i64 (e)))] _
  refine C_seq (fun K1 hK1 => ?_)
  refine C_region ?_
  refine R_pu (pu_assign rfl) rfl ?_
  refine R_nil ?_
  refine X_then hK1 ?_
  refine C_seq (fun K2 hK2 => ?_)
  refine C_region ?_
  refine R_lo (lo_alloc (L := [.int .i64 0]) (by kernel_rfl)) rfl ?_
  rintro _ w1 ⟨p1_0, rfl, N1⟩
  have k1 := N1.kp
  have kk1 := kk0.then_ k1
  have ne_p1_0_0 : p1_0 ≠ 0 := Nat.ne_of_gt (Nat.lt_of_lt_of_le hG.lt N1.le)
  have f_p1_0_1 : Bk w1 p1_0 ([.int .i64 0]) 69 := N1.bk
  refine R_nil ?_
  refine X_then hK2 ?_
  refine C_seq (fun K3 hK3 => ?_)
  refine C_seq (fun K4 hK4 => ?_)
  refine C_region ?_
  refine R_pu (pu_move rfl) rfl ?_
  refine R_pu (pu_eqlin (by kernel_rfl) rfl rfl) rfl ?_
  refine R_nil ?_
  refine X_then hK4 ?_
  refine C_false rfl ?_
  refine C_skip ?_
  refine X_then hK3 ?_
  refine C_seq (fun K5 hK5 => ?_)
  refine C_seq (fun K6 hK6 => ?_)
  refine C_region ?_
  refine R_pu (pu_move rfl) rfl ?_
  refine R_pu (pu_makeInterface Tryd.underlying73 rfl rfl) rfl ?_
  have o7 : Gt w1 := (hG.no k1)
  refine R_lo (lo_call (by kernel_rfl) rfl (as_ret e p1_0 _ _ o7 f_p1_0_1)) rfl ?_
  rintro _ w2 ⟨rfl, B2, k2⟩
  have kk2 := kk1.trans k2 (fun i hi => .inr (hi ▸ (Nat.le_trans kk0.size N1.le)))
  refine R_nil ?_
  refine X_then hK6 ?_
  refine C_true rfl ?_
  refine C_seq (fun K8 hK8 => ?_)
  refine C_region ?_
  refine R_pu (pu_loadK B2 (by kernel_rfl) rfl rfl) rfl ?_
  refine R_pu (pu_assign rfl) rfl ?_
  refine R_nil ?_
  refine X_then hK8 ?_
  refine C_ret ?_
  refine X_then_ret ?_
  exact X_ret1 (.inl rfl) rfl rfl ⟨rfl, kk2⟩
theorem may12 : May [1, 2] := ⟨fun i j h1 h2 => by
  have : j < 2 := h2
  obtain rfl : j = 1 := by omega
  obtain rfl : i = 0 := by omega
  decide, by decide, by decide⟩
theorem no11 : ¬ May [1, 1] := fun h => h.1 0 1 (by decide) (by decide) rfl
def evL (c xs : List Nat) (k : Nat) : List Nat := (List.range k).map fun j => hE c (xs.getD j 0)
theorem evL_length (c xs : List Nat) (k : Nat) : (evL c xs k).length = k := by simp [evL]
theorem evL_snoc {c xs : List Nat} {k n : Nat} (h : xs[k]? = some n) : evL c xs k ++ [hE c n] = evL c xs (k + 1) := by unfold evL; rw [List.range_succ, List.map_append, ← getD_some h]; rfl
theorem evL_getD {c xs : List Nat} {k j : Nat} (h : j < k) : (evL c xs k).getD j 0 = hE c (xs.getD j 0) := by simp [evL, List.getD_eq_getElem?_getD, List.getElem?_map, List.getElem?_range h]
theorem evL_bl {c : List Nat} (hc : Bl c) (xs : List Nat) (k : Nat) : Bl (evL c xs k) := fun n hn => by obtain ⟨j, _, rfl⟩ := List.mem_map.1 hn; exact hE_lt hc _
set_option maxRecDepth 100000 in
set_option maxHeartbeats 2000000 in
theorem sure02  (w : World) (hG : Gt w) : Ret Tryd.prog 23 #[] w (fun v w' => v = .bool true ∧ Kp No w w') := by
  have kk0 := Kp.refl No w
  refine enter (n := 45) [] Tryd.func23 rfl rfl rfl ?_
  show Cw _ _ _ _ [] _
  refine C_seq (fun K1 hK1 => ?_)
  refine C_region ?_
  refine R_pu (pu_assign rfl) rfl ?_
  refine R_nil ?_
  refine X_then hK1 ?_
  refine C_seq (fun K2 hK2 => ?_)
  refine C_region ?_
  refine R_lo (lo_call (by kernel_rfl) rfl (gf_new _)) rfl ?_
  rintro _ w1 ⟨b1_0, rfl, le1, T1, k1⟩
  have kk1 := kk0.then_ k1
  have ne_b1_0_0 : b1_0 ≠ 0 := Nat.ne_of_gt (Nat.lt_of_lt_of_le hG.lt le1)
  refine R_pu (pu_assign rfl) rfl ?_
  refine R_nil ?_
  refine X_then hK2 ?_
  refine C_seq (fun K3 hK3 => ?_)
  refine C_region ?_
  refine R_pu (pu_move rfl) rfl ?_
  have o4 : Gt w1 := (hG.no k1)
  refine R_lo (lo_buildSlice (L := u8s ([1, 2])) Tryd.underlying41 rfl (by kernel_rfl)) rfl ?_
  rintro _ w2 ⟨p2_1, rfl, N2⟩
  have k2 := N2.kp
  have kk2 := kk1.then_ k2
  have ne_p2_1_0 : p2_1 ≠ 0 := Nat.ne_of_gt (Nat.lt_of_lt_of_le o4.lt N2.le)
  have ne_p2_1_b1_0 : p2_1 ≠ b1_0 := Nat.ne_of_gt (Nat.lt_of_lt_of_le T1.lt N2.le)
  have f_p2_1_2 : Bk w2 p2_1 (u8s ([1, 2])) 5 := N2.bk
  have o5 : Gt w2 := (o4.no k2)
  have o6 : Tb w2 b1_0 := (T1.no k2)
  refine R_lo (lo_buildSlice (L := u8s ([6, 3])) Tryd.underlying41 rfl (by kernel_rfl)) rfl ?_
  rintro _ w3 ⟨p2_2, rfl, N3⟩
  have k3 := N3.kp
  have kk3 := kk2.then_ k3
  have ne_p2_2_p2_1 : p2_2 ≠ p2_1 := Nat.ne_of_gt (Nat.lt_of_lt_of_le f_p2_1_2.lt N3.le)
  have ne_p2_2_0 : p2_2 ≠ 0 := Nat.ne_of_gt (Nat.lt_of_lt_of_le o5.lt N3.le)
  have ne_p2_2_b1_0 : p2_2 ≠ b1_0 := Nat.ne_of_gt (Nat.lt_of_lt_of_le o6.lt N3.le)
  have f_p2_2_3 : Bk w3 p2_2 (u8s ([6, 3])) 5 := N3.bk
  have f7 : Bk w3 p2_1 (u8s ([1, 2])) 5 := (f_p2_1_2.no k3)
  have o8 : Tb w3 b1_0 := (o6.no k3)
  refine R_lo (lo_callE (by kernel_rfl) rfl (by rw [(show By 2 [1, 2] from by_lit _ (by decide)).1, (show By 2 [6, 3] from by_lit _ (by decide)).1] <;> rfl) (poly_interp b1_0 (some ⟨p2_1, 0, none⟩) ([1, 2]) 2 (some ⟨p2_2, 0, none⟩) ([6, 3]) 2 0 (by decide) _ (Bs.ofBk f7 (show By 2 [1, 2] from by_lit _ (by decide))) (Nat.le_of_eq (show By 2 [1, 2] from by_lit _ (by decide)).1) (Bs.ofBk f_p2_2_3 (show By 2 [6, 3] from by_lit _ (by decide))) (Nat.le_of_eq (show By 2 [6, 3] from by_lit _ (by decide)).1) (by have hm_ := (may12).2; omega) (by first | omega | (simp; done) | (simp; omega)) may12 rfl (Aw.ofBk ne_p2_1_b1_0) (Aw.ofBk ne_p2_2_b1_0) o8)) rfl ?_
  rintro _ w4 ⟨rfl, T4, k4⟩
  have kk4 := kk3.trans k4 (fun i hi => .inr (hi ▸ (Nat.le_trans kk0.size le1)))
  refine R_pu (pu_move rfl) rfl ?_
  refine R_pu (pu_extract rfl rfl) rfl ?_
  refine R_pu (pu_extract rfl rfl) rfl ?_
  refine R_pu (pu_assign rfl) rfl ?_
  refine R_pu (pu_assign rfl) rfl ?_
  refine R_nil ?_
  refine X_then hK3 ?_
  refine C_seq (fun K9 hK9 => ?_)
  refine C_region ?_
  refine R_pu (pu_move rfl) rfl ?_
  have f10 : Bk w4 p2_1 (u8s ([1, 2])) 5 := (f7.on k4 ne_p2_1_b1_0)
  have f11 : Bk w4 p2_2 (u8s ([6, 3])) 5 := (f_p2_2_3.on k4 ne_p2_2_b1_0)
  have o12 : Gt w4 := ((o5.no k3).on k4 (Ne.symm ne_b1_0_0))
  refine R_lo (lo_buildSlice (L := u8s ([1, 1])) Tryd.underlying41 rfl (by kernel_rfl)) rfl ?_
  rintro _ w5 ⟨p3_1, rfl, N5⟩
  have k5 := N5.kp
  have kk5 := kk4.then_ k5
  have ne_p3_1_p2_1 : p3_1 ≠ p2_1 := Nat.ne_of_gt (Nat.lt_of_lt_of_le f10.lt N5.le)
  have ne_p3_1_p2_2 : p3_1 ≠ p2_2 := Nat.ne_of_gt (Nat.lt_of_lt_of_le f11.lt N5.le)
  have ne_p3_1_0 : p3_1 ≠ 0 := Nat.ne_of_gt (Nat.lt_of_lt_of_le o12.lt N5.le)
  have ne_p3_1_b1_0 : p3_1 ≠ b1_0 := Nat.ne_of_gt (Nat.lt_of_lt_of_le T4.lt N5.le)
  have f_p3_1_5 : Bk w5 p3_1 (u8s ([1, 1])) 5 := N5.bk
  refine R_lo (lo_callE (by kernel_rfl) rfl (by rw [(show By 2 [1, 1] from by_lit _ (by decide)).1] <;> rfl) (poly_weights_no b1_0 (some ⟨p3_1, 0, none⟩) ([1, 1]) 2 0 (by decide) _ (Bs.ofBk f_p3_1_5 (show By 2 [1, 1] from by_lit _ (by decide))) (Nat.le_of_eq (show By 2 [1, 1] from by_lit _ (by decide)).1) (by first | omega | (simp; done)) no11)) rfl ?_
  rintro _ w6 ⟨rfl, k6⟩
  have kk6 := kk5.then_ k6
  refine R_pu (pu_move rfl) rfl ?_
  refine R_pu (pu_extract rfl rfl) rfl ?_
  refine R_pu (pu_extract rfl rfl) rfl ?_
  refine R_pu (pu_assign rfl) rfl ?_
  refine R_pu (pu_assign rfl) rfl ?_
  refine R_nil ?_
  refine X_then hK9 ?_
  refine C_seq (fun K13 hK13 => ?_)
  refine C_region ?_
  refine R_pu (pu_move rfl) rfl ?_
  have f14 : Bk w6 p2_1 (u8s ([1, 2])) 5 := ((f10.no k5).no k6)
  have f15 : Bk w6 p2_2 (u8s ([6, 3])) 5 := ((f11.no k5).no k6)
  have f16 : Bk w6 p3_1 (u8s ([1, 1])) 5 := (f_p3_1_5.no k6)
  have o17 : Gt w6 := ((o12.no k5).no k6)
  have o18 : Tb w6 b1_0 := ((T4.no k5).no k6)
  refine R_lo (lo_buildSlice (L := u8s ([5, 3])) Tryd.underlying41 rfl (by kernel_rfl)) rfl ?_
  rintro _ w7 ⟨p4_1, rfl, N7⟩
  have k7 := N7.kp
  have kk7 := kk6.then_ k7
  have ne_p4_1_p2_1 : p4_1 ≠ p2_1 := Nat.ne_of_gt (Nat.lt_of_lt_of_le f14.lt N7.le)
  have ne_p4_1_p2_2 : p4_1 ≠ p2_2 := Nat.ne_of_gt (Nat.lt_of_lt_of_le f15.lt N7.le)
  have ne_p4_1_p3_1 : p4_1 ≠ p3_1 := Nat.ne_of_gt (Nat.lt_of_lt_of_le f16.lt N7.le)
  have ne_p4_1_0 : p4_1 ≠ 0 := Nat.ne_of_gt (Nat.lt_of_lt_of_le o17.lt N7.le)
  have ne_p4_1_b1_0 : p4_1 ≠ b1_0 := Nat.ne_of_gt (Nat.lt_of_lt_of_le o18.lt N7.le)
  have f_p4_1_7 : Bk w7 p4_1 (u8s ([5, 3])) 5 := N7.bk
  have o19 : Tb w7 b1_0 := (o18.no k7)
  refine R_lo (lo_callE (by kernel_rfl) rfl (by rw [(show By 2 [5, 3] from by_lit _ (by decide)).1] <;> rfl) (poly_eval b1_0 (some ⟨p4_1, 0, none⟩) ([5, 3]) 2 2 (by decide) _ (Bs.ofBk f_p4_1_7 (show By 2 [5, 3] from by_lit _ (by decide))) (Nat.le_of_eq (show By 2 [5, 3] from by_lit _ (by decide)).1) (by first | omega | (simp; done)) (Aw.ofBk ne_p4_1_b1_0) o19)) rfl ?_
  rintro _ w8 ⟨rfl, T8, k8⟩
  have kk8 := kk7.trans k8 (fun i hi => .inr (hi ▸ (Nat.le_trans kk0.size le1)))
  refine R_pu (pu_true (pu_eql (p := (hE ([5, 3]) 2) = 3) rfl rfl (by omega)) (by decide +kernel)) rfl ?_
  refine R_pu (pu_move rfl) rfl ?_
  refine R_gpu rfl rfl (pu_move rfl) rfl ?_
  refine R_gpu rfl rfl (pu_eqlnn (by kernel_rfl) rfl) rfl ?_
  refine R_pu (pu_pickt rfl rfl) rfl ?_
  refine R_pu (pu_move rfl) rfl ?_
  refine R_gpu rfl rfl (pu_move rfl) rfl ?_
  refine R_gpu rfl rfl (pu_true (pu_eql (p := (ipN ([1, 2]) ([6, 3]) 0 ([1, 2]).length) = 5) rfl rfl (by omega)) (by decide +kernel)) rfl ?_
  refine R_pu (pu_pickt rfl rfl) rfl ?_
  refine R_pu (pu_move rfl) rfl ?_
  refine R_gpu rfl rfl (pu_move rfl) rfl ?_
  have o20 : Gt w8 := ((o17.no k7).on k8 (Ne.symm ne_b1_0_0))
  refine R_glo rfl rfl (lo_call (by kernel_rfl) rfl (num02_err 1 _ o20)) rfl ?_
  rintro _ w9 ⟨rfl, k9⟩
  have kk9 := kk8.then_ k9
  refine R_gpu rfl rfl (pu_true (pu_eql (p := (1 : Nat) = 1) rfl rfl (by omega)) (by decide)) rfl ?_
  refine R_pu (pu_pickt rfl rfl) rfl ?_
  refine R_pu (pu_move rfl) rfl ?_
  refine R_gpu rfl rfl (pu_move rfl) rfl ?_
  have f21 : Bk w9 p2_1 (u8s ([1, 2])) 5 := (((f14.no k7).on k8 ne_p2_1_b1_0).no k9)
  have f22 : Bk w9 p2_2 (u8s ([6, 3])) 5 := (((f15.no k7).on k8 ne_p2_2_b1_0).no k9)
  have f23 : Bk w9 p3_1 (u8s ([1, 1])) 5 := (((f16.no k7).on k8 ne_p3_1_b1_0).no k9)
  have f24 : Bk w9 p4_1 (u8s ([5, 3])) 5 := ((f_p4_1_7.on k8 ne_p4_1_b1_0).no k9)
  have o25 : Gt w9 := (o20.no k9)
  have o26 : Tb w9 b1_0 := (T8.no k9)
  refine R_glo rfl rfl (lo_buildSlice (L := u8s ([0, 1])) Tryd.underlying41 rfl (by kernel_rfl)) rfl ?_
  rintro _ w10 ⟨p4_19, rfl, N10⟩
  have k10 := N10.kp
  have kk10 := kk9.then_ k10
  have ne_p4_19_p2_1 : p4_19 ≠ p2_1 := Nat.ne_of_gt (Nat.lt_of_lt_of_le f21.lt N10.le)
  have ne_p4_19_p2_2 : p4_19 ≠ p2_2 := Nat.ne_of_gt (Nat.lt_of_lt_of_le f22.lt N10.le)
  have ne_p4_19_p3_1 : p4_19 ≠ p3_1 := Nat.ne_of_gt (Nat.lt_of_lt_of_le f23.lt N10.le)
  have ne_p4_19_p4_1 : p4_19 ≠ p4_1 := Nat.ne_of_gt (Nat.lt_of_lt_of_le f24.lt N10.le)
  have ne_p4_19_0 : p4_19 ≠ 0 := Nat.ne_of_gt (Nat.lt_of_lt_of_le o25.lt N10.le)
  have ne_p4_19_b1_0 : p4_19 ≠ b1_0 := Nat.ne_of_gt (Nat.lt_of_lt_of_le o26.lt N10.le)
  have f_p4_19_10 : Bk w10 p4_19 (u8s ([0, 1])) 5 := N10.bk
  have f27 : Bk w10 p2_1 (u8s ([1, 2])) 5 := (f21.no k10)
  have f28 : Bk w10 p2_2 (u8s ([6, 3])) 5 := (f22.no k10)
  have f29 : Bk w10 p3_1 (u8s ([1, 1])) 5 := (f23.no k10)
  have f30 : Bk w10 p4_1 (u8s ([5, 3])) 5 := (f24.no k10)
  have o31 : Gt w10 := (o25.no k10)
  have o32 : Tb w10 b1_0 := (o26.no k10)
  refine R_glo rfl rfl (lo_buildSlice (L := u8s ([7])) Tryd.underlying41 rfl (by kernel_rfl)) rfl ?_
  rintro _ w11 ⟨p4_20, rfl, N11⟩
  have k11 := N11.kp
  have kk11 := kk10.then_ k11
  have ne_p4_20_p2_1 : p4_20 ≠ p2_1 := Nat.ne_of_gt (Nat.lt_of_lt_of_le f27.lt N11.le)
  have ne_p4_20_p2_2 : p4_20 ≠ p2_2 := Nat.ne_of_gt (Nat.lt_of_lt_of_le f28.lt N11.le)
  have ne_p4_20_p3_1 : p4_20 ≠ p3_1 := Nat.ne_of_gt (Nat.lt_of_lt_of_le f29.lt N11.le)
  have ne_p4_20_p4_1 : p4_20 ≠ p4_1 := Nat.ne_of_gt (Nat.lt_of_lt_of_le f30.lt N11.le)
  have ne_p4_20_p4_19 : p4_20 ≠ p4_19 := Nat.ne_of_gt (Nat.lt_of_lt_of_le f_p4_19_10.lt N11.le)
  have ne_p4_20_0 : p4_20 ≠ 0 := Nat.ne_of_gt (Nat.lt_of_lt_of_le o31.lt N11.le)
  have ne_p4_20_b1_0 : p4_20 ≠ b1_0 := Nat.ne_of_gt (Nat.lt_of_lt_of_le o32.lt N11.le)
  have f_p4_20_11 : Bk w11 p4_20 (u8s ([7])) 5 := N11.bk
  have f33 : Bk w11 p4_19 (u8s ([0, 1])) 5 := (f_p4_19_10.no k11)
  have f34 : Bk w11 p2_1 (u8s ([1, 2])) 5 := (f27.no k11)
  have f35 : Bk w11 p2_2 (u8s ([6, 3])) 5 := (f28.no k11)
  have f36 : Bk w11 p3_1 (u8s ([1, 1])) 5 := (f29.no k11)
  have f37 : Bk w11 p4_1 (u8s ([5, 3])) 5 := (f30.no k11)
  have o38 : Gt w11 := (o31.no k11)
  have o39 : Tb w11 b1_0 := (o32.no k11)
  refine R_glo rfl rfl (lo_callE (by kernel_rfl) rfl (by rw [(show By 2 [0, 1] from by_lit _ (by decide)).1, (show By 1 [7] from by_lit _ (by decide)).1] <;> rfl) (poly_mul b1_0 (some ⟨p4_19, 0, none⟩) ([0, 1]) 2 (some ⟨p4_20, 0, none⟩) ([7]) 1 _ (Bs.ofBk f33 (show By 2 [0, 1] from by_lit _ (by decide))) (Nat.le_of_eq (show By 2 [0, 1] from by_lit _ (by decide)).1) (Bs.ofBk f_p4_20_11 (show By 1 [7] from by_lit _ (by decide))) (Nat.le_of_eq (show By 1 [7] from by_lit _ (by decide)).1) (by first | omega | (simp; done) | (simp; omega)) (by first | omega | (simp; done) | (simp; omega)) (Aw.ofBk ne_p4_19_b1_0) (Aw.ofBk ne_p4_20_b1_0) o39)) rfl ?_
  rintro _ w12 ⟨A_ml4_21, c_ml4_21, rfl, Q12, T12, k12⟩
  have kk12 := kk11.trans k12 (fun i hi => .inr (hi ▸ (Nat.le_trans kk0.size le1)))
  have z40 : w11.heap.size ≤ w12.heap.size := k12.size
  refine R_gpu rfl rfl (pu_bstr Q12.bs Tryd.underlying41 Tryd.underlying5 Tryd.underlying9 rfl rfl) rfl ?_
  refine R_gpu rfl rfl (pu_true (pu_eqls (p := mulc [0, 1] [7] = [0, 7]) rfl (by kernel_rfl) (bstr_inj (Q12.bs).byte (by decide))) (by decide +kernel)) rfl ?_
  refine R_pu (pu_pickt rfl rfl) rfl ?_
  refine R_pu (pu_assign rfl) rfl ?_
  refine R_nil ?_
  refine X_then hK13 ?_
  refine C_ret ?_
  exact X_ret1 (.inl rfl) rfl rfl ⟨rfl, kk12⟩
set_option maxRecDepth 100000 in
set_option maxHeartbeats 2000000 in
theorem polyEvals_ (A : Option Addr) (l : List Nat) (c : Nat) (A2 : Option Addr) (m : List Nat) (c2 : Nat) (x : Nat) (hx : x < 256) (w : World) (HB : Bs w A l) (hc : l.length ≤ c) (HB2 : Bs w A2 m) (hc2 : m.length ≤ c2) (hG : Gt w) : Ret Tryd.prog 5 #[.slice A (l.length) (c), .slice A2 (m.length) (c2), .int .u8 ((x : Nat) : Int)] w (fun v w' => v = .bool true ∧ Kp No w w') := by
  have kk0 := Kp.refl No w
  refine enter (n := 54) [.slice A (l.length) (c), .slice A2 (m.length) (c2), .int .u8 ((x : Nat) : Int)] Tryd.func5 rfl rfl rfl ?_
  show Cw _ _ _ _ [(0, .slice A (l.length) (c)), (1, .slice A2 (m.length) (c2)), (2, .int .u8 ((x : Nat) : Int))] _
  refine C_seq (fun K1 hK1 => ?_)
  refine C_region ?_
  refine R_pu (pu_assign rfl) rfl ?_
  refine R_nil ?_
  refine X_then hK1 ?_
  refine C_seq (fun K2 hK2 => ?_)
  refine C_seq (fun K3 hK3 => ?_)
  refine C_region ?_
  refine R_pu (pu_move rfl) rfl ?_
  refine R_pu (pu_len Tryd.underlying41 rfl) rfl ?_
  refine R_pu (pu_gtr (p := l.length > 200) rfl rfl (by omega)) rfl ?_
  by_cases g1_3 : l.length > 200
  · refine R_pu (pu_true (pu_move rfl) g1_3) rfl ?_
    refine R_gno rfl rfl rfl rfl ?_
    refine R_gno rfl rfl rfl rfl ?_
    refine R_gno rfl rfl rfl rfl ?_
    refine R_pu (pu_pickt rfl rfl) rfl ?_
    refine R_nil ?_
    refine X_then hK3 ?_
    refine C_true rfl ?_
    refine C_seq (fun K4 hK4 => ?_)
    refine C_region ?_
    refine R_lo (lo_call (by kernel_rfl) rfl (sure02 _ hG)) rfl ?_
    rintro _ w1 ⟨rfl, k1⟩
    have kk1 := kk0.then_ k1
    refine R_pu (pu_assign rfl) rfl ?_
    refine R_nil ?_
    refine X_then hK4 ?_
    refine C_ret ?_
    refine X_then_ret ?_
    exact X_ret1 (.inl rfl) rfl rfl ⟨rfl, kk1⟩
  · refine R_pu (pu_false (pu_move rfl) g1_3) rfl ?_
    refine R_gpu rfl rfl (pu_move rfl) rfl ?_
    refine R_gpu rfl rfl (pu_len Tryd.underlying41 rfl) rfl ?_
    refine R_gpu rfl rfl (pu_gtr (p := m.length > 60) rfl rfl (by omega)) rfl ?_
    refine R_pu (pu_pickf rfl rfl) rfl ?_
    refine R_nil ?_
    refine X_then hK3 ?_
    refine C_dec rfl (fun h15 => ?_) (fun h15 => ?_)
    · refine C_seq (fun K5 hK5 => ?_)
      refine C_region ?_
      refine R_lo (lo_call (by kernel_rfl) rfl (sure02 _ hG)) rfl ?_
      rintro _ w2 ⟨rfl, k2⟩
      have kk2 := kk0.then_ k2
      refine R_pu (pu_assign rfl) rfl ?_
      refine R_nil ?_
      refine X_then hK5 ?_
      refine C_ret ?_
      refine X_then_ret ?_
      exact X_ret1 (.inl rfl) rfl rfl ⟨rfl, kk2⟩
    · refine C_skip ?_
      refine X_then hK2 ?_
      refine C_seq (fun K6 hK6 => ?_)
      refine C_region ?_
      refine R_lo (lo_call (by kernel_rfl) rfl (gf_new _)) rfl ?_
      rintro _ w3 ⟨b3_0, rfl, le3, T3, k3⟩
      have kk3 := kk0.then_ k3
      have ne_b3_0_0 : b3_0 ≠ 0 := Nat.ne_of_gt (Nat.lt_of_lt_of_le hG.lt le3)
      refine R_pu (pu_assign rfl) rfl ?_
      refine R_nil ?_
      refine X_then hK6 ?_
      refine C_seq (fun K7 hK7 => ?_)
      have o8 : Gt w3 := (hG.no k3)
      refine D_begin (fun W => Kp No w W ∧ Gt W ∧ Tb W b3_0) 37 rfl (by kernel_rfl) ⟨kk3.drew, o8.draw, T3.draw⟩ ?_
      intro w4 k4 _
      have kk4 := kk3.then_ k4
      refine D_take 0 rfl (by kernel_rfl) (by kernel_rfl) (by kernel_rfl) (fun _ _ _ h => h) rfl (fun W hS => pu_move rfl) ?_
      refine D_take 1 rfl (by kernel_rfl) (by kernel_rfl) (by kernel_rfl) (fun _ _ _ h => h) rfl (fun W hS => pu_move rfl) ?_
      refine D_take 2 rfl (by kernel_rfl) (by kernel_rfl) (by kernel_rfl) (fun _ _ _ h => h) rfl (fun W hS => pu_move rfl) ?_
      refine D_take 4 rfl (by kernel_rfl) (by kernel_rfl) (by kernel_rfl) (fun _ _ _ h => h) rfl (fun W hS => pu_move rfl) ?_
      refine D_take 5 rfl (by kernel_rfl) (by kernel_rfl) (by kernel_rfl) (fun _ _ _ h => h) rfl (fun W hS => pu_move rfl) ?_
      have o9 : Tb w4 b3_0 := (T3.no k4)
      refine D_one 3 (by kernel_rfl) (Nx_lo rfl (lo_call (by kernel_rfl) rfl (poly_eval b3_0 A l c x hx _ (HB.keptNo kk4) hc (by first | omega | (simp; done)) (HB.aw (Nat.le_trans kk0.size le3)) o9)) rfl ?_)
      rintro _ w5 ⟨rfl, T5, k5⟩
      have kk5 := kk4.trans k5 (fun i hi => .inr (hi ▸ (Nat.le_trans kk0.size le3)))
      have o10 : Gt w5 := ((o8.no k4).on k5 (Ne.symm ne_b3_0_0))
      refine ⟨⟨kk5, o10, T5⟩, ?_⟩
      refine D_one 6 (by kernel_rfl) (Nx_lo rfl (lo_call (by kernel_rfl) rfl (ref_eval A l c x hx _ (HB.keptNo kk5) hc (by first | omega | (simp; done)))) rfl ?_)
      rintro _ w6 ⟨rfl, k6⟩
      have kk6 := kk5.then_ k6
      have o11 : Gt w6 := (o10.no k6)
      have o12 : Tb w6 b3_0 := (T5.no k6)
      refine ⟨⟨kk6, o11, o12⟩, ?_⟩
      refine D_take 7 rfl (by kernel_rfl) (by kernel_rfl) (by kernel_rfl) (fun _ _ _ h => h) rfl (fun W hS => pu_true (pu_eql (p := (hE l x) = (hE l x)) rfl rfl (by omega)) rfl) ?_
      refine D_take 8 rfl (by kernel_rfl) (by kernel_rfl) (by kernel_rfl) (fun _ _ _ h => h) rfl (fun W hS => pu_move rfl) ?_
      refine D_gtake 9 rfl rfl rfl (by kernel_rfl) (by kernel_rfl) (by kernel_rfl) (fun _ _ _ h => h) rfl (fun W hS => pu_move rfl) ?_
      refine D_gtake 10 rfl rfl rfl (by kernel_rfl) (by kernel_rfl) (by kernel_rfl) (fun _ _ _ h => h) rfl (fun W hS => pu_move rfl) ?_
      refine D_gtake 11 rfl rfl rfl (by kernel_rfl) (by kernel_rfl) (by kernel_rfl) (fun _ _ _ h => h) rfl (fun W hS => pu_move rfl) ?_
      refine D_gtake 14 rfl rfl rfl (by kernel_rfl) (by kernel_rfl) (by kernel_rfl) (fun _ _ _ h => h) rfl (fun W hS => pu_move rfl) ?_
      refine D_gtake 15 rfl rfl rfl (by kernel_rfl) (by kernel_rfl) (by kernel_rfl) (fun _ _ _ h => h) rfl (fun W hS => pu_move rfl) ?_
      refine D_one 12 (by kernel_rfl) (Nx_glo rfl rfl rfl (lo_call (by kernel_rfl) rfl (poly_mul b3_0 A l c A2 m c2 _ (HB.keptNo kk6) hc (HB2.keptNo kk6) hc2 (by first | omega | (simp; done) | (simp; omega)) (by first | omega | (simp; done) | (simp; omega)) (HB.aw (Nat.le_trans kk0.size le3)) (HB2.aw (Nat.le_trans kk0.size le3)) o12)) rfl ?_)
      rintro _ w7 ⟨A_ml4_12, c_ml4_12, rfl, Q7, T7, k7⟩
      have kk7 := kk6.trans k7 (fun i hi => .inr (hi ▸ (Nat.le_trans kk0.size le3)))
      have z13 : w6.heap.size ≤ w7.heap.size := k7.size
      have o14 : Gt w7 := (o11.on k7 (Ne.symm ne_b3_0_0))
      refine ⟨⟨kk7, o14, T7⟩, ?_⟩
      refine D_two 13 16 (by kernel_rfl) ?_ ?_
      · refine Nx_gpu rfl rfl rfl (pu_bstr Q7.bs Tryd.underlying41 Tryd.underlying5 Tryd.underlying9 rfl rfl) rfl ⟨⟨kk7, o14, T7⟩, ?_⟩
        refine D_one 16 (by kernel_rfl) (Nx_glo rfl rfl rfl (lo_call (by kernel_rfl) rfl (ref_pmul A l c A2 m c2 _ (HB.keptNo kk7) hc (HB2.keptNo kk7) hc2 (by first | omega | (simp; done) | (simp; omega)) (by first | omega | (simp; done) | (simp; omega)))) rfl ?_)
        rintro _ w8 ⟨A_ml4_16, c_ml4_16, rfl, Q8, k8⟩
        have kk8 := kk7.then_ k8
        have z15 : w7.heap.size ≤ w8.heap.size := k8.size
        have o16 : Gt w8 := (o14.no k8)
        have o17 : Tb w8 b3_0 := (T7.no k8)
        refine ⟨⟨kk8, o16, o17⟩, ?_⟩
        refine D_one 17 (by kernel_rfl) (Nx_gpu rfl rfl rfl (pu_bstr Q8.bs Tryd.underlying41 Tryd.underlying5 Tryd.underlying9 rfl rfl) rfl ⟨⟨kk8, o16, o17⟩, ?_⟩)
        refine D_gtake 18 rfl rfl rfl (by kernel_rfl) (by kernel_rfl) (by kernel_rfl) (fun _ _ _ h => h) rfl (fun W hS => pu_true (pu_eqls (p := (mulc l m) = (mulc l m)) rfl rfl (bstr_inj (Q7.bs).byte (Q8.bs).byte)) rfl) ?_
        refine D_take 19 rfl (by kernel_rfl) (by kernel_rfl) (by kernel_rfl) (fun _ _ _ h => h) rfl (fun W hS => pu_pickt rfl rfl) ?_
        refine D_take 20 rfl (by kernel_rfl) (by kernel_rfl) (by kernel_rfl) (fun _ _ _ h => h) rfl (fun W hS => pu_move rfl) ?_
        refine D_gtake 21 rfl rfl rfl (by kernel_rfl) (by kernel_rfl) (by kernel_rfl) (fun _ _ _ h => h) rfl (fun W hS => pu_move rfl) ?_
        refine D_gtake 22 rfl rfl rfl (by kernel_rfl) (by kernel_rfl) (by kernel_rfl) (fun _ _ _ h => h) rfl (fun W hS => pu_move rfl) ?_
        refine D_one 23 (by kernel_rfl) (Nx_glo rfl rfl rfl (lo_call (by kernel_rfl) rfl (poly_eval_nil A l c x hx _ (HB.keptNo kk8) hc (by first | omega | (simp; done)))) rfl ?_)
        rintro _ w9 ⟨rfl, k9⟩
        have kk9 := kk8.then_ k9
        have o18 : Gt w9 := (o16.no k9)
        have o19 : Tb w9 b3_0 := (o17.no k9)
        refine ⟨⟨kk9, o18, o19⟩, ?_⟩
        refine D_gtake 24 rfl rfl rfl (by kernel_rfl) (by kernel_rfl) (by kernel_rfl) (fun _ _ _ h => h) rfl (fun W hS => pu_true (pu_eql (p := (0 : Nat) = 0) rfl rfl (by omega)) (by decide)) ?_
        refine D_take 25 rfl (by kernel_rfl) (by kernel_rfl) (by kernel_rfl) (fun _ _ _ h => h) rfl (fun W hS => pu_pickt rfl rfl) ?_
        refine D_take 26 rfl (by kernel_rfl) (by kernel_rfl) (by kernel_rfl) (fun _ _ _ h => h) rfl (fun W hS => pu_move rfl) ?_
        refine D_gtake 27 rfl rfl rfl (by kernel_rfl) (by kernel_rfl) (by kernel_rfl) (fun _ _ _ h => h) rfl (fun W hS => pu_move rfl) ?_
        refine D_gtake 28 rfl rfl rfl (by kernel_rfl) (by kernel_rfl) (by kernel_rfl) (fun _ _ _ h => h) rfl (fun W hS => pu_move rfl) ?_
        refine D_one 29 (by kernel_rfl) (Nx_glo rfl rfl rfl (lo_call (by kernel_rfl) rfl (poly_mul_nil A l c A2 m c2 _ (HB.keptNo kk9) hc (HB2.keptNo kk9) hc2 (by first | omega | (simp; done) | (simp; omega)) (by first | omega | (simp; done) | (simp; omega)))) rfl ?_)
        rintro _ w10 ⟨rfl, k10⟩
        have kk10 := kk9.then_ k10
        have o20 : Gt w10 := (o18.no k10)
        have o21 : Tb w10 b3_0 := (o19.no k10)
        refine ⟨⟨kk10, o20, o21⟩, ?_⟩
        refine D_gtake 30 rfl rfl rfl (by kernel_rfl) (by kernel_rfl) (by kernel_rfl) (fun _ _ _ h => h) rfl (fun W hS => pu_len Tryd.underlying41 rfl) ?_
        refine D_gtake 31 rfl rfl rfl (by kernel_rfl) (by kernel_rfl) (by kernel_rfl) (fun _ _ _ h => h) rfl (fun W hS => pu_true (pu_eql (p := (0 : Nat) = 0) rfl rfl (by omega)) (by decide)) ?_
        refine D_take 32 rfl (by kernel_rfl) (by kernel_rfl) (by kernel_rfl) (fun _ _ _ h => h) rfl (fun W hS => pu_pickt rfl rfl) ?_
        refine D_take 33 rfl (by kernel_rfl) (by kernel_rfl) (by kernel_rfl) (fun _ _ _ h => h) rfl (fun W hS => pu_move rfl) ?_
        refine D_one 34 (by kernel_rfl) (Nx_glo rfl rfl rfl (lo_call (by kernel_rfl) rfl (sure02 _ o20)) rfl ?_)
        rintro _ w11 ⟨rfl, k11⟩
        have kk11 := kk10.then_ k11
        have o22 : Gt w11 := (o20.no k11)
        have o23 : Tb w11 b3_0 := (o21.no k11)
        refine ⟨⟨kk11, o22, o23⟩, ?_⟩
        refine D_take 35 rfl (by kernel_rfl) (by kernel_rfl) (by kernel_rfl) (fun _ _ _ h => h) rfl (fun W hS => pu_pickt rfl rfl) ?_
        refine D_take 36 rfl (by kernel_rfl) (by kernel_rfl) (by kernel_rfl) (fun _ _ _ h => h) rfl (fun W hS => pu_assign rfl) ?_
        refine D_done (by kernel_rfl) ?_
        refine X_then hK7 ?_
        refine C_ret ?_
        exact X_ret1 (.inl rfl) rfl rfl ⟨rfl, kk11⟩
      · refine Nx_glo rfl rfl rfl (lo_call (by kernel_rfl) rfl (ref_pmul A l c A2 m c2 _ (HB.keptNo kk7) hc (HB2.keptNo kk7) hc2 (by first | omega | (simp; done) | (simp; omega)) (by first | omega | (simp; done) | (simp; omega)))) rfl ?_
        rintro _ w12 ⟨A_ml4_16, c_ml4_16, rfl, Q12, k12⟩
        have kk12 := kk7.then_ k12
        have z24 : w7.heap.size ≤ w12.heap.size := k12.size
        have o25 : Gt w12 := (o14.no k12)
        have o26 : Tb w12 b3_0 := (T7.no k12)
        refine ⟨⟨kk12, o25, o26⟩, ?_⟩
        refine D_two 13 17 (by kernel_rfl) ?_ ?_
        · have ob27 := (Q7.keptNo k12)
          refine Nx_gpu rfl rfl rfl (pu_bstr ob27.bs Tryd.underlying41 Tryd.underlying5 Tryd.underlying9 rfl rfl) rfl ⟨⟨kk12, o25, o26⟩, ?_⟩
          refine D_one 17 (by kernel_rfl) (Nx_gpu rfl rfl rfl (pu_bstr Q12.bs Tryd.underlying41 Tryd.underlying5 Tryd.underlying9 rfl rfl) rfl ⟨⟨kk12, o25, o26⟩, ?_⟩)
          refine D_gtake 18 rfl rfl rfl (by kernel_rfl) (by kernel_rfl) (by kernel_rfl) (fun _ _ _ h => h) rfl (fun W hS => pu_true (pu_eqls (p := (mulc l m) = (mulc l m)) rfl rfl (bstr_inj (ob27.bs).byte (Q12.bs).byte)) rfl) ?_
          refine D_take 19 rfl (by kernel_rfl) (by kernel_rfl) (by kernel_rfl) (fun _ _ _ h => h) rfl (fun W hS => pu_pickt rfl rfl) ?_
          refine D_take 20 rfl (by kernel_rfl) (by kernel_rfl) (by kernel_rfl) (fun _ _ _ h => h) rfl (fun W hS => pu_move rfl) ?_
          refine D_gtake 21 rfl rfl rfl (by kernel_rfl) (by kernel_rfl) (by kernel_rfl) (fun _ _ _ h => h) rfl (fun W hS => pu_move rfl) ?_
          refine D_gtake 22 rfl rfl rfl (by kernel_rfl) (by kernel_rfl) (by kernel_rfl) (fun _ _ _ h => h) rfl (fun W hS => pu_move rfl) ?_
          refine D_one 23 (by kernel_rfl) (Nx_glo rfl rfl rfl (lo_call (by kernel_rfl) rfl (poly_eval_nil A l c x hx _ (HB.keptNo kk12) hc (by first | omega | (simp; done)))) rfl ?_)
          rintro _ w13 ⟨rfl, k13⟩
          have kk13 := kk12.then_ k13
          have o28 : Gt w13 := (o25.no k13)
          have o29 : Tb w13 b3_0 := (o26.no k13)
          refine ⟨⟨kk13, o28, o29⟩, ?_⟩
          refine D_gtake 24 rfl rfl rfl (by kernel_rfl) (by kernel_rfl) (by kernel_rfl) (fun _ _ _ h => h) rfl (fun W hS => pu_true (pu_eql (p := (0 : Nat) = 0) rfl rfl (by omega)) (by decide)) ?_
          refine D_take 25 rfl (by kernel_rfl) (by kernel_rfl) (by kernel_rfl) (fun _ _ _ h => h) rfl (fun W hS => pu_pickt rfl rfl) ?_
          refine D_take 26 rfl (by kernel_rfl) (by kernel_rfl) (by kernel_rfl) (fun _ _ _ h => h) rfl (fun W hS => pu_move rfl) ?_
          refine D_gtake 27 rfl rfl rfl (by kernel_rfl) (by kernel_rfl) (by kernel_rfl) (fun _ _ _ h => h) rfl (fun W hS => pu_move rfl) ?_
          refine D_gtake 28 rfl rfl rfl (by kernel_rfl) (by kernel_rfl) (by kernel_rfl) (fun _ _ _ h => h) rfl (fun W hS => pu_move rfl) ?_
          refine D_one 29 (by kernel_rfl) (Nx_glo rfl rfl rfl (lo_call (by kernel_rfl) rfl (poly_mul_nil A l c A2 m c2 _ (HB.keptNo kk13) hc (HB2.keptNo kk13) hc2 (by first | omega | (simp; done) | (simp; omega)) (by first | omega | (simp; done) | (simp; omega)))) rfl ?_)
          rintro _ w14 ⟨rfl, k14⟩
          have kk14 := kk13.then_ k14
          have o30 : Gt w14 := (o28.no k14)
          have o31 : Tb w14 b3_0 := (o29.no k14)
          refine ⟨⟨kk14, o30, o31⟩, ?_⟩
          refine D_gtake 30 rfl rfl rfl (by kernel_rfl) (by kernel_rfl) (by kernel_rfl) (fun _ _ _ h => h) rfl (fun W hS => pu_len Tryd.underlying41 rfl) ?_
          refine D_gtake 31 rfl rfl rfl (by kernel_rfl) (by kernel_rfl) (by kernel_rfl) (fun _ _ _ h => h) rfl (fun W hS => pu_true (pu_eql (p := (0 : Nat) = 0) rfl rfl (by omega)) (by decide)) ?_
          refine D_take 32 rfl (by kernel_rfl) (by kernel_rfl) (by kernel_rfl) (fun _ _ _ h => h) rfl (fun W hS => pu_pickt rfl rfl) ?_
          refine D_take 33 rfl (by kernel_rfl) (by kernel_rfl) (by kernel_rfl) (fun _ _ _ h => h) rfl (fun W hS => pu_move rfl) ?_
          refine D_one 34 (by kernel_rfl) (Nx_glo rfl rfl rfl (lo_call (by kernel_rfl) rfl (sure02 _ o30)) rfl ?_)
          rintro _ w15 ⟨rfl, k15⟩
          have kk15 := kk14.then_ k15
          have o32 : Gt w15 := (o30.no k15)
          have o33 : Tb w15 b3_0 := (o31.no k15)
          refine ⟨⟨kk15, o32, o33⟩, ?_⟩
          refine D_take 35 rfl (by kernel_rfl) (by kernel_rfl) (by kernel_rfl) (fun _ _ _ h => h) rfl (fun W hS => pu_pickt rfl rfl) ?_
          refine D_take 36 rfl (by kernel_rfl) (by kernel_rfl) (by kernel_rfl) (fun _ _ _ h => h) rfl (fun W hS => pu_assign rfl) ?_
          refine D_done (by kernel_rfl) ?_
          refine X_then hK7 ?_
          refine C_ret ?_
          exact X_ret1 (.inl rfl) rfl rfl ⟨rfl, kk15⟩
        · refine Nx_gpu rfl rfl rfl (pu_bstr Q12.bs Tryd.underlying41 Tryd.underlying5 Tryd.underlying9 rfl rfl) rfl ⟨⟨kk12, o25, o26⟩, ?_⟩
          have ob34 := (Q7.keptNo k12)
          refine D_one 13 (by kernel_rfl) (Nx_gpu rfl rfl rfl (pu_bstr ob34.bs Tryd.underlying41 Tryd.underlying5 Tryd.underlying9 rfl rfl) rfl ⟨⟨kk12, o25, o26⟩, ?_⟩)
          refine D_gtake 18 rfl rfl rfl (by kernel_rfl) (by kernel_rfl) (by kernel_rfl) (fun _ _ _ h => h) rfl (fun W hS => pu_true (pu_eqls (p := (mulc l m) = (mulc l m)) rfl rfl (bstr_inj (ob34.bs).byte (Q12.bs).byte)) rfl) ?_
          refine D_take 19 rfl (by kernel_rfl) (by kernel_rfl) (by kernel_rfl) (fun _ _ _ h => h) rfl (fun W hS => pu_pickt rfl rfl) ?_
          refine D_take 20 rfl (by kernel_rfl) (by kernel_rfl) (by kernel_rfl) (fun _ _ _ h => h) rfl (fun W hS => pu_move rfl) ?_
          refine D_gtake 21 rfl rfl rfl (by kernel_rfl) (by kernel_rfl) (by kernel_rfl) (fun _ _ _ h => h) rfl (fun W hS => pu_move rfl) ?_
          refine D_gtake 22 rfl rfl rfl (by kernel_rfl) (by kernel_rfl) (by kernel_rfl) (fun _ _ _ h => h) rfl (fun W hS => pu_move rfl) ?_
          refine D_one 23 (by kernel_rfl) (Nx_glo rfl rfl rfl (lo_call (by kernel_rfl) rfl (poly_eval_nil A l c x hx _ (HB.keptNo kk12) hc (by first | omega | (simp; done)))) rfl ?_)
          rintro _ w16 ⟨rfl, k16⟩
          have kk16 := kk12.then_ k16
          have o35 : Gt w16 := (o25.no k16)
          have o36 : Tb w16 b3_0 := (o26.no k16)
          refine ⟨⟨kk16, o35, o36⟩, ?_⟩
          refine D_gtake 24 rfl rfl rfl (by kernel_rfl) (by kernel_rfl) (by kernel_rfl) (fun _ _ _ h => h) rfl (fun W hS => pu_true (pu_eql (p := (0 : Nat) = 0) rfl rfl (by omega)) (by decide)) ?_
          refine D_take 25 rfl (by kernel_rfl) (by kernel_rfl) (by kernel_rfl) (fun _ _ _ h => h) rfl (fun W hS => pu_pickt rfl rfl) ?_
          refine D_take 26 rfl (by kernel_rfl) (by kernel_rfl) (by kernel_rfl) (fun _ _ _ h => h) rfl (fun W hS => pu_move rfl) ?_
          refine D_gtake 27 rfl rfl rfl (by kernel_rfl) (by kernel_rfl) (by kernel_rfl) (fun _ _ _ h => h) rfl (fun W hS => pu_move rfl) ?_
          refine D_gtake 28 rfl rfl rfl (by kernel_rfl) (by kernel_rfl) (by kernel_rfl) (fun _ _ _ h => h) rfl (fun W hS => pu_move rfl) ?_
          refine D_one 29 (by kernel_rfl) (Nx_glo rfl rfl rfl (lo_call (by kernel_rfl) rfl (poly_mul_nil A l c A2 m c2 _ (HB.keptNo kk16) hc (HB2.keptNo kk16) hc2 (by first | omega | (simp; done) | (simp; omega)) (by first | omega | (simp; done) | (simp; omega)))) rfl ?_)
          rintro _ w17 ⟨rfl, k17⟩
          have kk17 := kk16.then_ k17
          have o37 : Gt w17 := (o35.no k17)
          have o38 : Tb w17 b3_0 := (o36.no k17)
          refine ⟨⟨kk17, o37, o38⟩, ?_⟩
          refine D_gtake 30 rfl rfl rfl (by kernel_rfl) (by kernel_rfl) (by kernel_rfl) (fun _ _ _ h => h) rfl (fun W hS => pu_len Tryd.underlying41 rfl) ?_
          refine D_gtake 31 rfl rfl rfl (by kernel_rfl) (by kernel_rfl) (by kernel_rfl) (fun _ _ _ h => h) rfl (fun W hS => pu_true (pu_eql (p := (0 : Nat) = 0) rfl rfl (by omega)) (by decide)) ?_
          refine D_take 32 rfl (by kernel_rfl) (by kernel_rfl) (by kernel_rfl) (fun _ _ _ h => h) rfl (fun W hS => pu_pickt rfl rfl) ?_
          refine D_take 33 rfl (by kernel_rfl) (by kernel_rfl) (by kernel_rfl) (fun _ _ _ h => h) rfl (fun W hS => pu_move rfl) ?_
          refine D_one 34 (by kernel_rfl) (Nx_glo rfl rfl rfl (lo_call (by kernel_rfl) rfl (sure02 _ o37)) rfl ?_)
          rintro _ w18 ⟨rfl, k18⟩
          have kk18 := kk17.then_ k18
          have o39 : Gt w18 := (o37.no k18)
          have o40 : Tb w18 b3_0 := (o38.no k18)
          refine ⟨⟨kk18, o39, o40⟩, ?_⟩
          refine D_take 35 rfl (by kernel_rfl) (by kernel_rfl) (by kernel_rfl) (fun _ _ _ h => h) rfl (fun W hS => pu_pickt rfl rfl) ?_
          refine D_take 36 rfl (by kernel_rfl) (by kernel_rfl) (by kernel_rfl) (fun _ _ _ h => h) rfl (fun W hS => pu_assign rfl) ?_
          refine D_done (by kernel_rfl) ?_
          refine X_then hK7 ?_
          refine C_ret ?_
          exact X_ret1 (.inl rfl) rfl rfl ⟨rfl, kk18⟩
set_option maxRecDepth 100000 in
set_option maxHeartbeats 2000000 in
theorem polyPlaces_ (A : Option Addr) (l : List Nat) (c : Nat) (A2 : Option Addr) (m : List Nat) (c2 : Nat) (x : Nat) (hx : x < 256) (w : World) (HB : Bs w A l) (hc : l.length ≤ c) (hcm : c ≤ maxLen) (HB2 : Bs w A2 m) (hc2 : m.length ≤ c2) (hcm2 : c2 ≤ maxLen) (hG : Gt w) : Ret Tryd.prog 6 #[.slice A (l.length) (c), .slice A2 (m.length) (c2), .int .u8 ((x : Nat) : Int)] w (fun v w' => v = .bool true ∧ Kp No w w') := by
  have hs : l.length < 9223372036854775808 := by have := hcm; unfold maxLen at this; omega
  have hs2 : m.length < 9223372036854775808 := by have := hcm2; unfold maxLen at this; omega
  have kk0 := Kp.refl No w
  refine enter (n := 106) [.slice A (l.length) (c), .slice A2 (m.length) (c2), .int .u8 ((x : Nat) : Int)] Tryd.func6 rfl rfl rfl ?_
  show Cw _ _ _ _ [(0, .slice A (l.length) (c)), (1, .slice A2 (m.length) (c2)), (2, .int .u8 ((x : Nat) : Int))] _
  refine C_seq (fun K1 hK1 => ?_)
  refine C_region ?_
  refine R_pu (pu_assign rfl) rfl ?_
  refine R_nil ?_
  refine X_then hK1 ?_
  refine C_seq (fun K2 hK2 => ?_)
  refine C_seq (fun K3 hK3 => ?_)
  refine C_region ?_
  refine R_pu (pu_move rfl) rfl ?_
  refine R_pu (pu_len Tryd.underlying41 rfl) rfl ?_
  refine R_pu (pu_gtr (p := l.length > 24) rfl rfl (by omega)) rfl ?_
  by_cases g1_3 : l.length > 24
  · refine R_pu (pu_true (pu_move rfl) g1_3) rfl ?_
    refine R_gpu rfl rfl (pu_move rfl) rfl ?_
    refine R_gpu rfl rfl (pu_len Tryd.underlying41 rfl) rfl ?_
    refine R_gpu rfl rfl (pu_lss (p := l.length < 256) rfl rfl (by omega)) rfl ?_
    refine R_pu (pu_pickt rfl rfl) rfl ?_
    refine R_nil ?_
    refine X_then hK3 ?_
    refine C_dec rfl (fun h27 => ?_) (fun h27 => ?_)
    · refine C_seq (fun K4 hK4 => ?_)
      refine C_region ?_
      refine R_lo (lo_call (by kernel_rfl) rfl (sure02 _ hG)) rfl ?_
      rintro _ w1 ⟨rfl, k1⟩
      have kk1 := kk0.then_ k1
      refine R_pu (pu_assign rfl) rfl ?_
      refine R_nil ?_
      refine X_then hK4 ?_
      refine C_ret ?_
      refine X_then_ret ?_
      exact X_ret1 (.inl rfl) rfl rfl ⟨rfl, kk1⟩
    · refine C_skip ?_
      refine X_then hK2 ?_
      refine C_seq (fun K5 hK5 => ?_)
      refine C_region ?_
      refine R_lo (lo_call (by kernel_rfl) rfl (gf_new _)) rfl ?_
      rintro _ w2 ⟨b3_0, rfl, le2, T2, k2⟩
      have kk2 := kk0.then_ k2
      have ne_b3_0_0 : b3_0 ≠ 0 := Nat.ne_of_gt (Nat.lt_of_lt_of_le hG.lt le2)
      refine R_pu (pu_assign rfl) rfl ?_
      refine R_nil ?_
      refine X_then hK5 ?_
      refine C_seq (fun K6 hK6 => ?_)
      refine C_region ?_
      by_cases hM : May l
      · refine R_pu (pu_move rfl) rfl ?_
        refine R_pu (pu_move rfl) rfl ?_
        refine R_pu (pu_move rfl) rfl ?_
        have o7 : Gt w2 := (hG.no k2)
        refine R_lo (lo_call (by kernel_rfl) rfl (poly_weights b3_0 A l c x hx _ (HB.keptNo kk2) hc (by have hm_ := (hM).2; omega) hM (HB.aw (Nat.le_trans kk0.size le2)) T2)) rfl ?_
        rintro _ w3 ⟨A_wa, c_wa, rfl, Q3, T3, k3⟩
        have kk3 := kk2.trans k3 (fun i hi => .inr (hi ▸ (Nat.le_trans kk0.size le2)))
        have z8 : w2.heap.size ≤ w3.heap.size := k3.size
        refine R_pu (pu_move rfl) rfl ?_
        refine R_pu (pu_extract rfl rfl) rfl ?_
        refine R_pu (pu_extract rfl rfl) rfl ?_
        refine R_pu (pu_assign rfl) rfl ?_
        refine R_pu (pu_assign rfl) rfl ?_
        refine R_nil ?_
        refine X_then hK6 ?_
        refine C_seq (fun K9 hK9 => ?_)
        refine C_region ?_
        refine R_pu (pu_move rfl) rfl ?_
        refine R_pu (pu_move rfl) rfl ?_
        have o10 : Gt w3 := (o7.on k3 (Ne.symm ne_b3_0_0))
        refine R_lo (lo_call (by kernel_rfl) rfl (ref_weights A l c x hx _ (HB.keptNo kk3) hc (by have hm_ := (hM).2; omega) hM)) rfl ?_
        rintro _ w4 ⟨A_wb, c_wb, rfl, Q4, k4⟩
        have kk4 := kk3.then_ k4
        have z11 : w3.heap.size ≤ w4.heap.size := k4.size
        refine R_pu (pu_move rfl) rfl ?_
        refine R_pu (pu_extract rfl rfl) rfl ?_
        refine R_pu (pu_extract rfl rfl) rfl ?_
        refine R_pu (pu_assign rfl) rfl ?_
        refine R_pu (pu_assign rfl) rfl ?_
        refine R_nil ?_
        refine X_then hK9 ?_
        refine C_seq (fun K12 hK12 => ?_)
        refine C_region ?_
        by_cases hy : m.length = l.length
        · refine R_pu (pu_move rfl) rfl ?_
          refine R_pu (pu_move rfl) rfl ?_
          refine R_pu (pu_move rfl) rfl ?_
          refine R_pu (pu_move rfl) rfl ?_
          have o13 : Tb w4 b3_0 := (T3.no k4)
          refine R_lo (lo_call (by kernel_rfl) rfl (poly_interp b3_0 A l c A2 m c2 x hx _ (HB.keptNo kk4) hc (HB2.keptNo kk4) hc2 (by have hm_ := (hM).2; omega) (by first | omega | (simp; done) | (simp; omega)) hM hy (HB.aw (Nat.le_trans kk0.size le2)) (HB2.aw (Nat.le_trans kk0.size le2)) o13)) rfl ?_
          rintro _ w5 ⟨rfl, T5, k5⟩
          have kk5 := kk4.trans k5 (fun i hi => .inr (hi ▸ (Nat.le_trans kk0.size le2)))
          refine R_pu (pu_move rfl) rfl ?_
          refine R_pu (pu_extract rfl rfl) rfl ?_
          refine R_pu (pu_extract rfl rfl) rfl ?_
          refine R_pu (pu_assign rfl) rfl ?_
          refine R_pu (pu_assign rfl) rfl ?_
          refine R_nil ?_
          refine X_then hK12 ?_
          refine C_seq (fun K14 hK14 => ?_)
          refine C_region ?_
          refine R_pu (pu_move rfl) rfl ?_
          refine R_pu (pu_move rfl) rfl ?_
          refine R_pu (pu_move rfl) rfl ?_
          refine R_lo (lo_call (by kernel_rfl) rfl (ref_interp A l c A2 m c2 x hx _ (HB.keptNo kk5) hc (HB2.keptNo kk5) hc2 (by have hm_ := (hM).2; omega) (by first | omega | (simp; done) | (simp; omega)) hM hy)) rfl ?_
          rintro _ w6 ⟨rfl, k6⟩
          have kk6 := kk5.then_ k6
          refine R_pu (pu_move rfl) rfl ?_
          refine R_pu (pu_extract rfl rfl) rfl ?_
          refine R_pu (pu_extract rfl rfl) rfl ?_
          refine R_pu (pu_assign rfl) rfl ?_
          refine R_pu (pu_assign rfl) rfl ?_
          refine R_nil ?_
          refine X_then hK14 ?_
          refine C_seq (fun K15 hK15 => ?_)
          refine C_region ?_
          refine R_pu (pu_move rfl) rfl ?_
          refine R_pu (pu_move rfl) rfl ?_
          refine R_lo (lo_call (by kernel_rfl) rfl (poly_weights_nil A l c x hx _ (HB.keptNo kk6) hc (by first | omega | (simp; done)))) rfl ?_
          rintro _ w7 ⟨rfl, k7⟩
          have kk7 := kk6.then_ k7
          refine R_pu (pu_move rfl) rfl ?_
          refine R_pu (pu_extract rfl rfl) rfl ?_
          refine R_pu (pu_extract rfl rfl) rfl ?_
          refine R_pu (pu_assign rfl) rfl ?_
          refine R_pu (pu_assign rfl) rfl ?_
          refine R_nil ?_
          refine X_then hK15 ?_
          refine C_seq (fun K16 hK16 => ?_)
          refine C_region ?_
          refine R_pu (pu_move rfl) rfl ?_
          refine R_pu (pu_move rfl) rfl ?_
          refine R_pu (pu_move rfl) rfl ?_
          refine R_lo (lo_call (by kernel_rfl) rfl (poly_interp_nil A l c A2 m c2 x hx _ (HB.keptNo kk7) hc (HB2.keptNo kk7) hc2 (by first | omega | (simp; done) | (simp; omega)) (by first | omega | (simp; done) | (simp; omega)))) rfl ?_
          rintro _ w8 ⟨rfl, k8⟩
          have kk8 := kk7.then_ k8
          refine R_pu (pu_move rfl) rfl ?_
          refine R_pu (pu_extract rfl rfl) rfl ?_
          refine R_pu (pu_extract rfl rfl) rfl ?_
          refine R_pu (pu_assign rfl) rfl ?_
          refine R_pu (pu_assign rfl) rfl ?_
          refine R_nil ?_
          refine X_then hK16 ?_
          refine C_seq (fun K17 hK17 => ?_)
          refine C_region ?_
          refine R_pu (pu_move rfl) rfl ?_
          have ob18 := (((((Q3.keptNo k4).on k5 (by have := T2.lt; omega)).keptNo k6).keptNo k7).keptNo k8)
          refine R_pu (pu_bstr ob18.bs Tryd.underlying41 Tryd.underlying5 Tryd.underlying9 rfl rfl) rfl ?_
          refine R_pu (pu_move rfl) rfl ?_
          have ob19 := ((((Q4.on k5 (by have := T3.lt; omega)).keptNo k6).keptNo k7).keptNo k8)
          refine R_pu (pu_bstr ob19.bs Tryd.underlying41 Tryd.underlying5 Tryd.underlying9 rfl rfl) rfl ?_
          refine R_pu (pu_true (pu_eqls (p := (wtL l x) = (wtL l x)) rfl rfl (bstr_inj (ob18.bs).byte (ob19.bs).byte)) rfl) rfl ?_
          refine R_pu (pu_move rfl) rfl ?_
          refine R_gpu rfl rfl (pu_move rfl) rfl ?_
          refine R_glo rfl rfl (lo_call (by kernel_rfl) rfl (num02_nil _)) rfl ?_
          rintro _ w9 ⟨rfl, k9⟩
          have kk9 := kk8.then_ k9
          refine R_gpu rfl rfl (pu_move rfl) rfl ?_
          refine R_gpu rfl rfl (pu_true (pu_eql (p := (0 : Nat) = 0) rfl rfl (by omega)) (by decide)) rfl ?_
          refine R_pu (pu_pickt rfl rfl) rfl ?_
          refine R_pu (pu_move rfl) rfl ?_
          refine R_gpu rfl rfl (pu_move rfl) rfl ?_
          refine R_gpu rfl rfl (pu_move rfl) rfl ?_
          refine R_gpu rfl rfl (pu_true (pu_eql (p := (ipN l m x l.length) = (ipN l m x l.length)) rfl rfl (by omega)) rfl) rfl ?_
          refine R_pu (pu_pickt rfl rfl) rfl ?_
          refine R_pu (pu_move rfl) rfl ?_
          refine R_gpu rfl rfl (pu_move rfl) rfl ?_
          refine R_glo rfl rfl (lo_call (by kernel_rfl) rfl (num02_nil _)) rfl ?_
          rintro _ w10 ⟨rfl, k10⟩
          have kk10 := kk9.then_ k10
          refine R_gpu rfl rfl (pu_move rfl) rfl ?_
          refine R_gpu rfl rfl (pu_true (pu_eql (p := (0 : Nat) = 0) rfl rfl (by omega)) (by decide)) rfl ?_
          refine R_pu (pu_pickt rfl rfl) rfl ?_
          refine R_pu (pu_move rfl) rfl ?_
          refine R_gpu rfl rfl (pu_move rfl) rfl ?_
          have o20 : Gt w10 := (((((((o10.no k4).on k5 (Ne.symm ne_b3_0_0)).no k6).no k7).no k8).no k9).no k10)
          refine R_glo rfl rfl (lo_call (by kernel_rfl) rfl (num02_err 1 _ o20)) rfl ?_
          rintro _ w11 ⟨rfl, k11⟩
          have kk11 := kk10.then_ k11
          refine R_gpu rfl rfl (pu_true (pu_eql (p := (1 : Nat) = 1) rfl rfl (by omega)) (by decide)) rfl ?_
          refine R_pu (pu_pickt rfl rfl) rfl ?_
          refine R_pu (pu_move rfl) rfl ?_
          refine R_gpu rfl rfl (pu_move rfl) rfl ?_
          have o21 : Gt w11 := (o20.no k11)
          refine R_glo rfl rfl (lo_call (by kernel_rfl) rfl (num02_err 1 _ o21)) rfl ?_
          rintro _ w12 ⟨rfl, k12⟩
          have kk12 := kk11.then_ k12
          refine R_gpu rfl rfl (pu_true (pu_eql (p := (1 : Nat) = 1) rfl rfl (by omega)) (by decide)) rfl ?_
          refine R_pu (pu_pickt rfl rfl) rfl ?_
          refine R_pu (pu_move rfl) rfl ?_
          have o22 : Gt w12 := (o21.no k12)
          refine R_glo rfl rfl (lo_call (by kernel_rfl) rfl (sure02 _ o22)) rfl ?_
          rintro _ w13 ⟨rfl, k13⟩
          have kk13 := kk12.then_ k13
          refine R_pu (pu_pickt rfl rfl) rfl ?_
          refine R_pu (pu_assign rfl) rfl ?_
          refine R_nil ?_
          refine X_then hK17 ?_
          refine C_ret ?_
          exact X_ret1 (.inl rfl) rfl rfl ⟨rfl, kk13⟩
        · refine R_pu (pu_move rfl) rfl ?_
          refine R_pu (pu_move rfl) rfl ?_
          refine R_pu (pu_move rfl) rfl ?_
          refine R_pu (pu_move rfl) rfl ?_
          have o23 : Tb w4 b3_0 := (T3.no k4)
          refine R_lo (lo_call (by kernel_rfl) rfl (poly_interp_len b3_0 A l c A2 m c2 x hx _ (HB.keptNo kk4) hc (HB2.keptNo kk4) hc2 (by have hm_ := (hM).2; omega) (by first | omega | (simp; done) | (simp; omega)) hM hy (HB.aw (Nat.le_trans kk0.size le2)) (HB2.aw (Nat.le_trans kk0.size le2)) o23)) rfl ?_
          rintro _ w14 ⟨rfl, T14, k14⟩
          have kk14 := kk4.trans k14 (fun i hi => .inr (hi ▸ (Nat.le_trans kk0.size le2)))
          refine R_pu (pu_move rfl) rfl ?_
          refine R_pu (pu_extract rfl rfl) rfl ?_
          refine R_pu (pu_extract rfl rfl) rfl ?_
          refine R_pu (pu_assign rfl) rfl ?_
          refine R_pu (pu_assign rfl) rfl ?_
          refine R_nil ?_
          refine X_then hK12 ?_
          refine C_seq (fun K24 hK24 => ?_)
          refine C_region ?_
          refine R_pu (pu_move rfl) rfl ?_
          refine R_pu (pu_move rfl) rfl ?_
          refine R_pu (pu_move rfl) rfl ?_
          refine R_lo (lo_call (by kernel_rfl) rfl (ref_interp_len A l c A2 m c2 x hx _ (HB.keptNo kk14) hc (HB2.keptNo kk14) hc2 (by have hm_ := (hM).2; omega) (by first | omega | (simp; done) | (simp; omega)) hM hy)) rfl ?_
          rintro _ w15 ⟨rfl, k15⟩
          have kk15 := kk14.then_ k15
          refine R_pu (pu_move rfl) rfl ?_
          refine R_pu (pu_extract rfl rfl) rfl ?_
          refine R_pu (pu_extract rfl rfl) rfl ?_
          refine R_pu (pu_assign rfl) rfl ?_
          refine R_pu (pu_assign rfl) rfl ?_
          refine R_nil ?_
          refine X_then hK24 ?_
          refine C_seq (fun K25 hK25 => ?_)
          refine C_region ?_
          refine R_pu (pu_move rfl) rfl ?_
          refine R_pu (pu_move rfl) rfl ?_
          refine R_lo (lo_call (by kernel_rfl) rfl (poly_weights_nil A l c x hx _ (HB.keptNo kk15) hc (by first | omega | (simp; done)))) rfl ?_
          rintro _ w16 ⟨rfl, k16⟩
          have kk16 := kk15.then_ k16
          refine R_pu (pu_move rfl) rfl ?_
          refine R_pu (pu_extract rfl rfl) rfl ?_
          refine R_pu (pu_extract rfl rfl) rfl ?_
          refine R_pu (pu_assign rfl) rfl ?_
          refine R_pu (pu_assign rfl) rfl ?_
          refine R_nil ?_
          refine X_then hK25 ?_
          refine C_seq (fun K26 hK26 => ?_)
          refine C_region ?_
          refine R_pu (pu_move rfl) rfl ?_
          refine R_pu (pu_move rfl) rfl ?_
          refine R_pu (pu_move rfl) rfl ?_
          refine R_lo (lo_call (by kernel_rfl) rfl (poly_interp_nil A l c A2 m c2 x hx _ (HB.keptNo kk16) hc (HB2.keptNo kk16) hc2 (by first | omega | (simp; done) | (simp; omega)) (by first | omega | (simp; done) | (simp; omega)))) rfl ?_
          rintro _ w17 ⟨rfl, k17⟩
          have kk17 := kk16.then_ k17
          refine R_pu (pu_move rfl) rfl ?_
          refine R_pu (pu_extract rfl rfl) rfl ?_
          refine R_pu (pu_extract rfl rfl) rfl ?_
          refine R_pu (pu_assign rfl) rfl ?_
          refine R_pu (pu_assign rfl) rfl ?_
          refine R_nil ?_
          refine X_then hK26 ?_
          refine C_seq (fun K27 hK27 => ?_)
          refine C_region ?_
          refine R_pu (pu_move rfl) rfl ?_
          have ob28 := (((((Q3.keptNo k4).on k14 (by have := T2.lt; omega)).keptNo k15).keptNo k16).keptNo k17)
          refine R_pu (pu_bstr ob28.bs Tryd.underlying41 Tryd.underlying5 Tryd.underlying9 rfl rfl) rfl ?_
          refine R_pu (pu_move rfl) rfl ?_
          have ob29 := ((((Q4.on k14 (by have := T3.lt; omega)).keptNo k15).keptNo k16).keptNo k17)
          refine R_pu (pu_bstr ob29.bs Tryd.underlying41 Tryd.underlying5 Tryd.underlying9 rfl rfl) rfl ?_
          refine R_pu (pu_true (pu_eqls (p := (wtL l x) = (wtL l x)) rfl rfl (bstr_inj (ob28.bs).byte (ob29.bs).byte)) rfl) rfl ?_
          refine R_pu (pu_move rfl) rfl ?_
          refine R_gpu rfl rfl (pu_move rfl) rfl ?_
          refine R_glo rfl rfl (lo_call (by kernel_rfl) rfl (num02_nil _)) rfl ?_
          rintro _ w18 ⟨rfl, k18⟩
          have kk18 := kk17.then_ k18
          refine R_gpu rfl rfl (pu_move rfl) rfl ?_
          refine R_gpu rfl rfl (pu_true (pu_eql (p := (0 : Nat) = 0) rfl rfl (by omega)) (by decide)) rfl ?_
          refine R_pu (pu_pickt rfl rfl) rfl ?_
          refine R_pu (pu_move rfl) rfl ?_
          refine R_gpu rfl rfl (pu_move rfl) rfl ?_
          refine R_gpu rfl rfl (pu_move rfl) rfl ?_
          refine R_gpu rfl rfl (pu_true (pu_eql (p := (0 : Nat) = 0) rfl rfl (by omega)) (by decide)) rfl ?_
          refine R_pu (pu_pickt rfl rfl) rfl ?_
          refine R_pu (pu_move rfl) rfl ?_
          refine R_gpu rfl rfl (pu_move rfl) rfl ?_
          have o30 : Gt w18 := ((((((o10.no k4).on k14 (Ne.symm ne_b3_0_0)).no k15).no k16).no k17).no k18)
          refine R_glo rfl rfl (lo_call (by kernel_rfl) rfl (num02_err 1 _ o30)) rfl ?_
          rintro _ w19 ⟨rfl, k19⟩
          have kk19 := kk18.then_ k19
          refine R_gpu rfl rfl (pu_move rfl) rfl ?_
          refine R_gpu rfl rfl (pu_true (pu_eql (p := (1 : Nat) = 1) rfl rfl (by omega)) (by decide)) rfl ?_
          refine R_pu (pu_pickt rfl rfl) rfl ?_
          refine R_pu (pu_move rfl) rfl ?_
          refine R_gpu rfl rfl (pu_move rfl) rfl ?_
          have o31 : Gt w19 := (o30.no k19)
          refine R_glo rfl rfl (lo_call (by kernel_rfl) rfl (num02_err 1 _ o31)) rfl ?_
          rintro _ w20 ⟨rfl, k20⟩
          have kk20 := kk19.then_ k20
          refine R_gpu rfl rfl (pu_true (pu_eql (p := (1 : Nat) = 1) rfl rfl (by omega)) (by decide)) rfl ?_
          refine R_pu (pu_pickt rfl rfl) rfl ?_
          refine R_pu (pu_move rfl) rfl ?_
          refine R_gpu rfl rfl (pu_move rfl) rfl ?_
          have o32 : Gt w20 := (o31.no k20)
          refine R_glo rfl rfl (lo_call (by kernel_rfl) rfl (num02_err 1 _ o32)) rfl ?_
          rintro _ w21 ⟨rfl, k21⟩
          have kk21 := kk20.then_ k21
          refine R_gpu rfl rfl (pu_true (pu_eql (p := (1 : Nat) = 1) rfl rfl (by omega)) (by decide)) rfl ?_
          refine R_pu (pu_pickt rfl rfl) rfl ?_
          refine R_pu (pu_move rfl) rfl ?_
          have o33 : Gt w21 := (o32.no k21)
          refine R_glo rfl rfl (lo_call (by kernel_rfl) rfl (sure02 _ o33)) rfl ?_
          rintro _ w22 ⟨rfl, k22⟩
          have kk22 := kk21.then_ k22
          refine R_pu (pu_pickt rfl rfl) rfl ?_
          refine R_pu (pu_assign rfl) rfl ?_
          refine R_nil ?_
          refine X_then hK27 ?_
          refine C_ret ?_
          exact X_ret1 (.inl rfl) rfl rfl ⟨rfl, kk22⟩
      · refine R_pu (pu_move rfl) rfl ?_
        refine R_pu (pu_move rfl) rfl ?_
        refine R_pu (pu_move rfl) rfl ?_
        refine R_lo (lo_call (by kernel_rfl) rfl (poly_weights_no b3_0 A l c x hx _ (HB.keptNo kk2) hc (by first | omega | (simp; done)) hM)) rfl ?_
        rintro _ w23 ⟨rfl, k23⟩
        have kk23 := kk2.then_ k23
        refine R_pu (pu_move rfl) rfl ?_
        refine R_pu (pu_extract rfl rfl) rfl ?_
        refine R_pu (pu_extract rfl rfl) rfl ?_
        refine R_pu (pu_assign rfl) rfl ?_
        refine R_pu (pu_assign rfl) rfl ?_
        refine R_nil ?_
        refine X_then hK6 ?_
        refine C_seq (fun K34 hK34 => ?_)
        refine C_region ?_
        refine R_pu (pu_move rfl) rfl ?_
        refine R_pu (pu_move rfl) rfl ?_
        refine R_lo (lo_call (by kernel_rfl) rfl (ref_weights_no A l c x hx _ (HB.keptNo kk23) hc (by first | omega | (simp; done)) hM)) rfl ?_
        rintro _ w24 ⟨rfl, k24⟩
        have kk24 := kk23.then_ k24
        refine R_pu (pu_move rfl) rfl ?_
        refine R_pu (pu_extract rfl rfl) rfl ?_
        refine R_pu (pu_extract rfl rfl) rfl ?_
        refine R_pu (pu_assign rfl) rfl ?_
        refine R_pu (pu_assign rfl) rfl ?_
        refine R_nil ?_
        refine X_then hK34 ?_
        refine C_seq (fun K35 hK35 => ?_)
        refine C_region ?_
        by_cases hy : m.length = l.length
        · refine R_pu (pu_move rfl) rfl ?_
          refine R_pu (pu_move rfl) rfl ?_
          refine R_pu (pu_move rfl) rfl ?_
          refine R_pu (pu_move rfl) rfl ?_
          refine R_lo (lo_call (by kernel_rfl) rfl (poly_interp_no b3_0 A l c A2 m c2 x hx _ (HB.keptNo kk24) hc (HB2.keptNo kk24) hc2 (by first | omega | (simp; done) | (simp; omega)) (by first | omega | (simp; done) | (simp; omega)) hM)) rfl ?_
          rintro _ w25 ⟨rfl, k25⟩
          have kk25 := kk24.then_ k25
          refine R_pu (pu_move rfl) rfl ?_
          refine R_pu (pu_extract rfl rfl) rfl ?_
          refine R_pu (pu_extract rfl rfl) rfl ?_
          refine R_pu (pu_assign rfl) rfl ?_
          refine R_pu (pu_assign rfl) rfl ?_
          refine R_nil ?_
          refine X_then hK35 ?_
          refine C_seq (fun K36 hK36 => ?_)
          refine C_region ?_
          refine R_pu (pu_move rfl) rfl ?_
          refine R_pu (pu_move rfl) rfl ?_
          refine R_pu (pu_move rfl) rfl ?_
          refine R_lo (lo_call (by kernel_rfl) rfl (ref_interp_no A l c A2 m c2 x hx _ (HB.keptNo kk25) hc (HB2.keptNo kk25) hc2 (by first | omega | (simp; done) | (simp; omega)) (by first | omega | (simp; done) | (simp; omega)) hM)) rfl ?_
          rintro _ w26 ⟨rfl, k26⟩
          have kk26 := kk25.then_ k26
          refine R_pu (pu_move rfl) rfl ?_
          refine R_pu (pu_extract rfl rfl) rfl ?_
          refine R_pu (pu_extract rfl rfl) rfl ?_
          refine R_pu (pu_assign rfl) rfl ?_
          refine R_pu (pu_assign rfl) rfl ?_
          refine R_nil ?_
          refine X_then hK36 ?_
          refine C_seq (fun K37 hK37 => ?_)
          refine C_region ?_
          refine R_pu (pu_move rfl) rfl ?_
          refine R_pu (pu_move rfl) rfl ?_
          refine R_lo (lo_call (by kernel_rfl) rfl (poly_weights_nil A l c x hx _ (HB.keptNo kk26) hc (by first | omega | (simp; done)))) rfl ?_
          rintro _ w27 ⟨rfl, k27⟩
          have kk27 := kk26.then_ k27
          refine R_pu (pu_move rfl) rfl ?_
          refine R_pu (pu_extract rfl rfl) rfl ?_
          refine R_pu (pu_extract rfl rfl) rfl ?_
          refine R_pu (pu_assign rfl) rfl ?_
          refine R_pu (pu_assign rfl) rfl ?_
          refine R_nil ?_
          refine X_then hK37 ?_
          refine C_seq (fun K38 hK38 => ?_)
          refine C_region ?_
          refine R_pu (pu_move rfl) rfl ?_
          refine R_pu (pu_move rfl) rfl ?_
          refine R_pu (pu_move rfl) rfl ?_
          refine R_lo (lo_call (by kernel_rfl) rfl (poly_interp_nil A l c A2 m c2 x hx _ (HB.keptNo kk27) hc (HB2.keptNo kk27) hc2 (by first | omega | (simp; done) | (simp; omega)) (by first | omega | (simp; done) | (simp; omega)))) rfl ?_
          rintro _ w28 ⟨rfl, k28⟩
          have kk28 := kk27.then_ k28
          refine R_pu (pu_move rfl) rfl ?_
          refine R_pu (pu_extract rfl rfl) rfl ?_
          refine R_pu (pu_extract rfl rfl) rfl ?_
          refine R_pu (pu_assign rfl) rfl ?_
          refine R_pu (pu_assign rfl) rfl ?_
          refine R_nil ?_
          refine X_then hK38 ?_
          refine C_seq (fun K39 hK39 => ?_)
          refine C_region ?_
          refine R_pu (pu_move rfl) rfl ?_
          refine R_pu (pu_bstr (Bs.nil _ none) Tryd.underlying41 Tryd.underlying5 Tryd.underlying9 rfl rfl) rfl ?_
          refine R_pu (pu_move rfl) rfl ?_
          refine R_pu (pu_bstr (Bs.nil _ none) Tryd.underlying41 Tryd.underlying5 Tryd.underlying9 rfl rfl) rfl ?_
          refine R_pu (pu_true (pu_eqls (p := ([]) = ([])) rfl rfl (bstr_inj (show ∀ n ∈ ([] : List Nat), n < 256 by simp) (show ∀ n ∈ ([] : List Nat), n < 256 by simp))) rfl) rfl ?_
          refine R_pu (pu_move rfl) rfl ?_
          refine R_gpu rfl rfl (pu_move rfl) rfl ?_
          have o40 : Gt w28 := (((((((hG.no k2).no k23).no k24).no k25).no k26).no k27).no k28)
          refine R_glo rfl rfl (lo_call (by kernel_rfl) rfl (num02_err 1 _ o40)) rfl ?_
          rintro _ w29 ⟨rfl, k29⟩
          have kk29 := kk28.then_ k29
          refine R_gpu rfl rfl (pu_move rfl) rfl ?_
          refine R_gpu rfl rfl (pu_true (pu_eql (p := (1 : Nat) = 1) rfl rfl (by omega)) (by decide)) rfl ?_
          refine R_pu (pu_pickt rfl rfl) rfl ?_
          refine R_pu (pu_move rfl) rfl ?_
          refine R_gpu rfl rfl (pu_move rfl) rfl ?_
          refine R_gpu rfl rfl (pu_move rfl) rfl ?_
          refine R_gpu rfl rfl (pu_true (pu_eql (p := (0 : Nat) = 0) rfl rfl (by omega)) (by decide)) rfl ?_
          refine R_pu (pu_pickt rfl rfl) rfl ?_
          refine R_pu (pu_move rfl) rfl ?_
          refine R_gpu rfl rfl (pu_move rfl) rfl ?_
          have o41 : Gt w29 := (o40.no k29)
          refine R_glo rfl rfl (lo_call (by kernel_rfl) rfl (num02_err 1 _ o41)) rfl ?_
          rintro _ w30 ⟨rfl, k30⟩
          have kk30 := kk29.then_ k30
          refine R_gpu rfl rfl (pu_move rfl) rfl ?_
          refine R_gpu rfl rfl (pu_true (pu_eql (p := (1 : Nat) = 1) rfl rfl (by omega)) (by decide)) rfl ?_
          refine R_pu (pu_pickt rfl rfl) rfl ?_
          refine R_pu (pu_move rfl) rfl ?_
          refine R_gpu rfl rfl (pu_move rfl) rfl ?_
          have o42 : Gt w30 := (o41.no k30)
          refine R_glo rfl rfl (lo_call (by kernel_rfl) rfl (num02_err 1 _ o42)) rfl ?_
          rintro _ w31 ⟨rfl, k31⟩
          have kk31 := kk30.then_ k31
          refine R_gpu rfl rfl (pu_true (pu_eql (p := (1 : Nat) = 1) rfl rfl (by omega)) (by decide)) rfl ?_
          refine R_pu (pu_pickt rfl rfl) rfl ?_
          refine R_pu (pu_move rfl) rfl ?_
          refine R_gpu rfl rfl (pu_move rfl) rfl ?_
          have o43 : Gt w31 := (o42.no k31)
          refine R_glo rfl rfl (lo_call (by kernel_rfl) rfl (num02_err 1 _ o43)) rfl ?_
          rintro _ w32 ⟨rfl, k32⟩
          have kk32 := kk31.then_ k32
          refine R_gpu rfl rfl (pu_true (pu_eql (p := (1 : Nat) = 1) rfl rfl (by omega)) (by decide)) rfl ?_
          refine R_pu (pu_pickt rfl rfl) rfl ?_
          refine R_pu (pu_move rfl) rfl ?_
          have o44 : Gt w32 := (o43.no k32)
          refine R_glo rfl rfl (lo_call (by kernel_rfl) rfl (sure02 _ o44)) rfl ?_
          rintro _ w33 ⟨rfl, k33⟩
          have kk33 := kk32.then_ k33
          refine R_pu (pu_pickt rfl rfl) rfl ?_
          refine R_pu (pu_assign rfl) rfl ?_
          refine R_nil ?_
          refine X_then hK39 ?_
          refine C_ret ?_
          exact X_ret1 (.inl rfl) rfl rfl ⟨rfl, kk33⟩
        · refine R_pu (pu_move rfl) rfl ?_
          refine R_pu (pu_move rfl) rfl ?_
          refine R_pu (pu_move rfl) rfl ?_
          refine R_pu (pu_move rfl) rfl ?_
          refine R_lo (lo_call (by kernel_rfl) rfl (poly_interp_no b3_0 A l c A2 m c2 x hx _ (HB.keptNo kk24) hc (HB2.keptNo kk24) hc2 (by first | omega | (simp; done) | (simp; omega)) (by first | omega | (simp; done) | (simp; omega)) hM)) rfl ?_
          rintro _ w34 ⟨rfl, k34⟩
          have kk34 := kk24.then_ k34
          refine R_pu (pu_move rfl) rfl ?_
          refine R_pu (pu_extract rfl rfl) rfl ?_
          refine R_pu (pu_extract rfl rfl) rfl ?_
          refine R_pu (pu_assign rfl) rfl ?_
          refine R_pu (pu_assign rfl) rfl ?_
          refine R_nil ?_
          refine X_then hK35 ?_
          refine C_seq (fun K45 hK45 => ?_)
          refine C_region ?_
          refine R_pu (pu_move rfl) rfl ?_
          refine R_pu (pu_move rfl) rfl ?_
          refine R_pu (pu_move rfl) rfl ?_
          refine R_lo (lo_call (by kernel_rfl) rfl (ref_interp_no A l c A2 m c2 x hx _ (HB.keptNo kk34) hc (HB2.keptNo kk34) hc2 (by first | omega | (simp; done) | (simp; omega)) (by first | omega | (simp; done) | (simp; omega)) hM)) rfl ?_
          rintro _ w35 ⟨rfl, k35⟩
          have kk35 := kk34.then_ k35
          refine R_pu (pu_move rfl) rfl ?_
          refine R_pu (pu_extract rfl rfl) rfl ?_
          refine R_pu (pu_extract rfl rfl) rfl ?_
          refine R_pu (pu_assign rfl) rfl ?_
          refine R_pu (pu_assign rfl) rfl ?_
          refine R_nil ?_
          refine X_then hK45 ?_
          refine C_seq (fun K46 hK46 => ?_)
          refine C_region ?_
          refine R_pu (pu_move rfl) rfl ?_
          refine R_pu (pu_move rfl) rfl ?_
          refine R_lo (lo_call (by kernel_rfl) rfl (poly_weights_nil A l c x hx _ (HB.keptNo kk35) hc (by first | omega | (simp; done)))) rfl ?_
          rintro _ w36 ⟨rfl, k36⟩
          have kk36 := kk35.then_ k36
          refine R_pu (pu_move rfl) rfl ?_
          refine R_pu (pu_extract rfl rfl) rfl ?_
          refine R_pu (pu_extract rfl rfl) rfl ?_
          refine R_pu (pu_assign rfl) rfl ?_
          refine R_pu (pu_assign rfl) rfl ?_
          refine R_nil ?_
          refine X_then hK46 ?_
          refine C_seq (fun K47 hK47 => ?_)
          refine C_region ?_
          refine R_pu (pu_move rfl) rfl ?_
          refine R_pu (pu_move rfl) rfl ?_
          refine R_pu (pu_move rfl) rfl ?_
          refine R_lo (lo_call (by kernel_rfl) rfl (poly_interp_nil A l c A2 m c2 x hx _ (HB.keptNo kk36) hc (HB2.keptNo kk36) hc2 (by first | omega | (simp; done) | (simp; omega)) (by first | omega | (simp; done) | (simp; omega)))) rfl ?_
          rintro _ w37 ⟨rfl, k37⟩
          have kk37 := kk36.then_ k37
          refine R_pu (pu_move rfl) rfl ?_
          refine R_pu (pu_extract rfl rfl) rfl ?_
          refine R_pu (pu_extract rfl rfl) rfl ?_
          refine R_pu (pu_assign rfl) rfl ?_
          refine R_pu (pu_assign rfl) rfl ?_
          refine R_nil ?_
          refine X_then hK47 ?_
          refine C_seq (fun K48 hK48 => ?_)
          refine C_region ?_
          refine R_pu (pu_move rfl) rfl ?_
          refine R_pu (pu_bstr (Bs.nil _ none) Tryd.underlying41 Tryd.underlying5 Tryd.underlying9 rfl rfl) rfl ?_
          refine R_pu (pu_move rfl) rfl ?_
          refine R_pu (pu_bstr (Bs.nil _ none) Tryd.underlying41 Tryd.underlying5 Tryd.underlying9 rfl rfl) rfl ?_
          refine R_pu (pu_true (pu_eqls (p := ([]) = ([])) rfl rfl (bstr_inj (show ∀ n ∈ ([] : List Nat), n < 256 by simp) (show ∀ n ∈ ([] : List Nat), n < 256 by simp))) rfl) rfl ?_
          refine R_pu (pu_move rfl) rfl ?_
          refine R_gpu rfl rfl (pu_move rfl) rfl ?_
          have o49 : Gt w37 := (((((((hG.no k2).no k23).no k24).no k34).no k35).no k36).no k37)
          refine R_glo rfl rfl (lo_call (by kernel_rfl) rfl (num02_err 1 _ o49)) rfl ?_
          rintro _ w38 ⟨rfl, k38⟩
          have kk38 := kk37.then_ k38
          refine R_gpu rfl rfl (pu_move rfl) rfl ?_
          refine R_gpu rfl rfl (pu_true (pu_eql (p := (1 : Nat) = 1) rfl rfl (by omega)) (by decide)) rfl ?_
          refine R_pu (pu_pickt rfl rfl) rfl ?_
          refine R_pu (pu_move rfl) rfl ?_
          refine R_gpu rfl rfl (pu_move rfl) rfl ?_
          refine R_gpu rfl rfl (pu_move rfl) rfl ?_
          refine R_gpu rfl rfl (pu_true (pu_eql (p := (0 : Nat) = 0) rfl rfl (by omega)) (by decide)) rfl ?_
          refine R_pu (pu_pickt rfl rfl) rfl ?_
          refine R_pu (pu_move rfl) rfl ?_
          refine R_gpu rfl rfl (pu_move rfl) rfl ?_
          have o50 : Gt w38 := (o49.no k38)
          refine R_glo rfl rfl (lo_call (by kernel_rfl) rfl (num02_err 1 _ o50)) rfl ?_
          rintro _ w39 ⟨rfl, k39⟩
          have kk39 := kk38.then_ k39
          refine R_gpu rfl rfl (pu_move rfl) rfl ?_
          refine R_gpu rfl rfl (pu_true (pu_eql (p := (1 : Nat) = 1) rfl rfl (by omega)) (by decide)) rfl ?_
          refine R_pu (pu_pickt rfl rfl) rfl ?_
          refine R_pu (pu_move rfl) rfl ?_
          refine R_gpu rfl rfl (pu_move rfl) rfl ?_
          have o51 : Gt w39 := (o50.no k39)
          refine R_glo rfl rfl (lo_call (by kernel_rfl) rfl (num02_err 1 _ o51)) rfl ?_
          rintro _ w40 ⟨rfl, k40⟩
          have kk40 := kk39.then_ k40
          refine R_gpu rfl rfl (pu_true (pu_eql (p := (1 : Nat) = 1) rfl rfl (by omega)) (by decide)) rfl ?_
          refine R_pu (pu_pickt rfl rfl) rfl ?_
          refine R_pu (pu_move rfl) rfl ?_
          refine R_gpu rfl rfl (pu_move rfl) rfl ?_
          have o52 : Gt w40 := (o51.no k40)
          refine R_glo rfl rfl (lo_call (by kernel_rfl) rfl (num02_err 1 _ o52)) rfl ?_
          rintro _ w41 ⟨rfl, k41⟩
          have kk41 := kk40.then_ k41
          refine R_gpu rfl rfl (pu_true (pu_eql (p := (1 : Nat) = 1) rfl rfl (by omega)) (by decide)) rfl ?_
          refine R_pu (pu_pickt rfl rfl) rfl ?_
          refine R_pu (pu_move rfl) rfl ?_
          have o53 : Gt w41 := (o52.no k41)
          refine R_glo rfl rfl (lo_call (by kernel_rfl) rfl (sure02 _ o53)) rfl ?_
          rintro _ w42 ⟨rfl, k42⟩
          have kk42 := kk41.then_ k42
          refine R_pu (pu_pickt rfl rfl) rfl ?_
          refine R_pu (pu_assign rfl) rfl ?_
          refine R_nil ?_
          refine X_then hK48 ?_
          refine C_ret ?_
          exact X_ret1 (.inl rfl) rfl rfl ⟨rfl, kk42⟩
  · refine R_pu (pu_false (pu_move rfl) g1_3) rfl ?_
    refine R_gno rfl rfl rfl rfl ?_
    refine R_gno rfl rfl rfl rfl ?_
    refine R_gno rfl rfl rfl rfl ?_
    refine R_pu (pu_pickf rfl rfl) rfl ?_
    refine R_nil ?_
    refine X_then hK3 ?_
    refine C_false rfl ?_
    refine C_skip ?_
    refine X_then hK2 ?_
    refine C_seq (fun K54 hK54 => ?_)
    refine C_region ?_
    refine R_lo (lo_call (by kernel_rfl) rfl (gf_new _)) rfl ?_
    rintro _ w43 ⟨b3_0, rfl, le43, T43, k43⟩
    have kk43 := kk0.then_ k43
    have ne_b3_0_0 : b3_0 ≠ 0 := Nat.ne_of_gt (Nat.lt_of_lt_of_le hG.lt le43)
    refine R_pu (pu_assign rfl) rfl ?_
    refine R_nil ?_
    refine X_then hK54 ?_
    refine C_seq (fun K55 hK55 => ?_)
    refine C_region ?_
    by_cases hM : May l
    · refine R_pu (pu_move rfl) rfl ?_
      refine R_pu (pu_move rfl) rfl ?_
      refine R_pu (pu_move rfl) rfl ?_
      have o56 : Gt w43 := (hG.no k43)
      refine R_lo (lo_call (by kernel_rfl) rfl (poly_weights b3_0 A l c x hx _ (HB.keptNo kk43) hc (by have hm_ := (hM).2; omega) hM (HB.aw (Nat.le_trans kk0.size le43)) T43)) rfl ?_
      rintro _ w44 ⟨A_wa, c_wa, rfl, Q44, T44, k44⟩
      have kk44 := kk43.trans k44 (fun i hi => .inr (hi ▸ (Nat.le_trans kk0.size le43)))
      have z57 : w43.heap.size ≤ w44.heap.size := k44.size
      refine R_pu (pu_move rfl) rfl ?_
      refine R_pu (pu_extract rfl rfl) rfl ?_
      refine R_pu (pu_extract rfl rfl) rfl ?_
      refine R_pu (pu_assign rfl) rfl ?_
      refine R_pu (pu_assign rfl) rfl ?_
      refine R_nil ?_
      refine X_then hK55 ?_
      refine C_seq (fun K58 hK58 => ?_)
      refine C_region ?_
      refine R_pu (pu_move rfl) rfl ?_
      refine R_pu (pu_move rfl) rfl ?_
      have o59 : Gt w44 := (o56.on k44 (Ne.symm ne_b3_0_0))
      refine R_lo (lo_call (by kernel_rfl) rfl (ref_weights A l c x hx _ (HB.keptNo kk44) hc (by have hm_ := (hM).2; omega) hM)) rfl ?_
      rintro _ w45 ⟨A_wb, c_wb, rfl, Q45, k45⟩
      have kk45 := kk44.then_ k45
      have z60 : w44.heap.size ≤ w45.heap.size := k45.size
      refine R_pu (pu_move rfl) rfl ?_
      refine R_pu (pu_extract rfl rfl) rfl ?_
      refine R_pu (pu_extract rfl rfl) rfl ?_
      refine R_pu (pu_assign rfl) rfl ?_
      refine R_pu (pu_assign rfl) rfl ?_
      refine R_nil ?_
      refine X_then hK58 ?_
      refine C_seq (fun K61 hK61 => ?_)
      refine C_region ?_
      by_cases hy : m.length = l.length
      · refine R_pu (pu_move rfl) rfl ?_
        refine R_pu (pu_move rfl) rfl ?_
        refine R_pu (pu_move rfl) rfl ?_
        refine R_pu (pu_move rfl) rfl ?_
        have o62 : Tb w45 b3_0 := (T44.no k45)
        refine R_lo (lo_call (by kernel_rfl) rfl (poly_interp b3_0 A l c A2 m c2 x hx _ (HB.keptNo kk45) hc (HB2.keptNo kk45) hc2 (by have hm_ := (hM).2; omega) (by first | omega | (simp; done) | (simp; omega)) hM hy (HB.aw (Nat.le_trans kk0.size le43)) (HB2.aw (Nat.le_trans kk0.size le43)) o62)) rfl ?_
        rintro _ w46 ⟨rfl, T46, k46⟩
        have kk46 := kk45.trans k46 (fun i hi => .inr (hi ▸ (Nat.le_trans kk0.size le43)))
        refine R_pu (pu_move rfl) rfl ?_
        refine R_pu (pu_extract rfl rfl) rfl ?_
        refine R_pu (pu_extract rfl rfl) rfl ?_
        refine R_pu (pu_assign rfl) rfl ?_
        refine R_pu (pu_assign rfl) rfl ?_
        refine R_nil ?_
        refine X_then hK61 ?_
        refine C_seq (fun K63 hK63 => ?_)
        refine C_region ?_
        refine R_pu (pu_move rfl) rfl ?_
        refine R_pu (pu_move rfl) rfl ?_
        refine R_pu (pu_move rfl) rfl ?_
        refine R_lo (lo_call (by kernel_rfl) rfl (ref_interp A l c A2 m c2 x hx _ (HB.keptNo kk46) hc (HB2.keptNo kk46) hc2 (by have hm_ := (hM).2; omega) (by first | omega | (simp; done) | (simp; omega)) hM hy)) rfl ?_
        rintro _ w47 ⟨rfl, k47⟩
        have kk47 := kk46.then_ k47
        refine R_pu (pu_move rfl) rfl ?_
        refine R_pu (pu_extract rfl rfl) rfl ?_
        refine R_pu (pu_extract rfl rfl) rfl ?_
        refine R_pu (pu_assign rfl) rfl ?_
        refine R_pu (pu_assign rfl) rfl ?_
        refine R_nil ?_
        refine X_then hK63 ?_
        refine C_seq (fun K64 hK64 => ?_)
        refine C_region ?_
        refine R_pu (pu_move rfl) rfl ?_
        refine R_pu (pu_move rfl) rfl ?_
        refine R_lo (lo_call (by kernel_rfl) rfl (poly_weights_nil A l c x hx _ (HB.keptNo kk47) hc (by first | omega | (simp; done)))) rfl ?_
        rintro _ w48 ⟨rfl, k48⟩
        have kk48 := kk47.then_ k48
        refine R_pu (pu_move rfl) rfl ?_
        refine R_pu (pu_extract rfl rfl) rfl ?_
        refine R_pu (pu_extract rfl rfl) rfl ?_
        refine R_pu (pu_assign rfl) rfl ?_
        refine R_pu (pu_assign rfl) rfl ?_
        refine R_nil ?_
        refine X_then hK64 ?_
        refine C_seq (fun K65 hK65 => ?_)
        refine C_region ?_
        refine R_pu (pu_move rfl) rfl ?_
        refine R_pu (pu_move rfl) rfl ?_
        refine R_pu (pu_move rfl) rfl ?_
        refine R_lo (lo_call (by kernel_rfl) rfl (poly_interp_nil A l c A2 m c2 x hx _ (HB.keptNo kk48) hc (HB2.keptNo kk48) hc2 (by first | omega | (simp; done) | (simp; omega)) (by first | omega | (simp; done) | (simp; omega)))) rfl ?_
        rintro _ w49 ⟨rfl, k49⟩
        have kk49 := kk48.then_ k49
        refine R_pu (pu_move rfl) rfl ?_
        refine R_pu (pu_extract rfl rfl) rfl ?_
        refine R_pu (pu_extract rfl rfl) rfl ?_
        refine R_pu (pu_assign rfl) rfl ?_
        refine R_pu (pu_assign rfl) rfl ?_
        refine R_nil ?_
        refine X_then hK65 ?_
        refine C_seq (fun K66 hK66 => ?_)
        refine C_region ?_
        refine R_pu (pu_move rfl) rfl ?_
        have ob67 := (((((Q44.keptNo k45).on k46 (by have := T43.lt; omega)).keptNo k47).keptNo k48).keptNo k49)
        refine R_pu (pu_bstr ob67.bs Tryd.underlying41 Tryd.underlying5 Tryd.underlying9 rfl rfl) rfl ?_
        refine R_pu (pu_move rfl) rfl ?_
        have ob68 := ((((Q45.on k46 (by have := T44.lt; omega)).keptNo k47).keptNo k48).keptNo k49)
        refine R_pu (pu_bstr ob68.bs Tryd.underlying41 Tryd.underlying5 Tryd.underlying9 rfl rfl) rfl ?_
        refine R_pu (pu_true (pu_eqls (p := (wtL l x) = (wtL l x)) rfl rfl (bstr_inj (ob67.bs).byte (ob68.bs).byte)) rfl) rfl ?_
        refine R_pu (pu_move rfl) rfl ?_
        refine R_gpu rfl rfl (pu_move rfl) rfl ?_
        refine R_glo rfl rfl (lo_call (by kernel_rfl) rfl (num02_nil _)) rfl ?_
        rintro _ w50 ⟨rfl, k50⟩
        have kk50 := kk49.then_ k50
        refine R_gpu rfl rfl (pu_move rfl) rfl ?_
        refine R_gpu rfl rfl (pu_true (pu_eql (p := (0 : Nat) = 0) rfl rfl (by omega)) (by decide)) rfl ?_
        refine R_pu (pu_pickt rfl rfl) rfl ?_
        refine R_pu (pu_move rfl) rfl ?_
        refine R_gpu rfl rfl (pu_move rfl) rfl ?_
        refine R_gpu rfl rfl (pu_move rfl) rfl ?_
        refine R_gpu rfl rfl (pu_true (pu_eql (p := (ipN l m x l.length) = (ipN l m x l.length)) rfl rfl (by omega)) rfl) rfl ?_
        refine R_pu (pu_pickt rfl rfl) rfl ?_
        refine R_pu (pu_move rfl) rfl ?_
        refine R_gpu rfl rfl (pu_move rfl) rfl ?_
        refine R_glo rfl rfl (lo_call (by kernel_rfl) rfl (num02_nil _)) rfl ?_
        rintro _ w51 ⟨rfl, k51⟩
        have kk51 := kk50.then_ k51
        refine R_gpu rfl rfl (pu_move rfl) rfl ?_
        refine R_gpu rfl rfl (pu_true (pu_eql (p := (0 : Nat) = 0) rfl rfl (by omega)) (by decide)) rfl ?_
        refine R_pu (pu_pickt rfl rfl) rfl ?_
        refine R_pu (pu_move rfl) rfl ?_
        refine R_gpu rfl rfl (pu_move rfl) rfl ?_
        have o69 : Gt w51 := (((((((o59.no k45).on k46 (Ne.symm ne_b3_0_0)).no k47).no k48).no k49).no k50).no k51)
        refine R_glo rfl rfl (lo_call (by kernel_rfl) rfl (num02_err 1 _ o69)) rfl ?_
        rintro _ w52 ⟨rfl, k52⟩
        have kk52 := kk51.then_ k52
        refine R_gpu rfl rfl (pu_true (pu_eql (p := (1 : Nat) = 1) rfl rfl (by omega)) (by decide)) rfl ?_
        refine R_pu (pu_pickt rfl rfl) rfl ?_
        refine R_pu (pu_move rfl) rfl ?_
        refine R_gpu rfl rfl (pu_move rfl) rfl ?_
        have o70 : Gt w52 := (o69.no k52)
        refine R_glo rfl rfl (lo_call (by kernel_rfl) rfl (num02_err 1 _ o70)) rfl ?_
        rintro _ w53 ⟨rfl, k53⟩
        have kk53 := kk52.then_ k53
        refine R_gpu rfl rfl (pu_true (pu_eql (p := (1 : Nat) = 1) rfl rfl (by omega)) (by decide)) rfl ?_
        refine R_pu (pu_pickt rfl rfl) rfl ?_
        refine R_pu (pu_move rfl) rfl ?_
        have o71 : Gt w53 := (o70.no k53)
        refine R_glo rfl rfl (lo_call (by kernel_rfl) rfl (sure02 _ o71)) rfl ?_
        rintro _ w54 ⟨rfl, k54⟩
        have kk54 := kk53.then_ k54
        refine R_pu (pu_pickt rfl rfl) rfl ?_
        refine R_pu (pu_assign rfl) rfl ?_
        refine R_nil ?_
        refine X_then hK66 ?_
        refine C_ret ?_
        exact X_ret1 (.inl rfl) rfl rfl ⟨rfl, kk54⟩
      · refine R_pu (pu_move rfl) rfl ?_
        refine R_pu (pu_move rfl) rfl ?_
        refine R_pu (pu_move rfl) rfl ?_
        refine R_pu (pu_move rfl) rfl ?_
        have o72 : Tb w45 b3_0 := (T44.no k45)
        refine R_lo (lo_call (by kernel_rfl) rfl (poly_interp_len b3_0 A l c A2 m c2 x hx _ (HB.keptNo kk45) hc (HB2.keptNo kk45) hc2 (by have hm_ := (hM).2; omega) (by first | omega | (simp; done) | (simp; omega)) hM hy (HB.aw (Nat.le_trans kk0.size le43)) (HB2.aw (Nat.le_trans kk0.size le43)) o72)) rfl ?_
        rintro _ w55 ⟨rfl, T55, k55⟩
        have kk55 := kk45.trans k55 (fun i hi => .inr (hi ▸ (Nat.le_trans kk0.size le43)))
        refine R_pu (pu_move rfl) rfl ?_
        refine R_pu (pu_extract rfl rfl) rfl ?_
        refine R_pu (pu_extract rfl rfl) rfl ?_
        refine R_pu (pu_assign rfl) rfl ?_
        refine R_pu (pu_assign rfl) rfl ?_
        refine R_nil ?_
        refine X_then hK61 ?_
        refine C_seq (fun K73 hK73 => ?_)
        refine C_region ?_
        refine R_pu (pu_move rfl) rfl ?_
        refine R_pu (pu_move rfl) rfl ?_
        refine R_pu (pu_move rfl) rfl ?_
        refine R_lo (lo_call (by kernel_rfl) rfl (ref_interp_len A l c A2 m c2 x hx _ (HB.keptNo kk55) hc (HB2.keptNo kk55) hc2 (by have hm_ := (hM).2; omega) (by first | omega | (simp; done) | (simp; omega)) hM hy)) rfl ?_
        rintro _ w56 ⟨rfl, k56⟩
        have kk56 := kk55.then_ k56
        refine R_pu (pu_move rfl) rfl ?_
        refine R_pu (pu_extract rfl rfl) rfl ?_
        refine R_pu (pu_extract rfl rfl) rfl ?_
        refine R_pu (pu_assign rfl) rfl ?_
        refine R_pu (pu_assign rfl) rfl ?_
        refine R_nil ?_
        refine X_then hK73 ?_
        refine C_seq (fun K74 hK74 => ?_)
        refine C_region ?_
        refine R_pu (pu_move rfl) rfl ?_
        refine R_pu (pu_move rfl) rfl ?_
        refine R_lo (lo_call (by kernel_rfl) rfl (poly_weights_nil A l c x hx _ (HB.keptNo kk56) hc (by first | omega | (simp; done)))) rfl ?_
        rintro _ w57 ⟨rfl, k57⟩
        have kk57 := kk56.then_ k57
        refine R_pu (pu_move rfl) rfl ?_
        refine R_pu (pu_extract rfl rfl) rfl ?_
        refine R_pu (pu_extract rfl rfl) rfl ?_
        refine R_pu (pu_assign rfl) rfl ?_
        refine R_pu (pu_assign rfl) rfl ?_
        refine R_nil ?_
        refine X_then hK74 ?_
        refine C_seq (fun K75 hK75 => ?_)
        refine C_region ?_
        refine R_pu (pu_move rfl) rfl ?_
        refine R_pu (pu_move rfl) rfl ?_
        refine R_pu (pu_move rfl) rfl ?_
        refine R_lo (lo_call (by kernel_rfl) rfl (poly_interp_nil A l c A2 m c2 x hx _ (HB.keptNo kk57) hc (HB2.keptNo kk57) hc2 (by first | omega | (simp; done) | (simp; omega)) (by first | omega | (simp; done) | (simp; omega)))) rfl ?_
        rintro _ w58 ⟨rfl, k58⟩
        have kk58 := kk57.then_ k58
        refine R_pu (pu_move rfl) rfl ?_
        refine R_pu (pu_extract rfl rfl) rfl ?_
        refine R_pu (pu_extract rfl rfl) rfl ?_
        refine R_pu (pu_assign rfl) rfl ?_
        refine R_pu (pu_assign rfl) rfl ?_
        refine R_nil ?_
        refine X_then hK75 ?_
        refine C_seq (fun K76 hK76 => ?_)
        refine C_region ?_
        refine R_pu (pu_move rfl) rfl ?_
        have ob77 := (((((Q44.keptNo k45).on k55 (by have := T43.lt; omega)).keptNo k56).keptNo k57).keptNo k58)
        refine R_pu (pu_bstr ob77.bs Tryd.underlying41 Tryd.underlying5 Tryd.underlying9 rfl rfl) rfl ?_
        refine R_pu (pu_move rfl) rfl ?_
        have ob78 := ((((Q45.on k55 (by have := T44.lt; omega)).keptNo k56).keptNo k57).keptNo k58)
        refine R_pu (pu_bstr ob78.bs Tryd.underlying41 Tryd.underlying5 Tryd.underlying9 rfl rfl) rfl ?_
        refine R_pu (pu_true (pu_eqls (p := (wtL l x) = (wtL l x)) rfl rfl (bstr_inj (ob77.bs).byte (ob78.bs).byte)) rfl) rfl ?_
        refine R_pu (pu_move rfl) rfl ?_
        refine R_gpu rfl rfl (pu_move rfl) rfl ?_
        refine R_glo rfl rfl (lo_call (by kernel_rfl) rfl (num02_nil _)) rfl ?_
        rintro _ w59 ⟨rfl, k59⟩
        have kk59 := kk58.then_ k59
        refine R_gpu rfl rfl (pu_move rfl) rfl ?_
        refine R_gpu rfl rfl (pu_true (pu_eql (p := (0 : Nat) = 0) rfl rfl (by omega)) (by decide)) rfl ?_
        refine R_pu (pu_pickt rfl rfl) rfl ?_
        refine R_pu (pu_move rfl) rfl ?_
        refine R_gpu rfl rfl (pu_move rfl) rfl ?_
        refine R_gpu rfl rfl (pu_move rfl) rfl ?_
        refine R_gpu rfl rfl (pu_true (pu_eql (p := (0 : Nat) = 0) rfl rfl (by omega)) (by decide)) rfl ?_
        refine R_pu (pu_pickt rfl rfl) rfl ?_
        refine R_pu (pu_move rfl) rfl ?_
        refine R_gpu rfl rfl (pu_move rfl) rfl ?_
        have o79 : Gt w59 := ((((((o59.no k45).on k55 (Ne.symm ne_b3_0_0)).no k56).no k57).no k58).no k59)
        refine R_glo rfl rfl (lo_call (by kernel_rfl) rfl (num02_err 1 _ o79)) rfl ?_
        rintro _ w60 ⟨rfl, k60⟩
        have kk60 := kk59.then_ k60
        refine R_gpu rfl rfl (pu_move rfl) rfl ?_
        refine R_gpu rfl rfl (pu_true (pu_eql (p := (1 : Nat) = 1) rfl rfl (by omega)) (by decide)) rfl ?_
        refine R_pu (pu_pickt rfl rfl) rfl ?_
        refine R_pu (pu_move rfl) rfl ?_
        refine R_gpu rfl rfl (pu_move rfl) rfl ?_
        have o80 : Gt w60 := (o79.no k60)
        refine R_glo rfl rfl (lo_call (by kernel_rfl) rfl (num02_err 1 _ o80)) rfl ?_
        rintro _ w61 ⟨rfl, k61⟩
        have kk61 := kk60.then_ k61
        refine R_gpu rfl rfl (pu_true (pu_eql (p := (1 : Nat) = 1) rfl rfl (by omega)) (by decide)) rfl ?_
        refine R_pu (pu_pickt rfl rfl) rfl ?_
        refine R_pu (pu_move rfl) rfl ?_
        refine R_gpu rfl rfl (pu_move rfl) rfl ?_
        have o81 : Gt w61 := (o80.no k61)
        refine R_glo rfl rfl (lo_call (by kernel_rfl) rfl (num02_err 1 _ o81)) rfl ?_
        rintro _ w62 ⟨rfl, k62⟩
        have kk62 := kk61.then_ k62
        refine R_gpu rfl rfl (pu_true (pu_eql (p := (1 : Nat) = 1) rfl rfl (by omega)) (by decide)) rfl ?_
        refine R_pu (pu_pickt rfl rfl) rfl ?_
        refine R_pu (pu_move rfl) rfl ?_
        have o82 : Gt w62 := (o81.no k62)
        refine R_glo rfl rfl (lo_call (by kernel_rfl) rfl (sure02 _ o82)) rfl ?_
        rintro _ w63 ⟨rfl, k63⟩
        have kk63 := kk62.then_ k63
        refine R_pu (pu_pickt rfl rfl) rfl ?_
        refine R_pu (pu_assign rfl) rfl ?_
        refine R_nil ?_
        refine X_then hK76 ?_
        refine C_ret ?_
        exact X_ret1 (.inl rfl) rfl rfl ⟨rfl, kk63⟩
    · refine R_pu (pu_move rfl) rfl ?_
      refine R_pu (pu_move rfl) rfl ?_
      refine R_pu (pu_move rfl) rfl ?_
      refine R_lo (lo_call (by kernel_rfl) rfl (poly_weights_no b3_0 A l c x hx _ (HB.keptNo kk43) hc (by first | omega | (simp; done)) hM)) rfl ?_
      rintro _ w64 ⟨rfl, k64⟩
      have kk64 := kk43.then_ k64
      refine R_pu (pu_move rfl) rfl ?_
      refine R_pu (pu_extract rfl rfl) rfl ?_
      refine R_pu (pu_extract rfl rfl) rfl ?_
      refine R_pu (pu_assign rfl) rfl ?_
      refine R_pu (pu_assign rfl) rfl ?_
      refine R_nil ?_
      refine X_then hK55 ?_
      refine C_seq (fun K83 hK83 => ?_)
      refine C_region ?_
      refine R_pu (pu_move rfl) rfl ?_
      refine R_pu (pu_move rfl) rfl ?_
      refine R_lo (lo_call (by kernel_rfl) rfl (ref_weights_no A l c x hx _ (HB.keptNo kk64) hc (by first | omega | (simp; done)) hM)) rfl ?_
      rintro _ w65 ⟨rfl, k65⟩
      have kk65 := kk64.then_ k65
      refine R_pu (pu_move rfl) rfl ?_
      refine R_pu (pu_extract rfl rfl) rfl ?_
      refine R_pu (pu_extract rfl rfl) rfl ?_
      refine R_pu (pu_assign rfl) rfl ?_
      refine R_pu (pu_assign rfl) rfl ?_
      refine R_nil ?_
      refine X_then hK83 ?_
      refine C_seq (fun K84 hK84 => ?_)
      refine C_region ?_
      by_cases hy : m.length = l.length
      · refine R_pu (pu_move rfl) rfl ?_
        refine R_pu (pu_move rfl) rfl ?_
        refine R_pu (pu_move rfl) rfl ?_
        refine R_pu (pu_move rfl) rfl ?_
        refine R_lo (lo_call (by kernel_rfl) rfl (poly_interp_no b3_0 A l c A2 m c2 x hx _ (HB.keptNo kk65) hc (HB2.keptNo kk65) hc2 (by first | omega | (simp; done) | (simp; omega)) (by first | omega | (simp; done) | (simp; omega)) hM)) rfl ?_
        rintro _ w66 ⟨rfl, k66⟩
        have kk66 := kk65.then_ k66
        refine R_pu (pu_move rfl) rfl ?_
        refine R_pu (pu_extract rfl rfl) rfl ?_
        refine R_pu (pu_extract rfl rfl) rfl ?_
        refine R_pu (pu_assign rfl) rfl ?_
        refine R_pu (pu_assign rfl) rfl ?_
        refine R_nil ?_
        refine X_then hK84 ?_
        refine C_seq (fun K85 hK85 => ?_)
        refine C_region ?_
        refine R_pu (pu_move rfl) rfl ?_
        refine R_pu (pu_move rfl) rfl ?_
        refine R_pu (pu_move rfl) rfl ?_
        refine R_lo (lo_call (by kernel_rfl) rfl (ref_interp_no A l c A2 m c2 x hx _ (HB.keptNo kk66) hc (HB2.keptNo kk66) hc2 (by first | omega | (simp; done) | (simp; omega)) (by first | omega | (simp; done) | (simp; omega)) hM)) rfl ?_
        rintro _ w67 ⟨rfl, k67⟩
        have kk67 := kk66.then_ k67
        refine R_pu (pu_move rfl) rfl ?_
        refine R_pu (pu_extract rfl rfl) rfl ?_
        refine R_pu (pu_extract rfl rfl) rfl ?_
        refine R_pu (pu_assign rfl) rfl ?_
        refine R_pu (pu_assign rfl) rfl ?_
        refine R_nil ?_
        refine X_then hK85 ?_
        refine C_seq (fun K86 hK86 => ?_)
        refine C_region ?_
        refine R_pu (pu_move rfl) rfl ?_
        refine R_pu (pu_move rfl) rfl ?_
        refine R_lo (lo_call (by kernel_rfl) rfl (poly_weights_nil A l c x hx _ (HB.keptNo kk67) hc (by first | omega | (simp; done)))) rfl ?_
        rintro _ w68 ⟨rfl, k68⟩
        have kk68 := kk67.then_ k68
        refine R_pu (pu_move rfl) rfl ?_
        refine R_pu (pu_extract rfl rfl) rfl ?_
        refine R_pu (pu_extract rfl rfl) rfl ?_
        refine R_pu (pu_assign rfl) rfl ?_
        refine R_pu (pu_assign rfl) rfl ?_
        refine R_nil ?_
        refine X_then hK86 ?_
        refine C_seq (fun K87 hK87 => ?_)
        refine C_region ?_
        refine R_pu (pu_move rfl) rfl ?_
        refine R_pu (pu_move rfl) rfl ?_
        refine R_pu (pu_move rfl) rfl ?_
        refine R_lo (lo_call (by kernel_rfl) rfl (poly_interp_nil A l c A2 m c2 x hx _ (HB.keptNo kk68) hc (HB2.keptNo kk68) hc2 (by first | omega | (simp; done) | (simp; omega)) (by first | omega | (simp; done) | (simp; omega)))) rfl ?_
        rintro _ w69 ⟨rfl, k69⟩
        have kk69 := kk68.then_ k69
        refine R_pu (pu_move rfl) rfl ?_
        refine R_pu (pu_extract rfl rfl) rfl ?_
        refine R_pu (pu_extract rfl rfl) rfl ?_
        refine R_pu (pu_assign rfl) rfl ?_
        refine R_pu (pu_assign rfl) rfl ?_
        refine R_nil ?_
        refine X_then hK87 ?_
        refine C_seq (fun K88 hK88 => ?_)
        refine C_region ?_
        refine R_pu (pu_move rfl) rfl ?_
        refine R_pu (pu_bstr (Bs.nil _ none) Tryd.underlying41 Tryd.underlying5 Tryd.underlying9 rfl rfl) rfl ?_
        refine R_pu (pu_move rfl) rfl ?_
        refine R_pu (pu_bstr (Bs.nil _ none) Tryd.underlying41 Tryd.underlying5 Tryd.underlying9 rfl rfl) rfl ?_
        refine R_pu (pu_true (pu_eqls (p := ([]) = ([])) rfl rfl (bstr_inj (show ∀ n ∈ ([] : List Nat), n < 256 by simp) (show ∀ n ∈ ([] : List Nat), n < 256 by simp))) rfl) rfl ?_
        refine R_pu (pu_move rfl) rfl ?_
        refine R_gpu rfl rfl (pu_move rfl) rfl ?_
        have o89 : Gt w69 := (((((((hG.no k43).no k64).no k65).no k66).no k67).no k68).no k69)
        refine R_glo rfl rfl (lo_call (by kernel_rfl) rfl (num02_err 1 _ o89)) rfl ?_
        rintro _ w70 ⟨rfl, k70⟩
        have kk70 := kk69.then_ k70
        refine R_gpu rfl rfl (pu_move rfl) rfl ?_
        refine R_gpu rfl rfl (pu_true (pu_eql (p := (1 : Nat) = 1) rfl rfl (by omega)) (by decide)) rfl ?_
        refine R_pu (pu_pickt rfl rfl) rfl ?_
        refine R_pu (pu_move rfl) rfl ?_
        refine R_gpu rfl rfl (pu_move rfl) rfl ?_
        refine R_gpu rfl rfl (pu_move rfl) rfl ?_
        refine R_gpu rfl rfl (pu_true (pu_eql (p := (0 : Nat) = 0) rfl rfl (by omega)) (by decide)) rfl ?_
        refine R_pu (pu_pickt rfl rfl) rfl ?_
        refine R_pu (pu_move rfl) rfl ?_
        refine R_gpu rfl rfl (pu_move rfl) rfl ?_
        have o90 : Gt w70 := (o89.no k70)
        refine R_glo rfl rfl (lo_call (by kernel_rfl) rfl (num02_err 1 _ o90)) rfl ?_
        rintro _ w71 ⟨rfl, k71⟩
        have kk71 := kk70.then_ k71
        refine R_gpu rfl rfl (pu_move rfl) rfl ?_
        refine R_gpu rfl rfl (pu_true (pu_eql (p := (1 : Nat) = 1) rfl rfl (by omega)) (by decide)) rfl ?_
        refine R_pu (pu_pickt rfl rfl) rfl ?_
        refine R_pu (pu_move rfl) rfl ?_
        refine R_gpu rfl rfl (pu_move rfl) rfl ?_
        have o91 : Gt w71 := (o90.no k71)
        refine R_glo rfl rfl (lo_call (by kernel_rfl) rfl (num02_err 1 _ o91)) rfl ?_
        rintro _ w72 ⟨rfl, k72⟩
        have kk72 := kk71.then_ k72
        refine R_gpu rfl rfl (pu_true (pu_eql (p := (1 : Nat) = 1) rfl rfl (by omega)) (by decide)) rfl ?_
        refine R_pu (pu_pickt rfl rfl) rfl ?_
        refine R_pu (pu_move rfl) rfl ?_
        refine R_gpu rfl rfl (pu_move rfl) rfl ?_
        have o92 : Gt w72 := (o91.no k72)
        refine R_glo rfl rfl (lo_call (by kernel_rfl) rfl (num02_err 1 _ o92)) rfl ?_
        rintro _ w73 ⟨rfl, k73⟩
        have kk73 := kk72.then_ k73
        refine R_gpu rfl rfl (pu_true (pu_eql (p := (1 : Nat) = 1) rfl rfl (by omega)) (by decide)) rfl ?_
        refine R_pu (pu_pickt rfl rfl) rfl ?_
        refine R_pu (pu_move rfl) rfl ?_
        have o93 : Gt w73 := (o92.no k73)
        refine R_glo rfl rfl (lo_call (by kernel_rfl) rfl (sure02 _ o93)) rfl ?_
        rintro _ w74 ⟨rfl, k74⟩
        have kk74 := kk73.then_ k74
        refine R_pu (pu_pickt rfl rfl) rfl ?_
        refine R_pu (pu_assign rfl) rfl ?_
        refine R_nil ?_
        refine X_then hK88 ?_
        refine C_ret ?_
        exact X_ret1 (.inl rfl) rfl rfl ⟨rfl, kk74⟩
      · refine R_pu (pu_move rfl) rfl ?_
        refine R_pu (pu_move rfl) rfl ?_
        refine R_pu (pu_move rfl) rfl ?_
        refine R_pu (pu_move rfl) rfl ?_
        refine R_lo (lo_call (by kernel_rfl) rfl (poly_interp_no b3_0 A l c A2 m c2 x hx _ (HB.keptNo kk65) hc (HB2.keptNo kk65) hc2 (by first | omega | (simp; done) | (simp; omega)) (by first | omega | (simp; done) | (simp; omega)) hM)) rfl ?_
        rintro _ w75 ⟨rfl, k75⟩
        have kk75 := kk65.then_ k75
        refine R_pu (pu_move rfl) rfl ?_
        refine R_pu (pu_extract rfl rfl) rfl ?_
        refine R_pu (pu_extract rfl rfl) rfl ?_
        refine R_pu (pu_assign rfl) rfl ?_
        refine R_pu (pu_assign rfl) rfl ?_
        refine R_nil ?_
        refine X_then hK84 ?_
        refine C_seq (fun K94 hK94 => ?_)
        refine C_region ?_
        refine R_pu (pu_move rfl) rfl ?_
        refine R_pu (pu_move rfl) rfl ?_
        refine R_pu (pu_move rfl) rfl ?_
        refine R_lo (lo_call (by kernel_rfl) rfl (ref_interp_no A l c A2 m c2 x hx _ (HB.keptNo kk75) hc (HB2.keptNo kk75) hc2 (by first | omega | (simp; done) | (simp; omega)) (by first | omega | (simp; done) | (simp; omega)) hM)) rfl ?_
        rintro _ w76 ⟨rfl, k76⟩
        have kk76 := kk75.then_ k76
        refine R_pu (pu_move rfl) rfl ?_
        refine R_pu (pu_extract rfl rfl) rfl ?_
        refine R_pu (pu_extract rfl rfl) rfl ?_
        refine R_pu (pu_assign rfl) rfl ?_
        refine R_pu (pu_assign rfl) rfl ?_
        refine R_nil ?_
        refine X_then hK94 ?_
        refine C_seq (fun K95 hK95 => ?_)
        refine C_region ?_
        refine R_pu (pu_move rfl) rfl ?_
        refine R_pu (pu_move rfl) rfl ?_
        refine R_lo (lo_call (by kernel_rfl) rfl (poly_weights_nil A l c x hx _ (HB.keptNo kk76) hc (by first | omega | (simp; done)))) rfl ?_
        rintro _ w77 ⟨rfl, k77⟩
        have kk77 := kk76.then_ k77
        refine R_pu (pu_move rfl) rfl ?_
        refine R_pu (pu_extract rfl rfl) rfl ?_
        refine R_pu (pu_extract rfl rfl) rfl ?_
        refine R_pu (pu_assign rfl) rfl ?_
        refine R_pu (pu_assign rfl) rfl ?_
        refine R_nil ?_
        refine X_then hK95 ?_
        refine C_seq (fun K96 hK96 => ?_)
        refine C_region ?_
        refine R_pu (pu_move rfl) rfl ?_
        refine R_pu (pu_move rfl) rfl ?_
        refine R_pu (pu_move rfl) rfl ?_
        refine R_lo (lo_call (by kernel_rfl) rfl (poly_interp_nil A l c A2 m c2 x hx _ (HB.keptNo kk77) hc (HB2.keptNo kk77) hc2 (by first | omega | (simp; done) | (simp; omega)) (by first | omega | (simp; done) | (simp; omega)))) rfl ?_
        rintro _ w78 ⟨rfl, k78⟩
        have kk78 := kk77.then_ k78
        refine R_pu (pu_move rfl) rfl ?_
        refine R_pu (pu_extract rfl rfl) rfl ?_
        refine R_pu (pu_extract rfl rfl) rfl ?_
        refine R_pu (pu_assign rfl) rfl ?_
        refine R_pu (pu_assign rfl) rfl ?_
        refine R_nil ?_
        refine X_then hK96 ?_
        refine C_seq (fun K97 hK97 => ?_)
        refine C_region ?_
        refine R_pu (pu_move rfl) rfl ?_
        refine R_pu (pu_bstr (Bs.nil _ none) Tryd.underlying41 Tryd.underlying5 Tryd.underlying9 rfl rfl) rfl ?_
        refine R_pu (pu_move rfl) rfl ?_
        refine R_pu (pu_bstr (Bs.nil _ none) Tryd.underlying41 Tryd.underlying5 Tryd.underlying9 rfl rfl) rfl ?_
        refine R_pu (pu_true (pu_eqls (p := ([]) = ([])) rfl rfl (bstr_inj (show ∀ n ∈ ([] : List Nat), n < 256 by simp) (show ∀ n ∈ ([] : List Nat), n < 256 by simp))) rfl) rfl ?_
        refine R_pu (pu_move rfl) rfl ?_
        refine R_gpu rfl rfl (pu_move rfl) rfl ?_
        have o98 : Gt w78 := (((((((hG.no k43).no k64).no k65).no k75).no k76).no k77).no k78)
        refine R_glo rfl rfl (lo_call (by kernel_rfl) rfl (num02_err 1 _ o98)) rfl ?_
        rintro _ w79 ⟨rfl, k79⟩
        have kk79 := kk78.then_ k79
        refine R_gpu rfl rfl (pu_move rfl) rfl ?_
        refine R_gpu rfl rfl (pu_true (pu_eql (p := (1 : Nat) = 1) rfl rfl (by omega)) (by decide)) rfl ?_
        refine R_pu (pu_pickt rfl rfl) rfl ?_
        refine R_pu (pu_move rfl) rfl ?_
        refine R_gpu rfl rfl (pu_move rfl) rfl ?_
        refine R_gpu rfl rfl (pu_move rfl) rfl ?_
        refine R_gpu rfl rfl (pu_true (pu_eql (p := (0 : Nat) = 0) rfl rfl (by omega)) (by decide)) rfl ?_
        refine R_pu (pu_pickt rfl rfl) rfl ?_
        refine R_pu (pu_move rfl) rfl ?_
        refine R_gpu rfl rfl (pu_move rfl) rfl ?_
        have o99 : Gt w79 := (o98.no k79)
        refine R_glo rfl rfl (lo_call (by kernel_rfl) rfl (num02_err 1 _ o99)) rfl ?_
        rintro _ w80 ⟨rfl, k80⟩
        have kk80 := kk79.then_ k80
        refine R_gpu rfl rfl (pu_move rfl) rfl ?_
        refine R_gpu rfl rfl (pu_true (pu_eql (p := (1 : Nat) = 1) rfl rfl (by omega)) (by decide)) rfl ?_
        refine R_pu (pu_pickt rfl rfl) rfl ?_
        refine R_pu (pu_move rfl) rfl ?_
        refine R_gpu rfl rfl (pu_move rfl) rfl ?_
        have o100 : Gt w80 := (o99.no k80)
        refine R_glo rfl rfl (lo_call (by kernel_rfl) rfl (num02_err 1 _ o100)) rfl ?_
        rintro _ w81 ⟨rfl, k81⟩
        have kk81 := kk80.then_ k81
        refine R_gpu rfl rfl (pu_true (pu_eql (p := (1 : Nat) = 1) rfl rfl (by omega)) (by decide)) rfl ?_
        refine R_pu (pu_pickt rfl rfl) rfl ?_
        refine R_pu (pu_move rfl) rfl ?_
        refine R_gpu rfl rfl (pu_move rfl) rfl ?_
        have o101 : Gt w81 := (o100.no k81)
        refine R_glo rfl rfl (lo_call (by kernel_rfl) rfl (num02_err 1 _ o101)) rfl ?_
        rintro _ w82 ⟨rfl, k82⟩
        have kk82 := kk81.then_ k82
        refine R_gpu rfl rfl (pu_true (pu_eql (p := (1 : Nat) = 1) rfl rfl (by omega)) (by decide)) rfl ?_
        refine R_pu (pu_pickt rfl rfl) rfl ?_
        refine R_pu (pu_move rfl) rfl ?_
        have o102 : Gt w82 := (o101.no k82)
        refine R_glo rfl rfl (lo_call (by kernel_rfl) rfl (sure02 _ o102)) rfl ?_
        rintro _ w83 ⟨rfl, k83⟩
        have kk83 := kk82.then_ k83
        refine R_pu (pu_pickt rfl rfl) rfl ?_
        refine R_pu (pu_assign rfl) rfl ?_
        refine R_nil ?_
        refine X_then hK97 ?_
        refine C_ret ?_
        exact X_ret1 (.inl rfl) rfl rfl ⟨rfl, kk83⟩
set_option maxRecDepth 100000 in
set_option maxHeartbeats 2000000 in
theorem polyAlone_ (A : Option Addr) (l : List Nat) (c : Nat) (A2 : Option Addr) (m : List Nat) (c2 : Nat) (x : Nat) (hx : x < 256) (w : World) (HB : Bs w A l) (hc : l.length ≤ c) (hcm : c ≤ maxLen) (HB2 : Bs w A2 m) (hc2 : m.length ≤ c2) (hcm2 : c2 ≤ maxLen) (hG : Gt w) : Ret Tryd.prog 7 #[.slice A (l.length) (c), .slice A2 (m.length) (c2), .int .u8 ((x : Nat) : Int)] w (fun v w' => v = .bool true ∧ Kp No w w') := by
  have hs : l.length < 9223372036854775808 := by have := hcm; unfold maxLen at this; omega
  have hs2 : m.length < 9223372036854775808 := by have := hcm2; unfold maxLen at this; omega
  have kk0 := Kp.refl No w
  refine enter (n := 108) [.slice A (l.length) (c), .slice A2 (m.length) (c2), .int .u8 ((x : Nat) : Int)] Tryd.func7 rfl rfl rfl ?_
  show Cw _ _ _ _ [(0, .slice A (l.length) (c)), (1, .slice A2 (m.length) (c2)), (2, .int .u8 ((x : Nat) : Int))] _
  refine C_seq (fun K1 hK1 => ?_)
  refine C_region ?_
  refine R_pu (pu_assign rfl) rfl ?_
  refine R_nil ?_
  refine X_then hK1 ?_
  refine C_seq (fun K2 hK2 => ?_)
  refine C_region ?_
  refine R_lo (lo_call (by kernel_rfl) rfl (gf_new _)) rfl ?_
  rintro _ w1 ⟨b1_0, rfl, le1, T1, k1⟩
  have kk1 := kk0.then_ k1
  have ne_b1_0_0 : b1_0 ≠ 0 := Nat.ne_of_gt (Nat.lt_of_lt_of_le hG.lt le1)
  refine R_pu (pu_assign rfl) rfl ?_
  refine R_nil ?_
  refine X_then hK2 ?_
  refine C_seq (fun K3 hK3 => ?_)
  refine C_region ?_
  by_cases hM : May m
  · refine R_pu (pu_move rfl) rfl ?_
    refine R_pu (pu_move rfl) rfl ?_
    refine R_pu (pu_move rfl) rfl ?_
    have o4 : Gt w1 := (hG.no k1)
    refine R_lo (lo_call (by kernel_rfl) rfl (poly_weights b1_0 A2 m c2 x hx _ (HB2.keptNo kk1) hc2 (by have hm_ := (hM).2; omega) hM (HB2.aw (Nat.le_trans kk0.size le1)) T1)) rfl ?_
    rintro _ w2 ⟨A_wl, c_wl, rfl, Q2, T2, k2⟩
    have kk2 := kk1.trans k2 (fun i hi => .inr (hi ▸ (Nat.le_trans kk0.size le1)))
    have z5 : w1.heap.size ≤ w2.heap.size := k2.size
    refine R_pu (pu_move rfl) rfl ?_
    refine R_pu (pu_extract rfl rfl) rfl ?_
    refine R_pu (pu_extract rfl rfl) rfl ?_
    refine R_pu (pu_assign rfl) rfl ?_
    refine R_pu (pu_assign rfl) rfl ?_
    refine R_nil ?_
    refine X_then hK3 ?_
    refine C_seq (fun K6 hK6 => ?_)
    refine C_seq (fun K7 hK7 => ?_)
    refine C_region ?_
    refine R_pu (pu_move rfl) rfl ?_
    refine R_pu (pu_neqnn (by kernel_rfl) rfl) rfl ?_
    refine R_pu (pu_move rfl) rfl ?_
    refine R_gpu rfl rfl (pu_move rfl) rfl ?_
    refine R_gpu rfl rfl (pu_len Tryd.underlying41 rfl) rfl ?_
    refine R_gpu rfl rfl (pu_move rfl) rfl ?_
    refine R_gpu rfl rfl (pu_len Tryd.underlying41 rfl) rfl ?_
    refine R_gpu rfl rfl (pu_gtr (p := l.length > m.length) rfl rfl (by omega)) rfl ?_
    refine R_pu (pu_pickf rfl rfl) rfl ?_
    by_cases g3_9 : l.length > m.length
    · refine R_pu (pu_true (pu_move rfl) g3_9) rfl ?_
      refine R_gno rfl rfl rfl rfl ?_
      refine R_gno rfl rfl rfl rfl ?_
      refine R_gno rfl rfl rfl rfl ?_
      refine R_pu (pu_pickt rfl rfl) rfl ?_
      refine R_nil ?_
      refine X_then hK7 ?_
      refine C_true rfl ?_
      refine C_seq (fun K8 hK8 => ?_)
      refine C_region ?_
      refine R_pu (pu_move rfl) rfl ?_
      refine R_pu (pu_eqlnn (by kernel_rfl) rfl) rfl ?_
      refine R_pu (pu_move rfl) rfl ?_
      refine R_gno rfl rfl rfl rfl ?_
      refine R_gno rfl rfl rfl rfl ?_
      refine R_gno rfl rfl rfl rfl ?_
      refine R_pu (pu_pickt rfl rfl) rfl ?_
      refine R_pu (pu_move rfl) rfl ?_
      have o9 : Gt w2 := (o4.on k2 (Ne.symm ne_b1_0_0))
      refine R_glo rfl rfl (lo_call (by kernel_rfl) rfl (sure02 _ o9)) rfl ?_
      rintro _ w3 ⟨rfl, k3⟩
      have kk3 := kk2.then_ k3
      refine R_pu (pu_pickt rfl rfl) rfl ?_
      refine R_pu (pu_assign rfl) rfl ?_
      refine R_nil ?_
      refine X_then hK8 ?_
      refine C_ret ?_
      refine X_then_ret ?_
      exact X_ret1 (.inl rfl) rfl rfl ⟨rfl, kk3⟩
    · refine R_pu (pu_false (pu_move rfl) g3_9) rfl ?_
      refine R_gpu rfl rfl (pu_move rfl) rfl ?_
      refine R_gpu rfl rfl (pu_len Tryd.underlying41 rfl) rfl ?_
      refine R_gpu rfl rfl (pu_gtr (p := m.length > 60) rfl rfl (by omega)) rfl ?_
      refine R_pu (pu_pickf rfl rfl) rfl ?_
      refine R_nil ?_
      refine X_then hK7 ?_
      refine C_dec rfl (fun h37 => ?_) (fun h37 => ?_)
      · refine C_seq (fun K10 hK10 => ?_)
        refine C_region ?_
        refine R_pu (pu_move rfl) rfl ?_
        refine R_pu (pu_eqlnn (by kernel_rfl) rfl) rfl ?_
        refine R_pu (pu_move rfl) rfl ?_
        refine R_gno rfl rfl rfl rfl ?_
        refine R_gno rfl rfl rfl rfl ?_
        refine R_gno rfl rfl rfl rfl ?_
        refine R_pu (pu_pickt rfl rfl) rfl ?_
        refine R_pu (pu_move rfl) rfl ?_
        have o11 : Gt w2 := (o4.on k2 (Ne.symm ne_b1_0_0))
        refine R_glo rfl rfl (lo_call (by kernel_rfl) rfl (sure02 _ o11)) rfl ?_
        rintro _ w4 ⟨rfl, k4⟩
        have kk4 := kk2.then_ k4
        refine R_pu (pu_pickt rfl rfl) rfl ?_
        refine R_pu (pu_assign rfl) rfl ?_
        refine R_nil ?_
        refine X_then hK10 ?_
        refine C_ret ?_
        refine X_then_ret ?_
        exact X_ret1 (.inl rfl) rfl rfl ⟨rfl, kk4⟩
      · refine C_skip ?_
        refine X_then hK6 ?_
        refine C_seq (fun K12 hK12 => ?_)
        refine C_region ?_
        refine R_pu (pu_assign rfl) rfl ?_
        refine R_nil ?_
        refine X_then hK12 ?_
        refine C_seq (fun K13 hK13 => ?_)
        refine C_region ?_
        refine R_pu (pu_assign rfl) rfl ?_
        refine R_nil ?_
        refine X_then hK13 ?_
        refine C_seq (fun K14 hK14 => ?_)
        refine C_seq (fun K15 hK15 => ?_)
        refine C_region ?_
        refine R_pu (pu_assign rfl) rfl ?_
        refine R_nil ?_
        refine X_then hK15 ?_
        refine C_block ?_
        have o16 : Gt w2 := (o4.on k2 (Ne.symm ne_b1_0_0))
        have ob17 := Ob.nil w2 w2.heap.size
        have z18 := Nat.le_refl w2.heap.size
        have lm19 := Q2.top
        refine C_loop (fun m_ l_ wr => ∃ i : Nat, ∃ An : Option Addr, ∃ cn : Nat, (m_ = m.length - i) ∧ (l_ = [(0, .slice A (l.length) (c)), (1, .slice A2 (m.length) (c2)), (2, .int .u8 ((x : Nat) : Int)), (6, .bool false), (7, .pointer (some ⟨b1_0, 0, none⟩)), (8, .slice A_wl ((wtL m x).length) (c_wl)), (10, .slice An ((evL l m i).length) (cn)), (11, .int .u8 0), (12, .int .i64 ((i : Nat) : Int))]) ∧ (i ≤ m.length) ∧ (Kp No w wr) ∧ (Ob wr w1.heap.size (.slice A_wl ((wtL m x).length) (c_wl)) (wtL m x) ∧ w1.heap.size ≤ (wr).heap.size) ∧ (Ob wr w2.heap.size (.slice An (evL l m i).length cn) (evL l m i) ∧ w2.heap.size ≤ (wr).heap.size) ∧ (Gt wr) ∧ (Tb wr b1_0)) (m.length - 0) [(0, .slice A (l.length) (c)), (1, .slice A2 (m.length) (c2)), (2, .int .u8 ((x : Nat) : Int)), (6, .bool false), (7, .pointer (some ⟨b1_0, 0, none⟩)), (8, .slice A_wl ((wtL m x).length) (c_wl)), (10, .slice none ((evL l m 0).length) (0)), (11, .int .u8 0), (12, .int .i64 0)] (Sub.cons rfl (Sub.cons rfl (Sub.cons rfl (Sub.cons rfl (Sub.cons rfl (Sub.cons rfl (Sub.cons rfl (Sub.cons rfl (Sub.cons rfl (Sub.nil _)))))))))) ⟨0, none, 0, rfl, rfl, by omega, kk2, ⟨Q2, z5⟩, ⟨by exact ob17, z18⟩, o16, T2⟩ ?_
        rintro _ _ w5 ⟨i, An, cn, rfl, rfl, hi, kk5, wl_5, n_5, G_5, T_b1_0_5⟩
        refine C_seq (fun K20 hK20 => ?_)
        refine C_seq (fun K21 hK21 => ?_)
        refine C_region ?_
        refine R_pu (pu_move rfl) rfl ?_
        refine R_pu (pu_move rfl) rfl ?_
        refine R_pu (pu_len Tryd.underlying41 rfl) rfl ?_
        refine R_pu (pu_lss (p := i < m.length) rfl rfl (by omega)) rfl ?_
        refine R_nil ?_
        refine X_then hK21 ?_
        refine C_dec rfl (fun h51 => ?_) (fun h51 => ?_)
        · refine C_skip ?_
          refine X_then hK20 ?_
          refine C_seq (fun K22 hK22 => ?_)
          refine C_block ?_
          refine C_region ?_
          refine R_pu (pu_move rfl) rfl ?_
          refine R_pu (pu_move rfl) rfl ?_
          refine R_pu (pu_move rfl) rfl ?_
          refine R_pu (pu_move rfl) rfl ?_
          refine R_pu (pu_move rfl) rfl ?_
          refine R_pu (pu_indexAddrB (m := i) (HB2.keptNo kk5) Tryd.underlying41 (by kernel_rfl) rfl rfl rfl rfl (by omega)) rfl ?_
          obtain ⟨n, e_n⟩ : ∃ q_, (m)[i]? = some q_ := ⟨_, List.getElem?_eq_getElem (by omega)⟩
          have b_n : n < 256 := ((HB2.keptNo kk5)).lt e_n
          refine R_pu (pu_loadB (HB2.keptNo kk5) (by kernel_rfl) rfl e_n) rfl ?_
          refine R_lo (lo_call (by kernel_rfl) rfl (poly_eval b1_0 A l c n b_n _ (HB.keptNo kk5) hc (by first | omega | (simp; done)) (HB.aw (Nat.le_trans kk0.size le1)) T_b1_0_5)) rfl ?_
          rintro _ w6 ⟨rfl, T6, k6⟩
          have kk6 := kk5.trans k6 (fun i hi => .inr (hi ▸ (Nat.le_trans kk0.size le1)))
          have o23 : Gt w6 := (G_5.on k6 (Ne.symm ne_b1_0_0))
          have ob24 := (wl_5.1.on k6 (by have := T1.lt; omega))
          have ob25 := (n_5.1.on k6 (by have := T2.lt; omega))
          refine R_lo (lo_buildSlice (L := u8s ([hE l n])) Tryd.underlying41 rfl (by kernel_rfl)) rfl ?_
          rintro _ w7 ⟨p10_8, rfl, N7⟩
          have k7 := N7.kp
          have kk7 := kk6.then_ k7
          have ne_p10_8_0 : p10_8 ≠ 0 := Nat.ne_of_gt (Nat.lt_of_lt_of_le o23.lt N7.le)
          have ne_p10_8_b1_0 : p10_8 ≠ b1_0 := Nat.ne_of_gt (Nat.lt_of_lt_of_le T6.lt N7.le)
          have f_p10_8_7 : Bk w7 p10_8 (u8s ([hE l n])) 5 := N7.bk
          have ob26 := (ob25.keptNo k7)
          refine R_lo (lo_app (X := evL l m i) (Y := [hE l n]) ob26 ob26.le.1 rfl rfl (show By 1 [hE l n] from ⟨rfl, fun n hn => by rw [List.mem_singleton.1 hn]; exact (hE_lt ((HB.keptNo kk5)).byte _)⟩).1 (Bs.ofBk f_p10_8_7 (show By 1 [hE l n] from ⟨rfl, fun n hn => by rw [List.mem_singleton.1 hn]; exact (hE_lt ((HB.keptNo kk5)).byte _)⟩)) (by rw [evL_length]; simp; omega) (Nat.le_trans (Nat.le_trans n_5.2 k6.size) k7.size)) rfl ?_
          rintro _ w8 ⟨A_8, c_8, rfl, p8⟩
          have k8 := p8.kp
          have kk8 := kk7.trans k8 (fun i hi => .inr (Nat.le_trans (kk2).size hi))
          refine R_pu (pu_assign rfl) rfl ?_
          refine R_nil ?_
          refine X_in_normal ?_
          refine X_then hK22 ?_
          refine C_region ?_
          refine R_pu (pu_move rfl) rfl ?_
          refine R_pu (pu_add (z := ((i + 1 : Nat) : Int)) rfl rfl (by rw [IntKind.wrap_i64]; omega)) rfl ?_
          refine R_pu (pu_assign rfl) rfl ?_
          refine R_nil ?_
          have ob27 := (Ob.past (ob24.keptNo k7) lm19 k8)
          have o28 : Gt w8 := ((o23.no k7).kept k8 (by have := o16.lt; omega))
          have o29 : Tb w8 b1_0 := ((T6.no k7).kept k8 (by have := T2.lt; omega))
          refine X_round (m.length - (i + 1)) [(0, .slice A (l.length) (c)), (1, .slice A2 (m.length) (c2)), (2, .int .u8 ((x : Nat) : Int)), (6, .bool false), (7, .pointer (some ⟨b1_0, 0, none⟩)), (8, .slice A_wl ((wtL m x).length) (c_wl)), (10, .slice A_8 ((evL l m (i + 1)).length) (c_8)), (11, .int .u8 0), (12, .int .i64 (((i + 1) : Nat) : Int))] (by omega) (Sub.cons rfl (Sub.cons rfl (Sub.cons rfl (Sub.cons rfl (Sub.cons rfl (Sub.cons rfl (Sub.consE rfl (by rw [evL_snoc e_n]) (Sub.cons rfl (Sub.cons rfl (Sub.nil _)))))))))) ⟨i + 1, A_8, c_8, rfl, rfl, by omega, kk8, ⟨ob27, (Nat.le_trans (Nat.le_trans (Nat.le_trans wl_5.2 k6.size) k7.size) k8.size)⟩, ⟨by rw [← evL_snoc e_n]; exact p8.ob, (Nat.le_trans (Nat.le_trans (Nat.le_trans n_5.2 k6.size) k7.size) k8.size)⟩, o28, o29⟩
        · refine C_exit ?_
          refine X_then_exit (X_then_exit (X_in_eq ?_))
          refine X_then hK14 ?_
          refine C_seq (fun K30 hK30 => ?_)
          refine C_seq (fun K31 hK31 => ?_)
          refine C_region ?_
          refine R_pu (pu_assign rfl) rfl ?_
          refine R_nil ?_
          refine X_then hK31 ?_
          refine C_block ?_
          have hn : i = m.length := by omega
          refine C_loop (fun m_ l_ wr => ∃ k : Nat, (m_ = m.length - k) ∧ (l_ = [(0, .slice A (l.length) (c)), (1, .slice A2 (m.length) (c2)), (2, .int .u8 ((x : Nat) : Int)), (6, .bool false), (7, .pointer (some ⟨b1_0, 0, none⟩)), (8, .slice A_wl ((wtL m x).length) (c_wl)), (10, .slice An ((evL l m i).length) (cn)), (11, .int .u8 ((swN m x k : Nat) : Int)), (13, .int .i64 ((k : Nat) : Int))]) ∧ (k ≤ m.length) ∧ (Kp No w wr) ∧ (Ob wr w1.heap.size (.slice A_wl ((wtL m x).length) (c_wl)) (wtL m x) ∧ w1.heap.size ≤ (wr).heap.size) ∧ (Ob wr w2.heap.size (.slice An ((evL l m i).length) (cn)) (evL l m i) ∧ w2.heap.size ≤ (wr).heap.size) ∧ (Gt wr) ∧ (Tb wr b1_0)) (m.length - 0) [(0, .slice A (l.length) (c)), (1, .slice A2 (m.length) (c2)), (2, .int .u8 ((x : Nat) : Int)), (6, .bool false), (7, .pointer (some ⟨b1_0, 0, none⟩)), (8, .slice A_wl ((wtL m x).length) (c_wl)), (10, .slice An ((evL l m i).length) (cn)), (11, .int .u8 ((swN m x 0 : Nat) : Int)), (13, .int .i64 0)] (Sub.cons rfl (Sub.cons rfl (Sub.cons rfl (Sub.cons rfl (Sub.cons rfl (Sub.cons rfl (Sub.cons rfl (Sub.cons rfl (Sub.cons rfl (Sub.nil _)))))))))) ⟨0, rfl, rfl, by omega, kk5, ⟨wl_5.1, wl_5.2⟩, ⟨n_5.1, n_5.2⟩, G_5, T_b1_0_5⟩ ?_
          rintro _ _ w9 ⟨k, rfl, rfl, hk, kk9, wl_9, n_9, G_9, T_b1_0_9⟩
          refine C_seq (fun K32 hK32 => ?_)
          refine C_seq (fun K33 hK33 => ?_)
          refine C_region ?_
          refine R_pu (pu_move rfl) rfl ?_
          refine R_pu (pu_move rfl) rfl ?_
          refine R_pu (pu_len Tryd.underlying41 rfl) rfl ?_
          refine R_pu (pu_lss (p := k < ((wtL m x).length)) rfl rfl (by omega)) rfl ?_
          refine R_nil ?_
          refine X_then hK33 ?_
          refine C_dec rfl (fun h67 => ?_) (fun h67 => ?_)
          · refine C_skip ?_
            refine X_then hK32 ?_
            refine C_seq (fun K34 hK34 => ?_)
            refine C_block ?_
            refine C_region ?_
            refine R_pu (pu_move rfl) rfl ?_
            refine R_pu (pu_move rfl) rfl ?_
            refine R_pu (pu_move rfl) rfl ?_
            refine R_pu (pu_indexAddrB (m := k) wl_9.1.bs Tryd.underlying41 (by kernel_rfl) rfl rfl rfl rfl (by have hL := wtL_length m x; omega)) rfl ?_
            refine R_pu (pu_loadB wl_9.1.bs (by kernel_rfl) rfl (wtL_get (by have hL := wtL_length m x; omega))) rfl ?_
            refine R_lo (lo_call (by kernel_rfl) rfl (gf_add (swN m x k) (wt m x k) (swN_lt _ _ _) (wt_lt _ _ _) _)) rfl ?_
            rintro _ w10 ⟨rfl, k10⟩
            have kk10 := kk9.then_ k10
            refine R_pu (pu_assign rfl) rfl ?_
            refine R_nil ?_
            refine X_in_normal ?_
            refine X_then hK34 ?_
            refine C_region ?_
            refine R_pu (pu_move rfl) rfl ?_
            refine R_pu (pu_add (z := ((k + 1 : Nat) : Int)) rfl rfl (by rw [IntKind.wrap_i64]; omega)) rfl ?_
            refine R_pu (pu_assign rfl) rfl ?_
            refine R_nil ?_
            have ob35 := (wl_9.1.keptNo k10)
            have ob36 := (n_9.1.keptNo k10)
            have o37 : Gt w10 := (G_9.no k10)
            have o38 : Tb w10 b1_0 := (T_b1_0_9.no k10)
            refine X_round (m.length - (k + 1)) [(0, .slice A (l.length) (c)), (1, .slice A2 (m.length) (c2)), (2, .int .u8 ((x : Nat) : Int)), (6, .bool false), (7, .pointer (some ⟨b1_0, 0, none⟩)), (8, .slice A_wl ((wtL m x).length) (c_wl)), (10, .slice An ((evL l m i).length) (cn)), (11, .int .u8 ((swN m x (k + 1) : Nat) : Int)), (13, .int .i64 (((k + 1) : Nat) : Int))] (by have hL := wtL_length m x; omega) (Sub.cons rfl (Sub.cons rfl (Sub.cons rfl (Sub.cons rfl (Sub.cons rfl (Sub.cons rfl (Sub.cons rfl (Sub.cons rfl (Sub.cons rfl (Sub.nil _)))))))))) ⟨k + 1, rfl, rfl, (by have hL := wtL_length m x; omega), kk10, ⟨ob35, (Nat.le_trans wl_9.2 k10.size)⟩, ⟨ob36, (Nat.le_trans n_9.2 k10.size)⟩, o37, o38⟩
          · refine C_exit ?_
            refine X_then_exit (X_then_exit (X_in_eq ?_))
            refine X_then hK30 ?_
            refine C_seq (fun K39 hK39 => ?_)
            refine C_region ?_
            refine R_pu (pu_move rfl) rfl ?_
            refine R_pu (pu_move rfl) rfl ?_
            refine R_pu (pu_move rfl) rfl ?_
            refine R_pu (pu_move rfl) rfl ?_
            refine R_lo (lo_call (by kernel_rfl) rfl (poly_interp b1_0 A2 m c2 An (evL l m i) cn x hx _ (HB2.keptNo kk9) hc2 n_9.1.bs n_9.1.le.2 (by have hm_ := (hM).2; omega) (by rw [evL_length]; omega) hM (by rw [evL_length]; exact hn) (HB2.aw (Nat.le_trans kk0.size le1)) (Aw.ofOb n_9.1 (by have := T2.lt; omega)) T_b1_0_9)) rfl ?_
            rintro _ w11 ⟨rfl, T11, k11⟩
            have kk11 := kk9.trans k11 (fun i hi => .inr (hi ▸ (Nat.le_trans kk0.size le1)))
            refine R_pu (pu_move rfl) rfl ?_
            refine R_pu (pu_extract rfl rfl) rfl ?_
            refine R_pu (pu_extract rfl rfl) rfl ?_
            refine R_pu (pu_assign rfl) rfl ?_
            refine R_pu (pu_assign rfl) rfl ?_
            refine R_nil ?_
            refine X_then hK39 ?_
            refine C_seq (fun K40 hK40 => ?_)
            refine C_region ?_
            refine R_pu (pu_move rfl) rfl ?_
            refine R_pu (pu_eqlnn (by kernel_rfl) rfl) rfl ?_
            refine R_pu (pu_move rfl) rfl ?_
            refine R_gpu rfl rfl (pu_move rfl) rfl ?_
            refine R_gpu rfl rfl (pu_len Tryd.underlying41 rfl) rfl ?_
            refine R_gpu rfl rfl (pu_move rfl) rfl ?_
            refine R_gpu rfl rfl (pu_len Tryd.underlying41 rfl) rfl ?_
            refine R_gpu rfl rfl (pu_true (pu_eql (p := ((wtL m x).length) = m.length) rfl rfl (by omega)) (wtL_length _ _)) rfl ?_
            refine R_pu (pu_pickt rfl rfl) rfl ?_
            refine R_pu (pu_move rfl) rfl ?_
            refine R_gpu rfl rfl (pu_move rfl) rfl ?_
            refine R_gpu rfl rfl (pu_true (pu_eql (p := (swN m x k) = 1) rfl rfl (by omega)) (by rw [show k = m.length by have hL := wtL_length m x; omega]; exact sum_one HB2.byte hM.1 hM.2.1 hx)) rfl ?_
            refine R_pu (pu_pickt rfl rfl) rfl ?_
            refine R_pu (pu_move rfl) rfl ?_
            refine R_gpu rfl rfl (pu_move rfl) rfl ?_
            refine R_gpu rfl rfl (pu_move rfl) rfl ?_
            refine R_gpu rfl rfl (pu_move rfl) rfl ?_
            refine R_gpu rfl rfl (pu_move rfl) rfl ?_
            refine R_glo rfl rfl (lo_call (by kernel_rfl) rfl (poly_eval b1_0 A l c x hx _ (HB.keptNo kk11) hc (by first | omega | (simp; done)) (HB.aw (Nat.le_trans kk0.size le1)) T11)) rfl ?_
            rintro _ w12 ⟨rfl, T12, k12⟩
            have kk12 := kk11.trans k12 (fun i hi => .inr (hi ▸ (Nat.le_trans kk0.size le1)))
            refine R_gpu rfl rfl (pu_true (pu_eql (p := (ipN m (evL l m i) x m.length) = (hE l x)) rfl rfl (by omega)) (alone HB.byte HB2.byte hM.1 (by omega) (fun j hj => evL_getD (by omega)) (evL_bl HB.byte _ _) hx)) rfl ?_
            refine R_pu (pu_pickt rfl rfl) rfl ?_
            refine R_pu (pu_move rfl) rfl ?_
            have o41 : Gt w12 := ((G_9.on k11 (Ne.symm ne_b1_0_0)).on k12 (Ne.symm ne_b1_0_0))
            refine R_glo rfl rfl (lo_call (by kernel_rfl) rfl (sure02 _ o41)) rfl ?_
            rintro _ w13 ⟨rfl, k13⟩
            have kk13 := kk12.then_ k13
            refine R_pu (pu_pickt rfl rfl) rfl ?_
            refine R_pu (pu_assign rfl) rfl ?_
            refine R_nil ?_
            refine X_then hK40 ?_
            refine C_ret ?_
            exact X_ret1 (.inl rfl) rfl rfl ⟨rfl, kk13⟩
  · refine R_pu (pu_move rfl) rfl ?_
    refine R_pu (pu_move rfl) rfl ?_
    refine R_pu (pu_move rfl) rfl ?_
    refine R_lo (lo_call (by kernel_rfl) rfl (poly_weights_no b1_0 A2 m c2 x hx _ (HB2.keptNo kk1) hc2 (by first | omega | (simp; done)) hM)) rfl ?_
    rintro _ w14 ⟨rfl, k14⟩
    have kk14 := kk1.then_ k14
    refine R_pu (pu_move rfl) rfl ?_
    refine R_pu (pu_extract rfl rfl) rfl ?_
    refine R_pu (pu_extract rfl rfl) rfl ?_
    refine R_pu (pu_assign rfl) rfl ?_
    refine R_pu (pu_assign rfl) rfl ?_
    refine R_nil ?_
    refine X_then hK3 ?_
    refine C_seq (fun K42 hK42 => ?_)
    refine C_seq (fun K43 hK43 => ?_)
    refine C_region ?_
    refine R_pu (pu_move rfl) rfl ?_
    refine R_pu (pu_neqin (by kernel_rfl) rfl rfl) rfl ?_
    refine R_pu (pu_move rfl) rfl ?_
    refine R_gno rfl rfl rfl rfl ?_
    refine R_gno rfl rfl rfl rfl ?_
    refine R_gno rfl rfl rfl rfl ?_
    refine R_gno rfl rfl rfl rfl ?_
    refine R_gno rfl rfl rfl rfl ?_
    refine R_pu (pu_pickt rfl rfl) rfl ?_
    refine R_pu (pu_move rfl) rfl ?_
    refine R_gno rfl rfl rfl rfl ?_
    refine R_gno rfl rfl rfl rfl ?_
    refine R_gno rfl rfl rfl rfl ?_
    refine R_pu (pu_pickt rfl rfl) rfl ?_
    refine R_nil ?_
    refine X_then hK43 ?_
    refine C_true rfl ?_
    refine C_seq (fun K44 hK44 => ?_)
    refine C_region ?_
    refine R_pu (pu_move rfl) rfl ?_
    refine R_pu (pu_eqlin (by kernel_rfl) rfl rfl) rfl ?_
    refine R_pu (pu_move rfl) rfl ?_
    refine R_gpu rfl rfl (pu_move rfl) rfl ?_
    have o45 : Gt w14 := ((hG.no k1).no k14)
    refine R_glo rfl rfl (lo_call (by kernel_rfl) rfl (num02_err 1 _ o45)) rfl ?_
    rintro _ w15 ⟨rfl, k15⟩
    have kk15 := kk14.then_ k15
    refine R_gpu rfl rfl (pu_true (pu_eql (p := (1 : Nat) = 1) rfl rfl (by omega)) (by decide)) rfl ?_
    refine R_pu (pu_pickf rfl rfl) rfl ?_
    refine R_pu (pu_move rfl) rfl ?_
    have o46 : Gt w15 := (o45.no k15)
    refine R_glo rfl rfl (lo_call (by kernel_rfl) rfl (sure02 _ o46)) rfl ?_
    rintro _ w16 ⟨rfl, k16⟩
    have kk16 := kk15.then_ k16
    refine R_pu (pu_pickt rfl rfl) rfl ?_
    refine R_pu (pu_assign rfl) rfl ?_
    refine R_nil ?_
    refine X_then hK44 ?_
    refine C_ret ?_
    refine X_then_ret ?_
    exact X_ret1 (.inl rfl) rfl rfl ⟨rfl, kk16⟩
set_option maxRecDepth 100000 in
set_option maxHeartbeats 2000000 in
theorem polyProducts_ (A : Option Addr) (l : List Nat) (c : Nat) (A2 : Option Addr) (m : List Nat) (c2 : Nat) (x : Nat) (hx : x < 256) (w : World) (HB : Bs w A l) (hc : l.length ≤ c) (HB2 : Bs w A2 m) (hc2 : m.length ≤ c2) (hG : Gt w) : Ret Tryd.prog 8 #[.slice A (l.length) (c), .slice A2 (m.length) (c2), .int .u8 ((x : Nat) : Int)] w (fun v w' => v = .bool true ∧ Kp No w w') := by
  have kk0 := Kp.refl No w
  refine enter (n := 51) [.slice A (l.length) (c), .slice A2 (m.length) (c2), .int .u8 ((x : Nat) : Int)] Tryd.func8 rfl rfl rfl ?_
  show Cw _ _ _ _ [(0, .slice A (l.length) (c)), (1, .slice A2 (m.length) (c2)), (2, .int .u8 ((x : Nat) : Int))] _
  refine C_seq (fun K1 hK1 => ?_)
  refine C_region ?_
  refine R_pu (pu_assign rfl) rfl ?_
  refine R_nil ?_
  refine X_then hK1 ?_
  refine C_seq (fun K2 hK2 => ?_)
  refine C_seq (fun K3 hK3 => ?_)
  refine C_region ?_
  refine R_pu (pu_move rfl) rfl ?_
  refine R_pu (pu_len Tryd.underlying41 rfl) rfl ?_
  refine R_pu (pu_gtr (p := l.length > 100) rfl rfl (by omega)) rfl ?_
  by_cases g1_3 : l.length > 100
  · refine R_pu (pu_true (pu_move rfl) g1_3) rfl ?_
    refine R_gno rfl rfl rfl rfl ?_
    refine R_gno rfl rfl rfl rfl ?_
    refine R_gno rfl rfl rfl rfl ?_
    refine R_pu (pu_pickt rfl rfl) rfl ?_
    refine R_nil ?_
    refine X_then hK3 ?_
    refine C_true rfl ?_
    refine C_seq (fun K4 hK4 => ?_)
    refine C_region ?_
    refine R_lo (lo_call (by kernel_rfl) rfl (sure02 _ hG)) rfl ?_
    rintro _ w1 ⟨rfl, k1⟩
    have kk1 := kk0.then_ k1
    refine R_pu (pu_assign rfl) rfl ?_
    refine R_nil ?_
    refine X_then hK4 ?_
    refine C_ret ?_
    refine X_then_ret ?_
    exact X_ret1 (.inl rfl) rfl rfl ⟨rfl, kk1⟩
  · refine R_pu (pu_false (pu_move rfl) g1_3) rfl ?_
    refine R_gpu rfl rfl (pu_move rfl) rfl ?_
    refine R_gpu rfl rfl (pu_len Tryd.underlying41 rfl) rfl ?_
    refine R_gpu rfl rfl (pu_gtr (p := m.length > 100) rfl rfl (by omega)) rfl ?_
    refine R_pu (pu_pickf rfl rfl) rfl ?_
    refine R_nil ?_
    refine X_then hK3 ?_
    refine C_dec rfl (fun h16 => ?_) (fun h16 => ?_)
    · refine C_seq (fun K5 hK5 => ?_)
      refine C_region ?_
      refine R_lo (lo_call (by kernel_rfl) rfl (sure02 _ hG)) rfl ?_
      rintro _ w2 ⟨rfl, k2⟩
      have kk2 := kk0.then_ k2
      refine R_pu (pu_assign rfl) rfl ?_
      refine R_nil ?_
      refine X_then hK5 ?_
      refine C_ret ?_
      refine X_then_ret ?_
      exact X_ret1 (.inl rfl) rfl rfl ⟨rfl, kk2⟩
    · refine C_skip ?_
      refine X_then hK2 ?_
      refine C_seq (fun K6 hK6 => ?_)
      refine C_region ?_
      refine R_lo (lo_call (by kernel_rfl) rfl (gf_new _)) rfl ?_
      rintro _ w3 ⟨b3_0, rfl, le3, T3, k3⟩
      have kk3 := kk0.then_ k3
      have ne_b3_0_0 : b3_0 ≠ 0 := Nat.ne_of_gt (Nat.lt_of_lt_of_le hG.lt le3)
      refine R_pu (pu_assign rfl) rfl ?_
      refine R_nil ?_
      refine X_then hK6 ?_
      refine C_seq (fun K7 hK7 => ?_)
      refine C_region ?_
      refine R_pu (pu_move rfl) rfl ?_
      refine R_pu (pu_move rfl) rfl ?_
      refine R_pu (pu_move rfl) rfl ?_
      have o8 : Gt w3 := (hG.no k3)
      refine R_lo (lo_call (by kernel_rfl) rfl (poly_mul b3_0 A l c A2 m c2 _ (HB.keptNo kk3) hc (HB2.keptNo kk3) hc2 (by first | omega | (simp; done) | (simp; omega)) (by first | omega | (simp; done) | (simp; omega)) (HB.aw (Nat.le_trans kk0.size le3)) (HB2.aw (Nat.le_trans kk0.size le3)) T3)) rfl ?_
      rintro _ w4 ⟨A_ml4_3, c_ml4_3, rfl, Q4, T4, k4⟩
      have kk4 := kk3.trans k4 (fun i hi => .inr (hi ▸ (Nat.le_trans kk0.size le3)))
      have z9 : w3.heap.size ≤ w4.heap.size := k4.size
      refine R_pu (pu_assign rfl) rfl ?_
      refine R_nil ?_
      refine X_then hK7 ?_
      refine C_seq (fun K10 hK10 => ?_)
      have o11 : Gt w4 := (o8.on k4 (Ne.symm ne_b3_0_0))
      refine D_begin (fun W => Kp No w W ∧ Gt W ∧ Tb W b3_0) 29 rfl (by kernel_rfl) ⟨kk4.drew, o11.draw, T4.draw⟩ ?_
      intro w5 k5 _
      have kk5 := kk4.then_ k5
      refine D_take 0 rfl (by kernel_rfl) (by kernel_rfl) (by kernel_rfl) (fun _ _ _ h => h) rfl (fun W hS => pu_move rfl) ?_
      refine D_take 1 rfl (by kernel_rfl) (by kernel_rfl) (by kernel_rfl) (fun _ _ _ h => h) rfl (fun W hS => pu_move rfl) ?_
      refine D_take 2 rfl (by kernel_rfl) (by kernel_rfl) (by kernel_rfl) (fun _ _ _ h => h) rfl (fun W hS => pu_move rfl) ?_
      refine D_take 4 rfl (by kernel_rfl) (by kernel_rfl) (by kernel_rfl) (fun _ _ _ h => h) rfl (fun W hS => pu_move rfl) ?_
      refine D_take 5 rfl (by kernel_rfl) (by kernel_rfl) (by kernel_rfl) (fun _ _ _ h => h) rfl (fun W hS => pu_move rfl) ?_
      refine D_take 6 rfl (by kernel_rfl) (by kernel_rfl) (by kernel_rfl) (fun _ _ _ h => h) rfl (fun W hS => pu_move rfl) ?_
      refine D_take 7 rfl (by kernel_rfl) (by kernel_rfl) (by kernel_rfl) (fun _ _ _ h => h) rfl (fun W hS => pu_move rfl) ?_
      refine D_take 9 rfl (by kernel_rfl) (by kernel_rfl) (by kernel_rfl) (fun _ _ _ h => h) rfl (fun W hS => pu_move rfl) ?_
      refine D_take 10 rfl (by kernel_rfl) (by kernel_rfl) (by kernel_rfl) (fun _ _ _ h => h) rfl (fun W hS => pu_move rfl) ?_
      refine D_take 11 rfl (by kernel_rfl) (by kernel_rfl) (by kernel_rfl) (fun _ _ _ h => h) rfl (fun W hS => pu_move rfl) ?_
      have ob12 := (Q4.keptNo k5)
      have o13 : Tb w5 b3_0 := (T4.no k5)
      refine D_one 3 (by kernel_rfl) (Nx_lo rfl (lo_call (by kernel_rfl) rfl (poly_eval b3_0 A_ml4_3 (mulc l m) c_ml4_3 x hx _ ob12.bs ob12.le.2 (by have := mulc_le l m; simp at *; omega) (Aw.ofOb ob12 (by have := T3.lt; omega)) o13)) rfl ?_)
      rintro _ w6 ⟨rfl, T6, k6⟩
      have kk6 := kk5.trans k6 (fun i hi => .inr (hi ▸ (Nat.le_trans kk0.size le3)))
      have o14 : Gt w6 := ((o11.no k5).on k6 (Ne.symm ne_b3_0_0))
      refine ⟨⟨kk6, o14, T6⟩, ?_⟩
      refine D_one 8 (by kernel_rfl) (Nx_lo rfl (lo_call (by kernel_rfl) rfl (poly_eval b3_0 A l c x hx _ (HB.keptNo kk6) hc (by first | omega | (simp; done)) (HB.aw (Nat.le_trans kk0.size le3)) T6)) rfl ?_)
      rintro _ w7 ⟨rfl, T7, k7⟩
      have kk7 := kk6.trans k7 (fun i hi => .inr (hi ▸ (Nat.le_trans kk0.size le3)))
      have o15 : Gt w7 := (o14.on k7 (Ne.symm ne_b3_0_0))
      refine ⟨⟨kk7, o15, T7⟩, ?_⟩
      refine D_one 12 (by kernel_rfl) (Nx_lo rfl (lo_call (by kernel_rfl) rfl (poly_eval b3_0 A2 m c2 x hx _ (HB2.keptNo kk7) hc2 (by first | omega | (simp; done)) (HB2.aw (Nat.le_trans kk0.size le3)) T7)) rfl ?_)
      rintro _ w8 ⟨rfl, T8, k8⟩
      have kk8 := kk7.trans k8 (fun i hi => .inr (hi ▸ (Nat.le_trans kk0.size le3)))
      have o16 : Gt w8 := (o15.on k8 (Ne.symm ne_b3_0_0))
      refine ⟨⟨kk8, o16, T8⟩, ?_⟩
      refine D_one 13 (by kernel_rfl) (Nx_lo rfl (lo_call (by kernel_rfl) rfl (gf_mul b3_0 (hE l x) (hE m x) (hE_lt ((HB.keptNo kk6)).byte _) (hE_lt ((HB2.keptNo kk7)).byte _) _ T8)) rfl ?_)
      rintro _ w9 ⟨rfl, T9, k9⟩
      have kk9 := kk8.trans k9 (fun i hi => .inr (hi ▸ (Nat.le_trans kk0.size le3)))
      have o17 : Gt w9 := (o16.on k9 (Ne.symm ne_b3_0_0))
      refine ⟨⟨kk9, o17, T9⟩, ?_⟩
      refine D_take 14 rfl (by kernel_rfl) (by kernel_rfl) (by kernel_rfl) (fun _ _ _ h => h) rfl (fun W hS => pu_true (pu_eql (p := (hE (mulc l m) x) = (gmul (hE l x) (hE m x))) rfl rfl (by omega)) (mulc_eq HB.byte HB2.byte hx)) ?_
      refine D_take 15 rfl (by kernel_rfl) (by kernel_rfl) (by kernel_rfl) (fun _ _ _ h => h) rfl (fun W hS => pu_move rfl) ?_
      refine D_gtake 16 rfl rfl rfl (by kernel_rfl) (by kernel_rfl) (by kernel_rfl) (fun _ _ _ h => h) rfl (fun W hS => pu_move rfl) ?_
      refine D_gtake 18 rfl rfl rfl (by kernel_rfl) (by kernel_rfl) (by kernel_rfl) (fun _ _ _ h => h) rfl (fun W hS => pu_move rfl) ?_
      refine D_gtake 19 rfl rfl rfl (by kernel_rfl) (by kernel_rfl) (by kernel_rfl) (fun _ _ _ h => h) rfl (fun W hS => pu_move rfl) ?_
      refine D_gtake 20 rfl rfl rfl (by kernel_rfl) (by kernel_rfl) (by kernel_rfl) (fun _ _ _ h => h) rfl (fun W hS => pu_move rfl) ?_
      refine D_two 17 21 (by kernel_rfl) ?_ ?_
      · have ob18 := ((((ob12.on k6 (by have := T3.lt; omega)).on k7 (by have := T3.lt; omega)).on k8 (by have := T3.lt; omega)).on k9 (by have := T3.lt; omega))
        refine Nx_gpu rfl rfl rfl (pu_bstr ob18.bs Tryd.underlying41 Tryd.underlying5 Tryd.underlying9 rfl rfl) rfl ⟨⟨kk9, o17, T9⟩, ?_⟩
        refine D_one 21 (by kernel_rfl) (Nx_glo rfl rfl rfl (lo_call (by kernel_rfl) rfl (poly_mul b3_0 A2 m c2 A l c _ (HB2.keptNo kk9) hc2 (HB.keptNo kk9) hc (by first | omega | (simp; done) | (simp; omega)) (by first | omega | (simp; done) | (simp; omega)) (HB2.aw (Nat.le_trans kk0.size le3)) (HB.aw (Nat.le_trans kk0.size le3)) T9)) rfl ?_)
        rintro _ w10 ⟨A_ml5_21, c_ml5_21, rfl, Q10, T10, k10⟩
        have kk10 := kk9.trans k10 (fun i hi => .inr (hi ▸ (Nat.le_trans kk0.size le3)))
        have z19 : w9.heap.size ≤ w10.heap.size := k10.size
        have o20 : Gt w10 := (o17.on k10 (Ne.symm ne_b3_0_0))
        refine ⟨⟨kk10, o20, T10⟩, ?_⟩
        refine D_one 22 (by kernel_rfl) (Nx_gpu rfl rfl rfl (pu_bstr Q10.bs Tryd.underlying41 Tryd.underlying5 Tryd.underlying9 rfl rfl) rfl ⟨⟨kk10, o20, T10⟩, ?_⟩)
        refine D_gtake 23 rfl rfl rfl (by kernel_rfl) (by kernel_rfl) (by kernel_rfl) (fun _ _ _ h => h) rfl (fun W hS => pu_true (pu_eqls (p := (mulc l m) = (mulc m l)) rfl rfl (bstr_inj (ob18.bs).byte (Q10.bs).byte)) (mulc_comm _ _)) ?_
        refine D_take 24 rfl (by kernel_rfl) (by kernel_rfl) (by kernel_rfl) (fun _ _ _ h => h) rfl (fun W hS => pu_pickt rfl rfl) ?_
        refine D_take 25 rfl (by kernel_rfl) (by kernel_rfl) (by kernel_rfl) (fun _ _ _ h => h) rfl (fun W hS => pu_move rfl) ?_
        refine D_one 26 (by kernel_rfl) (Nx_glo rfl rfl rfl (lo_call (by kernel_rfl) rfl (sure02 _ o20)) rfl ?_)
        rintro _ w11 ⟨rfl, k11⟩
        have kk11 := kk10.then_ k11
        have o21 : Gt w11 := (o20.no k11)
        have o22 : Tb w11 b3_0 := (T10.no k11)
        refine ⟨⟨kk11, o21, o22⟩, ?_⟩
        refine D_take 27 rfl (by kernel_rfl) (by kernel_rfl) (by kernel_rfl) (fun _ _ _ h => h) rfl (fun W hS => pu_pickt rfl rfl) ?_
        refine D_take 28 rfl (by kernel_rfl) (by kernel_rfl) (by kernel_rfl) (fun _ _ _ h => h) rfl (fun W hS => pu_assign rfl) ?_
        refine D_done (by kernel_rfl) ?_
        refine X_then hK10 ?_
        refine C_ret ?_
        exact X_ret1 (.inl rfl) rfl rfl ⟨rfl, kk11⟩
      · refine Nx_glo rfl rfl rfl (lo_call (by kernel_rfl) rfl (poly_mul b3_0 A2 m c2 A l c _ (HB2.keptNo kk9) hc2 (HB.keptNo kk9) hc (by first | omega | (simp; done) | (simp; omega)) (by first | omega | (simp; done) | (simp; omega)) (HB2.aw (Nat.le_trans kk0.size le3)) (HB.aw (Nat.le_trans kk0.size le3)) T9)) rfl ?_
        rintro _ w12 ⟨A_ml5_21, c_ml5_21, rfl, Q12, T12, k12⟩
        have kk12 := kk9.trans k12 (fun i hi => .inr (hi ▸ (Nat.le_trans kk0.size le3)))
        have z23 : w9.heap.size ≤ w12.heap.size := k12.size
        have o24 : Gt w12 := (o17.on k12 (Ne.symm ne_b3_0_0))
        refine ⟨⟨kk12, o24, T12⟩, ?_⟩
        refine D_two 17 22 (by kernel_rfl) ?_ ?_
        · have ob25 := (((((ob12.on k6 (by have := T3.lt; omega)).on k7 (by have := T3.lt; omega)).on k8 (by have := T3.lt; omega)).on k9 (by have := T3.lt; omega)).on k12 (by have := T3.lt; omega))
          refine Nx_gpu rfl rfl rfl (pu_bstr ob25.bs Tryd.underlying41 Tryd.underlying5 Tryd.underlying9 rfl rfl) rfl ⟨⟨kk12, o24, T12⟩, ?_⟩
          refine D_one 22 (by kernel_rfl) (Nx_gpu rfl rfl rfl (pu_bstr Q12.bs Tryd.underlying41 Tryd.underlying5 Tryd.underlying9 rfl rfl) rfl ⟨⟨kk12, o24, T12⟩, ?_⟩)
          refine D_gtake 23 rfl rfl rfl (by kernel_rfl) (by kernel_rfl) (by kernel_rfl) (fun _ _ _ h => h) rfl (fun W hS => pu_true (pu_eqls (p := (mulc l m) = (mulc m l)) rfl rfl (bstr_inj (ob25.bs).byte (Q12.bs).byte)) (mulc_comm _ _)) ?_
          refine D_take 24 rfl (by kernel_rfl) (by kernel_rfl) (by kernel_rfl) (fun _ _ _ h => h) rfl (fun W hS => pu_pickt rfl rfl) ?_
          refine D_take 25 rfl (by kernel_rfl) (by kernel_rfl) (by kernel_rfl) (fun _ _ _ h => h) rfl (fun W hS => pu_move rfl) ?_
          refine D_one 26 (by kernel_rfl) (Nx_glo rfl rfl rfl (lo_call (by kernel_rfl) rfl (sure02 _ o24)) rfl ?_)
          rintro _ w13 ⟨rfl, k13⟩
          have kk13 := kk12.then_ k13
          have o26 : Gt w13 := (o24.no k13)
          have o27 : Tb w13 b3_0 := (T12.no k13)
          refine ⟨⟨kk13, o26, o27⟩, ?_⟩
          refine D_take 27 rfl (by kernel_rfl) (by kernel_rfl) (by kernel_rfl) (fun _ _ _ h => h) rfl (fun W hS => pu_pickt rfl rfl) ?_
          refine D_take 28 rfl (by kernel_rfl) (by kernel_rfl) (by kernel_rfl) (fun _ _ _ h => h) rfl (fun W hS => pu_assign rfl) ?_
          refine D_done (by kernel_rfl) ?_
          refine X_then hK10 ?_
          refine C_ret ?_
          exact X_ret1 (.inl rfl) rfl rfl ⟨rfl, kk13⟩
        · refine Nx_gpu rfl rfl rfl (pu_bstr Q12.bs Tryd.underlying41 Tryd.underlying5 Tryd.underlying9 rfl rfl) rfl ⟨⟨kk12, o24, T12⟩, ?_⟩
          have ob28 := (((((ob12.on k6 (by have := T3.lt; omega)).on k7 (by have := T3.lt; omega)).on k8 (by have := T3.lt; omega)).on k9 (by have := T3.lt; omega)).on k12 (by have := T3.lt; omega))
          refine D_one 17 (by kernel_rfl) (Nx_gpu rfl rfl rfl (pu_bstr ob28.bs Tryd.underlying41 Tryd.underlying5 Tryd.underlying9 rfl rfl) rfl ⟨⟨kk12, o24, T12⟩, ?_⟩)
          refine D_gtake 23 rfl rfl rfl (by kernel_rfl) (by kernel_rfl) (by kernel_rfl) (fun _ _ _ h => h) rfl (fun W hS => pu_true (pu_eqls (p := (mulc l m) = (mulc m l)) rfl rfl (bstr_inj (ob28.bs).byte (Q12.bs).byte)) (mulc_comm _ _)) ?_
          refine D_take 24 rfl (by kernel_rfl) (by kernel_rfl) (by kernel_rfl) (fun _ _ _ h => h) rfl (fun W hS => pu_pickt rfl rfl) ?_
          refine D_take 25 rfl (by kernel_rfl) (by kernel_rfl) (by kernel_rfl) (fun _ _ _ h => h) rfl (fun W hS => pu_move rfl) ?_
          refine D_one 26 (by kernel_rfl) (Nx_glo rfl rfl rfl (lo_call (by kernel_rfl) rfl (sure02 _ o24)) rfl ?_)
          rintro _ w14 ⟨rfl, k14⟩
          have kk14 := kk12.then_ k14
          have o29 : Gt w14 := (o24.no k14)
          have o30 : Tb w14 b3_0 := (T12.no k14)
          refine ⟨⟨kk14, o29, o30⟩, ?_⟩
          refine D_take 27 rfl (by kernel_rfl) (by kernel_rfl) (by kernel_rfl) (fun _ _ _ h => h) rfl (fun W hS => pu_pickt rfl rfl) ?_
          refine D_take 28 rfl (by kernel_rfl) (by kernel_rfl) (by kernel_rfl) (fun _ _ _ h => h) rfl (fun W hS => pu_assign rfl) ?_
          refine D_done (by kernel_rfl) ?_
          refine X_then hK10 ?_
          refine C_ret ?_
          exact X_ret1 (.inl rfl) rfl rfl ⟨rfl, kk14⟩
end Go.Proofs.YtikipijafdcmfaaDoor
