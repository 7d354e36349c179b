/- The bodies of ShamirSplits. -/
import Derived.Test.YtjbdimfpjbmggaaDoorSn
import Derived.Test.YtjbdimfpjbmggaaDoorAs
set_option linter.unusedVariables false
set_option linter.unusedSimpArgs false
namespace Go.Proofs.YtjbdimfpjbmggaaDoor
open Go.RowKit Gm
set_option maxRecDepth 100000 in
set_option maxHeartbeats 2000000 in
theorem num03_nil  (w : World)  : Ret Tryd.prog 17 #[.nilIface] w (fun v w' => v = .int .i64 0 ∧ Kp No w w') := by
  have kk0 := Kp.refl No w
  refine enter (n := 10) [.nilIface] Tryd.func17 rfl rfl rfl ?_
  show Cw _ _ _ _ [(0, .nilIface)] _
  refine C_seq (fun K1 hK1 => ?_)
  refine C_region ?_
  refine R_pu (pu_assign rfl) rfl ?_
  refine R_nil ?_
  refine X_then hK1 ?_
  refine C_seq (fun K2 hK2 => ?_)
  refine C_region ?_
  refine R_lo (lo_alloc (L := [.int .i64 0]) (by kernel_rfl)) rfl ?_
  rintro _ w1 ⟨p1_0, rfl, N1⟩
  have k1 := N1.kp
  have kk1 := kk0.then_ k1
  have f_p1_0_1 : Bk w1 p1_0 ([.int .i64 0]) 91 := N1.bk
  refine R_nil ?_
  refine X_then hK2 ?_
  refine C_seq (fun K3 hK3 => ?_)
  refine C_seq (fun K4 hK4 => ?_)
  refine C_region ?_
  refine R_pu (pu_move rfl) rfl ?_
  refine R_pu (pu_eqlnn (by kernel_rfl) rfl) rfl ?_
  refine R_nil ?_
  refine X_then hK4 ?_
  refine C_true rfl ?_
  refine C_seq (fun K5 hK5 => ?_)
  refine C_region ?_
  refine R_pu (pu_assign rfl) rfl ?_
  refine R_nil ?_
  refine X_then hK5 ?_
  refine C_ret ?_
  refine X_then_ret ?_
  exact X_ret1 (.inl rfl) rfl rfl ⟨rfl, kk1⟩
set_option maxRecDepth 100000 in
set_option maxHeartbeats 2000000 in
theorem num03_err (e : Int) (w : World) (hG : Gt w) : Ret Tryd.prog 17 #[.iface 91 (.int .i64 (e))] w (fun v w' => v = .int .i64 e ∧ Kp No w w') := by
  have kk0 := Kp.refl No w
  refine enter (n := 10) [.iface 91 (.int .i64 (e))] Tryd.func17 rfl rfl rfl ?_
  show Cw _ _ _ _ [(0, .iface 91 (.int .i64 (e)))] _
  refine C_seq (fun K1 hK1 => ?_)
  refine C_region ?_
  refine R_pu (pu_assign rfl) rfl ?_
  refine R_nil ?_
  refine X_then hK1 ?_
  refine C_seq (fun K2 hK2 => ?_)
  refine C_region ?_
  refine R_lo (lo_alloc (L := [.int .i64 0]) (by kernel_rfl)) rfl ?_
  rintro _ w1 ⟨p1_0, rfl, N1⟩
  have k1 := N1.kp
  have kk1 := kk0.then_ k1
  have ne_p1_0_0 : p1_0 ≠ 0 := Nat.ne_of_gt (Nat.lt_of_lt_of_le hG.lt N1.le)
  have f_p1_0_1 : Bk w1 p1_0 ([.int .i64 0]) 91 := N1.bk
  refine R_nil ?_
  refine X_then hK2 ?_
  refine C_seq (fun K3 hK3 => ?_)
  refine C_seq (fun K4 hK4 => ?_)
  refine C_region ?_
  refine R_pu (pu_move rfl) rfl ?_
  refine R_pu (pu_eqlin (by kernel_rfl) rfl rfl) rfl ?_
  refine R_nil ?_
  refine X_then hK4 ?_
  refine C_false rfl ?_
  refine C_skip ?_
  refine X_then hK3 ?_
  refine C_seq (fun K5 hK5 => ?_)
  refine C_seq (fun K6 hK6 => ?_)
  refine C_region ?_
  refine R_pu (pu_move rfl) rfl ?_
  refine R_pu (pu_makeInterface Tryd.underlying109 rfl rfl) rfl ?_
  have o7 : Gt w1 := (hG.no k1)
  refine R_lo (lo_call (by kernel_rfl) rfl (as_ret e p1_0 _ _ o7 f_p1_0_1)) rfl ?_
  rintro _ w2 ⟨rfl, B2, k2⟩
  have kk2 := kk1.trans k2 (fun i hi => .inr (hi ▸ (Nat.le_trans kk0.size N1.le)))
  refine R_nil ?_
  refine X_then hK6 ?_
  refine C_true rfl ?_
  refine C_seq (fun K8 hK8 => ?_)
  refine C_region ?_
  refine R_pu (pu_loadK B2 (by kernel_rfl) rfl rfl) rfl ?_
  refine R_pu (pu_assign rfl) rfl ?_
  refine R_nil ?_
  refine X_then hK8 ?_
  refine C_ret ?_
  refine X_then_ret ?_
  exact X_ret1 (.inl rfl) rfl rfl ⟨rfl, kk2⟩
set_option maxRecDepth 100000 in
set_option maxHeartbeats 2000000 in
theorem num23_nil  (w : World)  : Ret Tryd.prog 38 #[.nilIface] w (fun v w' => v = .int .i64 0 ∧ Kp No w w') := by
  have kk0 := Kp.refl No w
  refine enter (n := 10) [.nilIface] Tryd.func38 rfl rfl rfl ?_
  show Cw _ _ _ _ [(0, .nilIface)] _
  refine C_seq (fun K1 hK1 => ?_)
  refine C_region ?_
  refine R_pu (pu_assign rfl) rfl ?_
  refine R_nil ?_
  refine X_then hK1 ?_
  refine C_seq (fun K2 hK2 => ?_)
  refine C_region ?_
  refine R_lo (lo_alloc (L := [.int .i64 0]) (by kernel_rfl)) rfl ?_
  rintro _ w1 ⟨p1_0, rfl, N1⟩
  have k1 := N1.kp
  have kk1 := kk0.then_ k1
  have f_p1_0_1 : Bk w1 p1_0 ([.int .i64 0]) 91 := N1.bk
  refine R_nil ?_
  refine X_then hK2 ?_
  refine C_seq (fun K3 hK3 => ?_)
  refine C_seq (fun K4 hK4 => ?_)
  refine C_region ?_
  refine R_pu (pu_move rfl) rfl ?_
  refine R_pu (pu_eqlnn (by kernel_rfl) rfl) rfl ?_
  refine R_nil ?_
  refine X_then hK4 ?_
  refine C_true rfl ?_
  refine C_seq (fun K5 hK5 => ?_)
  refine C_region ?_
  refine R_pu (pu_assign rfl) rfl ?_
  refine R_nil ?_
  refine X_then hK5 ?_
  refine C_ret ?_
  refine X_then_ret ?_
  exact X_ret1 (.inl rfl) rfl rfl ⟨rfl, kk1⟩
set_option maxRecDepth 100000 in
set_option maxHeartbeats 2000000 in
theorem num23_err (e : Int) (w : World) (hG : Gt w) : Ret Tryd.prog 38 #[.iface 91 (.int .i64 (e))] w (fun v w' => v = .int .i64 e ∧ Kp No w w') := by
  have kk0 := Kp.refl No w
  refine enter (n := 10) [.iface 91 (.int .i64 (e))] Tryd.func38 rfl rfl rfl ?_
  show Cw _ _ _ _ [(0, .iface 91 (.int .i64 (e)))] _
  refine C_seq (fun K1 hK1 => ?_)
  refine C_region ?_
  refine R_pu (pu_assign rfl) rfl ?_
  refine R_nil ?_
  refine X_then hK1 ?_
  refine C_seq (fun K2 hK2 => ?_)
  refine C_region ?_
  refine R_lo (lo_alloc (L := [.int .i64 0]) (by kernel_rfl)) rfl ?_
  rintro _ w1 ⟨p1_0, rfl, N1⟩
  have k1 := N1.kp
  have kk1 := kk0.then_ k1
  have ne_p1_0_0 : p1_0 ≠ 0 := Nat.ne_of_gt (Nat.lt_of_lt_of_le hG.lt N1.le)
  have f_p1_0_1 : Bk w1 p1_0 ([.int .i64 0]) 91 := N1.bk
  refine R_nil ?_
  refine X_then hK2 ?_
  refine C_seq (fun K3 hK3 => ?_)
  refine C_seq (fun K4 hK4 => ?_)
  refine C_region ?_
  refine R_pu (pu_move rfl) rfl ?_
  refine R_pu (pu_eqlin (by kernel_rfl) rfl rfl) rfl ?_
  refine R_nil ?_
  refine X_then hK4 ?_
  refine C_false rfl ?_
  refine C_skip ?_
  refine X_then hK3 ?_
  refine C_seq (fun K5 hK5 => ?_)
  refine C_seq (fun K6 hK6 => ?_)
  refine C_region ?_
  refine R_pu (pu_move rfl) rfl ?_
  refine R_pu (pu_makeInterface Tryd.underlying109 rfl rfl) rfl ?_
  have o7 : Gt w1 := (hG.no k1)
  refine R_lo (lo_call (by kernel_rfl) rfl (as_ret e p1_0 _ _ o7 f_p1_0_1)) rfl ?_
  rintro _ w2 ⟨rfl, B2, k2⟩
  have kk2 := kk1.trans k2 (fun i hi => .inr (hi ▸ (Nat.le_trans kk0.size N1.le)))
  refine R_nil ?_
  refine X_then hK6 ?_
  refine C_true rfl ?_
  refine C_seq (fun K8 hK8 => ?_)
  refine C_region ?_
  refine R_pu (pu_loadK B2 (by kernel_rfl) rfl rfl) rfl ?_
  refine R_pu (pu_assign rfl) rfl ?_
  refine R_nil ?_
  refine X_then hK8 ?_
  refine C_ret ?_
  refine X_then_ret ?_
  exact X_ret1 (.inl rfl) rfl rfl ⟨rfl, kk2⟩
set_option maxRecDepth 100000 in
set_option maxHeartbeats 2000000 in
theorem sure03  (w : World) (hG : Gt w) : Ret Tryd.prog 12 #[] w (fun v w' => v = .bool true ∧ Kp No w w') := by
  have kk0 := Kp.refl No w
  refine enter (n := 101) [] Tryd.func12 rfl rfl rfl ?_
  show Cw _ _ _ _ [] _
  refine C_seq (fun K1 hK1 => ?_)
  refine C_region ?_
  refine R_pu (pu_assign rfl) rfl ?_
  refine R_nil ?_
  refine X_then hK1 ?_
  refine C_seq (fun K2 hK2 => ?_)
  refine C_region ?_
  refine R_lo (lo_call (by kernel_rfl) rfl (gf_new _)) rfl ?_
  rintro _ w1 ⟨b1_0, rfl, le1, T1, k1⟩
  have kk1 := kk0.then_ k1
  have ne_b1_0_0 : b1_0 ≠ 0 := Nat.ne_of_gt (Nat.lt_of_lt_of_le hG.lt le1)
  refine R_pu (pu_assign rfl) rfl ?_
  refine R_nil ?_
  refine X_then hK2 ?_
  refine C_seq (fun K3 hK3 => ?_)
  refine C_region ?_
  refine R_pu (pu_build (L := [.int .i64 2, .int .i64 3, .int .u32 7]) rfl (by kernel_rfl)) rfl ?_
  have o4 : Gt w1 := (hG.no k1)
  refine R_lo (lo_alloc (L := [.int .i64 0, .int .i64 0, .int .u32 0]) (by kernel_rfl)) rfl ?_
  rintro _ w2 ⟨p2_1, rfl, N2⟩
  have k2 := N2.kp
  have kk2 := kk1.then_ k2
  have ne_p2_1_0 : p2_1 ≠ 0 := Nat.ne_of_gt (Nat.lt_of_lt_of_le o4.lt N2.le)
  have ne_p2_1_b1_0 : p2_1 ≠ b1_0 := Nat.ne_of_gt (Nat.lt_of_lt_of_le T1.lt N2.le)
  have f_p2_1_2 : Bk w2 p2_1 ([.int .i64 0, .int .i64 0, .int .u32 0]) 28 := N2.bk
  refine R_lo0 (lo_storeRow (C := [.int .i64 2, .int .i64 3, .int .u32 7]) f_p2_1_2 (by kernel_rfl) rfl rfl (by intro u hu; simp at hu; rcases hu with rfl | rfl | rfl <;> rfl) rfl) ?_
  rintro _ w3 kf3
  obtain ⟨k3, f_p2_1_3⟩ := kf3
  replace f_p2_1_3 : Bk w3 p2_1 ([.int .i64 2, .int .i64 3, .int .u32 7]) 28 := f_p2_1_3
  have kk3 := kk2.trans k3 (fun i hi => .inr (hi ▸ (Nat.le_trans kk1.size N2.le)))
  refine R_nil ?_
  refine X_then hK3 ?_
  refine C_seq (fun K5 hK5 => ?_)
  refine C_region ?_
  refine R_pu (pu_move rfl) rfl ?_
  have o6 : Gt w3 := ((o4.no k2).on k3 (Ne.symm ne_p2_1_0))
  have o7 : Tb w3 b1_0 := ((T1.no k2).on k3 (Ne.symm ne_p2_1_b1_0))
  refine R_lo (lo_buildSlice (L := u8s ([5])) Tryd.underlying22 rfl (by kernel_rfl)) rfl ?_
  rintro _ w4 ⟨p3_1, rfl, N4⟩
  have k4 := N4.kp
  have kk4 := kk3.then_ k4
  have ne_p3_1_p2_1 : p3_1 ≠ p2_1 := Nat.ne_of_gt (Nat.lt_of_lt_of_le f_p2_1_3.lt N4.le)
  have ne_p3_1_0 : p3_1 ≠ 0 := Nat.ne_of_gt (Nat.lt_of_lt_of_le o6.lt N4.le)
  have ne_p3_1_b1_0 : p3_1 ≠ b1_0 := Nat.ne_of_gt (Nat.lt_of_lt_of_le o7.lt N4.le)
  have f_p3_1_4 : Bk w4 p3_1 (u8s ([5])) 5 := N4.bk
  have f8 : Bk w4 p2_1 ([.int .i64 2, .int .i64 3, .int .u32 7]) 28 := (f_p2_1_3.no k4)
  refine R_pu (pu_loadRow (len := 3) f8 (by kernel_rfl) (by kernel_rfl) rfl rfl) rfl ?_
  have o9 : Gt w4 := (o6.no k4)
  have o10 : Tb w4 b1_0 := (o7.no k4)
  refine R_lo (lo_buildSlice (L := u8s ([3])) Tryd.underlying22 rfl (by kernel_rfl)) rfl ?_
  rintro _ w5 ⟨p3_3, rfl, N5⟩
  have k5 := N5.kp
  have kk5 := kk4.then_ k5
  have ne_p3_3_p2_1 : p3_3 ≠ p2_1 := Nat.ne_of_gt (Nat.lt_of_lt_of_le f8.lt N5.le)
  have ne_p3_3_p3_1 : p3_3 ≠ p3_1 := Nat.ne_of_gt (Nat.lt_of_lt_of_le f_p3_1_4.lt N5.le)
  have ne_p3_3_0 : p3_3 ≠ 0 := Nat.ne_of_gt (Nat.lt_of_lt_of_le o9.lt N5.le)
  have ne_p3_3_b1_0 : p3_3 ≠ b1_0 := Nat.ne_of_gt (Nat.lt_of_lt_of_le o10.lt N5.le)
  have f_p3_3_5 : Bk w5 p3_3 (u8s ([3])) 5 := N5.bk
  have f11 : Bk w5 p3_1 (u8s ([5])) 5 := (f_p3_1_4.no k5)
  have f12 : Bk w5 p2_1 ([.int .i64 2, .int .i64 3, .int .u32 7]) 28 := (f8.no k5)
  have o13 : Gt w5 := (o9.no k5)
  have o14 : Tb w5 b1_0 := (o10.no k5)
  refine R_lo (lo_callE (by kernel_rfl) rfl (by rw [(show By 1 [5] from by_lit _ (by decide)).1, (show By 1 [3] from by_lit _ (by decide)).1] <;> rfl) (shamir_split b1_0 (some ⟨p3_1, 0, none⟩) ([5]) 1 1 3 7 (some ⟨p3_3, 0, none⟩) ([3]) 1 _ (Bs.ofBk f11 (show By 1 [5] from by_lit _ (by decide))) (Nat.le_of_eq (show By 1 [5] from by_lit _ (by decide)).1) (Bs.ofBk f_p3_3_5 (show By 1 [3] from by_lit _ (by decide))) (Nat.le_of_eq (show By 1 [3] from by_lit _ (by decide)).1) (by decide) (show 2 ≤ 1 + 1 ∧ 1 + 1 ≤ 3 ∧ 3 ≤ 255 by decide) (by decide) (by decide) (Aw.ofBk ne_p3_1_b1_0) (Aw.ofBk ne_p3_3_b1_0) o14)) rfl ?_
  rintro _ w6 ⟨A_sp3, c_sp3, L_sp3, rfl, Q6, hK_sp3, T6, k6⟩
  have kk6 := kk5.trans k6 (fun i hi => .inr (hi ▸ (Nat.le_trans kk0.size le1)))
  have z15 : w5.heap.size ≤ w6.heap.size := k6.size
  have hl_sp3 := (key_len hK_sp3).trans (ptK_length ..)
  refine R_pu (pu_move rfl) rfl ?_
  refine R_pu (pu_extract rfl rfl) rfl ?_
  refine R_pu (pu_extract rfl rfl) rfl ?_
  refine R_pu (pu_assign rfl) rfl ?_
  refine R_pu (pu_assign rfl) rfl ?_
  refine R_nil ?_
  refine X_then hK5 ?_
  refine C_seq (fun K16 hK16 => ?_)
  refine C_seq (fun K17 hK17 => ?_)
  refine C_region ?_
  refine R_pu (pu_move rfl) rfl ?_
  refine R_pu (pu_neqnn (by kernel_rfl) rfl) rfl ?_
  refine R_pu (pu_move rfl) rfl ?_
  refine R_gpu rfl rfl (pu_move rfl) rfl ?_
  refine R_gpu rfl rfl (pu_len Tryd.underlying29 rfl) rfl ?_
  refine R_gpu rfl rfl (pu_false (pu_neq (p := ((L_sp3).length) = 3) rfl rfl (by omega)) (fun h => h hl_sp3)) rfl ?_
  refine R_pu (pu_pickf rfl rfl) rfl ?_
  refine R_pu (pu_move rfl) rfl ?_
  refine R_gpu rfl rfl (pu_move rfl) rfl ?_
  obtain ⟨s2, e_s2⟩ : ∃ q_, (L_sp3)[2]? = some q_ := ⟨_, List.getElem?_eq_getElem (by first | omega | (simp; done) | (simp; omega))⟩
  have ok_s2 := Q6.ss.get e_s2
  have od_s2 := Q6.od e_s2
  have bi_s2 : s2.ix < 256 := ok_s2.ix
  refine R_gpu rfl rfl (pu_indexAddrH Q6.ss Tryd.underlying29 (by kernel_rfl) rfl rfl rfl rfl e_s2) rfl ?_
  refine R_gpu rfl rfl (pu_fieldAddrH (off := 2) Q6.ss e_s2 (by kernel_rfl) rfl) rfl ?_
  refine R_gpu rfl rfl (pu_loadH Q6.ss e_s2 (by kernel_rfl) rfl rfl) rfl ?_
  refine R_gpu rfl rfl (pu_len Tryd.underlying22 rfl) rfl ?_
  have k_s2 := key_at hK_sp3 e_s2 (ptK_get (show 2 < 3 by decide))
  have lx_s2 : s2.X.length = 1 := by rw [k_s2.2.2]; exact ptX_length _ _ _ _
  refine R_gpu rfl rfl (pu_false (pu_neq (p := ((s2.X).length) = 1) rfl rfl (by omega)) (fun h => h lx_s2)) rfl ?_
  refine R_pu (pu_pickf rfl rfl) rfl ?_
  refine R_nil ?_
  refine X_then hK17 ?_
  refine C_false rfl ?_
  refine C_skip ?_
  refine X_then hK16 ?_
  refine C_seq (fun K18 hK18 => ?_)
  have f19 : Bk w6 p2_1 ([.int .i64 2, .int .i64 3, .int .u32 7]) 28 := (f12.on k6 ne_p2_1_b1_0)
  have f20 : Bk w6 p3_1 (u8s ([5])) 5 := (f11.on k6 ne_p3_1_b1_0)
  have f21 : Bk w6 p3_3 (u8s ([3])) 5 := (f_p3_3_5.on k6 ne_p3_3_b1_0)
  have o22 : Gt w6 := (o13.on k6 (Ne.symm ne_b1_0_0))
  refine D_begin (fun W => Kp No w W ∧ Bk W p2_1 ([.int .i64 2, .int .i64 3, .int .u32 7]) 28 ∧ Bk W p3_1 (u8s ([5])) 5 ∧ Bk W p3_3 (u8s ([3])) 5 ∧ Gt W ∧ Tb W b1_0 ∧ Sw 50 w5.heap.size W w5.heap.size (.slice A_sp3 ((L_sp3).length) (c_sp3)) (L_sp3)) 15 rfl (by kernel_rfl) ⟨kk6.drew, f19.draw, f20.draw, f21.draw, o22.draw, T6.draw, Q6.draw⟩ ?_
  intro w7 k7 _
  have kk7 := kk6.then_ k7
  refine D_take 0 rfl (by kernel_rfl) (by kernel_rfl) (by kernel_rfl) (fun _ _ _ h => h) rfl (fun W hS => pu_move rfl) ?_
  refine D_take 1 rfl (by kernel_rfl) (by kernel_rfl) (by kernel_rfl) (fun _ _ _ h => h) rfl (fun W hS => pu_move rfl) ?_
  have ob23 := (Q6.keptNo k7)
  refine D_take 2 rfl (by kernel_rfl) (by kernel_rfl) (by kernel_rfl) (fun _ _ _ h => h) rfl (fun W hS => pu_indexAddrH hS.2.2.2.2.2.2.ss Tryd.underlying29 (by kernel_rfl) rfl rfl rfl rfl e_s2) ?_
  refine D_take 3 rfl (by kernel_rfl) (by kernel_rfl) (by kernel_rfl) (fun _ _ _ h => h) rfl (fun W hS => pu_loadHr hS.2.2.2.2.2.2.ss e_s2 (by kernel_rfl) (by kernel_rfl) rfl) ?_
  refine D_take 4 rfl (by kernel_rfl) (by kernel_rfl) (by kernel_rfl) (fun _ _ _ h => h) rfl (fun W hS => pu_move rfl) ?_
  obtain ⟨s0, e_s0⟩ : ∃ q_, (L_sp3)[0]? = some q_ := ⟨_, List.getElem?_eq_getElem (by first | omega | (simp; done) | (simp; omega))⟩
  have ok_s0 := ob23.ss.get e_s0
  have od_s0 := ob23.od e_s0
  have bi_s0 : s0.ix < 256 := ok_s0.ix
  refine D_take 5 rfl (by kernel_rfl) (by kernel_rfl) (by kernel_rfl) (fun _ _ _ h => h) rfl (fun W hS => pu_indexAddrH hS.2.2.2.2.2.2.ss Tryd.underlying29 (by kernel_rfl) rfl rfl rfl rfl e_s0) ?_
  refine D_take 6 rfl (by kernel_rfl) (by kernel_rfl) (by kernel_rfl) (fun _ _ _ h => h) rfl (fun W hS => pu_loadHr hS.2.2.2.2.2.2.ss e_s0 (by kernel_rfl) (by kernel_rfl) rfl) ?_
  refine D_take 8 rfl (by kernel_rfl) (by kernel_rfl) (by kernel_rfl) (fun _ _ _ h => h) rfl (fun W hS => pu_loadRow (len := 3) hS.2.1 (by kernel_rfl) (by kernel_rfl) rfl rfl) ?_
  have f24 : Bk w7 p2_1 ([.int .i64 2, .int .i64 3, .int .u32 7]) 28 := (f19.no k7)
  have f25 : Bk w7 p3_1 (u8s ([5])) 5 := (f20.no k7)
  have f26 : Bk w7 p3_3 (u8s ([3])) 5 := (f21.no k7)
  have o27 : Gt w7 := (o22.no k7)
  have o28 : Tb w7 b1_0 := (T6.no k7)
  have ob29 := (od_s2.keptNo k7)
  refine D_one 7 (by kernel_rfl) (Nx_lo rfl (lo_buildSlice (L := [.int .u8 ((s2.ix : Nat) : Int), .int .u32 ((s2.gen : Nat) : Int), .slice s2.A ((s2.X).length) (s2.c), .int .u8 ((s0.ix : Nat) : Int), .int .u32 ((s0.gen : Nat) : Int), .slice s0.A ((s0.X).length) (s0.c)]) Tryd.underlying29 rfl (by kernel_rfl)) rfl ?_)
  rintro _ w8 ⟨lit, rfl, N8⟩
  have k8 := N8.kp
  have kk8 := kk7.then_ k8
  have ne_lit_p2_1 : lit ≠ p2_1 := Nat.ne_of_gt (Nat.lt_of_lt_of_le f24.lt N8.le)
  have ne_lit_p3_1 : lit ≠ p3_1 := Nat.ne_of_gt (Nat.lt_of_lt_of_le f25.lt N8.le)
  have ne_lit_p3_3 : lit ≠ p3_3 := Nat.ne_of_gt (Nat.lt_of_lt_of_le f26.lt N8.le)
  have ne_lit_0 : lit ≠ 0 := Nat.ne_of_gt (Nat.lt_of_lt_of_le o27.lt N8.le)
  have ne_lit_b1_0 : lit ≠ b1_0 := Nat.ne_of_gt (Nat.lt_of_lt_of_le o28.lt N8.le)
  have f_lit_8 : Bk w8 lit ([.int .u8 ((s2.ix : Nat) : Int), .int .u32 ((s2.gen : Nat) : Int), .slice s2.A ((s2.X).length) (s2.c), .int .u8 ((s0.ix : Nat) : Int), .int .u32 ((s0.gen : Nat) : Int), .slice s0.A ((s0.X).length) (s0.c)]) 50 := N8.bk
  have f30 : Bk w8 p2_1 ([.int .i64 2, .int .i64 3, .int .u32 7]) 28 := (f24.no k8)
  have f31 : Bk w8 p3_1 (u8s ([5])) 5 := (f25.no k8)
  have f32 : Bk w8 p3_3 (u8s ([3])) 5 := (f26.no k8)
  have o33 : Gt w8 := (o27.no k8)
  have o34 : Tb w8 b1_0 := (o28.no k8)
  have ob35 := (ob23.keptNo k8)
  refine ⟨⟨kk8, f30, f31, f32, o33, o34, ob35⟩, ?_⟩
  have ob36 := (ob29.keptNo k8)
  have ob37 := (od_s0.keptNo k8)
  have k_s0 := key_at hK_sp3 e_s0 (ptK_get (show 0 < 3 by decide))
  have lx_s0 : s0.X.length = 1 := by rw [k_s0.2.2]; exact ptX_length _ _ _ _
  have hgd : Good ([s2, s0].take (1 + 1)) 7 1 := good_two ⟨k_s2.1, k_s2.2.1, lx_s2⟩ ⟨k_s0.1, k_s0.2.1, lx_s0⟩ (by decide) (by decide) (by decide) (by decide) (by decide)
  have lm38 := ob35.top
  have lm39 := ob36.top
  have lm40 := ob37.top
  refine D_one 9 (by kernel_rfl) (Nx_lo rfl (lo_call (by kernel_rfl) rfl (shamir_combine b1_0 (some ⟨lit, 0, none⟩) ([s2, s0]) 2 1 3 7 1 _ (Ss.lit [s2, s0] f_lit_8 (by simp only [List.mem_cons, List.not_mem_nil, or_false, forall_eq_or_imp, forall_eq]; exact ⟨ok_s2.okOd ob36, ok_s0.okOd ob37⟩)) ⟨by decide, ⟨by simp, by simp, by simp⟩, by decide, hgd⟩ ⟨fun _ x hx hc => by injection hx with hx; subst hx; exact ne_lit_b1_0 hc, by simp only [List.mem_cons, List.not_mem_nil, or_false, forall_eq_or_imp, forall_eq]; exact ⟨ob36.aw (by have := o14.lt; omega), ob37.aw (by have := o14.lt; omega)⟩⟩ o34)) rfl ?_)
  rintro _ w9 ⟨A_th6, c_th6, rfl, Q9, T9, k9⟩
  have kk9 := kk8.trans k9 (fun i hi => .inr (hi ▸ (Nat.le_trans kk0.size le1)))
  have z41 : w8.heap.size ≤ w9.heap.size := k9.size
  have f42 : Bk w9 p2_1 ([.int .i64 2, .int .i64 3, .int .u32 7]) 28 := (f30.on k9 ne_p2_1_b1_0)
  have f43 : Bk w9 p3_1 (u8s ([5])) 5 := (f31.on k9 ne_p3_1_b1_0)
  have f44 : Bk w9 p3_3 (u8s ([3])) 5 := (f32.on k9 ne_p3_3_b1_0)
  have o45 : Gt w9 := (o33.on k9 (Ne.symm ne_b1_0_0))
  have ob46 := (ob35.on k9 (by have := o14.lt; omega))
  refine ⟨⟨kk9, f42, f43, f44, o45, T9, ob46⟩, ?_⟩
  refine D_take 10 rfl (by kernel_rfl) (by kernel_rfl) (by kernel_rfl) (fun _ _ _ h => h) rfl (fun W hS => pu_move rfl) ?_
  refine D_take 11 rfl (by kernel_rfl) (by kernel_rfl) (by kernel_rfl) (fun _ _ _ h => h) rfl (fun W hS => pu_extract rfl rfl) ?_
  refine D_take 12 rfl (by kernel_rfl) (by kernel_rfl) (by kernel_rfl) (fun _ _ _ h => h) rfl (fun W hS => pu_extract rfl rfl) ?_
  refine D_take 13 rfl (by kernel_rfl) (by kernel_rfl) (by kernel_rfl) (fun _ _ _ h => h) rfl (fun W hS => pu_assign rfl) ?_
  refine D_take 14 rfl (by kernel_rfl) (by kernel_rfl) (by kernel_rfl) (fun _ _ _ h => h) rfl (fun W hS => pu_assign rfl) ?_
  refine D_done (by kernel_rfl) ?_
  refine X_then hK18 ?_
  refine C_seq (fun K47 hK47 => ?_)
  have f48 : Bk w9 lit ([.int .u8 ((s2.ix : Nat) : Int), .int .u32 ((s2.gen : Nat) : Int), .slice s2.A ((s2.X).length) (s2.c), .int .u8 ((s0.ix : Nat) : Int), .int .u32 ((s0.gen : Nat) : Int), .slice s0.A ((s0.X).length) (s0.c)]) 50 := (f_lit_8.on k9 ne_lit_b1_0)
  refine D_begin (fun W => Kp No w W ∧ Bk W p2_1 ([.int .i64 2, .int .i64 3, .int .u32 7]) 28 ∧ Bk W p3_1 (u8s ([5])) 5 ∧ Bk W p3_3 (u8s ([3])) 5 ∧ Bk W lit ([.int .u8 ((s2.ix : Nat) : Int), .int .u32 ((s2.gen : Nat) : Int), .slice s2.A ((s2.X).length) (s2.c), .int .u8 ((s0.ix : Nat) : Int), .int .u32 ((s0.gen : Nat) : Int), .slice s0.A ((s0.X).length) (s0.c)]) 50 ∧ Gt W ∧ Tb W b1_0 ∧ Sw 50 w5.heap.size W w5.heap.size (.slice A_sp3 ((L_sp3).length) (c_sp3)) (L_sp3)) 10 rfl (by kernel_rfl) ⟨kk9.drew, f42.draw, f43.draw, f44.draw, f48.draw, o45.draw, T9.draw, ob46.draw⟩ ?_
  intro w10 k10 _
  have kk10 := kk9.then_ k10
  refine D_take 0 rfl (by kernel_rfl) (by kernel_rfl) (by kernel_rfl) (fun _ _ _ h => h) rfl (fun W hS => pu_move rfl) ?_
  refine D_take 1 rfl (by kernel_rfl) (by kernel_rfl) (by kernel_rfl) (fun _ _ _ h => h) rfl (fun W hS => pu_move rfl) ?_
  refine D_take 2 rfl (by kernel_rfl) (by kernel_rfl) (by kernel_rfl) (fun _ _ _ h => h) rfl (fun W hS => pu_sliceHi (hi := 1) (s := 3) Tryd.underlying29 (by kernel_rfl) rfl rfl rfl (by have hle_ := hS.2.2.2.2.2.2.2.le; omega)) ?_
  refine D_take 3 rfl (by kernel_rfl) (by kernel_rfl) (by kernel_rfl) (fun _ _ _ h => h) rfl (fun W hS => pu_loadRow (len := 3) hS.2.1 (by kernel_rfl) (by kernel_rfl) rfl rfl) ?_
  have ob49 := (ob46.keptNo k10)
  refine D_one 4 (by kernel_rfl) (Nx_lo rfl (lo_callE (by kernel_rfl) rfl (by rw [(show (L_sp3.take 1).length = 1 by rw [List.length_take]; omega)] <;> rfl) (shamir_combine_short b1_0 A_sp3 (L_sp3.take 1) c_sp3 1 3 7 _ (ob49.ss.take 1) ⟨by decide, by rw [List.length_take]; omega, by decide, by rw [List.length_take]; omega⟩)) rfl ?_)
  rintro _ w11 ⟨rfl, k11⟩
  have kk11 := kk10.then_ k11
  have f50 : Bk w11 p2_1 ([.int .i64 2, .int .i64 3, .int .u32 7]) 28 := ((f42.no k10).no k11)
  have f51 : Bk w11 p3_1 (u8s ([5])) 5 := ((f43.no k10).no k11)
  have f52 : Bk w11 p3_3 (u8s ([3])) 5 := ((f44.no k10).no k11)
  have f53 : Bk w11 lit ([.int .u8 ((s2.ix : Nat) : Int), .int .u32 ((s2.gen : Nat) : Int), .slice s2.A ((s2.X).length) (s2.c), .int .u8 ((s0.ix : Nat) : Int), .int .u32 ((s0.gen : Nat) : Int), .slice s0.A ((s0.X).length) (s0.c)]) 50 := ((f48.no k10).no k11)
  have o54 : Gt w11 := ((o45.no k10).no k11)
  have o55 : Tb w11 b1_0 := ((T9.no k10).no k11)
  have ob56 := (ob49.keptNo k11)
  refine ⟨⟨kk11, f50, f51, f52, f53, o54, o55, ob56⟩, ?_⟩
  refine D_take 5 rfl (by kernel_rfl) (by kernel_rfl) (by kernel_rfl) (fun _ _ _ h => h) rfl (fun W hS => pu_move rfl) ?_
  refine D_take 6 rfl (by kernel_rfl) (by kernel_rfl) (by kernel_rfl) (fun _ _ _ h => h) rfl (fun W hS => pu_extract rfl rfl) ?_
  refine D_take 7 rfl (by kernel_rfl) (by kernel_rfl) (by kernel_rfl) (fun _ _ _ h => h) rfl (fun W hS => pu_extract rfl rfl) ?_
  refine D_take 8 rfl (by kernel_rfl) (by kernel_rfl) (by kernel_rfl) (fun _ _ _ h => h) rfl (fun W hS => pu_assign rfl) ?_
  refine D_take 9 rfl (by kernel_rfl) (by kernel_rfl) (by kernel_rfl) (fun _ _ _ h => h) rfl (fun W hS => pu_assign rfl) ?_
  refine D_done (by kernel_rfl) ?_
  refine X_then hK47 ?_
  refine C_seq (fun K57 hK57 => ?_)
  refine C_region ?_
  refine R_pu (pu_move rfl) rfl ?_
  refine R_pu (pu_indexAddrH ob56.ss Tryd.underlying29 (by kernel_rfl) rfl rfl rfl rfl e_s0) rfl ?_
  refine R_pu (pu_fieldAddrH (off := 2) ob56.ss e_s0 (by kernel_rfl) rfl) rfl ?_
  refine R_pu (pu_loadH ob56.ss e_s0 (by kernel_rfl) rfl rfl) rfl ?_
  have ob58 := (((ob37.on k9 (by have := o14.lt; omega)).keptNo k10).keptNo k11)
  refine R_pu (pu_indexAddrB (m := 0) ob58.bs Tryd.underlying22 (by kernel_rfl) rfl rfl rfl rfl (by omega)) rfl ?_
  refine R_pu (pu_loadB ob58.bs (by kernel_rfl) rfl (show s0.X[0]? = some 6 by rw [k_s0.2.2]; decide +kernel)) rfl ?_
  refine R_pu (pu_true (pu_eql (p := (6 : Nat) = 6) rfl rfl (by omega)) (by decide)) rfl ?_
  refine R_pu (pu_move rfl) rfl ?_
  refine R_gpu rfl rfl (pu_move rfl) rfl ?_
  obtain ⟨s1, e_s1⟩ : ∃ q_, (L_sp3)[1]? = some q_ := ⟨_, List.getElem?_eq_getElem (by first | omega | (simp; done) | (simp; omega))⟩
  have ok_s1 := ob56.ss.get e_s1
  have od_s1 := ob56.od e_s1
  have bi_s1 : s1.ix < 256 := ok_s1.ix
  have k_s1 := key_at hK_sp3 e_s1 (ptK_get (show 1 < 3 by decide))
  have lx_s1 : s1.X.length = 1 := by rw [k_s1.2.2]; exact ptX_length _ _ _ _
  refine R_gpu rfl rfl (pu_indexAddrH ob56.ss Tryd.underlying29 (by kernel_rfl) rfl rfl rfl rfl e_s1) rfl ?_
  refine R_gpu rfl rfl (pu_fieldAddrH (off := 2) ob56.ss e_s1 (by kernel_rfl) rfl) rfl ?_
  refine R_gpu rfl rfl (pu_loadH ob56.ss e_s1 (by kernel_rfl) rfl rfl) rfl ?_
  refine R_gpu rfl rfl (pu_indexAddrB (m := 0) od_s1.bs Tryd.underlying22 (by kernel_rfl) rfl rfl rfl rfl (by omega)) rfl ?_
  refine R_gpu rfl rfl (pu_loadB od_s1.bs (by kernel_rfl) rfl (show s1.X[0]? = some 3 by rw [k_s1.2.2]; decide +kernel)) rfl ?_
  refine R_gpu rfl rfl (pu_true (pu_eql (p := (3 : Nat) = 3) rfl rfl (by omega)) (by decide)) rfl ?_
  refine R_pu (pu_pickt rfl rfl) rfl ?_
  refine R_pu (pu_move rfl) rfl ?_
  refine R_gpu rfl rfl (pu_move rfl) rfl ?_
  refine R_gpu rfl rfl (pu_indexAddrH ob56.ss Tryd.underlying29 (by kernel_rfl) rfl rfl rfl rfl e_s2) rfl ?_
  refine R_gpu rfl rfl (pu_fieldAddrH (off := 2) ob56.ss e_s2 (by kernel_rfl) rfl) rfl ?_
  refine R_gpu rfl rfl (pu_loadH ob56.ss e_s2 (by kernel_rfl) rfl rfl) rfl ?_
  have ob59 := (((ob36.on k9 (by have := o14.lt; omega)).keptNo k10).keptNo k11)
  refine R_gpu rfl rfl (pu_indexAddrB (m := 0) ob59.bs Tryd.underlying22 (by kernel_rfl) rfl rfl rfl rfl (by omega)) rfl ?_
  refine R_gpu rfl rfl (pu_loadB ob59.bs (by kernel_rfl) rfl (show s2.X[0]? = some 0 by rw [k_s2.2.2]; decide +kernel)) rfl ?_
  refine R_gpu rfl rfl (pu_true (pu_eql (p := (0 : Nat) = 0) rfl rfl (by omega)) (by decide)) rfl ?_
  refine R_pu (pu_pickt rfl rfl) rfl ?_
  refine R_pu (pu_move rfl) rfl ?_
  refine R_gpu rfl rfl (pu_move rfl) rfl ?_
  refine R_gpu rfl rfl (pu_indexAddrH ob56.ss Tryd.underlying29 (by kernel_rfl) rfl rfl rfl rfl e_s1) rfl ?_
  refine R_gpu rfl rfl (pu_fieldAddrH (off := 1) ob56.ss e_s1 (by kernel_rfl) rfl) rfl ?_
  refine R_gpu rfl rfl (pu_loadH ob56.ss e_s1 (by kernel_rfl) rfl rfl) rfl ?_
  refine R_gpu rfl rfl (pu_true (pu_eql (p := s1.gen = 7) rfl rfl (by omega)) k_s1.2.1) rfl ?_
  refine R_pu (pu_pickt rfl rfl) rfl ?_
  refine R_pu (pu_move rfl) rfl ?_
  refine R_gpu rfl rfl (pu_move rfl) rfl ?_
  refine R_gpu rfl rfl (pu_eqlnn (by kernel_rfl) rfl) rfl ?_
  refine R_pu (pu_pickt rfl rfl) rfl ?_
  refine R_pu (pu_move rfl) rfl ?_
  refine R_gpu rfl rfl (pu_move rfl) rfl ?_
  have ob60 := ((Q9.keptNo k10).keptNo k11)
  refine R_gpu rfl rfl (pu_bstr ob60.bs Tryd.underlying22 Tryd.underlying5 Tryd.underlying9 rfl rfl) rfl ?_
  have hst : thX ([s2, s0].take (1 + 1)) 1 0 = [5] := by
    show [ipN [s2.ix, s0.ix] [s2.X.getD 0 0, s0.X.getD 0 0] 0 2] = [5]
    rw [k_s2.1, k_s0.1, k_s2.2.2, k_s0.2.2]; decide +kernel
  refine R_gpu rfl rfl (pu_true (pu_eqls (p := thX ([s2, s0].take (1 + 1)) 1 0 = [5]) rfl (by kernel_rfl) (bstr_inj (ob60.bs).byte (by decide))) hst) rfl ?_
  refine R_pu (pu_pickt rfl rfl) rfl ?_
  refine R_pu (pu_move rfl) rfl ?_
  refine R_gpu rfl rfl (pu_move rfl) rfl ?_
  refine R_glo rfl rfl (lo_call (by kernel_rfl) rfl (num03_err 2 _ o54)) rfl ?_
  rintro _ w12 ⟨rfl, k12⟩
  have kk12 := kk11.then_ k12
  refine R_gpu rfl rfl (pu_true (pu_eql (p := (2 : Nat) = 2) rfl rfl (by omega)) (by decide)) rfl ?_
  refine R_pu (pu_pickt rfl rfl) rfl ?_
  refine R_pu (pu_assign rfl) rfl ?_
  refine R_nil ?_
  refine X_then hK57 ?_
  refine C_ret ?_
  exact X_ret1 (.inl rfl) rfl rfl ⟨rfl, kk12⟩
set_option maxRecDepth 100000 in
set_option maxHeartbeats 2000000 in
theorem shamirSplits_no (A : Option Addr) (l : List Nat) (c : Nat) (ka nn : Int) (ge : Nat) (hge : ge < 4294967296) (A2 : Option Addr) (d2 : List Nat) (c2 : Nat) (w : World) (HB : Bs w A l) (hc : l.length ≤ c) (HB2 : Bs w A2 d2) (hc2 : d2.length ≤ c2) (hG : Gt w) (hP : ¬ (2 ≤ ka ∧ ka ≤ nn ∧ nn ≤ 255)) : Ret Tryd.prog 3 #[.slice A (l.length) (c), .agg ([.int .i64 (ka), .int .i64 (nn), .int .u32 ((ge : Nat) : Int)] : List Value).toArray, .slice A2 (d2.length) (c2)] w (fun v w' => v = .bool true ∧ Kp No w w') := by
  have kk0 := Kp.refl No w
  refine enter (n := 91) [.slice A (l.length) (c), .agg ([.int .i64 (ka), .int .i64 (nn), .int .u32 ((ge : Nat) : Int)] : List Value).toArray, .slice A2 (d2.length) (c2)] Tryd.func3 rfl rfl rfl ?_
  show Cw _ _ _ _ [(0, .slice A (l.length) (c)), (1, .agg ([.int .i64 (ka), .int .i64 (nn), .int .u32 ((ge : Nat) : Int)] : List Value).toArray), (2, .slice A2 (d2.length) (c2))] _
  refine C_seq (fun K1 hK1 => ?_)
  refine C_region ?_
  refine R_lo (lo_box (L := [.int .i64 (ka), .int .i64 (nn), .int .u32 ((ge : Nat) : Int)]) rfl rfl) rfl ?_
  rintro _ w1 ⟨p0_0, rfl, N1⟩
  have k1 := N1.kp
  have kk1 := kk0.then_ k1
  have ne_p0_0_0 : p0_0 ≠ 0 := Nat.ne_of_gt (Nat.lt_of_lt_of_le hG.lt N1.le)
  have f_p0_0_1 : Bk w1 p0_0 ([.int .i64 (ka), .int .i64 (nn), .int .u32 ((ge : Nat) : Int)]) 25 := N1.bk
  refine R_pu (pu_assign rfl) rfl ?_
  refine R_nil ?_
  refine X_then hK1 ?_
  refine C_seq (fun K2 hK2 => ?_)
  refine C_seq (fun K3 hK3 => ?_)
  refine C_region ?_
  refine R_pu (pu_move rfl) rfl ?_
  refine R_pu (pu_len Tryd.underlying22 rfl) rfl ?_
  refine R_pu (pu_gtr (p := l.length > 100) rfl rfl (by omega)) rfl ?_
  by_cases g1_3 : l.length > 100
  · refine R_pu (pu_true (pu_move rfl) g1_3) rfl ?_
    refine R_gno rfl rfl rfl rfl ?_
    refine R_gno rfl rfl rfl rfl ?_
    refine R_gno rfl rfl rfl rfl ?_
    refine R_pu (pu_pickt rfl rfl) rfl ?_
    refine R_pu (pu_move rfl) rfl ?_
    refine R_gno rfl rfl rfl rfl ?_
    refine R_gno rfl rfl rfl rfl ?_
    refine R_gno rfl rfl rfl rfl ?_
    refine R_gno rfl rfl rfl rfl ?_
    refine R_gun rfl rfl rfl ?_
    refine R_gun rfl rfl rfl ?_
    refine R_gno rfl rfl rfl rfl ?_
    refine R_pu (pu_pickt rfl rfl) rfl ?_
    refine R_nil ?_
    refine X_then hK3 ?_
    refine C_true rfl ?_
    refine C_seq (fun K4 hK4 => ?_)
    refine C_region ?_
    have o5 : Gt w1 := (hG.no k1)
    refine R_lo (lo_call (by kernel_rfl) rfl (sure03 _ o5)) rfl ?_
    rintro _ w2 ⟨rfl, k2⟩
    have kk2 := kk1.then_ k2
    refine R_pu (pu_assign rfl) rfl ?_
    refine R_nil ?_
    refine X_then hK4 ?_
    refine C_ret ?_
    refine X_then_ret ?_
    exact X_ret1 (.inl rfl) rfl rfl ⟨rfl, kk2⟩
  · refine R_pu (pu_false (pu_move rfl) g1_3) rfl ?_
    refine R_gpu rfl rfl (pu_move rfl) rfl ?_
    refine R_gpu rfl rfl (pu_len Tryd.underlying22 rfl) rfl ?_
    refine R_gpu rfl rfl (pu_gtr (p := d2.length > 600) rfl rfl (by omega)) rfl ?_
    refine R_pu (pu_pickf rfl rfl) rfl ?_
    by_cases g1_8 : d2.length > 600
    · refine R_pu (pu_true (pu_move rfl) g1_8) rfl ?_
      refine R_gno rfl rfl rfl rfl ?_
      refine R_gno rfl rfl rfl rfl ?_
      refine R_gno rfl rfl rfl rfl ?_
      refine R_gno rfl rfl rfl rfl ?_
      refine R_gun rfl rfl rfl ?_
      refine R_gun rfl rfl rfl ?_
      refine R_gno rfl rfl rfl rfl ?_
      refine R_pu (pu_pickt rfl rfl) rfl ?_
      refine R_nil ?_
      refine X_then hK3 ?_
      refine C_true rfl ?_
      refine C_seq (fun K6 hK6 => ?_)
      refine C_region ?_
      have o7 : Gt w1 := (hG.no k1)
      refine R_lo (lo_call (by kernel_rfl) rfl (sure03 _ o7)) rfl ?_
      rintro _ w3 ⟨rfl, k3⟩
      have kk3 := kk1.then_ k3
      refine R_pu (pu_assign rfl) rfl ?_
      refine R_nil ?_
      refine X_then hK6 ?_
      refine C_ret ?_
      refine X_then_ret ?_
      exact X_ret1 (.inl rfl) rfl rfl ⟨rfl, kk3⟩
    · refine R_pu (pu_false (pu_move rfl) g1_8) rfl ?_
      refine R_gpu rfl rfl (pu_fieldAddr (off := 1) (o' := 1) (by kernel_rfl) rfl rfl) rfl ?_
      refine R_gpu rfl rfl (pu_loadK f_p0_0_1 (by kernel_rfl) rfl rfl) rfl ?_
      refine R_gpu rfl rfl (pu_gtr (p := nn > 40) rfl rfl (by omega)) rfl ?_
      by_cases g1_12 : nn > 40
      · refine R_gpu rfl rfl (pu_true (pu_move rfl) g1_12) rfl ?_
        refine R_gpu rfl rfl (pu_loadRow (len := 3) f_p0_0_1 (by kernel_rfl) (by kernel_rfl) rfl rfl) rfl ?_
        refine R_glo rfl rfl (lo_call (by kernel_rfl) rfl (ref03_may_no ka nn ge _ hP)) rfl ?_
        rintro _ w4 ⟨rfl, k4⟩
        have kk4 := kk1.then_ k4
        refine R_gpu rfl rfl (pu_pickt rfl rfl) rfl ?_
        refine R_pu (pu_pickf rfl rfl) rfl ?_
        refine R_nil ?_
        refine X_then hK3 ?_
        refine C_false rfl ?_
        refine C_skip ?_
        refine X_then hK2 ?_
        refine C_seq (fun K8 hK8 => ?_)
        refine C_region ?_
        have f9 : Bk w4 p0_0 ([.int .i64 (ka), .int .i64 (nn), .int .u32 ((ge : Nat) : Int)]) 25 := (f_p0_0_1.no k4)
        refine R_pu (pu_loadRow (len := 3) f9 (by kernel_rfl) (by kernel_rfl) rfl rfl) rfl ?_
        have o10 : Gt w4 := ((hG.no k1).no k4)
        refine R_lo (lo_alloc (L := [.int .i64 0, .int .i64 0, .int .u32 0]) (by kernel_rfl)) rfl ?_
        rintro _ w5 ⟨p3_1, rfl, N5⟩
        have k5 := N5.kp
        have kk5 := kk4.then_ k5
        have ne_p3_1_p0_0 : p3_1 ≠ p0_0 := Nat.ne_of_gt (Nat.lt_of_lt_of_le f9.lt N5.le)
        have ne_p3_1_0 : p3_1 ≠ 0 := Nat.ne_of_gt (Nat.lt_of_lt_of_le o10.lt N5.le)
        have f_p3_1_5 : Bk w5 p3_1 ([.int .i64 0, .int .i64 0, .int .u32 0]) 28 := N5.bk
        refine R_lo0 (lo_storeRow (C := [.int .i64 (ka), .int .i64 (nn), .int .u32 ((ge : Nat) : Int)]) f_p3_1_5 (by kernel_rfl) rfl rfl (by intro u hu; simp at hu; rcases hu with rfl | rfl | rfl <;> rfl) rfl) ?_
        rintro _ w6 kf6
        obtain ⟨k6, f_p3_1_6⟩ := kf6
        replace f_p3_1_6 : Bk w6 p3_1 ([.int .i64 (ka), .int .i64 (nn), .int .u32 ((ge : Nat) : Int)]) 28 := f_p3_1_6
        have kk6 := kk5.trans k6 (fun i hi => .inr (hi ▸ (Nat.le_trans kk4.size N5.le)))
        refine R_nil ?_
        refine X_then hK8 ?_
        refine C_seq (fun K11 hK11 => ?_)
        have f12 : Bk w6 p0_0 ([.int .i64 (ka), .int .i64 (nn), .int .u32 ((ge : Nat) : Int)]) 25 := ((f9.no k5).on k6 (Ne.symm ne_p3_1_p0_0))
        have o13 : Gt w6 := ((o10.no k5).on k6 (Ne.symm ne_p3_1_0))
        refine D_begin (fun W => Kp No w W ∧ Bk W p0_0 ([.int .i64 (ka), .int .i64 (nn), .int .u32 ((ge : Nat) : Int)]) 25 ∧ Bk W p3_1 ([.int .i64 (ka), .int .i64 (nn), .int .u32 ((ge : Nat) : Int)]) 28 ∧ Gt W) 10 rfl (by kernel_rfl) ⟨kk6.drew, f12.draw, f_p3_1_6.draw, o13.draw⟩ ?_
        intro w7 k7 _
        have kk7 := kk6.then_ k7
        refine D_take 1 rfl (by kernel_rfl) (by kernel_rfl) (by kernel_rfl) (fun _ _ _ h => h) rfl (fun W hS => pu_move rfl) ?_
        refine D_take 2 rfl (by kernel_rfl) (by kernel_rfl) (by kernel_rfl) (fun _ _ _ h => h) rfl (fun W hS => pu_loadRow (len := 3) hS.2.2.1 (by kernel_rfl) (by kernel_rfl) rfl rfl) ?_
        refine D_take 3 rfl (by kernel_rfl) (by kernel_rfl) (by kernel_rfl) (fun _ _ _ h => h) rfl (fun W hS => pu_move rfl) ?_
        have f14 : Bk w7 p0_0 ([.int .i64 (ka), .int .i64 (nn), .int .u32 ((ge : Nat) : Int)]) 25 := (f12.no k7)
        have f15 : Bk w7 p3_1 ([.int .i64 (ka), .int .i64 (nn), .int .u32 ((ge : Nat) : Int)]) 28 := (f_p3_1_6.no k7)
        have o16 : Gt w7 := (o13.no k7)
        refine D_one 0 (by kernel_rfl) (Nx_lo rfl (lo_call (by kernel_rfl) rfl (gf_new _)) rfl ?_)
        rintro _ w8 ⟨b4_0, rfl, le8, T8, k8⟩
        have kk8 := kk7.then_ k8
        have ne_b4_0_p0_0 : b4_0 ≠ p0_0 := Nat.ne_of_gt (Nat.lt_of_lt_of_le f14.lt le8)
        have ne_b4_0_p3_1 : b4_0 ≠ p3_1 := Nat.ne_of_gt (Nat.lt_of_lt_of_le f15.lt le8)
        have ne_b4_0_0 : b4_0 ≠ 0 := Nat.ne_of_gt (Nat.lt_of_lt_of_le o16.lt le8)
        have f17 : Bk w8 p0_0 ([.int .i64 (ka), .int .i64 (nn), .int .u32 ((ge : Nat) : Int)]) 25 := (f14.no k8)
        have f18 : Bk w8 p3_1 ([.int .i64 (ka), .int .i64 (nn), .int .u32 ((ge : Nat) : Int)]) 28 := (f15.no k8)
        have o19 : Gt w8 := (o16.no k8)
        refine ⟨⟨kk8, f17, f18, o19⟩, ?_⟩
        refine D_one 4 (by kernel_rfl) (Nx_lo rfl (lo_call (by kernel_rfl) rfl (shamir_split_plan b4_0 A l c ka nn ge A2 d2 c2 _ (HB.keptNo kk8) hc (HB2.keptNo kk8) hc2 hge (by first | omega | (simp; done)) (by first | omega | (simp; done)) hP)) rfl ?_)
        rintro _ w9 ⟨rfl, k9⟩
        have kk9 := kk8.then_ k9
        have f20 : Bk w9 p0_0 ([.int .i64 (ka), .int .i64 (nn), .int .u32 ((ge : Nat) : Int)]) 25 := (f17.no k9)
        have f21 : Bk w9 p3_1 ([.int .i64 (ka), .int .i64 (nn), .int .u32 ((ge : Nat) : Int)]) 28 := (f18.no k9)
        have o22 : Gt w9 := (o19.no k9)
        refine ⟨⟨kk9, f20, f21, o22⟩, ?_⟩
        refine D_take 5 rfl (by kernel_rfl) (by kernel_rfl) (by kernel_rfl) (fun _ _ _ h => h) rfl (fun W hS => pu_move rfl) ?_
        refine D_take 6 rfl (by kernel_rfl) (by kernel_rfl) (by kernel_rfl) (fun _ _ _ h => h) rfl (fun W hS => pu_extract rfl rfl) ?_
        refine D_take 7 rfl (by kernel_rfl) (by kernel_rfl) (by kernel_rfl) (fun _ _ _ h => h) rfl (fun W hS => pu_extract rfl rfl) ?_
        refine D_take 8 rfl (by kernel_rfl) (by kernel_rfl) (by kernel_rfl) (fun _ _ _ h => h) rfl (fun W hS => pu_assign rfl) ?_
        refine D_take 9 rfl (by kernel_rfl) (by kernel_rfl) (by kernel_rfl) (fun _ _ _ h => h) rfl (fun W hS => pu_assign rfl) ?_
        refine D_done (by kernel_rfl) ?_
        refine X_then hK11 ?_
        refine C_seq (fun K23 hK23 => ?_)
        refine C_region ?_
        refine R_pu (pu_move rfl) rfl ?_
        refine R_pu (pu_loadRow (len := 3) f20 (by kernel_rfl) (by kernel_rfl) rfl rfl) rfl ?_
        refine R_pu (pu_move rfl) rfl ?_
        refine R_lo (lo_call (by kernel_rfl) rfl (ref03_split_plan A l c ka nn ge A2 d2 c2 _ (HB.keptNo kk9) hc (HB2.keptNo kk9) hc2 hge (by first | omega | (simp; done)) (by first | omega | (simp; done)) hP)) rfl ?_
        rintro _ w10 ⟨rfl, k10⟩
        have kk10 := kk9.then_ k10
        refine R_pu (pu_move rfl) rfl ?_
        refine R_pu (pu_extract rfl rfl) rfl ?_
        refine R_pu (pu_extract rfl rfl) rfl ?_
        refine R_pu (pu_assign rfl) rfl ?_
        refine R_pu (pu_assign rfl) rfl ?_
        refine R_nil ?_
        refine X_then hK23 ?_
        refine C_seq (fun K24 hK24 => ?_)
        refine C_region ?_
        refine R_pu (pu_move rfl) rfl ?_
        have f25 : Bk w10 p3_1 ([.int .i64 (ka), .int .i64 (nn), .int .u32 ((ge : Nat) : Int)]) 28 := (f21.no k10)
        refine R_pu (pu_loadRow (len := 3) f25 (by kernel_rfl) (by kernel_rfl) rfl rfl) rfl ?_
        refine R_pu (pu_move rfl) rfl ?_
        refine R_lo (lo_call (by kernel_rfl) rfl (shamir_split_nil A l c ka nn ge A2 d2 c2 _ (HB.keptNo kk10) hc (HB2.keptNo kk10) hc2 hge (by first | omega | (simp; done)) (by first | omega | (simp; done)))) rfl ?_
        rintro _ w11 ⟨rfl, k11⟩
        have kk11 := kk10.then_ k11
        refine R_pu (pu_move rfl) rfl ?_
        refine R_pu (pu_extract rfl rfl) rfl ?_
        refine R_pu (pu_extract rfl rfl) rfl ?_
        refine R_pu (pu_assign rfl) rfl ?_
        refine R_pu (pu_assign rfl) rfl ?_
        refine R_nil ?_
        refine X_then hK24 ?_
        refine C_seq (fun K26 hK26 => ?_)
        have f27 : Bk w11 p0_0 ([.int .i64 (ka), .int .i64 (nn), .int .u32 ((ge : Nat) : Int)]) 25 := ((f20.no k10).no k11)
        have f28 : Bk w11 p3_1 ([.int .i64 (ka), .int .i64 (nn), .int .u32 ((ge : Nat) : Int)]) 28 := (f25.no k11)
        have o29 : Gt w11 := ((o22.no k10).no k11)
        have o30 : Tb w11 b4_0 := (((T8.no k9).no k10).no k11)
        refine D_begin (fun W => Kp No w W ∧ Bk W p0_0 ([.int .i64 (ka), .int .i64 (nn), .int .u32 ((ge : Nat) : Int)]) 25 ∧ Bk W p3_1 ([.int .i64 (ka), .int .i64 (nn), .int .u32 ((ge : Nat) : Int)]) 28 ∧ Gt W ∧ Tb W b4_0) 37 rfl (by kernel_rfl) ⟨kk11.drew, f27.draw, f28.draw, o29.draw, o30.draw⟩ ?_
        intro w12 k12 _
        have kk12 := kk11.then_ k12
        refine D_take 0 rfl (by kernel_rfl) (by kernel_rfl) (by kernel_rfl) (fun _ _ _ h => h) rfl (fun W hS => pu_move rfl) ?_
        refine D_take 1 rfl (by kernel_rfl) (by kernel_rfl) (by kernel_rfl) (fun _ _ _ h => h) rfl (fun W hS => pu_move rfl) ?_
        refine D_one 2 (by kernel_rfl) (Nx_lo rfl (lo_call (by kernel_rfl) rfl (are_shares none ([] : List Shr) 0 none ([] : List Shr) 0 _ (Ss.nil _ none) (Ss.nil _ none) rfl (by first | omega | (simp; done)))) rfl ?_)
        rintro _ w13 ⟨rfl, k13⟩
        have kk13 := kk12.then_ k13
        have f31 : Bk w13 p0_0 ([.int .i64 (ka), .int .i64 (nn), .int .u32 ((ge : Nat) : Int)]) 25 := ((f27.no k12).no k13)
        have f32 : Bk w13 p3_1 ([.int .i64 (ka), .int .i64 (nn), .int .u32 ((ge : Nat) : Int)]) 28 := ((f28.no k12).no k13)
        have o33 : Gt w13 := ((o29.no k12).no k13)
        have o34 : Tb w13 b4_0 := ((o30.no k12).no k13)
        refine ⟨⟨kk13, f31, f32, o33, o34⟩, ?_⟩
        refine D_take 3 rfl (by kernel_rfl) (by kernel_rfl) (by kernel_rfl) (fun _ _ _ h => h) rfl (fun W hS => pu_move rfl) ?_
        refine D_gtake 4 rfl rfl rfl (by kernel_rfl) (by kernel_rfl) (by kernel_rfl) (fun _ _ _ h => h) rfl (fun W hS => pu_move rfl) ?_
        refine D_gtake 6 rfl rfl rfl (by kernel_rfl) (by kernel_rfl) (by kernel_rfl) (fun _ _ _ h => h) rfl (fun W hS => pu_move rfl) ?_
        refine D_one 5 (by kernel_rfl) (Nx_glo rfl rfl rfl (lo_call (by kernel_rfl) rfl (num03_err 1 _ o33)) rfl ?_)
        rintro _ w14 ⟨rfl, k14⟩
        have kk14 := kk13.then_ k14
        have f35 : Bk w14 p0_0 ([.int .i64 (ka), .int .i64 (nn), .int .u32 ((ge : Nat) : Int)]) 25 := (f31.no k14)
        have f36 : Bk w14 p3_1 ([.int .i64 (ka), .int .i64 (nn), .int .u32 ((ge : Nat) : Int)]) 28 := (f32.no k14)
        have o37 : Gt w14 := (o33.no k14)
        have o38 : Tb w14 b4_0 := (o34.no k14)
        refine ⟨⟨kk14, f35, f36, o37, o38⟩, ?_⟩
        refine D_gtake 7 rfl rfl rfl (by kernel_rfl) (by kernel_rfl) (by kernel_rfl) (fun _ _ _ h => h) rfl (fun W hS => pu_true (pu_eql (p := (1 : Nat) = 1) rfl rfl (by omega)) (by decide)) ?_
        refine D_take 8 rfl (by kernel_rfl) (by kernel_rfl) (by kernel_rfl) (fun _ _ _ h => h) rfl (fun W hS => pu_pickt rfl rfl) ?_
        refine D_take 9 rfl (by kernel_rfl) (by kernel_rfl) (by kernel_rfl) (fun _ _ _ h => h) rfl (fun W hS => pu_move rfl) ?_
        refine D_gtake 10 rfl rfl rfl (by kernel_rfl) (by kernel_rfl) (by kernel_rfl) (fun _ _ _ h => h) rfl (fun W hS => pu_move rfl) ?_
        refine D_one 11 (by kernel_rfl) (Nx_glo rfl rfl rfl (lo_call (by kernel_rfl) rfl (num03_err 1 _ o37)) rfl ?_)
        rintro _ w15 ⟨rfl, k15⟩
        have kk15 := kk14.then_ k15
        have f39 : Bk w15 p0_0 ([.int .i64 (ka), .int .i64 (nn), .int .u32 ((ge : Nat) : Int)]) 25 := (f35.no k15)
        have f40 : Bk w15 p3_1 ([.int .i64 (ka), .int .i64 (nn), .int .u32 ((ge : Nat) : Int)]) 28 := (f36.no k15)
        have o41 : Gt w15 := (o37.no k15)
        have o42 : Tb w15 b4_0 := (o38.no k15)
        refine ⟨⟨kk15, f39, f40, o41, o42⟩, ?_⟩
        refine D_gtake 12 rfl rfl rfl (by kernel_rfl) (by kernel_rfl) (by kernel_rfl) (fun _ _ _ h => h) rfl (fun W hS => pu_true (pu_eql (p := (1 : Nat) = 1) rfl rfl (by omega)) (by decide)) ?_
        refine D_take 13 rfl (by kernel_rfl) (by kernel_rfl) (by kernel_rfl) (fun _ _ _ h => h) rfl (fun W hS => pu_pickt rfl rfl) ?_
        refine D_take 14 rfl (by kernel_rfl) (by kernel_rfl) (by kernel_rfl) (fun _ _ _ h => h) rfl (fun W hS => pu_move rfl) ?_
        refine D_gtake 15 rfl rfl rfl (by kernel_rfl) (by kernel_rfl) (by kernel_rfl) (fun _ _ _ h => h) rfl (fun W hS => pu_loadRow (len := 3) hS.2.2.1 (by kernel_rfl) (by kernel_rfl) rfl rfl) ?_
        refine D_gtake 16 rfl rfl rfl (by kernel_rfl) (by kernel_rfl) (by kernel_rfl) (fun _ _ _ h => h) rfl (fun W hS => pu_move rfl) ?_
        refine D_gtake 17 rfl rfl rfl (by kernel_rfl) (by kernel_rfl) (by kernel_rfl) (fun _ _ _ h => h) rfl (fun W hS => pu_len Tryd.underlying22 rfl) ?_
        refine D_gtake 19 rfl rfl rfl (by kernel_rfl) (by kernel_rfl) (by kernel_rfl) (fun _ _ _ h => h) rfl (fun W hS => pu_loadRow (len := 3) hS.2.1 (by kernel_rfl) (by kernel_rfl) rfl rfl) ?_
        refine D_gtake 20 rfl rfl rfl (by kernel_rfl) (by kernel_rfl) (by kernel_rfl) (fun _ _ _ h => h) rfl (fun W hS => pu_move rfl) ?_
        refine D_gtake 21 rfl rfl rfl (by kernel_rfl) (by kernel_rfl) (by kernel_rfl) (fun _ _ _ h => h) rfl (fun W hS => pu_len Tryd.underlying22 rfl) ?_
        refine D_one 18 (by kernel_rfl) (Nx_glo rfl rfl rfl (lo_call (by kernel_rfl) rfl (shamir_draws_no ka nn ge l.length _ hP (by omega))) rfl ?_)
        rintro _ w16 ⟨rfl, k16⟩
        have kk16 := kk15.then_ k16
        have f43 : Bk w16 p0_0 ([.int .i64 (ka), .int .i64 (nn), .int .u32 ((ge : Nat) : Int)]) 25 := (f39.no k16)
        have f44 : Bk w16 p3_1 ([.int .i64 (ka), .int .i64 (nn), .int .u32 ((ge : Nat) : Int)]) 28 := (f40.no k16)
        have o45 : Gt w16 := (o41.no k16)
        have o46 : Tb w16 b4_0 := (o42.no k16)
        refine ⟨⟨kk16, f43, f44, o45, o46⟩, ?_⟩
        refine D_one 22 (by kernel_rfl) (Nx_glo rfl rfl rfl (lo_call (by kernel_rfl) rfl (ref03_draws_no ka nn ge l.length _ hP (by omega))) rfl ?_)
        rintro _ w17 ⟨rfl, k17⟩
        have kk17 := kk16.then_ k17
        have f47 : Bk w17 p0_0 ([.int .i64 (ka), .int .i64 (nn), .int .u32 ((ge : Nat) : Int)]) 25 := (f43.no k17)
        have f48 : Bk w17 p3_1 ([.int .i64 (ka), .int .i64 (nn), .int .u32 ((ge : Nat) : Int)]) 28 := (f44.no k17)
        have o49 : Gt w17 := (o45.no k17)
        have o50 : Tb w17 b4_0 := (o46.no k17)
        refine ⟨⟨kk17, f47, f48, o49, o50⟩, ?_⟩
        refine D_gtake 23 rfl rfl rfl (by kernel_rfl) (by kernel_rfl) (by kernel_rfl) (fun _ _ _ h => h) rfl (fun W hS => pu_true (pu_eql (p := (0 : Nat) = 0) rfl rfl (by omega)) (by decide)) ?_
        refine D_take 24 rfl (by kernel_rfl) (by kernel_rfl) (by kernel_rfl) (fun _ _ _ h => h) rfl (fun W hS => pu_pickt rfl rfl) ?_
        refine D_take 25 rfl (by kernel_rfl) (by kernel_rfl) (by kernel_rfl) (fun _ _ _ h => h) rfl (fun W hS => pu_move rfl) ?_
        refine D_gtake 26 rfl rfl rfl (by kernel_rfl) (by kernel_rfl) (by kernel_rfl) (fun _ _ _ h => h) rfl (fun W hS => pu_loadRow (len := 3) hS.2.2.1 (by kernel_rfl) (by kernel_rfl) rfl rfl) ?_
        refine D_gtake 29 rfl rfl rfl (by kernel_rfl) (by kernel_rfl) (by kernel_rfl) (fun _ _ _ h => h) rfl (fun W hS => pu_loadRow (len := 3) hS.2.1 (by kernel_rfl) (by kernel_rfl) rfl rfl) ?_
        refine D_one 27 (by kernel_rfl) (Nx_glo rfl rfl rfl (lo_call (by kernel_rfl) rfl (shamir_check_no ka nn ge _ hP)) rfl ?_)
        rintro _ w18 ⟨rfl, k18⟩
        have kk18 := kk17.then_ k18
        have f51 : Bk w18 p0_0 ([.int .i64 (ka), .int .i64 (nn), .int .u32 ((ge : Nat) : Int)]) 25 := (f47.no k18)
        have f52 : Bk w18 p3_1 ([.int .i64 (ka), .int .i64 (nn), .int .u32 ((ge : Nat) : Int)]) 28 := (f48.no k18)
        have o53 : Gt w18 := (o49.no k18)
        have o54 : Tb w18 b4_0 := (o50.no k18)
        refine ⟨⟨kk18, f51, f52, o53, o54⟩, ?_⟩
        refine D_gtake 28 rfl rfl rfl (by kernel_rfl) (by kernel_rfl) (by kernel_rfl) (fun _ _ _ h => h) rfl (fun W hS => pu_eqlin (by kernel_rfl) rfl rfl) ?_
        refine D_one 30 (by kernel_rfl) (Nx_glo rfl rfl rfl (lo_call (by kernel_rfl) rfl (ref03_may_no ka nn ge _ hP)) rfl ?_)
        rintro _ w19 ⟨rfl, k19⟩
        have kk19 := kk18.then_ k19
        have f55 : Bk w19 p0_0 ([.int .i64 (ka), .int .i64 (nn), .int .u32 ((ge : Nat) : Int)]) 25 := (f51.no k19)
        have f56 : Bk w19 p3_1 ([.int .i64 (ka), .int .i64 (nn), .int .u32 ((ge : Nat) : Int)]) 28 := (f52.no k19)
        have o57 : Gt w19 := (o53.no k19)
        have o58 : Tb w19 b4_0 := (o54.no k19)
        refine ⟨⟨kk19, f55, f56, o57, o58⟩, ?_⟩
        refine D_gtake 31 rfl rfl rfl (by kernel_rfl) (by kernel_rfl) (by kernel_rfl) (fun _ _ _ h => h) rfl (fun W hS => pu_eqlb Tryd.underlying4 rfl rfl) ?_
        refine D_take 32 rfl (by kernel_rfl) (by kernel_rfl) (by kernel_rfl) (fun _ _ _ h => h) rfl (fun W hS => pu_pickt rfl rfl) ?_
        refine D_take 33 rfl (by kernel_rfl) (by kernel_rfl) (by kernel_rfl) (fun _ _ _ h => h) rfl (fun W hS => pu_move rfl) ?_
        refine D_one 34 (by kernel_rfl) (Nx_glo rfl rfl rfl (lo_call (by kernel_rfl) rfl (sure03 _ o57)) rfl ?_)
        rintro _ w20 ⟨rfl, k20⟩
        have kk20 := kk19.then_ k20
        have f59 : Bk w20 p0_0 ([.int .i64 (ka), .int .i64 (nn), .int .u32 ((ge : Nat) : Int)]) 25 := (f55.no k20)
        have f60 : Bk w20 p3_1 ([.int .i64 (ka), .int .i64 (nn), .int .u32 ((ge : Nat) : Int)]) 28 := (f56.no k20)
        have o61 : Gt w20 := (o57.no k20)
        have o62 : Tb w20 b4_0 := (o58.no k20)
        refine ⟨⟨kk20, f59, f60, o61, o62⟩, ?_⟩
        refine D_take 35 rfl (by kernel_rfl) (by kernel_rfl) (by kernel_rfl) (fun _ _ _ h => h) rfl (fun W hS => pu_pickt rfl rfl) ?_
        refine D_take 36 rfl (by kernel_rfl) (by kernel_rfl) (by kernel_rfl) (fun _ _ _ h => h) rfl (fun W hS => pu_assign rfl) ?_
        refine D_done (by kernel_rfl) ?_
        refine X_then hK26 ?_
        refine C_ret ?_
        exact X_ret1 (.inl rfl) rfl rfl ⟨rfl, kk20⟩
      · refine R_gpu rfl rfl (pu_false (pu_move rfl) g1_12) rfl ?_
        refine R_gno rfl rfl rfl rfl ?_
        refine R_gno rfl rfl rfl rfl ?_
        refine R_gpu rfl rfl (pu_pickf rfl rfl) rfl ?_
        refine R_pu (pu_pickf rfl rfl) rfl ?_
        refine R_nil ?_
        refine X_then hK3 ?_
        refine C_false rfl ?_
        refine C_skip ?_
        refine X_then hK2 ?_
        refine C_seq (fun K63 hK63 => ?_)
        refine C_region ?_
        refine R_pu (pu_loadRow (len := 3) f_p0_0_1 (by kernel_rfl) (by kernel_rfl) rfl rfl) rfl ?_
        have o64 : Gt w1 := (hG.no k1)
        refine R_lo (lo_alloc (L := [.int .i64 0, .int .i64 0, .int .u32 0]) (by kernel_rfl)) rfl ?_
        rintro _ w21 ⟨p3_1, rfl, N21⟩
        have k21 := N21.kp
        have kk21 := kk1.then_ k21
        have ne_p3_1_p0_0 : p3_1 ≠ p0_0 := Nat.ne_of_gt (Nat.lt_of_lt_of_le f_p0_0_1.lt N21.le)
        have ne_p3_1_0 : p3_1 ≠ 0 := Nat.ne_of_gt (Nat.lt_of_lt_of_le o64.lt N21.le)
        have f_p3_1_21 : Bk w21 p3_1 ([.int .i64 0, .int .i64 0, .int .u32 0]) 28 := N21.bk
        refine R_lo0 (lo_storeRow (C := [.int .i64 (ka), .int .i64 (nn), .int .u32 ((ge : Nat) : Int)]) f_p3_1_21 (by kernel_rfl) rfl rfl (by intro u hu; simp at hu; rcases hu with rfl | rfl | rfl <;> rfl) rfl) ?_
        rintro _ w22 kf22
        obtain ⟨k22, f_p3_1_22⟩ := kf22
        replace f_p3_1_22 : Bk w22 p3_1 ([.int .i64 (ka), .int .i64 (nn), .int .u32 ((ge : Nat) : Int)]) 28 := f_p3_1_22
        have kk22 := kk21.trans k22 (fun i hi => .inr (hi ▸ (Nat.le_trans kk1.size N21.le)))
        refine R_nil ?_
        refine X_then hK63 ?_
        refine C_seq (fun K65 hK65 => ?_)
        have f66 : Bk w22 p0_0 ([.int .i64 (ka), .int .i64 (nn), .int .u32 ((ge : Nat) : Int)]) 25 := ((f_p0_0_1.no k21).on k22 (Ne.symm ne_p3_1_p0_0))
        have o67 : Gt w22 := ((o64.no k21).on k22 (Ne.symm ne_p3_1_0))
        refine D_begin (fun W => Kp No w W ∧ Bk W p0_0 ([.int .i64 (ka), .int .i64 (nn), .int .u32 ((ge : Nat) : Int)]) 25 ∧ Bk W p3_1 ([.int .i64 (ka), .int .i64 (nn), .int .u32 ((ge : Nat) : Int)]) 28 ∧ Gt W) 10 rfl (by kernel_rfl) ⟨kk22.drew, f66.draw, f_p3_1_22.draw, o67.draw⟩ ?_
        intro w23 k23 _
        have kk23 := kk22.then_ k23
        refine D_take 1 rfl (by kernel_rfl) (by kernel_rfl) (by kernel_rfl) (fun _ _ _ h => h) rfl (fun W hS => pu_move rfl) ?_
        refine D_take 2 rfl (by kernel_rfl) (by kernel_rfl) (by kernel_rfl) (fun _ _ _ h => h) rfl (fun W hS => pu_loadRow (len := 3) hS.2.2.1 (by kernel_rfl) (by kernel_rfl) rfl rfl) ?_
        refine D_take 3 rfl (by kernel_rfl) (by kernel_rfl) (by kernel_rfl) (fun _ _ _ h => h) rfl (fun W hS => pu_move rfl) ?_
        have f68 : Bk w23 p0_0 ([.int .i64 (ka), .int .i64 (nn), .int .u32 ((ge : Nat) : Int)]) 25 := (f66.no k23)
        have f69 : Bk w23 p3_1 ([.int .i64 (ka), .int .i64 (nn), .int .u32 ((ge : Nat) : Int)]) 28 := (f_p3_1_22.no k23)
        have o70 : Gt w23 := (o67.no k23)
        refine D_one 0 (by kernel_rfl) (Nx_lo rfl (lo_call (by kernel_rfl) rfl (gf_new _)) rfl ?_)
        rintro _ w24 ⟨b4_0, rfl, le24, T24, k24⟩
        have kk24 := kk23.then_ k24
        have ne_b4_0_p0_0 : b4_0 ≠ p0_0 := Nat.ne_of_gt (Nat.lt_of_lt_of_le f68.lt le24)
        have ne_b4_0_p3_1 : b4_0 ≠ p3_1 := Nat.ne_of_gt (Nat.lt_of_lt_of_le f69.lt le24)
        have ne_b4_0_0 : b4_0 ≠ 0 := Nat.ne_of_gt (Nat.lt_of_lt_of_le o70.lt le24)
        have f71 : Bk w24 p0_0 ([.int .i64 (ka), .int .i64 (nn), .int .u32 ((ge : Nat) : Int)]) 25 := (f68.no k24)
        have f72 : Bk w24 p3_1 ([.int .i64 (ka), .int .i64 (nn), .int .u32 ((ge : Nat) : Int)]) 28 := (f69.no k24)
        have o73 : Gt w24 := (o70.no k24)
        refine ⟨⟨kk24, f71, f72, o73⟩, ?_⟩
        refine D_one 4 (by kernel_rfl) (Nx_lo rfl (lo_call (by kernel_rfl) rfl (shamir_split_plan b4_0 A l c ka nn ge A2 d2 c2 _ (HB.keptNo kk24) hc (HB2.keptNo kk24) hc2 hge (by first | omega | (simp; done)) (by first | omega | (simp; done)) hP)) rfl ?_)
        rintro _ w25 ⟨rfl, k25⟩
        have kk25 := kk24.then_ k25
        have f74 : Bk w25 p0_0 ([.int .i64 (ka), .int .i64 (nn), .int .u32 ((ge : Nat) : Int)]) 25 := (f71.no k25)
        have f75 : Bk w25 p3_1 ([.int .i64 (ka), .int .i64 (nn), .int .u32 ((ge : Nat) : Int)]) 28 := (f72.no k25)
        have o76 : Gt w25 := (o73.no k25)
        refine ⟨⟨kk25, f74, f75, o76⟩, ?_⟩
        refine D_take 5 rfl (by kernel_rfl) (by kernel_rfl) (by kernel_rfl) (fun _ _ _ h => h) rfl (fun W hS => pu_move rfl) ?_
        refine D_take 6 rfl (by kernel_rfl) (by kernel_rfl) (by kernel_rfl) (fun _ _ _ h => h) rfl (fun W hS => pu_extract rfl rfl) ?_
        refine D_take 7 rfl (by kernel_rfl) (by kernel_rfl) (by kernel_rfl) (fun _ _ _ h => h) rfl (fun W hS => pu_extract rfl rfl) ?_
        refine D_take 8 rfl (by kernel_rfl) (by kernel_rfl) (by kernel_rfl) (fun _ _ _ h => h) rfl (fun W hS => pu_assign rfl) ?_
        refine D_take 9 rfl (by kernel_rfl) (by kernel_rfl) (by kernel_rfl) (fun _ _ _ h => h) rfl (fun W hS => pu_assign rfl) ?_
        refine D_done (by kernel_rfl) ?_
        refine X_then hK65 ?_
        refine C_seq (fun K77 hK77 => ?_)
        refine C_region ?_
        refine R_pu (pu_move rfl) rfl ?_
        refine R_pu (pu_loadRow (len := 3) f74 (by kernel_rfl) (by kernel_rfl) rfl rfl) rfl ?_
        refine R_pu (pu_move rfl) rfl ?_
        refine R_lo (lo_call (by kernel_rfl) rfl (ref03_split_plan A l c ka nn ge A2 d2 c2 _ (HB.keptNo kk25) hc (HB2.keptNo kk25) hc2 hge (by first | omega | (simp; done)) (by first | omega | (simp; done)) hP)) rfl ?_
        rintro _ w26 ⟨rfl, k26⟩
        have kk26 := kk25.then_ k26
        refine R_pu (pu_move rfl) rfl ?_
        refine R_pu (pu_extract rfl rfl) rfl ?_
        refine R_pu (pu_extract rfl rfl) rfl ?_
        refine R_pu (pu_assign rfl) rfl ?_
        refine R_pu (pu_assign rfl) rfl ?_
        refine R_nil ?_
        refine X_then hK77 ?_
        refine C_seq (fun K78 hK78 => ?_)
        refine C_region ?_
        refine R_pu (pu_move rfl) rfl ?_
        have f79 : Bk w26 p3_1 ([.int .i64 (ka), .int .i64 (nn), .int .u32 ((ge : Nat) : Int)]) 28 := (f75.no k26)
        refine R_pu (pu_loadRow (len := 3) f79 (by kernel_rfl) (by kernel_rfl) rfl rfl) rfl ?_
        refine R_pu (pu_move rfl) rfl ?_
        refine R_lo (lo_call (by kernel_rfl) rfl (shamir_split_nil A l c ka nn ge A2 d2 c2 _ (HB.keptNo kk26) hc (HB2.keptNo kk26) hc2 hge (by first | omega | (simp; done)) (by first | omega | (simp; done)))) rfl ?_
        rintro _ w27 ⟨rfl, k27⟩
        have kk27 := kk26.then_ k27
        refine R_pu (pu_move rfl) rfl ?_
        refine R_pu (pu_extract rfl rfl) rfl ?_
        refine R_pu (pu_extract rfl rfl) rfl ?_
        refine R_pu (pu_assign rfl) rfl ?_
        refine R_pu (pu_assign rfl) rfl ?_
        refine R_nil ?_
        refine X_then hK78 ?_
        refine C_seq (fun K80 hK80 => ?_)
        have f81 : Bk w27 p0_0 ([.int .i64 (ka), .int .i64 (nn), .int .u32 ((ge : Nat) : Int)]) 25 := ((f74.no k26).no k27)
        have f82 : Bk w27 p3_1 ([.int .i64 (ka), .int .i64 (nn), .int .u32 ((ge : Nat) : Int)]) 28 := (f79.no k27)
        have o83 : Gt w27 := ((o76.no k26).no k27)
        have o84 : Tb w27 b4_0 := (((T24.no k25).no k26).no k27)
        refine D_begin (fun W => Kp No w W ∧ Bk W p0_0 ([.int .i64 (ka), .int .i64 (nn), .int .u32 ((ge : Nat) : Int)]) 25 ∧ Bk W p3_1 ([.int .i64 (ka), .int .i64 (nn), .int .u32 ((ge : Nat) : Int)]) 28 ∧ Gt W ∧ Tb W b4_0) 37 rfl (by kernel_rfl) ⟨kk27.drew, f81.draw, f82.draw, o83.draw, o84.draw⟩ ?_
        intro w28 k28 _
        have kk28 := kk27.then_ k28
        refine D_take 0 rfl (by kernel_rfl) (by kernel_rfl) (by kernel_rfl) (fun _ _ _ h => h) rfl (fun W hS => pu_move rfl) ?_
        refine D_take 1 rfl (by kernel_rfl) (by kernel_rfl) (by kernel_rfl) (fun _ _ _ h => h) rfl (fun W hS => pu_move rfl) ?_
        refine D_one 2 (by kernel_rfl) (Nx_lo rfl (lo_call (by kernel_rfl) rfl (are_shares none ([] : List Shr) 0 none ([] : List Shr) 0 _ (Ss.nil _ none) (Ss.nil _ none) rfl (by first | omega | (simp; done)))) rfl ?_)
        rintro _ w29 ⟨rfl, k29⟩
        have kk29 := kk28.then_ k29
        have f85 : Bk w29 p0_0 ([.int .i64 (ka), .int .i64 (nn), .int .u32 ((ge : Nat) : Int)]) 25 := ((f81.no k28).no k29)
        have f86 : Bk w29 p3_1 ([.int .i64 (ka), .int .i64 (nn), .int .u32 ((ge : Nat) : Int)]) 28 := ((f82.no k28).no k29)
        have o87 : Gt w29 := ((o83.no k28).no k29)
        have o88 : Tb w29 b4_0 := ((o84.no k28).no k29)
        refine ⟨⟨kk29, f85, f86, o87, o88⟩, ?_⟩
        refine D_take 3 rfl (by kernel_rfl) (by kernel_rfl) (by kernel_rfl) (fun _ _ _ h => h) rfl (fun W hS => pu_move rfl) ?_
        refine D_gtake 4 rfl rfl rfl (by kernel_rfl) (by kernel_rfl) (by kernel_rfl) (fun _ _ _ h => h) rfl (fun W hS => pu_move rfl) ?_
        refine D_gtake 6 rfl rfl rfl (by kernel_rfl) (by kernel_rfl) (by kernel_rfl) (fun _ _ _ h => h) rfl (fun W hS => pu_move rfl) ?_
        refine D_one 5 (by kernel_rfl) (Nx_glo rfl rfl rfl (lo_call (by kernel_rfl) rfl (num03_err 1 _ o87)) rfl ?_)
        rintro _ w30 ⟨rfl, k30⟩
        have kk30 := kk29.then_ k30
        have f89 : Bk w30 p0_0 ([.int .i64 (ka), .int .i64 (nn), .int .u32 ((ge : Nat) : Int)]) 25 := (f85.no k30)
        have f90 : Bk w30 p3_1 ([.int .i64 (ka), .int .i64 (nn), .int .u32 ((ge : Nat) : Int)]) 28 := (f86.no k30)
        have o91 : Gt w30 := (o87.no k30)
        have o92 : Tb w30 b4_0 := (o88.no k30)
        refine ⟨⟨kk30, f89, f90, o91, o92⟩, ?_⟩
        refine D_gtake 7 rfl rfl rfl (by kernel_rfl) (by kernel_rfl) (by kernel_rfl) (fun _ _ _ h => h) rfl (fun W hS => pu_true (pu_eql (p := (1 : Nat) = 1) rfl rfl (by omega)) (by decide)) ?_
        refine D_take 8 rfl (by kernel_rfl) (by kernel_rfl) (by kernel_rfl) (fun _ _ _ h => h) rfl (fun W hS => pu_pickt rfl rfl) ?_
        refine D_take 9 rfl (by kernel_rfl) (by kernel_rfl) (by kernel_rfl) (fun _ _ _ h => h) rfl (fun W hS => pu_move rfl) ?_
        refine D_gtake 10 rfl rfl rfl (by kernel_rfl) (by kernel_rfl) (by kernel_rfl) (fun _ _ _ h => h) rfl (fun W hS => pu_move rfl) ?_
        refine D_one 11 (by kernel_rfl) (Nx_glo rfl rfl rfl (lo_call (by kernel_rfl) rfl (num03_err 1 _ o91)) rfl ?_)
        rintro _ w31 ⟨rfl, k31⟩
        have kk31 := kk30.then_ k31
        have f93 : Bk w31 p0_0 ([.int .i64 (ka), .int .i64 (nn), .int .u32 ((ge : Nat) : Int)]) 25 := (f89.no k31)
        have f94 : Bk w31 p3_1 ([.int .i64 (ka), .int .i64 (nn), .int .u32 ((ge : Nat) : Int)]) 28 := (f90.no k31)
        have o95 : Gt w31 := (o91.no k31)
        have o96 : Tb w31 b4_0 := (o92.no k31)
        refine ⟨⟨kk31, f93, f94, o95, o96⟩, ?_⟩
        refine D_gtake 12 rfl rfl rfl (by kernel_rfl) (by kernel_rfl) (by kernel_rfl) (fun _ _ _ h => h) rfl (fun W hS => pu_true (pu_eql (p := (1 : Nat) = 1) rfl rfl (by omega)) (by decide)) ?_
        refine D_take 13 rfl (by kernel_rfl) (by kernel_rfl) (by kernel_rfl) (fun _ _ _ h => h) rfl (fun W hS => pu_pickt rfl rfl) ?_
        refine D_take 14 rfl (by kernel_rfl) (by kernel_rfl) (by kernel_rfl) (fun _ _ _ h => h) rfl (fun W hS => pu_move rfl) ?_
        refine D_gtake 15 rfl rfl rfl (by kernel_rfl) (by kernel_rfl) (by kernel_rfl) (fun _ _ _ h => h) rfl (fun W hS => pu_loadRow (len := 3) hS.2.2.1 (by kernel_rfl) (by kernel_rfl) rfl rfl) ?_
        refine D_gtake 16 rfl rfl rfl (by kernel_rfl) (by kernel_rfl) (by kernel_rfl) (fun _ _ _ h => h) rfl (fun W hS => pu_move rfl) ?_
        refine D_gtake 17 rfl rfl rfl (by kernel_rfl) (by kernel_rfl) (by kernel_rfl) (fun _ _ _ h => h) rfl (fun W hS => pu_len Tryd.underlying22 rfl) ?_
        refine D_gtake 19 rfl rfl rfl (by kernel_rfl) (by kernel_rfl) (by kernel_rfl) (fun _ _ _ h => h) rfl (fun W hS => pu_loadRow (len := 3) hS.2.1 (by kernel_rfl) (by kernel_rfl) rfl rfl) ?_
        refine D_gtake 20 rfl rfl rfl (by kernel_rfl) (by kernel_rfl) (by kernel_rfl) (fun _ _ _ h => h) rfl (fun W hS => pu_move rfl) ?_
        refine D_gtake 21 rfl rfl rfl (by kernel_rfl) (by kernel_rfl) (by kernel_rfl) (fun _ _ _ h => h) rfl (fun W hS => pu_len Tryd.underlying22 rfl) ?_
        refine D_one 18 (by kernel_rfl) (Nx_glo rfl rfl rfl (lo_call (by kernel_rfl) rfl (shamir_draws_no ka nn ge l.length _ hP (by omega))) rfl ?_)
        rintro _ w32 ⟨rfl, k32⟩
        have kk32 := kk31.then_ k32
        have f97 : Bk w32 p0_0 ([.int .i64 (ka), .int .i64 (nn), .int .u32 ((ge : Nat) : Int)]) 25 := (f93.no k32)
        have f98 : Bk w32 p3_1 ([.int .i64 (ka), .int .i64 (nn), .int .u32 ((ge : Nat) : Int)]) 28 := (f94.no k32)
        have o99 : Gt w32 := (o95.no k32)
        have o100 : Tb w32 b4_0 := (o96.no k32)
        refine ⟨⟨kk32, f97, f98, o99, o100⟩, ?_⟩
        refine D_one 22 (by kernel_rfl) (Nx_glo rfl rfl rfl (lo_call (by kernel_rfl) rfl (ref03_draws_no ka nn ge l.length _ hP (by omega))) rfl ?_)
        rintro _ w33 ⟨rfl, k33⟩
        have kk33 := kk32.then_ k33
        have f101 : Bk w33 p0_0 ([.int .i64 (ka), .int .i64 (nn), .int .u32 ((ge : Nat) : Int)]) 25 := (f97.no k33)
        have f102 : Bk w33 p3_1 ([.int .i64 (ka), .int .i64 (nn), .int .u32 ((ge : Nat) : Int)]) 28 := (f98.no k33)
        have o103 : Gt w33 := (o99.no k33)
        have o104 : Tb w33 b4_0 := (o100.no k33)
        refine ⟨⟨kk33, f101, f102, o103, o104⟩, ?_⟩
        refine D_gtake 23 rfl rfl rfl (by kernel_rfl) (by kernel_rfl) (by kernel_rfl) (fun _ _ _ h => h) rfl (fun W hS => pu_true (pu_eql (p := (0 : Nat) = 0) rfl rfl (by omega)) (by decide)) ?_
        refine D_take 24 rfl (by kernel_rfl) (by kernel_rfl) (by kernel_rfl) (fun _ _ _ h => h) rfl (fun W hS => pu_pickt rfl rfl) ?_
        refine D_take 25 rfl (by kernel_rfl) (by kernel_rfl) (by kernel_rfl) (fun _ _ _ h => h) rfl (fun W hS => pu_move rfl) ?_
        refine D_gtake 26 rfl rfl rfl (by kernel_rfl) (by kernel_rfl) (by kernel_rfl) (fun _ _ _ h => h) rfl (fun W hS => pu_loadRow (len := 3) hS.2.2.1 (by kernel_rfl) (by kernel_rfl) rfl rfl) ?_
        refine D_gtake 29 rfl rfl rfl (by kernel_rfl) (by kernel_rfl) (by kernel_rfl) (fun _ _ _ h => h) rfl (fun W hS => pu_loadRow (len := 3) hS.2.1 (by kernel_rfl) (by kernel_rfl) rfl rfl) ?_
        refine D_one 27 (by kernel_rfl) (Nx_glo rfl rfl rfl (lo_call (by kernel_rfl) rfl (shamir_check_no ka nn ge _ hP)) rfl ?_)
        rintro _ w34 ⟨rfl, k34⟩
        have kk34 := kk33.then_ k34
        have f105 : Bk w34 p0_0 ([.int .i64 (ka), .int .i64 (nn), .int .u32 ((ge : Nat) : Int)]) 25 := (f101.no k34)
        have f106 : Bk w34 p3_1 ([.int .i64 (ka), .int .i64 (nn), .int .u32 ((ge : Nat) : Int)]) 28 := (f102.no k34)
        have o107 : Gt w34 := (o103.no k34)
        have o108 : Tb w34 b4_0 := (o104.no k34)
        refine ⟨⟨kk34, f105, f106, o107, o108⟩, ?_⟩
        refine D_gtake 28 rfl rfl rfl (by kernel_rfl) (by kernel_rfl) (by kernel_rfl) (fun _ _ _ h => h) rfl (fun W hS => pu_eqlin (by kernel_rfl) rfl rfl) ?_
        refine D_one 30 (by kernel_rfl) (Nx_glo rfl rfl rfl (lo_call (by kernel_rfl) rfl (ref03_may_no ka nn ge _ hP)) rfl ?_)
        rintro _ w35 ⟨rfl, k35⟩
        have kk35 := kk34.then_ k35
        have f109 : Bk w35 p0_0 ([.int .i64 (ka), .int .i64 (nn), .int .u32 ((ge : Nat) : Int)]) 25 := (f105.no k35)
        have f110 : Bk w35 p3_1 ([.int .i64 (ka), .int .i64 (nn), .int .u32 ((ge : Nat) : Int)]) 28 := (f106.no k35)
        have o111 : Gt w35 := (o107.no k35)
        have o112 : Tb w35 b4_0 := (o108.no k35)
        refine ⟨⟨kk35, f109, f110, o111, o112⟩, ?_⟩
        refine D_gtake 31 rfl rfl rfl (by kernel_rfl) (by kernel_rfl) (by kernel_rfl) (fun _ _ _ h => h) rfl (fun W hS => pu_eqlb Tryd.underlying4 rfl rfl) ?_
        refine D_take 32 rfl (by kernel_rfl) (by kernel_rfl) (by kernel_rfl) (fun _ _ _ h => h) rfl (fun W hS => pu_pickt rfl rfl) ?_
        refine D_take 33 rfl (by kernel_rfl) (by kernel_rfl) (by kernel_rfl) (fun _ _ _ h => h) rfl (fun W hS => pu_move rfl) ?_
        refine D_one 34 (by kernel_rfl) (Nx_glo rfl rfl rfl (lo_call (by kernel_rfl) rfl (sure03 _ o111)) rfl ?_)
        rintro _ w36 ⟨rfl, k36⟩
        have kk36 := kk35.then_ k36
        have f113 : Bk w36 p0_0 ([.int .i64 (ka), .int .i64 (nn), .int .u32 ((ge : Nat) : Int)]) 25 := (f109.no k36)
        have f114 : Bk w36 p3_1 ([.int .i64 (ka), .int .i64 (nn), .int .u32 ((ge : Nat) : Int)]) 28 := (f110.no k36)
        have o115 : Gt w36 := (o111.no k36)
        have o116 : Tb w36 b4_0 := (o112.no k36)
        refine ⟨⟨kk36, f113, f114, o115, o116⟩, ?_⟩
        refine D_take 35 rfl (by kernel_rfl) (by kernel_rfl) (by kernel_rfl) (fun _ _ _ h => h) rfl (fun W hS => pu_pickt rfl rfl) ?_
        refine D_take 36 rfl (by kernel_rfl) (by kernel_rfl) (by kernel_rfl) (fun _ _ _ h => h) rfl (fun W hS => pu_assign rfl) ?_
        refine D_done (by kernel_rfl) ?_
        refine X_then hK80 ?_
        refine C_ret ?_
        exact X_ret1 (.inl rfl) rfl rfl ⟨rfl, kk36⟩
set_option maxRecDepth 100000 in
set_option maxHeartbeats 2000000 in
theorem shamirSplits_yes (A : Option Addr) (l : List Nat) (c : Nat) (q nn : Nat) (ge : Nat) (hge : ge < 4294967296) (A2 : Option Addr) (d2 : List Nat) (c2 : Nat) (w : World) (HB : Bs w A l) (hc : l.length ≤ c) (HB2 : Bs w A2 d2) (hc2 : d2.length ≤ c2) (hG : Gt w) (hP : 2 ≤ q + 1 ∧ q + 1 ≤ nn ∧ nn ≤ 255) : Ret Tryd.prog 3 #[.slice A (l.length) (c), .agg ([.int .i64 ((q + 1 : Nat) : Int), .int .i64 ((nn : Nat) : Int), .int .u32 ((ge : Nat) : Int)] : List Value).toArray, .slice A2 (d2.length) (c2)] w (fun v w' => v = .bool true ∧ Kp No w w') := by
  have kk0 := Kp.refl No w
  refine enter (n := 91) [.slice A (l.length) (c), .agg ([.int .i64 ((q + 1 : Nat) : Int), .int .i64 ((nn : Nat) : Int), .int .u32 ((ge : Nat) : Int)] : List Value).toArray, .slice A2 (d2.length) (c2)] Tryd.func3 rfl rfl rfl ?_
  show Cw _ _ _ _ [(0, .slice A (l.length) (c)), (1, .agg ([.int .i64 ((q + 1 : Nat) : Int), .int .i64 ((nn : Nat) : Int), .int .u32 ((ge : Nat) : Int)] : List Value).toArray), (2, .slice A2 (d2.length) (c2))] _
  refine C_seq (fun K1 hK1 => ?_)
  refine C_region ?_
  refine R_lo (lo_box (L := [.int .i64 ((q + 1 : Nat) : Int), .int .i64 ((nn : Nat) : Int), .int .u32 ((ge : Nat) : Int)]) rfl rfl) rfl ?_
  rintro _ w1 ⟨p0_0, rfl, N1⟩
  have k1 := N1.kp
  have kk1 := kk0.then_ k1
  have ne_p0_0_0 : p0_0 ≠ 0 := Nat.ne_of_gt (Nat.lt_of_lt_of_le hG.lt N1.le)
  have f_p0_0_1 : Bk w1 p0_0 ([.int .i64 ((q + 1 : Nat) : Int), .int .i64 ((nn : Nat) : Int), .int .u32 ((ge : Nat) : Int)]) 25 := N1.bk
  refine R_pu (pu_assign rfl) rfl ?_
  refine R_nil ?_
  refine X_then hK1 ?_
  refine C_seq (fun K2 hK2 => ?_)
  refine C_seq (fun K3 hK3 => ?_)
  refine C_region ?_
  refine R_pu (pu_move rfl) rfl ?_
  refine R_pu (pu_len Tryd.underlying22 rfl) rfl ?_
  refine R_pu (pu_gtr (p := l.length > 100) rfl rfl (by omega)) rfl ?_
  by_cases g1_3 : l.length > 100
  · refine R_pu (pu_true (pu_move rfl) g1_3) rfl ?_
    refine R_gno rfl rfl rfl rfl ?_
    refine R_gno rfl rfl rfl rfl ?_
    refine R_gno rfl rfl rfl rfl ?_
    refine R_pu (pu_pickt rfl rfl) rfl ?_
    refine R_pu (pu_move rfl) rfl ?_
    refine R_gno rfl rfl rfl rfl ?_
    refine R_gno rfl rfl rfl rfl ?_
    refine R_gno rfl rfl rfl rfl ?_
    refine R_gno rfl rfl rfl rfl ?_
    refine R_gun rfl rfl rfl ?_
    refine R_gun rfl rfl rfl ?_
    refine R_gno rfl rfl rfl rfl ?_
    refine R_pu (pu_pickt rfl rfl) rfl ?_
    refine R_nil ?_
    refine X_then hK3 ?_
    refine C_true rfl ?_
    refine C_seq (fun K4 hK4 => ?_)
    refine C_region ?_
    have o5 : Gt w1 := (hG.no k1)
    refine R_lo (lo_call (by kernel_rfl) rfl (sure03 _ o5)) rfl ?_
    rintro _ w2 ⟨rfl, k2⟩
    have kk2 := kk1.then_ k2
    refine R_pu (pu_assign rfl) rfl ?_
    refine R_nil ?_
    refine X_then hK4 ?_
    refine C_ret ?_
    refine X_then_ret ?_
    exact X_ret1 (.inl rfl) rfl rfl ⟨rfl, kk2⟩
  · refine R_pu (pu_false (pu_move rfl) g1_3) rfl ?_
    refine R_gpu rfl rfl (pu_move rfl) rfl ?_
    refine R_gpu rfl rfl (pu_len Tryd.underlying22 rfl) rfl ?_
    refine R_gpu rfl rfl (pu_gtr (p := d2.length > 600) rfl rfl (by omega)) rfl ?_
    refine R_pu (pu_pickf rfl rfl) rfl ?_
    by_cases g1_8 : d2.length > 600
    · refine R_pu (pu_true (pu_move rfl) g1_8) rfl ?_
      refine R_gno rfl rfl rfl rfl ?_
      refine R_gno rfl rfl rfl rfl ?_
      refine R_gno rfl rfl rfl rfl ?_
      refine R_gno rfl rfl rfl rfl ?_
      refine R_gun rfl rfl rfl ?_
      refine R_gun rfl rfl rfl ?_
      refine R_gno rfl rfl rfl rfl ?_
      refine R_pu (pu_pickt rfl rfl) rfl ?_
      refine R_nil ?_
      refine X_then hK3 ?_
      refine C_true rfl ?_
      refine C_seq (fun K6 hK6 => ?_)
      refine C_region ?_
      have o7 : Gt w1 := (hG.no k1)
      refine R_lo (lo_call (by kernel_rfl) rfl (sure03 _ o7)) rfl ?_
      rintro _ w3 ⟨rfl, k3⟩
      have kk3 := kk1.then_ k3
      refine R_pu (pu_assign rfl) rfl ?_
      refine R_nil ?_
      refine X_then hK6 ?_
      refine C_ret ?_
      refine X_then_ret ?_
      exact X_ret1 (.inl rfl) rfl rfl ⟨rfl, kk3⟩
    · refine R_pu (pu_false (pu_move rfl) g1_8) rfl ?_
      refine R_gpu rfl rfl (pu_fieldAddr (off := 1) (o' := 1) (by kernel_rfl) rfl rfl) rfl ?_
      refine R_gpu rfl rfl (pu_loadK f_p0_0_1 (by kernel_rfl) rfl rfl) rfl ?_
      refine R_gpu rfl rfl (pu_gtr (p := nn > 40) rfl rfl (by omega)) rfl ?_
      by_cases g1_12 : nn > 40
      · refine R_gpu rfl rfl (pu_true (pu_move rfl) g1_12) rfl ?_
        refine R_gpu rfl rfl (pu_loadRow (len := 3) f_p0_0_1 (by kernel_rfl) (by kernel_rfl) rfl rfl) rfl ?_
        refine R_glo rfl rfl (lo_call (by kernel_rfl) rfl (ref03_may_yes q nn ge _ hP)) rfl ?_
        rintro _ w4 ⟨rfl, k4⟩
        have kk4 := kk1.then_ k4
        refine R_gpu rfl rfl (pu_pickt rfl rfl) rfl ?_
        refine R_pu (pu_pickf rfl rfl) rfl ?_
        refine R_nil ?_
        refine X_then hK3 ?_
        refine C_true rfl ?_
        refine C_seq (fun K8 hK8 => ?_)
        refine C_region ?_
        have o9 : Gt w4 := ((hG.no k1).no k4)
        refine R_lo (lo_call (by kernel_rfl) rfl (sure03 _ o9)) rfl ?_
        rintro _ w5 ⟨rfl, k5⟩
        have kk5 := kk4.then_ k5
        refine R_pu (pu_assign rfl) rfl ?_
        refine R_nil ?_
        refine X_then hK8 ?_
        refine C_ret ?_
        refine X_then_ret ?_
        exact X_ret1 (.inl rfl) rfl rfl ⟨rfl, kk5⟩
      · refine R_gpu rfl rfl (pu_false (pu_move rfl) g1_12) rfl ?_
        refine R_gno rfl rfl rfl rfl ?_
        refine R_gno rfl rfl rfl rfl ?_
        refine R_gpu rfl rfl (pu_pickf rfl rfl) rfl ?_
        refine R_pu (pu_pickf rfl rfl) rfl ?_
        refine R_nil ?_
        refine X_then hK3 ?_
        refine C_false rfl ?_
        refine C_skip ?_
        refine X_then hK2 ?_
        refine C_seq (fun K10 hK10 => ?_)
        refine C_region ?_
        by_cases hl : 1 ≤ l.length ∧ l.length ≤ 64
        · refine R_pu (pu_loadRow (len := 3) f_p0_0_1 (by kernel_rfl) (by kernel_rfl) rfl rfl) rfl ?_
          by_cases hd : d2.length = q * l.length
          · have o11 : Gt w1 := (hG.no k1)
            refine R_lo (lo_alloc (L := [.int .i64 0, .int .i64 0, .int .u32 0]) (by kernel_rfl)) rfl ?_
            rintro _ w6 ⟨p3_1, rfl, N6⟩
            have k6 := N6.kp
            have kk6 := kk1.then_ k6
            have ne_p3_1_p0_0 : p3_1 ≠ p0_0 := Nat.ne_of_gt (Nat.lt_of_lt_of_le f_p0_0_1.lt N6.le)
            have ne_p3_1_0 : p3_1 ≠ 0 := Nat.ne_of_gt (Nat.lt_of_lt_of_le o11.lt N6.le)
            have f_p3_1_6 : Bk w6 p3_1 ([.int .i64 0, .int .i64 0, .int .u32 0]) 28 := N6.bk
            refine R_lo0 (lo_storeRow (C := [.int .i64 ((q + 1 : Nat) : Int), .int .i64 ((nn : Nat) : Int), .int .u32 ((ge : Nat) : Int)]) f_p3_1_6 (by kernel_rfl) rfl rfl (by intro u hu; simp at hu; rcases hu with rfl | rfl | rfl <;> rfl) rfl) ?_
            rintro _ w7 kf7
            obtain ⟨k7, f_p3_1_7⟩ := kf7
            replace f_p3_1_7 : Bk w7 p3_1 ([.int .i64 ((q + 1 : Nat) : Int), .int .i64 ((nn : Nat) : Int), .int .u32 ((ge : Nat) : Int)]) 28 := f_p3_1_7
            have kk7 := kk6.trans k7 (fun i hi => .inr (hi ▸ (Nat.le_trans kk1.size N6.le)))
            refine R_nil ?_
            refine X_then hK10 ?_
            refine C_seq (fun K12 hK12 => ?_)
            have f13 : Bk w7 p0_0 ([.int .i64 ((q + 1 : Nat) : Int), .int .i64 ((nn : Nat) : Int), .int .u32 ((ge : Nat) : Int)]) 25 := ((f_p0_0_1.no k6).on k7 (Ne.symm ne_p3_1_p0_0))
            have o14 : Gt w7 := ((o11.no k6).on k7 (Ne.symm ne_p3_1_0))
            refine D_begin (fun W => Kp No w W ∧ Bk W p0_0 ([.int .i64 ((q + 1 : Nat) : Int), .int .i64 ((nn : Nat) : Int), .int .u32 ((ge : Nat) : Int)]) 25 ∧ Bk W p3_1 ([.int .i64 ((q + 1 : Nat) : Int), .int .i64 ((nn : Nat) : Int), .int .u32 ((ge : Nat) : Int)]) 28 ∧ Gt W) 10 rfl (by kernel_rfl) ⟨kk7.drew, f13.draw, f_p3_1_7.draw, o14.draw⟩ ?_
            intro w8 k8 _
            have kk8 := kk7.then_ k8
            refine D_take 1 rfl (by kernel_rfl) (by kernel_rfl) (by kernel_rfl) (fun _ _ _ h => h) rfl (fun W hS => pu_move rfl) ?_
            refine D_take 2 rfl (by kernel_rfl) (by kernel_rfl) (by kernel_rfl) (fun _ _ _ h => h) rfl (fun W hS => pu_loadRow (len := 3) hS.2.2.1 (by kernel_rfl) (by kernel_rfl) rfl rfl) ?_
            refine D_take 3 rfl (by kernel_rfl) (by kernel_rfl) (by kernel_rfl) (fun _ _ _ h => h) rfl (fun W hS => pu_move rfl) ?_
            have f15 : Bk w8 p0_0 ([.int .i64 ((q + 1 : Nat) : Int), .int .i64 ((nn : Nat) : Int), .int .u32 ((ge : Nat) : Int)]) 25 := (f13.no k8)
            have f16 : Bk w8 p3_1 ([.int .i64 ((q + 1 : Nat) : Int), .int .i64 ((nn : Nat) : Int), .int .u32 ((ge : Nat) : Int)]) 28 := (f_p3_1_7.no k8)
            have o17 : Gt w8 := (o14.no k8)
            refine D_one 0 (by kernel_rfl) (Nx_lo rfl (lo_call (by kernel_rfl) rfl (gf_new _)) rfl ?_)
            rintro _ w9 ⟨b4_0, rfl, le9, T9, k9⟩
            have kk9 := kk8.then_ k9
            have ne_b4_0_p0_0 : b4_0 ≠ p0_0 := Nat.ne_of_gt (Nat.lt_of_lt_of_le f15.lt le9)
            have ne_b4_0_p3_1 : b4_0 ≠ p3_1 := Nat.ne_of_gt (Nat.lt_of_lt_of_le f16.lt le9)
            have ne_b4_0_0 : b4_0 ≠ 0 := Nat.ne_of_gt (Nat.lt_of_lt_of_le o17.lt le9)
            have f18 : Bk w9 p0_0 ([.int .i64 ((q + 1 : Nat) : Int), .int .i64 ((nn : Nat) : Int), .int .u32 ((ge : Nat) : Int)]) 25 := (f15.no k9)
            have f19 : Bk w9 p3_1 ([.int .i64 ((q + 1 : Nat) : Int), .int .i64 ((nn : Nat) : Int), .int .u32 ((ge : Nat) : Int)]) 28 := (f16.no k9)
            have o20 : Gt w9 := (o17.no k9)
            refine ⟨⟨kk9, f18, f19, o20⟩, ?_⟩
            refine D_one 4 (by kernel_rfl) (Nx_lo rfl (lo_call (by kernel_rfl) rfl (shamir_split b4_0 A l c q nn ge A2 d2 c2 _ (HB.keptNo kk9) hc (HB2.keptNo kk9) hc2 hge hP hl hd (HB.aw (Nat.le_trans kk8.size le9)) (HB2.aw (Nat.le_trans kk8.size le9)) T9)) rfl ?_)
            rintro _ w10 ⟨A_sa, c_sa, L_sa, rfl, Q10, hK_sa, T10, k10⟩
            have kk10 := kk9.trans k10 (fun i hi => .inr (hi ▸ (Nat.le_trans kk8.size le9)))
            have z21 : w9.heap.size ≤ w10.heap.size := k10.size
            have hl_sa := (key_len hK_sa).trans (ptK_length ..)
            have f22 : Bk w10 p0_0 ([.int .i64 ((q + 1 : Nat) : Int), .int .i64 ((nn : Nat) : Int), .int .u32 ((ge : Nat) : Int)]) 25 := (f18.on k10 (Ne.symm ne_b4_0_p0_0))
            have f23 : Bk w10 p3_1 ([.int .i64 ((q + 1 : Nat) : Int), .int .i64 ((nn : Nat) : Int), .int .u32 ((ge : Nat) : Int)]) 28 := (f19.on k10 (Ne.symm ne_b4_0_p3_1))
            have o24 : Gt w10 := (o20.on k10 (Ne.symm ne_b4_0_0))
            refine ⟨⟨kk10, f22, f23, o24⟩, ?_⟩
            refine D_take 5 rfl (by kernel_rfl) (by kernel_rfl) (by kernel_rfl) (fun _ _ _ h => h) rfl (fun W hS => pu_move rfl) ?_
            refine D_take 6 rfl (by kernel_rfl) (by kernel_rfl) (by kernel_rfl) (fun _ _ _ h => h) rfl (fun W hS => pu_extract rfl rfl) ?_
            refine D_take 7 rfl (by kernel_rfl) (by kernel_rfl) (by kernel_rfl) (fun _ _ _ h => h) rfl (fun W hS => pu_extract rfl rfl) ?_
            refine D_take 8 rfl (by kernel_rfl) (by kernel_rfl) (by kernel_rfl) (fun _ _ _ h => h) rfl (fun W hS => pu_assign rfl) ?_
            refine D_take 9 rfl (by kernel_rfl) (by kernel_rfl) (by kernel_rfl) (fun _ _ _ h => h) rfl (fun W hS => pu_assign rfl) ?_
            refine D_done (by kernel_rfl) ?_
            refine X_then hK12 ?_
            refine C_seq (fun K25 hK25 => ?_)
            refine C_region ?_
            refine R_pu (pu_move rfl) rfl ?_
            refine R_pu (pu_loadRow (len := 3) f22 (by kernel_rfl) (by kernel_rfl) rfl rfl) rfl ?_
            refine R_pu (pu_move rfl) rfl ?_
            have lm26 := Q10.top
            refine R_lo (lo_call (by kernel_rfl) rfl (ref03_split A l c q nn ge A2 d2 c2 _ (HB.keptNo kk10) hc (HB2.keptNo kk10) hc2 hge hP hl hd)) rfl ?_
            rintro _ w11 ⟨A_sb, c_sb, L_sb, rfl, Q11, hK_sb, k11⟩
            have kk11 := kk10.then_ k11
            have z27 : w10.heap.size ≤ w11.heap.size := k11.size
            have hl_sb := (key_len hK_sb).trans (ptK_length ..)
            refine R_pu (pu_move rfl) rfl ?_
            refine R_pu (pu_extract rfl rfl) rfl ?_
            refine R_pu (pu_extract rfl rfl) rfl ?_
            refine R_pu (pu_assign rfl) rfl ?_
            refine R_pu (pu_assign rfl) rfl ?_
            refine R_nil ?_
            refine X_then hK25 ?_
            refine C_seq (fun K28 hK28 => ?_)
            refine C_region ?_
            refine R_pu (pu_move rfl) rfl ?_
            have f29 : Bk w11 p3_1 ([.int .i64 ((q + 1 : Nat) : Int), .int .i64 ((nn : Nat) : Int), .int .u32 ((ge : Nat) : Int)]) 28 := (f23.no k11)
            refine R_pu (pu_loadRow (len := 3) f29 (by kernel_rfl) (by kernel_rfl) rfl rfl) rfl ?_
            refine R_pu (pu_move rfl) rfl ?_
            refine R_lo (lo_call (by kernel_rfl) rfl (shamir_split_nil A l c ((q + 1 : Nat) : Int) ((nn : Nat) : Int) ge A2 d2 c2 _ (HB.keptNo kk11) hc (HB2.keptNo kk11) hc2 hge (by first | omega | (simp; done)) (by first | omega | (simp; done)))) rfl ?_
            rintro _ w12 ⟨rfl, k12⟩
            have kk12 := kk11.then_ k12
            refine R_pu (pu_move rfl) rfl ?_
            refine R_pu (pu_extract rfl rfl) rfl ?_
            refine R_pu (pu_extract rfl rfl) rfl ?_
            refine R_pu (pu_assign rfl) rfl ?_
            refine R_pu (pu_assign rfl) rfl ?_
            refine R_nil ?_
            refine X_then hK28 ?_
            refine C_seq (fun K30 hK30 => ?_)
            have f31 : Bk w12 p0_0 ([.int .i64 ((q + 1 : Nat) : Int), .int .i64 ((nn : Nat) : Int), .int .u32 ((ge : Nat) : Int)]) 25 := ((f22.no k11).no k12)
            have f32 : Bk w12 p3_1 ([.int .i64 ((q + 1 : Nat) : Int), .int .i64 ((nn : Nat) : Int), .int .u32 ((ge : Nat) : Int)]) 28 := (f29.no k12)
            have o33 : Gt w12 := ((o24.no k11).no k12)
            have o34 : Tb w12 b4_0 := ((T10.no k11).no k12)
            have ob35 := ((Q10.keptNo k11).keptNo k12)
            have ob36 := (Q11.keptNo k12)
            refine D_begin (fun W => Kp No w W ∧ Bk W p0_0 ([.int .i64 ((q + 1 : Nat) : Int), .int .i64 ((nn : Nat) : Int), .int .u32 ((ge : Nat) : Int)]) 25 ∧ Bk W p3_1 ([.int .i64 ((q + 1 : Nat) : Int), .int .i64 ((nn : Nat) : Int), .int .u32 ((ge : Nat) : Int)]) 28 ∧ Gt W ∧ Tb W b4_0 ∧ Sw 50 w9.heap.size W w9.heap.size (.slice A_sa ((L_sa).length) (c_sa)) (L_sa) ∧ Sw 56 w10.heap.size W w10.heap.size (.slice A_sb ((L_sb).length) (c_sb)) (L_sb)) 37 rfl (by kernel_rfl) ⟨kk12.drew, f31.draw, f32.draw, o33.draw, o34.draw, ob35.draw, ob36.draw⟩ ?_
            intro w13 k13 _
            have kk13 := kk12.then_ k13
            refine D_take 0 rfl (by kernel_rfl) (by kernel_rfl) (by kernel_rfl) (fun _ _ _ h => h) rfl (fun W hS => pu_move rfl) ?_
            refine D_take 1 rfl (by kernel_rfl) (by kernel_rfl) (by kernel_rfl) (fun _ _ _ h => h) rfl (fun W hS => pu_move rfl) ?_
            have ob37 := (ob35.keptNo k13)
            have ob38 := (ob36.keptNo k13)
            refine D_one 2 (by kernel_rfl) (Nx_lo rfl (lo_call (by kernel_rfl) rfl (are_shares A_sa L_sa c_sa A_sb L_sb c_sb _ ob37.ss ob38.ss (hK_sa.trans hK_sb.symm) (by first | omega | (simp; done)))) rfl ?_)
            rintro _ w14 ⟨rfl, k14⟩
            have kk14 := kk13.then_ k14
            have f39 : Bk w14 p0_0 ([.int .i64 ((q + 1 : Nat) : Int), .int .i64 ((nn : Nat) : Int), .int .u32 ((ge : Nat) : Int)]) 25 := ((f31.no k13).no k14)
            have f40 : Bk w14 p3_1 ([.int .i64 ((q + 1 : Nat) : Int), .int .i64 ((nn : Nat) : Int), .int .u32 ((ge : Nat) : Int)]) 28 := ((f32.no k13).no k14)
            have o41 : Gt w14 := ((o33.no k13).no k14)
            have o42 : Tb w14 b4_0 := ((o34.no k13).no k14)
            have ob43 := (ob37.keptNo k14)
            have ob44 := (ob38.keptNo k14)
            refine ⟨⟨kk14, f39, f40, o41, o42, ob43, ob44⟩, ?_⟩
            refine D_take 3 rfl (by kernel_rfl) (by kernel_rfl) (by kernel_rfl) (fun _ _ _ h => h) rfl (fun W hS => pu_move rfl) ?_
            refine D_gtake 4 rfl rfl rfl (by kernel_rfl) (by kernel_rfl) (by kernel_rfl) (fun _ _ _ h => h) rfl (fun W hS => pu_move rfl) ?_
            refine D_gtake 6 rfl rfl rfl (by kernel_rfl) (by kernel_rfl) (by kernel_rfl) (fun _ _ _ h => h) rfl (fun W hS => pu_move rfl) ?_
            refine D_one 5 (by kernel_rfl) (Nx_glo rfl rfl rfl (lo_call (by kernel_rfl) rfl (num03_nil _)) rfl ?_)
            rintro _ w15 ⟨rfl, k15⟩
            have kk15 := kk14.then_ k15
            have f45 : Bk w15 p0_0 ([.int .i64 ((q + 1 : Nat) : Int), .int .i64 ((nn : Nat) : Int), .int .u32 ((ge : Nat) : Int)]) 25 := (f39.no k15)
            have f46 : Bk w15 p3_1 ([.int .i64 ((q + 1 : Nat) : Int), .int .i64 ((nn : Nat) : Int), .int .u32 ((ge : Nat) : Int)]) 28 := (f40.no k15)
            have o47 : Gt w15 := (o41.no k15)
            have o48 : Tb w15 b4_0 := (o42.no k15)
            have ob49 := (ob43.keptNo k15)
            have ob50 := (ob44.keptNo k15)
            refine ⟨⟨kk15, f45, f46, o47, o48, ob49, ob50⟩, ?_⟩
            refine D_gtake 7 rfl rfl rfl (by kernel_rfl) (by kernel_rfl) (by kernel_rfl) (fun _ _ _ h => h) rfl (fun W hS => pu_true (pu_eql (p := (0 : Nat) = 0) rfl rfl (by omega)) (by decide)) ?_
            refine D_take 8 rfl (by kernel_rfl) (by kernel_rfl) (by kernel_rfl) (fun _ _ _ h => h) rfl (fun W hS => pu_pickt rfl rfl) ?_
            refine D_take 9 rfl (by kernel_rfl) (by kernel_rfl) (by kernel_rfl) (fun _ _ _ h => h) rfl (fun W hS => pu_move rfl) ?_
            refine D_gtake 10 rfl rfl rfl (by kernel_rfl) (by kernel_rfl) (by kernel_rfl) (fun _ _ _ h => h) rfl (fun W hS => pu_move rfl) ?_
            refine D_one 11 (by kernel_rfl) (Nx_glo rfl rfl rfl (lo_call (by kernel_rfl) rfl (num03_err 1 _ o47)) rfl ?_)
            rintro _ w16 ⟨rfl, k16⟩
            have kk16 := kk15.then_ k16
            have f51 : Bk w16 p0_0 ([.int .i64 ((q + 1 : Nat) : Int), .int .i64 ((nn : Nat) : Int), .int .u32 ((ge : Nat) : Int)]) 25 := (f45.no k16)
            have f52 : Bk w16 p3_1 ([.int .i64 ((q + 1 : Nat) : Int), .int .i64 ((nn : Nat) : Int), .int .u32 ((ge : Nat) : Int)]) 28 := (f46.no k16)
            have o53 : Gt w16 := (o47.no k16)
            have o54 : Tb w16 b4_0 := (o48.no k16)
            have ob55 := (ob49.keptNo k16)
            have ob56 := (ob50.keptNo k16)
            refine ⟨⟨kk16, f51, f52, o53, o54, ob55, ob56⟩, ?_⟩
            refine D_gtake 12 rfl rfl rfl (by kernel_rfl) (by kernel_rfl) (by kernel_rfl) (fun _ _ _ h => h) rfl (fun W hS => pu_true (pu_eql (p := (1 : Nat) = 1) rfl rfl (by omega)) (by decide)) ?_
            refine D_take 13 rfl (by kernel_rfl) (by kernel_rfl) (by kernel_rfl) (fun _ _ _ h => h) rfl (fun W hS => pu_pickt rfl rfl) ?_
            refine D_take 14 rfl (by kernel_rfl) (by kernel_rfl) (by kernel_rfl) (fun _ _ _ h => h) rfl (fun W hS => pu_move rfl) ?_
            refine D_gtake 15 rfl rfl rfl (by kernel_rfl) (by kernel_rfl) (by kernel_rfl) (fun _ _ _ h => h) rfl (fun W hS => pu_loadRow (len := 3) hS.2.2.1 (by kernel_rfl) (by kernel_rfl) rfl rfl) ?_
            refine D_gtake 16 rfl rfl rfl (by kernel_rfl) (by kernel_rfl) (by kernel_rfl) (fun _ _ _ h => h) rfl (fun W hS => pu_move rfl) ?_
            refine D_gtake 17 rfl rfl rfl (by kernel_rfl) (by kernel_rfl) (by kernel_rfl) (fun _ _ _ h => h) rfl (fun W hS => pu_len Tryd.underlying22 rfl) ?_
            refine D_gtake 19 rfl rfl rfl (by kernel_rfl) (by kernel_rfl) (by kernel_rfl) (fun _ _ _ h => h) rfl (fun W hS => pu_loadRow (len := 3) hS.2.1 (by kernel_rfl) (by kernel_rfl) rfl rfl) ?_
            refine D_gtake 20 rfl rfl rfl (by kernel_rfl) (by kernel_rfl) (by kernel_rfl) (fun _ _ _ h => h) rfl (fun W hS => pu_move rfl) ?_
            refine D_gtake 21 rfl rfl rfl (by kernel_rfl) (by kernel_rfl) (by kernel_rfl) (fun _ _ _ h => h) rfl (fun W hS => pu_len Tryd.underlying22 rfl) ?_
            refine D_one 18 (by kernel_rfl) (Nx_glo rfl rfl rfl (lo_call (by kernel_rfl) rfl (shamir_draws_yes q nn ge l.length _ hP hl)) rfl ?_)
            rintro _ w17 ⟨rfl, k17⟩
            have kk17 := kk16.then_ k17
            have f57 : Bk w17 p0_0 ([.int .i64 ((q + 1 : Nat) : Int), .int .i64 ((nn : Nat) : Int), .int .u32 ((ge : Nat) : Int)]) 25 := (f51.no k17)
            have f58 : Bk w17 p3_1 ([.int .i64 ((q + 1 : Nat) : Int), .int .i64 ((nn : Nat) : Int), .int .u32 ((ge : Nat) : Int)]) 28 := (f52.no k17)
            have o59 : Gt w17 := (o53.no k17)
            have o60 : Tb w17 b4_0 := (o54.no k17)
            have ob61 := (ob55.keptNo k17)
            have ob62 := (ob56.keptNo k17)
            refine ⟨⟨kk17, f57, f58, o59, o60, ob61, ob62⟩, ?_⟩
            refine D_one 22 (by kernel_rfl) (Nx_glo rfl rfl rfl (lo_call (by kernel_rfl) rfl (ref03_draws_yes q nn ge l.length _ hP hl)) rfl ?_)
            rintro _ w18 ⟨rfl, k18⟩
            have kk18 := kk17.then_ k18
            have f63 : Bk w18 p0_0 ([.int .i64 ((q + 1 : Nat) : Int), .int .i64 ((nn : Nat) : Int), .int .u32 ((ge : Nat) : Int)]) 25 := (f57.no k18)
            have f64 : Bk w18 p3_1 ([.int .i64 ((q + 1 : Nat) : Int), .int .i64 ((nn : Nat) : Int), .int .u32 ((ge : Nat) : Int)]) 28 := (f58.no k18)
            have o65 : Gt w18 := (o59.no k18)
            have o66 : Tb w18 b4_0 := (o60.no k18)
            have ob67 := (ob61.keptNo k18)
            have ob68 := (ob62.keptNo k18)
            refine ⟨⟨kk18, f63, f64, o65, o66, ob67, ob68⟩, ?_⟩
            refine D_gtake 23 rfl rfl rfl (by kernel_rfl) (by kernel_rfl) (by kernel_rfl) (fun _ _ _ h => h) rfl (fun W hS => pu_true (pu_eql (p := (q * l.length) = (q * l.length)) rfl rfl (by omega)) rfl) ?_
            refine D_take 24 rfl (by kernel_rfl) (by kernel_rfl) (by kernel_rfl) (fun _ _ _ h => h) rfl (fun W hS => pu_pickt rfl rfl) ?_
            refine D_take 25 rfl (by kernel_rfl) (by kernel_rfl) (by kernel_rfl) (fun _ _ _ h => h) rfl (fun W hS => pu_move rfl) ?_
            refine D_gtake 26 rfl rfl rfl (by kernel_rfl) (by kernel_rfl) (by kernel_rfl) (fun _ _ _ h => h) rfl (fun W hS => pu_loadRow (len := 3) hS.2.2.1 (by kernel_rfl) (by kernel_rfl) rfl rfl) ?_
            refine D_gtake 29 rfl rfl rfl (by kernel_rfl) (by kernel_rfl) (by kernel_rfl) (fun _ _ _ h => h) rfl (fun W hS => pu_loadRow (len := 3) hS.2.1 (by kernel_rfl) (by kernel_rfl) rfl rfl) ?_
            refine D_one 27 (by kernel_rfl) (Nx_glo rfl rfl rfl (lo_call (by kernel_rfl) rfl (shamir_check_yes q nn ge _ hP)) rfl ?_)
            rintro _ w19 ⟨rfl, k19⟩
            have kk19 := kk18.then_ k19
            have f69 : Bk w19 p0_0 ([.int .i64 ((q + 1 : Nat) : Int), .int .i64 ((nn : Nat) : Int), .int .u32 ((ge : Nat) : Int)]) 25 := (f63.no k19)
            have f70 : Bk w19 p3_1 ([.int .i64 ((q + 1 : Nat) : Int), .int .i64 ((nn : Nat) : Int), .int .u32 ((ge : Nat) : Int)]) 28 := (f64.no k19)
            have o71 : Gt w19 := (o65.no k19)
            have o72 : Tb w19 b4_0 := (o66.no k19)
            have ob73 := (ob67.keptNo k19)
            have ob74 := (ob68.keptNo k19)
            refine ⟨⟨kk19, f69, f70, o71, o72, ob73, ob74⟩, ?_⟩
            refine D_gtake 28 rfl rfl rfl (by kernel_rfl) (by kernel_rfl) (by kernel_rfl) (fun _ _ _ h => h) rfl (fun W hS => pu_eqlnn (by kernel_rfl) rfl) ?_
            refine D_one 30 (by kernel_rfl) (Nx_glo rfl rfl rfl (lo_call (by kernel_rfl) rfl (ref03_may_yes q nn ge _ hP)) rfl ?_)
            rintro _ w20 ⟨rfl, k20⟩
            have kk20 := kk19.then_ k20
            have f75 : Bk w20 p0_0 ([.int .i64 ((q + 1 : Nat) : Int), .int .i64 ((nn : Nat) : Int), .int .u32 ((ge : Nat) : Int)]) 25 := (f69.no k20)
            have f76 : Bk w20 p3_1 ([.int .i64 ((q + 1 : Nat) : Int), .int .i64 ((nn : Nat) : Int), .int .u32 ((ge : Nat) : Int)]) 28 := (f70.no k20)
            have o77 : Gt w20 := (o71.no k20)
            have o78 : Tb w20 b4_0 := (o72.no k20)
            have ob79 := (ob73.keptNo k20)
            have ob80 := (ob74.keptNo k20)
            refine ⟨⟨kk20, f75, f76, o77, o78, ob79, ob80⟩, ?_⟩
            refine D_gtake 31 rfl rfl rfl (by kernel_rfl) (by kernel_rfl) (by kernel_rfl) (fun _ _ _ h => h) rfl (fun W hS => pu_eqlb Tryd.underlying4 rfl rfl) ?_
            refine D_take 32 rfl (by kernel_rfl) (by kernel_rfl) (by kernel_rfl) (fun _ _ _ h => h) rfl (fun W hS => pu_pickt rfl rfl) ?_
            refine D_take 33 rfl (by kernel_rfl) (by kernel_rfl) (by kernel_rfl) (fun _ _ _ h => h) rfl (fun W hS => pu_move rfl) ?_
            refine D_one 34 (by kernel_rfl) (Nx_glo rfl rfl rfl (lo_call (by kernel_rfl) rfl (sure03 _ o77)) rfl ?_)
            rintro _ w21 ⟨rfl, k21⟩
            have kk21 := kk20.then_ k21
            have f81 : Bk w21 p0_0 ([.int .i64 ((q + 1 : Nat) : Int), .int .i64 ((nn : Nat) : Int), .int .u32 ((ge : Nat) : Int)]) 25 := (f75.no k21)
            have f82 : Bk w21 p3_1 ([.int .i64 ((q + 1 : Nat) : Int), .int .i64 ((nn : Nat) : Int), .int .u32 ((ge : Nat) : Int)]) 28 := (f76.no k21)
            have o83 : Gt w21 := (o77.no k21)
            have o84 : Tb w21 b4_0 := (o78.no k21)
            have ob85 := (ob79.keptNo k21)
            have ob86 := (ob80.keptNo k21)
            refine ⟨⟨kk21, f81, f82, o83, o84, ob85, ob86⟩, ?_⟩
            refine D_take 35 rfl (by kernel_rfl) (by kernel_rfl) (by kernel_rfl) (fun _ _ _ h => h) rfl (fun W hS => pu_pickt rfl rfl) ?_
            refine D_take 36 rfl (by kernel_rfl) (by kernel_rfl) (by kernel_rfl) (fun _ _ _ h => h) rfl (fun W hS => pu_assign rfl) ?_
            refine D_done (by kernel_rfl) ?_
            refine X_then hK30 ?_
            refine C_ret ?_
            exact X_ret1 (.inl rfl) rfl rfl ⟨rfl, kk21⟩
          · have o87 : Gt w1 := (hG.no k1)
            refine R_lo (lo_alloc (L := [.int .i64 0, .int .i64 0, .int .u32 0]) (by kernel_rfl)) rfl ?_
            rintro _ w22 ⟨p3_1, rfl, N22⟩
            have k22 := N22.kp
            have kk22 := kk1.then_ k22
            have ne_p3_1_p0_0 : p3_1 ≠ p0_0 := Nat.ne_of_gt (Nat.lt_of_lt_of_le f_p0_0_1.lt N22.le)
            have ne_p3_1_0 : p3_1 ≠ 0 := Nat.ne_of_gt (Nat.lt_of_lt_of_le o87.lt N22.le)
            have f_p3_1_22 : Bk w22 p3_1 ([.int .i64 0, .int .i64 0, .int .u32 0]) 28 := N22.bk
            refine R_lo0 (lo_storeRow (C := [.int .i64 ((q + 1 : Nat) : Int), .int .i64 ((nn : Nat) : Int), .int .u32 ((ge : Nat) : Int)]) f_p3_1_22 (by kernel_rfl) rfl rfl (by intro u hu; simp at hu; rcases hu with rfl | rfl | rfl <;> rfl) rfl) ?_
            rintro _ w23 kf23
            obtain ⟨k23, f_p3_1_23⟩ := kf23
            replace f_p3_1_23 : Bk w23 p3_1 ([.int .i64 ((q + 1 : Nat) : Int), .int .i64 ((nn : Nat) : Int), .int .u32 ((ge : Nat) : Int)]) 28 := f_p3_1_23
            have kk23 := kk22.trans k23 (fun i hi => .inr (hi ▸ (Nat.le_trans kk1.size N22.le)))
            refine R_nil ?_
            refine X_then hK10 ?_
            refine C_seq (fun K88 hK88 => ?_)
            have f89 : Bk w23 p0_0 ([.int .i64 ((q + 1 : Nat) : Int), .int .i64 ((nn : Nat) : Int), .int .u32 ((ge : Nat) : Int)]) 25 := ((f_p0_0_1.no k22).on k23 (Ne.symm ne_p3_1_p0_0))
            have o90 : Gt w23 := ((o87.no k22).on k23 (Ne.symm ne_p3_1_0))
            refine D_begin (fun W => Kp No w W ∧ Bk W p0_0 ([.int .i64 ((q + 1 : Nat) : Int), .int .i64 ((nn : Nat) : Int), .int .u32 ((ge : Nat) : Int)]) 25 ∧ Bk W p3_1 ([.int .i64 ((q + 1 : Nat) : Int), .int .i64 ((nn : Nat) : Int), .int .u32 ((ge : Nat) : Int)]) 28 ∧ Gt W) 10 rfl (by kernel_rfl) ⟨kk23.drew, f89.draw, f_p3_1_23.draw, o90.draw⟩ ?_
            intro w24 k24 _
            have kk24 := kk23.then_ k24
            refine D_take 1 rfl (by kernel_rfl) (by kernel_rfl) (by kernel_rfl) (fun _ _ _ h => h) rfl (fun W hS => pu_move rfl) ?_
            refine D_take 2 rfl (by kernel_rfl) (by kernel_rfl) (by kernel_rfl) (fun _ _ _ h => h) rfl (fun W hS => pu_loadRow (len := 3) hS.2.2.1 (by kernel_rfl) (by kernel_rfl) rfl rfl) ?_
            refine D_take 3 rfl (by kernel_rfl) (by kernel_rfl) (by kernel_rfl) (fun _ _ _ h => h) rfl (fun W hS => pu_move rfl) ?_
            have f91 : Bk w24 p0_0 ([.int .i64 ((q + 1 : Nat) : Int), .int .i64 ((nn : Nat) : Int), .int .u32 ((ge : Nat) : Int)]) 25 := (f89.no k24)
            have f92 : Bk w24 p3_1 ([.int .i64 ((q + 1 : Nat) : Int), .int .i64 ((nn : Nat) : Int), .int .u32 ((ge : Nat) : Int)]) 28 := (f_p3_1_23.no k24)
            have o93 : Gt w24 := (o90.no k24)
            refine D_one 0 (by kernel_rfl) (Nx_lo rfl (lo_call (by kernel_rfl) rfl (gf_new _)) rfl ?_)
            rintro _ w25 ⟨b4_0, rfl, le25, T25, k25⟩
            have kk25 := kk24.then_ k25
            have ne_b4_0_p0_0 : b4_0 ≠ p0_0 := Nat.ne_of_gt (Nat.lt_of_lt_of_le f91.lt le25)
            have ne_b4_0_p3_1 : b4_0 ≠ p3_1 := Nat.ne_of_gt (Nat.lt_of_lt_of_le f92.lt le25)
            have ne_b4_0_0 : b4_0 ≠ 0 := Nat.ne_of_gt (Nat.lt_of_lt_of_le o93.lt le25)
            have f94 : Bk w25 p0_0 ([.int .i64 ((q + 1 : Nat) : Int), .int .i64 ((nn : Nat) : Int), .int .u32 ((ge : Nat) : Int)]) 25 := (f91.no k25)
            have f95 : Bk w25 p3_1 ([.int .i64 ((q + 1 : Nat) : Int), .int .i64 ((nn : Nat) : Int), .int .u32 ((ge : Nat) : Int)]) 28 := (f92.no k25)
            have o96 : Gt w25 := (o93.no k25)
            refine ⟨⟨kk25, f94, f95, o96⟩, ?_⟩
            refine D_one 4 (by kernel_rfl) (Nx_lo rfl (lo_call (by kernel_rfl) rfl (shamir_split_draws b4_0 A l c q nn ge A2 d2 c2 _ (HB.keptNo kk25) hc (HB2.keptNo kk25) hc2 hge (by first | omega | (simp; done)) (by first | omega | (simp; done)) hP hl hd)) rfl ?_)
            rintro _ w26 ⟨rfl, k26⟩
            have kk26 := kk25.then_ k26
            have f97 : Bk w26 p0_0 ([.int .i64 ((q + 1 : Nat) : Int), .int .i64 ((nn : Nat) : Int), .int .u32 ((ge : Nat) : Int)]) 25 := (f94.no k26)
            have f98 : Bk w26 p3_1 ([.int .i64 ((q + 1 : Nat) : Int), .int .i64 ((nn : Nat) : Int), .int .u32 ((ge : Nat) : Int)]) 28 := (f95.no k26)
            have o99 : Gt w26 := (o96.no k26)
            refine ⟨⟨kk26, f97, f98, o99⟩, ?_⟩
            refine D_take 5 rfl (by kernel_rfl) (by kernel_rfl) (by kernel_rfl) (fun _ _ _ h => h) rfl (fun W hS => pu_move rfl) ?_
            refine D_take 6 rfl (by kernel_rfl) (by kernel_rfl) (by kernel_rfl) (fun _ _ _ h => h) rfl (fun W hS => pu_extract rfl rfl) ?_
            refine D_take 7 rfl (by kernel_rfl) (by kernel_rfl) (by kernel_rfl) (fun _ _ _ h => h) rfl (fun W hS => pu_extract rfl rfl) ?_
            refine D_take 8 rfl (by kernel_rfl) (by kernel_rfl) (by kernel_rfl) (fun _ _ _ h => h) rfl (fun W hS => pu_assign rfl) ?_
            refine D_take 9 rfl (by kernel_rfl) (by kernel_rfl) (by kernel_rfl) (fun _ _ _ h => h) rfl (fun W hS => pu_assign rfl) ?_
            refine D_done (by kernel_rfl) ?_
            refine X_then hK88 ?_
            refine C_seq (fun K100 hK100 => ?_)
            refine C_region ?_
            refine R_pu (pu_move rfl) rfl ?_
            refine R_pu (pu_loadRow (len := 3) f97 (by kernel_rfl) (by kernel_rfl) rfl rfl) rfl ?_
            refine R_pu (pu_move rfl) rfl ?_
            refine R_lo (lo_call (by kernel_rfl) rfl (ref03_split_draws A l c q nn ge A2 d2 c2 _ (HB.keptNo kk26) hc (HB2.keptNo kk26) hc2 hge (by first | omega | (simp; done)) (by first | omega | (simp; done)) hP hl hd)) rfl ?_
            rintro _ w27 ⟨rfl, k27⟩
            have kk27 := kk26.then_ k27
            refine R_pu (pu_move rfl) rfl ?_
            refine R_pu (pu_extract rfl rfl) rfl ?_
            refine R_pu (pu_extract rfl rfl) rfl ?_
            refine R_pu (pu_assign rfl) rfl ?_
            refine R_pu (pu_assign rfl) rfl ?_
            refine R_nil ?_
            refine X_then hK100 ?_
            refine C_seq (fun K101 hK101 => ?_)
            refine C_region ?_
            refine R_pu (pu_move rfl) rfl ?_
            have f102 : Bk w27 p3_1 ([.int .i64 ((q + 1 : Nat) : Int), .int .i64 ((nn : Nat) : Int), .int .u32 ((ge : Nat) : Int)]) 28 := (f98.no k27)
            refine R_pu (pu_loadRow (len := 3) f102 (by kernel_rfl) (by kernel_rfl) rfl rfl) rfl ?_
            refine R_pu (pu_move rfl) rfl ?_
            refine R_lo (lo_call (by kernel_rfl) rfl (shamir_split_nil A l c ((q + 1 : Nat) : Int) ((nn : Nat) : Int) ge A2 d2 c2 _ (HB.keptNo kk27) hc (HB2.keptNo kk27) hc2 hge (by first | omega | (simp; done)) (by first | omega | (simp; done)))) rfl ?_
            rintro _ w28 ⟨rfl, k28⟩
            have kk28 := kk27.then_ k28
            refine R_pu (pu_move rfl) rfl ?_
            refine R_pu (pu_extract rfl rfl) rfl ?_
            refine R_pu (pu_extract rfl rfl) rfl ?_
            refine R_pu (pu_assign rfl) rfl ?_
            refine R_pu (pu_assign rfl) rfl ?_
            refine R_nil ?_
            refine X_then hK101 ?_
            refine C_seq (fun K103 hK103 => ?_)
            have f104 : Bk w28 p0_0 ([.int .i64 ((q + 1 : Nat) : Int), .int .i64 ((nn : Nat) : Int), .int .u32 ((ge : Nat) : Int)]) 25 := ((f97.no k27).no k28)
            have f105 : Bk w28 p3_1 ([.int .i64 ((q + 1 : Nat) : Int), .int .i64 ((nn : Nat) : Int), .int .u32 ((ge : Nat) : Int)]) 28 := (f102.no k28)
            have o106 : Gt w28 := ((o99.no k27).no k28)
            have o107 : Tb w28 b4_0 := (((T25.no k26).no k27).no k28)
            refine D_begin (fun W => Kp No w W ∧ Bk W p0_0 ([.int .i64 ((q + 1 : Nat) : Int), .int .i64 ((nn : Nat) : Int), .int .u32 ((ge : Nat) : Int)]) 25 ∧ Bk W p3_1 ([.int .i64 ((q + 1 : Nat) : Int), .int .i64 ((nn : Nat) : Int), .int .u32 ((ge : Nat) : Int)]) 28 ∧ Gt W ∧ Tb W b4_0) 37 rfl (by kernel_rfl) ⟨kk28.drew, f104.draw, f105.draw, o106.draw, o107.draw⟩ ?_
            intro w29 k29 _
            have kk29 := kk28.then_ k29
            refine D_take 0 rfl (by kernel_rfl) (by kernel_rfl) (by kernel_rfl) (fun _ _ _ h => h) rfl (fun W hS => pu_move rfl) ?_
            refine D_take 1 rfl (by kernel_rfl) (by kernel_rfl) (by kernel_rfl) (fun _ _ _ h => h) rfl (fun W hS => pu_move rfl) ?_
            refine D_one 2 (by kernel_rfl) (Nx_lo rfl (lo_call (by kernel_rfl) rfl (are_shares none ([] : List Shr) 0 none ([] : List Shr) 0 _ (Ss.nil _ none) (Ss.nil _ none) rfl (by first | omega | (simp; done)))) rfl ?_)
            rintro _ w30 ⟨rfl, k30⟩
            have kk30 := kk29.then_ k30
            have f108 : Bk w30 p0_0 ([.int .i64 ((q + 1 : Nat) : Int), .int .i64 ((nn : Nat) : Int), .int .u32 ((ge : Nat) : Int)]) 25 := ((f104.no k29).no k30)
            have f109 : Bk w30 p3_1 ([.int .i64 ((q + 1 : Nat) : Int), .int .i64 ((nn : Nat) : Int), .int .u32 ((ge : Nat) : Int)]) 28 := ((f105.no k29).no k30)
            have o110 : Gt w30 := ((o106.no k29).no k30)
            have o111 : Tb w30 b4_0 := ((o107.no k29).no k30)
            refine ⟨⟨kk30, f108, f109, o110, o111⟩, ?_⟩
            refine D_take 3 rfl (by kernel_rfl) (by kernel_rfl) (by kernel_rfl) (fun _ _ _ h => h) rfl (fun W hS => pu_move rfl) ?_
            refine D_gtake 4 rfl rfl rfl (by kernel_rfl) (by kernel_rfl) (by kernel_rfl) (fun _ _ _ h => h) rfl (fun W hS => pu_move rfl) ?_
            refine D_gtake 6 rfl rfl rfl (by kernel_rfl) (by kernel_rfl) (by kernel_rfl) (fun _ _ _ h => h) rfl (fun W hS => pu_move rfl) ?_
            refine D_one 5 (by kernel_rfl) (Nx_glo rfl rfl rfl (lo_call (by kernel_rfl) rfl (num03_err 1 _ o110)) rfl ?_)
            rintro _ w31 ⟨rfl, k31⟩
            have kk31 := kk30.then_ k31
            have f112 : Bk w31 p0_0 ([.int .i64 ((q + 1 : Nat) : Int), .int .i64 ((nn : Nat) : Int), .int .u32 ((ge : Nat) : Int)]) 25 := (f108.no k31)
            have f113 : Bk w31 p3_1 ([.int .i64 ((q + 1 : Nat) : Int), .int .i64 ((nn : Nat) : Int), .int .u32 ((ge : Nat) : Int)]) 28 := (f109.no k31)
            have o114 : Gt w31 := (o110.no k31)
            have o115 : Tb w31 b4_0 := (o111.no k31)
            refine ⟨⟨kk31, f112, f113, o114, o115⟩, ?_⟩
            refine D_gtake 7 rfl rfl rfl (by kernel_rfl) (by kernel_rfl) (by kernel_rfl) (fun _ _ _ h => h) rfl (fun W hS => pu_true (pu_eql (p := (1 : Nat) = 1) rfl rfl (by omega)) (by decide)) ?_
            refine D_take 8 rfl (by kernel_rfl) (by kernel_rfl) (by kernel_rfl) (fun _ _ _ h => h) rfl (fun W hS => pu_pickt rfl rfl) ?_
            refine D_take 9 rfl (by kernel_rfl) (by kernel_rfl) (by kernel_rfl) (fun _ _ _ h => h) rfl (fun W hS => pu_move rfl) ?_
            refine D_gtake 10 rfl rfl rfl (by kernel_rfl) (by kernel_rfl) (by kernel_rfl) (fun _ _ _ h => h) rfl (fun W hS => pu_move rfl) ?_
            refine D_one 11 (by kernel_rfl) (Nx_glo rfl rfl rfl (lo_call (by kernel_rfl) rfl (num03_err 1 _ o114)) rfl ?_)
            rintro _ w32 ⟨rfl, k32⟩
            have kk32 := kk31.then_ k32
            have f116 : Bk w32 p0_0 ([.int .i64 ((q + 1 : Nat) : Int), .int .i64 ((nn : Nat) : Int), .int .u32 ((ge : Nat) : Int)]) 25 := (f112.no k32)
            have f117 : Bk w32 p3_1 ([.int .i64 ((q + 1 : Nat) : Int), .int .i64 ((nn : Nat) : Int), .int .u32 ((ge : Nat) : Int)]) 28 := (f113.no k32)
            have o118 : Gt w32 := (o114.no k32)
            have o119 : Tb w32 b4_0 := (o115.no k32)
            refine ⟨⟨kk32, f116, f117, o118, o119⟩, ?_⟩
            refine D_gtake 12 rfl rfl rfl (by kernel_rfl) (by kernel_rfl) (by kernel_rfl) (fun _ _ _ h => h) rfl (fun W hS => pu_true (pu_eql (p := (1 : Nat) = 1) rfl rfl (by omega)) (by decide)) ?_
            refine D_take 13 rfl (by kernel_rfl) (by kernel_rfl) (by kernel_rfl) (fun _ _ _ h => h) rfl (fun W hS => pu_pickt rfl rfl) ?_
            refine D_take 14 rfl (by kernel_rfl) (by kernel_rfl) (by kernel_rfl) (fun _ _ _ h => h) rfl (fun W hS => pu_move rfl) ?_
            refine D_gtake 15 rfl rfl rfl (by kernel_rfl) (by kernel_rfl) (by kernel_rfl) (fun _ _ _ h => h) rfl (fun W hS => pu_loadRow (len := 3) hS.2.2.1 (by kernel_rfl) (by kernel_rfl) rfl rfl) ?_
            refine D_gtake 16 rfl rfl rfl (by kernel_rfl) (by kernel_rfl) (by kernel_rfl) (fun _ _ _ h => h) rfl (fun W hS => pu_move rfl) ?_
            refine D_gtake 17 rfl rfl rfl (by kernel_rfl) (by kernel_rfl) (by kernel_rfl) (fun _ _ _ h => h) rfl (fun W hS => pu_len Tryd.underlying22 rfl) ?_
            refine D_gtake 19 rfl rfl rfl (by kernel_rfl) (by kernel_rfl) (by kernel_rfl) (fun _ _ _ h => h) rfl (fun W hS => pu_loadRow (len := 3) hS.2.1 (by kernel_rfl) (by kernel_rfl) rfl rfl) ?_
            refine D_gtake 20 rfl rfl rfl (by kernel_rfl) (by kernel_rfl) (by kernel_rfl) (fun _ _ _ h => h) rfl (fun W hS => pu_move rfl) ?_
            refine D_gtake 21 rfl rfl rfl (by kernel_rfl) (by kernel_rfl) (by kernel_rfl) (fun _ _ _ h => h) rfl (fun W hS => pu_len Tryd.underlying22 rfl) ?_
            refine D_one 18 (by kernel_rfl) (Nx_glo rfl rfl rfl (lo_call (by kernel_rfl) rfl (shamir_draws_yes q nn ge l.length _ hP hl)) rfl ?_)
            rintro _ w33 ⟨rfl, k33⟩
            have kk33 := kk32.then_ k33
            have f120 : Bk w33 p0_0 ([.int .i64 ((q + 1 : Nat) : Int), .int .i64 ((nn : Nat) : Int), .int .u32 ((ge : Nat) : Int)]) 25 := (f116.no k33)
            have f121 : Bk w33 p3_1 ([.int .i64 ((q + 1 : Nat) : Int), .int .i64 ((nn : Nat) : Int), .int .u32 ((ge : Nat) : Int)]) 28 := (f117.no k33)
            have o122 : Gt w33 := (o118.no k33)
            have o123 : Tb w33 b4_0 := (o119.no k33)
            refine ⟨⟨kk33, f120, f121, o122, o123⟩, ?_⟩
            refine D_one 22 (by kernel_rfl) (Nx_glo rfl rfl rfl (lo_call (by kernel_rfl) rfl (ref03_draws_yes q nn ge l.length _ hP hl)) rfl ?_)
            rintro _ w34 ⟨rfl, k34⟩
            have kk34 := kk33.then_ k34
            have f124 : Bk w34 p0_0 ([.int .i64 ((q + 1 : Nat) : Int), .int .i64 ((nn : Nat) : Int), .int .u32 ((ge : Nat) : Int)]) 25 := (f120.no k34)
            have f125 : Bk w34 p3_1 ([.int .i64 ((q + 1 : Nat) : Int), .int .i64 ((nn : Nat) : Int), .int .u32 ((ge : Nat) : Int)]) 28 := (f121.no k34)
            have o126 : Gt w34 := (o122.no k34)
            have o127 : Tb w34 b4_0 := (o123.no k34)
            refine ⟨⟨kk34, f124, f125, o126, o127⟩, ?_⟩
            refine D_gtake 23 rfl rfl rfl (by kernel_rfl) (by kernel_rfl) (by kernel_rfl) (fun _ _ _ h => h) rfl (fun W hS => pu_true (pu_eql (p := (q * l.length) = (q * l.length)) rfl rfl (by omega)) rfl) ?_
            refine D_take 24 rfl (by kernel_rfl) (by kernel_rfl) (by kernel_rfl) (fun _ _ _ h => h) rfl (fun W hS => pu_pickt rfl rfl) ?_
            refine D_take 25 rfl (by kernel_rfl) (by kernel_rfl) (by kernel_rfl) (fun _ _ _ h => h) rfl (fun W hS => pu_move rfl) ?_
            refine D_gtake 26 rfl rfl rfl (by kernel_rfl) (by kernel_rfl) (by kernel_rfl) (fun _ _ _ h => h) rfl (fun W hS => pu_loadRow (len := 3) hS.2.2.1 (by kernel_rfl) (by kernel_rfl) rfl rfl) ?_
            refine D_gtake 29 rfl rfl rfl (by kernel_rfl) (by kernel_rfl) (by kernel_rfl) (fun _ _ _ h => h) rfl (fun W hS => pu_loadRow (len := 3) hS.2.1 (by kernel_rfl) (by kernel_rfl) rfl rfl) ?_
            refine D_one 27 (by kernel_rfl) (Nx_glo rfl rfl rfl (lo_call (by kernel_rfl) rfl (shamir_check_yes q nn ge _ hP)) rfl ?_)
            rintro _ w35 ⟨rfl, k35⟩
            have kk35 := kk34.then_ k35
            have f128 : Bk w35 p0_0 ([.int .i64 ((q + 1 : Nat) : Int), .int .i64 ((nn : Nat) : Int), .int .u32 ((ge : Nat) : Int)]) 25 := (f124.no k35)
            have f129 : Bk w35 p3_1 ([.int .i64 ((q + 1 : Nat) : Int), .int .i64 ((nn : Nat) : Int), .int .u32 ((ge : Nat) : Int)]) 28 := (f125.no k35)
            have o130 : Gt w35 := (o126.no k35)
            have o131 : Tb w35 b4_0 := (o127.no k35)
            refine ⟨⟨kk35, f128, f129, o130, o131⟩, ?_⟩
            refine D_gtake 28 rfl rfl rfl (by kernel_rfl) (by kernel_rfl) (by kernel_rfl) (fun _ _ _ h => h) rfl (fun W hS => pu_eqlnn (by kernel_rfl) rfl) ?_
            refine D_one 30 (by kernel_rfl) (Nx_glo rfl rfl rfl (lo_call (by kernel_rfl) rfl (ref03_may_yes q nn ge _ hP)) rfl ?_)
            rintro _ w36 ⟨rfl, k36⟩
            have kk36 := kk35.then_ k36
            have f132 : Bk w36 p0_0 ([.int .i64 ((q + 1 : Nat) : Int), .int .i64 ((nn : Nat) : Int), .int .u32 ((ge : Nat) : Int)]) 25 := (f128.no k36)
            have f133 : Bk w36 p3_1 ([.int .i64 ((q + 1 : Nat) : Int), .int .i64 ((nn : Nat) : Int), .int .u32 ((ge : Nat) : Int)]) 28 := (f129.no k36)
            have o134 : Gt w36 := (o130.no k36)
            have o135 : Tb w36 b4_0 := (o131.no k36)
            refine ⟨⟨kk36, f132, f133, o134, o135⟩, ?_⟩
            refine D_gtake 31 rfl rfl rfl (by kernel_rfl) (by kernel_rfl) (by kernel_rfl) (fun _ _ _ h => h) rfl (fun W hS => pu_eqlb Tryd.underlying4 rfl rfl) ?_
            refine D_take 32 rfl (by kernel_rfl) (by kernel_rfl) (by kernel_rfl) (fun _ _ _ h => h) rfl (fun W hS => pu_pickt rfl rfl) ?_
            refine D_take 33 rfl (by kernel_rfl) (by kernel_rfl) (by kernel_rfl) (fun _ _ _ h => h) rfl (fun W hS => pu_move rfl) ?_
            refine D_one 34 (by kernel_rfl) (Nx_glo rfl rfl rfl (lo_call (by kernel_rfl) rfl (sure03 _ o134)) rfl ?_)
            rintro _ w37 ⟨rfl, k37⟩
            have kk37 := kk36.then_ k37
            have f136 : Bk w37 p0_0 ([.int .i64 ((q + 1 : Nat) : Int), .int .i64 ((nn : Nat) : Int), .int .u32 ((ge : Nat) : Int)]) 25 := (f132.no k37)
            have f137 : Bk w37 p3_1 ([.int .i64 ((q + 1 : Nat) : Int), .int .i64 ((nn : Nat) : Int), .int .u32 ((ge : Nat) : Int)]) 28 := (f133.no k37)
            have o138 : Gt w37 := (o134.no k37)
            have o139 : Tb w37 b4_0 := (o135.no k37)
            refine ⟨⟨kk37, f136, f137, o138, o139⟩, ?_⟩
            refine D_take 35 rfl (by kernel_rfl) (by kernel_rfl) (by kernel_rfl) (fun _ _ _ h => h) rfl (fun W hS => pu_pickt rfl rfl) ?_
            refine D_take 36 rfl (by kernel_rfl) (by kernel_rfl) (by kernel_rfl) (fun _ _ _ h => h) rfl (fun W hS => pu_assign rfl) ?_
            refine D_done (by kernel_rfl) ?_
            refine X_then hK103 ?_
            refine C_ret ?_
            exact X_ret1 (.inl rfl) rfl rfl ⟨rfl, kk37⟩
        · refine R_pu (pu_loadRow (len := 3) f_p0_0_1 (by kernel_rfl) (by kernel_rfl) rfl rfl) rfl ?_
          by_cases hd : d2.length = q * l.length
          · have o140 : Gt w1 := (hG.no k1)
            refine R_lo (lo_alloc (L := [.int .i64 0, .int .i64 0, .int .u32 0]) (by kernel_rfl)) rfl ?_
            rintro _ w38 ⟨p3_1, rfl, N38⟩
            have k38 := N38.kp
            have kk38 := kk1.then_ k38
            have ne_p3_1_p0_0 : p3_1 ≠ p0_0 := Nat.ne_of_gt (Nat.lt_of_lt_of_le f_p0_0_1.lt N38.le)
            have ne_p3_1_0 : p3_1 ≠ 0 := Nat.ne_of_gt (Nat.lt_of_lt_of_le o140.lt N38.le)
            have f_p3_1_38 : Bk w38 p3_1 ([.int .i64 0, .int .i64 0, .int .u32 0]) 28 := N38.bk
            refine R_lo0 (lo_storeRow (C := [.int .i64 ((q + 1 : Nat) : Int), .int .i64 ((nn : Nat) : Int), .int .u32 ((ge : Nat) : Int)]) f_p3_1_38 (by kernel_rfl) rfl rfl (by intro u hu; simp at hu; rcases hu with rfl | rfl | rfl <;> rfl) rfl) ?_
            rintro _ w39 kf39
            obtain ⟨k39, f_p3_1_39⟩ := kf39
            replace f_p3_1_39 : Bk w39 p3_1 ([.int .i64 ((q + 1 : Nat) : Int), .int .i64 ((nn : Nat) : Int), .int .u32 ((ge : Nat) : Int)]) 28 := f_p3_1_39
            have kk39 := kk38.trans k39 (fun i hi => .inr (hi ▸ (Nat.le_trans kk1.size N38.le)))
            refine R_nil ?_
            refine X_then hK10 ?_
            refine C_seq (fun K141 hK141 => ?_)
            have f142 : Bk w39 p0_0 ([.int .i64 ((q + 1 : Nat) : Int), .int .i64 ((nn : Nat) : Int), .int .u32 ((ge : Nat) : Int)]) 25 := ((f_p0_0_1.no k38).on k39 (Ne.symm ne_p3_1_p0_0))
            have o143 : Gt w39 := ((o140.no k38).on k39 (Ne.symm ne_p3_1_0))
            refine D_begin (fun W => Kp No w W ∧ Bk W p0_0 ([.int .i64 ((q + 1 : Nat) : Int), .int .i64 ((nn : Nat) : Int), .int .u32 ((ge : Nat) : Int)]) 25 ∧ Bk W p3_1 ([.int .i64 ((q + 1 : Nat) : Int), .int .i64 ((nn : Nat) : Int), .int .u32 ((ge : Nat) : Int)]) 28 ∧ Gt W) 10 rfl (by kernel_rfl) ⟨kk39.drew, f142.draw, f_p3_1_39.draw, o143.draw⟩ ?_
            intro w40 k40 _
            have kk40 := kk39.then_ k40
            refine D_take 1 rfl (by kernel_rfl) (by kernel_rfl) (by kernel_rfl) (fun _ _ _ h => h) rfl (fun W hS => pu_move rfl) ?_
            refine D_take 2 rfl (by kernel_rfl) (by kernel_rfl) (by kernel_rfl) (fun _ _ _ h => h) rfl (fun W hS => pu_loadRow (len := 3) hS.2.2.1 (by kernel_rfl) (by kernel_rfl) rfl rfl) ?_
            refine D_take 3 rfl (by kernel_rfl) (by kernel_rfl) (by kernel_rfl) (fun _ _ _ h => h) rfl (fun W hS => pu_move rfl) ?_
            have f144 : Bk w40 p0_0 ([.int .i64 ((q + 1 : Nat) : Int), .int .i64 ((nn : Nat) : Int), .int .u32 ((ge : Nat) : Int)]) 25 := (f142.no k40)
            have f145 : Bk w40 p3_1 ([.int .i64 ((q + 1 : Nat) : Int), .int .i64 ((nn : Nat) : Int), .int .u32 ((ge : Nat) : Int)]) 28 := (f_p3_1_39.no k40)
            have o146 : Gt w40 := (o143.no k40)
            refine D_one 0 (by kernel_rfl) (Nx_lo rfl (lo_call (by kernel_rfl) rfl (gf_new _)) rfl ?_)
            rintro _ w41 ⟨b4_0, rfl, le41, T41, k41⟩
            have kk41 := kk40.then_ k41
            have ne_b4_0_p0_0 : b4_0 ≠ p0_0 := Nat.ne_of_gt (Nat.lt_of_lt_of_le f144.lt le41)
            have ne_b4_0_p3_1 : b4_0 ≠ p3_1 := Nat.ne_of_gt (Nat.lt_of_lt_of_le f145.lt le41)
            have ne_b4_0_0 : b4_0 ≠ 0 := Nat.ne_of_gt (Nat.lt_of_lt_of_le o146.lt le41)
            have f147 : Bk w41 p0_0 ([.int .i64 ((q + 1 : Nat) : Int), .int .i64 ((nn : Nat) : Int), .int .u32 ((ge : Nat) : Int)]) 25 := (f144.no k41)
            have f148 : Bk w41 p3_1 ([.int .i64 ((q + 1 : Nat) : Int), .int .i64 ((nn : Nat) : Int), .int .u32 ((ge : Nat) : Int)]) 28 := (f145.no k41)
            have o149 : Gt w41 := (o146.no k41)
            refine ⟨⟨kk41, f147, f148, o149⟩, ?_⟩
            refine D_one 4 (by kernel_rfl) (Nx_lo rfl (lo_call (by kernel_rfl) rfl (shamir_split_size b4_0 A l c q nn ge A2 d2 c2 _ (HB.keptNo kk41) hc (HB2.keptNo kk41) hc2 hge (by first | omega | (simp; done)) (by first | omega | (simp; done)) hP hl)) rfl ?_)
            rintro _ w42 ⟨rfl, k42⟩
            have kk42 := kk41.then_ k42
            have f150 : Bk w42 p0_0 ([.int .i64 ((q + 1 : Nat) : Int), .int .i64 ((nn : Nat) : Int), .int .u32 ((ge : Nat) : Int)]) 25 := (f147.no k42)
            have f151 : Bk w42 p3_1 ([.int .i64 ((q + 1 : Nat) : Int), .int .i64 ((nn : Nat) : Int), .int .u32 ((ge : Nat) : Int)]) 28 := (f148.no k42)
            have o152 : Gt w42 := (o149.no k42)
            refine ⟨⟨kk42, f150, f151, o152⟩, ?_⟩
            refine D_take 5 rfl (by kernel_rfl) (by kernel_rfl) (by kernel_rfl) (fun _ _ _ h => h) rfl (fun W hS => pu_move rfl) ?_
            refine D_take 6 rfl (by kernel_rfl) (by kernel_rfl) (by kernel_rfl) (fun _ _ _ h => h) rfl (fun W hS => pu_extract rfl rfl) ?_
            refine D_take 7 rfl (by kernel_rfl) (by kernel_rfl) (by kernel_rfl) (fun _ _ _ h => h) rfl (fun W hS => pu_extract rfl rfl) ?_
            refine D_take 8 rfl (by kernel_rfl) (by kernel_rfl) (by kernel_rfl) (fun _ _ _ h => h) rfl (fun W hS => pu_assign rfl) ?_
            refine D_take 9 rfl (by kernel_rfl) (by kernel_rfl) (by kernel_rfl) (fun _ _ _ h => h) rfl (fun W hS => pu_assign rfl) ?_
            refine D_done (by kernel_rfl) ?_
            refine X_then hK141 ?_
            refine C_seq (fun K153 hK153 => ?_)
            refine C_region ?_
            refine R_pu (pu_move rfl) rfl ?_
            refine R_pu (pu_loadRow (len := 3) f150 (by kernel_rfl) (by kernel_rfl) rfl rfl) rfl ?_
            refine R_pu (pu_move rfl) rfl ?_
            refine R_lo (lo_call (by kernel_rfl) rfl (ref03_split_size A l c q nn ge A2 d2 c2 _ (HB.keptNo kk42) hc (HB2.keptNo kk42) hc2 hge (by first | omega | (simp; done)) (by first | omega | (simp; done)) hP hl)) rfl ?_
            rintro _ w43 ⟨rfl, k43⟩
            have kk43 := kk42.then_ k43
            refine R_pu (pu_move rfl) rfl ?_
            refine R_pu (pu_extract rfl rfl) rfl ?_
            refine R_pu (pu_extract rfl rfl) rfl ?_
            refine R_pu (pu_assign rfl) rfl ?_
            refine R_pu (pu_assign rfl) rfl ?_
            refine R_nil ?_
            refine X_then hK153 ?_
            refine C_seq (fun K154 hK154 => ?_)
            refine C_region ?_
            refine R_pu (pu_move rfl) rfl ?_
            have f155 : Bk w43 p3_1 ([.int .i64 ((q + 1 : Nat) : Int), .int .i64 ((nn : Nat) : Int), .int .u32 ((ge : Nat) : Int)]) 28 := (f151.no k43)
            refine R_pu (pu_loadRow (len := 3) f155 (by kernel_rfl) (by kernel_rfl) rfl rfl) rfl ?_
            refine R_pu (pu_move rfl) rfl ?_
            refine R_lo (lo_call (by kernel_rfl) rfl (shamir_split_nil A l c ((q + 1 : Nat) : Int) ((nn : Nat) : Int) ge A2 d2 c2 _ (HB.keptNo kk43) hc (HB2.keptNo kk43) hc2 hge (by first | omega | (simp; done)) (by first | omega | (simp; done)))) rfl ?_
            rintro _ w44 ⟨rfl, k44⟩
            have kk44 := kk43.then_ k44
            refine R_pu (pu_move rfl) rfl ?_
            refine R_pu (pu_extract rfl rfl) rfl ?_
            refine R_pu (pu_extract rfl rfl) rfl ?_
            refine R_pu (pu_assign rfl) rfl ?_
            refine R_pu (pu_assign rfl) rfl ?_
            refine R_nil ?_
            refine X_then hK154 ?_
            refine C_seq (fun K156 hK156 => ?_)
            have f157 : Bk w44 p0_0 ([.int .i64 ((q + 1 : Nat) : Int), .int .i64 ((nn : Nat) : Int), .int .u32 ((ge : Nat) : Int)]) 25 := ((f150.no k43).no k44)
            have f158 : Bk w44 p3_1 ([.int .i64 ((q + 1 : Nat) : Int), .int .i64 ((nn : Nat) : Int), .int .u32 ((ge : Nat) : Int)]) 28 := (f155.no k44)
            have o159 : Gt w44 := ((o152.no k43).no k44)
            have o160 : Tb w44 b4_0 := (((T41.no k42).no k43).no k44)
            refine D_begin (fun W => Kp No w W ∧ Bk W p0_0 ([.int .i64 ((q + 1 : Nat) : Int), .int .i64 ((nn : Nat) : Int), .int .u32 ((ge : Nat) : Int)]) 25 ∧ Bk W p3_1 ([.int .i64 ((q + 1 : Nat) : Int), .int .i64 ((nn : Nat) : Int), .int .u32 ((ge : Nat) : Int)]) 28 ∧ Gt W ∧ Tb W b4_0) 37 rfl (by kernel_rfl) ⟨kk44.drew, f157.draw, f158.draw, o159.draw, o160.draw⟩ ?_
            intro w45 k45 _
            have kk45 := kk44.then_ k45
            refine D_take 0 rfl (by kernel_rfl) (by kernel_rfl) (by kernel_rfl) (fun _ _ _ h => h) rfl (fun W hS => pu_move rfl) ?_
            refine D_take 1 rfl (by kernel_rfl) (by kernel_rfl) (by kernel_rfl) (fun _ _ _ h => h) rfl (fun W hS => pu_move rfl) ?_
            refine D_one 2 (by kernel_rfl) (Nx_lo rfl (lo_call (by kernel_rfl) rfl (are_shares none ([] : List Shr) 0 none ([] : List Shr) 0 _ (Ss.nil _ none) (Ss.nil _ none) rfl (by first | omega | (simp; done)))) rfl ?_)
            rintro _ w46 ⟨rfl, k46⟩
            have kk46 := kk45.then_ k46
            have f161 : Bk w46 p0_0 ([.int .i64 ((q + 1 : Nat) : Int), .int .i64 ((nn : Nat) : Int), .int .u32 ((ge : Nat) : Int)]) 25 := ((f157.no k45).no k46)
            have f162 : Bk w46 p3_1 ([.int .i64 ((q + 1 : Nat) : Int), .int .i64 ((nn : Nat) : Int), .int .u32 ((ge : Nat) : Int)]) 28 := ((f158.no k45).no k46)
            have o163 : Gt w46 := ((o159.no k45).no k46)
            have o164 : Tb w46 b4_0 := ((o160.no k45).no k46)
            refine ⟨⟨kk46, f161, f162, o163, o164⟩, ?_⟩
            refine D_take 3 rfl (by kernel_rfl) (by kernel_rfl) (by kernel_rfl) (fun _ _ _ h => h) rfl (fun W hS => pu_move rfl) ?_
            refine D_gtake 4 rfl rfl rfl (by kernel_rfl) (by kernel_rfl) (by kernel_rfl) (fun _ _ _ h => h) rfl (fun W hS => pu_move rfl) ?_
            refine D_gtake 6 rfl rfl rfl (by kernel_rfl) (by kernel_rfl) (by kernel_rfl) (fun _ _ _ h => h) rfl (fun W hS => pu_move rfl) ?_
            refine D_one 5 (by kernel_rfl) (Nx_glo rfl rfl rfl (lo_call (by kernel_rfl) rfl (num03_err 1 _ o163)) rfl ?_)
            rintro _ w47 ⟨rfl, k47⟩
            have kk47 := kk46.then_ k47
            have f165 : Bk w47 p0_0 ([.int .i64 ((q + 1 : Nat) : Int), .int .i64 ((nn : Nat) : Int), .int .u32 ((ge : Nat) : Int)]) 25 := (f161.no k47)
            have f166 : Bk w47 p3_1 ([.int .i64 ((q + 1 : Nat) : Int), .int .i64 ((nn : Nat) : Int), .int .u32 ((ge : Nat) : Int)]) 28 := (f162.no k47)
            have o167 : Gt w47 := (o163.no k47)
            have o168 : Tb w47 b4_0 := (o164.no k47)
            refine ⟨⟨kk47, f165, f166, o167, o168⟩, ?_⟩
            refine D_gtake 7 rfl rfl rfl (by kernel_rfl) (by kernel_rfl) (by kernel_rfl) (fun _ _ _ h => h) rfl (fun W hS => pu_true (pu_eql (p := (1 : Nat) = 1) rfl rfl (by omega)) (by decide)) ?_
            refine D_take 8 rfl (by kernel_rfl) (by kernel_rfl) (by kernel_rfl) (fun _ _ _ h => h) rfl (fun W hS => pu_pickt rfl rfl) ?_
            refine D_take 9 rfl (by kernel_rfl) (by kernel_rfl) (by kernel_rfl) (fun _ _ _ h => h) rfl (fun W hS => pu_move rfl) ?_
            refine D_gtake 10 rfl rfl rfl (by kernel_rfl) (by kernel_rfl) (by kernel_rfl) (fun _ _ _ h => h) rfl (fun W hS => pu_move rfl) ?_
            refine D_one 11 (by kernel_rfl) (Nx_glo rfl rfl rfl (lo_call (by kernel_rfl) rfl (num03_err 1 _ o167)) rfl ?_)
            rintro _ w48 ⟨rfl, k48⟩
            have kk48 := kk47.then_ k48
            have f169 : Bk w48 p0_0 ([.int .i64 ((q + 1 : Nat) : Int), .int .i64 ((nn : Nat) : Int), .int .u32 ((ge : Nat) : Int)]) 25 := (f165.no k48)
            have f170 : Bk w48 p3_1 ([.int .i64 ((q + 1 : Nat) : Int), .int .i64 ((nn : Nat) : Int), .int .u32 ((ge : Nat) : Int)]) 28 := (f166.no k48)
            have o171 : Gt w48 := (o167.no k48)
            have o172 : Tb w48 b4_0 := (o168.no k48)
            refine ⟨⟨kk48, f169, f170, o171, o172⟩, ?_⟩
            refine D_gtake 12 rfl rfl rfl (by kernel_rfl) (by kernel_rfl) (by kernel_rfl) (fun _ _ _ h => h) rfl (fun W hS => pu_true (pu_eql (p := (1 : Nat) = 1) rfl rfl (by omega)) (by decide)) ?_
            refine D_take 13 rfl (by kernel_rfl) (by kernel_rfl) (by kernel_rfl) (fun _ _ _ h => h) rfl (fun W hS => pu_pickt rfl rfl) ?_
            refine D_take 14 rfl (by kernel_rfl) (by kernel_rfl) (by kernel_rfl) (fun _ _ _ h => h) rfl (fun W hS => pu_move rfl) ?_
            refine D_gtake 15 rfl rfl rfl (by kernel_rfl) (by kernel_rfl) (by kernel_rfl) (fun _ _ _ h => h) rfl (fun W hS => pu_loadRow (len := 3) hS.2.2.1 (by kernel_rfl) (by kernel_rfl) rfl rfl) ?_
            refine D_gtake 16 rfl rfl rfl (by kernel_rfl) (by kernel_rfl) (by kernel_rfl) (fun _ _ _ h => h) rfl (fun W hS => pu_move rfl) ?_
            refine D_gtake 17 rfl rfl rfl (by kernel_rfl) (by kernel_rfl) (by kernel_rfl) (fun _ _ _ h => h) rfl (fun W hS => pu_len Tryd.underlying22 rfl) ?_
            refine D_gtake 19 rfl rfl rfl (by kernel_rfl) (by kernel_rfl) (by kernel_rfl) (fun _ _ _ h => h) rfl (fun W hS => pu_loadRow (len := 3) hS.2.1 (by kernel_rfl) (by kernel_rfl) rfl rfl) ?_
            refine D_gtake 20 rfl rfl rfl (by kernel_rfl) (by kernel_rfl) (by kernel_rfl) (fun _ _ _ h => h) rfl (fun W hS => pu_move rfl) ?_
            refine D_gtake 21 rfl rfl rfl (by kernel_rfl) (by kernel_rfl) (by kernel_rfl) (fun _ _ _ h => h) rfl (fun W hS => pu_len Tryd.underlying22 rfl) ?_
            refine D_one 18 (by kernel_rfl) (Nx_glo rfl rfl rfl (lo_call (by kernel_rfl) rfl (shamir_draws_size q nn ge l.length _ hP hl)) rfl ?_)
            rintro _ w49 ⟨rfl, k49⟩
            have kk49 := kk48.then_ k49
            have f173 : Bk w49 p0_0 ([.int .i64 ((q + 1 : Nat) : Int), .int .i64 ((nn : Nat) : Int), .int .u32 ((ge : Nat) : Int)]) 25 := (f169.no k49)
            have f174 : Bk w49 p3_1 ([.int .i64 ((q + 1 : Nat) : Int), .int .i64 ((nn : Nat) : Int), .int .u32 ((ge : Nat) : Int)]) 28 := (f170.no k49)
            have o175 : Gt w49 := (o171.no k49)
            have o176 : Tb w49 b4_0 := (o172.no k49)
            refine ⟨⟨kk49, f173, f174, o175, o176⟩, ?_⟩
            refine D_one 22 (by kernel_rfl) (Nx_glo rfl rfl rfl (lo_call (by kernel_rfl) rfl (ref03_draws_size q nn ge l.length _ hP hl)) rfl ?_)
            rintro _ w50 ⟨rfl, k50⟩
            have kk50 := kk49.then_ k50
            have f177 : Bk w50 p0_0 ([.int .i64 ((q + 1 : Nat) : Int), .int .i64 ((nn : Nat) : Int), .int .u32 ((ge : Nat) : Int)]) 25 := (f173.no k50)
            have f178 : Bk w50 p3_1 ([.int .i64 ((q + 1 : Nat) : Int), .int .i64 ((nn : Nat) : Int), .int .u32 ((ge : Nat) : Int)]) 28 := (f174.no k50)
            have o179 : Gt w50 := (o175.no k50)
            have o180 : Tb w50 b4_0 := (o176.no k50)
            refine ⟨⟨kk50, f177, f178, o179, o180⟩, ?_⟩
            refine D_gtake 23 rfl rfl rfl (by kernel_rfl) (by kernel_rfl) (by kernel_rfl) (fun _ _ _ h => h) rfl (fun W hS => pu_true (pu_eql (p := (0 : Nat) = 0) rfl rfl (by omega)) (by decide)) ?_
            refine D_take 24 rfl (by kernel_rfl) (by kernel_rfl) (by kernel_rfl) (fun _ _ _ h => h) rfl (fun W hS => pu_pickt rfl rfl) ?_
            refine D_take 25 rfl (by kernel_rfl) (by kernel_rfl) (by kernel_rfl) (fun _ _ _ h => h) rfl (fun W hS => pu_move rfl) ?_
            refine D_gtake 26 rfl rfl rfl (by kernel_rfl) (by kernel_rfl) (by kernel_rfl) (fun _ _ _ h => h) rfl (fun W hS => pu_loadRow (len := 3) hS.2.2.1 (by kernel_rfl) (by kernel_rfl) rfl rfl) ?_
            refine D_gtake 29 rfl rfl rfl (by kernel_rfl) (by kernel_rfl) (by kernel_rfl) (fun _ _ _ h => h) rfl (fun W hS => pu_loadRow (len := 3) hS.2.1 (by kernel_rfl) (by kernel_rfl) rfl rfl) ?_
            refine D_one 27 (by kernel_rfl) (Nx_glo rfl rfl rfl (lo_call (by kernel_rfl) rfl (shamir_check_yes q nn ge _ hP)) rfl ?_)
            rintro _ w51 ⟨rfl, k51⟩
            have kk51 := kk50.then_ k51
            have f181 : Bk w51 p0_0 ([.int .i64 ((q + 1 : Nat) : Int), .int .i64 ((nn : Nat) : Int), .int .u32 ((ge : Nat) : Int)]) 25 := (f177.no k51)
            have f182 : Bk w51 p3_1 ([.int .i64 ((q + 1 : Nat) : Int), .int .i64 ((nn : Nat) : Int), .int .u32 ((ge : Nat) : Int)]) 28 := (f178.no k51)
            have o183 : Gt w51 := (o179.no k51)
            have o184 : Tb w51 b4_0 := (o180.no k51)
            refine ⟨⟨kk51, f181, f182, o183, o184⟩, ?_⟩
            refine D_gtake 28 rfl rfl rfl (by kernel_rfl) (by kernel_rfl) (by kernel_rfl) (fun _ _ _ h => h) rfl (fun W hS => pu_eqlnn (by kernel_rfl) rfl) ?_
            refine D_one 30 (by kernel_rfl) (Nx_glo rfl rfl rfl (lo_call (by kernel_rfl) rfl (ref03_may_yes q nn ge _ hP)) rfl ?_)
            rintro _ w52 ⟨rfl, k52⟩
            have kk52 := kk51.then_ k52
            have f185 : Bk w52 p0_0 ([.int .i64 ((q + 1 : Nat) : Int), .int .i64 ((nn : Nat) : Int), .int .u32 ((ge : Nat) : Int)]) 25 := (f181.no k52)
            have f186 : Bk w52 p3_1 ([.int .i64 ((q + 1 : Nat) : Int), .int .i64 ((nn : Nat) : Int), .int .u32 ((ge : Nat) : Int)]) 28 := (f182.no k52)
            have o187 : Gt w52 := (o183.no k52)
            have o188 : Tb w52 b4_0 := (o184.no k52)
            refine ⟨⟨kk52, f185, f186, o187, o188⟩, ?_⟩
            refine D_gtake 31 rfl rfl rfl (by kernel_rfl) (by kernel_rfl) (by kernel_rfl) (fun _ _ _ h => h) rfl (fun W hS => pu_eqlb Tryd.underlying4 rfl rfl) ?_
            refine D_take 32 rfl (by kernel_rfl) (by kernel_rfl) (by kernel_rfl) (fun _ _ _ h => h) rfl (fun W hS => pu_pickt rfl rfl) ?_
            refine D_take 33 rfl (by kernel_rfl) (by kernel_rfl) (by kernel_rfl) (fun _ _ _ h => h) rfl (fun W hS => pu_move rfl) ?_
            refine D_one 34 (by kernel_rfl) (Nx_glo rfl rfl rfl (lo_call (by kernel_rfl) rfl (sure03 _ o187)) rfl ?_)
            rintro _ w53 ⟨rfl, k53⟩
            have kk53 := kk52.then_ k53
            have f189 : Bk w53 p0_0 ([.int .i64 ((q + 1 : Nat) : Int), .int .i64 ((nn : Nat) : Int), .int .u32 ((ge : Nat) : Int)]) 25 := (f185.no k53)
            have f190 : Bk w53 p3_1 ([.int .i64 ((q + 1 : Nat) : Int), .int .i64 ((nn : Nat) : Int), .int .u32 ((ge : Nat) : Int)]) 28 := (f186.no k53)
            have o191 : Gt w53 := (o187.no k53)
            have o192 : Tb w53 b4_0 := (o188.no k53)
            refine ⟨⟨kk53, f189, f190, o191, o192⟩, ?_⟩
            refine D_take 35 rfl (by kernel_rfl) (by kernel_rfl) (by kernel_rfl) (fun _ _ _ h => h) rfl (fun W hS => pu_pickt rfl rfl) ?_
            refine D_take 36 rfl (by kernel_rfl) (by kernel_rfl) (by kernel_rfl) (fun _ _ _ h => h) rfl (fun W hS => pu_assign rfl) ?_
            refine D_done (by kernel_rfl) ?_
            refine X_then hK156 ?_
            refine C_ret ?_
            exact X_ret1 (.inl rfl) rfl rfl ⟨rfl, kk53⟩
          · have o193 : Gt w1 := (hG.no k1)
            refine R_lo (lo_alloc (L := [.int .i64 0, .int .i64 0, .int .u32 0]) (by kernel_rfl)) rfl ?_
            rintro _ w54 ⟨p3_1, rfl, N54⟩
            have k54 := N54.kp
            have kk54 := kk1.then_ k54
            have ne_p3_1_p0_0 : p3_1 ≠ p0_0 := Nat.ne_of_gt (Nat.lt_of_lt_of_le f_p0_0_1.lt N54.le)
            have ne_p3_1_0 : p3_1 ≠ 0 := Nat.ne_of_gt (Nat.lt_of_lt_of_le o193.lt N54.le)
            have f_p3_1_54 : Bk w54 p3_1 ([.int .i64 0, .int .i64 0, .int .u32 0]) 28 := N54.bk
            refine R_lo0 (lo_storeRow (C := [.int .i64 ((q + 1 : Nat) : Int), .int .i64 ((nn : Nat) : Int), .int .u32 ((ge : Nat) : Int)]) f_p3_1_54 (by kernel_rfl) rfl rfl (by intro u hu; simp at hu; rcases hu with rfl | rfl | rfl <;> rfl) rfl) ?_
            rintro _ w55 kf55
            obtain ⟨k55, f_p3_1_55⟩ := kf55
            replace f_p3_1_55 : Bk w55 p3_1 ([.int .i64 ((q + 1 : Nat) : Int), .int .i64 ((nn : Nat) : Int), .int .u32 ((ge : Nat) : Int)]) 28 := f_p3_1_55
            have kk55 := kk54.trans k55 (fun i hi => .inr (hi ▸ (Nat.le_trans kk1.size N54.le)))
            refine R_nil ?_
            refine X_then hK10 ?_
            refine C_seq (fun K194 hK194 => ?_)
            have f195 : Bk w55 p0_0 ([.int .i64 ((q + 1 : Nat) : Int), .int .i64 ((nn : Nat) : Int), .int .u32 ((ge : Nat) : Int)]) 25 := ((f_p0_0_1.no k54).on k55 (Ne.symm ne_p3_1_p0_0))
            have o196 : Gt w55 := ((o193.no k54).on k55 (Ne.symm ne_p3_1_0))
            refine D_begin (fun W => Kp No w W ∧ Bk W p0_0 ([.int .i64 ((q + 1 : Nat) : Int), .int .i64 ((nn : Nat) : Int), .int .u32 ((ge : Nat) : Int)]) 25 ∧ Bk W p3_1 ([.int .i64 ((q + 1 : Nat) : Int), .int .i64 ((nn : Nat) : Int), .int .u32 ((ge : Nat) : Int)]) 28 ∧ Gt W) 10 rfl (by kernel_rfl) ⟨kk55.drew, f195.draw, f_p3_1_55.draw, o196.draw⟩ ?_
            intro w56 k56 _
            have kk56 := kk55.then_ k56
            refine D_take 1 rfl (by kernel_rfl) (by kernel_rfl) (by kernel_rfl) (fun _ _ _ h => h) rfl (fun W hS => pu_move rfl) ?_
            refine D_take 2 rfl (by kernel_rfl) (by kernel_rfl) (by kernel_rfl) (fun _ _ _ h => h) rfl (fun W hS => pu_loadRow (len := 3) hS.2.2.1 (by kernel_rfl) (by kernel_rfl) rfl rfl) ?_
            refine D_take 3 rfl (by kernel_rfl) (by kernel_rfl) (by kernel_rfl) (fun _ _ _ h => h) rfl (fun W hS => pu_move rfl) ?_
            have f197 : Bk w56 p0_0 ([.int .i64 ((q + 1 : Nat) : Int), .int .i64 ((nn : Nat) : Int), .int .u32 ((ge : Nat) : Int)]) 25 := (f195.no k56)
            have f198 : Bk w56 p3_1 ([.int .i64 ((q + 1 : Nat) : Int), .int .i64 ((nn : Nat) : Int), .int .u32 ((ge : Nat) : Int)]) 28 := (f_p3_1_55.no k56)
            have o199 : Gt w56 := (o196.no k56)
            refine D_one 0 (by kernel_rfl) (Nx_lo rfl (lo_call (by kernel_rfl) rfl (gf_new _)) rfl ?_)
            rintro _ w57 ⟨b4_0, rfl, le57, T57, k57⟩
            have kk57 := kk56.then_ k57
            have ne_b4_0_p0_0 : b4_0 ≠ p0_0 := Nat.ne_of_gt (Nat.lt_of_lt_of_le f197.lt le57)
            have ne_b4_0_p3_1 : b4_0 ≠ p3_1 := Nat.ne_of_gt (Nat.lt_of_lt_of_le f198.lt le57)
            have ne_b4_0_0 : b4_0 ≠ 0 := Nat.ne_of_gt (Nat.lt_of_lt_of_le o199.lt le57)
            have f200 : Bk w57 p0_0 ([.int .i64 ((q + 1 : Nat) : Int), .int .i64 ((nn : Nat) : Int), .int .u32 ((ge : Nat) : Int)]) 25 := (f197.no k57)
            have f201 : Bk w57 p3_1 ([.int .i64 ((q + 1 : Nat) : Int), .int .i64 ((nn : Nat) : Int), .int .u32 ((ge : Nat) : Int)]) 28 := (f198.no k57)
            have o202 : Gt w57 := (o199.no k57)
            refine ⟨⟨kk57, f200, f201, o202⟩, ?_⟩
            refine D_one 4 (by kernel_rfl) (Nx_lo rfl (lo_call (by kernel_rfl) rfl (shamir_split_size b4_0 A l c q nn ge A2 d2 c2 _ (HB.keptNo kk57) hc (HB2.keptNo kk57) hc2 hge (by first | omega | (simp; done)) (by first | omega | (simp; done)) hP hl)) rfl ?_)
            rintro _ w58 ⟨rfl, k58⟩
            have kk58 := kk57.then_ k58
            have f203 : Bk w58 p0_0 ([.int .i64 ((q + 1 : Nat) : Int), .int .i64 ((nn : Nat) : Int), .int .u32 ((ge : Nat) : Int)]) 25 := (f200.no k58)
            have f204 : Bk w58 p3_1 ([.int .i64 ((q + 1 : Nat) : Int), .int .i64 ((nn : Nat) : Int), .int .u32 ((ge : Nat) : Int)]) 28 := (f201.no k58)
            have o205 : Gt w58 := (o202.no k58)
            refine ⟨⟨kk58, f203, f204, o205⟩, ?_⟩
            refine D_take 5 rfl (by kernel_rfl) (by kernel_rfl) (by kernel_rfl) (fun _ _ _ h => h) rfl (fun W hS => pu_move rfl) ?_
            refine D_take 6 rfl (by kernel_rfl) (by kernel_rfl) (by kernel_rfl) (fun _ _ _ h => h) rfl (fun W hS => pu_extract rfl rfl) ?_
            refine D_take 7 rfl (by kernel_rfl) (by kernel_rfl) (by kernel_rfl) (fun _ _ _ h => h) rfl (fun W hS => pu_extract rfl rfl) ?_
            refine D_take 8 rfl (by kernel_rfl) (by kernel_rfl) (by kernel_rfl) (fun _ _ _ h => h) rfl (fun W hS => pu_assign rfl) ?_
            refine D_take 9 rfl (by kernel_rfl) (by kernel_rfl) (by kernel_rfl) (fun _ _ _ h => h) rfl (fun W hS => pu_assign rfl) ?_
            refine D_done (by kernel_rfl) ?_
            refine X_then hK194 ?_
            refine C_seq (fun K206 hK206 => ?_)
            refine C_region ?_
            refine R_pu (pu_move rfl) rfl ?_
            refine R_pu (pu_loadRow (len := 3) f203 (by kernel_rfl) (by kernel_rfl) rfl rfl) rfl ?_
            refine R_pu (pu_move rfl) rfl ?_
            refine R_lo (lo_call (by kernel_rfl) rfl (ref03_split_size A l c q nn ge A2 d2 c2 _ (HB.keptNo kk58) hc (HB2.keptNo kk58) hc2 hge (by first | omega | (simp; done)) (by first | omega | (simp; done)) hP hl)) rfl ?_
            rintro _ w59 ⟨rfl, k59⟩
            have kk59 := kk58.then_ k59
            refine R_pu (pu_move rfl) rfl ?_
            refine R_pu (pu_extract rfl rfl) rfl ?_
            refine R_pu (pu_extract rfl rfl) rfl ?_
            refine R_pu (pu_assign rfl) rfl ?_
            refine R_pu (pu_assign rfl) rfl ?_
            refine R_nil ?_
            refine X_then hK206 ?_
            refine C_seq (fun K207 hK207 => ?_)
            refine C_region ?_
            refine R_pu (pu_move rfl) rfl ?_
            have f208 : Bk w59 p3_1 ([.int .i64 ((q + 1 : Nat) : Int), .int .i64 ((nn : Nat) : Int), .int .u32 ((ge : Nat) : Int)]) 28 := (f204.no k59)
            refine R_pu (pu_loadRow (len := 3) f208 (by kernel_rfl) (by kernel_rfl) rfl rfl) rfl ?_
            refine R_pu (pu_move rfl) rfl ?_
            refine R_lo (lo_call (by kernel_rfl) rfl (shamir_split_nil A l c ((q + 1 : Nat) : Int) ((nn : Nat) : Int) ge A2 d2 c2 _ (HB.keptNo kk59) hc (HB2.keptNo kk59) hc2 hge (by first | omega | (simp; done)) (by first | omega | (simp; done)))) rfl ?_
            rintro _ w60 ⟨rfl, k60⟩
            have kk60 := kk59.then_ k60
            refine R_pu (pu_move rfl) rfl ?_
            refine R_pu (pu_extract rfl rfl) rfl ?_
            refine R_pu (pu_extract rfl rfl) rfl ?_
            refine R_pu (pu_assign rfl) rfl ?_
            refine R_pu (pu_assign rfl) rfl ?_
            refine R_nil ?_
            refine X_then hK207 ?_
            refine C_seq (fun K209 hK209 => ?_)
            have f210 : Bk w60 p0_0 ([.int .i64 ((q + 1 : Nat) : Int), .int .i64 ((nn : Nat) : Int), .int .u32 ((ge : Nat) : Int)]) 25 := ((f203.no k59).no k60)
            have f211 : Bk w60 p3_1 ([.int .i64 ((q + 1 : Nat) : Int), .int .i64 ((nn : Nat) : Int), .int .u32 ((ge : Nat) : Int)]) 28 := (f208.no k60)
            have o212 : Gt w60 := ((o205.no k59).no k60)
            have o213 : Tb w60 b4_0 := (((T57.no k58).no k59).no k60)
            refine D_begin (fun W => Kp No w W ∧ Bk W p0_0 ([.int .i64 ((q + 1 : Nat) : Int), .int .i64 ((nn : Nat) : Int), .int .u32 ((ge : Nat) : Int)]) 25 ∧ Bk W p3_1 ([.int .i64 ((q + 1 : Nat) : Int), .int .i64 ((nn : Nat) : Int), .int .u32 ((ge : Nat) : Int)]) 28 ∧ Gt W ∧ Tb W b4_0) 37 rfl (by kernel_rfl) ⟨kk60.drew, f210.draw, f211.draw, o212.draw, o213.draw⟩ ?_
            intro w61 k61 _
            have kk61 := kk60.then_ k61
            refine D_take 0 rfl (by kernel_rfl) (by kernel_rfl) (by kernel_rfl) (fun _ _ _ h => h) rfl (fun W hS => pu_move rfl) ?_
            refine D_take 1 rfl (by kernel_rfl) (by kernel_rfl) (by kernel_rfl) (fun _ _ _ h => h) rfl (fun W hS => pu_move rfl) ?_
            refine D_one 2 (by kernel_rfl) (Nx_lo rfl (lo_call (by kernel_rfl) rfl (are_shares none ([] : List Shr) 0 none ([] : List Shr) 0 _ (Ss.nil _ none) (Ss.nil _ none) rfl (by first | omega | (simp; done)))) rfl ?_)
            rintro _ w62 ⟨rfl, k62⟩
            have kk62 := kk61.then_ k62
            have f214 : Bk w62 p0_0 ([.int .i64 ((q + 1 : Nat) : Int), .int .i64 ((nn : Nat) : Int), .int .u32 ((ge : Nat) : Int)]) 25 := ((f210.no k61).no k62)
            have f215 : Bk w62 p3_1 ([.int .i64 ((q + 1 : Nat) : Int), .int .i64 ((nn : Nat) : Int), .int .u32 ((ge : Nat) : Int)]) 28 := ((f211.no k61).no k62)
            have o216 : Gt w62 := ((o212.no k61).no k62)
            have o217 : Tb w62 b4_0 := ((o213.no k61).no k62)
            refine ⟨⟨kk62, f214, f215, o216, o217⟩, ?_⟩
            refine D_take 3 rfl (by kernel_rfl) (by kernel_rfl) (by kernel_rfl) (fun _ _ _ h => h) rfl (fun W hS => pu_move rfl) ?_
            refine D_gtake 4 rfl rfl rfl (by kernel_rfl) (by kernel_rfl) (by kernel_rfl) (fun _ _ _ h => h) rfl (fun W hS => pu_move rfl) ?_
            refine D_gtake 6 rfl rfl rfl (by kernel_rfl) (by kernel_rfl) (by kernel_rfl) (fun _ _ _ h => h) rfl (fun W hS => pu_move rfl) ?_
            refine D_one 5 (by kernel_rfl) (Nx_glo rfl rfl rfl (lo_call (by kernel_rfl) rfl (num03_err 1 _ o216)) rfl ?_)
            rintro _ w63 ⟨rfl, k63⟩
            have kk63 := kk62.then_ k63
            have f218 : Bk w63 p0_0 ([.int .i64 ((q + 1 : Nat) : Int), .int .i64 ((nn : Nat) : Int), .int .u32 ((ge : Nat) : Int)]) 25 := (f214.no k63)
            have f219 : Bk w63 p3_1 ([.int .i64 ((q + 1 : Nat) : Int), .int .i64 ((nn : Nat) : Int), .int .u32 ((ge : Nat) : Int)]) 28 := (f215.no k63)
            have o220 : Gt w63 := (o216.no k63)
            have o221 : Tb w63 b4_0 := (o217.no k63)
            refine ⟨⟨kk63, f218, f219, o220, o221⟩, ?_⟩
            refine D_gtake 7 rfl rfl rfl (by kernel_rfl) (by kernel_rfl) (by kernel_rfl) (fun _ _ _ h => h) rfl (fun W hS => pu_true (pu_eql (p := (1 : Nat) = 1) rfl rfl (by omega)) (by decide)) ?_
            refine D_take 8 rfl (by kernel_rfl) (by kernel_rfl) (by kernel_rfl) (fun _ _ _ h => h) rfl (fun W hS => pu_pickt rfl rfl) ?_
            refine D_take 9 rfl (by kernel_rfl) (by kernel_rfl) (by kernel_rfl) (fun _ _ _ h => h) rfl (fun W hS => pu_move rfl) ?_
            refine D_gtake 10 rfl rfl rfl (by kernel_rfl) (by kernel_rfl) (by kernel_rfl) (fun _ _ _ h => h) rfl (fun W hS => pu_move rfl) ?_
            refine D_one 11 (by kernel_rfl) (Nx_glo rfl rfl rfl (lo_call (by kernel_rfl) rfl (num03_err 1 _ o220)) rfl ?_)
            rintro _ w64 ⟨rfl, k64⟩
            have kk64 := kk63.then_ k64
            have f222 : Bk w64 p0_0 ([.int .i64 ((q + 1 : Nat) : Int), .int .i64 ((nn : Nat) : Int), .int .u32 ((ge : Nat) : Int)]) 25 := (f218.no k64)
            have f223 : Bk w64 p3_1 ([.int .i64 ((q + 1 : Nat) : Int), .int .i64 ((nn : Nat) : Int), .int .u32 ((ge : Nat) : Int)]) 28 := (f219.no k64)
            have o224 : Gt w64 := (o220.no k64)
            have o225 : Tb w64 b4_0 := (o221.no k64)
            refine ⟨⟨kk64, f222, f223, o224, o225⟩, ?_⟩
            refine D_gtake 12 rfl rfl rfl (by kernel_rfl) (by kernel_rfl) (by kernel_rfl) (fun _ _ _ h => h) rfl (fun W hS => pu_true (pu_eql (p := (1 : Nat) = 1) rfl rfl (by omega)) (by decide)) ?_
            refine D_take 13 rfl (by kernel_rfl) (by kernel_rfl) (by kernel_rfl) (fun _ _ _ h => h) rfl (fun W hS => pu_pickt rfl rfl) ?_
            refine D_take 14 rfl (by kernel_rfl) (by kernel_rfl) (by kernel_rfl) (fun _ _ _ h => h) rfl (fun W hS => pu_move rfl) ?_
            refine D_gtake 15 rfl rfl rfl (by kernel_rfl) (by kernel_rfl) (by kernel_rfl) (fun _ _ _ h => h) rfl (fun W hS => pu_loadRow (len := 3) hS.2.2.1 (by kernel_rfl) (by kernel_rfl) rfl rfl) ?_
            refine D_gtake 16 rfl rfl rfl (by kernel_rfl) (by kernel_rfl) (by kernel_rfl) (fun _ _ _ h => h) rfl (fun W hS => pu_move rfl) ?_
            refine D_gtake 17 rfl rfl rfl (by kernel_rfl) (by kernel_rfl) (by kernel_rfl) (fun _ _ _ h => h) rfl (fun W hS => pu_len Tryd.underlying22 rfl) ?_
            refine D_gtake 19 rfl rfl rfl (by kernel_rfl) (by kernel_rfl) (by kernel_rfl) (fun _ _ _ h => h) rfl (fun W hS => pu_loadRow (len := 3) hS.2.1 (by kernel_rfl) (by kernel_rfl) rfl rfl) ?_
            refine D_gtake 20 rfl rfl rfl (by kernel_rfl) (by kernel_rfl) (by kernel_rfl) (fun _ _ _ h => h) rfl (fun W hS => pu_move rfl) ?_
            refine D_gtake 21 rfl rfl rfl (by kernel_rfl) (by kernel_rfl) (by kernel_rfl) (fun _ _ _ h => h) rfl (fun W hS => pu_len Tryd.underlying22 rfl) ?_
            refine D_one 18 (by kernel_rfl) (Nx_glo rfl rfl rfl (lo_call (by kernel_rfl) rfl (shamir_draws_size q nn ge l.length _ hP hl)) rfl ?_)
            rintro _ w65 ⟨rfl, k65⟩
            have kk65 := kk64.then_ k65
            have f226 : Bk w65 p0_0 ([.int .i64 ((q + 1 : Nat) : Int), .int .i64 ((nn : Nat) : Int), .int .u32 ((ge : Nat) : Int)]) 25 := (f222.no k65)
            have f227 : Bk w65 p3_1 ([.int .i64 ((q + 1 : Nat) : Int), .int .i64 ((nn : Nat) : Int), .int .u32 ((ge : Nat) : Int)]) 28 := (f223.no k65)
            have o228 : Gt w65 := (o224.no k65)
            have o229 : Tb w65 b4_0 := (o225.no k65)
            refine ⟨⟨kk65, f226, f227, o228, o229⟩, ?_⟩
            refine D_one 22 (by kernel_rfl) (Nx_glo rfl rfl rfl (lo_call (by kernel_rfl) rfl (ref03_draws_size q nn ge l.length _ hP hl)) rfl ?_)
            rintro _ w66 ⟨rfl, k66⟩
            have kk66 := kk65.then_ k66
            have f230 : Bk w66 p0_0 ([.int .i64 ((q + 1 : Nat) : Int), .int .i64 ((nn : Nat) : Int), .int .u32 ((ge : Nat) : Int)]) 25 := (f226.no k66)
            have f231 : Bk w66 p3_1 ([.int .i64 ((q + 1 : Nat) : Int), .int .i64 ((nn : Nat) : Int), .int .u32 ((ge : Nat) : Int)]) 28 := (f227.no k66)
            have o232 : Gt w66 := (o228.no k66)
            have o233 : Tb w66 b4_0 := (o229.no k66)
            refine ⟨⟨kk66, f230, f231, o232, o233⟩, ?_⟩
            refine D_gtake 23 rfl rfl rfl (by kernel_rfl) (by kernel_rfl) (by kernel_rfl) (fun _ _ _ h => h) rfl (fun W hS => pu_true (pu_eql (p := (0 : Nat) = 0) rfl rfl (by omega)) (by decide)) ?_
            refine D_take 24 rfl (by kernel_rfl) (by kernel_rfl) (by kernel_rfl) (fun _ _ _ h => h) rfl (fun W hS => pu_pickt rfl rfl) ?_
            refine D_take 25 rfl (by kernel_rfl) (by kernel_rfl) (by kernel_rfl) (fun _ _ _ h => h) rfl (fun W hS => pu_move rfl) ?_
            refine D_gtake 26 rfl rfl rfl (by kernel_rfl) (by kernel_rfl) (by kernel_rfl) (fun _ _ _ h => h) rfl (fun W hS => pu_loadRow (len := 3) hS.2.2.1 (by kernel_rfl) (by kernel_rfl) rfl rfl) ?_
            refine D_gtake 29 rfl rfl rfl (by kernel_rfl) (by kernel_rfl) (by kernel_rfl) (fun _ _ _ h => h) rfl (fun W hS => pu_loadRow (len := 3) hS.2.1 (by kernel_rfl) (by kernel_rfl) rfl rfl) ?_
            refine D_one 27 (by kernel_rfl) (Nx_glo rfl rfl rfl (lo_call (by kernel_rfl) rfl (shamir_check_yes q nn ge _ hP)) rfl ?_)
            rintro _ w67 ⟨rfl, k67⟩
            have kk67 := kk66.then_ k67
            have f234 : Bk w67 p0_0 ([.int .i64 ((q + 1 : Nat) : Int), .int .i64 ((nn : Nat) : Int), .int .u32 ((ge : Nat) : Int)]) 25 := (f230.no k67)
            have f235 : Bk w67 p3_1 ([.int .i64 ((q + 1 : Nat) : Int), .int .i64 ((nn : Nat) : Int), .int .u32 ((ge : Nat) : Int)]) 28 := (f231.no k67)
            have o236 : Gt w67 := (o232.no k67)
            have o237 : Tb w67 b4_0 := (o233.no k67)
            refine ⟨⟨kk67, f234, f235, o236, o237⟩, ?_⟩
            refine D_gtake 28 rfl rfl rfl (by kernel_rfl) (by kernel_rfl) (by kernel_rfl) (fun _ _ _ h => h) rfl (fun W hS => pu_eqlnn (by kernel_rfl) rfl) ?_
            refine D_one 30 (by kernel_rfl) (Nx_glo rfl rfl rfl (lo_call (by kernel_rfl) rfl (ref03_may_yes q nn ge _ hP)) rfl ?_)
            rintro _ w68 ⟨rfl, k68⟩
            have kk68 := kk67.then_ k68
            have f238 : Bk w68 p0_0 ([.int .i64 ((q + 1 : Nat) : Int), .int .i64 ((nn : Nat) : Int), .int .u32 ((ge : Nat) : Int)]) 25 := (f234.no k68)
            have f239 : Bk w68 p3_1 ([.int .i64 ((q + 1 : Nat) : Int), .int .i64 ((nn : Nat) : Int), .int .u32 ((ge : Nat) : Int)]) 28 := (f235.no k68)
            have o240 : Gt w68 := (o236.no k68)
            have o241 : Tb w68 b4_0 := (o237.no k68)
            refine ⟨⟨kk68, f238, f239, o240, o241⟩, ?_⟩
            refine D_gtake 31 rfl rfl rfl (by kernel_rfl) (by kernel_rfl) (by kernel_rfl) (fun _ _ _ h => h) rfl (fun W hS => pu_eqlb Tryd.underlying4 rfl rfl) ?_
            refine D_take 32 rfl (by kernel_rfl) (by kernel_rfl) (by kernel_rfl) (fun _ _ _ h => h) rfl (fun W hS => pu_pickt rfl rfl) ?_
            refine D_take 33 rfl (by kernel_rfl) (by kernel_rfl) (by kernel_rfl) (fun _ _ _ h => h) rfl (fun W hS => pu_move rfl) ?_
            refine D_one 34 (by kernel_rfl) (Nx_glo rfl rfl rfl (lo_call (by kernel_rfl) rfl (sure03 _ o240)) rfl ?_)
            rintro _ w69 ⟨rfl, k69⟩
            have kk69 := kk68.then_ k69
            have f242 : Bk w69 p0_0 ([.int .i64 ((q + 1 : Nat) : Int), .int .i64 ((nn : Nat) : Int), .int .u32 ((ge : Nat) : Int)]) 25 := (f238.no k69)
            have f243 : Bk w69 p3_1 ([.int .i64 ((q + 1 : Nat) : Int), .int .i64 ((nn : Nat) : Int), .int .u32 ((ge : Nat) : Int)]) 28 := (f239.no k69)
            have o244 : Gt w69 := (o240.no k69)
            have o245 : Tb w69 b4_0 := (o241.no k69)
            refine ⟨⟨kk69, f242, f243, o244, o245⟩, ?_⟩
            refine D_take 35 rfl (by kernel_rfl) (by kernel_rfl) (by kernel_rfl) (fun _ _ _ h => h) rfl (fun W hS => pu_pickt rfl rfl) ?_
            refine D_take 36 rfl (by kernel_rfl) (by kernel_rfl) (by kernel_rfl) (fun _ _ _ h => h) rfl (fun W hS => pu_assign rfl) ?_
            refine D_done (by kernel_rfl) ?_
            refine X_then hK209 ?_
            refine C_ret ?_
            exact X_ret1 (.inl rfl) rfl rfl ⟨rfl, kk69⟩
theorem shamirSplits_ (A : Option Addr) (l : List Nat) (c : Nat) (ka : Int) (hka : (Lit.int .i64 ka).wf = true) (nn : Int) (hnn : (Lit.int .i64 nn).wf = true) (ge : Nat) (hge : ge < 4294967296) (A2 : Option Addr) (d2 : List Nat) (c2 : Nat) (w : World) (HB : Bs w A l) (hc : l.length ≤ c) (HB2 : Bs w A2 d2) (hc2 : d2.length ≤ c2) (hG : Gt w) : Ret Tryd.prog 3 #[.slice A l.length c, .agg ([.int .i64 ka, .int .i64 nn, .int .u32 (ge : Int)] : List Value).toArray, .slice A2 d2.length c2] w (fun v w' => v = .bool true ∧ Kp No w w') := by
  by_cases hP : 2 ≤ ka ∧ ka ≤ nn ∧ nn ≤ 255
  · obtain ⟨q, rfl⟩ : ∃ q : Nat, ka = ((q + 1 : Nat) : Int) := ⟨(ka - 1).toNat, by omega⟩
    obtain ⟨n, rfl⟩ : ∃ n : Nat, nn = (n : Int) := ⟨nn.toNat, by omega⟩
    exact shamirSplits_yes A l c q n ge hge A2 d2 c2 w HB hc HB2 hc2 hG (by omega)
  · exact shamirSplits_no A l c ka nn ge hge A2 d2 c2 w HB hc HB2 hc2 hG hP
end Go.Proofs.YtjbdimfpjbmggaaDoor
