/- The bodies of bursarylaw11. -/
import Derived.Test.YtfoenaleboodpaaGreatDoorGc
import Derived.Test.YtfoenaleboodpaaGreatDoorAs
set_option linter.unusedVariables false
set_option linter.unusedSimpArgs false
namespace Go.Proofs.YtfoenaleboodpaaGreatDoor
open Go.RowKit Gm
set_option maxRecDepth 100000 in
set_option maxHeartbeats 2000000 in
theorem num11_nil  (w : World)  : Ret Tryz.prog 7 #[.nilIface] w (fun v w' => v = .int .i64 0 ∧ Kp No w w') := by
  have kk0 := Kp.refl No w
  refine enter (n := 10) [.nilIface] Tryz.func7 rfl rfl rfl ?_
  show Cw _ _ _ _ [(0, .nilIface)] _
  refine C_seq (fun K1 hK1 => ?_)
  refine C_region ?_
  refine R_pu (pu_assign rfl) rfl ?_
  refine R_nil ?_
  refine X_then hK1 ?_
  refine C_seq (fun K2 hK2 => ?_)
  refine C_region ?_
  refine R_lo (lo_alloc (L := [.int .i64 0]) (by kernel_rfl)) rfl ?_
  rintro _ w1 ⟨p1_0, rfl, N1⟩
  have k1 := N1.kp
  have kk1 := kk0.then_ k1
  have f_p1_0_1 : Bk w1 p1_0 ([.int .i64 0]) 48 := N1.bk
  refine R_nil ?_
  refine X_then hK2 ?_
  refine C_seq (fun K3 hK3 => ?_)
  refine C_seq (fun K4 hK4 => ?_)
  refine C_region ?_
  refine R_pu (pu_move rfl) rfl ?_
  refine R_pu (pu_eqlnn (by kernel_rfl) rfl) rfl ?_
  refine R_nil ?_
  refine X_then hK4 ?_
  refine C_true rfl ?_
  refine C_seq (fun K5 hK5 => ?_)
  refine C_region ?_
  refine R_pu (pu_assign rfl) rfl ?_
  refine R_nil ?_
  refine X_then hK5 ?_
  refine C_ret ?_
  refine X_then_ret ?_
  exact X_ret1 (.inl rfl) rfl rfl ⟨rfl, kk1⟩
set_option maxRecDepth 100000 in
set_option maxHeartbeats 2000000 in
theorem num11_err (e : Int) (w : World) (hG : Gt w) : Ret Tryz.prog 7 #[.iface 48 (.int .i64 (e))] w (fun v w' => v = .int .i64 e ∧ Kp No w w') := by
  have kk0 := Kp.refl No w
  refine enter (n := 10) [.iface 48 (.int .i64 (e))] Tryz.func7 rfl rfl rfl ?_
  show Cw _ _ _ _ [(0, .iface 48 (.int .i64 (e)))] _
  refine C_seq (fun K1 hK1 => ?_)
  refine C_region ?_
  refine R_pu (pu_assign rfl) rfl ?_
  refine R_nil ?_
  refine X_then hK1 ?_
  refine C_seq (fun K2 hK2 => ?_)
  refine C_region ?_
  refine R_lo (lo_alloc (L := [.int .i64 0]) (by kernel_rfl)) rfl ?_
  rintro _ w1 ⟨p1_0, rfl, N1⟩
  have k1 := N1.kp
  have kk1 := kk0.then_ k1
  have ne_p1_0_0 : p1_0 ≠ 0 := Nat.ne_of_gt (Nat.lt_of_lt_of_le hG.lt N1.le)
  have f_p1_0_1 : Bk w1 p1_0 ([.int .i64 0]) 48 := N1.bk
  refine R_nil ?_
  refine X_then hK2 ?_
  refine C_seq (fun K3 hK3 => ?_)
  refine C_seq (fun K4 hK4 => ?_)
  refine C_region ?_
  refine R_pu (pu_move rfl) rfl ?_
  refine R_pu (pu_eqlin (by kernel_rfl) rfl rfl) rfl ?_
  refine R_nil ?_
  refine X_then hK4 ?_
  refine C_false rfl ?_
  refine C_skip ?_
  refine X_then hK3 ?_
  refine C_seq (fun K5 hK5 => ?_)
  refine C_seq (fun K6 hK6 => ?_)
  refine C_region ?_
  refine R_pu (pu_move rfl) rfl ?_
  refine R_pu (pu_makeInterface Tryz.underlying53 rfl rfl) rfl ?_
  have o7 : Gt w1 := (hG.no k1)
  refine R_lo (lo_call (by kernel_rfl) rfl (as_ret e p1_0 _ _ o7 f_p1_0_1)) rfl ?_
  rintro _ w2 ⟨rfl, B2, k2⟩
  have kk2 := kk1.trans k2 (fun i hi => .inr (hi ▸ (Nat.le_trans kk0.size N1.le)))
  refine R_nil ?_
  refine X_then hK6 ?_
  refine C_true rfl ?_
  refine C_seq (fun K8 hK8 => ?_)
  refine C_region ?_
  refine R_pu (pu_loadK B2 (by kernel_rfl) rfl rfl) rfl ?_
  refine R_pu (pu_assign rfl) rfl ?_
  refine R_nil ?_
  refine X_then hK8 ?_
  refine C_ret ?_
  refine X_then_ret ?_
  exact X_ret1 (.inl rfl) rfl rfl ⟨rfl, kk2⟩
set_option maxRecDepth 100000 in
set_option maxHeartbeats 2000000 in
theorem sure11  (w : World) (hG : Gt w) : Ret Tryz.prog 4 #[] w (fun v w' => v = .bool true ∧ Kp No w w') := by
  have kk0 := Kp.refl No w
  refine enter (n := 53) [] Tryz.func4 rfl rfl rfl ?_
  show Cw _ _ _ _ [] _
  refine C_seq (fun K1 hK1 => ?_)
  refine C_region ?_
  refine R_pu (pu_assign rfl) rfl ?_
  refine R_nil ?_
  refine X_then hK1 ?_
  refine C_seq (fun K2 hK2 => ?_)
  refine C_region ?_
  refine R_lo (lo_make (z := .int .u8 0) (bytes := 1) (ln := 32) (cp := 32) Tryz.underlying22 (by kernel_rfl) rfl rfl rfl rfl rfl (by omega) (by omega) (by omega)) rfl ?_
  rintro _ w1 ⟨k0, rfl, N1⟩
  have k1 := N1.kp
  have kk1 := kk0.then_ k1
  have ne_k0_0 : k0 ≠ 0 := Nat.ne_of_gt (Nat.lt_of_lt_of_le hG.lt N1.le)
  have f_k0_1 : Bk w1 k0 (u8s (List.replicate 32 0)) 5 := by rw [u8s_rep]; exact N1.bk
  have o3 : Gt w1 := (hG.no k1)
  have bK_kp : By 32 (List.replicate 32 0) := ⟨(List.length_replicate ..), (rep_by 32).2⟩
  have wy_kb : Wy (KW (List.replicate 32 0)) := KW_wy bK_kp.2
  refine R_lo (lo_callE (by kernel_rfl) rfl (by rw [(rep_by 32).1] <;> rfl) (gcm_new (some ⟨k0, 0, none⟩) (List.replicate 32 0) 32 _ (Bs.ofBk f_k0_1 (rep_by 32)) (Nat.le_of_eq (rep_by 32).1) bK_kp.1)) rfl ?_
  rintro _ w2 ⟨kp, kb, kx, rfl, le2, lb2, lx2, n1_2, n2_2, n3_2, P2, B2, T2, k2⟩
  have kk2 := kk1.then_ k2
  have ne_kp_k0 : kp ≠ k0 := Nat.ne_of_gt (Nat.lt_of_lt_of_le f_k0_1.lt le2)
  have ne_kp_0 : kp ≠ 0 := Nat.ne_of_gt (Nat.lt_of_lt_of_le o3.lt le2)
  have ne_kb_k0 : kb ≠ k0 := Nat.ne_of_gt (Nat.lt_of_lt_of_le f_k0_1.lt lb2)
  have ne_kb_0 : kb ≠ 0 := Nat.ne_of_gt (Nat.lt_of_lt_of_le o3.lt lb2)
  have ne_kx_k0 : kx ≠ k0 := Nat.ne_of_gt (Nat.lt_of_lt_of_le f_k0_1.lt lx2)
  have ne_kx_0 : kx ≠ 0 := Nat.ne_of_gt (Nat.lt_of_lt_of_le o3.lt lx2)
  refine R_pu (pu_move rfl) rfl ?_
  refine R_pu (pu_extract rfl rfl) rfl ?_
  refine R_pu (pu_extract rfl rfl) rfl ?_
  refine R_pu (pu_assign rfl) rfl ?_
  refine R_pu (pu_assign rfl) rfl ?_
  refine R_nil ?_
  refine X_then hK2 ?_
  refine C_seq (fun K4 hK4 => ?_)
  have bN : By 12 (List.replicate 12 0) := rep_by 12
  refine C_region ?_
  refine R_pu (pu_move rfl) rfl ?_
  have f5 : Bk w2 k0 (u8s (List.replicate 32 0)) 5 := (f_k0_1.no k2)
  have o6 : Gt w2 := (o3.no k2)
  refine R_lo (lo_make (z := .int .u8 0) (bytes := 1) (ln := 12) (cp := 12) Tryz.underlying22 (by kernel_rfl) rfl rfl rfl rfl rfl (by omega) (by omega) (by omega)) rfl ?_
  rintro _ w3 ⟨n0, rfl, N3⟩
  have k3 := N3.kp
  have kk3 := kk2.then_ k3
  have ne_n0_k0 : n0 ≠ k0 := Nat.ne_of_gt (Nat.lt_of_lt_of_le f5.lt N3.le)
  have ne_n0_kp : n0 ≠ kp := Nat.ne_of_gt (Nat.lt_of_lt_of_le P2.lt N3.le)
  have ne_n0_kb : n0 ≠ kb := Nat.ne_of_gt (Nat.lt_of_lt_of_le B2.lt N3.le)
  have ne_n0_0 : n0 ≠ 0 := Nat.ne_of_gt (Nat.lt_of_lt_of_le o6.lt N3.le)
  have ne_n0_kx : n0 ≠ kx := Nat.ne_of_gt (Nat.lt_of_lt_of_le T2.lt N3.le)
  have f_n0_3 : Bk w3 n0 (u8s (List.replicate 12 0)) 5 := by rw [u8s_rep]; exact N3.bk
  have f7 : Bk w3 kp (gkL kb (gmH (List.replicate 32 0))) 59 := (P2.no k3)
  have f8 : Bk w3 kb (keyL kx (KW (List.replicate 32 0))) 88 := (B2.no k3)
  have o9 : Sx w3 kx := (T2.no k3)
  have f10 : Bk w3 k0 (u8s (List.replicate 32 0)) 5 := (f5.no k3)
  have o11 : Gt w3 := (o6.no k3)
  refine R_lo (lo_callE (by kernel_rfl) rfl (by rw [(rep_by 12).1] <;> rfl) (gcm_seal kp kb kx (List.replicate 32 0) (some ⟨n0, 0, none⟩) (List.replicate 12 0) 12 none ([]) 0 none ([]) 0 _ bK_kp n1_2 n2_2 n3_2 f7 f8 o9 bN (Bs.ofBk f_n0_3 (rep_by 12)) (Nat.le_of_eq (rep_by 12).1) (Aw.ofBk ne_n0_kx) (Bs.nil _ none) (Nat.le_refl _) (fun h => absurd rfl h) (Bs.nil _ none) (Nat.le_refl _) (fun h => absurd rfl h) ⟨by decide, by decide⟩)) rfl ?_
  rintro _ w4 ⟨A_se, c_se, rfl, Q4, T4, k4⟩
  have kk4 := kk3.trans k4 (fun i hi => .inr (hi ▸ (Nat.le_trans kk1.size lx2)))
  have z12 : w3.heap.size ≤ w4.heap.size := k4.size
  refine R_pu (pu_move rfl) rfl ?_
  refine R_pu (pu_extract rfl rfl) rfl ?_
  refine R_pu (pu_extract rfl rfl) rfl ?_
  refine R_pu (pu_assign rfl) rfl ?_
  refine R_pu (pu_assign rfl) rfl ?_
  refine R_nil ?_
  refine X_then hK4 ?_
  refine C_seq (fun K13 hK13 => ?_)
  have f14 : Bk w4 k0 (u8s (List.replicate 32 0)) 5 := (f10.on k4 (Ne.symm ne_kx_k0))
  have f15 : Bk w4 kp (gkL kb (gmH (List.replicate 32 0))) 59 := (f7.on k4 n2_2)
  have f16 : Bk w4 kb (keyL kx (KW (List.replicate 32 0))) 88 := (f8.on k4 n3_2)
  have f17 : Bk w4 n0 (u8s (List.replicate 12 0)) 5 := (f_n0_3.on k4 ne_n0_kx)
  have o18 : Gt w4 := (o11.on k4 (Ne.symm ne_kx_0))
  refine D_begin (fun W => Kp No w W ∧ Bk W k0 (u8s (List.replicate 32 0)) 5 ∧ Bk W kp (gkL kb (gmH (List.replicate 32 0))) 59 ∧ Bk W kb (keyL kx (KW (List.replicate 32 0))) 88 ∧ Bk W n0 (u8s (List.replicate 12 0)) 5 ∧ Gt W ∧ Sx W kx) 9 rfl (by kernel_rfl) ⟨kk4.drew, f14.draw, f15.draw, f16.draw, f17.draw, o18.draw, T4.draw⟩ ?_
  intro w5 k5 _
  have kk5 := kk4.then_ k5
  refine D_take 0 rfl (by kernel_rfl) (by kernel_rfl) (by kernel_rfl) (fun _ _ _ h => h) rfl (fun W hS => pu_move rfl) ?_
  refine D_two 1 2 (by kernel_rfl) ?_ ?_
  · have f19 : Bk w5 k0 (u8s (List.replicate 32 0)) 5 := (f14.no k5)
    have f20 : Bk w5 kp (gkL kb (gmH (List.replicate 32 0))) 59 := (f15.no k5)
    have f21 : Bk w5 kb (keyL kx (KW (List.replicate 32 0))) 88 := (f16.no k5)
    have f22 : Bk w5 n0 (u8s (List.replicate 12 0)) 5 := (f17.no k5)
    have o23 : Gt w5 := (o18.no k5)
    have o24 : Sx w5 kx := (T4.no k5)
    have ob25 := (Q4.keptNo k5)
    refine Nx_lo rfl (lo_make (z := .int .u8 0) (bytes := 1) (ln := 12) (cp := 12) Tryz.underlying22 (by kernel_rfl) rfl rfl rfl rfl rfl (by omega) (by omega) (by omega)) rfl ?_
    rintro _ w6 ⟨n1, rfl, N6⟩
    have k6 := N6.kp
    have kk6 := kk5.then_ k6
    have ne_n1_k0 : n1 ≠ k0 := Nat.ne_of_gt (Nat.lt_of_lt_of_le f19.lt N6.le)
    have ne_n1_kp : n1 ≠ kp := Nat.ne_of_gt (Nat.lt_of_lt_of_le f20.lt N6.le)
    have ne_n1_kb : n1 ≠ kb := Nat.ne_of_gt (Nat.lt_of_lt_of_le f21.lt N6.le)
    have ne_n1_n0 : n1 ≠ n0 := Nat.ne_of_gt (Nat.lt_of_lt_of_le f22.lt N6.le)
    have ne_n1_0 : n1 ≠ 0 := Nat.ne_of_gt (Nat.lt_of_lt_of_le o23.lt N6.le)
    have ne_n1_kx : n1 ≠ kx := Nat.ne_of_gt (Nat.lt_of_lt_of_le o24.lt N6.le)
    have f_n1_6 : Bk w6 n1 (u8s (List.replicate 12 0)) 5 := by rw [u8s_rep]; exact N6.bk
    have f26 : Bk w6 k0 (u8s (List.replicate 32 0)) 5 := (f19.no k6)
    have f27 : Bk w6 kp (gkL kb (gmH (List.replicate 32 0))) 59 := (f20.no k6)
    have f28 : Bk w6 kb (keyL kx (KW (List.replicate 32 0))) 88 := (f21.no k6)
    have f29 : Bk w6 n0 (u8s (List.replicate 12 0)) 5 := (f22.no k6)
    have o30 : Gt w6 := (o23.no k6)
    have o31 : Sx w6 kx := (o24.no k6)
    refine ⟨⟨kk6, f26, f27, f28, f29, o30, o31⟩, ?_⟩
    have ob32 := (ob25.keptNo k6)
    refine D_one 2 (by kernel_rfl) (Nx_lo rfl (lo_make (z := .int .u8 0) (bytes := 1) (ln := 15) (cp := 15) Tryz.underlying22 (by kernel_rfl) rfl rfl rfl rfl rfl (by omega) (by omega) (by omega)) rfl ?_)
    rintro _ w7 ⟨x0, rfl, N7⟩
    have k7 := N7.kp
    have kk7 := kk6.then_ k7
    have ne_x0_k0 : x0 ≠ k0 := Nat.ne_of_gt (Nat.lt_of_lt_of_le f26.lt N7.le)
    have ne_x0_kp : x0 ≠ kp := Nat.ne_of_gt (Nat.lt_of_lt_of_le f27.lt N7.le)
    have ne_x0_kb : x0 ≠ kb := Nat.ne_of_gt (Nat.lt_of_lt_of_le f28.lt N7.le)
    have ne_x0_n0 : x0 ≠ n0 := Nat.ne_of_gt (Nat.lt_of_lt_of_le f29.lt N7.le)
    have ne_x0_n1 : x0 ≠ n1 := Nat.ne_of_gt (Nat.lt_of_lt_of_le f_n1_6.lt N7.le)
    have ne_x0_0 : x0 ≠ 0 := Nat.ne_of_gt (Nat.lt_of_lt_of_le o30.lt N7.le)
    have ne_x0_kx : x0 ≠ kx := Nat.ne_of_gt (Nat.lt_of_lt_of_le o31.lt N7.le)
    have f_x0_7 : Bk w7 x0 (u8s (List.replicate 15 0)) 5 := by rw [u8s_rep]; exact N7.bk
    have f33 : Bk w7 k0 (u8s (List.replicate 32 0)) 5 := (f26.no k7)
    have f34 : Bk w7 kp (gkL kb (gmH (List.replicate 32 0))) 59 := (f27.no k7)
    have f35 : Bk w7 kb (keyL kx (KW (List.replicate 32 0))) 88 := (f28.no k7)
    have f36 : Bk w7 n0 (u8s (List.replicate 12 0)) 5 := (f29.no k7)
    have o37 : Gt w7 := (o30.no k7)
    have o38 : Sx w7 kx := (o31.no k7)
    refine ⟨⟨kk7, f33, f34, f35, f36, o37, o38⟩, ?_⟩
    have f39 : Bk w7 n1 (u8s (List.replicate 12 0)) 5 := (f_n1_6.no k7)
    refine D_one 3 (by kernel_rfl) (Nx_lo rfl (lo_callE (by kernel_rfl) rfl (by rw [(rep_by 12).1, (rep_by 15).1] <;> rfl) (gcm_open_short kp kb kx (List.replicate 32 0) (some ⟨n1, 0, none⟩) (List.replicate 12 0) 12 (some ⟨x0, 0, none⟩) (List.replicate 15 0) 15 none ([]) 0 _ bK_kp n1_2 n2_2 n3_2 f34 f35 o38 bN (Bs.ofBk f39 (rep_by 12)) (Nat.le_of_eq (rep_by 12).1) (Aw.ofBk ne_n1_kx) (Bs.ofBk f_x0_7 (rep_by 15)) (Nat.le_of_eq (rep_by 15).1) (Aw.ofBk ne_x0_kx) (Bs.nil _ none) (Nat.le_refl _) (fun h => absurd rfl h) ⟨by decide, by decide⟩ (by decide))) rfl ?_)
    rintro _ w8 ⟨rfl, T8, k8⟩
    have kk8 := kk7.trans k8 (fun i hi => .inr (hi ▸ (Nat.le_trans kk1.size lx2)))
    have f40 : Bk w8 k0 (u8s (List.replicate 32 0)) 5 := (f33.on k8 (Ne.symm ne_kx_k0))
    have f41 : Bk w8 kp (gkL kb (gmH (List.replicate 32 0))) 59 := (f34.on k8 n2_2)
    have f42 : Bk w8 kb (keyL kx (KW (List.replicate 32 0))) 88 := (f35.on k8 n3_2)
    have f43 : Bk w8 n0 (u8s (List.replicate 12 0)) 5 := (f36.on k8 ne_n0_kx)
    have o44 : Gt w8 := (o37.on k8 (Ne.symm ne_kx_0))
    refine ⟨⟨kk8, f40, f41, f42, f43, o44, T8⟩, ?_⟩
    refine D_take 4 rfl (by kernel_rfl) (by kernel_rfl) (by kernel_rfl) (fun _ _ _ h => h) rfl (fun W hS => pu_move rfl) ?_
    refine D_take 5 rfl (by kernel_rfl) (by kernel_rfl) (by kernel_rfl) (fun _ _ _ h => h) rfl (fun W hS => pu_extract rfl rfl) ?_
    refine D_take 6 rfl (by kernel_rfl) (by kernel_rfl) (by kernel_rfl) (fun _ _ _ h => h) rfl (fun W hS => pu_extract rfl rfl) ?_
    refine D_take 7 rfl (by kernel_rfl) (by kernel_rfl) (by kernel_rfl) (fun _ _ _ h => h) rfl (fun W hS => pu_assign rfl) ?_
    refine D_take 8 rfl (by kernel_rfl) (by kernel_rfl) (by kernel_rfl) (fun _ _ _ h => h) rfl (fun W hS => pu_assign rfl) ?_
    refine D_done (by kernel_rfl) ?_
    refine X_then hK13 ?_
    refine C_seq (fun K45 hK45 => ?_)
    have hls : (sealB (List.replicate 32 0) (List.replicate 12 0) [] []).length = 16 := by rw [seal0_eq]; rfl
    refine C_region ?_
    refine R_pu (pu_move rfl) rfl ?_
    refine R_pu (pu_eqlnn (by kernel_rfl) rfl) rfl ?_
    refine R_pu (pu_move rfl) rfl ?_
    refine R_gpu rfl rfl (pu_move rfl) rfl ?_
    refine R_gpu rfl rfl (pu_eqlnn (by kernel_rfl) rfl) rfl ?_
    refine R_pu (pu_pickt rfl rfl) rfl ?_
    refine R_pu (pu_move rfl) rfl ?_
    refine R_gpu rfl rfl (pu_move rfl) rfl ?_
    refine R_gpu rfl rfl (pu_len Tryz.underlying22 rfl) rfl ?_
    refine R_gpu rfl rfl (pu_true (pu_eql (p := ((sealB (List.replicate 32 0) (List.replicate 12 0) ([]) ([])).length) = 16) rfl rfl (by omega)) hls) rfl ?_
    refine R_pu (pu_pickt rfl rfl) rfl ?_
    refine R_pu (pu_move rfl) rfl ?_
    refine R_gpu rfl rfl (pu_move rfl) rfl ?_
    have ob46 := ((ob32.keptNo k7).on k8 (by have := o9.lt; omega))
    refine R_gpu rfl rfl (pu_indexAddrB (m := 0) ob46.bs Tryz.underlying22 (by kernel_rfl) rfl rfl rfl rfl (by rw [hls]; decide)) rfl ?_
    obtain ⟨y0, e_y0⟩ : ∃ q_, (sealB (List.replicate 32 0) (List.replicate 12 0) ([]) ([]))[0]? = some q_ := ⟨_, List.getElem?_eq_getElem (by rw [hls]; decide)⟩
    have b_y0 : y0 < 256 := ob46.byte _ (List.mem_of_getElem? e_y0)
    refine R_gpu rfl rfl (pu_loadB ob46.bs (by kernel_rfl) rfl e_y0) rfl ?_
    refine R_gpu rfl rfl (pu_true (pu_eql (p := y0 = 83) rfl rfl (by omega)) (by rw [seal0_eq] at e_y0; exact (Option.some.inj e_y0).symm)) rfl ?_
    refine R_pu (pu_pickt rfl rfl) rfl ?_
    refine R_pu (pu_move rfl) rfl ?_
    refine R_gpu rfl rfl (pu_move rfl) rfl ?_
    refine R_gpu rfl rfl (pu_indexAddrB (m := 15) ob46.bs Tryz.underlying22 (by kernel_rfl) rfl rfl rfl rfl (by rw [hls]; decide)) rfl ?_
    obtain ⟨y1, e_y1⟩ : ∃ q_, (sealB (List.replicate 32 0) (List.replicate 12 0) ([]) ([]))[15]? = some q_ := ⟨_, List.getElem?_eq_getElem (by rw [hls]; decide)⟩
    have b_y1 : y1 < 256 := ob46.byte _ (List.mem_of_getElem? e_y1)
    refine R_gpu rfl rfl (pu_loadB ob46.bs (by kernel_rfl) rfl e_y1) rfl ?_
    refine R_gpu rfl rfl (pu_true (pu_eql (p := y1 = 139) rfl rfl (by omega)) (by rw [seal0_eq] at e_y1; exact (Option.some.inj e_y1).symm)) rfl ?_
    refine R_pu (pu_pickt rfl rfl) rfl ?_
    refine R_pu (pu_move rfl) rfl ?_
    refine R_gpu rfl rfl (pu_move rfl) rfl ?_
    refine R_glo rfl rfl (lo_call (by kernel_rfl) rfl (num11_err 11 _ o44)) rfl ?_
    rintro _ w9 ⟨rfl, k9⟩
    have kk9 := kk8.then_ k9
    refine R_gpu rfl rfl (pu_true (pu_eql (p := (11 : Nat) = 11) rfl rfl (by omega)) (by decide)) rfl ?_
    refine R_pu (pu_pickt rfl rfl) rfl ?_
    refine R_pu (pu_assign rfl) rfl ?_
    refine R_nil ?_
    refine X_then hK45 ?_
    refine C_ret ?_
    exact X_ret1 (.inl rfl) rfl rfl ⟨rfl, kk9⟩
  · have f47 : Bk w5 k0 (u8s (List.replicate 32 0)) 5 := (f14.no k5)
    have f48 : Bk w5 kp (gkL kb (gmH (List.replicate 32 0))) 59 := (f15.no k5)
    have f49 : Bk w5 kb (keyL kx (KW (List.replicate 32 0))) 88 := (f16.no k5)
    have f50 : Bk w5 n0 (u8s (List.replicate 12 0)) 5 := (f17.no k5)
    have o51 : Gt w5 := (o18.no k5)
    have o52 : Sx w5 kx := (T4.no k5)
    have ob53 := (Q4.keptNo k5)
    refine Nx_lo rfl (lo_make (z := .int .u8 0) (bytes := 1) (ln := 15) (cp := 15) Tryz.underlying22 (by kernel_rfl) rfl rfl rfl rfl rfl (by omega) (by omega) (by omega)) rfl ?_
    rintro _ w10 ⟨x0, rfl, N10⟩
    have k10 := N10.kp
    have kk10 := kk5.then_ k10
    have ne_x0_k0 : x0 ≠ k0 := Nat.ne_of_gt (Nat.lt_of_lt_of_le f47.lt N10.le)
    have ne_x0_kp : x0 ≠ kp := Nat.ne_of_gt (Nat.lt_of_lt_of_le f48.lt N10.le)
    have ne_x0_kb : x0 ≠ kb := Nat.ne_of_gt (Nat.lt_of_lt_of_le f49.lt N10.le)
    have ne_x0_n0 : x0 ≠ n0 := Nat.ne_of_gt (Nat.lt_of_lt_of_le f50.lt N10.le)
    have ne_x0_0 : x0 ≠ 0 := Nat.ne_of_gt (Nat.lt_of_lt_of_le o51.lt N10.le)
    have ne_x0_kx : x0 ≠ kx := Nat.ne_of_gt (Nat.lt_of_lt_of_le o52.lt N10.le)
    have f_x0_10 : Bk w10 x0 (u8s (List.replicate 15 0)) 5 := by rw [u8s_rep]; exact N10.bk
    have f54 : Bk w10 k0 (u8s (List.replicate 32 0)) 5 := (f47.no k10)
    have f55 : Bk w10 kp (gkL kb (gmH (List.replicate 32 0))) 59 := (f48.no k10)
    have f56 : Bk w10 kb (keyL kx (KW (List.replicate 32 0))) 88 := (f49.no k10)
    have f57 : Bk w10 n0 (u8s (List.replicate 12 0)) 5 := (f50.no k10)
    have o58 : Gt w10 := (o51.no k10)
    have o59 : Sx w10 kx := (o52.no k10)
    refine ⟨⟨kk10, f54, f55, f56, f57, o58, o59⟩, ?_⟩
    have ob60 := (ob53.keptNo k10)
    refine D_one 1 (by kernel_rfl) (Nx_lo rfl (lo_make (z := .int .u8 0) (bytes := 1) (ln := 12) (cp := 12) Tryz.underlying22 (by kernel_rfl) rfl rfl rfl rfl rfl (by omega) (by omega) (by omega)) rfl ?_)
    rintro _ w11 ⟨n1, rfl, N11⟩
    have k11 := N11.kp
    have kk11 := kk10.then_ k11
    have ne_n1_k0 : n1 ≠ k0 := Nat.ne_of_gt (Nat.lt_of_lt_of_le f54.lt N11.le)
    have ne_n1_kp : n1 ≠ kp := Nat.ne_of_gt (Nat.lt_of_lt_of_le f55.lt N11.le)
    have ne_n1_kb : n1 ≠ kb := Nat.ne_of_gt (Nat.lt_of_lt_of_le f56.lt N11.le)
    have ne_n1_n0 : n1 ≠ n0 := Nat.ne_of_gt (Nat.lt_of_lt_of_le f57.lt N11.le)
    have ne_n1_x0 : n1 ≠ x0 := Nat.ne_of_gt (Nat.lt_of_lt_of_le f_x0_10.lt N11.le)
    have ne_n1_0 : n1 ≠ 0 := Nat.ne_of_gt (Nat.lt_of_lt_of_le o58.lt N11.le)
    have ne_n1_kx : n1 ≠ kx := Nat.ne_of_gt (Nat.lt_of_lt_of_le o59.lt N11.le)
    have f_n1_11 : Bk w11 n1 (u8s (List.replicate 12 0)) 5 := by rw [u8s_rep]; exact N11.bk
    have f61 : Bk w11 k0 (u8s (List.replicate 32 0)) 5 := (f54.no k11)
    have f62 : Bk w11 kp (gkL kb (gmH (List.replicate 32 0))) 59 := (f55.no k11)
    have f63 : Bk w11 kb (keyL kx (KW (List.replicate 32 0))) 88 := (f56.no k11)
    have f64 : Bk w11 n0 (u8s (List.replicate 12 0)) 5 := (f57.no k11)
    have o65 : Gt w11 := (o58.no k11)
    have o66 : Sx w11 kx := (o59.no k11)
    refine ⟨⟨kk11, f61, f62, f63, f64, o65, o66⟩, ?_⟩
    have f67 : Bk w11 x0 (u8s (List.replicate 15 0)) 5 := (f_x0_10.no k11)
    refine D_one 3 (by kernel_rfl) (Nx_lo rfl (lo_callE (by kernel_rfl) rfl (by rw [(rep_by 12).1, (rep_by 15).1] <;> rfl) (gcm_open_short kp kb kx (List.replicate 32 0) (some ⟨n1, 0, none⟩) (List.replicate 12 0) 12 (some ⟨x0, 0, none⟩) (List.replicate 15 0) 15 none ([]) 0 _ bK_kp n1_2 n2_2 n3_2 f62 f63 o66 bN (Bs.ofBk f_n1_11 (rep_by 12)) (Nat.le_of_eq (rep_by 12).1) (Aw.ofBk ne_n1_kx) (Bs.ofBk f67 (rep_by 15)) (Nat.le_of_eq (rep_by 15).1) (Aw.ofBk ne_x0_kx) (Bs.nil _ none) (Nat.le_refl _) (fun h => absurd rfl h) ⟨by decide, by decide⟩ (by decide))) rfl ?_)
    rintro _ w12 ⟨rfl, T12, k12⟩
    have kk12 := kk11.trans k12 (fun i hi => .inr (hi ▸ (Nat.le_trans kk1.size lx2)))
    have f68 : Bk w12 k0 (u8s (List.replicate 32 0)) 5 := (f61.on k12 (Ne.symm ne_kx_k0))
    have f69 : Bk w12 kp (gkL kb (gmH (List.replicate 32 0))) 59 := (f62.on k12 n2_2)
    have f70 : Bk w12 kb (keyL kx (KW (List.replicate 32 0))) 88 := (f63.on k12 n3_2)
    have f71 : Bk w12 n0 (u8s (List.replicate 12 0)) 5 := (f64.on k12 ne_n0_kx)
    have o72 : Gt w12 := (o65.on k12 (Ne.symm ne_kx_0))
    refine ⟨⟨kk12, f68, f69, f70, f71, o72, T12⟩, ?_⟩
    refine D_take 4 rfl (by kernel_rfl) (by kernel_rfl) (by kernel_rfl) (fun _ _ _ h => h) rfl (fun W hS => pu_move rfl) ?_
    refine D_take 5 rfl (by kernel_rfl) (by kernel_rfl) (by kernel_rfl) (fun _ _ _ h => h) rfl (fun W hS => pu_extract rfl rfl) ?_
    refine D_take 6 rfl (by kernel_rfl) (by kernel_rfl) (by kernel_rfl) (fun _ _ _ h => h) rfl (fun W hS => pu_extract rfl rfl) ?_
    refine D_take 7 rfl (by kernel_rfl) (by kernel_rfl) (by kernel_rfl) (fun _ _ _ h => h) rfl (fun W hS => pu_assign rfl) ?_
    refine D_take 8 rfl (by kernel_rfl) (by kernel_rfl) (by kernel_rfl) (fun _ _ _ h => h) rfl (fun W hS => pu_assign rfl) ?_
    refine D_done (by kernel_rfl) ?_
    refine X_then hK13 ?_
    refine C_seq (fun K73 hK73 => ?_)
    have hls : (sealB (List.replicate 32 0) (List.replicate 12 0) [] []).length = 16 := by rw [seal0_eq]; rfl
    refine C_region ?_
    refine R_pu (pu_move rfl) rfl ?_
    refine R_pu (pu_eqlnn (by kernel_rfl) rfl) rfl ?_
    refine R_pu (pu_move rfl) rfl ?_
    refine R_gpu rfl rfl (pu_move rfl) rfl ?_
    refine R_gpu rfl rfl (pu_eqlnn (by kernel_rfl) rfl) rfl ?_
    refine R_pu (pu_pickt rfl rfl) rfl ?_
    refine R_pu (pu_move rfl) rfl ?_
    refine R_gpu rfl rfl (pu_move rfl) rfl ?_
    refine R_gpu rfl rfl (pu_len Tryz.underlying22 rfl) rfl ?_
    refine R_gpu rfl rfl (pu_true (pu_eql (p := ((sealB (List.replicate 32 0) (List.replicate 12 0) ([]) ([])).length) = 16) rfl rfl (by omega)) hls) rfl ?_
    refine R_pu (pu_pickt rfl rfl) rfl ?_
    refine R_pu (pu_move rfl) rfl ?_
    refine R_gpu rfl rfl (pu_move rfl) rfl ?_
    have ob74 := ((ob60.keptNo k11).on k12 (by have := o9.lt; omega))
    refine R_gpu rfl rfl (pu_indexAddrB (m := 0) ob74.bs Tryz.underlying22 (by kernel_rfl) rfl rfl rfl rfl (by rw [hls]; decide)) rfl ?_
    obtain ⟨y0, e_y0⟩ : ∃ q_, (sealB (List.replicate 32 0) (List.replicate 12 0) ([]) ([]))[0]? = some q_ := ⟨_, List.getElem?_eq_getElem (by rw [hls]; decide)⟩
    have b_y0 : y0 < 256 := ob74.byte _ (List.mem_of_getElem? e_y0)
    refine R_gpu rfl rfl (pu_loadB ob74.bs (by kernel_rfl) rfl e_y0) rfl ?_
    refine R_gpu rfl rfl (pu_true (pu_eql (p := y0 = 83) rfl rfl (by omega)) (by rw [seal0_eq] at e_y0; exact (Option.some.inj e_y0).symm)) rfl ?_
    refine R_pu (pu_pickt rfl rfl) rfl ?_
    refine R_pu (pu_move rfl) rfl ?_
    refine R_gpu rfl rfl (pu_move rfl) rfl ?_
    refine R_gpu rfl rfl (pu_indexAddrB (m := 15) ob74.bs Tryz.underlying22 (by kernel_rfl) rfl rfl rfl rfl (by rw [hls]; decide)) rfl ?_
    obtain ⟨y1, e_y1⟩ : ∃ q_, (sealB (List.replicate 32 0) (List.replicate 12 0) ([]) ([]))[15]? = some q_ := ⟨_, List.getElem?_eq_getElem (by rw [hls]; decide)⟩
    have b_y1 : y1 < 256 := ob74.byte _ (List.mem_of_getElem? e_y1)
    refine R_gpu rfl rfl (pu_loadB ob74.bs (by kernel_rfl) rfl e_y1) rfl ?_
    refine R_gpu rfl rfl (pu_true (pu_eql (p := y1 = 139) rfl rfl (by omega)) (by rw [seal0_eq] at e_y1; exact (Option.some.inj e_y1).symm)) rfl ?_
    refine R_pu (pu_pickt rfl rfl) rfl ?_
    refine R_pu (pu_move rfl) rfl ?_
    refine R_gpu rfl rfl (pu_move rfl) rfl ?_
    refine R_glo rfl rfl (lo_call (by kernel_rfl) rfl (num11_err 11 _ o72)) rfl ?_
    rintro _ w13 ⟨rfl, k13⟩
    have kk13 := kk12.then_ k13
    refine R_gpu rfl rfl (pu_true (pu_eql (p := (11 : Nat) = 11) rfl rfl (by omega)) (by decide)) rfl ?_
    refine R_pu (pu_pickt rfl rfl) rfl ?_
    refine R_pu (pu_assign rfl) rfl ?_
    refine R_nil ?_
    refine X_then hK73 ?_
    refine C_ret ?_
    exact X_ret1 (.inl rfl) rfl rfl ⟨rfl, kk13⟩
end Go.Proofs.YtfoenaleboodpaaGreatDoor
