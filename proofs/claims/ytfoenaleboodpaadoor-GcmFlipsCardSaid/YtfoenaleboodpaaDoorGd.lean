/- The bodies of bursarylaw11. -/
import Derived.Test.YtfoenaleboodpaaDoorGc
import Derived.Test.YtfoenaleboodpaaDoorAs
set_option linter.unusedVariables false
set_option linter.unusedSimpArgs false
namespace Go.Proofs.YtfoenaleboodpaaDoor
open Go.RowKit Gm
set_option maxRecDepth 100000 in
set_option maxHeartbeats 2000000 in
theorem num09_nil  (w : World)  : Ret Tryd.prog 10 #[.nilIface] w (fun v w' => v = .int .i64 0 ∧ Kp No w w') := by
  have kk0 := Kp.refl No w
  refine enter (n := 10) [.nilIface] Tryd.func10 rfl rfl rfl ?_
  show Cw _ _ _ _ [(0, .nilIface)] _
  refine C_seq (fun K1 hK1 => ?_)
  refine C_region ?_
  refine R_pu (pu_assign rfl) rfl ?_
  refine R_nil ?_
  refine X_then hK1 ?_
  refine C_seq (fun K2 hK2 => ?_)
  refine C_region ?_
  refine R_lo (lo_alloc (L := [.int .i64 0]) (by kernel_rfl)) rfl ?_
  rintro _ w1 ⟨p1_0, rfl, N1⟩
  have k1 := N1.kp
  have kk1 := kk0.then_ k1
  have f_p1_0_1 : Bk w1 p1_0 ([.int .i64 0]) 62 := N1.bk
  refine R_nil ?_
  refine X_then hK2 ?_
  refine C_seq (fun K3 hK3 => ?_)
  refine C_seq (fun K4 hK4 => ?_)
  refine C_region ?_
  refine R_pu (pu_move rfl) rfl ?_
  refine R_pu (pu_eqlnn (by kernel_rfl) rfl) rfl ?_
  refine R_nil ?_
  refine X_then hK4 ?_
  refine C_true rfl ?_
  refine C_seq (fun K5 hK5 => ?_)
  refine C_region ?_
  refine R_pu (pu_assign rfl) rfl ?_
  refine R_nil ?_
  refine X_then hK5 ?_
  refine C_ret ?_
  refine X_then_ret ?_
  exact X_ret1 (.inl rfl) rfl rfl ⟨rfl, kk1⟩
set_option maxRecDepth 100000 in
set_option maxHeartbeats 2000000 in
theorem num09_err (e : Int) (w : World) (hG : Gt w) : Ret Tryd.prog 10 #[.iface 62 (.int .i64 (e))] w (fun v w' => v = .int .i64 e ∧ Kp No w w') := by
  have kk0 := Kp.refl No w
  refine enter (n := 10) [.iface 62 (.int .i64 (e))] Tryd.func10 rfl rfl rfl ?_
  show Cw _ _ _ _ [(0, .iface 62 (.int .i64 (e)))] _
  refine C_seq (fun K1 hK1 => ?_)
  refine C_region ?_
  refine R_pu (pu_assign rfl) rfl ?_
  refine R_nil ?_
  refine X_then hK1 ?_
  refine C_seq (fun K2 hK2 => ?_)
  refine C_region ?_
  refine R_lo (lo_alloc (L := [.int .i64 0]) (by kernel_rfl)) rfl ?_
  rintro _ w1 ⟨p1_0, rfl, N1⟩
  have k1 := N1.kp
  have kk1 := kk0.then_ k1
  have ne_p1_0_0 : p1_0 ≠ 0 := Nat.ne_of_gt (Nat.lt_of_lt_of_le hG.lt N1.le)
  have f_p1_0_1 : Bk w1 p1_0 ([.int .i64 0]) 62 := N1.bk
  refine R_nil ?_
  refine X_then hK2 ?_
  refine C_seq (fun K3 hK3 => ?_)
  refine C_seq (fun K4 hK4 => ?_)
  refine C_region ?_
  refine R_pu (pu_move rfl) rfl ?_
  refine R_pu (pu_eqlin (by kernel_rfl) rfl rfl) rfl ?_
  refine R_nil ?_
  refine X_then hK4 ?_
  refine C_false rfl ?_
  refine C_skip ?_
  refine X_then hK3 ?_
  refine C_seq (fun K5 hK5 => ?_)
  refine C_seq (fun K6 hK6 => ?_)
  refine C_region ?_
  refine R_pu (pu_move rfl) rfl ?_
  refine R_pu (pu_makeInterface Tryd.underlying65 rfl rfl) rfl ?_
  have o7 : Gt w1 := (hG.no k1)
  refine R_lo (lo_call (by kernel_rfl) rfl (as_ret e p1_0 _ _ o7 f_p1_0_1)) rfl ?_
  rintro _ w2 ⟨rfl, B2, k2⟩
  have kk2 := kk1.trans k2 (fun i hi => .inr (hi ▸ (Nat.le_trans kk0.size N1.le)))
  refine R_nil ?_
  refine X_then hK6 ?_
  refine C_true rfl ?_
  refine C_seq (fun K8 hK8 => ?_)
  refine C_region ?_
  refine R_pu (pu_loadK B2 (by kernel_rfl) rfl rfl) rfl ?_
  refine R_pu (pu_assign rfl) rfl ?_
  refine R_nil ?_
  refine X_then hK8 ?_
  refine C_ret ?_
  refine X_then_ret ?_
  exact X_ret1 (.inl rfl) rfl rfl ⟨rfl, kk2⟩
set_option maxRecDepth 100000 in
set_option maxHeartbeats 2000000 in
theorem num11_nil  (w : World)  : Ret Tryd.prog 29 #[.nilIface] w (fun v w' => v = .int .i64 0 ∧ Kp No w w') := by
  have kk0 := Kp.refl No w
  refine enter (n := 10) [.nilIface] Tryd.func29 rfl rfl rfl ?_
  show Cw _ _ _ _ [(0, .nilIface)] _
  refine C_seq (fun K1 hK1 => ?_)
  refine C_region ?_
  refine R_pu (pu_assign rfl) rfl ?_
  refine R_nil ?_
  refine X_then hK1 ?_
  refine C_seq (fun K2 hK2 => ?_)
  refine C_region ?_
  refine R_lo (lo_alloc (L := [.int .i64 0]) (by kernel_rfl)) rfl ?_
  rintro _ w1 ⟨p1_0, rfl, N1⟩
  have k1 := N1.kp
  have kk1 := kk0.then_ k1
  have f_p1_0_1 : Bk w1 p1_0 ([.int .i64 0]) 62 := N1.bk
  refine R_nil ?_
  refine X_then hK2 ?_
  refine C_seq (fun K3 hK3 => ?_)
  refine C_seq (fun K4 hK4 => ?_)
  refine C_region ?_
  refine R_pu (pu_move rfl) rfl ?_
  refine R_pu (pu_eqlnn (by kernel_rfl) rfl) rfl ?_
  refine R_nil ?_
  refine X_then hK4 ?_
  refine C_true rfl ?_
  refine C_seq (fun K5 hK5 => ?_)
  refine C_region ?_
  refine R_pu (pu_assign rfl) rfl ?_
  refine R_nil ?_
  refine X_then hK5 ?_
  refine C_ret ?_
  refine X_then_ret ?_
  exact X_ret1 (.inl rfl) rfl rfl ⟨rfl, kk1⟩
set_option maxRecDepth 100000 in
set_option maxHeartbeats 2000000 in
theorem num11_err (e : Int) (w : World) (hG : Gt w) : Ret Tryd.prog 29 #[.iface 62 (.int .i64 (e))] w (fun v w' => v = .int .i64 e ∧ Kp No w w') := by
  have kk0 := Kp.refl No w
  refine enter (n := 10) [.iface 62 (.int .i64 (e))] Tryd.func29 rfl rfl rfl ?_
  show Cw _ _ _ _ [(0, .iface 62 (.int .i64 (e)))] _
  refine C_seq (fun K1 hK1 => ?_)
  refine C_region ?_
  refine R_pu (pu_assign rfl) rfl ?_
  refine R_nil ?_
  refine X_then hK1 ?_
  refine C_seq (fun K2 hK2 => ?_)
  refine C_region ?_
  refine R_lo (lo_alloc (L := [.int .i64 0]) (by kernel_rfl)) rfl ?_
  rintro _ w1 ⟨p1_0, rfl, N1⟩
  have k1 := N1.kp
  have kk1 := kk0.then_ k1
  have ne_p1_0_0 : p1_0 ≠ 0 := Nat.ne_of_gt (Nat.lt_of_lt_of_le hG.lt N1.le)
  have f_p1_0_1 : Bk w1 p1_0 ([.int .i64 0]) 62 := N1.bk
  refine R_nil ?_
  refine X_then hK2 ?_
  refine C_seq (fun K3 hK3 => ?_)
  refine C_seq (fun K4 hK4 => ?_)
  refine C_region ?_
  refine R_pu (pu_move rfl) rfl ?_
  refine R_pu (pu_eqlin (by kernel_rfl) rfl rfl) rfl ?_
  refine R_nil ?_
  refine X_then hK4 ?_
  refine C_false rfl ?_
  refine C_skip ?_
  refine X_then hK3 ?_
  refine C_seq (fun K5 hK5 => ?_)
  refine C_seq (fun K6 hK6 => ?_)
  refine C_region ?_
  refine R_pu (pu_move rfl) rfl ?_
  refine R_pu (pu_makeInterface Tryd.underlying65 rfl rfl) rfl ?_
  have o7 : Gt w1 := (hG.no k1)
  refine R_lo (lo_call (by kernel_rfl) rfl (as_ret e p1_0 _ _ o7 f_p1_0_1)) rfl ?_
  rintro _ w2 ⟨rfl, B2, k2⟩
  have kk2 := kk1.trans k2 (fun i hi => .inr (hi ▸ (Nat.le_trans kk0.size N1.le)))
  refine R_nil ?_
  refine X_then hK6 ?_
  refine C_true rfl ?_
  refine C_seq (fun K8 hK8 => ?_)
  refine C_region ?_
  refine R_pu (pu_loadK B2 (by kernel_rfl) rfl rfl) rfl ?_
  refine R_pu (pu_assign rfl) rfl ?_
  refine R_nil ?_
  refine X_then hK8 ?_
  refine C_ret ?_
  refine X_then_ret ?_
  exact X_ret1 (.inl rfl) rfl rfl ⟨rfl, kk2⟩
set_option maxRecDepth 100000 in
set_option maxHeartbeats 2000000 in
theorem sure11  (w : World) (hG : Gt w) : Ret Tryd.prog 15 #[] w (fun v w' => v = .bool true ∧ Kp No w w') := by
  have kk0 := Kp.refl No w
  refine enter (n := 53) [] Tryd.func15 rfl rfl rfl ?_
  show Cw _ _ _ _ [] _
  refine C_seq (fun K1 hK1 => ?_)
  refine C_region ?_
  refine R_pu (pu_assign rfl) rfl ?_
  refine R_nil ?_
  refine X_then hK1 ?_
  refine C_seq (fun K2 hK2 => ?_)
  refine C_region ?_
  refine R_lo (lo_make (z := .int .u8 0) (bytes := 1) (ln := 32) (cp := 32) Tryd.underlying22 (by kernel_rfl) rfl rfl rfl rfl rfl (by omega) (by omega) (by omega)) rfl ?_
  rintro _ w1 ⟨k0, rfl, N1⟩
  have k1 := N1.kp
  have kk1 := kk0.then_ k1
  have ne_k0_0 : k0 ≠ 0 := Nat.ne_of_gt (Nat.lt_of_lt_of_le hG.lt N1.le)
  have f_k0_1 : Bk w1 k0 (u8s (List.replicate 32 0)) 5 := by rw [u8s_rep]; exact N1.bk
  have o3 : Gt w1 := (hG.no k1)
  have bK_kp : By 32 (List.replicate 32 0) := ⟨(List.length_replicate ..), (rep_by 32).2⟩
  have wy_kb : Wy (KW (List.replicate 32 0)) := KW_wy bK_kp.2
  refine R_lo (lo_callE (by kernel_rfl) rfl (by rw [(rep_by 32).1] <;> rfl) (gcm_new (some ⟨k0, 0, none⟩) (List.replicate 32 0) 32 _ (Bs.ofBk f_k0_1 (rep_by 32)) (Nat.le_of_eq (rep_by 32).1) bK_kp.1)) rfl ?_
  rintro _ w2 ⟨kp, kb, kx, rfl, le2, lb2, lx2, n1_2, n2_2, n3_2, P2, B2, T2, k2⟩
  have kk2 := kk1.then_ k2
  have ne_kp_k0 : kp ≠ k0 := Nat.ne_of_gt (Nat.lt_of_lt_of_le f_k0_1.lt le2)
  have ne_kp_0 : kp ≠ 0 := Nat.ne_of_gt (Nat.lt_of_lt_of_le o3.lt le2)
  have ne_kb_k0 : kb ≠ k0 := Nat.ne_of_gt (Nat.lt_of_lt_of_le f_k0_1.lt lb2)
  have ne_kb_0 : kb ≠ 0 := Nat.ne_of_gt (Nat.lt_of_lt_of_le o3.lt lb2)
  have ne_kx_k0 : kx ≠ k0 := Nat.ne_of_gt (Nat.lt_of_lt_of_le f_k0_1.lt lx2)
  have ne_kx_0 : kx ≠ 0 := Nat.ne_of_gt (Nat.lt_of_lt_of_le o3.lt lx2)
  refine R_pu (pu_move rfl) rfl ?_
  refine R_pu (pu_extract rfl rfl) rfl ?_
  refine R_pu (pu_extract rfl rfl) rfl ?_
  refine R_pu (pu_assign rfl) rfl ?_
  refine R_pu (pu_assign rfl) rfl ?_
  refine R_nil ?_
  refine X_then hK2 ?_
  refine C_seq (fun K4 hK4 => ?_)
  have bN : By 12 (List.replicate 12 0) := rep_by 12
  refine C_region ?_
  refine R_pu (pu_move rfl) rfl ?_
  have f5 : Bk w2 k0 (u8s (List.replicate 32 0)) 5 := (f_k0_1.no k2)
  have o6 : Gt w2 := (o3.no k2)
  refine R_lo (lo_make (z := .int .u8 0) (bytes := 1) (ln := 12) (cp := 12) Tryd.underlying22 (by kernel_rfl) rfl rfl rfl rfl rfl (by omega) (by omega) (by omega)) rfl ?_
  rintro _ w3 ⟨n0, rfl, N3⟩
  have k3 := N3.kp
  have kk3 := kk2.then_ k3
  have ne_n0_k0 : n0 ≠ k0 := Nat.ne_of_gt (Nat.lt_of_lt_of_le f5.lt N3.le)
  have ne_n0_kp : n0 ≠ kp := Nat.ne_of_gt (Nat.lt_of_lt_of_le P2.lt N3.le)
  have ne_n0_kb : n0 ≠ kb := Nat.ne_of_gt (Nat.lt_of_lt_of_le B2.lt N3.le)
  have ne_n0_0 : n0 ≠ 0 := Nat.ne_of_gt (Nat.lt_of_lt_of_le o6.lt N3.le)
  have ne_n0_kx : n0 ≠ kx := Nat.ne_of_gt (Nat.lt_of_lt_of_le T2.lt N3.le)
  have f_n0_3 : Bk w3 n0 (u8s (List.replicate 12 0)) 5 := by rw [u8s_rep]; exact N3.bk
  have f7 : Bk w3 kp (gkL kb (gmH (List.replicate 32 0))) 70 := (P2.no k3)
  have f8 : Bk w3 kb (keyL kx (KW (List.replicate 32 0))) 61 := (B2.no k3)
  have o9 : Sx w3 kx := (T2.no k3)
  have f10 : Bk w3 k0 (u8s (List.replicate 32 0)) 5 := (f5.no k3)
  have o11 : Gt w3 := (o6.no k3)
  refine R_lo (lo_callE (by kernel_rfl) rfl (by rw [(rep_by 12).1] <;> rfl) (gcm_seal kp kb kx (List.replicate 32 0) (some ⟨n0, 0, none⟩) (List.replicate 12 0) 12 none ([]) 0 none ([]) 0 _ bK_kp n1_2 n2_2 n3_2 f7 f8 o9 bN (Bs.ofBk f_n0_3 (rep_by 12)) (Nat.le_of_eq (rep_by 12).1) (Aw.ofBk ne_n0_kx) (Bs.nil _ none) (Nat.le_refl _) (fun h => absurd rfl h) (Bs.nil _ none) (Nat.le_refl _) (fun h => absurd rfl h) ⟨by decide, by decide⟩)) rfl ?_
  rintro _ w4 ⟨A_se, c_se, rfl, Q4, T4, k4⟩
  have kk4 := kk3.trans k4 (fun i hi => .inr (hi ▸ (Nat.le_trans kk1.size lx2)))
  have z12 : w3.heap.size ≤ w4.heap.size := k4.size
  refine R_pu (pu_move rfl) rfl ?_
  refine R_pu (pu_extract rfl rfl) rfl ?_
  refine R_pu (pu_extract rfl rfl) rfl ?_
  refine R_pu (pu_assign rfl) rfl ?_
  refine R_pu (pu_assign rfl) rfl ?_
  refine R_nil ?_
  refine X_then hK4 ?_
  refine C_seq (fun K13 hK13 => ?_)
  have f14 : Bk w4 k0 (u8s (List.replicate 32 0)) 5 := (f10.on k4 (Ne.symm ne_kx_k0))
  have f15 : Bk w4 kp (gkL kb (gmH (List.replicate 32 0))) 70 := (f7.on k4 n2_2)
  have f16 : Bk w4 kb (keyL kx (KW (List.replicate 32 0))) 61 := (f8.on k4 n3_2)
  have f17 : Bk w4 n0 (u8s (List.replicate 12 0)) 5 := (f_n0_3.on k4 ne_n0_kx)
  have o18 : Gt w4 := (o11.on k4 (Ne.symm ne_kx_0))
  refine D_begin (fun W => Kp No w W ∧ Bk W k0 (u8s (List.replicate 32 0)) 5 ∧ Bk W kp (gkL kb (gmH (List.replicate 32 0))) 70 ∧ Bk W kb (keyL kx (KW (List.replicate 32 0))) 61 ∧ Bk W n0 (u8s (List.replicate 12 0)) 5 ∧ Gt W ∧ Sx W kx) 9 rfl (by kernel_rfl) ⟨kk4.drew, f14.draw, f15.draw, f16.draw, f17.draw, o18.draw, T4.draw⟩ ?_
  intro w5 k5 _
  have kk5 := kk4.then_ k5
  refine D_take 0 rfl (by kernel_rfl) (by kernel_rfl) (by kernel_rfl) (fun _ _ _ h => h) rfl (fun W hS => pu_move rfl) ?_
  refine D_two 1 2 (by kernel_rfl) ?_ ?_
  · have f19 : Bk w5 k0 (u8s (List.replicate 32 0)) 5 := (f14.no k5)
    have f20 : Bk w5 kp (gkL kb (gmH (List.replicate 32 0))) 70 := (f15.no k5)
    have f21 : Bk w5 kb (keyL kx (KW (List.replicate 32 0))) 61 := (f16.no k5)
    have f22 : Bk w5 n0 (u8s (List.replicate 12 0)) 5 := (f17.no k5)
    have o23 : Gt w5 := (o18.no k5)
    have o24 : Sx w5 kx := (T4.no k5)
    have ob25 := (Q4.keptNo k5)
    refine Nx_lo rfl (lo_make (z := .int .u8 0) (bytes := 1) (ln := 12) (cp := 12) Tryd.underlying22 (by kernel_rfl) rfl rfl rfl rfl rfl (by omega) (by omega) (by omega)) rfl ?_
    rintro _ w6 ⟨n1, rfl, N6⟩
    have k6 := N6.kp
    have kk6 := kk5.then_ k6
    have ne_n1_k0 : n1 ≠ k0 := Nat.ne_of_gt (Nat.lt_of_lt_of_le f19.lt N6.le)
    have ne_n1_kp : n1 ≠ kp := Nat.ne_of_gt (Nat.lt_of_lt_of_le f20.lt N6.le)
    have ne_n1_kb : n1 ≠ kb := Nat.ne_of_gt (Nat.lt_of_lt_of_le f21.lt N6.le)
    have ne_n1_n0 : n1 ≠ n0 := Nat.ne_of_gt (Nat.lt_of_lt_of_le f22.lt N6.le)
    have ne_n1_0 : n1 ≠ 0 := Nat.ne_of_gt (Nat.lt_of_lt_of_le o23.lt N6.le)
    have ne_n1_kx : n1 ≠ kx := Nat.ne_of_gt (Nat.lt_of_lt_of_le o24.lt N6.le)
    have f_n1_6 : Bk w6 n1 (u8s (List.replicate 12 0)) 5 := by rw [u8s_rep]; exact N6.bk
    have f26 : Bk w6 k0 (u8s (List.replicate 32 0)) 5 := (f19.no k6)
    have f27 : Bk w6 kp (gkL kb (gmH (List.replicate 32 0))) 70 := (f20.no k6)
    have f28 : Bk w6 kb (keyL kx (KW (List.replicate 32 0))) 61 := (f21.no k6)
    have f29 : Bk w6 n0 (u8s (List.replicate 12 0)) 5 := (f22.no k6)
    have o30 : Gt w6 := (o23.no k6)
    have o31 : Sx w6 kx := (o24.no k6)
    refine ⟨⟨kk6, f26, f27, f28, f29, o30, o31⟩, ?_⟩
    have ob32 := (ob25.keptNo k6)
    refine D_one 2 (by kernel_rfl) (Nx_lo rfl (lo_make (z := .int .u8 0) (bytes := 1) (ln := 15) (cp := 15) Tryd.underlying22 (by kernel_rfl) rfl rfl rfl rfl rfl (by omega) (by omega) (by omega)) rfl ?_)
    rintro _ w7 ⟨x0, rfl, N7⟩
    have k7 := N7.kp
    have kk7 := kk6.then_ k7
    have ne_x0_k0 : x0 ≠ k0 := Nat.ne_of_gt (Nat.lt_of_lt_of_le f26.lt N7.le)
    have ne_x0_kp : x0 ≠ kp := Nat.ne_of_gt (Nat.lt_of_lt_of_le f27.lt N7.le)
    have ne_x0_kb : x0 ≠ kb := Nat.ne_of_gt (Nat.lt_of_lt_of_le f28.lt N7.le)
    have ne_x0_n0 : x0 ≠ n0 := Nat.ne_of_gt (Nat.lt_of_lt_of_le f29.lt N7.le)
    have ne_x0_n1 : x0 ≠ n1 := Nat.ne_of_gt (Nat.lt_of_lt_of_le f_n1_6.lt N7.le)
    have ne_x0_0 : x0 ≠ 0 := Nat.ne_of_gt (Nat.lt_of_lt_of_le o30.lt N7.le)
    have ne_x0_kx : x0 ≠ kx := Nat.ne_of_gt (Nat.lt_of_lt_of_le o31.lt N7.le)
    have f_x0_7 : Bk w7 x0 (u8s (List.replicate 15 0)) 5 := by rw [u8s_rep]; exact N7.bk
    have f33 : Bk w7 k0 (u8s (List.replicate 32 0)) 5 := (f26.no k7)
    have f34 : Bk w7 kp (gkL kb (gmH (List.replicate 32 0))) 70 := (f27.no k7)
    have f35 : Bk w7 kb (keyL kx (KW (List.replicate 32 0))) 61 := (f28.no k7)
    have f36 : Bk w7 n0 (u8s (List.replicate 12 0)) 5 := (f29.no k7)
    have o37 : Gt w7 := (o30.no k7)
    have o38 : Sx w7 kx := (o31.no k7)
    refine ⟨⟨kk7, f33, f34, f35, f36, o37, o38⟩, ?_⟩
    have f39 : Bk w7 n1 (u8s (List.replicate 12 0)) 5 := (f_n1_6.no k7)
    refine D_one 3 (by kernel_rfl) (Nx_lo rfl (lo_callE (by kernel_rfl) rfl (by rw [(rep_by 12).1, (rep_by 15).1] <;> rfl) (gcm_open_short kp kb kx (List.replicate 32 0) (some ⟨n1, 0, none⟩) (List.replicate 12 0) 12 (some ⟨x0, 0, none⟩) (List.replicate 15 0) 15 none ([]) 0 _ bK_kp n1_2 n2_2 n3_2 f34 f35 o38 bN (Bs.ofBk f39 (rep_by 12)) (Nat.le_of_eq (rep_by 12).1) (Aw.ofBk ne_n1_kx) (Bs.ofBk f_x0_7 (rep_by 15)) (Nat.le_of_eq (rep_by 15).1) (Aw.ofBk ne_x0_kx) (Bs.nil _ none) (Nat.le_refl _) (fun h => absurd rfl h) ⟨by decide, by decide⟩ (by decide))) rfl ?_)
    rintro _ w8 ⟨rfl, T8, k8⟩
    have kk8 := kk7.trans k8 (fun i hi => .inr (hi ▸ (Nat.le_trans kk1.size lx2)))
    have f40 : Bk w8 k0 (u8s (List.replicate 32 0)) 5 := (f33.on k8 (Ne.symm ne_kx_k0))
    have f41 : Bk w8 kp (gkL kb (gmH (List.replicate 32 0))) 70 := (f34.on k8 n2_2)
    have f42 : Bk w8 kb (keyL kx (KW (List.replicate 32 0))) 61 := (f35.on k8 n3_2)
    have f43 : Bk w8 n0 (u8s (List.replicate 12 0)) 5 := (f36.on k8 ne_n0_kx)
    have o44 : Gt w8 := (o37.on k8 (Ne.symm ne_kx_0))
    refine ⟨⟨kk8, f40, f41, f42, f43, o44, T8⟩, ?_⟩
    refine D_take 4 rfl (by kernel_rfl) (by kernel_rfl) (by kernel_rfl) (fun _ _ _ h => h) rfl (fun W hS => pu_move rfl) ?_
    refine D_take 5 rfl (by kernel_rfl) (by kernel_rfl) (by kernel_rfl) (fun _ _ _ h => h) rfl (fun W hS => pu_extract rfl rfl) ?_
    refine D_take 6 rfl (by kernel_rfl) (by kernel_rfl) (by kernel_rfl) (fun _ _ _ h => h) rfl (fun W hS => pu_extract rfl rfl) ?_
    refine D_take 7 rfl (by kernel_rfl) (by kernel_rfl) (by kernel_rfl) (fun _ _ _ h => h) rfl (fun W hS => pu_assign rfl) ?_
    refine D_take 8 rfl (by kernel_rfl) (by kernel_rfl) (by kernel_rfl) (fun _ _ _ h => h) rfl (fun W hS => pu_assign rfl) ?_
    refine D_done (by kernel_rfl) ?_
    refine X_then hK13 ?_
    refine C_seq (fun K45 hK45 => ?_)
    have hls : (sealB (List.replicate 32 0) (List.replicate 12 0) [] []).length = 16 := by rw [seal0_eq]; rfl
    refine C_region ?_
    refine R_pu (pu_move rfl) rfl ?_
    refine R_pu (pu_eqlnn (by kernel_rfl) rfl) rfl ?_
    refine R_pu (pu_move rfl) rfl ?_
    refine R_gpu rfl rfl (pu_move rfl) rfl ?_
    refine R_gpu rfl rfl (pu_eqlnn (by kernel_rfl) rfl) rfl ?_
    refine R_pu (pu_pickt rfl rfl) rfl ?_
    refine R_pu (pu_move rfl) rfl ?_
    refine R_gpu rfl rfl (pu_move rfl) rfl ?_
    refine R_gpu rfl rfl (pu_len Tryd.underlying22 rfl) rfl ?_
    refine R_gpu rfl rfl (pu_true (pu_eql (p := ((sealB (List.replicate 32 0) (List.replicate 12 0) ([]) ([])).length) = 16) rfl rfl (by omega)) hls) rfl ?_
    refine R_pu (pu_pickt rfl rfl) rfl ?_
    refine R_pu (pu_move rfl) rfl ?_
    refine R_gpu rfl rfl (pu_move rfl) rfl ?_
    have ob46 := ((ob32.keptNo k7).on k8 (by have := o9.lt; omega))
    refine R_gpu rfl rfl (pu_indexAddrB (m := 0) ob46.bs Tryd.underlying22 (by kernel_rfl) rfl rfl rfl rfl (by rw [hls]; decide)) rfl ?_
    obtain ⟨y0, e_y0⟩ : ∃ q_, (sealB (List.replicate 32 0) (List.replicate 12 0) ([]) ([]))[0]? = some q_ := ⟨_, List.getElem?_eq_getElem (by rw [hls]; decide)⟩
    have b_y0 : y0 < 256 := ob46.byte _ (List.mem_of_getElem? e_y0)
    refine R_gpu rfl rfl (pu_loadB ob46.bs (by kernel_rfl) rfl e_y0) rfl ?_
    refine R_gpu rfl rfl (pu_true (pu_eql (p := y0 = 83) rfl rfl (by omega)) (by rw [seal0_eq] at e_y0; exact (Option.some.inj e_y0).symm)) rfl ?_
    refine R_pu (pu_pickt rfl rfl) rfl ?_
    refine R_pu (pu_move rfl) rfl ?_
    refine R_gpu rfl rfl (pu_move rfl) rfl ?_
    refine R_gpu rfl rfl (pu_indexAddrB (m := 15) ob46.bs Tryd.underlying22 (by kernel_rfl) rfl rfl rfl rfl (by rw [hls]; decide)) rfl ?_
    obtain ⟨y1, e_y1⟩ : ∃ q_, (sealB (List.replicate 32 0) (List.replicate 12 0) ([]) ([]))[15]? = some q_ := ⟨_, List.getElem?_eq_getElem (by rw [hls]; decide)⟩
    have b_y1 : y1 < 256 := ob46.byte _ (List.mem_of_getElem? e_y1)
    refine R_gpu rfl rfl (pu_loadB ob46.bs (by kernel_rfl) rfl e_y1) rfl ?_
    refine R_gpu rfl rfl (pu_true (pu_eql (p := y1 = 139) rfl rfl (by omega)) (by rw [seal0_eq] at e_y1; exact (Option.some.inj e_y1).symm)) rfl ?_
    refine R_pu (pu_pickt rfl rfl) rfl ?_
    refine R_pu (pu_move rfl) rfl ?_
    refine R_gpu rfl rfl (pu_move rfl) rfl ?_
    refine R_glo rfl rfl (lo_call (by kernel_rfl) rfl (num11_err 11 _ o44)) rfl ?_
    rintro _ w9 ⟨rfl, k9⟩
    have kk9 := kk8.then_ k9
    refine R_gpu rfl rfl (pu_true (pu_eql (p := (11 : Nat) = 11) rfl rfl (by omega)) (by decide)) rfl ?_
    refine R_pu (pu_pickt rfl rfl) rfl ?_
    refine R_pu (pu_assign rfl) rfl ?_
    refine R_nil ?_
    refine X_then hK45 ?_
    refine C_ret ?_
    exact X_ret1 (.inl rfl) rfl rfl ⟨rfl, kk9⟩
  · have f47 : Bk w5 k0 (u8s (List.replicate 32 0)) 5 := (f14.no k5)
    have f48 : Bk w5 kp (gkL kb (gmH (List.replicate 32 0))) 70 := (f15.no k5)
    have f49 : Bk w5 kb (keyL kx (KW (List.replicate 32 0))) 61 := (f16.no k5)
    have f50 : Bk w5 n0 (u8s (List.replicate 12 0)) 5 := (f17.no k5)
    have o51 : Gt w5 := (o18.no k5)
    have o52 : Sx w5 kx := (T4.no k5)
    have ob53 := (Q4.keptNo k5)
    refine Nx_lo rfl (lo_make (z := .int .u8 0) (bytes := 1) (ln := 15) (cp := 15) Tryd.underlying22 (by kernel_rfl) rfl rfl rfl rfl rfl (by omega) (by omega) (by omega)) rfl ?_
    rintro _ w10 ⟨x0, rfl, N10⟩
    have k10 := N10.kp
    have kk10 := kk5.then_ k10
    have ne_x0_k0 : x0 ≠ k0 := Nat.ne_of_gt (Nat.lt_of_lt_of_le f47.lt N10.le)
    have ne_x0_kp : x0 ≠ kp := Nat.ne_of_gt (Nat.lt_of_lt_of_le f48.lt N10.le)
    have ne_x0_kb : x0 ≠ kb := Nat.ne_of_gt (Nat.lt_of_lt_of_le f49.lt N10.le)
    have ne_x0_n0 : x0 ≠ n0 := Nat.ne_of_gt (Nat.lt_of_lt_of_le f50.lt N10.le)
    have ne_x0_0 : x0 ≠ 0 := Nat.ne_of_gt (Nat.lt_of_lt_of_le o51.lt N10.le)
    have ne_x0_kx : x0 ≠ kx := Nat.ne_of_gt (Nat.lt_of_lt_of_le o52.lt N10.le)
    have f_x0_10 : Bk w10 x0 (u8s (List.replicate 15 0)) 5 := by rw [u8s_rep]; exact N10.bk
    have f54 : Bk w10 k0 (u8s (List.replicate 32 0)) 5 := (f47.no k10)
    have f55 : Bk w10 kp (gkL kb (gmH (List.replicate 32 0))) 70 := (f48.no k10)
    have f56 : Bk w10 kb (keyL kx (KW (List.replicate 32 0))) 61 := (f49.no k10)
    have f57 : Bk w10 n0 (u8s (List.replicate 12 0)) 5 := (f50.no k10)
    have o58 : Gt w10 := (o51.no k10)
    have o59 : Sx w10 kx := (o52.no k10)
    refine ⟨⟨kk10, f54, f55, f56, f57, o58, o59⟩, ?_⟩
    have ob60 := (ob53.keptNo k10)
    refine D_one 1 (by kernel_rfl) (Nx_lo rfl (lo_make (z := .int .u8 0) (bytes := 1) (ln := 12) (cp := 12) Tryd.underlying22 (by kernel_rfl) rfl rfl rfl rfl rfl (by omega) (by omega) (by omega)) rfl ?_)
    rintro _ w11 ⟨n1, rfl, N11⟩
    have k11 := N11.kp
    have kk11 := kk10.then_ k11
    have ne_n1_k0 : n1 ≠ k0 := Nat.ne_of_gt (Nat.lt_of_lt_of_le f54.lt N11.le)
    have ne_n1_kp : n1 ≠ kp := Nat.ne_of_gt (Nat.lt_of_lt_of_le f55.lt N11.le)
    have ne_n1_kb : n1 ≠ kb := Nat.ne_of_gt (Nat.lt_of_lt_of_le f56.lt N11.le)
    have ne_n1_n0 : n1 ≠ n0 := Nat.ne_of_gt (Nat.lt_of_lt_of_le f57.lt N11.le)
    have ne_n1_x0 : n1 ≠ x0 := Nat.ne_of_gt (Nat.lt_of_lt_of_le f_x0_10.lt N11.le)
    have ne_n1_0 : n1 ≠ 0 := Nat.ne_of_gt (Nat.lt_of_lt_of_le o58.lt N11.le)
    have ne_n1_kx : n1 ≠ kx := Nat.ne_of_gt (Nat.lt_of_lt_of_le o59.lt N11.le)
    have f_n1_11 : Bk w11 n1 (u8s (List.replicate 12 0)) 5 := by rw [u8s_rep]; exact N11.bk
    have f61 : Bk w11 k0 (u8s (List.replicate 32 0)) 5 := (f54.no k11)
    have f62 : Bk w11 kp (gkL kb (gmH (List.replicate 32 0))) 70 := (f55.no k11)
    have f63 : Bk w11 kb (keyL kx (KW (List.replicate 32 0))) 61 := (f56.no k11)
    have f64 : Bk w11 n0 (u8s (List.replicate 12 0)) 5 := (f57.no k11)
    have o65 : Gt w11 := (o58.no k11)
    have o66 : Sx w11 kx := (o59.no k11)
    refine ⟨⟨kk11, f61, f62, f63, f64, o65, o66⟩, ?_⟩
    have f67 : Bk w11 x0 (u8s (List.replicate 15 0)) 5 := (f_x0_10.no k11)
    refine D_one 3 (by kernel_rfl) (Nx_lo rfl (lo_callE (by kernel_rfl) rfl (by rw [(rep_by 12).1, (rep_by 15).1] <;> rfl) (gcm_open_short kp kb kx (List.replicate 32 0) (some ⟨n1, 0, none⟩) (List.replicate 12 0) 12 (some ⟨x0, 0, none⟩) (List.replicate 15 0) 15 none ([]) 0 _ bK_kp n1_2 n2_2 n3_2 f62 f63 o66 bN (Bs.ofBk f_n1_11 (rep_by 12)) (Nat.le_of_eq (rep_by 12).1) (Aw.ofBk ne_n1_kx) (Bs.ofBk f67 (rep_by 15)) (Nat.le_of_eq (rep_by 15).1) (Aw.ofBk ne_x0_kx) (Bs.nil _ none) (Nat.le_refl _) (fun h => absurd rfl h) ⟨by decide, by decide⟩ (by decide))) rfl ?_)
    rintro _ w12 ⟨rfl, T12, k12⟩
    have kk12 := kk11.trans k12 (fun i hi => .inr (hi ▸ (Nat.le_trans kk1.size lx2)))
    have f68 : Bk w12 k0 (u8s (List.replicate 32 0)) 5 := (f61.on k12 (Ne.symm ne_kx_k0))
    have f69 : Bk w12 kp (gkL kb (gmH (List.replicate 32 0))) 70 := (f62.on k12 n2_2)
    have f70 : Bk w12 kb (keyL kx (KW (List.replicate 32 0))) 61 := (f63.on k12 n3_2)
    have f71 : Bk w12 n0 (u8s (List.replicate 12 0)) 5 := (f64.on k12 ne_n0_kx)
    have o72 : Gt w12 := (o65.on k12 (Ne.symm ne_kx_0))
    refine ⟨⟨kk12, f68, f69, f70, f71, o72, T12⟩, ?_⟩
    refine D_take 4 rfl (by kernel_rfl) (by kernel_rfl) (by kernel_rfl) (fun _ _ _ h => h) rfl (fun W hS => pu_move rfl) ?_
    refine D_take 5 rfl (by kernel_rfl) (by kernel_rfl) (by kernel_rfl) (fun _ _ _ h => h) rfl (fun W hS => pu_extract rfl rfl) ?_
    refine D_take 6 rfl (by kernel_rfl) (by kernel_rfl) (by kernel_rfl) (fun _ _ _ h => h) rfl (fun W hS => pu_extract rfl rfl) ?_
    refine D_take 7 rfl (by kernel_rfl) (by kernel_rfl) (by kernel_rfl) (fun _ _ _ h => h) rfl (fun W hS => pu_assign rfl) ?_
    refine D_take 8 rfl (by kernel_rfl) (by kernel_rfl) (by kernel_rfl) (fun _ _ _ h => h) rfl (fun W hS => pu_assign rfl) ?_
    refine D_done (by kernel_rfl) ?_
    refine X_then hK13 ?_
    refine C_seq (fun K73 hK73 => ?_)
    have hls : (sealB (List.replicate 32 0) (List.replicate 12 0) [] []).length = 16 := by rw [seal0_eq]; rfl
    refine C_region ?_
    refine R_pu (pu_move rfl) rfl ?_
    refine R_pu (pu_eqlnn (by kernel_rfl) rfl) rfl ?_
    refine R_pu (pu_move rfl) rfl ?_
    refine R_gpu rfl rfl (pu_move rfl) rfl ?_
    refine R_gpu rfl rfl (pu_eqlnn (by kernel_rfl) rfl) rfl ?_
    refine R_pu (pu_pickt rfl rfl) rfl ?_
    refine R_pu (pu_move rfl) rfl ?_
    refine R_gpu rfl rfl (pu_move rfl) rfl ?_
    refine R_gpu rfl rfl (pu_len Tryd.underlying22 rfl) rfl ?_
    refine R_gpu rfl rfl (pu_true (pu_eql (p := ((sealB (List.replicate 32 0) (List.replicate 12 0) ([]) ([])).length) = 16) rfl rfl (by omega)) hls) rfl ?_
    refine R_pu (pu_pickt rfl rfl) rfl ?_
    refine R_pu (pu_move rfl) rfl ?_
    refine R_gpu rfl rfl (pu_move rfl) rfl ?_
    have ob74 := ((ob60.keptNo k11).on k12 (by have := o9.lt; omega))
    refine R_gpu rfl rfl (pu_indexAddrB (m := 0) ob74.bs Tryd.underlying22 (by kernel_rfl) rfl rfl rfl rfl (by rw [hls]; decide)) rfl ?_
    obtain ⟨y0, e_y0⟩ : ∃ q_, (sealB (List.replicate 32 0) (List.replicate 12 0) ([]) ([]))[0]? = some q_ := ⟨_, List.getElem?_eq_getElem (by rw [hls]; decide)⟩
    have b_y0 : y0 < 256 := ob74.byte _ (List.mem_of_getElem? e_y0)
    refine R_gpu rfl rfl (pu_loadB ob74.bs (by kernel_rfl) rfl e_y0) rfl ?_
    refine R_gpu rfl rfl (pu_true (pu_eql (p := y0 = 83) rfl rfl (by omega)) (by rw [seal0_eq] at e_y0; exact (Option.some.inj e_y0).symm)) rfl ?_
    refine R_pu (pu_pickt rfl rfl) rfl ?_
    refine R_pu (pu_move rfl) rfl ?_
    refine R_gpu rfl rfl (pu_move rfl) rfl ?_
    refine R_gpu rfl rfl (pu_indexAddrB (m := 15) ob74.bs Tryd.underlying22 (by kernel_rfl) rfl rfl rfl rfl (by rw [hls]; decide)) rfl ?_
    obtain ⟨y1, e_y1⟩ : ∃ q_, (sealB (List.replicate 32 0) (List.replicate 12 0) ([]) ([]))[15]? = some q_ := ⟨_, List.getElem?_eq_getElem (by rw [hls]; decide)⟩
    have b_y1 : y1 < 256 := ob74.byte _ (List.mem_of_getElem? e_y1)
    refine R_gpu rfl rfl (pu_loadB ob74.bs (by kernel_rfl) rfl e_y1) rfl ?_
    refine R_gpu rfl rfl (pu_true (pu_eql (p := y1 = 139) rfl rfl (by omega)) (by rw [seal0_eq] at e_y1; exact (Option.some.inj e_y1).symm)) rfl ?_
    refine R_pu (pu_pickt rfl rfl) rfl ?_
    refine R_pu (pu_move rfl) rfl ?_
    refine R_gpu rfl rfl (pu_move rfl) rfl ?_
    refine R_glo rfl rfl (lo_call (by kernel_rfl) rfl (num11_err 11 _ o72)) rfl ?_
    rintro _ w13 ⟨rfl, k13⟩
    have kk13 := kk12.then_ k13
    refine R_gpu rfl rfl (pu_true (pu_eql (p := (11 : Nat) = 11) rfl rfl (by omega)) (by decide)) rfl ?_
    refine R_pu (pu_pickt rfl rfl) rfl ?_
    refine R_pu (pu_assign rfl) rfl ?_
    refine R_nil ?_
    refine X_then hK73 ?_
    refine C_ret ?_
    exact X_ret1 (.inl rfl) rfl rfl ⟨rfl, kk13⟩
set_option maxRecDepth 100000 in
set_option maxHeartbeats 2000000 in
theorem gcmStreams_ (A0 : Option Addr) (Y : List Nat) (c0 : Nat) (A1 : Option Addr) (N : List Nat) (c1 : Nat) (A2 : Option Addr) (D : List Nat) (c2 : Nat) (A3 : Option Addr) (M : List Nat) (c3 : Nat) (A4 : Option Addr) (M2 : List Nat) (c4 : Nat) (w : World) (HY : Bs w A0 Y) (hy : Y.length ≤ c0) (HN : Bs w A1 N) (hn : N.length ≤ c1) (HD : Bs w A2 D) (hd : D.length ≤ c2) (HM : Bs w A3 M) (hm : M.length ≤ c3) (HM2 : Bs w A4 M2) (hm2 : M2.length ≤ c4) (hG : Gt w) : Ret Tryd.prog 4 #[.agg ([.slice A0 (Y.length) (c0), .slice A1 (N.length) (c1), .slice A2 (D.length) (c2)] : List Value).toArray, .slice A3 (M.length) (c3), .slice A4 (M2.length) (c4)] w (fun v w' => v = .bool true ∧ Kp No w w') := by
  have kk0 := Kp.refl No w
  refine enter (n := 116) [.agg ([.slice A0 (Y.length) (c0), .slice A1 (N.length) (c1), .slice A2 (D.length) (c2)] : List Value).toArray, .slice A3 (M.length) (c3), .slice A4 (M2.length) (c4)] Tryd.func4 rfl rfl rfl ?_
  show Cw _ _ _ _ [(0, .agg ([.slice A0 (Y.length) (c0), .slice A1 (N.length) (c1), .slice A2 (D.length) (c2)] : List Value).toArray), (1, .slice A3 (M.length) (c3)), (2, .slice A4 (M2.length) (c4))] _
  refine C_seq (fun K1 hK1 => ?_)
  refine C_region ?_
  refine R_lo (lo_box (L := [.slice A0 (Y.length) (c0), .slice A1 (N.length) (c1), .slice A2 (D.length) (c2)]) rfl rfl) rfl ?_
  rintro _ w1 ⟨pc, rfl, N1⟩
  have k1 := N1.kp
  have kk1 := kk0.then_ k1
  have ne_pc_0 : pc ≠ 0 := Nat.ne_of_gt (Nat.lt_of_lt_of_le hG.lt N1.le)
  have f_pc_1 : Bk w1 pc ([.slice A0 (Y.length) (c0), .slice A1 (N.length) (c1), .slice A2 (D.length) (c2)]) 45 := N1.bk
  refine R_pu (pu_assign rfl) rfl ?_
  refine R_nil ?_
  refine X_then hK1 ?_
  refine C_seq (fun K2 hK2 => ?_)
  refine C_seq (fun K3 hK3 => ?_)
  refine C_region ?_
  refine R_pu (pu_fieldAddr (off := 0) (o' := 0) (by kernel_rfl) rfl rfl) rfl ?_
  refine R_pu (pu_loadK f_pc_1 (by kernel_rfl) rfl rfl) rfl ?_
  refine R_pu (pu_len Tryd.underlying22 rfl) rfl ?_
  refine R_pu (pu_neq (p := Y.length = 32) rfl rfl (by omega)) rfl ?_
  by_cases g1_4 : ¬ (Y.length = 32)
  · refine R_pu (pu_true (pu_move rfl) g1_4) rfl ?_
    refine R_gno rfl rfl rfl rfl ?_
    refine R_gno rfl rfl rfl rfl ?_
    refine R_gno rfl rfl rfl rfl ?_
    refine R_gno rfl rfl rfl rfl ?_
    refine R_pu (pu_pickt rfl rfl) rfl ?_
    refine R_pu (pu_move rfl) rfl ?_
    refine R_gno rfl rfl rfl rfl ?_
    refine R_gno rfl rfl rfl rfl ?_
    refine R_gno rfl rfl rfl rfl ?_
    refine R_pu (pu_pickt rfl rfl) rfl ?_
    refine R_pu (pu_move rfl) rfl ?_
    refine R_gno rfl rfl rfl rfl ?_
    refine R_gno rfl rfl rfl rfl ?_
    refine R_gno rfl rfl rfl rfl ?_
    refine R_gno rfl rfl rfl rfl ?_
    refine R_gno rfl rfl rfl rfl ?_
    refine R_pu (pu_pickt rfl rfl) rfl ?_
    refine R_pu (pu_move rfl) rfl ?_
    refine R_gno rfl rfl rfl rfl ?_
    refine R_gno rfl rfl rfl rfl ?_
    refine R_gno rfl rfl rfl rfl ?_
    refine R_gno rfl rfl rfl rfl ?_
    refine R_pu (pu_pickt rfl rfl) rfl ?_
    refine R_nil ?_
    refine X_then hK3 ?_
    refine C_true rfl ?_
    refine C_seq (fun K4 hK4 => ?_)
    refine C_region ?_
    have o5 : Gt w1 := (hG.no k1)
    refine R_lo (lo_call (by kernel_rfl) rfl (sure11 _ o5)) rfl ?_
    rintro _ w2 ⟨rfl, k2⟩
    have kk2 := kk1.then_ k2
    refine R_pu (pu_assign rfl) rfl ?_
    refine R_nil ?_
    refine X_then hK4 ?_
    refine C_ret ?_
    refine X_then_ret ?_
    exact X_ret1 (.inl rfl) rfl rfl ⟨rfl, kk2⟩
  · refine R_pu (pu_false (pu_move rfl) g1_4) rfl ?_
    refine R_gpu rfl rfl (pu_fieldAddr (off := 1) (o' := 1) (by kernel_rfl) rfl rfl) rfl ?_
    refine R_gpu rfl rfl (pu_loadK f_pc_1 (by kernel_rfl) rfl rfl) rfl ?_
    refine R_gpu rfl rfl (pu_len Tryd.underlying22 rfl) rfl ?_
    refine R_gpu rfl rfl (pu_neq (p := N.length = 12) rfl rfl (by omega)) rfl ?_
    refine R_pu (pu_pickf rfl rfl) rfl ?_
    by_cases g1_10 : ¬ (N.length = 12)
    · refine R_pu (pu_true (pu_move rfl) g1_10) rfl ?_
      refine R_gno rfl rfl rfl rfl ?_
      refine R_gno rfl rfl rfl rfl ?_
      refine R_gno rfl rfl rfl rfl ?_
      refine R_pu (pu_pickt rfl rfl) rfl ?_
      refine R_pu (pu_move rfl) rfl ?_
      refine R_gno rfl rfl rfl rfl ?_
      refine R_gno rfl rfl rfl rfl ?_
      refine R_gno rfl rfl rfl rfl ?_
      refine R_gno rfl rfl rfl rfl ?_
      refine R_gno rfl rfl rfl rfl ?_
      refine R_pu (pu_pickt rfl rfl) rfl ?_
      refine R_pu (pu_move rfl) rfl ?_
      refine R_gno rfl rfl rfl rfl ?_
      refine R_gno rfl rfl rfl rfl ?_
      refine R_gno rfl rfl rfl rfl ?_
      refine R_gno rfl rfl rfl rfl ?_
      refine R_pu (pu_pickt rfl rfl) rfl ?_
      refine R_nil ?_
      refine X_then hK3 ?_
      refine C_true rfl ?_
      refine C_seq (fun K6 hK6 => ?_)
      refine C_region ?_
      have o7 : Gt w1 := (hG.no k1)
      refine R_lo (lo_call (by kernel_rfl) rfl (sure11 _ o7)) rfl ?_
      rintro _ w3 ⟨rfl, k3⟩
      have kk3 := kk1.then_ k3
      refine R_pu (pu_assign rfl) rfl ?_
      refine R_nil ?_
      refine X_then hK6 ?_
      refine C_ret ?_
      refine X_then_ret ?_
      exact X_ret1 (.inl rfl) rfl rfl ⟨rfl, kk3⟩
    · refine R_pu (pu_false (pu_move rfl) g1_10) rfl ?_
      refine R_gpu rfl rfl (pu_move rfl) rfl ?_
      refine R_gpu rfl rfl (pu_len Tryd.underlying22 rfl) rfl ?_
      refine R_gpu rfl rfl (pu_gtr (p := M.length > 200) rfl rfl (by omega)) rfl ?_
      refine R_pu (pu_pickf rfl rfl) rfl ?_
      by_cases g1_15 : M.length > 200
      · refine R_pu (pu_true (pu_move rfl) g1_15) rfl ?_
        refine R_gno rfl rfl rfl rfl ?_
        refine R_gno rfl rfl rfl rfl ?_
        refine R_gno rfl rfl rfl rfl ?_
        refine R_gno rfl rfl rfl rfl ?_
        refine R_gno rfl rfl rfl rfl ?_
        refine R_pu (pu_pickt rfl rfl) rfl ?_
        refine R_pu (pu_move rfl) rfl ?_
        refine R_gno rfl rfl rfl rfl ?_
        refine R_gno rfl rfl rfl rfl ?_
        refine R_gno rfl rfl rfl rfl ?_
        refine R_gno rfl rfl rfl rfl ?_
        refine R_pu (pu_pickt rfl rfl) rfl ?_
        refine R_nil ?_
        refine X_then hK3 ?_
        refine C_true rfl ?_
        refine C_seq (fun K8 hK8 => ?_)
        refine C_region ?_
        have o9 : Gt w1 := (hG.no k1)
        refine R_lo (lo_call (by kernel_rfl) rfl (sure11 _ o9)) rfl ?_
        rintro _ w4 ⟨rfl, k4⟩
        have kk4 := kk1.then_ k4
        refine R_pu (pu_assign rfl) rfl ?_
        refine R_nil ?_
        refine X_then hK8 ?_
        refine C_ret ?_
        refine X_then_ret ?_
        exact X_ret1 (.inl rfl) rfl rfl ⟨rfl, kk4⟩
      · refine R_pu (pu_false (pu_move rfl) g1_15) rfl ?_
        refine R_gpu rfl rfl (pu_move rfl) rfl ?_
        refine R_gpu rfl rfl (pu_len Tryd.underlying22 rfl) rfl ?_
        refine R_gpu rfl rfl (pu_move rfl) rfl ?_
        refine R_gpu rfl rfl (pu_len Tryd.underlying22 rfl) rfl ?_
        refine R_gpu rfl rfl (pu_neq (p := M2.length = M.length) rfl rfl (by omega)) rfl ?_
        refine R_pu (pu_pickf rfl rfl) rfl ?_
        by_cases g1_22 : ¬ (M2.length = M.length)
        · refine R_pu (pu_true (pu_move rfl) g1_22) rfl ?_
          refine R_gno rfl rfl rfl rfl ?_
          refine R_gno rfl rfl rfl rfl ?_
          refine R_gno rfl rfl rfl rfl ?_
          refine R_gno rfl rfl rfl rfl ?_
          refine R_pu (pu_pickt rfl rfl) rfl ?_
          refine R_nil ?_
          refine X_then hK3 ?_
          refine C_true rfl ?_
          refine C_seq (fun K10 hK10 => ?_)
          refine C_region ?_
          have o11 : Gt w1 := (hG.no k1)
          refine R_lo (lo_call (by kernel_rfl) rfl (sure11 _ o11)) rfl ?_
          rintro _ w5 ⟨rfl, k5⟩
          have kk5 := kk1.then_ k5
          refine R_pu (pu_assign rfl) rfl ?_
          refine R_nil ?_
          refine X_then hK10 ?_
          refine C_ret ?_
          refine X_then_ret ?_
          exact X_ret1 (.inl rfl) rfl rfl ⟨rfl, kk5⟩
        · refine R_pu (pu_false (pu_move rfl) g1_22) rfl ?_
          refine R_gpu rfl rfl (pu_fieldAddr (off := 2) (o' := 2) (by kernel_rfl) rfl rfl) rfl ?_
          refine R_gpu rfl rfl (pu_loadK f_pc_1 (by kernel_rfl) rfl rfl) rfl ?_
          refine R_gpu rfl rfl (pu_len Tryd.underlying22 rfl) rfl ?_
          refine R_gpu rfl rfl (pu_gtr (p := D.length > 300) rfl rfl (by omega)) rfl ?_
          refine R_pu (pu_pickf rfl rfl) rfl ?_
          refine R_nil ?_
          refine X_then hK3 ?_
          refine C_dec rfl (fun h41 => ?_) (fun h41 => ?_)
          · refine C_seq (fun K12 hK12 => ?_)
            refine C_region ?_
            have o13 : Gt w1 := (hG.no k1)
            refine R_lo (lo_call (by kernel_rfl) rfl (sure11 _ o13)) rfl ?_
            rintro _ w6 ⟨rfl, k6⟩
            have kk6 := kk1.then_ k6
            refine R_pu (pu_assign rfl) rfl ?_
            refine R_nil ?_
            refine X_then hK12 ?_
            refine C_ret ?_
            refine X_then_ret ?_
            exact X_ret1 (.inl rfl) rfl rfl ⟨rfl, kk6⟩
          · refine C_skip ?_
            refine X_then hK2 ?_
            refine C_seq (fun K14 hK14 => ?_)
            have hY32 : Y.length = 32 := by omega
            have bN : By 12 N := ⟨by omega, HN.byte⟩
            refine C_region ?_
            refine R_pu (pu_fieldAddr (off := 0) (o' := 0) (by kernel_rfl) rfl rfl) rfl ?_
            refine R_pu (pu_loadK f_pc_1 (by kernel_rfl) rfl rfl) rfl ?_
            have o15 : Gt w1 := (hG.no k1)
            have bK_kp : By 32 Y := ⟨(by omega), HY.byte⟩
            have wy_kb : Wy (KW Y) := KW_wy bK_kp.2
            refine R_lo (lo_call (by kernel_rfl) rfl (gcm_new A0 Y c0 _ (HY.keptNo kk1) hy bK_kp.1)) rfl ?_
            rintro _ w7 ⟨kp, kb, kx, rfl, le7, lb7, lx7, n1_7, n2_7, n3_7, P7, B7, T7, k7⟩
            have kk7 := kk1.then_ k7
            have ne_kp_pc : kp ≠ pc := Nat.ne_of_gt (Nat.lt_of_lt_of_le f_pc_1.lt le7)
            have ne_kp_0 : kp ≠ 0 := Nat.ne_of_gt (Nat.lt_of_lt_of_le o15.lt le7)
            have ne_kb_pc : kb ≠ pc := Nat.ne_of_gt (Nat.lt_of_lt_of_le f_pc_1.lt lb7)
            have ne_kb_0 : kb ≠ 0 := Nat.ne_of_gt (Nat.lt_of_lt_of_le o15.lt lb7)
            have ne_kx_pc : kx ≠ pc := Nat.ne_of_gt (Nat.lt_of_lt_of_le f_pc_1.lt lx7)
            have ne_kx_0 : kx ≠ 0 := Nat.ne_of_gt (Nat.lt_of_lt_of_le o15.lt lx7)
            refine R_pu (pu_move rfl) rfl ?_
            refine R_pu (pu_extract rfl rfl) rfl ?_
            refine R_pu (pu_extract rfl rfl) rfl ?_
            refine R_pu (pu_assign rfl) rfl ?_
            refine R_pu (pu_assign rfl) rfl ?_
            refine R_nil ?_
            refine X_then hK14 ?_
            refine C_seq (fun K16 hK16 => ?_)
            refine C_seq (fun K17 hK17 => ?_)
            refine C_region ?_
            refine R_pu (pu_move rfl) rfl ?_
            refine R_pu (pu_neqnn (by kernel_rfl) rfl) rfl ?_
            refine R_nil ?_
            refine X_then hK17 ?_
            refine C_false rfl ?_
            refine C_skip ?_
            refine X_then hK16 ?_
            refine C_seq (fun K18 hK18 => ?_)
            refine C_region ?_
            refine R_pu (pu_move rfl) rfl ?_
            refine R_pu (pu_fieldAddr (off := 1) (o' := 1) (by kernel_rfl) rfl rfl) rfl ?_
            have f19 : Bk w7 pc ([.slice A0 (Y.length) (c0), .slice A1 (N.length) (c1), .slice A2 (D.length) (c2)]) 45 := (f_pc_1.no k7)
            refine R_pu (pu_loadK f19 (by kernel_rfl) rfl rfl) rfl ?_
            refine R_pu (pu_move rfl) rfl ?_
            refine R_pu (pu_fieldAddr (off := 2) (o' := 2) (by kernel_rfl) rfl rfl) rfl ?_
            refine R_pu (pu_loadK f19 (by kernel_rfl) rfl rfl) rfl ?_
            have o20 : Gt w7 := (o15.no k7)
            refine R_lo (lo_call (by kernel_rfl) rfl (gcm_seal kp kb kx Y A1 N c1 A3 M c3 A2 D c2 _ bK_kp n1_7 n2_7 n3_7 P7 B7 T7 bN (HN.keptNo kk7) hn (HN.aw (Nat.le_trans kk1.size lx7)) (HM.keptNo kk7) hm (HM.aw (Nat.le_trans kk1.size lx7)) (HD.keptNo kk7) hd (HD.aw (Nat.le_trans kk1.size lx7)) ⟨by omega, by omega⟩)) rfl ?_
            rintro _ w8 ⟨A_sa, c_sa, rfl, Q8, T8, k8⟩
            have kk8 := kk7.trans k8 (fun i hi => .inr (hi ▸ (Nat.le_trans kk1.size lx7)))
            have z21 : w7.heap.size ≤ w8.heap.size := k8.size
            refine R_pu (pu_move rfl) rfl ?_
            refine R_pu (pu_extract rfl rfl) rfl ?_
            refine R_pu (pu_extract rfl rfl) rfl ?_
            refine R_pu (pu_assign rfl) rfl ?_
            refine R_pu (pu_assign rfl) rfl ?_
            refine R_nil ?_
            refine X_then hK18 ?_
            refine C_seq (fun K22 hK22 => ?_)
            refine C_region ?_
            refine R_pu (pu_move rfl) rfl ?_
            refine R_pu (pu_fieldAddr (off := 1) (o' := 1) (by kernel_rfl) rfl rfl) rfl ?_
            have f23 : Bk w8 pc ([.slice A0 (Y.length) (c0), .slice A1 (N.length) (c1), .slice A2 (D.length) (c2)]) 45 := (f19.on k8 (Ne.symm ne_kx_pc))
            refine R_pu (pu_loadK f23 (by kernel_rfl) rfl rfl) rfl ?_
            refine R_pu (pu_move rfl) rfl ?_
            have f24 : Bk w8 kp (gkL kb (gmH Y)) 70 := (P7.on k8 n2_7)
            have f25 : Bk w8 kb (keyL kx (KW Y)) 61 := (B7.on k8 n3_7)
            have o26 : Gt w8 := (o20.on k8 (Ne.symm ne_kx_0))
            have lm27 := Q8.top
            refine R_lo (lo_call (by kernel_rfl) rfl (gcm_seal kp kb kx Y A1 N c1 A4 M2 c4 none ([]) 0 _ bK_kp n1_7 n2_7 n3_7 f24 f25 T8 bN (HN.keptNo kk8) hn (HN.aw (Nat.le_trans kk1.size lx7)) (HM2.keptNo kk8) hm2 (HM2.aw (Nat.le_trans kk1.size lx7)) (Bs.nil _ none) (Nat.le_refl _) (fun h => absurd rfl h) ⟨by omega, by decide⟩)) rfl ?_
            rintro _ w9 ⟨A_sb, c_sb, rfl, Q9, T9, k9⟩
            have kk9 := kk8.trans k9 (fun i hi => .inr (hi ▸ (Nat.le_trans kk1.size lx7)))
            have z28 : w8.heap.size ≤ w9.heap.size := k9.size
            refine R_pu (pu_move rfl) rfl ?_
            refine R_pu (pu_extract rfl rfl) rfl ?_
            refine R_pu (pu_extract rfl rfl) rfl ?_
            refine R_pu (pu_assign rfl) rfl ?_
            refine R_pu (pu_assign rfl) rfl ?_
            refine R_nil ?_
            refine X_then hK22 ?_
            refine C_seq (fun K29 hK29 => ?_)
            refine C_seq (fun K30 hK30 => ?_)
            refine C_region ?_
            refine R_pu (pu_move rfl) rfl ?_
            refine R_pu (pu_neqnn (by kernel_rfl) rfl) rfl ?_
            refine R_pu (pu_move rfl) rfl ?_
            refine R_gpu rfl rfl (pu_move rfl) rfl ?_
            refine R_gpu rfl rfl (pu_neqnn (by kernel_rfl) rfl) rfl ?_
            refine R_pu (pu_pickf rfl rfl) rfl ?_
            refine R_pu (pu_move rfl) rfl ?_
            refine R_gpu rfl rfl (pu_move rfl) rfl ?_
            refine R_gpu rfl rfl (pu_len Tryd.underlying22 rfl) rfl ?_
            refine R_gpu rfl rfl (pu_move rfl) rfl ?_
            refine R_gpu rfl rfl (pu_len Tryd.underlying22 rfl) rfl ?_
            refine R_gpu rfl rfl (pu_add (z := ((M.length + 16 : Nat) : Int)) rfl rfl (by rw [IntKind.wrap_i64]; omega)) rfl ?_
            refine R_gpu rfl rfl (pu_false (pu_neq (p := ((sealB Y N M D).length) = (M.length + 16)) rfl rfl (by omega)) (fun h => h (sealB_len bN))) rfl ?_
            refine R_pu (pu_pickf rfl rfl) rfl ?_
            refine R_pu (pu_move rfl) rfl ?_
            refine R_gpu rfl rfl (pu_move rfl) rfl ?_
            refine R_gpu rfl rfl (pu_len Tryd.underlying22 rfl) rfl ?_
            refine R_gpu rfl rfl (pu_move rfl) rfl ?_
            refine R_gpu rfl rfl (pu_len Tryd.underlying22 rfl) rfl ?_
            refine R_gpu rfl rfl (pu_false (pu_neq (p := ((sealB Y N M2 ([])).length) = ((sealB Y N M D).length)) rfl rfl (by omega)) (fun h => h (by rw [sealB_len bN, sealB_len bN]; omega))) rfl ?_
            refine R_pu (pu_pickf rfl rfl) rfl ?_
            refine R_nil ?_
            refine X_then hK30 ?_
            refine C_false rfl ?_
            refine C_skip ?_
            refine X_then hK29 ?_
            refine C_seq (fun K31 hK31 => ?_)
            refine C_seq (fun K32 hK32 => ?_)
            refine C_region ?_
            refine R_pu (pu_assign rfl) rfl ?_
            refine R_nil ?_
            refine X_then hK32 ?_
            refine C_block ?_
            have f33 : Bk w9 pc ([.slice A0 (Y.length) (c0), .slice A1 (N.length) (c1), .slice A2 (D.length) (c2)]) 45 := (f23.on k9 (Ne.symm ne_kx_pc))
            have f34 : Bk w9 kp (gkL kb (gmH Y)) 70 := (f24.on k9 n2_7)
            have f35 : Bk w9 kb (keyL kx (KW Y)) 61 := (f25.on k9 n3_7)
            have ob36 := (Q8.on k9 (by have := T7.lt; omega))
            have o37 : Gt w9 := (o26.on k9 (Ne.symm ne_kx_0))
            refine C_loop (fun m_ l_ wr => ∃ i : Nat, (m_ = M.length - i) ∧ (l_ = [(1, .slice A3 (M.length) (c3)), (2, .slice A4 (M2.length) (c4)), (9, .slice A_sa ((sealB Y N M D).length) (c_sa)), (11, .slice A_sb ((sealB Y N M2 ([])).length) (c_sb)), (13, .int .i64 ((i : Nat) : Int))]) ∧ (i ≤ M.length) ∧ (Kp No w wr) ∧ (Bk wr pc ([.slice A0 (Y.length) (c0), .slice A1 (N.length) (c1), .slice A2 (D.length) (c2)]) 45) ∧ (Bk wr kp (gkL kb (gmH Y)) 70) ∧ (Bk wr kb (keyL kx (KW Y)) 61) ∧ (Ob wr w7.heap.size (.slice A_sa ((sealB Y N M D).length) (c_sa)) (sealB Y N M D) ∧ w7.heap.size ≤ (wr).heap.size) ∧ (Ob wr w8.heap.size (.slice A_sb ((sealB Y N M2 ([])).length) (c_sb)) (sealB Y N M2 ([])) ∧ w8.heap.size ≤ (wr).heap.size) ∧ (Gt wr) ∧ (Sx wr kx)) (M.length - 0) [(1, .slice A3 (M.length) (c3)), (2, .slice A4 (M2.length) (c4)), (9, .slice A_sa ((sealB Y N M D).length) (c_sa)), (11, .slice A_sb ((sealB Y N M2 ([])).length) (c_sb)), (13, .int .i64 0)] (Sub.cons rfl (Sub.cons rfl (Sub.cons rfl (Sub.cons rfl (Sub.cons rfl (Sub.nil _)))))) ⟨0, rfl, rfl, by omega, kk9, f33, f34, f35, ⟨ob36, (Nat.le_trans z21 k9.size)⟩, ⟨Q9, z28⟩, o37, T9⟩ ?_
            rintro _ _ w10 ⟨i, rfl, rfl, hi, kk10, f_pc_10, f_kp_10, f_kb_10, sa_10, sb_10, G_10, S_kx_10⟩
            refine C_seq (fun K38 hK38 => ?_)
            refine C_seq (fun K39 hK39 => ?_)
            refine C_region ?_
            refine R_pu (pu_move rfl) rfl ?_
            refine R_pu (pu_move rfl) rfl ?_
            refine R_pu (pu_len Tryd.underlying22 rfl) rfl ?_
            refine R_pu (pu_lss (p := i < M.length) rfl rfl (by omega)) rfl ?_
            refine R_nil ?_
            refine X_then hK39 ?_
            refine C_dec rfl (fun h93 => ?_) (fun h93 => ?_)
            · refine C_skip ?_
              refine X_then hK38 ?_
              refine C_seq (fun K40 hK40 => ?_)
              refine C_block ?_
              refine C_seq (fun K41 hK41 => ?_)
              refine D_begin (fun W => Kp No w W ∧ Bk W pc ([.slice A0 (Y.length) (c0), .slice A1 (N.length) (c1), .slice A2 (D.length) (c2)]) 45 ∧ Bk W kp (gkL kb (gmH Y)) 70 ∧ Bk W kb (keyL kx (KW Y)) 61 ∧ Gt W ∧ Sx W kx ∧ Ob W w7.heap.size (.slice A_sa ((sealB Y N M D).length) (c_sa)) (sealB Y N M D) ∧ Ob W w8.heap.size (.slice A_sb ((sealB Y N M2 ([])).length) (c_sb)) (sealB Y N M2 ([]))) 19 rfl (by kernel_rfl) ⟨kk10.drew, f_pc_10.draw, f_kp_10.draw, f_kb_10.draw, G_10.draw, S_kx_10.draw, sa_10.1.draw, sb_10.1.draw⟩ ?_
              intro w11 k11 _
              have kk11 := kk10.then_ k11
              refine D_take 0 rfl (by kernel_rfl) (by kernel_rfl) (by kernel_rfl) (fun _ _ _ h => h) rfl (fun W hS => pu_move rfl) ?_
              refine D_take 1 rfl (by kernel_rfl) (by kernel_rfl) (by kernel_rfl) (fun _ _ _ h => h) rfl (fun W hS => pu_move rfl) ?_
              refine D_take 2 rfl (by kernel_rfl) (by kernel_rfl) (by kernel_rfl) (fun _ _ _ h => h) rfl (fun W hS => pu_indexAddrB (m := i) hS.2.2.2.2.2.2.1.bs Tryd.underlying22 (by kernel_rfl) rfl rfl rfl rfl (by rw [sealB_len bN]; omega)) ?_
              have ob42 := (sa_10.1.keptNo k11)
              obtain ⟨na, e_na⟩ : ∃ q_, (sealB Y N M D)[i]? = some q_ := ⟨_, List.getElem?_eq_getElem (by rw [sealB_len bN]; omega)⟩
              have b_na : na < 256 := ob42.byte _ (List.mem_of_getElem? e_na)
              refine D_take 3 rfl (by kernel_rfl) (by kernel_rfl) (by kernel_rfl) (fun _ _ _ h => h) rfl (fun W hS => pu_loadB hS.2.2.2.2.2.2.1.bs (by kernel_rfl) rfl e_na) ?_
              refine D_take 4 rfl (by kernel_rfl) (by kernel_rfl) (by kernel_rfl) (fun _ _ _ h => h) rfl (fun W hS => pu_move rfl) ?_
              refine D_take 5 rfl (by kernel_rfl) (by kernel_rfl) (by kernel_rfl) (fun _ _ _ h => h) rfl (fun W hS => pu_move rfl) ?_
              refine D_take 6 rfl (by kernel_rfl) (by kernel_rfl) (by kernel_rfl) (fun _ _ _ h => h) rfl (fun W hS => pu_indexAddrB (m := i) hS.2.2.2.2.2.2.2.bs Tryd.underlying22 (by kernel_rfl) rfl rfl rfl rfl (by rw [sealB_len bN]; omega)) ?_
              have ob43 := (sb_10.1.keptNo k11)
              obtain ⟨nb, e_nb⟩ : ∃ q_, (sealB Y N M2 ([]))[i]? = some q_ := ⟨_, List.getElem?_eq_getElem (by rw [sealB_len bN]; omega)⟩
              have b_nb : nb < 256 := ob43.byte _ (List.mem_of_getElem? e_nb)
              refine D_take 7 rfl (by kernel_rfl) (by kernel_rfl) (by kernel_rfl) (fun _ _ _ h => h) rfl (fun W hS => pu_loadB hS.2.2.2.2.2.2.2.bs (by kernel_rfl) rfl e_nb) ?_
              refine D_take 8 rfl (by kernel_rfl) (by kernel_rfl) (by kernel_rfl) (fun _ _ _ h => h) rfl (fun W hS => pu_xor rfl rfl (u8_xor_nat na nb b_na b_nb)) ?_
              refine D_take 9 rfl (by kernel_rfl) (by kernel_rfl) (by kernel_rfl) (fun _ _ _ h => h) rfl (fun W hS => pu_move rfl) ?_
              refine D_take 10 rfl (by kernel_rfl) (by kernel_rfl) (by kernel_rfl) (fun _ _ _ h => h) rfl (fun W hS => pu_move rfl) ?_
              refine D_take 11 rfl (by kernel_rfl) (by kernel_rfl) (by kernel_rfl) (fun _ _ _ h => h) rfl (fun W hS => pu_indexAddrB (m := i) (HM.keptNo hS.1) Tryd.underlying22 (by kernel_rfl) rfl rfl rfl rfl (by omega)) ?_
              obtain ⟨x, e_x⟩ : ∃ q_, (M)[i]? = some q_ := ⟨_, List.getElem?_eq_getElem (by omega)⟩
              have b_x : x < 256 := ((HM.keptNo kk11)).lt e_x
              refine D_take 12 rfl (by kernel_rfl) (by kernel_rfl) (by kernel_rfl) (fun _ _ _ h => h) rfl (fun W hS => pu_loadB (HM.keptNo hS.1) (by kernel_rfl) rfl e_x) ?_
              refine D_take 13 rfl (by kernel_rfl) (by kernel_rfl) (by kernel_rfl) (fun _ _ _ h => h) rfl (fun W hS => pu_move rfl) ?_
              refine D_take 14 rfl (by kernel_rfl) (by kernel_rfl) (by kernel_rfl) (fun _ _ _ h => h) rfl (fun W hS => pu_move rfl) ?_
              refine D_take 15 rfl (by kernel_rfl) (by kernel_rfl) (by kernel_rfl) (fun _ _ _ h => h) rfl (fun W hS => pu_indexAddrB (m := i) (HM2.keptNo hS.1) Tryd.underlying22 (by kernel_rfl) rfl rfl rfl rfl (by omega)) ?_
              obtain ⟨y, e_y⟩ : ∃ q_, (M2)[i]? = some q_ := ⟨_, List.getElem?_eq_getElem (by omega)⟩
              have b_y : y < 256 := ((HM2.keptNo kk11)).lt e_y
              refine D_take 16 rfl (by kernel_rfl) (by kernel_rfl) (by kernel_rfl) (fun _ _ _ h => h) rfl (fun W hS => pu_loadB (HM2.keptNo hS.1) (by kernel_rfl) rfl e_y) ?_
              refine D_take 17 rfl (by kernel_rfl) (by kernel_rfl) (by kernel_rfl) (fun _ _ _ h => h) rfl (fun W hS => pu_xor rfl rfl (u8_xor_nat x y b_x b_y)) ?_
              refine D_take 18 rfl (by kernel_rfl) (by kernel_rfl) (by kernel_rfl) (fun _ _ _ h => h) rfl (fun W hS => pu_neq (p := (na ^^^ nb) = (x ^^^ y)) rfl rfl (by omega)) ?_
              refine D_done (by kernel_rfl) ?_
              refine X_then hK41 ?_
              refine C_decf rfl (fun h => h (stream_eq bN e_na e_nb e_x e_y)) ?_
              refine C_skip ?_
              refine X_in_normal ?_
              refine X_then hK40 ?_
              refine C_region ?_
              refine R_pu (pu_move rfl) rfl ?_
              refine R_pu (pu_add (z := ((i + 1 : Nat) : Int)) rfl rfl (by rw [IntKind.wrap_i64]; omega)) rfl ?_
              refine R_pu (pu_assign rfl) rfl ?_
              refine R_nil ?_
              have f44 : Bk w11 pc ([.slice A0 (Y.length) (c0), .slice A1 (N.length) (c1), .slice A2 (D.length) (c2)]) 45 := (f_pc_10.no k11)
              have f45 : Bk w11 kp (gkL kb (gmH Y)) 70 := (f_kp_10.no k11)
              have f46 : Bk w11 kb (keyL kx (KW Y)) 61 := (f_kb_10.no k11)
              have o47 : Gt w11 := (G_10.no k11)
              have o48 : Sx w11 kx := (S_kx_10.no k11)
              refine X_round (M.length - (i + 1)) [(1, .slice A3 (M.length) (c3)), (2, .slice A4 (M2.length) (c4)), (9, .slice A_sa ((sealB Y N M D).length) (c_sa)), (11, .slice A_sb ((sealB Y N M2 ([])).length) (c_sb)), (13, .int .i64 (((i + 1) : Nat) : Int))] (by omega) (Sub.cons rfl (Sub.cons rfl (Sub.cons rfl (Sub.cons rfl (Sub.cons rfl (Sub.nil _)))))) ⟨i + 1, rfl, rfl, by omega, kk11, f44, f45, f46, ⟨ob42, (Nat.le_trans sa_10.2 k11.size)⟩, ⟨ob43, (Nat.le_trans sb_10.2 k11.size)⟩, o47, o48⟩
            · refine C_exit ?_
              refine X_then_exit (X_then_exit (X_in_eq ?_))
              refine X_then hK31 ?_
              refine C_seq (fun K49 hK49 => ?_)
              refine C_region ?_
              refine R_lo (lo_call (by kernel_rfl) rfl (sure11 _ G_10)) rfl ?_
              rintro _ w12 ⟨rfl, k12⟩
              have kk12 := kk10.then_ k12
              refine R_pu (pu_assign rfl) rfl ?_
              refine R_nil ?_
              refine X_then hK49 ?_
              refine C_ret ?_
              exact X_ret1 (.inl rfl) rfl rfl ⟨rfl, kk12⟩
set_option maxRecDepth 100000 in
set_option maxHeartbeats 2000000 in
theorem gcmBack_ (A0 : Option Addr) (Y : List Nat) (c0 : Nat) (A1 : Option Addr) (N : List Nat) (c1 : Nat) (A2 : Option Addr) (D : List Nat) (c2 : Nat) (A3 : Option Addr) (M : List Nat) (c3 : Nat) (G : List Nat) (bG : By 16 G) (w : World) (HY : Bs w A0 Y) (hy : Y.length ≤ c0) (HN : Bs w A1 N) (hn : N.length ≤ c1) (HD : Bs w A2 D) (hd : D.length ≤ c2) (HM : Bs w A3 M) (hm : M.length ≤ c3) (hG : Gt w) : Ret Tryd.prog 5 #[.agg ([.slice A0 (Y.length) (c0), .slice A1 (N.length) (c1), .slice A2 (D.length) (c2)] : List Value).toArray, .slice A3 (M.length) (c3), .agg (u8s G : List Value).toArray] w (fun v w' => v = .bool true ∧ Kp No w w') := by
  have kk0 := Kp.refl No w
  refine enter (n := 121) [.agg ([.slice A0 (Y.length) (c0), .slice A1 (N.length) (c1), .slice A2 (D.length) (c2)] : List Value).toArray, .slice A3 (M.length) (c3), .agg (u8s G : List Value).toArray] Tryd.func5 rfl rfl rfl ?_
  show Cw _ _ _ _ [(0, .agg ([.slice A0 (Y.length) (c0), .slice A1 (N.length) (c1), .slice A2 (D.length) (c2)] : List Value).toArray), (1, .slice A3 (M.length) (c3)), (2, .agg (u8s G : List Value).toArray)] _
  refine C_seq (fun K1 hK1 => ?_)
  refine C_region ?_
  refine R_lo (lo_box (L := [.slice A0 (Y.length) (c0), .slice A1 (N.length) (c1), .slice A2 (D.length) (c2)]) rfl rfl) rfl ?_
  rintro _ w1 ⟨pc, rfl, N1⟩
  have k1 := N1.kp
  have kk1 := kk0.then_ k1
  have ne_pc_0 : pc ≠ 0 := Nat.ne_of_gt (Nat.lt_of_lt_of_le hG.lt N1.le)
  have f_pc_1 : Bk w1 pc ([.slice A0 (Y.length) (c0), .slice A1 (N.length) (c1), .slice A2 (D.length) (c2)]) 45 := N1.bk
  have o2 : Gt w1 := (hG.no k1)
  refine R_lo (lo_box (L := u8s G) rfl rfl) rfl ?_
  rintro _ w2 ⟨pt, rfl, N2⟩
  have k2 := N2.kp
  have kk2 := kk1.then_ k2
  have ne_pt_pc : pt ≠ pc := Nat.ne_of_gt (Nat.lt_of_lt_of_le f_pc_1.lt N2.le)
  have ne_pt_0 : pt ≠ 0 := Nat.ne_of_gt (Nat.lt_of_lt_of_le o2.lt N2.le)
  have f_pt_2 : Bk w2 pt (u8s G) 23 := N2.bk
  refine R_pu (pu_assign rfl) rfl ?_
  refine R_nil ?_
  refine X_then hK1 ?_
  refine C_seq (fun K3 hK3 => ?_)
  refine C_seq (fun K4 hK4 => ?_)
  refine C_region ?_
  refine R_pu (pu_fieldAddr (off := 0) (o' := 0) (by kernel_rfl) rfl rfl) rfl ?_
  have f5 : Bk w2 pc ([.slice A0 (Y.length) (c0), .slice A1 (N.length) (c1), .slice A2 (D.length) (c2)]) 45 := (f_pc_1.no k2)
  refine R_pu (pu_loadK f5 (by kernel_rfl) rfl rfl) rfl ?_
  refine R_pu (pu_len Tryd.underlying22 rfl) rfl ?_
  refine R_pu (pu_neq (p := Y.length = 32) rfl rfl (by omega)) rfl ?_
  by_cases g1_4 : ¬ (Y.length = 32)
  · refine R_pu (pu_true (pu_move rfl) g1_4) rfl ?_
    refine R_gno rfl rfl rfl rfl ?_
    refine R_gno rfl rfl rfl rfl ?_
    refine R_gno rfl rfl rfl rfl ?_
    refine R_gno rfl rfl rfl rfl ?_
    refine R_pu (pu_pickt rfl rfl) rfl ?_
    refine R_pu (pu_move rfl) rfl ?_
    refine R_gno rfl rfl rfl rfl ?_
    refine R_gno rfl rfl rfl rfl ?_
    refine R_gno rfl rfl rfl rfl ?_
    refine R_pu (pu_pickt rfl rfl) rfl ?_
    refine R_pu (pu_move rfl) rfl ?_
    refine R_gno rfl rfl rfl rfl ?_
    refine R_gno rfl rfl rfl rfl ?_
    refine R_gno rfl rfl rfl rfl ?_
    refine R_gno rfl rfl rfl rfl ?_
    refine R_pu (pu_pickt rfl rfl) rfl ?_
    refine R_nil ?_
    refine X_then hK4 ?_
    refine C_true rfl ?_
    refine C_seq (fun K6 hK6 => ?_)
    refine C_region ?_
    have o7 : Gt w2 := (o2.no k2)
    refine R_lo (lo_call (by kernel_rfl) rfl (sure11 _ o7)) rfl ?_
    rintro _ w3 ⟨rfl, k3⟩
    have kk3 := kk2.then_ k3
    refine R_pu (pu_assign rfl) rfl ?_
    refine R_nil ?_
    refine X_then hK6 ?_
    refine C_ret ?_
    refine X_then_ret ?_
    exact X_ret1 (.inl rfl) rfl rfl ⟨rfl, kk3⟩
  · refine R_pu (pu_false (pu_move rfl) g1_4) rfl ?_
    refine R_gpu rfl rfl (pu_fieldAddr (off := 1) (o' := 1) (by kernel_rfl) rfl rfl) rfl ?_
    refine R_gpu rfl rfl (pu_loadK f5 (by kernel_rfl) rfl rfl) rfl ?_
    refine R_gpu rfl rfl (pu_len Tryd.underlying22 rfl) rfl ?_
    refine R_gpu rfl rfl (pu_neq (p := N.length = 12) rfl rfl (by omega)) rfl ?_
    refine R_pu (pu_pickf rfl rfl) rfl ?_
    by_cases g1_10 : ¬ (N.length = 12)
    · refine R_pu (pu_true (pu_move rfl) g1_10) rfl ?_
      refine R_gno rfl rfl rfl rfl ?_
      refine R_gno rfl rfl rfl rfl ?_
      refine R_gno rfl rfl rfl rfl ?_
      refine R_pu (pu_pickt rfl rfl) rfl ?_
      refine R_pu (pu_move rfl) rfl ?_
      refine R_gno rfl rfl rfl rfl ?_
      refine R_gno rfl rfl rfl rfl ?_
      refine R_gno rfl rfl rfl rfl ?_
      refine R_gno rfl rfl rfl rfl ?_
      refine R_pu (pu_pickt rfl rfl) rfl ?_
      refine R_nil ?_
      refine X_then hK4 ?_
      refine C_true rfl ?_
      refine C_seq (fun K8 hK8 => ?_)
      refine C_region ?_
      have o9 : Gt w2 := (o2.no k2)
      refine R_lo (lo_call (by kernel_rfl) rfl (sure11 _ o9)) rfl ?_
      rintro _ w4 ⟨rfl, k4⟩
      have kk4 := kk2.then_ k4
      refine R_pu (pu_assign rfl) rfl ?_
      refine R_nil ?_
      refine X_then hK8 ?_
      refine C_ret ?_
      refine X_then_ret ?_
      exact X_ret1 (.inl rfl) rfl rfl ⟨rfl, kk4⟩
    · refine R_pu (pu_false (pu_move rfl) g1_10) rfl ?_
      refine R_gpu rfl rfl (pu_move rfl) rfl ?_
      refine R_gpu rfl rfl (pu_len Tryd.underlying22 rfl) rfl ?_
      refine R_gpu rfl rfl (pu_gtr (p := M.length > 300) rfl rfl (by omega)) rfl ?_
      refine R_pu (pu_pickf rfl rfl) rfl ?_
      by_cases g1_15 : M.length > 300
      · refine R_pu (pu_true (pu_move rfl) g1_15) rfl ?_
        refine R_gno rfl rfl rfl rfl ?_
        refine R_gno rfl rfl rfl rfl ?_
        refine R_gno rfl rfl rfl rfl ?_
        refine R_gno rfl rfl rfl rfl ?_
        refine R_pu (pu_pickt rfl rfl) rfl ?_
        refine R_nil ?_
        refine X_then hK4 ?_
        refine C_true rfl ?_
        refine C_seq (fun K10 hK10 => ?_)
        refine C_region ?_
        have o11 : Gt w2 := (o2.no k2)
        refine R_lo (lo_call (by kernel_rfl) rfl (sure11 _ o11)) rfl ?_
        rintro _ w5 ⟨rfl, k5⟩
        have kk5 := kk2.then_ k5
        refine R_pu (pu_assign rfl) rfl ?_
        refine R_nil ?_
        refine X_then hK10 ?_
        refine C_ret ?_
        refine X_then_ret ?_
        exact X_ret1 (.inl rfl) rfl rfl ⟨rfl, kk5⟩
      · refine R_pu (pu_false (pu_move rfl) g1_15) rfl ?_
        refine R_gpu rfl rfl (pu_fieldAddr (off := 2) (o' := 2) (by kernel_rfl) rfl rfl) rfl ?_
        refine R_gpu rfl rfl (pu_loadK f5 (by kernel_rfl) rfl rfl) rfl ?_
        refine R_gpu rfl rfl (pu_len Tryd.underlying22 rfl) rfl ?_
        refine R_gpu rfl rfl (pu_gtr (p := D.length > 300) rfl rfl (by omega)) rfl ?_
        refine R_pu (pu_pickf rfl rfl) rfl ?_
        refine R_nil ?_
        refine X_then hK4 ?_
        refine C_dec rfl (fun h36 => ?_) (fun h36 => ?_)
        · refine C_seq (fun K12 hK12 => ?_)
          refine C_region ?_
          have o13 : Gt w2 := (o2.no k2)
          refine R_lo (lo_call (by kernel_rfl) rfl (sure11 _ o13)) rfl ?_
          rintro _ w6 ⟨rfl, k6⟩
          have kk6 := kk2.then_ k6
          refine R_pu (pu_assign rfl) rfl ?_
          refine R_nil ?_
          refine X_then hK12 ?_
          refine C_ret ?_
          refine X_then_ret ?_
          exact X_ret1 (.inl rfl) rfl rfl ⟨rfl, kk6⟩
        · refine C_skip ?_
          refine X_then hK3 ?_
          refine C_seq (fun K14 hK14 => ?_)
          have hY32 : Y.length = 32 := by omega
          have bN : By 12 N := ⟨by omega, HN.byte⟩
          refine C_region ?_
          refine R_pu (pu_fieldAddr (off := 0) (o' := 0) (by kernel_rfl) rfl rfl) rfl ?_
          refine R_pu (pu_loadK f5 (by kernel_rfl) rfl rfl) rfl ?_
          have o15 : Gt w2 := (o2.no k2)
          have bK_kp : By 32 Y := ⟨(by omega), HY.byte⟩
          have wy_kb : Wy (KW Y) := KW_wy bK_kp.2
          refine R_lo (lo_call (by kernel_rfl) rfl (gcm_new A0 Y c0 _ (HY.keptNo kk2) hy bK_kp.1)) rfl ?_
          rintro _ w7 ⟨kp, kb, kx, rfl, le7, lb7, lx7, n1_7, n2_7, n3_7, P7, B7, T7, k7⟩
          have kk7 := kk2.then_ k7
          have ne_kp_pc : kp ≠ pc := Nat.ne_of_gt (Nat.lt_of_lt_of_le f5.lt le7)
          have ne_kp_pt : kp ≠ pt := Nat.ne_of_gt (Nat.lt_of_lt_of_le f_pt_2.lt le7)
          have ne_kp_0 : kp ≠ 0 := Nat.ne_of_gt (Nat.lt_of_lt_of_le o15.lt le7)
          have ne_kb_pc : kb ≠ pc := Nat.ne_of_gt (Nat.lt_of_lt_of_le f5.lt lb7)
          have ne_kb_pt : kb ≠ pt := Nat.ne_of_gt (Nat.lt_of_lt_of_le f_pt_2.lt lb7)
          have ne_kb_0 : kb ≠ 0 := Nat.ne_of_gt (Nat.lt_of_lt_of_le o15.lt lb7)
          have ne_kx_pc : kx ≠ pc := Nat.ne_of_gt (Nat.lt_of_lt_of_le f5.lt lx7)
          have ne_kx_pt : kx ≠ pt := Nat.ne_of_gt (Nat.lt_of_lt_of_le f_pt_2.lt lx7)
          have ne_kx_0 : kx ≠ 0 := Nat.ne_of_gt (Nat.lt_of_lt_of_le o15.lt lx7)
          refine R_pu (pu_move rfl) rfl ?_
          refine R_pu (pu_extract rfl rfl) rfl ?_
          refine R_pu (pu_extract rfl rfl) rfl ?_
          refine R_pu (pu_assign rfl) rfl ?_
          refine R_pu (pu_assign rfl) rfl ?_
          refine R_nil ?_
          refine X_then hK14 ?_
          refine C_seq (fun K16 hK16 => ?_)
          refine C_region ?_
          refine R_pu (pu_fieldAddr (off := 0) (o' := 0) (by kernel_rfl) rfl rfl) rfl ?_
          have f17 : Bk w7 pc ([.slice A0 (Y.length) (c0), .slice A1 (N.length) (c1), .slice A2 (D.length) (c2)]) 45 := (f5.no k7)
          refine R_pu (pu_loadK f17 (by kernel_rfl) rfl rfl) rfl ?_
          have f18 : Bk w7 pt (u8s G) 23 := (f_pt_2.no k7)
          have o19 : Gt w7 := (o15.no k7)
          have bK_op : By 32 Y := ⟨(by omega), HY.byte⟩
          have wy_ob : Wy (KW Y) := KW_wy bK_op.2
          refine R_lo (lo_call (by kernel_rfl) rfl (gcm_new A0 Y c0 _ (HY.keptNo kk7) hy bK_op.1)) rfl ?_
          rintro _ w8 ⟨op, ob, ox, rfl, le8, lb8, lx8, n1_8, n2_8, n3_8, P8, B8, T8, k8⟩
          have kk8 := kk7.then_ k8
          have ne_op_pc : op ≠ pc := Nat.ne_of_gt (Nat.lt_of_lt_of_le f17.lt le8)
          have ne_op_pt : op ≠ pt := Nat.ne_of_gt (Nat.lt_of_lt_of_le f18.lt le8)
          have ne_op_kp : op ≠ kp := Nat.ne_of_gt (Nat.lt_of_lt_of_le P7.lt le8)
          have ne_op_kb : op ≠ kb := Nat.ne_of_gt (Nat.lt_of_lt_of_le B7.lt le8)
          have ne_op_0 : op ≠ 0 := Nat.ne_of_gt (Nat.lt_of_lt_of_le o19.lt le8)
          have ne_op_kx : op ≠ kx := Nat.ne_of_gt (Nat.lt_of_lt_of_le T7.lt le8)
          have ne_ob_pc : ob ≠ pc := Nat.ne_of_gt (Nat.lt_of_lt_of_le f17.lt lb8)
          have ne_ob_pt : ob ≠ pt := Nat.ne_of_gt (Nat.lt_of_lt_of_le f18.lt lb8)
          have ne_ob_kp : ob ≠ kp := Nat.ne_of_gt (Nat.lt_of_lt_of_le P7.lt lb8)
          have ne_ob_kb : ob ≠ kb := Nat.ne_of_gt (Nat.lt_of_lt_of_le B7.lt lb8)
          have ne_ob_0 : ob ≠ 0 := Nat.ne_of_gt (Nat.lt_of_lt_of_le o19.lt lb8)
          have ne_ob_kx : ob ≠ kx := Nat.ne_of_gt (Nat.lt_of_lt_of_le T7.lt lb8)
          have ne_ox_pc : ox ≠ pc := Nat.ne_of_gt (Nat.lt_of_lt_of_le f17.lt lx8)
          have ne_ox_pt : ox ≠ pt := Nat.ne_of_gt (Nat.lt_of_lt_of_le f18.lt lx8)
          have ne_ox_kp : ox ≠ kp := Nat.ne_of_gt (Nat.lt_of_lt_of_le P7.lt lx8)
          have ne_ox_kb : ox ≠ kb := Nat.ne_of_gt (Nat.lt_of_lt_of_le B7.lt lx8)
          have ne_ox_0 : ox ≠ 0 := Nat.ne_of_gt (Nat.lt_of_lt_of_le o19.lt lx8)
          have ne_ox_kx : ox ≠ kx := Nat.ne_of_gt (Nat.lt_of_lt_of_le T7.lt lx8)
          refine R_pu (pu_move rfl) rfl ?_
          refine R_pu (pu_extract rfl rfl) rfl ?_
          refine R_pu (pu_extract rfl rfl) rfl ?_
          refine R_pu (pu_assign rfl) rfl ?_
          refine R_pu (pu_assign rfl) rfl ?_
          refine R_nil ?_
          refine X_then hK16 ?_
          refine C_seq (fun K20 hK20 => ?_)
          refine C_seq (fun K21 hK21 => ?_)
          refine C_region ?_
          refine R_pu (pu_move rfl) rfl ?_
          refine R_pu (pu_neqnn (by kernel_rfl) rfl) rfl ?_
          refine R_pu (pu_move rfl) rfl ?_
          refine R_gpu rfl rfl (pu_move rfl) rfl ?_
          refine R_gpu rfl rfl (pu_neqnn (by kernel_rfl) rfl) rfl ?_
          refine R_pu (pu_pickf rfl rfl) rfl ?_
          refine R_nil ?_
          refine X_then hK21 ?_
          refine C_false rfl ?_
          refine C_skip ?_
          refine X_then hK20 ?_
          refine C_seq (fun K22 hK22 => ?_)
          refine C_region ?_
          refine R_pu (pu_move rfl) rfl ?_
          refine R_pu (pu_fieldAddr (off := 1) (o' := 1) (by kernel_rfl) rfl rfl) rfl ?_
          have f23 : Bk w8 pc ([.slice A0 (Y.length) (c0), .slice A1 (N.length) (c1), .slice A2 (D.length) (c2)]) 45 := (f17.no k8)
          refine R_pu (pu_loadK f23 (by kernel_rfl) rfl rfl) rfl ?_
          refine R_pu (pu_move rfl) rfl ?_
          refine R_pu (pu_fieldAddr (off := 2) (o' := 2) (by kernel_rfl) rfl rfl) rfl ?_
          refine R_pu (pu_loadK f23 (by kernel_rfl) rfl rfl) rfl ?_
          have f24 : Bk w8 kp (gkL kb (gmH Y)) 70 := (P7.no k8)
          have f25 : Bk w8 kb (keyL kx (KW Y)) 61 := (B7.no k8)
          have o26 : Sx w8 kx := (T7.no k8)
          have f27 : Bk w8 pt (u8s G) 23 := (f18.no k8)
          have o28 : Gt w8 := (o19.no k8)
          refine R_lo (lo_call (by kernel_rfl) rfl (gcm_seal kp kb kx Y A1 N c1 A3 M c3 A2 D c2 _ bK_kp n1_7 n2_7 n3_7 f24 f25 o26 bN (HN.keptNo kk8) hn (HN.aw (Nat.le_trans kk2.size lx7)) (HM.keptNo kk8) hm (HM.aw (Nat.le_trans kk2.size lx7)) (HD.keptNo kk8) hd (HD.aw (Nat.le_trans kk2.size lx7)) ⟨by omega, by omega⟩)) rfl ?_
          rintro _ w9 ⟨A_sa, c_sa, rfl, Q9, T9, k9⟩
          have kk9 := kk8.trans k9 (fun i hi => .inr (hi ▸ (Nat.le_trans kk2.size lx7)))
          have z29 : w8.heap.size ≤ w9.heap.size := k9.size
          refine R_pu (pu_move rfl) rfl ?_
          refine R_pu (pu_extract rfl rfl) rfl ?_
          refine R_pu (pu_extract rfl rfl) rfl ?_
          refine R_pu (pu_assign rfl) rfl ?_
          refine R_pu (pu_assign rfl) rfl ?_
          refine R_nil ?_
          refine X_then hK22 ?_
          refine C_seq (fun K30 hK30 => ?_)
          refine C_seq (fun K31 hK31 => ?_)
          refine C_region ?_
          refine R_pu (pu_move rfl) rfl ?_
          refine R_pu (pu_neqnn (by kernel_rfl) rfl) rfl ?_
          refine R_pu (pu_move rfl) rfl ?_
          refine R_gpu rfl rfl (pu_move rfl) rfl ?_
          refine R_gpu rfl rfl (pu_len Tryd.underlying22 rfl) rfl ?_
          refine R_gpu rfl rfl (pu_move rfl) rfl ?_
          refine R_gpu rfl rfl (pu_len Tryd.underlying22 rfl) rfl ?_
          refine R_gpu rfl rfl (pu_add (z := ((M.length + 16 : Nat) : Int)) rfl rfl (by rw [IntKind.wrap_i64]; omega)) rfl ?_
          refine R_gpu rfl rfl (pu_false (pu_neq (p := ((sealB Y N M D).length) = (M.length + 16)) rfl rfl (by omega)) (fun h => h (sealB_len bN))) rfl ?_
          refine R_pu (pu_pickf rfl rfl) rfl ?_
          refine R_nil ?_
          refine X_then hK31 ?_
          refine C_false rfl ?_
          refine C_skip ?_
          refine X_then hK30 ?_
          refine C_seq (fun K32 hK32 => ?_)
          refine C_region ?_
          refine R_pu (pu_move rfl) rfl ?_
          refine R_pu (pu_fieldAddr (off := 1) (o' := 1) (by kernel_rfl) rfl rfl) rfl ?_
          have f33 : Bk w9 pc ([.slice A0 (Y.length) (c0), .slice A1 (N.length) (c1), .slice A2 (D.length) (c2)]) 45 := (f23.on k9 (Ne.symm ne_kx_pc))
          refine R_pu (pu_loadK f33 (by kernel_rfl) rfl rfl) rfl ?_
          refine R_pu (pu_move rfl) rfl ?_
          refine R_pu (pu_fieldAddr (off := 2) (o' := 2) (by kernel_rfl) rfl rfl) rfl ?_
          refine R_pu (pu_loadK f33 (by kernel_rfl) rfl rfl) rfl ?_
          have f34 : Bk w9 op (gkL ob (gmH Y)) 70 := (P8.on k9 ne_op_kx)
          have f35 : Bk w9 ob (keyL ox (KW Y)) 61 := (B8.on k9 ne_ob_kx)
          have o36 : Sx w9 ox := (T8.on k9 ne_ox_kx)
          have f37 : Bk w9 pt (u8s G) 23 := (f27.on k9 (Ne.symm ne_kx_pt))
          have f38 : Bk w9 kp (gkL kb (gmH Y)) 70 := (f24.on k9 n2_7)
          have f39 : Bk w9 kb (keyL kx (KW Y)) 61 := (f25.on k9 n3_7)
          have o40 : Gt w9 := (o28.on k9 (Ne.symm ne_kx_0))
          have lm41 := Q9.top
          refine R_lo (lo_call (by kernel_rfl) rfl (gcm_open op ob ox Y A1 N c1 A_sa (sealB Y N M D) c_sa A2 D c2 _ bK_op n1_8 n2_8 n3_8 f34 f35 o36 bN (HN.keptNo kk9) hn (HN.aw (Nat.le_trans kk7.size lx8)) Q9.bs Q9.le.2 (Aw.ofOb Q9 (by have := T8.lt; omega)) (HD.keptNo kk9) hd (HD.aw (Nat.le_trans kk7.size lx8)) ⟨by rw [sealB_len bN]; omega, by omega⟩ (seal_opens bN))) rfl ?_
          rintro _ w10 ⟨A_pl, c_pl, rfl, Q10, T10, k10⟩
          have kk10 := kk9.trans k10 (fun i hi => .inr (hi ▸ (Nat.le_trans kk7.size lx8)))
          have z42 : w9.heap.size ≤ w10.heap.size := k10.size
          refine R_pu (pu_move rfl) rfl ?_
          refine R_pu (pu_extract rfl rfl) rfl ?_
          refine R_pu (pu_extract rfl rfl) rfl ?_
          refine R_pu (pu_assign rfl) rfl ?_
          refine R_pu (pu_assign rfl) rfl ?_
          refine R_nil ?_
          refine X_then hK32 ?_
          refine C_seq (fun K43 hK43 => ?_)
          have hsl : (sealB Y N M D).length = M.length + 16 := sealB_len bN
          have hG1 := bG.1
          have f44 : Bk w10 pc ([.slice A0 (Y.length) (c0), .slice A1 (N.length) (c1), .slice A2 (D.length) (c2)]) 45 := (f33.on k10 (Ne.symm ne_ox_pc))
          have f45 : Bk w10 pt (u8s G) 23 := (f37.on k10 (Ne.symm ne_ox_pt))
          have f46 : Bk w10 kp (gkL kb (gmH Y)) 70 := (f38.on k10 (Ne.symm ne_ox_kp))
          have f47 : Bk w10 kb (keyL kx (KW Y)) 61 := (f39.on k10 (Ne.symm ne_ox_kb))
          have f48 : Bk w10 op (gkL ob (gmH Y)) 70 := (f34.on k10 n2_8)
          have f49 : Bk w10 ob (keyL ox (KW Y)) 61 := (f35.on k10 n3_8)
          have o50 : Gt w10 := (o40.on k10 (Ne.symm ne_ox_0))
          have o51 : Sx w10 kx := (T9.on k10 (Ne.symm ne_ox_kx))
          have ob52 := (Q9.on k10 (by have := T8.lt; omega))
          refine D_begin (fun W => Kp No w W ∧ Bk W pc ([.slice A0 (Y.length) (c0), .slice A1 (N.length) (c1), .slice A2 (D.length) (c2)]) 45 ∧ Bk W pt (u8s G) 23 ∧ Bk W kp (gkL kb (gmH Y)) 70 ∧ Bk W kb (keyL kx (KW Y)) 61 ∧ Bk W op (gkL ob (gmH Y)) 70 ∧ Bk W ob (keyL ox (KW Y)) 61 ∧ Gt W ∧ Sx W kx ∧ Sx W ox ∧ Ob W w8.heap.size (.slice A_sa ((sealB Y N M D).length) (c_sa)) (sealB Y N M D)) 9 rfl (by kernel_rfl) ⟨kk10.drew, f44.draw, f45.draw, f46.draw, f47.draw, f48.draw, f49.draw, o50.draw, o51.draw, T10.draw, ob52.draw⟩ ?_
          intro w11 k11 _
          have kk11 := kk10.then_ k11
          refine D_take 1 rfl (by kernel_rfl) (by kernel_rfl) (by kernel_rfl) (fun _ _ _ h => h) rfl (fun W hS => pu_move rfl) ?_
          refine D_take 2 rfl (by kernel_rfl) (by kernel_rfl) (by kernel_rfl) (fun _ _ _ h => h) rfl (fun W hS => pu_move rfl) ?_
          refine D_take 3 rfl (by kernel_rfl) (by kernel_rfl) (by kernel_rfl) (fun _ _ _ h => h) rfl (fun W hS => pu_len Tryd.underlying22 rfl) ?_
          have ob53 := (ob52.keptNo k11)
          refine D_take 4 rfl (by kernel_rfl) (by kernel_rfl) (by kernel_rfl) (fun _ _ _ h => h) rfl (fun W hS => pu_sliceHi (hi := M.length) (s := 1) Tryd.underlying22 (by kernel_rfl) rfl rfl rfl (by have := ob53.le.2; omega)) ?_
          refine D_take 6 rfl (by kernel_rfl) (by kernel_rfl) (by kernel_rfl) (fun _ _ _ h => h) rfl (fun W hS => pu_sliceArr Tryd.underlying23 (by kernel_rfl) rfl) ?_
          have f54 : Bk w11 pc ([.slice A0 (Y.length) (c0), .slice A1 (N.length) (c1), .slice A2 (D.length) (c2)]) 45 := (f44.no k11)
          have f55 : Bk w11 pt (u8s G) 23 := (f45.no k11)
          have f56 : Bk w11 kp (gkL kb (gmH Y)) 70 := (f46.no k11)
          have f57 : Bk w11 kb (keyL kx (KW Y)) 61 := (f47.no k11)
          have f58 : Bk w11 op (gkL ob (gmH Y)) 70 := (f48.no k11)
          have f59 : Bk w11 ob (keyL ox (KW Y)) 61 := (f49.no k11)
          have o60 : Gt w11 := (o50.no k11)
          have o61 : Sx w11 kx := (o51.no k11)
          have o62 : Sx w11 ox := (T10.no k11)
          have ob63 := (Q10.keptNo k11)
          refine D_one 0 (by kernel_rfl) (Nx_lo rfl (lo_buildSlice0 (sz := 1) Tryd.underlying22 (by kernel_rfl)) rfl ?_)
          rintro _ w12 ⟨e0, rfl, N12⟩
          have k12 := N12.kp
          have kk12 := kk11.then_ k12
          have ne_e0_pc : e0 ≠ pc := Nat.ne_of_gt (Nat.lt_of_lt_of_le f54.lt N12.le)
          have ne_e0_pt : e0 ≠ pt := Nat.ne_of_gt (Nat.lt_of_lt_of_le f55.lt N12.le)
          have ne_e0_kp : e0 ≠ kp := Nat.ne_of_gt (Nat.lt_of_lt_of_le f56.lt N12.le)
          have ne_e0_kb : e0 ≠ kb := Nat.ne_of_gt (Nat.lt_of_lt_of_le f57.lt N12.le)
          have ne_e0_op : e0 ≠ op := Nat.ne_of_gt (Nat.lt_of_lt_of_le f58.lt N12.le)
          have ne_e0_ob : e0 ≠ ob := Nat.ne_of_gt (Nat.lt_of_lt_of_le f59.lt N12.le)
          have ne_e0_0 : e0 ≠ 0 := Nat.ne_of_gt (Nat.lt_of_lt_of_le o60.lt N12.le)
          have ne_e0_kx : e0 ≠ kx := Nat.ne_of_gt (Nat.lt_of_lt_of_le o61.lt N12.le)
          have ne_e0_ox : e0 ≠ ox := Nat.ne_of_gt (Nat.lt_of_lt_of_le o62.lt N12.le)
          have f_e0_12 : Bk w12 e0 (u8s ([] : List Nat)) 5 := N12.bk
          have f64 : Bk w12 pc ([.slice A0 (Y.length) (c0), .slice A1 (N.length) (c1), .slice A2 (D.length) (c2)]) 45 := (f54.no k12)
          have f65 : Bk w12 pt (u8s G) 23 := (f55.no k12)
          have f66 : Bk w12 kp (gkL kb (gmH Y)) 70 := (f56.no k12)
          have f67 : Bk w12 kb (keyL kx (KW Y)) 61 := (f57.no k12)
          have f68 : Bk w12 op (gkL ob (gmH Y)) 70 := (f58.no k12)
          have f69 : Bk w12 ob (keyL ox (KW Y)) 61 := (f59.no k12)
          have o70 : Gt w12 := (o60.no k12)
          have o71 : Sx w12 kx := (o61.no k12)
          have o72 : Sx w12 ox := (o62.no k12)
          have ob73 := (ob53.keptNo k12)
          refine ⟨⟨kk12, f64, f65, f66, f67, f68, f69, o70, o71, o72, ob73⟩, ?_⟩
          have ob74 : Ob w12 w11.heap.size (.slice (some ⟨e0, 0, none⟩) ([] : List Nat).length 0) [] := Ob.low0 (t := 0) f_e0_12 N12.le
          have lm75 := ob53.top
          have lm76 := ob63.top
          have z77 := N12.kp.size
          refine D_one 5 (by kernel_rfl) (Nx_lo rfl (lo_app (X := ([] : List Nat)) (Y := ((sealB Y N M D).take M.length)) ob74 ob74.le.1 rfl rfl (show ((sealB Y N M D).take M.length).length = M.length by rw [List.length_take]; omega) (ob73.bs.take M.length) (by simp; omega) z77) rfl ?_)
          rintro _ w13 ⟨A_13, c_13, rfl, p13⟩
          have k13 := p13.kp
          have kk13 := kk12.trans k13 (fun i hi => .inr (Nat.le_trans (kk11).size hi))
          have f78 : Bk w13 pc ([.slice A0 (Y.length) (c0), .slice A1 (N.length) (c1), .slice A2 (D.length) (c2)]) 45 := (f64.kept k13 (by have := f54.lt; omega))
          have f79 : Bk w13 pt (u8s G) 23 := (f65.kept k13 (by have := f55.lt; omega))
          have f80 : Bk w13 kp (gkL kb (gmH Y)) 70 := (f66.kept k13 (by have := f56.lt; omega))
          have f81 : Bk w13 kb (keyL kx (KW Y)) 61 := (f67.kept k13 (by have := f57.lt; omega))
          have f82 : Bk w13 op (gkL ob (gmH Y)) 70 := (f68.kept k13 (by have := f58.lt; omega))
          have f83 : Bk w13 ob (keyL ox (KW Y)) 61 := (f69.kept k13 (by have := f59.lt; omega))
          have o84 : Gt w13 := (o70.kept k13 (by have := o60.lt; omega))
          have o85 : Sx w13 kx := (o71.kept k13 (by have := o61.lt; omega))
          have o86 : Sx w13 ox := (o72.kept k13 (by have := o62.lt; omega))
          have ob87 := (ob73.past lm75 k13)
          refine ⟨⟨kk13, f78, f79, f80, f81, f82, f83, o84, o85, o86, ob87⟩, ?_⟩
          refine D_one 7 (by kernel_rfl) (Nx_lo rfl (lo_app (X := ([] : List Nat) ++ ((sealB Y N M D).take M.length)) (Y := G) p13.ob p13.ob.le.1 rfl rfl bG.1 (Bs.ofBk f79 bG) (by simp; omega) (Nat.le_trans z77 k13.size)) rfl ?_)
          rintro _ w14 ⟨A_14, c_14, rfl, p14⟩
          have k14 := p14.kp
          have kk14 := kk13.trans k14 (fun i hi => .inr (Nat.le_trans (kk11).size hi))
          have f88 : Bk w14 pc ([.slice A0 (Y.length) (c0), .slice A1 (N.length) (c1), .slice A2 (D.length) (c2)]) 45 := (f78.kept k14 (by have := f54.lt; omega))
          have f89 : Bk w14 pt (u8s G) 23 := (f79.kept k14 (by have := f55.lt; omega))
          have f90 : Bk w14 kp (gkL kb (gmH Y)) 70 := (f80.kept k14 (by have := f56.lt; omega))
          have f91 : Bk w14 kb (keyL kx (KW Y)) 61 := (f81.kept k14 (by have := f57.lt; omega))
          have f92 : Bk w14 op (gkL ob (gmH Y)) 70 := (f82.kept k14 (by have := f58.lt; omega))
          have f93 : Bk w14 ob (keyL ox (KW Y)) 61 := (f83.kept k14 (by have := f59.lt; omega))
          have o94 : Gt w14 := (o84.kept k14 (by have := o60.lt; omega))
          have o95 : Sx w14 kx := (o85.kept k14 (by have := o61.lt; omega))
          have o96 : Sx w14 ox := (o86.kept k14 (by have := o62.lt; omega))
          have ob97 := (ob87.past lm75 k14)
          refine ⟨⟨kk14, f88, f89, f90, f91, f92, f93, o94, o95, o96, ob97⟩, ?_⟩
          refine D_take 8 rfl (by kernel_rfl) (by kernel_rfl) (by kernel_rfl) (fun _ _ _ h => h) rfl (fun W hS => pu_assign rfl) ?_
          refine D_done (by kernel_rfl) ?_
          refine X_then hK43 ?_
          refine C_seq (fun K98 hK98 => ?_)
          have ob99 := (((ob63.keptNo k12).past lm76 k13).past lm76 k14)
          refine D_begin (fun W => Kp No w W ∧ Bk W pc ([.slice A0 (Y.length) (c0), .slice A1 (N.length) (c1), .slice A2 (D.length) (c2)]) 45 ∧ Bk W pt (u8s G) 23 ∧ Bk W kp (gkL kb (gmH Y)) 70 ∧ Bk W kb (keyL kx (KW Y)) 61 ∧ Bk W op (gkL ob (gmH Y)) 70 ∧ Bk W ob (keyL ox (KW Y)) 61 ∧ Gt W ∧ Sx W kx ∧ Sx W ox ∧ Ob W w8.heap.size (.slice A_sa ((sealB Y N M D).length) (c_sa)) (sealB Y N M D) ∧ Ob W w9.heap.size (.slice A_pl ((cphB Y N ((sealB Y N M D).take ((sealB Y N M D).length - 16))).length) (c_pl)) (cphB Y N ((sealB Y N M D).take ((sealB Y N M D).length - 16))) ∧ Ob W w11.heap.size (.slice A_14 (((([] : List Nat) ++ ((sealB Y N M D).take M.length)) ++ G).length) (c_14)) ((([] : List Nat) ++ ((sealB Y N M D).take M.length)) ++ G)) 28 rfl (by kernel_rfl) ⟨kk14.drew, f88.draw, f89.draw, f90.draw, f91.draw, f92.draw, f93.draw, o94.draw, o95.draw, o96.draw, ob97.draw, ob99.draw, p14.ob.draw⟩ ?_
          intro w15 k15 _
          have kk15 := kk14.then_ k15
          refine D_take 0 rfl (by kernel_rfl) (by kernel_rfl) (by kernel_rfl) (fun _ _ _ h => h) rfl (fun W hS => pu_move rfl) ?_
          refine D_take 1 rfl (by kernel_rfl) (by kernel_rfl) (by kernel_rfl) (fun _ _ _ h => h) rfl (fun W hS => pu_eqlnn (by kernel_rfl) rfl) ?_
          refine D_take 2 rfl (by kernel_rfl) (by kernel_rfl) (by kernel_rfl) (fun _ _ _ h => h) rfl (fun W hS => pu_move rfl) ?_
          refine D_gtake 3 rfl rfl rfl (by kernel_rfl) (by kernel_rfl) (by kernel_rfl) (fun _ _ _ h => h) rfl (fun W hS => pu_move rfl) ?_
          refine D_gtake 4 rfl rfl rfl (by kernel_rfl) (by kernel_rfl) (by kernel_rfl) (fun _ _ _ h => h) rfl (fun W hS => pu_bstr hS.2.2.2.2.2.2.2.2.2.2.2.1.bs Tryd.underlying22 Tryd.underlying5 Tryd.underlying9 rfl rfl) ?_
          refine D_gtake 5 rfl rfl rfl (by kernel_rfl) (by kernel_rfl) (by kernel_rfl) (fun _ _ _ h => h) rfl (fun W hS => pu_move rfl) ?_
          refine D_gtake 6 rfl rfl rfl (by kernel_rfl) (by kernel_rfl) (by kernel_rfl) (fun _ _ _ h => h) rfl (fun W hS => pu_bstr (HM.keptNo hS.1) Tryd.underlying22 Tryd.underlying5 Tryd.underlying9 rfl rfl) ?_
          refine D_gtake 7 rfl rfl rfl (by kernel_rfl) (by kernel_rfl) (by kernel_rfl) (fun _ _ _ h => h) rfl (fun W hS => pu_true (pu_eqls (p := (cphB Y N ((sealB Y N M D).take ((sealB Y N M D).length - 16))) = M) rfl rfl (bstr_inj (hS.2.2.2.2.2.2.2.2.2.2.2.1.bs).byte ((HM.keptNo kk15)).byte)) (seal_open bN)) ?_
          refine D_take 8 rfl (by kernel_rfl) (by kernel_rfl) (by kernel_rfl) (fun _ _ _ h => h) rfl (fun W hS => pu_pickt rfl rfl) ?_
          refine D_take 9 rfl (by kernel_rfl) (by kernel_rfl) (by kernel_rfl) (fun _ _ _ h => h) rfl (fun W hS => pu_move rfl) ?_
          refine D_gtake 10 rfl rfl rfl (by kernel_rfl) (by kernel_rfl) (by kernel_rfl) (fun _ _ _ h => h) rfl (fun W hS => pu_move rfl) ?_
          refine D_gtake 11 rfl rfl rfl (by kernel_rfl) (by kernel_rfl) (by kernel_rfl) (fun _ _ _ h => h) rfl (fun W hS => pu_fieldAddr (off := 1) (o' := 1) (by kernel_rfl) rfl rfl) ?_
          refine D_gtake 12 rfl rfl rfl (by kernel_rfl) (by kernel_rfl) (by kernel_rfl) (fun _ _ _ h => h) rfl (fun W hS => pu_loadK hS.2.1 (by kernel_rfl) rfl rfl) ?_
          refine D_gtake 13 rfl rfl rfl (by kernel_rfl) (by kernel_rfl) (by kernel_rfl) (fun _ _ _ h => h) rfl (fun W hS => pu_move rfl) ?_
          refine D_gtake 14 rfl rfl rfl (by kernel_rfl) (by kernel_rfl) (by kernel_rfl) (fun _ _ _ h => h) rfl (fun W hS => pu_fieldAddr (off := 2) (o' := 2) (by kernel_rfl) rfl rfl) ?_
          refine D_gtake 15 rfl rfl rfl (by kernel_rfl) (by kernel_rfl) (by kernel_rfl) (fun _ _ _ h => h) rfl (fun W hS => pu_loadK hS.2.1 (by kernel_rfl) rfl rfl) ?_
          refine D_gtake 17 rfl rfl rfl (by kernel_rfl) (by kernel_rfl) (by kernel_rfl) (fun _ _ _ h => h) rfl (fun W hS => pu_move rfl) ?_
          refine D_gtake 18 rfl rfl rfl (by kernel_rfl) (by kernel_rfl) (by kernel_rfl) (fun _ _ _ h => h) rfl (fun W hS => pu_bstr hS.2.2.2.2.2.2.2.2.2.2.2.2.bs Tryd.underlying22 Tryd.underlying5 Tryd.underlying9 rfl rfl) ?_
          refine D_gtake 19 rfl rfl rfl (by kernel_rfl) (by kernel_rfl) (by kernel_rfl) (fun _ _ _ h => h) rfl (fun W hS => pu_move rfl) ?_
          refine D_gtake 20 rfl rfl rfl (by kernel_rfl) (by kernel_rfl) (by kernel_rfl) (fun _ _ _ h => h) rfl (fun W hS => pu_bstr hS.2.2.2.2.2.2.2.2.2.2.1.bs Tryd.underlying22 Tryd.underlying5 Tryd.underlying9 rfl rfl) ?_
          refine D_gtake 21 rfl rfl rfl (by kernel_rfl) (by kernel_rfl) (by kernel_rfl) (fun _ _ _ h => h) rfl (fun W hS => pu_eqls (p := ((([] : List Nat) ++ ((sealB Y N M D).take M.length)) ++ G) = (sealB Y N M D)) rfl rfl (bstr_inj (hS.2.2.2.2.2.2.2.2.2.2.2.2.bs).byte (hS.2.2.2.2.2.2.2.2.2.2.1.bs).byte)) ?_
          have f100 : Bk w15 kp (gkL kb (gmH Y)) 70 := (f90.no k15)
          have f101 : Bk w15 kb (keyL kx (KW Y)) 61 := (f91.no k15)
          have o102 : Sx w15 kx := (o95.no k15)
          have ob103 := (p14.ob.keptNo k15)
          refine D_one 16 (by kernel_rfl) (Nx_glo rfl rfl rfl (lo_call (by kernel_rfl) rfl (gcm_opens kp kb kx Y A1 N c1 A_14 ((([] : List Nat) ++ ((sealB Y N M D).take M.length)) ++ G) c_14 A2 D c2 _ bK_kp n1_7 n2_7 n3_7 f100 f101 o102 bN (HN.keptNo kk15) hn (HN.aw (Nat.le_trans kk2.size lx7)) ob103.bs ob103.le.2 (Aw.ofOb ob103 (by have := o61.lt; omega)) (HD.keptNo kk15) hd (HD.aw (Nat.le_trans kk2.size lx7)) ⟨by simp; omega, by omega⟩)) rfl ?_)
          rintro _ w16 ⟨rfl, T16, k16⟩
          have kk16 := kk15.trans k16 (fun i hi => .inr (hi ▸ (Nat.le_trans kk2.size lx7)))
          have f104 : Bk w16 pc ([.slice A0 (Y.length) (c0), .slice A1 (N.length) (c1), .slice A2 (D.length) (c2)]) 45 := ((f88.no k15).on k16 (Ne.symm ne_kx_pc))
          have f105 : Bk w16 pt (u8s G) 23 := ((f89.no k15).on k16 (Ne.symm ne_kx_pt))
          have f106 : Bk w16 kp (gkL kb (gmH Y)) 70 := (f100.on k16 n2_7)
          have f107 : Bk w16 kb (keyL kx (KW Y)) 61 := (f101.on k16 n3_7)
          have f108 : Bk w16 op (gkL ob (gmH Y)) 70 := ((f92.no k15).on k16 ne_op_kx)
          have f109 : Bk w16 ob (keyL ox (KW Y)) 61 := ((f93.no k15).on k16 ne_ob_kx)
          have o110 : Gt w16 := ((o94.no k15).on k16 (Ne.symm ne_kx_0))
          have o111 : Sx w16 ox := ((o96.no k15).on k16 ne_ox_kx)
          have ob112 := ((ob97.keptNo k15).on k16 (by have := o26.lt; omega))
          have ob113 := ((ob99.keptNo k15).on k16 (by have := T9.lt; omega))
          have ob114 := (ob103.on k16 (by have := o61.lt; omega))
          refine ⟨⟨kk16, f104, f105, f106, f107, f108, f109, o110, T16, o111, ob112, ob113, ob114⟩, ?_⟩
          refine D_gtake 22 rfl rfl rfl (by kernel_rfl) (by kernel_rfl) (by kernel_rfl) (fun _ _ _ h => h) rfl (fun W hS => pu_b (pu_eqlb Tryd.underlying4 rfl rfl) (back_eq bN bG)) ?_
          refine D_take 23 rfl (by kernel_rfl) (by kernel_rfl) (by kernel_rfl) (fun _ _ _ h => h) rfl (fun W hS => pu_pickt rfl rfl) ?_
          refine D_take 24 rfl (by kernel_rfl) (by kernel_rfl) (by kernel_rfl) (fun _ _ _ h => h) rfl (fun W hS => pu_move rfl) ?_
          refine D_one 25 (by kernel_rfl) (Nx_glo rfl rfl rfl (lo_call (by kernel_rfl) rfl (sure11 _ o110)) rfl ?_)
          rintro _ w17 ⟨rfl, k17⟩
          have kk17 := kk16.then_ k17
          have f115 : Bk w17 pc ([.slice A0 (Y.length) (c0), .slice A1 (N.length) (c1), .slice A2 (D.length) (c2)]) 45 := (f104.no k17)
          have f116 : Bk w17 pt (u8s G) 23 := (f105.no k17)
          have f117 : Bk w17 kp (gkL kb (gmH Y)) 70 := (f106.no k17)
          have f118 : Bk w17 kb (keyL kx (KW Y)) 61 := (f107.no k17)
          have f119 : Bk w17 op (gkL ob (gmH Y)) 70 := (f108.no k17)
          have f120 : Bk w17 ob (keyL ox (KW Y)) 61 := (f109.no k17)
          have o121 : Gt w17 := (o110.no k17)
          have o122 : Sx w17 kx := (T16.no k17)
          have o123 : Sx w17 ox := (o111.no k17)
          have ob124 := (ob112.keptNo k17)
          have ob125 := (ob113.keptNo k17)
          have ob126 := (ob114.keptNo k17)
          refine ⟨⟨kk17, f115, f116, f117, f118, f119, f120, o121, o122, o123, ob124, ob125, ob126⟩, ?_⟩
          refine D_take 26 rfl (by kernel_rfl) (by kernel_rfl) (by kernel_rfl) (fun _ _ _ h => h) rfl (fun W hS => pu_pickt rfl rfl) ?_
          refine D_take 27 rfl (by kernel_rfl) (by kernel_rfl) (by kernel_rfl) (fun _ _ _ h => h) rfl (fun W hS => pu_assign rfl) ?_
          refine D_done (by kernel_rfl) ?_
          refine X_then hK98 ?_
          refine C_ret ?_
          exact X_ret1 (.inl rfl) rfl rfl ⟨rfl, kk17⟩
set_option maxRecDepth 100000 in
set_option maxHeartbeats 2000000 in
theorem gcmFlips_ (A0 : Option Addr) (Y : List Nat) (c0 : Nat) (A1 : Option Addr) (N : List Nat) (c1 : Nat) (A2 : Option Addr) (D : List Nat) (c2 : Nat) (A3 : Option Addr) (M : List Nat) (c3 : Nat) (z : Int) (hz : (Lit.int .i64 z).wf = true) (w : World) (HY : Bs w A0 Y) (hy : Y.length ≤ c0) (HN : Bs w A1 N) (hn : N.length ≤ c1) (HD : Bs w A2 D) (hd : D.length ≤ c2) (HM : Bs w A3 M) (hm : M.length ≤ c3) (hG : Gt w) : Ret Tryd.prog 6 #[.agg ([.slice A0 (Y.length) (c0), .slice A1 (N.length) (c1), .slice A2 (D.length) (c2)] : List Value).toArray, .slice A3 (M.length) (c3), .int .i64 (z)] w (fun v w' => v = .bool true ∧ Kp No w w') := by
  have kk0 := Kp.refl No w
  refine enter (n := 91) [.agg ([.slice A0 (Y.length) (c0), .slice A1 (N.length) (c1), .slice A2 (D.length) (c2)] : List Value).toArray, .slice A3 (M.length) (c3), .int .i64 (z)] Tryd.func6 rfl rfl rfl ?_
  show Cw _ _ _ _ [(0, .agg ([.slice A0 (Y.length) (c0), .slice A1 (N.length) (c1), .slice A2 (D.length) (c2)] : List Value).toArray), (1, .slice A3 (M.length) (c3)), (2, .int .i64 (z))] _
  refine C_seq (fun K1 hK1 => ?_)
  refine C_region ?_
  refine R_lo (lo_box (L := [.slice A0 (Y.length) (c0), .slice A1 (N.length) (c1), .slice A2 (D.length) (c2)]) rfl rfl) rfl ?_
  rintro _ w1 ⟨pc, rfl, N1⟩
  have k1 := N1.kp
  have kk1 := kk0.then_ k1
  have ne_pc_0 : pc ≠ 0 := Nat.ne_of_gt (Nat.lt_of_lt_of_le hG.lt N1.le)
  have f_pc_1 : Bk w1 pc ([.slice A0 (Y.length) (c0), .slice A1 (N.length) (c1), .slice A2 (D.length) (c2)]) 45 := N1.bk
  refine R_pu (pu_assign rfl) rfl ?_
  refine R_nil ?_
  refine X_then hK1 ?_
  refine C_seq (fun K2 hK2 => ?_)
  refine C_seq (fun K3 hK3 => ?_)
  refine C_region ?_
  refine R_pu (pu_fieldAddr (off := 0) (o' := 0) (by kernel_rfl) rfl rfl) rfl ?_
  refine R_pu (pu_loadK f_pc_1 (by kernel_rfl) rfl rfl) rfl ?_
  refine R_pu (pu_len Tryd.underlying22 rfl) rfl ?_
  refine R_pu (pu_neq (p := Y.length = 32) rfl rfl (by omega)) rfl ?_
  by_cases g1_4 : ¬ (Y.length = 32)
  · refine R_pu (pu_true (pu_move rfl) g1_4) rfl ?_
    refine R_gno rfl rfl rfl rfl ?_
    refine R_gno rfl rfl rfl rfl ?_
    refine R_gno rfl rfl rfl rfl ?_
    refine R_gno rfl rfl rfl rfl ?_
    refine R_pu (pu_pickt rfl rfl) rfl ?_
    refine R_pu (pu_move rfl) rfl ?_
    refine R_gno rfl rfl rfl rfl ?_
    refine R_gno rfl rfl rfl rfl ?_
    refine R_gno rfl rfl rfl rfl ?_
    refine R_pu (pu_pickt rfl rfl) rfl ?_
    refine R_pu (pu_move rfl) rfl ?_
    refine R_gno rfl rfl rfl rfl ?_
    refine R_gno rfl rfl rfl rfl ?_
    refine R_gno rfl rfl rfl rfl ?_
    refine R_gno rfl rfl rfl rfl ?_
    refine R_pu (pu_pickt rfl rfl) rfl ?_
    refine R_nil ?_
    refine X_then hK3 ?_
    refine C_true rfl ?_
    refine C_seq (fun K4 hK4 => ?_)
    refine C_region ?_
    have o5 : Gt w1 := (hG.no k1)
    refine R_lo (lo_call (by kernel_rfl) rfl (sure11 _ o5)) rfl ?_
    rintro _ w2 ⟨rfl, k2⟩
    have kk2 := kk1.then_ k2
    refine R_pu (pu_assign rfl) rfl ?_
    refine R_nil ?_
    refine X_then hK4 ?_
    refine C_ret ?_
    refine X_then_ret ?_
    exact X_ret1 (.inl rfl) rfl rfl ⟨rfl, kk2⟩
  · refine R_pu (pu_false (pu_move rfl) g1_4) rfl ?_
    refine R_gpu rfl rfl (pu_fieldAddr (off := 1) (o' := 1) (by kernel_rfl) rfl rfl) rfl ?_
    refine R_gpu rfl rfl (pu_loadK f_pc_1 (by kernel_rfl) rfl rfl) rfl ?_
    refine R_gpu rfl rfl (pu_len Tryd.underlying22 rfl) rfl ?_
    refine R_gpu rfl rfl (pu_neq (p := N.length = 12) rfl rfl (by omega)) rfl ?_
    refine R_pu (pu_pickf rfl rfl) rfl ?_
    by_cases g1_10 : ¬ (N.length = 12)
    · refine R_pu (pu_true (pu_move rfl) g1_10) rfl ?_
      refine R_gno rfl rfl rfl rfl ?_
      refine R_gno rfl rfl rfl rfl ?_
      refine R_gno rfl rfl rfl rfl ?_
      refine R_pu (pu_pickt rfl rfl) rfl ?_
      refine R_pu (pu_move rfl) rfl ?_
      refine R_gno rfl rfl rfl rfl ?_
      refine R_gno rfl rfl rfl rfl ?_
      refine R_gno rfl rfl rfl rfl ?_
      refine R_gno rfl rfl rfl rfl ?_
      refine R_pu (pu_pickt rfl rfl) rfl ?_
      refine R_nil ?_
      refine X_then hK3 ?_
      refine C_true rfl ?_
      refine C_seq (fun K6 hK6 => ?_)
      refine C_region ?_
      have o7 : Gt w1 := (hG.no k1)
      refine R_lo (lo_call (by kernel_rfl) rfl (sure11 _ o7)) rfl ?_
      rintro _ w3 ⟨rfl, k3⟩
      have kk3 := kk1.then_ k3
      refine R_pu (pu_assign rfl) rfl ?_
      refine R_nil ?_
      refine X_then hK6 ?_
      refine C_ret ?_
      refine X_then_ret ?_
      exact X_ret1 (.inl rfl) rfl rfl ⟨rfl, kk3⟩
    · refine R_pu (pu_false (pu_move rfl) g1_10) rfl ?_
      refine R_gpu rfl rfl (pu_move rfl) rfl ?_
      refine R_gpu rfl rfl (pu_len Tryd.underlying22 rfl) rfl ?_
      refine R_gpu rfl rfl (pu_gtr (p := M.length > 300) rfl rfl (by omega)) rfl ?_
      refine R_pu (pu_pickf rfl rfl) rfl ?_
      by_cases g1_15 : M.length > 300
      · refine R_pu (pu_true (pu_move rfl) g1_15) rfl ?_
        refine R_gno rfl rfl rfl rfl ?_
        refine R_gno rfl rfl rfl rfl ?_
        refine R_gno rfl rfl rfl rfl ?_
        refine R_gno rfl rfl rfl rfl ?_
        refine R_pu (pu_pickt rfl rfl) rfl ?_
        refine R_nil ?_
        refine X_then hK3 ?_
        refine C_true rfl ?_
        refine C_seq (fun K8 hK8 => ?_)
        refine C_region ?_
        have o9 : Gt w1 := (hG.no k1)
        refine R_lo (lo_call (by kernel_rfl) rfl (sure11 _ o9)) rfl ?_
        rintro _ w4 ⟨rfl, k4⟩
        have kk4 := kk1.then_ k4
        refine R_pu (pu_assign rfl) rfl ?_
        refine R_nil ?_
        refine X_then hK8 ?_
        refine C_ret ?_
        refine X_then_ret ?_
        exact X_ret1 (.inl rfl) rfl rfl ⟨rfl, kk4⟩
      · refine R_pu (pu_false (pu_move rfl) g1_15) rfl ?_
        refine R_gpu rfl rfl (pu_fieldAddr (off := 2) (o' := 2) (by kernel_rfl) rfl rfl) rfl ?_
        refine R_gpu rfl rfl (pu_loadK f_pc_1 (by kernel_rfl) rfl rfl) rfl ?_
        refine R_gpu rfl rfl (pu_len Tryd.underlying22 rfl) rfl ?_
        refine R_gpu rfl rfl (pu_gtr (p := D.length > 300) rfl rfl (by omega)) rfl ?_
        refine R_pu (pu_pickf rfl rfl) rfl ?_
        refine R_nil ?_
        refine X_then hK3 ?_
        refine C_dec rfl (fun h32 => ?_) (fun h32 => ?_)
        · refine C_seq (fun K10 hK10 => ?_)
          refine C_region ?_
          have o11 : Gt w1 := (hG.no k1)
          refine R_lo (lo_call (by kernel_rfl) rfl (sure11 _ o11)) rfl ?_
          rintro _ w5 ⟨rfl, k5⟩
          have kk5 := kk1.then_ k5
          refine R_pu (pu_assign rfl) rfl ?_
          refine R_nil ?_
          refine X_then hK10 ?_
          refine C_ret ?_
          refine X_then_ret ?_
          exact X_ret1 (.inl rfl) rfl rfl ⟨rfl, kk5⟩
        · refine C_skip ?_
          refine X_then hK2 ?_
          refine C_seq (fun K12 hK12 => ?_)
          have hY32 : Y.length = 32 := by omega
          have bN : By 12 N := ⟨by omega, HN.byte⟩
          refine C_region ?_
          refine R_pu (pu_fieldAddr (off := 0) (o' := 0) (by kernel_rfl) rfl rfl) rfl ?_
          refine R_pu (pu_loadK f_pc_1 (by kernel_rfl) rfl rfl) rfl ?_
          have o13 : Gt w1 := (hG.no k1)
          have bK_kp : By 32 Y := ⟨(by omega), HY.byte⟩
          have wy_kb : Wy (KW Y) := KW_wy bK_kp.2
          refine R_lo (lo_call (by kernel_rfl) rfl (gcm_new A0 Y c0 _ (HY.keptNo kk1) hy bK_kp.1)) rfl ?_
          rintro _ w6 ⟨kp, kb, kx, rfl, le6, lb6, lx6, n1_6, n2_6, n3_6, P6, B6, T6, k6⟩
          have kk6 := kk1.then_ k6
          have ne_kp_pc : kp ≠ pc := Nat.ne_of_gt (Nat.lt_of_lt_of_le f_pc_1.lt le6)
          have ne_kp_0 : kp ≠ 0 := Nat.ne_of_gt (Nat.lt_of_lt_of_le o13.lt le6)
          have ne_kb_pc : kb ≠ pc := Nat.ne_of_gt (Nat.lt_of_lt_of_le f_pc_1.lt lb6)
          have ne_kb_0 : kb ≠ 0 := Nat.ne_of_gt (Nat.lt_of_lt_of_le o13.lt lb6)
          have ne_kx_pc : kx ≠ pc := Nat.ne_of_gt (Nat.lt_of_lt_of_le f_pc_1.lt lx6)
          have ne_kx_0 : kx ≠ 0 := Nat.ne_of_gt (Nat.lt_of_lt_of_le o13.lt lx6)
          refine R_pu (pu_move rfl) rfl ?_
          refine R_pu (pu_extract rfl rfl) rfl ?_
          refine R_pu (pu_extract rfl rfl) rfl ?_
          refine R_pu (pu_assign rfl) rfl ?_
          refine R_pu (pu_assign rfl) rfl ?_
          refine R_nil ?_
          refine X_then hK12 ?_
          refine C_seq (fun K14 hK14 => ?_)
          refine C_seq (fun K15 hK15 => ?_)
          refine C_region ?_
          refine R_pu (pu_move rfl) rfl ?_
          refine R_pu (pu_neqnn (by kernel_rfl) rfl) rfl ?_
          refine R_nil ?_
          refine X_then hK15 ?_
          refine C_false rfl ?_
          refine C_skip ?_
          refine X_then hK14 ?_
          refine C_seq (fun K16 hK16 => ?_)
          refine C_region ?_
          refine R_pu (pu_move rfl) rfl ?_
          refine R_pu (pu_fieldAddr (off := 1) (o' := 1) (by kernel_rfl) rfl rfl) rfl ?_
          have f17 : Bk w6 pc ([.slice A0 (Y.length) (c0), .slice A1 (N.length) (c1), .slice A2 (D.length) (c2)]) 45 := (f_pc_1.no k6)
          refine R_pu (pu_loadK f17 (by kernel_rfl) rfl rfl) rfl ?_
          refine R_pu (pu_move rfl) rfl ?_
          refine R_pu (pu_fieldAddr (off := 2) (o' := 2) (by kernel_rfl) rfl rfl) rfl ?_
          refine R_pu (pu_loadK f17 (by kernel_rfl) rfl rfl) rfl ?_
          have o18 : Gt w6 := (o13.no k6)
          refine R_lo (lo_call (by kernel_rfl) rfl (gcm_seal kp kb kx Y A1 N c1 A3 M c3 A2 D c2 _ bK_kp n1_6 n2_6 n3_6 P6 B6 T6 bN (HN.keptNo kk6) hn (HN.aw (Nat.le_trans kk1.size lx6)) (HM.keptNo kk6) hm (HM.aw (Nat.le_trans kk1.size lx6)) (HD.keptNo kk6) hd (HD.aw (Nat.le_trans kk1.size lx6)) ⟨by omega, by omega⟩)) rfl ?_
          rintro _ w7 ⟨A_sa, c_sa, rfl, Q7, T7, k7⟩
          have kk7 := kk6.trans k7 (fun i hi => .inr (hi ▸ (Nat.le_trans kk1.size lx6)))
          have z19 : w6.heap.size ≤ w7.heap.size := k7.size
          refine R_pu (pu_move rfl) rfl ?_
          refine R_pu (pu_extract rfl rfl) rfl ?_
          refine R_pu (pu_extract rfl rfl) rfl ?_
          refine R_pu (pu_assign rfl) rfl ?_
          refine R_pu (pu_assign rfl) rfl ?_
          refine R_nil ?_
          refine X_then hK16 ?_
          refine C_seq (fun K20 hK20 => ?_)
          refine C_seq (fun K21 hK21 => ?_)
          refine C_region ?_
          refine R_pu (pu_move rfl) rfl ?_
          refine R_pu (pu_neqnn (by kernel_rfl) rfl) rfl ?_
          refine R_pu (pu_move rfl) rfl ?_
          refine R_gpu rfl rfl (pu_move rfl) rfl ?_
          refine R_gpu rfl rfl (pu_len Tryd.underlying22 rfl) rfl ?_
          refine R_gpu rfl rfl (pu_false (pu_lss (p := ((sealB Y N M D).length) < 16) rfl rfl (by omega)) (by rw [sealB_len bN]; omega)) rfl ?_
          refine R_pu (pu_pickf rfl rfl) rfl ?_
          refine R_nil ?_
          refine X_then hK21 ?_
          refine C_false rfl ?_
          refine C_skip ?_
          refine X_then hK20 ?_
          refine C_seq (fun K22 hK22 => ?_)
          have hsl : (sealB Y N M D).length = M.length + 16 := sealB_len bN
          refine C_region ?_
          refine R_pu (pu_move rfl) rfl ?_
          refine R_pu (pu_len Tryd.underlying22 rfl) rfl ?_
          refine R_pu (pu_sub (z := ((M.length : Nat) : Int)) rfl rfl (by rw [IntKind.wrap_i64]; omega)) rfl ?_
          refine R_pu (pu_move rfl) rfl ?_
          obtain ⟨u, hu, hul⟩ : ∃ u : Nat, (u : Int) = z % 18446744073709551616 ∧ u < 18446744073709551616 := ⟨(z % 18446744073709551616).toNat, by omega, by omega⟩
          refine R_pu (pu_conv (z := ((u : Nat) : Int)) Tryd.underlying3 Tryd.underlying54 rfl (by rw [IntKind.wrap_u64]; omega)) rfl ?_
          refine R_pu (pu_rem (z := ((u % 128 : Nat) : Int)) rfl rfl (by omega) (by rfl)) rfl ?_
          refine R_pu (pu_conv (z := ((u % 128 : Nat) : Int)) Tryd.underlying54 Tryd.underlying3 rfl (by rw [IntKind.wrap_i64]; omega)) rfl ?_
          refine R_pu (pu_quo (z := (((u % 128) / 8 : Nat) : Int)) rfl rfl (by omega) (by rw [Int.tdiv_eq_ediv_of_nonneg (by omega), IntKind.wrap_i64]; omega)) rfl ?_
          refine R_pu (pu_add (z := ((M.length + ((u % 128) / 8) : Nat) : Int)) rfl rfl (by rw [IntKind.wrap_i64]; omega)) rfl ?_
          refine R_pu (pu_assign rfl) rfl ?_
          refine R_nil ?_
          refine X_then hK22 ?_
          refine C_seq (fun K23 hK23 => ?_)
          obtain ⟨gs, hA_gs, hgb_gs, hgl_gs⟩ := Q7.blk (by omega)
          subst hA_gs
          have obf24 : Ob w7 w6.heap.size (.slice (some ⟨gs, 0, none⟩) ((sealB Y N M D).length) (c_sa)) (sealB Y N M D) := by exact Q7
          have ne_gs_pc : gs ≠ pc := by have := f17.lt; omega
          have ne_gs_kp : gs ≠ kp := by have := P6.lt; omega
          have ne_gs_kb : gs ≠ kb := by have := B6.lt; omega
          have ne_gs_0 : gs ≠ 0 := by have := o18.lt; omega
          have ne_gs_kx : gs ≠ kx := by have := T6.lt; omega
          refine C_region ?_
          refine R_pu (pu_move rfl) rfl ?_
          refine R_pu (pu_move rfl) rfl ?_
          refine R_pu (pu_move rfl) rfl ?_
          refine R_pu (pu_move rfl) rfl ?_
          refine R_pu (pu_indexAddrP (m := M.length + ((u % 128) / 8)) (s := 1) (o' := M.length + ((u % 128) / 8)) Tryd.underlying22 (by kernel_rfl) rfl rfl rfl (by omega) (by omega)) rfl ?_
          obtain ⟨a, e_a⟩ : ∃ q_, ((sealB Y N M D))[M.length + ((u % 128) / 8)]? = some q_ := ⟨_, List.getElem?_eq_getElem (by omega)⟩
          have b_a : a < 256 := obf24.byte _ (List.mem_of_getElem? e_a)
          refine R_pu (pu_load (by kernel_rfl) rfl (Ob.cellF obf24 e_a)) rfl ?_
          refine R_pu (pu_move rfl) rfl ?_
          refine R_pu (pu_conv (z := ((u : Nat) : Int)) Tryd.underlying3 Tryd.underlying54 rfl (by rw [IntKind.wrap_u64]; omega)) rfl ?_
          refine R_pu (pu_rem (z := ((u % 8 : Nat) : Int)) rfl rfl (by omega) (by rfl)) rfl ?_
          refine R_pu (pu_shl (m := u % 8) (z := ((1 * 2 ^ (u % 8) % 256 : Nat) : Int)) rfl rfl (shl_nat_u8 1 (u % 8) (by omega))) rfl ?_
          refine R_pu (pu_xor rfl rfl (u8_xor_nat a (1 * 2 ^ (u % 8) % 256) b_a (Nat.mod_lt _ (by decide)))) rfl ?_
          refine R_pu (pu_indexAddrP (m := M.length + ((u % 128) / 8)) (s := 1) (o' := M.length + ((u % 128) / 8)) Tryd.underlying22 (by kernel_rfl) rfl rfl rfl (by omega) (by omega)) rfl ?_
          refine R_lo0 (lo_storeFix obf24 (by kernel_rfl) rfl rfl (by omega) (Nat.xor_lt_two_pow (n := 8) b_a (Nat.mod_lt _ (by decide)))) ?_
          rintro _ w8 kf8
          obtain ⟨q8, k8⟩ := kf8
          have kk8 := kk7.trans k8 (fun i hi => .inr (hi ▸ (Nat.le_trans (kk6).size hgb_gs)))
          refine R_nil ?_
          refine X_then hK23 ?_
          refine C_seq (fun K25 hK25 => ?_)
          refine C_region ?_
          refine R_pu (pu_move rfl) rfl ?_
          refine R_pu (pu_fieldAddr (off := 1) (o' := 1) (by kernel_rfl) rfl rfl) rfl ?_
          have f26 : Bk w8 pc ([.slice A0 (Y.length) (c0), .slice A1 (N.length) (c1), .slice A2 (D.length) (c2)]) 45 := ((f17.on k7 (Ne.symm ne_kx_pc)).on k8 (Ne.symm ne_gs_pc))
          refine R_pu (pu_loadK f26 (by kernel_rfl) rfl rfl) rfl ?_
          refine R_pu (pu_move rfl) rfl ?_
          refine R_pu (pu_fieldAddr (off := 2) (o' := 2) (by kernel_rfl) rfl rfl) rfl ?_
          refine R_pu (pu_loadK f26 (by kernel_rfl) rfl rfl) rfl ?_
          have f27 : Bk w8 kp (gkL kb (gmH Y)) 70 := ((P6.on k7 n2_6).on k8 (Ne.symm ne_gs_kp))
          have f28 : Bk w8 kb (keyL kx (KW Y)) 61 := ((B6.on k7 n3_6).on k8 (Ne.symm ne_gs_kb))
          have o29 : Sx w8 kx := (T7.on k8 (Ne.symm ne_gs_kx))
          refine R_lo (lo_callE (by kernel_rfl) rfl (by rw [q8.le.1] <;> rfl) (gcm_opens kp kb kx Y A1 N c1 (some ⟨gs, 0, none⟩) ((sealB Y N M D).set (M.length + ((u % 128) / 8)) (a ^^^ (1 * 2 ^ (u % 8) % 256))) c_sa A2 D c2 _ bK_kp n1_6 n2_6 n3_6 f27 f28 o29 bN (HN.keptNo kk8) hn (HN.aw (Nat.le_trans kk1.size lx6)) q8.bs q8.le.2 (Aw.ofOb q8 (by have := T6.lt; omega)) (HD.keptNo kk8) hd (HD.aw (Nat.le_trans kk1.size lx6)) ⟨by rw [List.length_set, hsl]; omega, by omega⟩)) rfl ?_
          rintro _ w9 ⟨rfl, T9, k9⟩
          have kk9 := kk8.trans k9 (fun i hi => .inr (hi ▸ (Nat.le_trans kk1.size lx6)))
          refine R_pu (pu_b (pu_not rfl) (by rw [decide_eq_false (flip_no bN (by omega) e_a (bit_flip (by omega)))])) rfl ?_
          refine R_pu (pu_move rfl) rfl ?_
          have o30 : Gt w9 := (((o18.on k7 (Ne.symm ne_kx_0)).on k8 (Ne.symm ne_gs_0)).on k9 (Ne.symm ne_kx_0))
          refine R_glo rfl rfl (lo_call (by kernel_rfl) rfl (sure11 _ o30)) rfl ?_
          rintro _ w10 ⟨rfl, k10⟩
          have kk10 := kk9.then_ k10
          refine R_pu (pu_pickt rfl rfl) rfl ?_
          refine R_pu (pu_assign rfl) rfl ?_
          refine R_nil ?_
          refine X_then hK25 ?_
          refine C_ret ?_
          exact X_ret1 (.inl rfl) rfl rfl ⟨rfl, kk10⟩
end Go.Proofs.YtfoenaleboodpaaDoor
