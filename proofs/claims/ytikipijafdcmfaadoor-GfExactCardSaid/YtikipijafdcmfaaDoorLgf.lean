/- The bodies of GfExact and GfPowers. -/
import Derived.Test.YtikipijafdcmfaaDoorGf
import Derived.Test.YtikipijafdcmfaaDoorRf
import Derived.Test.YtikipijafdcmfaaDoorAs
set_option linter.unusedVariables false
set_option linter.unusedSimpArgs false
namespace Go.Proofs.YtikipijafdcmfaaDoor
open Go.RowKit Gm
set_option maxRecDepth 100000 in
set_option maxHeartbeats 2000000 in
theorem num01_nil  (w : World)  : Ret Tryd.prog 13 #[.nilIface] w (fun v w' => v = .int .i64 0 ∧ Kp No w w') := by
  have kk0 := Kp.refl No w
  refine enter (n := 10) [.nilIface] Tryd.func13 rfl rfl rfl ?_
  show Cw _ _ _ _ [(0, .nilIface)] _
  refine C_seq (fun K1 hK1 => ?_)
  refine C_region ?_
  refine R_pu (pu_assign rfl) rfl ?_
  refine R_nil ?_
  refine X_then hK1 ?_
  refine C_seq (fun K2 hK2 => ?_)
  refine C_region ?_
  refine R_lo (lo_alloc (L := [.int .i64 0]) (by kernel_rfl)) rfl ?_
  rintro _ w1 ⟨p1_0, rfl, N1⟩
  have k1 := N1.kp
  have kk1 := kk0.then_ k1
  have f_p1_0_1 : Bk w1 p1_0 ([.int .i64 0]) 69 := N1.bk
  refine R_nil ?_
  refine X_then hK2 ?_
  refine C_seq (fun K3 hK3 => ?_)
  refine C_seq (fun K4 hK4 => ?_)
  refine C_region ?_
  refine R_pu (pu_move rfl) rfl ?_
  refine R_pu (pu_eqlnn (by kernel_rfl) rfl) rfl ?_
  refine R_nil ?_
  refine X_then hK4 ?_
  refine C_true rfl ?_
  refine C_seq (fun K5 hK5 => ?_)
  refine C_region ?_
  refine R_pu (pu_assign rfl) rfl ?_
  refine R_nil ?_
  refine X_then hK5 ?_
  refine C_ret ?_
  refine X_then_ret ?_
  exact X_ret1 (.inl rfl) rfl rfl ⟨rfl, kk1⟩
set_option maxRecDepth 100000 in
set_option maxHeartbeats 2000000 in
theorem num01_err (e : Int) (w : World) (hG : Gt w) : Ret Tryd.prog 13 #[.iface 69 (.int .i64 (e))] w (fun v w' => v = .int .i64 e ∧ Kp No w w') := by
  have kk0 := Kp.refl No w
  refine enter (n := 10) [.iface 69 (.int .i64 (e))] Tryd.func13 rfl rfl rfl ?_
  show Cw _ _ _ _ [(0, .iface 69 (.int .i64 (e)))] _
  refine C_seq (fun K1 hK1 => ?_)
  refine C_region ?_
  refine R_pu (pu_assign rfl) rfl ?_
  refine R_nil ?_
  refine X_then hK1 ?_
  refine C_seq (fun K2 hK2 => ?_)
  refine C_region ?_
  refine R_lo (lo_alloc (L := [.int .i64 0]) (by kernel_rfl)) rfl ?_
  rintro _ w1 ⟨p1_0, rfl, N1⟩
  have k1 := N1.kp
  have kk1 := kk0.then_ k1
  have ne_p1_0_0 : p1_0 ≠ 0 := Nat.ne_of_gt (Nat.lt_of_lt_of_le hG.lt N1.le)
  have f_p1_0_1 : Bk w1 p1_0 ([.int .i64 0]) 69 := N1.bk
  refine R_nil ?_
  refine X_then hK2 ?_
  refine C_seq (fun K3 hK3 => ?_)
  refine C_seq (fun K4 hK4 => ?_)
  refine C_region ?_
  refine R_pu (pu_move rfl) rfl ?_
  refine R_pu (pu_eqlin (by kernel_rfl) rfl rfl) rfl ?_
  refine R_nil ?_
  refine X_then hK4 ?_
  refine C_false rfl ?_
  refine C_skip ?_
  refine X_then hK3 ?_
  refine C_seq (fun K5 hK5 => ?_)
  refine C_seq (fun K6 hK6 => ?_)
  refine C_region ?_
  refine R_pu (pu_move rfl) rfl ?_
  refine R_pu (pu_makeInterface Tryd.underlying73 rfl rfl) rfl ?_
  have o7 : Gt w1 := (hG.no k1)
  refine R_lo (lo_call (by kernel_rfl) rfl (as_ret e p1_0 _ _ o7 f_p1_0_1)) rfl ?_
  rintro _ w2 ⟨rfl, B2, k2⟩
  have kk2 := kk1.trans k2 (fun i hi => .inr (hi ▸ (Nat.le_trans kk0.size N1.le)))
  refine R_nil ?_
  refine X_then hK6 ?_
  refine C_true rfl ?_
  refine C_seq (fun K8 hK8 => ?_)
  refine C_region ?_
  refine R_pu (pu_loadK B2 (by kernel_rfl) rfl rfl) rfl ?_
  refine R_pu (pu_assign rfl) rfl ?_
  refine R_nil ?_
  refine X_then hK8 ?_
  refine C_ret ?_
  refine X_then_ret ?_
  exact X_ret1 (.inl rfl) rfl rfl ⟨rfl, kk2⟩
set_option maxRecDepth 100000 in
set_option maxHeartbeats 2000000 in
theorem num02_nil  (w : World)  : Ret Tryd.prog 32 #[.nilIface] w (fun v w' => v = .int .i64 0 ∧ Kp No w w') := by
  have kk0 := Kp.refl No w
  refine enter (n := 10) [.nilIface] Tryd.func32 rfl rfl rfl ?_
  show Cw _ _ _ _ [(0, .nilIface)] _
  refine C_seq (fun K1 hK1 => ?_)
  refine C_region ?_
  refine R_pu (pu_assign rfl) rfl ?_
  refine R_nil ?_
  refine X_then hK1 ?_
  refine C_seq (fun K2 hK2 => ?_)
  refine C_region ?_
  refine R_lo (lo_alloc (L := [.int .i64 0]) (by kernel_rfl)) rfl ?_
  rintro _ w1 ⟨p1_0, rfl, N1⟩
  have k1 := N1.kp
  have kk1 := kk0.then_ k1
  have f_p1_0_1 : Bk w1 p1_0 ([.int .i64 0]) 69 := N1.bk
  refine R_nil ?_
  refine X_then hK2 ?_
  refine C_seq (fun K3 hK3 => ?_)
  refine C_seq (fun K4 hK4 => ?_)
  refine C_region ?_
  refine R_pu (pu_move rfl) rfl ?_
  refine R_pu (pu_eqlnn (by kernel_rfl) rfl) rfl ?_
  refine R_nil ?_
  refine X_then hK4 ?_
  refine C_true rfl ?_
  refine C_seq (fun K5 hK5 => ?_)
  refine C_region ?_
  refine R_pu (pu_assign rfl) rfl ?_
  refine R_nil ?_
  refine X_then hK5 ?_
  refine C_ret ?_
  refine X_then_ret ?_
  exact X_ret1 (.inl rfl) rfl rfl ⟨rfl, kk1⟩
set_option maxRecDepth 100000 in
set_option maxHeartbeats 2000000 in
theorem num02_err (e : Int) (w : World) (hG : Gt w) : Ret Tryd.prog 32 #[.iface 69 (.int .i64 (e))] w (fun v w' => v = .int .i64 e ∧ Kp No w w') := by
  have kk0 := Kp.refl No w
  refine enter (n := 10) [.iface 69 (.int .i64 (e))] Tryd.func32 rfl rfl rfl ?_
  show Cw _ _ _ _ [(0, .iface 69 (.int .i64 (e)))] _
  refine C_seq (fun K1 hK1 => ?_)
  refine C_region ?_
  refine R_pu (pu_assign rfl) rfl ?_
  refine R_nil ?_
  refine X_then hK1 ?_
  refine C_seq (fun K2 hK2 => ?_)
  refine C_region ?_
  refine R_lo (lo_alloc (L := [.int .i64 0]) (by kernel_rfl)) rfl ?_
  rintro _ w1 ⟨p1_0, rfl, N1⟩
  have k1 := N1.kp
  have kk1 := kk0.then_ k1
  have ne_p1_0_0 : p1_0 ≠ 0 := Nat.ne_of_gt (Nat.lt_of_lt_of_le hG.lt N1.le)
  have f_p1_0_1 : Bk w1 p1_0 ([.int .i64 0]) 69 := N1.bk
  refine R_nil ?_
  refine X_then hK2 ?_
  refine C_seq (fun K3 hK3 => ?_)
  refine C_seq (fun K4 hK4 => ?_)
  refine C_region ?_
  refine R_pu (pu_move rfl) rfl ?_
  refine R_pu (pu_eqlin (by kernel_rfl) rfl rfl) rfl ?_
  refine R_nil ?_
  refine X_then hK4 ?_
  refine C_false rfl ?_
  refine C_skip ?_
  refine X_then hK3 ?_
  refine C_seq (fun K5 hK5 => ?_)
  refine C_seq (fun K6 hK6 => ?_)
  refine C_region ?_
  refine R_pu (pu_move rfl) rfl ?_
  refine R_pu (pu_makeInterface Tryd.underlying73 rfl rfl) rfl ?_
  have o7 : Gt w1 := (hG.no k1)
  refine R_lo (lo_call (by kernel_rfl) rfl (as_ret e p1_0 _ _ o7 f_p1_0_1)) rfl ?_
  rintro _ w2 ⟨rfl, B2, k2⟩
  have kk2 := kk1.trans k2 (fun i hi => .inr (hi ▸ (Nat.le_trans kk0.size N1.le)))
  refine R_nil ?_
  refine X_then hK6 ?_
  refine C_true rfl ?_
  refine C_seq (fun K8 hK8 => ?_)
  refine C_region ?_
  refine R_pu (pu_loadK B2 (by kernel_rfl) rfl rfl) rfl ?_
  refine R_pu (pu_assign rfl) rfl ?_
  refine R_nil ?_
  refine X_then hK8 ?_
  refine C_ret ?_
  refine X_then_ret ?_
  exact X_ret1 (.inl rfl) rfl rfl ⟨rfl, kk2⟩
set_option maxRecDepth 100000 in
set_option maxHeartbeats 2000000 in
theorem sure01  (w : World)  : Ret Tryd.prog 17 #[] w (fun v w' => v = .bool true ∧ Kp No w w') := by
  have kk0 := Kp.refl No w
  refine enter (n := 40) [] Tryd.func17 rfl rfl rfl ?_
  show Cw _ _ _ _ [] _
  refine C_seq (fun K1 hK1 => ?_)
  refine C_region ?_
  refine R_pu (pu_assign rfl) rfl ?_
  refine R_nil ?_
  refine X_then hK1 ?_
  refine C_seq (fun K2 hK2 => ?_)
  refine C_region ?_
  refine R_lo (lo_call (by kernel_rfl) rfl (gf_new _)) rfl ?_
  rintro _ w1 ⟨b1_0, rfl, le1, T1, k1⟩
  have kk1 := kk0.then_ k1
  refine R_pu (pu_assign rfl) rfl ?_
  refine R_nil ?_
  refine X_then hK2 ?_
  refine C_seq (fun K3 hK3 => ?_)
  refine C_region ?_
  refine R_pu (pu_move rfl) rfl ?_
  refine R_lo (lo_call (by kernel_rfl) rfl (gf_inv b1_0 2 (by decide) (by decide) _ T1)) rfl ?_
  rintro _ w2 ⟨rfl, T2, k2⟩
  have kk2 := kk1.trans k2 (fun i hi => .inr (hi ▸ (Nat.le_trans kk0.size le1)))
  refine R_pu (pu_move rfl) rfl ?_
  refine R_pu (pu_extract rfl rfl) rfl ?_
  refine R_pu (pu_extract rfl rfl) rfl ?_
  refine R_pu (pu_assign rfl) rfl ?_
  refine R_pu (pu_assign rfl) rfl ?_
  refine R_nil ?_
  refine X_then hK3 ?_
  refine C_seq (fun K4 hK4 => ?_)
  refine C_region ?_
  refine R_pu (pu_move rfl) rfl ?_
  refine R_lo (lo_call (by kernel_rfl) rfl (gf_log b1_0 3 (by decide) (by decide) _ T2)) rfl ?_
  rintro _ w3 ⟨rfl, T3, k3⟩
  have kk3 := kk2.trans k3 (fun i hi => .inr (hi ▸ (Nat.le_trans kk0.size le1)))
  refine R_pu (pu_move rfl) rfl ?_
  refine R_pu (pu_extract rfl rfl) rfl ?_
  refine R_pu (pu_extract rfl rfl) rfl ?_
  refine R_pu (pu_assign rfl) rfl ?_
  refine R_pu (pu_assign rfl) rfl ?_
  refine R_nil ?_
  refine X_then hK4 ?_
  refine C_seq (fun K5 hK5 => ?_)
  refine C_region ?_
  refine R_pu (pu_move rfl) rfl ?_
  refine R_lo (lo_call (by kernel_rfl) rfl (gf_mul b1_0 87 131 (by decide) (by decide) _ T3)) rfl ?_
  rintro _ w4 ⟨rfl, T4, k4⟩
  have kk4 := kk3.trans k4 (fun i hi => .inr (hi ▸ (Nat.le_trans kk0.size le1)))
  refine R_pu (pu_true (pu_eql (p := (gmul 87 131) = 193) rfl rfl (by omega)) (by decide +kernel)) rfl ?_
  refine R_pu (pu_move rfl) rfl ?_
  refine R_glo rfl rfl (lo_call (by kernel_rfl) rfl (gf_add 5 3 (by decide) (by decide) _)) rfl ?_
  rintro _ w5 ⟨rfl, k5⟩
  have kk5 := kk4.then_ k5
  refine R_gpu rfl rfl (pu_true (pu_eql (p := (5 ^^^ 3) = 6) rfl rfl (by omega)) (by decide +kernel)) rfl ?_
  refine R_pu (pu_pickt rfl rfl) rfl ?_
  refine R_pu (pu_move rfl) rfl ?_
  refine R_gpu rfl rfl (pu_move rfl) rfl ?_
  refine R_gpu rfl rfl (pu_eqlnn (by kernel_rfl) rfl) rfl ?_
  refine R_pu (pu_pickt rfl rfl) rfl ?_
  refine R_pu (pu_move rfl) rfl ?_
  refine R_gpu rfl rfl (pu_move rfl) rfl ?_
  refine R_gpu rfl rfl (pu_eqlnn (by kernel_rfl) rfl) rfl ?_
  refine R_pu (pu_pickt rfl rfl) rfl ?_
  refine R_pu (pu_move rfl) rfl ?_
  refine R_gpu rfl rfl (pu_move rfl) rfl ?_
  refine R_gpu rfl rfl (pu_true (pu_eql (p := (gdiv 1 2) = 141) rfl rfl (by omega)) (by decide +kernel)) rfl ?_
  refine R_pu (pu_pickt rfl rfl) rfl ?_
  refine R_pu (pu_move rfl) rfl ?_
  refine R_gpu rfl rfl (pu_move rfl) rfl ?_
  refine R_gpu rfl rfl (pu_true (pu_eql (p := (glog 3) = 1) rfl rfl (by omega)) (by decide +kernel)) rfl ?_
  refine R_pu (pu_pickt rfl rfl) rfl ?_
  refine R_pu (pu_assign rfl) rfl ?_
  refine R_nil ?_
  refine X_then hK5 ?_
  refine C_ret ?_
  exact X_ret1 (.inl rfl) rfl rfl ⟨rfl, kk5⟩
set_option maxRecDepth 100000 in
set_option maxHeartbeats 2000000 in
theorem gfExact_ (x : Nat) (hx : x < 256) (y : Nat) (hy : y < 256) (w : World) (hG : Gt w) : Ret Tryd.prog 3 #[.int .u8 ((x : Nat) : Int), .int .u8 ((y : Nat) : Int)] w (fun v w' => v = .bool true ∧ Kp No w w') := by
  have kk0 := Kp.refl No w
  refine enter (n := 115) [.int .u8 ((x : Nat) : Int), .int .u8 ((y : Nat) : Int)] Tryd.func3 rfl rfl rfl ?_
  show Cw _ _ _ _ [(0, .int .u8 ((x : Nat) : Int)), (1, .int .u8 ((y : Nat) : Int))] _
  refine C_seq (fun K1 hK1 => ?_)
  refine C_region ?_
  refine R_pu (pu_assign rfl) rfl ?_
  refine R_nil ?_
  refine X_then hK1 ?_
  refine C_seq (fun K2 hK2 => ?_)
  refine C_region ?_
  refine R_lo (lo_call (by kernel_rfl) rfl (gf_new _)) rfl ?_
  rintro _ w1 ⟨b1_0, rfl, le1, T1, k1⟩
  have kk1 := kk0.then_ k1
  have ne_b1_0_0 : b1_0 ≠ 0 := Nat.ne_of_gt (Nat.lt_of_lt_of_le hG.lt le1)
  refine R_pu (pu_assign rfl) rfl ?_
  refine R_nil ?_
  refine X_then hK2 ?_
  refine C_seq (fun K3 hK3 => ?_)
  refine C_region ?_
  refine R_pu (pu_assign rfl) rfl ?_
  refine R_nil ?_
  refine X_then hK3 ?_
  refine C_seq (fun K4 hK4 => ?_)
  refine C_region ?_
  refine R_pu (pu_move rfl) rfl ?_
  refine R_lo (lo_call (by kernel_rfl) rfl (gf_inv_nil 3 _)) rfl ?_
  rintro _ w2 ⟨rfl, k2⟩
  have kk2 := kk1.then_ k2
  refine R_pu (pu_move rfl) rfl ?_
  refine R_pu (pu_extract rfl rfl) rfl ?_
  refine R_pu (pu_extract rfl rfl) rfl ?_
  refine R_pu (pu_assign rfl) rfl ?_
  refine R_pu (pu_assign rfl) rfl ?_
  refine R_nil ?_
  refine X_then hK4 ?_
  refine C_seq (fun K5 hK5 => ?_)
  refine C_region ?_
  refine R_pu (pu_move rfl) rfl ?_
  refine R_lo (lo_call (by kernel_rfl) rfl (gf_div_nil 3 5 _)) rfl ?_
  rintro _ w3 ⟨rfl, k3⟩
  have kk3 := kk2.then_ k3
  refine R_pu (pu_move rfl) rfl ?_
  refine R_pu (pu_extract rfl rfl) rfl ?_
  refine R_pu (pu_extract rfl rfl) rfl ?_
  refine R_pu (pu_assign rfl) rfl ?_
  refine R_pu (pu_assign rfl) rfl ?_
  refine R_nil ?_
  refine X_then hK5 ?_
  refine C_seq (fun K6 hK6 => ?_)
  refine C_seq (fun K7 hK7 => ?_)
  refine C_region ?_
  refine R_pu (pu_move rfl) rfl ?_
  refine R_lo (lo_call (by kernel_rfl) rfl (gf_mul_nil 3 5 _)) rfl ?_
  rintro _ w4 ⟨rfl, k4⟩
  have kk4 := kk3.then_ k4
  refine R_pu (pu_false (pu_neq (p := (0 : Nat) = 0) rfl rfl (by omega)) (by decide)) rfl ?_
  refine R_pu (pu_move rfl) rfl ?_
  refine R_gpu rfl rfl (pu_move rfl) rfl ?_
  have o8 : Gt w4 := ((((hG.no k1).no k2).no k3).no k4)
  refine R_glo rfl rfl (lo_call (by kernel_rfl) rfl (num01_err 1 _ o8)) rfl ?_
  rintro _ w5 ⟨rfl, k5⟩
  have kk5 := kk4.then_ k5
  refine R_gpu rfl rfl (pu_false (pu_neq (p := (1 : Nat) = 1) rfl rfl (by omega)) (by decide)) rfl ?_
  refine R_pu (pu_pickf rfl rfl) rfl ?_
  refine R_pu (pu_move rfl) rfl ?_
  refine R_gpu rfl rfl (pu_move rfl) rfl ?_
  have o9 : Gt w5 := (o8.no k5)
  refine R_glo rfl rfl (lo_call (by kernel_rfl) rfl (num01_err 1 _ o9)) rfl ?_
  rintro _ w6 ⟨rfl, k6⟩
  have kk6 := kk5.then_ k6
  refine R_gpu rfl rfl (pu_false (pu_neq (p := (1 : Nat) = 1) rfl rfl (by omega)) (by decide)) rfl ?_
  refine R_pu (pu_pickf rfl rfl) rfl ?_
  refine R_nil ?_
  refine X_then hK7 ?_
  refine C_false rfl ?_
  refine C_skip ?_
  refine X_then hK6 ?_
  refine C_seq (fun K10 hK10 => ?_)
  refine C_region ?_
  by_cases hz : y = 0
  · refine R_pu (pu_move rfl) rfl ?_
    refine R_pu (pu_move rfl) rfl ?_
    refine R_pu (pu_move rfl) rfl ?_
    have o11 : Tb w6 b1_0 := (((((T1.no k2).no k3).no k4).no k5).no k6)
    refine R_lo (lo_call (by kernel_rfl) rfl (gf_div0 b1_0 x y hz _ o11)) rfl ?_
    rintro _ w7 ⟨rfl, T7, k7⟩
    have kk7 := kk6.trans k7 (fun i hi => .inr (hi ▸ (Nat.le_trans kk0.size le1)))
    refine R_pu (pu_move rfl) rfl ?_
    refine R_pu (pu_extract rfl rfl) rfl ?_
    refine R_pu (pu_extract rfl rfl) rfl ?_
    refine R_pu (pu_assign rfl) rfl ?_
    refine R_pu (pu_assign rfl) rfl ?_
    refine R_nil ?_
    refine X_then hK10 ?_
    refine C_seq (fun K12 hK12 => ?_)
    refine C_region ?_
    refine R_pu (pu_move rfl) rfl ?_
    refine R_pu (pu_move rfl) rfl ?_
    refine R_lo (lo_call (by kernel_rfl) rfl (gf_inv0 b1_0 y hz _ T7)) rfl ?_
    rintro _ w8 ⟨rfl, T8, k8⟩
    have kk8 := kk7.trans k8 (fun i hi => .inr (hi ▸ (Nat.le_trans kk0.size le1)))
    refine R_pu (pu_move rfl) rfl ?_
    refine R_pu (pu_extract rfl rfl) rfl ?_
    refine R_pu (pu_extract rfl rfl) rfl ?_
    refine R_pu (pu_assign rfl) rfl ?_
    refine R_pu (pu_assign rfl) rfl ?_
    refine R_nil ?_
    refine X_then hK12 ?_
    refine C_seq (fun K13 hK13 => ?_)
    refine C_seq (fun K14 hK14 => ?_)
    have bx := xor_lt8 hx hy
    refine C_region ?_
    refine R_pu (pu_move rfl) rfl ?_
    refine R_pu (pu_move rfl) rfl ?_
    refine R_lo (lo_call (by kernel_rfl) rfl (gf_add x y hx hy _)) rfl ?_
    rintro _ w9 ⟨rfl, k9⟩
    have kk9 := kk8.then_ k9
    refine R_pu (pu_move rfl) rfl ?_
    refine R_pu (pu_conv (z := ((x : Nat) : Int)) Tryd.underlying5 Tryd.underlying3 rfl (by have : x < 256 := hx; rw [IntKind.wrap_i64]; omega)) rfl ?_
    refine R_pu (pu_move rfl) rfl ?_
    refine R_pu (pu_conv (z := ((y : Nat) : Int)) Tryd.underlying5 Tryd.underlying3 rfl (by have : y < 256 := hy; rw [IntKind.wrap_i64]; omega)) rfl ?_
    refine R_lo (lo_call (by kernel_rfl) rfl (ref_plus x y (by omega) (by omega) _)) rfl ?_
    rintro _ w10 ⟨rfl, k10⟩
    have kk10 := kk9.then_ k10
    refine R_pu (pu_conv (z := ((x ^^^ y : Nat) : Int)) Tryd.underlying3 Tryd.underlying5 rfl (by rw [IntKind.wrap_u8]; omega)) rfl ?_
    refine R_pu (pu_false (pu_neq (p := (x ^^^ y) = (x ^^^ y)) rfl rfl (by omega)) (fun h => h rfl)) rfl ?_
    refine R_pu (pu_move rfl) rfl ?_
    refine R_gpu rfl rfl (pu_move rfl) rfl ?_
    refine R_gpu rfl rfl (pu_move rfl) rfl ?_
    refine R_gpu rfl rfl (pu_move rfl) rfl ?_
    have o15 : Tb w10 b1_0 := ((T8.no k9).no k10)
    refine R_glo rfl rfl (lo_call (by kernel_rfl) rfl (gf_mul b1_0 x y hx hy _ o15)) rfl ?_
    rintro _ w11 ⟨rfl, T11, k11⟩
    have kk11 := kk10.trans k11 (fun i hi => .inr (hi ▸ (Nat.le_trans kk0.size le1)))
    refine R_gpu rfl rfl (pu_move rfl) rfl ?_
    refine R_gpu rfl rfl (pu_move rfl) rfl ?_
    refine R_glo rfl rfl (lo_call (by kernel_rfl) rfl (ref_mul x y hx hy _)) rfl ?_
    rintro _ w12 ⟨rfl, k12⟩
    have kk12 := kk11.then_ k12
    refine R_gpu rfl rfl (pu_false (pu_neq (p := (gmul x y) = (gmul x y)) rfl rfl (by omega)) (fun h => h rfl)) rfl ?_
    refine R_pu (pu_pickf rfl rfl) rfl ?_
    refine R_nil ?_
    refine X_then hK14 ?_
    refine C_false rfl ?_
    refine C_skip ?_
    refine X_then hK13 ?_
    refine C_seq (fun K16 hK16 => ?_)
    refine C_seq (fun K17 hK17 => ?_)
    refine C_region ?_
    refine R_pu (pu_move rfl) rfl ?_
    refine R_pu (pu_eql (p := y = 0) rfl rfl (by omega)) rfl ?_
    refine R_nil ?_
    refine X_then hK17 ?_
    refine C_dect rfl hz ?_
    refine C_seq (fun K18 hK18 => ?_)
    refine C_region ?_
    refine R_pu (pu_move rfl) rfl ?_
    have o19 : Gt w12 := (((((((o9.no k6).on k7 (Ne.symm ne_b1_0_0)).on k8 (Ne.symm ne_b1_0_0)).no k9).no k10).on k11 (Ne.symm ne_b1_0_0)).no k12)
    refine R_lo (lo_call (by kernel_rfl) rfl (num01_err 1 _ o19)) rfl ?_
    rintro _ w13 ⟨rfl, k13⟩
    have kk13 := kk12.then_ k13
    refine R_pu (pu_true (pu_eql (p := (1 : Nat) = 1) rfl rfl (by omega)) (by decide)) rfl ?_
    refine R_pu (pu_move rfl) rfl ?_
    refine R_gpu rfl rfl (pu_move rfl) rfl ?_
    have o20 : Gt w13 := (o19.no k13)
    refine R_glo rfl rfl (lo_call (by kernel_rfl) rfl (num01_err 1 _ o20)) rfl ?_
    rintro _ w14 ⟨rfl, k14⟩
    have kk14 := kk13.then_ k14
    refine R_gpu rfl rfl (pu_true (pu_eql (p := (1 : Nat) = 1) rfl rfl (by omega)) (by decide)) rfl ?_
    refine R_pu (pu_pickt rfl rfl) rfl ?_
    refine R_pu (pu_move rfl) rfl ?_
    refine R_gpu rfl rfl (pu_move rfl) rfl ?_
    refine R_gpu rfl rfl (pu_true (pu_eql (p := (0 : Nat) = 0) rfl rfl (by omega)) (by decide)) rfl ?_
    refine R_pu (pu_pickt rfl rfl) rfl ?_
    refine R_pu (pu_move rfl) rfl ?_
    refine R_gpu rfl rfl (pu_move rfl) rfl ?_
    refine R_gpu rfl rfl (pu_true (pu_eql (p := (0 : Nat) = 0) rfl rfl (by omega)) (by decide)) rfl ?_
    refine R_pu (pu_pickt rfl rfl) rfl ?_
    refine R_pu (pu_move rfl) rfl ?_
    refine R_glo rfl rfl (lo_call (by kernel_rfl) rfl (sure01 _)) rfl ?_
    rintro _ w15 ⟨rfl, k15⟩
    have kk15 := kk14.then_ k15
    refine R_pu (pu_pickt rfl rfl) rfl ?_
    refine R_pu (pu_assign rfl) rfl ?_
    refine R_nil ?_
    refine X_then hK18 ?_
    refine C_ret ?_
    refine X_then_ret ?_
    exact X_ret1 (.inl rfl) rfl rfl ⟨rfl, kk15⟩
  · refine R_pu (pu_move rfl) rfl ?_
    refine R_pu (pu_move rfl) rfl ?_
    refine R_pu (pu_move rfl) rfl ?_
    have o21 : Tb w6 b1_0 := (((((T1.no k2).no k3).no k4).no k5).no k6)
    refine R_lo (lo_call (by kernel_rfl) rfl (gf_div b1_0 x y hx hy hz _ o21)) rfl ?_
    rintro _ w16 ⟨rfl, T16, k16⟩
    have kk16 := kk6.trans k16 (fun i hi => .inr (hi ▸ (Nat.le_trans kk0.size le1)))
    refine R_pu (pu_move rfl) rfl ?_
    refine R_pu (pu_extract rfl rfl) rfl ?_
    refine R_pu (pu_extract rfl rfl) rfl ?_
    refine R_pu (pu_assign rfl) rfl ?_
    refine R_pu (pu_assign rfl) rfl ?_
    refine R_nil ?_
    refine X_then hK10 ?_
    refine C_seq (fun K22 hK22 => ?_)
    refine C_region ?_
    refine R_pu (pu_move rfl) rfl ?_
    refine R_pu (pu_move rfl) rfl ?_
    refine R_lo (lo_call (by kernel_rfl) rfl (gf_inv b1_0 y hy hz _ T16)) rfl ?_
    rintro _ w17 ⟨rfl, T17, k17⟩
    have kk17 := kk16.trans k17 (fun i hi => .inr (hi ▸ (Nat.le_trans kk0.size le1)))
    refine R_pu (pu_move rfl) rfl ?_
    refine R_pu (pu_extract rfl rfl) rfl ?_
    refine R_pu (pu_extract rfl rfl) rfl ?_
    refine R_pu (pu_assign rfl) rfl ?_
    refine R_pu (pu_assign rfl) rfl ?_
    refine R_nil ?_
    refine X_then hK22 ?_
    refine C_seq (fun K23 hK23 => ?_)
    refine C_seq (fun K24 hK24 => ?_)
    have bx := xor_lt8 hx hy
    refine C_region ?_
    refine R_pu (pu_move rfl) rfl ?_
    refine R_pu (pu_move rfl) rfl ?_
    refine R_lo (lo_call (by kernel_rfl) rfl (gf_add x y hx hy _)) rfl ?_
    rintro _ w18 ⟨rfl, k18⟩
    have kk18 := kk17.then_ k18
    refine R_pu (pu_move rfl) rfl ?_
    refine R_pu (pu_conv (z := ((x : Nat) : Int)) Tryd.underlying5 Tryd.underlying3 rfl (by have : x < 256 := hx; rw [IntKind.wrap_i64]; omega)) rfl ?_
    refine R_pu (pu_move rfl) rfl ?_
    refine R_pu (pu_conv (z := ((y : Nat) : Int)) Tryd.underlying5 Tryd.underlying3 rfl (by have : y < 256 := hy; rw [IntKind.wrap_i64]; omega)) rfl ?_
    refine R_lo (lo_call (by kernel_rfl) rfl (ref_plus x y (by omega) (by omega) _)) rfl ?_
    rintro _ w19 ⟨rfl, k19⟩
    have kk19 := kk18.then_ k19
    refine R_pu (pu_conv (z := ((x ^^^ y : Nat) : Int)) Tryd.underlying3 Tryd.underlying5 rfl (by rw [IntKind.wrap_u8]; omega)) rfl ?_
    refine R_pu (pu_false (pu_neq (p := (x ^^^ y) = (x ^^^ y)) rfl rfl (by omega)) (fun h => h rfl)) rfl ?_
    refine R_pu (pu_move rfl) rfl ?_
    refine R_gpu rfl rfl (pu_move rfl) rfl ?_
    refine R_gpu rfl rfl (pu_move rfl) rfl ?_
    refine R_gpu rfl rfl (pu_move rfl) rfl ?_
    have o25 : Tb w19 b1_0 := ((T17.no k18).no k19)
    refine R_glo rfl rfl (lo_call (by kernel_rfl) rfl (gf_mul b1_0 x y hx hy _ o25)) rfl ?_
    rintro _ w20 ⟨rfl, T20, k20⟩
    have kk20 := kk19.trans k20 (fun i hi => .inr (hi ▸ (Nat.le_trans kk0.size le1)))
    refine R_gpu rfl rfl (pu_move rfl) rfl ?_
    refine R_gpu rfl rfl (pu_move rfl) rfl ?_
    refine R_glo rfl rfl (lo_call (by kernel_rfl) rfl (ref_mul x y hx hy _)) rfl ?_
    rintro _ w21 ⟨rfl, k21⟩
    have kk21 := kk20.then_ k21
    refine R_gpu rfl rfl (pu_false (pu_neq (p := (gmul x y) = (gmul x y)) rfl rfl (by omega)) (fun h => h rfl)) rfl ?_
    refine R_pu (pu_pickf rfl rfl) rfl ?_
    refine R_nil ?_
    refine X_then hK24 ?_
    refine C_false rfl ?_
    refine C_skip ?_
    refine X_then hK23 ?_
    refine C_seq (fun K26 hK26 => ?_)
    refine C_seq (fun K27 hK27 => ?_)
    refine C_region ?_
    refine R_pu (pu_move rfl) rfl ?_
    refine R_pu (pu_eql (p := y = 0) rfl rfl (by omega)) rfl ?_
    refine R_nil ?_
    refine X_then hK27 ?_
    refine C_decf rfl hz ?_
    refine C_skip ?_
    refine X_then hK26 ?_
    refine C_seq (fun K28 hK28 => ?_)
    refine C_region ?_
    refine R_pu (pu_move rfl) rfl ?_
    refine R_pu (pu_eqlnn (by kernel_rfl) rfl) rfl ?_
    refine R_pu (pu_move rfl) rfl ?_
    refine R_gpu rfl rfl (pu_move rfl) rfl ?_
    refine R_gpu rfl rfl (pu_eqlnn (by kernel_rfl) rfl) rfl ?_
    refine R_pu (pu_pickt rfl rfl) rfl ?_
    refine R_pu (pu_move rfl) rfl ?_
    refine R_gpu rfl rfl (pu_move rfl) rfl ?_
    refine R_gpu rfl rfl (pu_move rfl) rfl ?_
    refine R_glo rfl rfl (lo_call (by kernel_rfl) rfl (ref_inv y hy _)) rfl ?_
    rintro _ w22 ⟨rfl, k22⟩
    have kk22 := kk21.then_ k22
    refine R_gpu rfl rfl (pu_true (pu_eql (p := (gdiv 1 y) = (iv y)) rfl rfl (by omega)) (if_neg hz).symm) rfl ?_
    refine R_pu (pu_pickt rfl rfl) rfl ?_
    refine R_pu (pu_move rfl) rfl ?_
    refine R_gpu rfl rfl (pu_move rfl) rfl ?_
    refine R_gpu rfl rfl (pu_move rfl) rfl ?_
    refine R_gpu rfl rfl (pu_move rfl) rfl ?_
    refine R_glo rfl rfl (lo_call (by kernel_rfl) rfl (ref_mul x (gdiv 1 y) hx (gdiv_lt _ _) _)) rfl ?_
    rintro _ w23 ⟨rfl, k23⟩
    have kk23 := kk22.then_ k23
    refine R_gpu rfl rfl (pu_true (pu_eql (p := (gdiv x y) = (gmul x (gdiv 1 y))) rfl rfl (by omega)) (gdiv_eq hx hy hz)) rfl ?_
    refine R_pu (pu_pickt rfl rfl) rfl ?_
    refine R_pu (pu_move rfl) rfl ?_
    refine R_glo rfl rfl (lo_call (by kernel_rfl) rfl (sure01 _)) rfl ?_
    rintro _ w24 ⟨rfl, k24⟩
    have kk24 := kk23.then_ k24
    refine R_pu (pu_pickt rfl rfl) rfl ?_
    refine R_pu (pu_assign rfl) rfl ?_
    refine R_nil ?_
    refine X_then hK28 ?_
    refine C_ret ?_
    exact X_ret1 (.inl rfl) rfl rfl ⟨rfl, kk24⟩
set_option maxRecDepth 100000 in
set_option maxHeartbeats 2000000 in
theorem gfPowers_neg (x : Nat) (hx : x < 256) (n : Int) (hn : n < 0) (w : World) (hG : Gt w) : Ret Tryd.prog 4 #[.int .u8 ((x : Nat) : Int), .int .i64 (n)] w (fun v w' => v = .bool true ∧ Kp No w w') := by
  have kk0 := Kp.refl No w
  refine enter (n := 97) [.int .u8 ((x : Nat) : Int), .int .i64 (n)] Tryd.func4 rfl rfl rfl ?_
  show Cw _ _ _ _ [(0, .int .u8 ((x : Nat) : Int)), (1, .int .i64 (n))] _
  refine C_seq (fun K1 hK1 => ?_)
  refine C_region ?_
  refine R_pu (pu_assign rfl) rfl ?_
  refine R_nil ?_
  refine X_then hK1 ?_
  refine C_seq (fun K2 hK2 => ?_)
  refine C_region ?_
  refine R_lo (lo_call (by kernel_rfl) rfl (gf_new _)) rfl ?_
  rintro _ w1 ⟨b1_0, rfl, le1, T1, k1⟩
  have kk1 := kk0.then_ k1
  have ne_b1_0_0 : b1_0 ≠ 0 := Nat.ne_of_gt (Nat.lt_of_lt_of_le hG.lt le1)
  refine R_pu (pu_assign rfl) rfl ?_
  refine R_nil ?_
  refine X_then hK2 ?_
  refine C_seq (fun K3 hK3 => ?_)
  refine C_region ?_
  refine R_pu (pu_assign rfl) rfl ?_
  refine R_nil ?_
  refine X_then hK3 ?_
  refine C_seq (fun K4 hK4 => ?_)
  refine C_region ?_
  refine R_pu (pu_move rfl) rfl ?_
  refine R_lo (lo_call (by kernel_rfl) rfl (gf_pow_nil 1 1 _)) rfl ?_
  rintro _ w2 ⟨rfl, k2⟩
  have kk2 := kk1.then_ k2
  refine R_pu (pu_move rfl) rfl ?_
  refine R_pu (pu_extract rfl rfl) rfl ?_
  refine R_pu (pu_extract rfl rfl) rfl ?_
  refine R_pu (pu_assign rfl) rfl ?_
  refine R_pu (pu_assign rfl) rfl ?_
  refine R_nil ?_
  refine X_then hK4 ?_
  refine C_seq (fun K5 hK5 => ?_)
  refine C_region ?_
  refine R_pu (pu_move rfl) rfl ?_
  refine R_lo (lo_call (by kernel_rfl) rfl (gf_log_nil 1 _)) rfl ?_
  rintro _ w3 ⟨rfl, k3⟩
  have kk3 := kk2.then_ k3
  refine R_pu (pu_move rfl) rfl ?_
  refine R_pu (pu_extract rfl rfl) rfl ?_
  refine R_pu (pu_extract rfl rfl) rfl ?_
  refine R_pu (pu_assign rfl) rfl ?_
  refine R_pu (pu_assign rfl) rfl ?_
  refine R_nil ?_
  refine X_then hK5 ?_
  refine C_seq (fun K6 hK6 => ?_)
  refine C_region ?_
  refine R_pu (pu_move rfl) rfl ?_
  refine R_pu (pu_move rfl) rfl ?_
  refine R_pu (pu_move rfl) rfl ?_
  have o7 : Tb w3 b1_0 := ((T1.no k2).no k3)
  refine R_lo (lo_call (by kernel_rfl) rfl (gf_pow_neg b1_0 x n hn _ o7)) rfl ?_
  rintro _ w4 ⟨rfl, T4, k4⟩
  have kk4 := kk3.trans k4 (fun i hi => .inr (hi ▸ (Nat.le_trans kk0.size le1)))
  refine R_pu (pu_move rfl) rfl ?_
  refine R_pu (pu_extract rfl rfl) rfl ?_
  refine R_pu (pu_extract rfl rfl) rfl ?_
  refine R_pu (pu_assign rfl) rfl ?_
  refine R_pu (pu_assign rfl) rfl ?_
  refine R_nil ?_
  refine X_then hK6 ?_
  refine C_seq (fun K8 hK8 => ?_)
  refine C_region ?_
  by_cases hz : x = 0
  · refine R_pu (pu_move rfl) rfl ?_
    refine R_pu (pu_move rfl) rfl ?_
    refine R_lo (lo_call (by kernel_rfl) rfl (gf_log0 b1_0 x hz _ T4)) rfl ?_
    rintro _ w5 ⟨rfl, T5, k5⟩
    have kk5 := kk4.trans k5 (fun i hi => .inr (hi ▸ (Nat.le_trans kk0.size le1)))
    refine R_pu (pu_move rfl) rfl ?_
    refine R_pu (pu_extract rfl rfl) rfl ?_
    refine R_pu (pu_extract rfl rfl) rfl ?_
    refine R_pu (pu_assign rfl) rfl ?_
    refine R_pu (pu_assign rfl) rfl ?_
    refine R_nil ?_
    refine X_then hK8 ?_
    refine C_seq (fun K9 hK9 => ?_)
    refine C_seq (fun K10 hK10 => ?_)
    refine C_region ?_
    refine R_pu (pu_move rfl) rfl ?_
    have o11 : Gt w5 := (((((hG.no k1).no k2).no k3).on k4 (Ne.symm ne_b1_0_0)).on k5 (Ne.symm ne_b1_0_0))
    refine R_lo (lo_call (by kernel_rfl) rfl (num01_err 1 _ o11)) rfl ?_
    rintro _ w6 ⟨rfl, k6⟩
    have kk6 := kk5.then_ k6
    refine R_pu (pu_false (pu_neq (p := (1 : Nat) = 1) rfl rfl (by omega)) (by decide)) rfl ?_
    refine R_pu (pu_move rfl) rfl ?_
    refine R_gpu rfl rfl (pu_move rfl) rfl ?_
    have o12 : Gt w6 := (o11.no k6)
    refine R_glo rfl rfl (lo_call (by kernel_rfl) rfl (num01_err 1 _ o12)) rfl ?_
    rintro _ w7 ⟨rfl, k7⟩
    have kk7 := kk6.then_ k7
    refine R_gpu rfl rfl (pu_false (pu_neq (p := (1 : Nat) = 1) rfl rfl (by omega)) (by decide)) rfl ?_
    refine R_pu (pu_pickf rfl rfl) rfl ?_
    refine R_pu (pu_move rfl) rfl ?_
    refine R_gpu rfl rfl (pu_move rfl) rfl ?_
    refine R_gpu rfl rfl (pu_eqlin (by kernel_rfl) rfl rfl) rfl ?_
    refine R_gpu rfl rfl (pu_move rfl) rfl ?_
    refine R_gpu rfl rfl (pu_false (pu_geq (p := n ≥ 0) rfl rfl (by omega)) (by omega)) rfl ?_
    refine R_gpu rfl rfl (pu_neqb Tryd.underlying4 rfl rfl) rfl ?_
    refine R_pu (pu_pickf rfl rfl) rfl ?_
    refine R_pu (pu_move rfl) rfl ?_
    refine R_gpu rfl rfl (pu_move rfl) rfl ?_
    refine R_gpu rfl rfl (pu_neqin (by kernel_rfl) rfl rfl) rfl ?_
    refine R_gpu rfl rfl (pu_move rfl) rfl ?_
    refine R_gpu rfl rfl (pu_move rfl) rfl ?_
    have o13 : Gt w7 := (o12.no k7)
    refine R_glo rfl rfl (lo_call (by kernel_rfl) rfl (num01_err 1 _ o13)) rfl ?_
    rintro _ w8 ⟨rfl, k8⟩
    have kk8 := kk7.then_ k8
    refine R_gpu rfl rfl (pu_false (pu_neq (p := (1 : Nat) = 1) rfl rfl (by omega)) (by decide)) rfl ?_
    refine R_gpu rfl rfl (pu_pickt rfl rfl) rfl ?_
    refine R_pu (pu_pickf rfl rfl) rfl ?_
    refine R_pu (pu_move rfl) rfl ?_
    refine R_gpu rfl rfl (pu_move rfl) rfl ?_
    refine R_gpu rfl rfl (pu_false (pu_geq (p := n ≥ 0) rfl rfl (by omega)) (by omega)) rfl ?_
    refine R_gpu rfl rfl (pu_move rfl) rfl ?_
    refine R_gno rfl rfl rfl rfl ?_
    refine R_gno rfl rfl rfl rfl ?_
    refine R_gno rfl rfl rfl rfl ?_
    refine R_gno rfl rfl rfl rfl ?_
    refine R_gno rfl rfl rfl rfl ?_
    refine R_gpu rfl rfl (pu_pickf rfl rfl) rfl ?_
    refine R_pu (pu_pickf rfl rfl) rfl ?_
    refine R_nil ?_
    refine X_then hK10 ?_
    refine C_false rfl ?_
    refine C_skip ?_
    refine X_then hK9 ?_
    refine C_seq (fun K14 hK14 => ?_)
    refine C_seq (fun K15 hK15 => ?_)
    refine C_region ?_
    refine R_pu (pu_move rfl) rfl ?_
    refine R_pu (pu_eql (p := x = 0) rfl rfl (by omega)) rfl ?_
    refine R_nil ?_
    refine X_then hK15 ?_
    refine C_dect rfl hz ?_
    refine C_seq (fun K16 hK16 => ?_)
    refine C_region ?_
    refine R_pu (pu_move rfl) rfl ?_
    have o17 : Gt w8 := (o13.no k8)
    refine R_lo (lo_call (by kernel_rfl) rfl (num01_err 1 _ o17)) rfl ?_
    rintro _ w9 ⟨rfl, k9⟩
    have kk9 := kk8.then_ k9
    refine R_pu (pu_true (pu_eql (p := (1 : Nat) = 1) rfl rfl (by omega)) (by decide)) rfl ?_
    refine R_pu (pu_move rfl) rfl ?_
    refine R_gpu rfl rfl (pu_move rfl) rfl ?_
    refine R_gpu rfl rfl (pu_true (pu_eql (p := (0 : Nat) = 0) rfl rfl (by omega)) (by decide)) rfl ?_
    refine R_pu (pu_pickt rfl rfl) rfl ?_
    refine R_pu (pu_move rfl) rfl ?_
    refine R_glo rfl rfl (lo_call (by kernel_rfl) rfl (sure01 _)) rfl ?_
    rintro _ w10 ⟨rfl, k10⟩
    have kk10 := kk9.then_ k10
    refine R_pu (pu_pickt rfl rfl) rfl ?_
    refine R_pu (pu_assign rfl) rfl ?_
    refine R_nil ?_
    refine X_then hK16 ?_
    refine C_ret ?_
    refine X_then_ret ?_
    exact X_ret1 (.inl rfl) rfl rfl ⟨rfl, kk10⟩
  · refine R_pu (pu_move rfl) rfl ?_
    refine R_pu (pu_move rfl) rfl ?_
    refine R_lo (lo_call (by kernel_rfl) rfl (gf_log b1_0 x hx hz _ T4)) rfl ?_
    rintro _ w11 ⟨rfl, T11, k11⟩
    have kk11 := kk4.trans k11 (fun i hi => .inr (hi ▸ (Nat.le_trans kk0.size le1)))
    refine R_pu (pu_move rfl) rfl ?_
    refine R_pu (pu_extract rfl rfl) rfl ?_
    refine R_pu (pu_extract rfl rfl) rfl ?_
    refine R_pu (pu_assign rfl) rfl ?_
    refine R_pu (pu_assign rfl) rfl ?_
    refine R_nil ?_
    refine X_then hK8 ?_
    refine C_seq (fun K18 hK18 => ?_)
    refine C_seq (fun K19 hK19 => ?_)
    refine C_region ?_
    refine R_pu (pu_move rfl) rfl ?_
    have o20 : Gt w11 := (((((hG.no k1).no k2).no k3).on k4 (Ne.symm ne_b1_0_0)).on k11 (Ne.symm ne_b1_0_0))
    refine R_lo (lo_call (by kernel_rfl) rfl (num01_err 1 _ o20)) rfl ?_
    rintro _ w12 ⟨rfl, k12⟩
    have kk12 := kk11.then_ k12
    refine R_pu (pu_false (pu_neq (p := (1 : Nat) = 1) rfl rfl (by omega)) (by decide)) rfl ?_
    refine R_pu (pu_move rfl) rfl ?_
    refine R_gpu rfl rfl (pu_move rfl) rfl ?_
    have o21 : Gt w12 := (o20.no k12)
    refine R_glo rfl rfl (lo_call (by kernel_rfl) rfl (num01_err 1 _ o21)) rfl ?_
    rintro _ w13 ⟨rfl, k13⟩
    have kk13 := kk12.then_ k13
    refine R_gpu rfl rfl (pu_false (pu_neq (p := (1 : Nat) = 1) rfl rfl (by omega)) (by decide)) rfl ?_
    refine R_pu (pu_pickf rfl rfl) rfl ?_
    refine R_pu (pu_move rfl) rfl ?_
    refine R_gpu rfl rfl (pu_move rfl) rfl ?_
    refine R_gpu rfl rfl (pu_eqlin (by kernel_rfl) rfl rfl) rfl ?_
    refine R_gpu rfl rfl (pu_move rfl) rfl ?_
    refine R_gpu rfl rfl (pu_false (pu_geq (p := n ≥ 0) rfl rfl (by omega)) (by omega)) rfl ?_
    refine R_gpu rfl rfl (pu_neqb Tryd.underlying4 rfl rfl) rfl ?_
    refine R_pu (pu_pickf rfl rfl) rfl ?_
    refine R_pu (pu_move rfl) rfl ?_
    refine R_gpu rfl rfl (pu_move rfl) rfl ?_
    refine R_gpu rfl rfl (pu_neqin (by kernel_rfl) rfl rfl) rfl ?_
    refine R_gpu rfl rfl (pu_move rfl) rfl ?_
    refine R_gpu rfl rfl (pu_move rfl) rfl ?_
    have o22 : Gt w13 := (o21.no k13)
    refine R_glo rfl rfl (lo_call (by kernel_rfl) rfl (num01_err 1 _ o22)) rfl ?_
    rintro _ w14 ⟨rfl, k14⟩
    have kk14 := kk13.then_ k14
    refine R_gpu rfl rfl (pu_false (pu_neq (p := (1 : Nat) = 1) rfl rfl (by omega)) (by decide)) rfl ?_
    refine R_gpu rfl rfl (pu_pickt rfl rfl) rfl ?_
    refine R_pu (pu_pickf rfl rfl) rfl ?_
    refine R_pu (pu_move rfl) rfl ?_
    refine R_gpu rfl rfl (pu_move rfl) rfl ?_
    refine R_gpu rfl rfl (pu_false (pu_geq (p := n ≥ 0) rfl rfl (by omega)) (by omega)) rfl ?_
    refine R_gpu rfl rfl (pu_move rfl) rfl ?_
    refine R_gno rfl rfl rfl rfl ?_
    refine R_gno rfl rfl rfl rfl ?_
    refine R_gno rfl rfl rfl rfl ?_
    refine R_gno rfl rfl rfl rfl ?_
    refine R_gno rfl rfl rfl rfl ?_
    refine R_gpu rfl rfl (pu_pickf rfl rfl) rfl ?_
    refine R_pu (pu_pickf rfl rfl) rfl ?_
    refine R_nil ?_
    refine X_then hK19 ?_
    refine C_false rfl ?_
    refine C_skip ?_
    refine X_then hK18 ?_
    refine C_seq (fun K23 hK23 => ?_)
    refine C_seq (fun K24 hK24 => ?_)
    refine C_region ?_
    refine R_pu (pu_move rfl) rfl ?_
    refine R_pu (pu_eql (p := x = 0) rfl rfl (by omega)) rfl ?_
    refine R_nil ?_
    refine X_then hK24 ?_
    refine C_decf rfl hz ?_
    refine C_skip ?_
    refine X_then hK23 ?_
    refine C_seq (fun K25 hK25 => ?_)
    refine C_region ?_
    refine R_pu (pu_move rfl) rfl ?_
    refine R_pu (pu_eqlnn (by kernel_rfl) rfl) rfl ?_
    refine R_pu (pu_move rfl) rfl ?_
    refine R_gpu rfl rfl (pu_move rfl) rfl ?_
    refine R_gpu rfl rfl (pu_move rfl) rfl ?_
    refine R_glo rfl rfl (lo_call (by kernel_rfl) rfl (ref_log x hx hz _)) rfl ?_
    rintro _ w15 ⟨rfl, k15⟩
    have kk15 := kk14.then_ k15
    refine R_gpu rfl rfl (pu_true (pu_eql (p := (glog x) = (glog x)) rfl rfl (by omega)) rfl) rfl ?_
    refine R_pu (pu_pickt rfl rfl) rfl ?_
    refine R_pu (pu_move rfl) rfl ?_
    refine R_glo rfl rfl (lo_call (by kernel_rfl) rfl (sure01 _)) rfl ?_
    rintro _ w16 ⟨rfl, k16⟩
    have kk16 := kk15.then_ k16
    refine R_pu (pu_pickt rfl rfl) rfl ?_
    refine R_pu (pu_assign rfl) rfl ?_
    refine R_nil ?_
    refine X_then hK25 ?_
    refine C_ret ?_
    exact X_ret1 (.inl rfl) rfl rfl ⟨rfl, kk16⟩
set_option maxRecDepth 100000 in
set_option maxHeartbeats 2000000 in
theorem gfPowers_pos (x : Nat) (hx : x < 256) (n : Nat) (w : World) (hG : Gt w) : Ret Tryd.prog 4 #[.int .u8 ((x : Nat) : Int), .int .i64 ((n : Nat) : Int)] w (fun v w' => v = .bool true ∧ Kp No w w') := by
  have kk0 := Kp.refl No w
  refine enter (n := 97) [.int .u8 ((x : Nat) : Int), .int .i64 ((n : Nat) : Int)] Tryd.func4 rfl rfl rfl ?_
  show Cw _ _ _ _ [(0, .int .u8 ((x : Nat) : Int)), (1, .int .i64 ((n : Nat) : Int))] _
  refine C_seq (fun K1 hK1 => ?_)
  refine C_region ?_
  refine R_pu (pu_assign rfl) rfl ?_
  refine R_nil ?_
  refine X_then hK1 ?_
  refine C_seq (fun K2 hK2 => ?_)
  refine C_region ?_
  refine R_lo (lo_call (by kernel_rfl) rfl (gf_new _)) rfl ?_
  rintro _ w1 ⟨b1_0, rfl, le1, T1, k1⟩
  have kk1 := kk0.then_ k1
  have ne_b1_0_0 : b1_0 ≠ 0 := Nat.ne_of_gt (Nat.lt_of_lt_of_le hG.lt le1)
  refine R_pu (pu_assign rfl) rfl ?_
  refine R_nil ?_
  refine X_then hK2 ?_
  refine C_seq (fun K3 hK3 => ?_)
  refine C_region ?_
  refine R_pu (pu_assign rfl) rfl ?_
  refine R_nil ?_
  refine X_then hK3 ?_
  refine C_seq (fun K4 hK4 => ?_)
  refine C_region ?_
  refine R_pu (pu_move rfl) rfl ?_
  refine R_lo (lo_call (by kernel_rfl) rfl (gf_pow_nil 1 1 _)) rfl ?_
  rintro _ w2 ⟨rfl, k2⟩
  have kk2 := kk1.then_ k2
  refine R_pu (pu_move rfl) rfl ?_
  refine R_pu (pu_extract rfl rfl) rfl ?_
  refine R_pu (pu_extract rfl rfl) rfl ?_
  refine R_pu (pu_assign rfl) rfl ?_
  refine R_pu (pu_assign rfl) rfl ?_
  refine R_nil ?_
  refine X_then hK4 ?_
  refine C_seq (fun K5 hK5 => ?_)
  refine C_region ?_
  refine R_pu (pu_move rfl) rfl ?_
  refine R_lo (lo_call (by kernel_rfl) rfl (gf_log_nil 1 _)) rfl ?_
  rintro _ w3 ⟨rfl, k3⟩
  have kk3 := kk2.then_ k3
  refine R_pu (pu_move rfl) rfl ?_
  refine R_pu (pu_extract rfl rfl) rfl ?_
  refine R_pu (pu_extract rfl rfl) rfl ?_
  refine R_pu (pu_assign rfl) rfl ?_
  refine R_pu (pu_assign rfl) rfl ?_
  refine R_nil ?_
  refine X_then hK5 ?_
  refine C_seq (fun K6 hK6 => ?_)
  refine C_region ?_
  refine R_pu (pu_move rfl) rfl ?_
  refine R_pu (pu_move rfl) rfl ?_
  refine R_pu (pu_move rfl) rfl ?_
  have o7 : Tb w3 b1_0 := ((T1.no k2).no k3)
  refine R_lo (lo_call (by kernel_rfl) rfl (gf_pow b1_0 x n hx _ o7)) rfl ?_
  rintro _ w4 ⟨rfl, T4, k4⟩
  have kk4 := kk3.trans k4 (fun i hi => .inr (hi ▸ (Nat.le_trans kk0.size le1)))
  refine R_pu (pu_move rfl) rfl ?_
  refine R_pu (pu_extract rfl rfl) rfl ?_
  refine R_pu (pu_extract rfl rfl) rfl ?_
  refine R_pu (pu_assign rfl) rfl ?_
  refine R_pu (pu_assign rfl) rfl ?_
  refine R_nil ?_
  refine X_then hK6 ?_
  refine C_seq (fun K8 hK8 => ?_)
  refine C_region ?_
  by_cases hz : x = 0
  · refine R_pu (pu_move rfl) rfl ?_
    refine R_pu (pu_move rfl) rfl ?_
    refine R_lo (lo_call (by kernel_rfl) rfl (gf_log0 b1_0 x hz _ T4)) rfl ?_
    rintro _ w5 ⟨rfl, T5, k5⟩
    have kk5 := kk4.trans k5 (fun i hi => .inr (hi ▸ (Nat.le_trans kk0.size le1)))
    refine R_pu (pu_move rfl) rfl ?_
    refine R_pu (pu_extract rfl rfl) rfl ?_
    refine R_pu (pu_extract rfl rfl) rfl ?_
    refine R_pu (pu_assign rfl) rfl ?_
    refine R_pu (pu_assign rfl) rfl ?_
    refine R_nil ?_
    refine X_then hK8 ?_
    refine C_seq (fun K9 hK9 => ?_)
    refine C_seq (fun K10 hK10 => ?_)
    refine C_region ?_
    refine R_pu (pu_move rfl) rfl ?_
    have o11 : Gt w5 := (((((hG.no k1).no k2).no k3).on k4 (Ne.symm ne_b1_0_0)).on k5 (Ne.symm ne_b1_0_0))
    refine R_lo (lo_call (by kernel_rfl) rfl (num01_err 1 _ o11)) rfl ?_
    rintro _ w6 ⟨rfl, k6⟩
    have kk6 := kk5.then_ k6
    refine R_pu (pu_false (pu_neq (p := (1 : Nat) = 1) rfl rfl (by omega)) (by decide)) rfl ?_
    refine R_pu (pu_move rfl) rfl ?_
    refine R_gpu rfl rfl (pu_move rfl) rfl ?_
    have o12 : Gt w6 := (o11.no k6)
    refine R_glo rfl rfl (lo_call (by kernel_rfl) rfl (num01_err 1 _ o12)) rfl ?_
    rintro _ w7 ⟨rfl, k7⟩
    have kk7 := kk6.then_ k7
    refine R_gpu rfl rfl (pu_false (pu_neq (p := (1 : Nat) = 1) rfl rfl (by omega)) (by decide)) rfl ?_
    refine R_pu (pu_pickf rfl rfl) rfl ?_
    refine R_pu (pu_move rfl) rfl ?_
    refine R_gpu rfl rfl (pu_move rfl) rfl ?_
    refine R_gpu rfl rfl (pu_eqlnn (by kernel_rfl) rfl) rfl ?_
    refine R_gpu rfl rfl (pu_move rfl) rfl ?_
    refine R_gpu rfl rfl (pu_true (pu_geq (p := n ≥ 0) rfl rfl (by omega)) (by omega)) rfl ?_
    refine R_gpu rfl rfl (pu_neqb Tryd.underlying4 rfl rfl) rfl ?_
    refine R_pu (pu_pickf rfl rfl) rfl ?_
    refine R_pu (pu_move rfl) rfl ?_
    refine R_gpu rfl rfl (pu_move rfl) rfl ?_
    refine R_gpu rfl rfl (pu_neqnn (by kernel_rfl) rfl) rfl ?_
    refine R_gpu rfl rfl (pu_move rfl) rfl ?_
    refine R_gno rfl rfl rfl rfl ?_
    refine R_gno rfl rfl rfl rfl ?_
    refine R_gno rfl rfl rfl rfl ?_
    refine R_gpu rfl rfl (pu_pickf rfl rfl) rfl ?_
    refine R_pu (pu_pickf rfl rfl) rfl ?_
    refine R_pu (pu_move rfl) rfl ?_
    refine R_gpu rfl rfl (pu_move rfl) rfl ?_
    refine R_gpu rfl rfl (pu_true (pu_geq (p := n ≥ 0) rfl rfl (by omega)) (by omega)) rfl ?_
    refine R_gpu rfl rfl (pu_move rfl) rfl ?_
    refine R_gpu rfl rfl (pu_move rfl) rfl ?_
    refine R_gpu rfl rfl (pu_move rfl) rfl ?_
    refine R_gpu rfl rfl (pu_move rfl) rfl ?_
    refine R_glo rfl rfl (lo_call (by kernel_rfl) rfl (ref_pow x n hx _)) rfl ?_
    rintro _ w8 ⟨rfl, k8⟩
    have kk8 := kk7.then_ k8
    refine R_gpu rfl rfl (pu_false (pu_neq (p := (gpow x n) = (gpow x n)) rfl rfl (by omega)) (fun h => h rfl)) rfl ?_
    refine R_gpu rfl rfl (pu_pickt rfl rfl) rfl ?_
    refine R_pu (pu_pickf rfl rfl) rfl ?_
    refine R_nil ?_
    refine X_then hK10 ?_
    refine C_false rfl ?_
    refine C_skip ?_
    refine X_then hK9 ?_
    refine C_seq (fun K13 hK13 => ?_)
    refine C_seq (fun K14 hK14 => ?_)
    refine C_region ?_
    refine R_pu (pu_move rfl) rfl ?_
    refine R_pu (pu_eql (p := x = 0) rfl rfl (by omega)) rfl ?_
    refine R_nil ?_
    refine X_then hK14 ?_
    refine C_dect rfl hz ?_
    refine C_seq (fun K15 hK15 => ?_)
    refine C_region ?_
    refine R_pu (pu_move rfl) rfl ?_
    have o16 : Gt w8 := ((o12.no k7).no k8)
    refine R_lo (lo_call (by kernel_rfl) rfl (num01_err 1 _ o16)) rfl ?_
    rintro _ w9 ⟨rfl, k9⟩
    have kk9 := kk8.then_ k9
    refine R_pu (pu_true (pu_eql (p := (1 : Nat) = 1) rfl rfl (by omega)) (by decide)) rfl ?_
    refine R_pu (pu_move rfl) rfl ?_
    refine R_gpu rfl rfl (pu_move rfl) rfl ?_
    refine R_gpu rfl rfl (pu_true (pu_eql (p := (0 : Nat) = 0) rfl rfl (by omega)) (by decide)) rfl ?_
    refine R_pu (pu_pickt rfl rfl) rfl ?_
    refine R_pu (pu_move rfl) rfl ?_
    refine R_glo rfl rfl (lo_call (by kernel_rfl) rfl (sure01 _)) rfl ?_
    rintro _ w10 ⟨rfl, k10⟩
    have kk10 := kk9.then_ k10
    refine R_pu (pu_pickt rfl rfl) rfl ?_
    refine R_pu (pu_assign rfl) rfl ?_
    refine R_nil ?_
    refine X_then hK15 ?_
    refine C_ret ?_
    refine X_then_ret ?_
    exact X_ret1 (.inl rfl) rfl rfl ⟨rfl, kk10⟩
  · refine R_pu (pu_move rfl) rfl ?_
    refine R_pu (pu_move rfl) rfl ?_
    refine R_lo (lo_call (by kernel_rfl) rfl (gf_log b1_0 x hx hz _ T4)) rfl ?_
    rintro _ w11 ⟨rfl, T11, k11⟩
    have kk11 := kk4.trans k11 (fun i hi => .inr (hi ▸ (Nat.le_trans kk0.size le1)))
    refine R_pu (pu_move rfl) rfl ?_
    refine R_pu (pu_extract rfl rfl) rfl ?_
    refine R_pu (pu_extract rfl rfl) rfl ?_
    refine R_pu (pu_assign rfl) rfl ?_
    refine R_pu (pu_assign rfl) rfl ?_
    refine R_nil ?_
    refine X_then hK8 ?_
    refine C_seq (fun K17 hK17 => ?_)
    refine C_seq (fun K18 hK18 => ?_)
    refine C_region ?_
    refine R_pu (pu_move rfl) rfl ?_
    have o19 : Gt w11 := (((((hG.no k1).no k2).no k3).on k4 (Ne.symm ne_b1_0_0)).on k11 (Ne.symm ne_b1_0_0))
    refine R_lo (lo_call (by kernel_rfl) rfl (num01_err 1 _ o19)) rfl ?_
    rintro _ w12 ⟨rfl, k12⟩
    have kk12 := kk11.then_ k12
    refine R_pu (pu_false (pu_neq (p := (1 : Nat) = 1) rfl rfl (by omega)) (by decide)) rfl ?_
    refine R_pu (pu_move rfl) rfl ?_
    refine R_gpu rfl rfl (pu_move rfl) rfl ?_
    have o20 : Gt w12 := (o19.no k12)
    refine R_glo rfl rfl (lo_call (by kernel_rfl) rfl (num01_err 1 _ o20)) rfl ?_
    rintro _ w13 ⟨rfl, k13⟩
    have kk13 := kk12.then_ k13
    refine R_gpu rfl rfl (pu_false (pu_neq (p := (1 : Nat) = 1) rfl rfl (by omega)) (by decide)) rfl ?_
    refine R_pu (pu_pickf rfl rfl) rfl ?_
    refine R_pu (pu_move rfl) rfl ?_
    refine R_gpu rfl rfl (pu_move rfl) rfl ?_
    refine R_gpu rfl rfl (pu_eqlnn (by kernel_rfl) rfl) rfl ?_
    refine R_gpu rfl rfl (pu_move rfl) rfl ?_
    refine R_gpu rfl rfl (pu_true (pu_geq (p := n ≥ 0) rfl rfl (by omega)) (by omega)) rfl ?_
    refine R_gpu rfl rfl (pu_neqb Tryd.underlying4 rfl rfl) rfl ?_
    refine R_pu (pu_pickf rfl rfl) rfl ?_
    refine R_pu (pu_move rfl) rfl ?_
    refine R_gpu rfl rfl (pu_move rfl) rfl ?_
    refine R_gpu rfl rfl (pu_neqnn (by kernel_rfl) rfl) rfl ?_
    refine R_gpu rfl rfl (pu_move rfl) rfl ?_
    refine R_gno rfl rfl rfl rfl ?_
    refine R_gno rfl rfl rfl rfl ?_
    refine R_gno rfl rfl rfl rfl ?_
    refine R_gpu rfl rfl (pu_pickf rfl rfl) rfl ?_
    refine R_pu (pu_pickf rfl rfl) rfl ?_
    refine R_pu (pu_move rfl) rfl ?_
    refine R_gpu rfl rfl (pu_move rfl) rfl ?_
    refine R_gpu rfl rfl (pu_true (pu_geq (p := n ≥ 0) rfl rfl (by omega)) (by omega)) rfl ?_
    refine R_gpu rfl rfl (pu_move rfl) rfl ?_
    refine R_gpu rfl rfl (pu_move rfl) rfl ?_
    refine R_gpu rfl rfl (pu_move rfl) rfl ?_
    refine R_gpu rfl rfl (pu_move rfl) rfl ?_
    refine R_glo rfl rfl (lo_call (by kernel_rfl) rfl (ref_pow x n hx _)) rfl ?_
    rintro _ w14 ⟨rfl, k14⟩
    have kk14 := kk13.then_ k14
    refine R_gpu rfl rfl (pu_false (pu_neq (p := (gpow x n) = (gpow x n)) rfl rfl (by omega)) (fun h => h rfl)) rfl ?_
    refine R_gpu rfl rfl (pu_pickt rfl rfl) rfl ?_
    refine R_pu (pu_pickf rfl rfl) rfl ?_
    refine R_nil ?_
    refine X_then hK18 ?_
    refine C_false rfl ?_
    refine C_skip ?_
    refine X_then hK17 ?_
    refine C_seq (fun K21 hK21 => ?_)
    refine C_seq (fun K22 hK22 => ?_)
    refine C_region ?_
    refine R_pu (pu_move rfl) rfl ?_
    refine R_pu (pu_eql (p := x = 0) rfl rfl (by omega)) rfl ?_
    refine R_nil ?_
    refine X_then hK22 ?_
    refine C_decf rfl hz ?_
    refine C_skip ?_
    refine X_then hK21 ?_
    refine C_seq (fun K23 hK23 => ?_)
    refine C_region ?_
    refine R_pu (pu_move rfl) rfl ?_
    refine R_pu (pu_eqlnn (by kernel_rfl) rfl) rfl ?_
    refine R_pu (pu_move rfl) rfl ?_
    refine R_gpu rfl rfl (pu_move rfl) rfl ?_
    refine R_gpu rfl rfl (pu_move rfl) rfl ?_
    refine R_glo rfl rfl (lo_call (by kernel_rfl) rfl (ref_log x hx hz _)) rfl ?_
    rintro _ w15 ⟨rfl, k15⟩
    have kk15 := kk14.then_ k15
    refine R_gpu rfl rfl (pu_true (pu_eql (p := (glog x) = (glog x)) rfl rfl (by omega)) rfl) rfl ?_
    refine R_pu (pu_pickt rfl rfl) rfl ?_
    refine R_pu (pu_move rfl) rfl ?_
    refine R_glo rfl rfl (lo_call (by kernel_rfl) rfl (sure01 _)) rfl ?_
    rintro _ w16 ⟨rfl, k16⟩
    have kk16 := kk15.then_ k16
    refine R_pu (pu_pickt rfl rfl) rfl ?_
    refine R_pu (pu_assign rfl) rfl ?_
    refine R_nil ?_
    refine X_then hK23 ?_
    refine C_ret ?_
    exact X_ret1 (.inl rfl) rfl rfl ⟨rfl, kk16⟩
theorem gfPowers_ (x : Nat) (hx : x < 256) (n : Int) (hn : (Lit.int .i64 n).wf = true) (w : World) (hG : Gt w) : Ret Tryd.prog 4 #[.int .u8 (x : Int), .int .i64 n] w (fun v w' => v = .bool true ∧ Kp No w w') := by
  by_cases h : n < 0
  · exact gfPowers_neg x hx n h w hG
  · obtain ⟨m, rfl⟩ := Int.eq_ofNat_of_zero_le (Int.not_lt.1 h)
    exact gfPowers_pos x hx m w hG
end Go.Proofs.YtikipijafdcmfaaDoor
