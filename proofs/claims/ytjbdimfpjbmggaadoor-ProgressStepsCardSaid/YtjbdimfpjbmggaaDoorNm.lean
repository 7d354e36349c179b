/- The walks of bursarylaw23.num. -/
import Derived.Test.YtjbdimfpjbmggaaDoorAs
import Derived.Test.YtjbdimfpjbmggaaDoorGm
set_option linter.unusedVariables false
set_option linter.unusedSimpArgs false
namespace Go.Proofs.YtjbdimfpjbmggaaDoor
open Go.RowKit Gm
set_option maxRecDepth 100000 in
set_option maxHeartbeats 2000000 in
theorem num23_nil  (w : World)  : Ret Tryd.prog 38 #[.nilIface] w (fun v w' => v = .int .i64 0 ∧ Kp No w w') := by
  have kk0 := Kp.refl No w
  refine enter (n := 10) [.nilIface] Tryd.func38 rfl rfl rfl ?_
  show Cw _ _ _ _ [(0, .nilIface)] _
  refine C_seq (fun K1 hK1 => ?_)
  refine C_region ?_
  refine R_pu (pu_assign rfl) rfl ?_
  refine R_nil ?_
  refine X_then hK1 ?_
  refine C_seq (fun K2 hK2 => ?_)
  refine C_region ?_
  refine R_lo (lo_alloc (L := [.int .i64 0]) (by kernel_rfl)) rfl ?_
  rintro _ w1 ⟨p1_0, rfl, N1⟩
  have k1 := N1.kp
  have kk1 := kk0.then_ k1
  have f_p1_0_1 : Bk w1 p1_0 ([.int .i64 0]) 91 := N1.bk
  refine R_nil ?_
  refine X_then hK2 ?_
  refine C_seq (fun K3 hK3 => ?_)
  refine C_seq (fun K4 hK4 => ?_)
  refine C_region ?_
  refine R_pu (pu_move rfl) rfl ?_
  refine R_pu (pu_eqlnn (by kernel_rfl) rfl) rfl ?_
  refine R_nil ?_
  refine X_then hK4 ?_
  refine C_true rfl ?_
  refine C_seq (fun K5 hK5 => ?_)
  refine C_region ?_
  refine R_pu (pu_assign rfl) rfl ?_
  refine R_nil ?_
  refine X_then hK5 ?_
  refine C_ret ?_
  refine X_then_ret ?_
  exact X_ret1 (.inl rfl) rfl rfl ⟨rfl, kk1⟩
set_option maxRecDepth 100000 in
set_option maxHeartbeats 2000000 in
theorem num23_err (e : Int) (w : World) (hG : Gt w) : Ret Tryd.prog 38 #[.iface 91 (.int .i64 (e))] w (fun v w' => v = .int .i64 e ∧ Kp No w w') := by
  have kk0 := Kp.refl No w
  refine enter (n := 10) [.iface 91 (.int .i64 (e))] Tryd.func38 rfl rfl rfl ?_
  show Cw _ _ _ _ [(0, .iface 91 (.int .i64 (e)))] _
  refine C_seq (fun K1 hK1 => ?_)
  refine C_region ?_
  refine R_pu (pu_assign rfl) rfl ?_
  refine R_nil ?_
  refine X_then hK1 ?_
  refine C_seq (fun K2 hK2 => ?_)
  refine C_region ?_
  refine R_lo (lo_alloc (L := [.int .i64 0]) (by kernel_rfl)) rfl ?_
  rintro _ w1 ⟨p1_0, rfl, N1⟩
  have k1 := N1.kp
  have kk1 := kk0.then_ k1
  have ne_p1_0_0 : p1_0 ≠ 0 := Nat.ne_of_gt (Nat.lt_of_lt_of_le hG.lt N1.le)
  have f_p1_0_1 : Bk w1 p1_0 ([.int .i64 0]) 91 := N1.bk
  refine R_nil ?_
  refine X_then hK2 ?_
  refine C_seq (fun K3 hK3 => ?_)
  refine C_seq (fun K4 hK4 => ?_)
  refine C_region ?_
  refine R_pu (pu_move rfl) rfl ?_
  refine R_pu (pu_eqlin (by kernel_rfl) rfl rfl) rfl ?_
  refine R_nil ?_
  refine X_then hK4 ?_
  refine C_false rfl ?_
  refine C_skip ?_
  refine X_then hK3 ?_
  refine C_seq (fun K5 hK5 => ?_)
  refine C_seq (fun K6 hK6 => ?_)
  refine C_region ?_
  refine R_pu (pu_move rfl) rfl ?_
  refine R_pu (pu_makeInterface Tryd.underlying109 rfl rfl) rfl ?_
  have o7 : Gt w1 := (hG.no k1)
  refine R_lo (lo_call (by kernel_rfl) rfl (as_ret e p1_0 _ _ o7 f_p1_0_1)) rfl ?_
  rintro _ w2 ⟨rfl, B2, k2⟩
  have kk2 := kk1.trans k2 (fun i hi => .inr (hi ▸ (Nat.le_trans kk0.size N1.le)))
  refine R_nil ?_
  refine X_then hK6 ?_
  refine C_true rfl ?_
  refine C_seq (fun K8 hK8 => ?_)
  refine C_region ?_
  refine R_pu (pu_loadK B2 (by kernel_rfl) rfl rfl) rfl ?_
  refine R_pu (pu_assign rfl) rfl ?_
  refine R_nil ?_
  refine X_then hK8 ?_
  refine C_ret ?_
  refine X_then_ret ?_
  exact X_ret1 (.inl rfl) rfl rfl ⟨rfl, kk2⟩
end Go.Proofs.YtjbdimfpjbmggaaDoor
