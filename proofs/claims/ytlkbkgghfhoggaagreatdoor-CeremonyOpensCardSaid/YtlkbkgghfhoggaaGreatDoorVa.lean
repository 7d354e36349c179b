/- Walks of config and ceremony. -/
import Derived.Test.YtlkbkgghfhoggaaGreatDoorCe
set_option linter.unusedVariables false
set_option linter.unusedSimpArgs false
set_option maxHeartbeats 2000000
set_option maxRecDepth 100000
namespace Go.Proofs.YtlkbkgghfhoggaaGreatDoor
open Go.RowKit Gm
theorem config_check (q nn ge : Nat) (w : World) (hP : 2 ≤ q + 1 ∧ q + 1 ≤ nn ∧ nn ≤ 255) (hge : ge < 4294967296) (hg : ge ≠ 0) : Ret Tryz.prog 20 #[.agg ([.int .i64 ((q + 1 : Nat) : Int), .int .i64 ((nn : Nat) : Int), .int .u32 ((ge : Nat) : Int)] : List Value).toArray] w (fun v w' => v = .nilIface ∧ Kp No w w') := by
 have kk0 := Kp.refl No w
 refine enter (n := 14) [.agg ([.int .i64 ((q + 1 : Nat) : Int), .int .i64 ((nn : Nat) : Int), .int .u32 ((ge : Nat) : Int)] : List Value).toArray] Tryz.func20 rfl rfl rfl ?_
 show Cw _ _ _ _ [(0, .agg ([.int .i64 ((q + 1 : Nat) : Int), .int .i64 ((nn : Nat) : Int), .int .u32 ((ge : Nat) : Int)] : List Value).toArray)] _
 refine C_seq fun K1 hK1 => C_region <| R_lo (lo_box (L := [.int .i64 ((q + 1 : Nat) : Int), .int .i64 ((nn : Nat) : Int), .int .u32 ((ge : Nat) : Int)]) rfl rfl) rfl ?_
 rintro _ w1 ⟨pc, rfl, N1⟩
 have k1 := N1.kp
 have kk1 := kk0.then_ k1
 have f_pc_1 := N1.bk
 refine Rp (pu_assign rfl) <| R_nil <| X_then hK1 <| C_seq fun K2 hK2 => C_seq fun K3 hK3 => C_region <| Rp (pu_fieldAddr (off := 0) (o' := 0) (by kernel_rfl) rfl rfl) <| Rp (pu_loadRow (len := 3) f_pc_1 (by kernel_rfl) (by kernel_rfl) rfl rfl) <| R_lo (lo_call (by kernel_rfl) rfl (shamir_check_yes q nn ge _ hP)) rfl ?_
 rintro _ w2 ⟨rfl, k2⟩
 have kk2 := kk1.then_ k2
 refine Rp (pu_neqnn (by kernel_rfl) rfl) <| Rp (pu_move rfl) <| Rg (pu_fieldAddr (off := 0) (o' := 0) (by kernel_rfl) rfl rfl) <| Rg (pu_fieldAddr (off := 2) (o' := 2) (by kernel_rfl) rfl rfl) ?_
 have f4 := (f_pc_1.no k2)
 exact Rg (pu_loadK f4 (by kernel_rfl) rfl rfl) <| Rg (pu_false (pu_eql (p := ge = 0) rfl rfl (by omega)) hg) <| Rp (pu_pickf rfl rfl) <| R_nil <| X_then hK3 <| C_false rfl <| C_skip <| X_then hK2 <| C_seq fun K5 hK5 => C_region <| Rp (pu_assign rfl) <| R_nil <| X_then hK5 <| C_ret <| X_ret1 (.inl rfl) rfl rfl ⟨rfl, kk2⟩
theorem config_made (q nn ge : Nat) (w : World) (hP : 2 ≤ q + 1 ∧ q + 1 ≤ nn ∧ nn ≤ 255) (hge : ge < 4294967296) (hg : ge ≠ 0) : Ret Tryz.prog 30 #[.int .i64 ((q + 1 : Nat) : Int), .int .i64 ((nn : Nat) : Int), .int .u32 ((ge : Nat) : Int)] w (fun v w' => v = .tuple #[.agg ([.int .i64 ((q + 1 : Nat) : Int), .int .i64 ((nn : Nat) : Int), .int .u32 ((ge : Nat) : Int)] : List Value).toArray, .nilIface] ∧ Kp No w w') := by
 have kk0 := Kp.refl No w
 refine enter (n := 22) [.int .i64 ((q + 1 : Nat) : Int), .int .i64 ((nn : Nat) : Int), .int .u32 ((ge : Nat) : Int)] Tryz.func30 rfl rfl rfl ?_
 show Cw _ _ _ _ [(0, .int .i64 ((q + 1 : Nat) : Int)), (1, .int .i64 ((nn : Nat) : Int)), (2, .int .u32 ((ge : Nat) : Int))] _
 refine C_seq fun K1 hK1 => C_region <| R_lo (lo_alloc (L := [.int .i64 0, .int .i64 0, .int .u32 0]) (by kernel_rfl)) rfl ?_
 rintro _ w1 ⟨pr, rfl, N1⟩
 have k1 := N1.kp
 have kk1 := kk0.then_ k1
 have f_pr_1 := N1.bk
 refine Rp (pu_assign rfl) <| R_nil <| X_then hK1 <| C_seq fun K2 hK2 => C_region <| Rp (pu_move rfl) <| Rp (pu_move rfl) <| Rp (pu_move rfl) <| Rp (pu_build (L := [.int .i64 ((q + 1 : Nat) : Int), .int .i64 ((nn : Nat) : Int), .int .u32 ((ge : Nat) : Int)]) rfl (by kernel_rfl)) <| Rp (pu_build (L := [.int .i64 ((q + 1 : Nat) : Int), .int .i64 ((nn : Nat) : Int), .int .u32 ((ge : Nat) : Int)]) rfl (by kernel_rfl)) <| R_lo (lo_alloc (L := [.int .i64 0, .int .i64 0, .int .u32 0]) (by kernel_rfl)) rfl ?_
 rintro _ w2 ⟨pc, rfl, N2⟩
 have k2 := N2.kp
 have kk2 := kk1.then_ k2
 have ne_pc_pr := Nat.ne_of_gt (Nat.lt_of_lt_of_le f_pr_1.lt N2.le)
 have f_pc_2 := N2.bk
 refine R_lo0 (lo_storeRow (C := [.int .i64 ((q + 1 : Nat) : Int), .int .i64 ((nn : Nat) : Int), .int .u32 ((ge : Nat) : Int)]) f_pc_2 (by kernel_rfl) rfl rfl (by intro u hu; simp at hu; rcases hu with rfl | rfl | rfl <;> rfl) rfl) ?_
 rintro _ w3 kf3
 obtain ⟨k3, f_pc_3⟩ := kf3
 replace f_pc_3 : Bk w3 pc ([.int .i64 ((q + 1 : Nat) : Int), .int .i64 ((nn : Nat) : Int), .int .u32 ((ge : Nat) : Int)]) 36 := f_pc_3
 have kk3 := kk2.trans k3 (fun i hi => .inr (hi ▸ (Nat.le_trans kk1.size N2.le)))
 refine R_nil <| X_then hK2 <| C_seq fun K3 hK3 => C_seq fun K4 hK4 => C_region <| Rp (pu_loadRow (len := 3) f_pc_3 (by kernel_rfl) (by kernel_rfl) rfl rfl) <| R_lo (lo_call (by kernel_rfl) rfl (config_check q nn ge _ hP hge hg)) rfl ?_
 rintro _ w4 ⟨rfl, k4⟩
 have kk4 := kk3.then_ k4
 refine Rp (pu_assign rfl) <| R_nil <| X_then hK4 <| C_seq fun K5 hK5 => C_region <| Rp (pu_move rfl) <| Rp (pu_neqnn (by kernel_rfl) rfl) <| R_nil <| X_then hK5 <| C_false rfl <| C_skip <| X_then hK3 <| C_seq fun K6 hK6 => C_region ?_
 have f7 := (f_pc_3.no k4)
 refine Rp (pu_loadRow (len := 3) f7 (by kernel_rfl) (by kernel_rfl) rfl rfl) ?_
 have f8 := (((f_pr_1.no k2).on k3 (Ne.symm ne_pc_pr)).no k4)
 refine R_lo0 (lo_storeRow (C := [.int .i64 ((q + 1 : Nat) : Int), .int .i64 ((nn : Nat) : Int), .int .u32 ((ge : Nat) : Int)]) f8 (by kernel_rfl) rfl rfl (by intro u hu; simp at hu; rcases hu with rfl | rfl | rfl <;> rfl) rfl) ?_
 rintro _ w5 kf5
 obtain ⟨k5, f_pr_5⟩ := kf5
 replace f_pr_5 : Bk w5 pr ([.int .i64 ((q + 1 : Nat) : Int), .int .i64 ((nn : Nat) : Int), .int .u32 ((ge : Nat) : Int)]) 36 := f_pr_5
 have kk5 := kk4.trans k5 (fun i hi => .inr (hi ▸ (Nat.le_trans kk0.size N1.le)))
 exact Rp (pu_assign rfl) <| R_nil <| X_then hK6 <| C_ret <| X_retCT (len := 3) (.inl rfl) rfl rfl f_pr_5 (by kernel_rfl) (by kernel_rfl) rfl rfl ⟨rfl, kk5⟩
theorem config_new (q nn : Nat) (w : World) (hP : 2 ≤ q + 1 ∧ q + 1 ≤ nn ∧ nn ≤ 255) : Ret Tryz.prog 16 #[.int .i64 ((q + 1 : Nat) : Int), .int .i64 ((nn : Nat) : Int)] w (fun v w' => v = .tuple #[.agg ([.int .i64 ((q + 1 : Nat) : Int), .int .i64 ((nn : Nat) : Int), .int .u32 1] : List Value).toArray, .nilIface] ∧ Kp No w w') := by
 have kk0 := Kp.refl No w
 refine enter (n := 11) [.int .i64 ((q + 1 : Nat) : Int), .int .i64 ((nn : Nat) : Int)] Tryz.func16 rfl rfl rfl ?_
 show Cw _ _ _ _ [(0, .int .i64 ((q + 1 : Nat) : Int)), (1, .int .i64 ((nn : Nat) : Int))] _
 refine C_seq fun K1 hK1 => C_region <| R_lo (lo_alloc (L := [.int .i64 0, .int .i64 0, .int .u32 0]) (by kernel_rfl)) rfl ?_
 rintro _ w1 ⟨pr, rfl, N1⟩
 have k1 := N1.kp
 have kk1 := kk0.then_ k1
 have f_pr_1 := N1.bk
 refine Rp (pu_assign rfl) <| R_nil <| X_then hK1 <| C_seq fun K2 hK2 => C_region <| Rp (pu_move rfl) <| Rp (pu_move rfl) <| R_lo (lo_call (by kernel_rfl) rfl (config_made q nn 1 _ hP (by decide) (by decide))) rfl ?_
 rintro _ w2 ⟨rfl, k2⟩
 have kk2 := kk1.then_ k2
 refine Rp (pu_extract rfl rfl) <| Rp (pu_extract rfl rfl) ?_
 have f3 := (f_pr_1.no k2)
 refine R_lo0 (lo_storeRow (C := [.int .i64 ((q + 1 : Nat) : Int), .int .i64 ((nn : Nat) : Int), .int .u32 1]) f3 (by kernel_rfl) rfl rfl (by intro u hu; simp at hu; rcases hu with rfl | rfl | rfl <;> rfl) rfl) ?_
 rintro _ w3 kf3
 obtain ⟨k3, f_pr_3⟩ := kf3
 replace f_pr_3 : Bk w3 pr ([.int .i64 ((q + 1 : Nat) : Int), .int .i64 ((nn : Nat) : Int), .int .u32 1]) 36 := f_pr_3
 have kk3 := kk2.trans k3 (fun i hi => .inr (hi ▸ (Nat.le_trans kk0.size N1.le)))
 exact Rp (pu_assign rfl) <| R_nil <| X_then hK2 <| C_ret <| X_retCT (len := 3) (.inl rfl) rfl rfl f_pr_3 (by kernel_rfl) (by kernel_rfl) rfl rfl ⟨rfl, kk3⟩
theorem config_next (q0 n0 ge q nn : Nat) (w : World) (hP0 : 2 ≤ q0 + 1 ∧ q0 + 1 ≤ n0 ∧ n0 ≤ 255) (hg : 1 ≤ ge ∧ ge < 4294967295) (hP : 2 ≤ q + 1 ∧ q + 1 ≤ nn ∧ nn ≤ 255) : Ret Tryz.prog 24 #[.agg ([.int .i64 ((q0 + 1 : Nat) : Int), .int .i64 ((n0 : Nat) : Int), .int .u32 ((ge : Nat) : Int)] : List Value).toArray, .int .i64 ((q + 1 : Nat) : Int), .int .i64 ((nn : Nat) : Int)] w (fun v w' => v = .tuple #[.agg ([.int .i64 ((q + 1 : Nat) : Int), .int .i64 ((nn : Nat) : Int), .int .u32 ((ge + 1 : Nat) : Int)] : List Value).toArray, .nilIface] ∧ Kp No w w') := by
 have kk0 := Kp.refl No w
 refine enter (n := 42) [.agg ([.int .i64 ((q0 + 1 : Nat) : Int), .int .i64 ((n0 : Nat) : Int), .int .u32 ((ge : Nat) : Int)] : List Value).toArray, .int .i64 ((q + 1 : Nat) : Int), .int .i64 ((nn : Nat) : Int)] Tryz.func24 rfl rfl rfl ?_
 show Cw _ _ _ _ [(0, .agg ([.int .i64 ((q0 + 1 : Nat) : Int), .int .i64 ((n0 : Nat) : Int), .int .u32 ((ge : Nat) : Int)] : List Value).toArray), (1, .int .i64 ((q + 1 : Nat) : Int)), (2, .int .i64 ((nn : Nat) : Int))] _
 refine C_seq fun K1 hK1 => C_region <| R_lo (lo_box (L := [.int .i64 ((q0 + 1 : Nat) : Int), .int .i64 ((n0 : Nat) : Int), .int .u32 ((ge : Nat) : Int)]) rfl rfl) rfl ?_
 rintro _ w1 ⟨pc, rfl, N1⟩
 have k1 := N1.kp
 have kk1 := kk0.then_ k1
 have f_pc_1 := N1.bk
 refine R_lo (lo_alloc (L := [.int .i64 0, .int .i64 0, .int .u32 0]) (by kernel_rfl)) rfl ?_
 rintro _ w2 ⟨pr, rfl, N2⟩
 have k2 := N2.kp
 have kk2 := kk1.then_ k2
 have f_pr_2 := N2.bk
 refine Rp (pu_assign rfl) <| R_nil <| X_then hK1 <| C_seq fun K2 hK2 => C_seq fun K3 hK3 => C_region ?_
 have f4 := (f_pc_1.no k2)
 refine Rp (pu_loadRow (len := 3) f4 (by kernel_rfl) (by kernel_rfl) rfl rfl) <| R_lo (lo_call (by kernel_rfl) rfl (config_check q0 n0 ge _ hP0 (by omega) (by omega))) rfl ?_
 rintro _ w3 ⟨rfl, k3⟩
 have kk3 := kk2.then_ k3
 refine Rp (pu_assign rfl) <| R_nil <| X_then hK3 <| C_seq fun K5 hK5 => C_region <| Rp (pu_move rfl) <| Rp (pu_neqnn (by kernel_rfl) rfl) <| R_nil <| X_then hK5 <| C_false rfl <| C_skip <| X_then hK2 <| C_seq fun K6 hK6 => C_seq fun K7 hK7 => C_region <| Rp (pu_move rfl) <| Rp (pu_move rfl) <| R_lo (lo_call (by kernel_rfl) rfl (config_made q nn 1 _ hP (by decide) (by decide))) rfl ?_
 rintro _ w4 ⟨rfl, k4⟩
 have kk4 := kk3.then_ k4
 refine Rp (pu_move rfl) <| Rp (pu_extract rfl rfl) <| Rp (pu_extract rfl rfl) ?_
 have f8 := ((f4.no k3).no k4)
 have f9 := ((f_pr_2.no k3).no k4)
 refine R_lo (lo_alloc (L := [.int .i64 0, .int .i64 0, .int .u32 0]) (by kernel_rfl)) rfl ?_
 rintro _ w5 ⟨pd, rfl, N5⟩
 have k5 := N5.kp
 have kk5 := kk4.then_ k5
 have ne_pd_pc := Nat.ne_of_gt (Nat.lt_of_lt_of_le f8.lt N5.le)
 have ne_pd_pr := Nat.ne_of_gt (Nat.lt_of_lt_of_le f9.lt N5.le)
 have f_pd_5 := N5.bk
 refine R_lo0 (lo_storeRow (C := [.int .i64 ((q + 1 : Nat) : Int), .int .i64 ((nn : Nat) : Int), .int .u32 1]) f_pd_5 (by kernel_rfl) rfl rfl (by intro u hu; simp at hu; rcases hu with rfl | rfl | rfl <;> rfl) rfl) ?_
 rintro _ w6 kf6
 obtain ⟨k6, f_pd_6⟩ := kf6
 replace f_pd_6 : Bk w6 pd ([.int .i64 ((q + 1 : Nat) : Int), .int .i64 ((nn : Nat) : Int), .int .u32 1]) 36 := f_pd_6
 have kk6 := kk5.trans k6 (fun i hi => .inr (hi ▸ (Nat.le_trans kk4.size N5.le)))
 refine Rp (pu_assign rfl) <| R_nil <| X_then hK7 <| C_seq fun K10 hK10 => C_region <| Rp (pu_move rfl) <| Rp (pu_neqnn (by kernel_rfl) rfl) <| R_nil <| X_then hK10 <| C_false rfl <| C_skip <| X_then hK6 <| C_seq fun K11 hK11 => C_seq fun K12 hK12 => C_region <| Rp (pu_fieldAddr (off := 0) (o' := 0) (by kernel_rfl) rfl rfl) <| Rp (pu_fieldAddr (off := 2) (o' := 2) (by kernel_rfl) rfl rfl) ?_
 have f13 := ((f8.no k5).on k6 (Ne.symm ne_pd_pc))
 refine Rp (pu_loadK f13 (by kernel_rfl) rfl rfl) <| Rp (pu_false (pu_eql (p := ge = 4294967295) rfl rfl (by omega)) (by omega)) <| R_nil <| X_then hK12 <| C_false rfl <| C_skip <| X_then hK11 <| C_seq fun K14 hK14 => C_region <| Rp (pu_move rfl) <| Rp (pu_move rfl) <| Rp (pu_fieldAddr (off := 0) (o' := 0) (by kernel_rfl) rfl rfl) <| Rp (pu_fieldAddr (off := 2) (o' := 2) (by kernel_rfl) rfl rfl) <| Rp (pu_loadK f13 (by kernel_rfl) rfl rfl) <| Rp (pu_add (z := ((ge + 1 : Nat) : Int)) rfl rfl (by rw [IntKind.wrap_u32]; omega)) <| R_lo (lo_call (by kernel_rfl) rfl (config_made q nn (ge + 1) _ hP (by omega) (by omega))) rfl ?_
 rintro _ w7 ⟨rfl, k7⟩
 have kk7 := kk6.then_ k7
 refine Rp (pu_extract rfl rfl) <| Rp (pu_extract rfl rfl) ?_
 have f15 := (((f9.no k5).on k6 (Ne.symm ne_pd_pr)).no k7)
 refine R_lo0 (lo_storeRow (C := [.int .i64 ((q + 1 : Nat) : Int), .int .i64 ((nn : Nat) : Int), .int .u32 ((ge + 1 : Nat) : Int)]) f15 (by kernel_rfl) rfl rfl (by intro u hu; simp at hu; rcases hu with rfl | rfl | rfl <;> rfl) rfl) ?_
 rintro _ w8 kf8
 obtain ⟨k8, f_pr_8⟩ := kf8
 replace f_pr_8 : Bk w8 pr ([.int .i64 ((q + 1 : Nat) : Int), .int .i64 ((nn : Nat) : Int), .int .u32 ((ge + 1 : Nat) : Int)]) 36 := f_pr_8
 have kk8 := kk7.trans k8 (fun i hi => .inr (hi ▸ (Nat.le_trans kk1.size N2.le)))
 exact Rp (pu_assign rfl) <| R_nil <| X_then hK14 <| C_ret <| X_retCT (len := 3) (.inl rfl) rfl rfl f_pr_8 (by kernel_rfl) (by kernel_rfl) rfl rfl ⟨rfl, kk8⟩
theorem cer_need (q : Nat) (w : World) (hq : 1 ≤ q ∧ q + 1 ≤ 12) : Ret Tryz.prog 7 #[.int .i64 ((q + 1 : Nat) : Int)] w (fun v w' => v = .tuple #[.int .i64 ((32 * (q + 1 + 2) : Nat) : Int), .int .i64 ((32 * (q + 1) : Nat) : Int)] ∧ Kp No w w') := by
 have kk0 := Kp.refl No w
 refine enter (n := 15) [.int .i64 ((q + 1 : Nat) : Int)] Tryz.func7 rfl rfl rfl ?_
 show Cw _ _ _ _ [(0, .int .i64 ((q + 1 : Nat) : Int))] _
 exact C_seq fun K1 hK1 => C_region <| Rp (pu_assign rfl) <| Rp (pu_assign rfl) <| R_nil <| X_then hK1 <| C_seq fun K2 hK2 => C_seq fun K3 hK3 => C_region <| Rp (pu_move rfl) <| Rp (pu_false (pu_lss (p := (q + 1) < 2) rfl rfl (by omega)) (by omega)) <| Rp (pu_move rfl) <| Rg (pu_move rfl) <| Rg (pu_false (pu_gtr (p := (q + 1) > 12) rfl rfl (by omega)) (by omega)) <| Rp (pu_pickf rfl rfl) <| R_nil <| X_then hK3 <| C_false rfl <| C_skip <| X_then hK2 <| C_seq fun K4 hK4 => C_region <| Rp (pu_move rfl) <| Rp (pu_add (z := (((q + 1) + 2 : Nat) : Int)) rfl rfl (by rw [IntKind.wrap_i64]; omega)) <| Rp (pu_mul (z := ((32 * ((q + 1) + 2) : Nat) : Int)) rfl rfl (by rw [IntKind.wrap_i64]; omega)) <| Rp (pu_move rfl) <| Rp (pu_mul (z := ((32 * (q + 1) : Nat) : Int)) rfl rfl (by rw [IntKind.wrap_i64]; omega)) <| Rp (pu_assign rfl) <| Rp (pu_assign rfl) <| R_nil <| X_then hK4 <| C_ret <| X_ret2 (.inl rfl) rfl rfl rfl ⟨rfl, kk0⟩
theorem cer_planned (q nn : Nat) (w : World) (hP : 2 ≤ q + 1 ∧ q + 1 ≤ nn ∧ nn ≤ 12) : Ret Tryz.prog 15 #[.int .i64 ((q + 1 : Nat) : Int), .int .i64 ((nn : Nat) : Int)] w (fun v w' => v = .bool true ∧ Kp No w w') := by
 have kk0 := Kp.refl No w
 refine enter (n := 14) [.int .i64 ((q + 1 : Nat) : Int), .int .i64 ((nn : Nat) : Int)] Tryz.func15 rfl rfl rfl ?_
 show Cw _ _ _ _ [(0, .int .i64 ((q + 1 : Nat) : Int)), (1, .int .i64 ((nn : Nat) : Int))] _
 refine C_seq fun K1 hK1 => C_region <| Rp (pu_assign rfl) <| R_nil <| X_then hK1 <| C_seq fun K2 hK2 => C_region <| Rp (pu_move rfl) <| Rp (pu_move rfl) <| Rp (pu_build (L := [.int .i64 ((q + 1 : Nat) : Int), .int .i64 ((nn : Nat) : Int), .int .u32 0]) rfl (by kernel_rfl)) <| R_lo (lo_call (by kernel_rfl) rfl (shamir_check_yes q nn 0 _ (by omega))) rfl ?_
 rintro _ w1 ⟨rfl, k1⟩
 have kk1 := kk0.then_ k1
 exact Rp (pu_eqlnn (by kernel_rfl) rfl) <| Rp (pu_move rfl) <| Rg (pu_move rfl) <| Rg (pu_true (pu_leq (p := nn ≤ 12) rfl rfl (by omega)) hP.2.2) <| Rp (pu_pickt rfl rfl) <| Rp (pu_assign rfl) <| R_nil <| X_then hK2 <| C_ret <| X_ret1 (.inl rfl) rfl rfl ⟨rfl, kk1⟩
theorem cer_parted (pm b : Nat) (A5 : Option Addr) (l5 c5 q nn ge : Nat) (A : Option Addr) (U : List Nat) (c : Nat) (A2 : Option Addr) (R : List Nat) (c2 : Nat) (A3 : Option Addr) (D : List Nat) (c3 : Nat) (w : World) (hne : pm ≠ b) (hP : 2 ≤ q + 1 ∧ q + 1 ≤ nn ∧ nn ≤ 255) (hge : ge < 4294967296) (HU : Bs w A U) (hc : U.length ≤ c) (HR : Bs w A2 R) (hc2 : R.length ≤ c2) (HD : Bs w A3 D) (hc3 : D.length ≤ c3) (hl : U.length = 32 ∧ R.length = 32 ∧ D.length = q * 32) (aw1_HU : Aw (On pm) A U) (aw2_HU : Aw (On b) A U) (aw1_HR : Aw (On pm) A2 R) (aw2_HR : Aw (On b) A2 R) (aw1_HD : Aw (On pm) A3 D) (aw2_HD : Aw (On b) A3 D) (hm : Bk w pm ([.int .i64 0, .int .i64 0, .int .u32 0, .slice none (0) (0), .slice A5 (l5) (c5), .slice none (0) (0)]) 39) (hT : Tb w b) : Ret Tryz.prog 17 #[.pointer (some ⟨pm, 0, none⟩), .pointer (some ⟨b, 0, none⟩), .agg ([.int .i64 ((q + 1 : Nat) : Int), .int .i64 ((nn : Nat) : Int), .int .u32 ((ge : Nat) : Int)] : List Value).toArray, .slice A (U.length) (c), .slice A2 (R.length) (c2), .slice A3 (D.length) (c3)] w (fun v w' => ∃ A c A' c' L, v = .nilIface ∧ Ob w' w.heap.size (.slice A (boxE U R ge).length c) (boxE U R ge) ∧ Sw 51 w.heap.size w' w.heap.size (.slice A' (L : List Shr).length c') L ∧ L.map Shr.key = ptK U D q ge nn ∧ Bk w' pm [.int .i64 ((q + 1 : Nat) : Int), .int .i64 ((nn : Nat) : Int), .int .u32 ((ge : Nat) : Int), .slice A (boxE U R ge).length c, .slice A5 l5 c5, .slice A' L.length c'] 39 ∧ Tb w' b ∧ Kp (Ons [pm, b]) w w') := by
 have kk0 := Kp.refl (Ons [pm, b]) w
 refine enter (n := 52) [.pointer (some ⟨pm, 0, none⟩), .pointer (some ⟨b, 0, none⟩), .agg ([.int .i64 ((q + 1 : Nat) : Int), .int .i64 ((nn : Nat) : Int), .int .u32 ((ge : Nat) : Int)] : List Value).toArray, .slice A (U.length) (c), .slice A2 (R.length) (c2), .slice A3 (D.length) (c3)] Tryz.func17 rfl rfl rfl ?_
 show Cw _ _ _ _ [(0, .pointer (some ⟨pm, 0, none⟩)), (1, .pointer (some ⟨b, 0, none⟩)), (2, .agg ([.int .i64 ((q + 1 : Nat) : Int), .int .i64 ((nn : Nat) : Int), .int .u32 ((ge : Nat) : Int)] : List Value).toArray), (3, .slice A (U.length) (c)), (4, .slice A2 (R.length) (c2)), (5, .slice A3 (D.length) (c3))] _
 refine C_seq fun K1 hK1 => C_region <| R_lo (lo_box (L := [.int .i64 ((q + 1 : Nat) : Int), .int .i64 ((nn : Nat) : Int), .int .u32 ((ge : Nat) : Int)]) rfl rfl) rfl ?_
 rintro _ w1 ⟨pc, rfl, N1⟩
 have k1 := N1.kp
 have kk1 := kk0.thenNo k1
 have ne_pc_b := Nat.ne_of_gt (Nat.lt_of_lt_of_le hT.lt N1.le)
 have f_pc_1 := N1.bk
 refine Rp (pu_assign rfl) <| R_nil <| X_then hK1 <| C_seq fun K2 hK2 => C_region <| Rp (pu_move rfl) <| Rp (pu_move rfl) <| Rp (pu_fieldAddr (off := 0) (o' := 0) (by kernel_rfl) rfl rfl) <| Rp (pu_fieldAddr (off := 2) (o' := 2) (by kernel_rfl) rfl rfl) <| Rp (pu_loadK f_pc_1 (by kernel_rfl) rfl rfl) ?_
 have f3 := (hm.no k1)
 have o4 := (hT.no k1)
 refine R_lo (lo_call (by kernel_rfl) rfl (env_seal A U c A2 R c2 ge _ (HU.keptS kk1 (Aw.two aw1_HU aw2_HU)) hc (HR.keptS kk1 (Aw.two aw1_HR aw2_HR)) hc2 hge ⟨hl.1, hl.2.1⟩)) rfl ?_
 rintro _ w2 ⟨A_se, c_se, rfl, Q2, k2⟩
 have kk2 := kk1.thenNo k2
 refine Rp (pu_move rfl) <| Rp (pu_extract rfl rfl) <| Rp (pu_extract rfl rfl) <| Rp (pu_assign rfl) <| Rp (pu_assign rfl) <| R_nil <| X_then hK2 <| C_seq fun K6 hK6 => C_seq fun K7 hK7 => C_region <| Rp (pu_move rfl) <| Rp (pu_neqnn (by kernel_rfl) rfl) <| R_nil <| X_then hK7 <| C_false rfl <| C_skip <| X_then hK6 <| C_seq fun K8 hK8 => C_region <| Rp (pu_move rfl) <| Rp (pu_move rfl) <| Rp (pu_fieldAddr (off := 0) (o' := 0) (by kernel_rfl) rfl rfl) ?_
 have f9 := (f_pc_1.no k2)
 refine Rp (pu_loadRow (len := 3) f9 (by kernel_rfl) (by kernel_rfl) rfl rfl) <| Rp (pu_move rfl) ?_
 have f10 := (f3.no k2)
 have o11 := (o4.no k2)
 refine R_lo (lo_call (by kernel_rfl) rfl (shamir_split b A U c q nn ge A3 D c3 _ (HU.keptS kk2 (Aw.two aw1_HU aw2_HU)) hc (HD.keptS kk2 (Aw.two aw1_HD aw2_HD)) hc3 hge hP (by omega) (by rw [hl.1]; exact hl.2.2) aw2_HU aw2_HD o11)) rfl ?_
 rintro _ w3 ⟨A_sp, c_sp, L_sp, rfl, Q3, hK_sp, T3, k3⟩
 have kk3 := kk2.trans k3 (On.sub (.inl Ons.mem1))
 have hl_sp := (key_len hK_sp).trans (ptK_length ..)
 refine Rp (pu_move rfl) <| Rp (pu_extract rfl rfl) <| Rp (pu_extract rfl rfl) <| Rp (pu_assign rfl) <| Rp (pu_assign rfl) <| R_nil <| X_then hK8 <| C_seq fun K14 hK14 => C_seq fun K15 hK15 => C_region <| Rp (pu_move rfl) <| Rp (pu_neqnn (by kernel_rfl) rfl) <| R_nil <| X_then hK15 <| C_false rfl <| C_skip <| X_then hK14 <| C_seq fun K16 hK16 => C_region <| Rp (pu_move rfl) <| Rp (pu_move rfl) <| Rp (pu_move rfl) ?_
 have f17 := (f9.on k3 ne_pc_b)
 refine Rp (pu_loadRow (len := 3) f17 (by kernel_rfl) (by kernel_rfl) rfl rfl) <| Rp (pu_move rfl) <| Rp (pu_move rfl) <| Rp (pu_nilCheck rfl) <| Rp (pu_fieldAddr (off := 0) (o' := 0) (by kernel_rfl) rfl rfl) ?_
 have f18 := (f10.on k3 hne)
 refine R_lo0 (lo_storeCs (C := [.int .i64 ((q + 1 : Nat) : Int), .int .i64 ((nn : Nat) : Int), .int .u32 ((ge : Nat) : Int)]) f18 (by kernel_rfl) rfl rfl rfl (by simp only [List.mem_cons, List.not_mem_nil, or_false, forall_eq_or_imp, forall_eq]; exact ⟨rfl, rfl, rfl⟩) (Nat.le_of_ble_eq_true rfl)) ?_
 rintro _ w4 kf4
 obtain ⟨k4, f_pm_4⟩ := kf4
 replace f_pm_4 : Bk w4 pm ([.int .i64 ((q + 1 : Nat) : Int), .int .i64 ((nn : Nat) : Int), .int .u32 ((ge : Nat) : Int), .slice none (0) (0), .slice A5 (l5) (c5), .slice none (0) (0)]) 39 := f_pm_4
 have kk4 := kk3.trans k4 (On.sub (.inl Ons.mem0))
 refine Rp (pu_nilCheck rfl) <| Rp (pu_fieldAddr (off := 3) (o' := 3) (by kernel_rfl) rfl rfl) <| R_lo0 (lo_store f_pm_4 (by kernel_rfl) rfl rfl rfl (show 3 < 6 by decide)) ?_
 rintro _ w5 kf5
 obtain ⟨k5, f_pm_5⟩ := kf5
 replace f_pm_5 : Bk w5 pm ([.int .i64 ((q + 1 : Nat) : Int), .int .i64 ((nn : Nat) : Int), .int .u32 ((ge : Nat) : Int), .slice A_se ((boxE U R ge).length) (c_se), .slice A5 (l5) (c5), .slice none (0) (0)]) 39 := f_pm_5
 have kk5 := kk4.trans k5 (On.sub (.inl Ons.mem0))
 refine Rp (pu_nilCheck rfl) <| Rp (pu_fieldAddr (off := 5) (o' := 5) (by kernel_rfl) rfl rfl) <| R_lo0 (lo_store f_pm_5 (by kernel_rfl) rfl rfl rfl (show 5 < 6 by decide)) ?_
 rintro _ w6 kf6
 obtain ⟨k6, f_pm_6⟩ := kf6
 replace f_pm_6 : Bk w6 pm ([.int .i64 ((q + 1 : Nat) : Int), .int .i64 ((nn : Nat) : Int), .int .u32 ((ge : Nat) : Int), .slice A_se ((boxE U R ge).length) (c_se), .slice A5 (l5) (c5), .slice A_sp ((L_sp).length) (c_sp)]) 39 := f_pm_6
 have kk6 := kk5.trans k6 (On.sub (.inl Ons.mem0))
 refine R_nil <| X_then hK16 <| C_seq fun K19 hK19 => C_region <| Rp (pu_assign rfl) <| R_nil <| X_then hK19 <| C_ret ?_
 have ob20 := ((((Q2.on k3 (by have := o4.lt; omega)).on k4 (by have := f3.lt; omega)).on k5 (by have := f3.lt; omega)).on k6 (by have := f3.lt; omega))
 have ob21 := (((Q3.on k4 (by have := f10.lt; omega)).on k5 (by have := f10.lt; omega)).on k6 (by have := f10.lt; omega))
 have o22 := (((T3.on k4 (Ne.symm hne)).on k5 (Ne.symm hne)).on k6 (Ne.symm hne))
 exact X_ret1 (.inl rfl) rfl rfl ⟨_, _, _, _, L_sp, rfl, ob20.low ((kk1).size), ((ob21).lowb (kk2).size).lowd (kk2).size, hK_sp, f_pm_6, o22, kk6⟩
theorem clone_ret (A : Option Addr) (l : List Nat) (c : Nat) (w : World) (HB : Bs w A l) (hc : l.length ≤ c) (hp : 0 < l.length ∧ l.length < 1000000) : Ret Tryz.prog 25 #[.slice A (l.length) (c)] w (fun v w' => ∃ A c, v = .slice A l.length c ∧ Ob w' w.heap.size (.slice A l.length c) l ∧ Kp No w w') := by
 have hA := some_of HB hp.1
 have kk0 := Kp.refl No w
 refine enter (n := 8) [.slice A (l.length) (c)] Tryz.func25 rfl rfl rfl ?_
 show Cw _ _ _ _ [(0, .slice A (l.length) (c))] _
 refine C_seq fun K1 hK1 => C_region <| Rp (pu_assign rfl) <| R_nil <| X_then hK1 <| C_seq fun K2 hK2 => C_seq fun K3 hK3 => C_region <| Rp (pu_move rfl) <| Rp (pu_eqlsn Tryz.underlying22 rfl hA) <| R_nil <| X_then hK3 <| C_false rfl <| C_skip <| X_then hK2 <| C_seq fun K4 hK4 => C_region <| R_lo (lo_buildSlice0 (sz := 1) Tryz.underlying22 (by kernel_rfl)) rfl ?_
 rintro _ w1 ⟨e0, rfl, N1⟩
 have k1 := N1.kp
 have kk1 := kk0.then_ k1
 have f_e0_1 := N1.bk
 refine Rp (pu_move rfl) ?_
 have ob5 : Ob w1 w.heap.size (.slice (some ⟨e0, 0, none⟩) ([] : List Nat).length 0) [] := Ob.low0 (t := 0) f_e0_1 N1.le
 have z6 := N1.kp.size
 refine R_lo (lo_app (X := ([] : List Nat)) (Y := l) ob5 ob5.le.1 rfl rfl rfl (HB.keptNo kk1) (by simp; omega) z6) rfl ?_
 rintro _ w2 ⟨A_2, c_2, rfl, p2⟩
 have k2 := p2.kp
 have kk2 := kk1.trans k2 (fun i hi => .inr (Nat.le_trans (kk0).size hi))
 exact Rp (pu_assign rfl) <| R_nil <| X_then hK4 <| C_ret <| X_ret1 (.inl rfl) rfl rfl ⟨_, _, rfl, p2.ob.low (by first | exact Nat.le_refl _ | exact (kk0).size), kk2⟩
theorem cer_init (b q nn : Nat) (A : Option Addr) (D : List Nat) (c : Nat) (U R Y X Z : List Nat) (w : World) (HD : Bs w A D) (hc : D.length ≤ c) (hD : D = U ++ (R ++ (Y ++ (X ++ Z))) ∧ (2 ≤ q + 1 ∧ q + 1 ≤ nn ∧ nn ≤ 12) ∧ U.length = 32 ∧ R.length = 32 ∧ Y.length = 32 ∧ X.length = q * 32) (aw_HD : Aw (On b) A D) (hT : Tb w b) : Ret Tryz.prog 9 #[.pointer (some ⟨b, 0, none⟩), .int .i64 ((q + 1 : Nat) : Int), .int .i64 ((nn : Nat) : Int), .slice A (D.length) (c)] w (fun v w' => ∃ A1 c1 A2 c2 A3 c3 L, v = .tuple #[.agg ([.int .i64 ((q + 1 : Nat) : Int), .int .i64 ((nn : Nat) : Int), .int .u32 1, .slice A1 (boxE U R 1).length c1, .slice A2 (boxR R (encR [(1, Y)])).length c2, .slice A3 L.length c3] : List Value).toArray, .nilIface] ∧ Ob w' w.heap.size (.slice A1 (boxE U R 1).length c1) (boxE U R 1) ∧ Ob w' w.heap.size (.slice A2 (boxR R (encR [(1, Y)])).length c2) (boxR R (encR [(1, Y)])) ∧ Sw 51 w.heap.size w' w.heap.size (.slice A3 (L : List Shr).length c3) L ∧ L.map Shr.key = ptK U X q 1 nn ∧ Tb w' b ∧ Kp (On b) w w') := by
 obtain ⟨hD, hP, hl⟩ := hD
 obtain ⟨hU, hR, hY, hX⟩ := hl
 have hDl : D.length = 96 + q * 32 + Z.length := by rw [hD]; simp only [List.length_append]; omega
 have kk0 := Kp.refl (On b) w
 refine enter (n := 85) [.pointer (some ⟨b, 0, none⟩), .int .i64 ((q + 1 : Nat) : Int), .int .i64 ((nn : Nat) : Int), .slice A (D.length) (c)] Tryz.func9 rfl rfl rfl ?_
 show Cw _ _ _ _ [(0, .pointer (some ⟨b, 0, none⟩)), (1, .int .i64 ((q + 1 : Nat) : Int)), (2, .int .i64 ((nn : Nat) : Int)), (3, .slice A (D.length) (c))] _
 refine C_seq fun K1 hK1 => C_region <| R_lo (lo_alloc (L := [.int .i64 0, .int .i64 0, .int .u32 0, .slice none (0) (0), .slice none (0) (0), .slice none (0) (0)]) (by kernel_rfl)) rfl ?_
 rintro _ w1 ⟨pr, rfl, N1⟩
 have k1 := N1.kp
 have kk1 := kk0.thenNo k1
 have ne_pr_b := Nat.ne_of_gt (Nat.lt_of_lt_of_le hT.lt N1.le)
 have f_pr_1 := N1.bk
 refine Rp (pu_assign rfl) <| R_nil <| X_then hK1 <| C_seq fun K2 hK2 => C_seq fun K3 hK3 => C_region <| Rp (pu_move rfl) <| Rp (pu_eqlpn (by kernel_rfl) rfl rfl) <| Rp (pu_move rfl) <| Rg (pu_move rfl) <| Rg (pu_move rfl) <| R_glo rfl rfl (lo_call (by kernel_rfl) rfl (cer_planned q nn _ hP)) rfl ?_
 rintro _ w2 ⟨rfl, k2⟩
 have kk2 := kk1.thenNo k2
 refine Rg (pu_not rfl) <| Rp (pu_pickf rfl rfl) <| R_nil <| X_then hK3 <| C_false rfl <| C_skip <| X_then hK2 <| C_seq fun K4 hK4 => C_region <| Rp (pu_move rfl) <| R_lo (lo_call (by kernel_rfl) rfl (cer_need q _ ⟨by omega, by omega⟩)) rfl ?_
 rintro _ w3 ⟨rfl, k3⟩
 have kk3 := kk2.thenNo k3
 refine Rp (pu_move rfl) <| Rp (pu_extract rfl rfl) <| Rp (pu_extract rfl rfl) <| Rp (pu_assign rfl) <| Rp (pu_assign rfl) <| R_nil <| X_then hK4 <| C_seq fun K5 hK5 => C_seq fun K6 hK6 => C_region <| Rp (pu_move rfl) <| Rp (pu_len Tryz.underlying22 rfl) <| Rp (pu_move rfl) <| Rp (pu_lss (p := D.length < (32 * ((q + 1) + 2))) rfl rfl (by omega)) <| R_nil <| X_then hK6 <| C_decf rfl (by omega) <| C_skip <| X_then hK5 <| C_seq fun K7 hK7 => C_region <| Rp (pu_move rfl) <| Rp (pu_move rfl) <| R_lo (lo_call (by kernel_rfl) rfl (config_new q nn _ ⟨hP.1, hP.2.1, by omega⟩)) rfl ?_
 rintro _ w4 ⟨rfl, k4⟩
 have kk4 := kk3.thenNo k4
 refine Rp (pu_move rfl) <| Rp (pu_extract rfl rfl) <| Rp (pu_extract rfl rfl) ?_
 have f8 := (((f_pr_1.no k2).no k3).no k4)
 have o9 := ((((hT.no k1).no k2).no k3).no k4)
 refine R_lo (lo_alloc (L := [.int .i64 0, .int .i64 0, .int .u32 0]) (by kernel_rfl)) rfl ?_
 rintro _ w5 ⟨pc, rfl, N5⟩
 have k5 := N5.kp
 have kk5 := kk4.thenNo k5
 have ne_pc_pr := Nat.ne_of_gt (Nat.lt_of_lt_of_le f8.lt N5.le)
 have ne_pc_b := Nat.ne_of_gt (Nat.lt_of_lt_of_le o9.lt N5.le)
 have f_pc_5 := N5.bk
 refine R_lo0 (lo_storeRow (C := [.int .i64 ((q + 1 : Nat) : Int), .int .i64 ((nn : Nat) : Int), .int .u32 1]) f_pc_5 (by kernel_rfl) rfl rfl (by intro u hu; simp at hu; rcases hu with rfl | rfl | rfl <;> rfl) rfl) ?_
 rintro _ w6 kf6
 obtain ⟨k6, f_pc_6⟩ := kf6
 replace f_pc_6 : Bk w6 pc ([.int .i64 ((q + 1 : Nat) : Int), .int .i64 ((nn : Nat) : Int), .int .u32 1]) 36 := f_pc_6
 have kk6 := kk5.trans k6 (fun i hi => .inr (hi ▸ (Nat.le_trans kk4.size N5.le)))
 refine Rp (pu_assign rfl) <| R_nil <| X_then hK7 <| C_seq fun K10 hK10 => C_seq fun K11 hK11 => C_region <| Rp (pu_move rfl) <| Rp (pu_neqnn (by kernel_rfl) rfl) <| R_nil <| X_then hK11 <| C_false rfl <| C_skip <| X_then hK10 <| C_seq (fun K12 hK12 => ?_)
 have f13 := ((f8.no k5).on k6 (Ne.symm ne_pc_pr))
 have o14 := ((o9.no k5).on k6 (Ne.symm ne_pc_b))
 refine D_begin (fun W => Kp (On b) w W ∧ Bk W pr ([.int .i64 0, .int .i64 0, .int .u32 0, .slice none (0) (0), .slice none (0) (0), .slice none (0) (0)]) 39 ∧ Bk W pc ([.int .i64 ((q + 1 : Nat) : Int), .int .i64 ((nn : Nat) : Int), .int .u32 1]) 36 ∧ Tb W b) 11 rfl (by kernel_rfl) ⟨kk6.drew, f13.draw, f_pc_6.draw, o14.draw⟩ ?_
 intro w7 k7 _
 have kk7 := kk6.thenNo k7
 refine Dt 0 rfl (fun W hS => pu_move rfl) ?_
 have HDt15 := Bs.take HD 32
 have aw_HDt15 := Aw.take aw_HD 32
 refine Dt 1 rfl (fun W hS => pu_sliceHi (hi := 32) (s := 1) Tryz.underlying22 (by kernel_rfl) rfl rfl rfl (by have := hc; omega)) <| Dt 2 rfl (fun W hS => pu_move rfl) ?_
 have HDc16 := Bs.cut HD hc 32
 have aw_HDc16 := Aw.cut aw_HD 32 c 1
 refine Dt 3 rfl (fun W hS => pu_sliceLo (lo := 32) (s := 1) Tryz.underlying22 (by kernel_rfl) rfl rfl rfl (by omega) (by have := hc; omega)) ?_
 have HDc16t17 := Bs.take HDc16 32
 have aw_HDc16t17 := Aw.take aw_HDc16 32
 refine Dt 4 rfl (fun W hS => pu_sliceHi (hi := 32) (s := 1) Tryz.underlying22 (by kernel_rfl) rfl rfl rfl (by have := (show (D.drop 32).length ≤ c - 32 by rw [List.length_drop]; have := hc; omega); omega)) ?_
 refine Dt 5 rfl (fun W hS => pu_move rfl) ?_
 have HDc18 := Bs.cut HD hc 64
 have aw_HDc18 := Aw.cut aw_HD 64 c 1
 refine Dt 6 rfl (fun W hS => pu_sliceLo (lo := 64) (s := 1) Tryz.underlying22 (by kernel_rfl) rfl rfl rfl (by omega) (by have := hc; omega)) ?_
 have HDc18t19 := Bs.take HDc18 32
 have aw_HDc18t19 := Aw.take aw_HDc18 32
 refine Dt 7 rfl (fun W hS => pu_sliceHi (hi := 32) (s := 1) Tryz.underlying22 (by kernel_rfl) rfl rfl rfl (by have := (show (D.drop 64).length ≤ c - 64 by rw [List.length_drop]; have := hc; omega); omega)) ?_
 refine Dt 8 rfl (fun W hS => pu_assign rfl) <| Dt 9 rfl (fun W hS => pu_assign rfl) <| Dt 10 rfl (fun W hS => pu_assign rfl) <| D_done (by kernel_rfl) <| X_then hK12 <| C_seq (fun K20 hK20 => ?_)
 have H_U : Bs w A U := by have h := HDt15; rwa [show D.take 32 = U from by rw [hD]; exact dr_take hU] at h
 have aw_H_U : Aw (On b) A U := by have h := aw_HDt15; rwa [show D.take 32 = U from by rw [hD]; exact dr_take hU] at h
 have H_R : Bs w (cutA A 32 c 1) R := by have h := HDc16t17; rwa [show (D.drop 32).take 32 = R from by rw [hD, dr_drop hU]; exact dr_take hR] at h
 have aw_H_R : Aw (On b) (cutA A 32 c 1) R := by have h := aw_HDc16t17; rwa [show (D.drop 32).take 32 = R from by rw [hD, dr_drop hU]; exact dr_take hR] at h
 have H_Y : Bs w (cutA A 64 c 1) Y := by have h := HDc18t19; rwa [show (D.drop 64).take 32 = Y from by rw [hD, ← List.append_assoc, dr_drop (by simp; omega)]; exact dr_take hY] at h
 have aw_H_Y : Aw (On b) (cutA A 64 c 1) Y := by have h := aw_HDc18t19; rwa [show (D.drop 64).take 32 = Y from by rw [hD, ← List.append_assoc, dr_drop (by simp; omega)]; exact dr_take hY] at h
 refine C_region ?_
 have f21 := (f13.no k7)
 have f22 := (f_pc_6.no k7)
 have o23 := (o14.no k7)
 refine R_lo (lo_alloc (L := [.int .i64 0, .int .i64 0, .int .u32 0, .slice none (0) (0), .slice none (0) (0), .slice none (0) (0)]) (by kernel_rfl)) rfl ?_
 rintro _ w8 ⟨pm, rfl, N8⟩
 have k8 := N8.kp
 have kk8 := kk7.thenNo k8
 have ne_pm_pr := Nat.ne_of_gt (Nat.lt_of_lt_of_le f21.lt N8.le)
 have ne_pm_pc := Nat.ne_of_gt (Nat.lt_of_lt_of_le f22.lt N8.le)
 have ne_pm_b := Nat.ne_of_gt (Nat.lt_of_lt_of_le o23.lt N8.le)
 have f_pm_8 := N8.bk
 refine R_nil <| X_then hK20 <| C_seq fun K24 hK24 => C_seq (fun K25 hK25 => ?_)
 have hXl : X.length = q * 32 := hX
 have f26 := (f21.no k8)
 have f27 := (f22.no k8)
 have o28 := (o23.no k8)
 refine D_begin (fun W => Kp (On b) w W ∧ Bk W pr ([.int .i64 0, .int .i64 0, .int .u32 0, .slice none (0) (0), .slice none (0) (0), .slice none (0) (0)]) 39 ∧ Bk W pc ([.int .i64 ((q + 1 : Nat) : Int), .int .i64 ((nn : Nat) : Int), .int .u32 1]) 36 ∧ Tb W b) 9 rfl (by kernel_rfl) ⟨kk8.drew, f26.draw, f27.draw, o28.draw⟩ ?_
 intro w9 k9 _
 have kk9 := kk8.thenNo k9
 refine Dt 0 rfl (fun W hS => pu_move rfl) <| Dt 1 rfl (fun W hS => pu_loadRow (len := 3) hS.2.2.1 (by kernel_rfl) (by kernel_rfl) rfl rfl) <| Dt 2 rfl (fun W hS => pu_move rfl) <| Dt 3 rfl (fun W hS => pu_move rfl) <| Dt 4 rfl (fun W hS => pu_move rfl) <| Dt 5 rfl (fun W hS => pu_move rfl) ?_
 have HDc29 := (Bs.cut HD hc 96).take (32 * ((q + 1) + 2) - 96)
 have aw_HDc29 := (Aw.cut aw_HD 96 c 1).take (32 * ((q + 1) + 2) - 96)
 have H_X : Bs w (cutA A 96 c 1) X := by have h := HDc29; rwa [show (D.drop 96).take (32 * ((q + 1) + 2) - 96) = X from by rw [hD, ← List.append_assoc, ← List.append_assoc, dr_drop (by simp; omega), show 32 * (q + 1 + 2) - 96 = q * 32 by omega]; exact dr_take hX] at h
 have aw_H_X : Aw (On b) (cutA A 96 c 1) X := by have h := aw_HDc29; rwa [show (D.drop 96).take (32 * ((q + 1) + 2) - 96) = X from by rw [hD, ← List.append_assoc, ← List.append_assoc, dr_drop (by simp; omega), show 32 * (q + 1 + 2) - 96 = q * 32 by omega]; exact dr_take hX] at h
 refine Dt 6 rfl (fun W hS => pu_slice2 (lo := 96) (hi := 32 * ((q + 1) + 2)) (s := 1) Tryz.underlying22 (by kernel_rfl) rfl rfl rfl rfl rfl (by omega) (by have := hc; omega)) ?_
 have o30 := (o28.no k9)
 have f31 := (f_pm_8.no k9)
 have f32 := (f26.no k9)
 have f33 := (f27.no k9)
 refine D_one 7 (by kernel_rfl) (Nx_lo rfl (lo_callE (by kernel_rfl) rfl (by rw [hU, hR, (show X.length = 32 * ((q + 1) + 2) - 96 from hX.trans (by omega))] <;> rfl) (cer_parted pm b none 0 0 q nn 1 A U c (cutA A 32 c 1) R (c - 32) (cutA A 96 c 1) X (c - 96) _ ne_pm_b ⟨hP.1, hP.2.1, by omega⟩ (by decide) (H_U.keptS kk9 aw_H_U) (by rw [hU]; omega) (H_R.keptS kk9 aw_H_R) (by rw [hR]; omega) (H_X.keptS kk9 aw_H_X) (by rw [hX]; omega) ⟨hU, hR, hX⟩ (H_U.aw (Nat.le_trans kk7.size N8.le)) aw_H_U (H_R.aw (Nat.le_trans kk7.size N8.le)) aw_H_R (H_X.aw (Nat.le_trans kk7.size N8.le)) aw_H_X f31 o30)) rfl ?_)
 rintro _ w10 ⟨A_se, c_se, A_sp, c_sp, L_sp, rfl, Q10, S10, hK_sp, B10, T10, k10⟩
 have kk10 := kk9.trans k10 (Ons.subc (.inr (Nat.le_trans kk7.size N8.le)) (Ons.subc (.inl rfl) Ons.subn))
 have hl_sp := (key_len hK_sp).trans (ptK_length ..)
 have f36 := (f32.kept k10 (Ons.cons' (Ne.symm ne_pm_pr) (Ons.cons' ne_pr_b Ons.nil')))
 have f37 := (f33.kept k10 (Ons.cons' (Ne.symm ne_pm_pc) (Ons.cons' ne_pc_b Ons.nil')))
 refine ⟨⟨kk10, f36, f37, T10⟩, ?_⟩
 refine Dt 8 rfl (fun W hS => pu_assign rfl) <| D_done (by kernel_rfl) <| X_then hK25 <| C_seq fun K38 hK38 => C_region <| Rp (pu_move rfl) <| Rp (pu_neqnn (by kernel_rfl) rfl) <| R_nil <| X_then hK38 <| C_false rfl <| C_skip <| X_then hK24 <| C_seq fun K39 hK39 => C_seq fun K40 hK40 => C_region <| Rp (pu_move rfl) <| Rp (pu_move rfl) <| Rp (pu_toArr Tryz.underlying56 rfl (by omega)) <| Rp (pu_loadBs (H_Y.keptS kk10 aw_H_Y) (by kernel_rfl) (by kernel_rfl) (show By 32 Y from ⟨hY, H_Y.byte⟩).1 (by decide) rfl) <| R_lo (lo_call (by kernel_rfl) rfl (ring_first Y (show By 32 Y from ⟨hY, H_Y.byte⟩) _)) rfl ?_
 rintro _ w11 ⟨rf, rfl, le11, B11, k11⟩
 have kk11 := kk10.thenNo k11
 have f41 := (f36.no k11)
 have f43 := (B10.no k11)
 have o44 := (T10.no k11)
 have ob46 := (Q10.keptNo k11)
 have ob48 := (S10.keptNo k11)
 refine R_lo (lo_callE (by kernel_rfl) rfl (by rw [hR] <;> rfl) (env_sealring (cutA A 32 c 1) R (c - 32) (some ⟨rf, 0, none⟩) ([(1, Y)]) 1 _ (H_R.keptS kk11 aw_H_R) (by rw [hR]; omega) (Rs.oneT B11 (t := (1, Y)) (show By 32 Y from ⟨hY, H_Y.byte⟩)) (fun t h => by rw [List.mem_singleton.1 h]; exact okT_mk (by decide) (show By 32 Y from ⟨hY, H_Y.byte⟩)) (Nat.le_refl _) hR may_one)) rfl ?_
 rintro _ w12 ⟨A_rg, c_rg, rfl, Q12, k12⟩
 have kk12 := kk11.thenNo k12
 refine Rp (pu_move rfl) <| Rp (pu_extract rfl rfl) <| Rp (pu_extract rfl rfl) <| Rp (pu_fieldAddr (off := 4) (o' := 4) (by kernel_rfl) rfl rfl) ?_
 have f50 := (f43.no k12)
 refine R_lo0 (lo_store f50 (by kernel_rfl) rfl rfl rfl (show 4 < 6 by decide)) ?_
 rintro _ w13 kf13
 obtain ⟨k13, f_pm_13⟩ := kf13
 replace f_pm_13 : Bk w13 pm ([.int .i64 ((q + 1 : Nat) : Int), .int .i64 ((nn : Nat) : Int), .int .u32 1, .slice A_se ((boxE U R 1).length) (c_se), .slice A_rg ((boxR R (encR ([(1, Y)]))).length) (c_rg), .slice A_sp ((L_sp).length) (c_sp)]) 39 := f_pm_13
 have kk13 := kk12.trans k13 (fun i hi => .inr (hi ▸ (Nat.le_trans kk7.size N8.le)))
 refine Rp (pu_assign rfl) <| R_nil <| X_then hK40 <| C_seq fun K51 hK51 => C_region <| Rp (pu_move rfl) <| Rp (pu_neqnn (by kernel_rfl) rfl) <| R_nil <| X_then hK51 <| C_false rfl <| C_skip <| X_then hK39 <| C_seq fun K52 hK52 => C_region <| Rp (pu_loadRow (len := 6) f_pm_13 (by kernel_rfl) (by kernel_rfl) rfl rfl) ?_
 have f53 := ((f41.no k12).on k13 (Ne.symm ne_pm_pr))
 refine R_lo0 (lo_storeRow (C := [.int .i64 ((q + 1 : Nat) : Int), .int .i64 ((nn : Nat) : Int), .int .u32 1, .slice A_se ((boxE U R 1).length) (c_se), .slice A_rg ((boxR R (encR ([(1, Y)]))).length) (c_rg), .slice A_sp ((L_sp).length) (c_sp)]) f53 (by kernel_rfl) rfl rfl (by intro u hu; simp at hu; rcases hu with rfl | rfl | rfl | rfl | rfl | rfl <;> rfl) rfl) ?_
 rintro _ w14 kf14
 obtain ⟨k14, f_pr_14⟩ := kf14
 replace f_pr_14 : Bk w14 pr ([.int .i64 ((q + 1 : Nat) : Int), .int .i64 ((nn : Nat) : Int), .int .u32 1, .slice A_se ((boxE U R 1).length) (c_se), .slice A_rg ((boxR R (encR ([(1, Y)]))).length) (c_rg), .slice A_sp ((L_sp).length) (c_sp)]) 39 := f_pr_14
 have kk14 := kk13.trans k14 (fun i hi => .inr (hi ▸ (Nat.le_trans kk0.size N1.le)))
 refine Rp (pu_assign rfl) <| R_nil <| X_then hK52 <| C_ret ?_
 have ob54 := (((ob46.keptNo k12).on k13 (by have := f31.lt; omega)).on k14 (by have := f32.lt; omega))
 have ob55 := ((Q12.on k13 (by have := f43.lt; omega)).on k14 (by have := f41.lt; omega))
 have ob56 := (((ob48.keptNo k12).on k13 (by have := f31.lt; omega)).on k14 (by have := f32.lt; omega))
 have o57 := (((o44.no k12).on k13 (Ne.symm ne_pm_b)).on k14 (Ne.symm ne_pr_b))
 exact X_retCT (len := 6) (.inl rfl) rfl rfl f_pr_14 (by kernel_rfl) (by kernel_rfl) rfl rfl ⟨_, _, _, _, _, _, L_sp, rfl, ob54.low ((kk9).size), ob55.low ((kk11).size), ((ob56).lowb (kk9).size).lowd (kk9).size, hK_sp, o57, kk14⟩
theorem cer_init_short (b q nn : Nat) (A : Option Addr) (D : List Nat) (c : Nat) (w : World) (HD : Bs w A D) (hc : D.length ≤ c) (hm : (2 ≤ q + 1 ∧ q + 1 ≤ nn ∧ nn ≤ 12) ∧ D.length < 32 * (q + 1 + 2)) : Ret Tryz.prog 9 #[.pointer (some ⟨b, 0, none⟩), .int .i64 ((q + 1 : Nat) : Int), .int .i64 ((nn : Nat) : Int), .slice A (D.length) (c)] w (fun v w' => v = .tuple #[.agg ([.int .i64 0, .int .i64 0, .int .u32 0, .slice none (0) (0), .slice none (0) (0), .slice none (0) (0)] : List Value).toArray, errE 2] ∧ Kp No w w') := by
 obtain ⟨hP, hs⟩ := hm
 have kk0 := Kp.refl No w
 refine enter (n := 85) [.pointer (some ⟨b, 0, none⟩), .int .i64 ((q + 1 : Nat) : Int), .int .i64 ((nn : Nat) : Int), .slice A (D.length) (c)] Tryz.func9 rfl rfl rfl ?_
 show Cw _ _ _ _ [(0, .pointer (some ⟨b, 0, none⟩)), (1, .int .i64 ((q + 1 : Nat) : Int)), (2, .int .i64 ((nn : Nat) : Int)), (3, .slice A (D.length) (c))] _
 refine C_seq fun K1 hK1 => C_region <| R_lo (lo_alloc (L := [.int .i64 0, .int .i64 0, .int .u32 0, .slice none (0) (0), .slice none (0) (0), .slice none (0) (0)]) (by kernel_rfl)) rfl ?_
 rintro _ w1 ⟨pr, rfl, N1⟩
 have k1 := N1.kp
 have kk1 := kk0.then_ k1
 have f_pr_1 := N1.bk
 refine Rp (pu_assign rfl) <| R_nil <| X_then hK1 <| C_seq fun K2 hK2 => C_seq fun K3 hK3 => C_region <| Rp (pu_move rfl) <| Rp (pu_eqlpn (by kernel_rfl) rfl rfl) <| Rp (pu_move rfl) <| Rg (pu_move rfl) <| Rg (pu_move rfl) <| R_glo rfl rfl (lo_call (by kernel_rfl) rfl (cer_planned q nn _ hP)) rfl ?_
 rintro _ w2 ⟨rfl, k2⟩
 have kk2 := kk1.then_ k2
 refine Rg (pu_not rfl) <| Rp (pu_pickf rfl rfl) <| R_nil <| X_then hK3 <| C_false rfl <| C_skip <| X_then hK2 <| C_seq fun K4 hK4 => C_region <| Rp (pu_move rfl) <| R_lo (lo_call (by kernel_rfl) rfl (cer_need q _ ⟨by omega, by omega⟩)) rfl ?_
 rintro _ w3 ⟨rfl, k3⟩
 have kk3 := kk2.then_ k3
 refine Rp (pu_move rfl) <| Rp (pu_extract rfl rfl) <| Rp (pu_extract rfl rfl) <| Rp (pu_assign rfl) <| Rp (pu_assign rfl) <| R_nil <| X_then hK4 <| C_seq fun K5 hK5 => C_seq fun K6 hK6 => C_region <| Rp (pu_move rfl) <| Rp (pu_len Tryz.underlying22 rfl) <| Rp (pu_move rfl) <| Rp (pu_lss (p := D.length < (32 * ((q + 1) + 2))) rfl rfl (by omega)) <| R_nil <| X_then hK6 <| C_dect rfl hs <| C_seq fun K7 hK7 => C_region <| Rp (pu_build (L := [.int .i64 0, .int .i64 0, .int .u32 0, .slice none (0) (0), .slice none (0) (0), .slice none (0) (0)]) rfl (by kernel_rfl)) <| Rp (pu_makeInterface Tryz.underlying76 rfl rfl) ?_
 have f8 := ((f_pr_1.no k2).no k3)
 refine R_lo0 (lo_storeRow (C := [.int .i64 0, .int .i64 0, .int .u32 0, .slice none (0) (0), .slice none (0) (0), .slice none (0) (0)]) f8 (by kernel_rfl) rfl rfl (by intro u hu; simp at hu; rcases hu with rfl | rfl | rfl | rfl | rfl | rfl <;> rfl) rfl) ?_
 rintro _ w4 kf4
 obtain ⟨k4, f_pr_4⟩ := kf4
 replace f_pr_4 : Bk w4 pr ([.int .i64 0, .int .i64 0, .int .u32 0, .slice none (0) (0), .slice none (0) (0), .slice none (0) (0)]) 39 := f_pr_4
 have kk4 := kk3.trans k4 (fun i hi => .inr (hi ▸ (Nat.le_trans kk0.size N1.le)))
 exact Rp (pu_assign rfl) <| R_nil <| X_then hK7 <| C_ret <| X_then_ret <| X_retCT (len := 6) (.inl rfl) rfl rfl f_pr_4 (by kernel_rfl) (by kernel_rfl) rfl rfl ⟨rfl, kk4⟩
theorem cer_open (b q nn ge : Nat) (A : Option Addr) (E : List Nat) (c : Nat) (A2 : Option Addr) (G : List Nat) (c2 : Nat) (A3 : Option Addr) (L : List Shr) (c3 : Nat) (U R : List Nat) (M : List Tm) (w : World) (HE : Bs w A E) (hc : E.length ≤ c) (HG : Bs w A2 G) (hc2 : G.length ≤ c2) (HS : Ss w A3 L) (hm : (2 ≤ q + 1 ∧ q + 1 ≤ nn ∧ nn ≤ 255) ∧ (q + 1 ≤ L.length ∧ L.length ≤ c3 ∧ L.length < 9223372036854775808) ∧ ge < 4294967296 ∧ ge ≠ 0 ∧ Good (L.take (q + 1)) ge 32 ∧ thX (L.take (q + 1)) 32 0 = U ∧ E = boxE U R ge ∧ R.length = 32 ∧ G = boxR R (encR M) ∧ mayR M ∧ ∀ t ∈ M, okT t) (aw_HE : Aw (On b) A E) (aw_HG : Aw (On b) A2 G) (aw_HS : Aws (On b) A3 L) (hT : Tb w b) : Ret Tryz.prog 10 #[.pointer (some ⟨b, 0, none⟩), .agg ([.int .i64 ((q + 1 : Nat) : Int), .int .i64 ((nn : Nat) : Int), .int .u32 ((ge : Nat) : Int), .slice A (E.length) (c), .slice A2 (G.length) (c2), .slice A3 (L.length) (c3)] : List Value).toArray] w (fun v w' => ∃ A c A' c', v = .tuple #[.slice A R.length c, .agg ([.slice A' M.length c'] : List Value).toArray, .nilIface] ∧ Ob w' w.heap.size (.slice A R.length c) R ∧ Ro tmC 33 58 w' w.heap.size (.slice A' M.length c') M ∧ Tb w' b ∧ Kp (On b) w w') := by
 obtain ⟨hP, hL, hge, hgn, hGd, hU, hE, hR, hG, hM, hok⟩ := hm
 have hke := keys_len hok; have hel : (encR M).length = 3 + 32 * M.length := by unfold encR; rw [List.length_append, hke]; rfl
 have hm2 := hM.2.1; have hUl : U.length = 32 := by rw [← hU]; exact thX_length ..
 have hEl : E.length = 48 := by rw [hE, boxE_len, hR]
 have hGl : G.length = 31 + 32 * M.length := by rw [hG, boxR_len, hel]; omega
 have hD5 : mayD (inR R G) := by rw [hG, inR_box]; exact encR_may hM hok
 have kk0 := Kp.refl (On b) w
 refine enter (n := 68) [.pointer (some ⟨b, 0, none⟩), .agg ([.int .i64 ((q + 1 : Nat) : Int), .int .i64 ((nn : Nat) : Int), .int .u32 ((ge : Nat) : Int), .slice A (E.length) (c), .slice A2 (G.length) (c2), .slice A3 (L.length) (c3)] : List Value).toArray] Tryz.func10 rfl rfl rfl ?_
 show Cw _ _ _ _ [(0, .pointer (some ⟨b, 0, none⟩)), (1, .agg ([.int .i64 ((q + 1 : Nat) : Int), .int .i64 ((nn : Nat) : Int), .int .u32 ((ge : Nat) : Int), .slice A (E.length) (c), .slice A2 (G.length) (c2), .slice A3 (L.length) (c3)] : List Value).toArray)] _
 refine C_seq fun K1 hK1 => C_region <| R_lo (lo_box (L := [.int .i64 ((q + 1 : Nat) : Int), .int .i64 ((nn : Nat) : Int), .int .u32 ((ge : Nat) : Int), .slice A (E.length) (c), .slice A2 (G.length) (c2), .slice A3 (L.length) (c3)]) rfl rfl) rfl ?_
 rintro _ w1 ⟨pb, rfl, N1⟩
 have k1 := N1.kp
 have kk1 := kk0.thenNo k1
 have ne_pb_b := Nat.ne_of_gt (Nat.lt_of_lt_of_le hT.lt N1.le)
 have f_pb_1 := N1.bk
 refine Rp (pu_assign rfl) ?_
 have o2 := (hT.no k1)
 refine R_lo (lo_alloc (L := [.slice none (0) (0)]) (by kernel_rfl)) rfl ?_
 rintro _ w2 ⟨pr, rfl, N2⟩
 have k2 := N2.kp
 have kk2 := kk1.thenNo k2
 have ne_pr_pb := Nat.ne_of_gt (Nat.lt_of_lt_of_le f_pb_1.lt N2.le)
 have ne_pr_b := Nat.ne_of_gt (Nat.lt_of_lt_of_le o2.lt N2.le)
 have f_pr_2 := N2.bk
 refine Rp (pu_assign rfl) <| R_nil <| X_then hK1 <| C_seq fun K3 hK3 => C_seq fun K4 hK4 => C_region <| Rp (pu_move rfl) <| Rp (pu_eqlpn (by kernel_rfl) rfl rfl) <| Rp (pu_move rfl) <| Rg (pu_fieldAddr (off := 0) (o' := 0) (by kernel_rfl) rfl rfl) ?_
 have f5 := (f_pb_1.no k2)
 refine Rg (pu_loadMid (len := 3) (C := [.int .i64 ((q + 1 : Nat) : Int), .int .i64 ((nn : Nat) : Int), .int .u32 ((ge : Nat) : Int)]) f5 (by kernel_rfl) (by kernel_rfl) rfl rfl rfl) <| R_glo rfl rfl (lo_call (by kernel_rfl) rfl (config_check q nn ge _ hP hge hgn)) rfl ?_
 rintro _ w3 ⟨rfl, k3⟩
 have kk3 := kk2.thenNo k3
 refine Rg (pu_neqnn (by kernel_rfl) rfl) <| Rp (pu_pickf rfl rfl) <| R_nil <| X_then hK4 <| C_false rfl <| C_skip <| X_then hK3 <| C_seq fun K6 hK6 => C_region <| Rp (pu_move rfl) <| Rp (pu_fieldAddr (off := 5) (o' := 5) (by kernel_rfl) rfl rfl) ?_
 have f7 := (f5.no k3)
 refine Rp (pu_loadK f7 (by kernel_rfl) rfl rfl) <| Rp (pu_fieldAddr (off := 0) (o' := 0) (by kernel_rfl) rfl rfl) <| Rp (pu_fieldAddr (off := 0) (o' := 0) (by kernel_rfl) rfl rfl) <| Rp (pu_loadMid (len := 3) (C := [.int .i64 ((q + 1 : Nat) : Int), .int .i64 ((nn : Nat) : Int), .int .u32 ((ge : Nat) : Int)]) f7 (by kernel_rfl) (by kernel_rfl) rfl rfl rfl) ?_
 have o8 := ((o2.no k2).no k3)
 have f9 := (f_pr_2.no k3)
 refine R_lo (lo_call (by kernel_rfl) rfl (shamir_combine b A3 L c3 q nn ge 32 _ (HS.keptS kk3 aw_HS) ⟨hP, hL, hge, hGd⟩ aw_HS o8)) rfl ?_
 rintro _ w4 ⟨A_un, c_un, rfl, Q4, T4, k4⟩
 have kk4 := kk3.trans k4 (fun i hi => .inl hi)
 refine Rp (pu_move rfl) <| Rp (pu_extract rfl rfl) <| Rp (pu_extract rfl rfl) <| Rp (pu_assign rfl) <| Rp (pu_assign rfl) <| R_nil <| X_then hK6 <| C_seq fun K11 hK11 => C_seq fun K12 hK12 => C_region <| Rp (pu_move rfl) <| Rp (pu_neqnn (by kernel_rfl) rfl) <| R_nil <| X_then hK12 <| C_false rfl <| C_skip <| X_then hK11 <| C_seq fun K13 hK13 => C_seq (fun K14 hK14 => ?_)
 have obx15 : Ob w4 w3.heap.size (.slice A_un ((U).length) (c_un)) U := by rw [← hU]; exact Q4
 rw [hU]
 refine C_region <| Rp (pu_move rfl) <| Rp (pu_len Tryz.underlying22 rfl) <| Rp (pu_neq (p := ((U).length) = 32) rfl rfl (by omega)) <| R_nil <| X_then hK14 <| C_decf rfl (fun h => h hUl) <| C_skip <| X_then hK13 <| C_seq fun K16 hK16 => C_region <| Rp (pu_move rfl) <| Rp (pu_fieldAddr (off := 3) (o' := 3) (by kernel_rfl) rfl rfl) ?_
 have f17 := (f7.on k4 ne_pb_b)
 refine Rp (pu_loadK f17 (by kernel_rfl) rfl rfl) <| Rp (pu_fieldAddr (off := 0) (o' := 0) (by kernel_rfl) rfl rfl) <| Rp (pu_fieldAddr (off := 0) (o' := 0) (by kernel_rfl) rfl rfl) <| Rp (pu_fieldAddr (off := 2) (o' := 2) (by kernel_rfl) rfl rfl) <| Rp (pu_loadK f17 (by kernel_rfl) rfl rfl) ?_
 have f18 := (f9.on k4 ne_pr_b)
 refine R_lo (lo_call (by kernel_rfl) rfl (env_open A_un U c_un A E c ge _ obx15.bs obx15.le.2 (HE.keptS kk4 aw_HE) hc hge hUl hEl (by rw [hE]; exact opE_box _ _ _))) rfl ?_
 rintro _ w5 ⟨A_ro, c_ro, rfl, Q5, k5⟩
 have kk5 := kk4.thenNo k5
 refine Rp (pu_move rfl) <| Rp (pu_extract rfl rfl) <| Rp (pu_extract rfl rfl) <| Rp (pu_assign rfl) <| Rp (pu_assign rfl) <| R_nil <| X_then hK16 <| C_seq fun K21 hK21 => C_seq fun K22 hK22 => C_region <| Rp (pu_move rfl) <| Rp (pu_neqnn (by kernel_rfl) rfl) <| R_nil <| X_then hK22 <| C_false rfl <| C_skip <| X_then hK21 <| C_seq (fun K23 hK23 => ?_)
 have obx24 : Ob w5 w4.heap.size (.slice A_ro ((R).length) (c_ro)) R := by rw [← (show inE U E ge = R by rw [hE]; exact inE_box _ _ _)]; exact Q5
 rw [(show inE U E ge = R by rw [hE]; exact inE_box _ _ _)]
 refine C_region <| Rp (pu_move rfl) <| Rp (pu_fieldAddr (off := 4) (o' := 4) (by kernel_rfl) rfl rfl) ?_
 have f25 := (f17.no k5)
 refine Rp (pu_loadK f25 (by kernel_rfl) rfl rfl) ?_
 have f26 := (f18.no k5)
 have o27 := (T4.no k5)
 refine R_lo (lo_call (by kernel_rfl) rfl (env_openring A_ro R c_ro A2 G c2 _ obx24.bs obx24.le.2 (HG.keptS kk5 aw_HG) hc2 hR (by omega) (by omega) (by rw [hG]; exact opR_box _ _) hD5)) rfl ?_
 rintro _ w6 ⟨A_rn, c_rn, rfl, Q6, k6⟩
 have kk6 := kk5.thenNo k6
 refine Rp (pu_move rfl) <| Rp (pu_extract rfl rfl) <| Rp (pu_extract rfl rfl) ?_
 have f32 := (f25.no k6)
 have f33 := (f26.no k6)
 have o34 := (o27.no k6)
 have ob36 := (obx24.keptNo k6)
 refine R_lo (lo_alloc (L := [.slice none (0) (0)]) (by kernel_rfl)) rfl ?_
 rintro _ w7 ⟨pg, rfl, N7⟩
 have k7 := N7.kp
 have kk7 := kk6.thenNo k7
 have ne_pg_pb := Nat.ne_of_gt (Nat.lt_of_lt_of_le f32.lt N7.le)
 have ne_pg_pr := Nat.ne_of_gt (Nat.lt_of_lt_of_le f33.lt N7.le)
 have ne_pg_b := Nat.ne_of_gt (Nat.lt_of_lt_of_le o34.lt N7.le)
 have f_pg_7 := N7.bk
 refine R_lo0 (lo_storeRow (C := [.slice A_rn ((decR (inR R G)).length) (c_rn)]) f_pg_7 (by kernel_rfl) rfl rfl (by intro u hu; simp at hu; rcases hu with rfl <;> rfl) rfl) ?_
 rintro _ w8 kf8
 obtain ⟨k8, f_pg_8⟩ := kf8
 replace f_pg_8 : Bk w8 pg ([.slice A_rn ((decR (inR R G)).length) (c_rn)]) 46 := f_pg_8
 have kk8 := kk7.trans k8 (fun i hi => .inr (hi ▸ (Nat.le_trans kk6.size N7.le)))
 refine Rp (pu_assign rfl) <| R_nil <| X_then hK23 <| C_seq fun K37 hK37 => C_seq fun K38 hK38 => C_region <| Rp (pu_move rfl) <| Rp (pu_neqnn (by kernel_rfl) rfl) <| R_nil <| X_then hK38 <| C_false rfl <| C_skip <| X_then hK37 <| C_seq (fun K39 hK39 => ?_)
 have hdr_rn : decR (inR R G) = M := by rw [hG, inR_box]; exact dec_enc hM hok
 have ob40 := ((Q6.keptNo k7).onN k8 Q6 N7.le)
 have ro41 : Ro tmC 33 58 w8 w5.heap.size (.slice A_rn ((M).length) (c_rn)) M := by rw [← hdr_rn]; exact ob40
 have fr42 : Bk w8 pg [.slice A_rn ((M).length) (c_rn)] 46 := by rw [← hdr_rn]; exact f_pg_8
 have f43 := ((f32.no k7).on k8 (Ne.symm ne_pg_pb))
 have o44 := ((o34.no k7).on k8 (Ne.symm ne_pg_b))
 have ob45 := ((ob36.keptNo k7).onN k8 ob36 N7.le)
 refine D_begin (fun W => Kp (On b) w W ∧ Bk W pb ([.int .i64 ((q + 1 : Nat) : Int), .int .i64 ((nn : Nat) : Int), .int .u32 ((ge : Nat) : Int), .slice A (E.length) (c), .slice A2 (G.length) (c2), .slice A3 (L.length) (c3)]) 39 ∧ Bk W pg ([.slice A_rn ((M).length) (c_rn)]) 46 ∧ Tb W b ∧ Ob W w4.heap.size (.slice A_ro ((R).length) (c_ro)) (R)) 5 rfl (by kernel_rfl) ⟨kk8.drew, f43.draw, fr42.draw, o44.draw, ob45.draw⟩ ?_
 intro w9 k9 _
 have kk9 := kk8.thenNo k9
 refine Dt 0 rfl (fun W hS => pu_move rfl) <| Dt 1 rfl (fun W hS => pu_loadRow (len := 1) hS.2.2.1 (by kernel_rfl) (by kernel_rfl) rfl rfl) <| Dt 2 rfl (fun W hS => pu_assign rfl) ?_
 have f46 := (((f33.no k7).on k8 (Ne.symm ne_pg_pr)).no k9)
 refine D_one 3 (by kernel_rfl) (Nx_lo0 rfl (lo_storeRow (C := [.slice A_rn ((M).length) (c_rn)]) f46 (by kernel_rfl) rfl rfl (by intro u hu; simp at hu; rcases hu with rfl <;> rfl) rfl) ?_)
 rintro _ w10 kf10
 obtain ⟨k10, f_pr_10⟩ := kf10
 replace f_pr_10 : Bk w10 pr ([.slice A_rn ((M).length) (c_rn)]) 46 := f_pr_10
 have kk10 := kk9.trans k10 (fun i hi => .inr (hi ▸ (Nat.le_trans kk1.size N2.le)))
 have f47 := ((f43.no k9).on k10 (Ne.symm ne_pr_pb))
 have f48 := ((fr42.no k9).on k10 ne_pg_pr)
 have o49 := ((o44.no k9).on k10 (Ne.symm ne_pr_b))
 have ob50 := ((ob45.keptNo k9).on k10 (by have := f18.lt; omega))
 refine ⟨⟨kk10, f47, f48, o49, ob50⟩, ?_⟩
 refine Dt 4 rfl (fun W hS => pu_assign rfl) <| D_done (by kernel_rfl) <| X_then hK39 <| C_ret ?_
 have ob51 := ((ro41.keptNo k9).on k10 (by have := f26.lt; omega))
 exact X_retTCT (len := 1) (.inl rfl) rfl rfl rfl f_pr_10 (by kernel_rfl) (by kernel_rfl) rfl rfl ⟨_, _, _, _, rfl, ob50.low ((kk4).size), ob51.low ((kk5).size), o49, kk10⟩
theorem cer_rekey (b q0 n0 ge : Nat) (A4 : Option Addr) (l4 c4 : Nat) (A2 : Option Addr) (G : List Nat) (c2 : Nat) (A5 : Option Addr) (l5 c5 : Nat) (A : Option Addr) (R : List Nat) (c q nn : Nat) (A3 : Option Addr) (D : List Nat) (c3 : Nat) (U X Z : List Nat) (w : World) (HG : Bs w A2 G) (hc2 : G.length ≤ c2) (HR : Bs w A R) (hc : R.length ≤ c) (HD : Bs w A3 D) (hc3 : D.length ≤ c3) (hm : (2 ≤ q0 + 1 ∧ q0 + 1 ≤ n0 ∧ n0 ≤ 255) ∧ (1 ≤ ge ∧ ge < 4294967295) ∧ (2 ≤ q + 1 ∧ q + 1 ≤ nn ∧ nn ≤ 12) ∧ R.length = 32 ∧ D = U ++ (X ++ Z) ∧ U.length = 32 ∧ X.length = q * 32 ∧ 0 < G.length ∧ G.length < 1000000) (aw_HG : Aw (On b) A2 G) (aw_HR : Aw (On b) A R) (aw_HD : Aw (On b) A3 D) (hT : Tb w b) : Ret Tryz.prog 11 #[.pointer (some ⟨b, 0, none⟩), .agg ([.int .i64 ((q0 + 1 : Nat) : Int), .int .i64 ((n0 : Nat) : Int), .int .u32 ((ge : Nat) : Int), .slice A4 (l4) (c4), .slice A2 (G.length) (c2), .slice A5 (l5) (c5)] : List Value).toArray, .slice A (R.length) (c), .int .i64 ((q + 1 : Nat) : Int), .int .i64 ((nn : Nat) : Int), .slice A3 (D.length) (c3)] w (fun v w' => ∃ A1 c1 A2 c2 A3 c3 L, v = .tuple #[.agg ([.int .i64 ((q + 1 : Nat) : Int), .int .i64 ((nn : Nat) : Int), .int .u32 ((ge + 1 : Nat) : Int), .slice A1 (boxE U R (ge + 1)).length c1, .slice A2 (G).length c2, .slice A3 L.length c3] : List Value).toArray, .nilIface] ∧ Ob w' w.heap.size (.slice A1 (boxE U R (ge + 1)).length c1) (boxE U R (ge + 1)) ∧ Ob w' w.heap.size (.slice A2 (G).length c2) (G) ∧ Sw 51 w.heap.size w' w.heap.size (.slice A3 (L : List Shr).length c3) L ∧ L.map Shr.key = ptK U X q (ge + 1) nn ∧ Tb w' b ∧ Kp (On b) w w') := by
 obtain ⟨hP0, hg1, hP, hR, hD, hU, hX, hGp⟩ := hm
 have hDl : D.length = 32 + q * 32 + Z.length := by rw [hD]; simp only [List.length_append]; omega
 have hXl : X.length = q * 32 := hX
 have kk0 := Kp.refl (On b) w
 refine enter (n := 82) [.pointer (some ⟨b, 0, none⟩), .agg ([.int .i64 ((q0 + 1 : Nat) : Int), .int .i64 ((n0 : Nat) : Int), .int .u32 ((ge : Nat) : Int), .slice A4 (l4) (c4), .slice A2 (G.length) (c2), .slice A5 (l5) (c5)] : List Value).toArray, .slice A (R.length) (c), .int .i64 ((q + 1 : Nat) : Int), .int .i64 ((nn : Nat) : Int), .slice A3 (D.length) (c3)] Tryz.func11 rfl rfl rfl ?_
 show Cw _ _ _ _ [(0, .pointer (some ⟨b, 0, none⟩)), (1, .agg ([.int .i64 ((q0 + 1 : Nat) : Int), .int .i64 ((n0 : Nat) : Int), .int .u32 ((ge : Nat) : Int), .slice A4 (l4) (c4), .slice A2 (G.length) (c2), .slice A5 (l5) (c5)] : List Value).toArray), (2, .slice A (R.length) (c)), (3, .int .i64 ((q + 1 : Nat) : Int)), (4, .int .i64 ((nn : Nat) : Int)), (5, .slice A3 (D.length) (c3))] _
 refine C_seq fun K1 hK1 => C_region <| R_lo (lo_box (L := [.int .i64 ((q0 + 1 : Nat) : Int), .int .i64 ((n0 : Nat) : Int), .int .u32 ((ge : Nat) : Int), .slice A4 (l4) (c4), .slice A2 (G.length) (c2), .slice A5 (l5) (c5)]) rfl rfl) rfl ?_
 rintro _ w1 ⟨pb, rfl, N1⟩
 have k1 := N1.kp
 have kk1 := kk0.thenNo k1
 have ne_pb_b := Nat.ne_of_gt (Nat.lt_of_lt_of_le hT.lt N1.le)
 have f_pb_1 := N1.bk
 have o2 := (hT.no k1)
 refine R_lo (lo_alloc (L := [.int .i64 0, .int .i64 0, .int .u32 0, .slice none (0) (0), .slice none (0) (0), .slice none (0) (0)]) (by kernel_rfl)) rfl ?_
 rintro _ w2 ⟨pr, rfl, N2⟩
 have k2 := N2.kp
 have kk2 := kk1.thenNo k2
 have ne_pr_b := Nat.ne_of_gt (Nat.lt_of_lt_of_le o2.lt N2.le)
 have f_pr_2 := N2.bk
 refine Rp (pu_assign rfl) <| R_nil <| X_then hK1 <| C_seq fun K3 hK3 => C_seq fun K4 hK4 => C_region <| Rp (pu_move rfl) <| Rp (pu_eqlpn (by kernel_rfl) rfl rfl) <| Rp (pu_move rfl) <| Rg (pu_fieldAddr (off := 0) (o' := 0) (by kernel_rfl) rfl rfl) ?_
 have f5 := (f_pb_1.no k2)
 refine Rg (pu_loadMid (len := 3) (C := [.int .i64 ((q0 + 1 : Nat) : Int), .int .i64 ((n0 : Nat) : Int), .int .u32 ((ge : Nat) : Int)]) f5 (by kernel_rfl) (by kernel_rfl) rfl rfl rfl) <| R_glo rfl rfl (lo_call (by kernel_rfl) rfl (config_check q0 n0 ge _ hP0 (by omega) (by omega))) rfl ?_
 rintro _ w3 ⟨rfl, k3⟩
 have kk3 := kk2.thenNo k3
 refine Rg (pu_neqnn (by kernel_rfl) rfl) <| Rp (pu_pickf rfl rfl) <| Rp (pu_move rfl) <| Rg (pu_move rfl) <| Rg (pu_len Tryz.underlying22 rfl) <| Rg (pu_false (pu_neq (p := R.length = 32) rfl rfl (by omega)) (fun h => h hR)) <| Rp (pu_pickf rfl rfl) <| Rp (pu_move rfl) <| Rg (pu_move rfl) <| Rg (pu_move rfl) <| R_glo rfl rfl (lo_call (by kernel_rfl) rfl (cer_planned q nn _ hP)) rfl ?_
 rintro _ w4 ⟨rfl, k4⟩
 have kk4 := kk3.thenNo k4
 refine Rg (pu_not rfl) <| Rp (pu_pickf rfl rfl) <| R_nil <| X_then hK4 <| C_false rfl <| C_skip <| X_then hK3 <| C_seq fun K6 hK6 => C_region <| Rp (pu_move rfl) <| R_lo (lo_call (by kernel_rfl) rfl (cer_need q _ ⟨by omega, by omega⟩)) rfl ?_
 rintro _ w5 ⟨rfl, k5⟩
 have kk5 := kk4.thenNo k5
 refine Rp (pu_move rfl) <| Rp (pu_extract rfl rfl) <| Rp (pu_extract rfl rfl) <| Rp (pu_assign rfl) <| Rp (pu_assign rfl) <| R_nil <| X_then hK6 <| C_seq fun K7 hK7 => C_seq fun K8 hK8 => C_region <| Rp (pu_move rfl) <| Rp (pu_len Tryz.underlying22 rfl) <| Rp (pu_move rfl) <| Rp (pu_lss (p := D.length < (32 * (q + 1))) rfl rfl (by omega)) <| R_nil <| X_then hK8 <| C_decf rfl (by omega) <| C_skip <| X_then hK7 <| C_seq fun K9 hK9 => C_region <| Rp (pu_fieldAddr (off := 0) (o' := 0) (by kernel_rfl) rfl rfl) ?_
 have f10 := (((f5.no k3).no k4).no k5)
 refine Rp (pu_loadMid (len := 3) (C := [.int .i64 ((q0 + 1 : Nat) : Int), .int .i64 ((n0 : Nat) : Int), .int .u32 ((ge : Nat) : Int)]) f10 (by kernel_rfl) (by kernel_rfl) rfl rfl rfl) <| Rp (pu_move rfl) <| Rp (pu_move rfl) <| R_lo (lo_call (by kernel_rfl) rfl (config_next q0 n0 ge q nn _ hP0 ⟨by omega, by omega⟩ ⟨hP.1, hP.2.1, by omega⟩)) rfl ?_
 rintro _ w6 ⟨rfl, k6⟩
 have kk6 := kk5.thenNo k6
 refine Rp (pu_move rfl) <| Rp (pu_extract rfl rfl) <| Rp (pu_extract rfl rfl) ?_
 have f11 := (f10.no k6)
 have f12 := ((((f_pr_2.no k3).no k4).no k5).no k6)
 have o13 := (((((o2.no k2).no k3).no k4).no k5).no k6)
 refine R_lo (lo_alloc (L := [.int .i64 0, .int .i64 0, .int .u32 0]) (by kernel_rfl)) rfl ?_
 rintro _ w7 ⟨pc, rfl, N7⟩
 have k7 := N7.kp
 have kk7 := kk6.thenNo k7
 have ne_pc_pb := Nat.ne_of_gt (Nat.lt_of_lt_of_le f11.lt N7.le)
 have ne_pc_pr := Nat.ne_of_gt (Nat.lt_of_lt_of_le f12.lt N7.le)
 have ne_pc_b := Nat.ne_of_gt (Nat.lt_of_lt_of_le o13.lt N7.le)
 have f_pc_7 := N7.bk
 refine R_lo0 (lo_storeRow (C := [.int .i64 ((q + 1 : Nat) : Int), .int .i64 ((nn : Nat) : Int), .int .u32 ((ge + 1 : Nat) : Int)]) f_pc_7 (by kernel_rfl) rfl rfl (by intro u hu; simp at hu; rcases hu with rfl | rfl | rfl <;> rfl) rfl) ?_
 rintro _ w8 kf8
 obtain ⟨k8, f_pc_8⟩ := kf8
 replace f_pc_8 : Bk w8 pc ([.int .i64 ((q + 1 : Nat) : Int), .int .i64 ((nn : Nat) : Int), .int .u32 ((ge + 1 : Nat) : Int)]) 36 := f_pc_8
 have kk8 := kk7.trans k8 (fun i hi => .inr (hi ▸ (Nat.le_trans kk6.size N7.le)))
 refine Rp (pu_assign rfl) <| R_nil <| X_then hK9 <| C_seq fun K14 hK14 => C_seq fun K15 hK15 => C_region <| Rp (pu_move rfl) <| Rp (pu_neqnn (by kernel_rfl) rfl) <| R_nil <| X_then hK15 <| C_false rfl <| C_skip <| X_then hK14 <| C_seq fun K16 hK16 => C_region <| Rp (pu_fieldAddr (off := 4) (o' := 4) (by kernel_rfl) rfl rfl) ?_
 have f17 := ((f11.no k7).on k8 (Ne.symm ne_pc_pb))
 refine Rp (pu_loadK f17 (by kernel_rfl) rfl rfl) ?_
 have f18 := ((f12.no k7).on k8 (Ne.symm ne_pc_pr))
 have o19 := ((o13.no k7).on k8 (Ne.symm ne_pc_b))
 refine R_lo (lo_call (by kernel_rfl) rfl (clone_ret A2 G c2 _ (HG.keptS kk8 aw_HG) hc2 hGp)) rfl ?_
 rintro _ w9 ⟨A_rg, c_rg, rfl, Q9, k9⟩
 have kk9 := kk8.thenNo k9
 refine Rp (pu_build (L := [.int .i64 0, .int .i64 0, .int .u32 0, .slice none (0) (0), .slice A_rg ((G).length) (c_rg), .slice none (0) (0)]) rfl (by kernel_rfl)) ?_
 have f21 := (f17.no k9)
 have f22 := (f18.no k9)
 have f23 := (f_pc_8.no k9)
 have o24 := (o19.no k9)
 refine R_lo (lo_alloc (L := [.int .i64 0, .int .i64 0, .int .u32 0, .slice none (0) (0), .slice none (0) (0), .slice none (0) (0)]) (by kernel_rfl)) rfl ?_
 rintro _ w10 ⟨pm, rfl, N10⟩
 have k10 := N10.kp
 have kk10 := kk9.thenNo k10
 have ne_pm_pb := Nat.ne_of_gt (Nat.lt_of_lt_of_le f21.lt N10.le)
 have ne_pm_pr := Nat.ne_of_gt (Nat.lt_of_lt_of_le f22.lt N10.le)
 have ne_pm_pc := Nat.ne_of_gt (Nat.lt_of_lt_of_le f23.lt N10.le)
 have ne_pm_b := Nat.ne_of_gt (Nat.lt_of_lt_of_le o24.lt N10.le)
 have f_pm_10 := N10.bk
 refine R_lo0 (lo_storeRow (C := [.int .i64 0, .int .i64 0, .int .u32 0, .slice none (0) (0), .slice A_rg ((G).length) (c_rg), .slice none (0) (0)]) f_pm_10 (by kernel_rfl) rfl rfl (by intro u hu; simp at hu; rcases hu with rfl | rfl | rfl | rfl | rfl | rfl <;> rfl) rfl) ?_
 rintro _ w11 kf11
 obtain ⟨k11, f_pm_11⟩ := kf11
 replace f_pm_11 : Bk w11 pm ([.int .i64 0, .int .i64 0, .int .u32 0, .slice none (0) (0), .slice A_rg ((G).length) (c_rg), .slice none (0) (0)]) 39 := f_pm_11
 have kk11 := kk10.trans k11 (fun i hi => .inr (hi ▸ (Nat.le_trans kk9.size N10.le)))
 refine R_nil <| X_then hK16 <| C_seq fun K25 hK25 => C_seq (fun K26 hK26 => ?_)
 have f27 := ((f21.no k10).on k11 (Ne.symm ne_pm_pb))
 have f28 := ((f22.no k10).on k11 (Ne.symm ne_pm_pr))
 have f29 := ((f23.no k10).on k11 (Ne.symm ne_pm_pc))
 have o30 := ((o24.no k10).on k11 (Ne.symm ne_pm_b))
 refine D_begin (fun W => Kp (On b) w W ∧ Bk W pb ([.int .i64 ((q0 + 1 : Nat) : Int), .int .i64 ((n0 : Nat) : Int), .int .u32 ((ge : Nat) : Int), .slice A4 (l4) (c4), .slice A2 (G.length) (c2), .slice A5 (l5) (c5)]) 39 ∧ Bk W pr ([.int .i64 0, .int .i64 0, .int .u32 0, .slice none (0) (0), .slice none (0) (0), .slice none (0) (0)]) 39 ∧ Bk W pc ([.int .i64 ((q + 1 : Nat) : Int), .int .i64 ((nn : Nat) : Int), .int .u32 ((ge + 1 : Nat) : Int)]) 36 ∧ Tb W b) 10 rfl (by kernel_rfl) ⟨kk11.drew, f27.draw, f28.draw, f29.draw, o30.draw⟩ ?_
 intro w12 k12 _
 have kk12 := kk11.thenNo k12
 refine Dt 0 rfl (fun W hS => pu_move rfl) <| Dt 1 rfl (fun W hS => pu_loadRow (len := 3) hS.2.2.2.1 (by kernel_rfl) (by kernel_rfl) rfl rfl) <| Dt 2 rfl (fun W hS => pu_move rfl) ?_
 have HDt31 := Bs.take HD 32
 have aw_HDt31 := Aw.take aw_HD 32
 have H_U : Bs w A3 U := by have h := HDt31; rwa [show D.take 32 = U from by rw [hD]; exact dr_take hU] at h
 have aw_H_U : Aw (On b) A3 U := by have h := aw_HDt31; rwa [show D.take 32 = U from by rw [hD]; exact dr_take hU] at h
 refine Dt 3 rfl (fun W hS => pu_sliceHi (hi := 32) (s := 1) Tryz.underlying22 (by kernel_rfl) rfl rfl rfl (by have := hc3; omega)) <| Dt 4 rfl (fun W hS => pu_move rfl) <| Dt 5 rfl (fun W hS => pu_move rfl) <| Dt 6 rfl (fun W hS => pu_move rfl) ?_
 have HDc32 := (Bs.cut HD hc3 32).take (32 * (q + 1) - 32)
 have aw_HDc32 := (Aw.cut aw_HD 32 c3 1).take (32 * (q + 1) - 32)
 have H_X : Bs w (cutA A3 32 c3 1) X := by have h := HDc32; rwa [show (D.drop 32).take (32 * (q + 1) - 32) = X from by rw [hD, dr_drop hU, show 32 * (q + 1) - 32 = q * 32 by omega]; exact dr_take hX] at h
 have aw_H_X : Aw (On b) (cutA A3 32 c3 1) X := by have h := aw_HDc32; rwa [show (D.drop 32).take (32 * (q + 1) - 32) = X from by rw [hD, dr_drop hU, show 32 * (q + 1) - 32 = q * 32 by omega]; exact dr_take hX] at h
 refine Dt 7 rfl (fun W hS => pu_slice2 (lo := 32) (hi := 32 * (q + 1)) (s := 1) Tryz.underlying22 (by kernel_rfl) rfl rfl rfl rfl rfl (by omega) (by have := hc3; omega)) ?_
 have o33 := (o30.no k12)
 have f34 := (f_pm_11.no k12)
 have f35 := (f27.no k12)
 have f36 := (f28.no k12)
 have f37 := (f29.no k12)
 have ob39 := (((Q9.keptNo k10).onN k11 Q9 N10.le).keptNo k12)
 refine D_one 8 (by kernel_rfl) (Nx_lo rfl (lo_callE (by kernel_rfl) rfl (by rw [(show U.length = 32 from hU.trans (by omega)), (show X.length = 32 * (q + 1) - 32 from hX.trans (by omega))] <;> rfl) (cer_parted pm b A_rg ((G).length) c_rg q nn (ge + 1) A3 U c3 A R c (cutA A3 32 c3 1) X (c3 - 32) _ ne_pm_b ⟨hP.1, hP.2.1, by omega⟩ (by omega) (H_U.keptS kk12 aw_H_U) (by rw [hU]; omega) (HR.keptS kk12 aw_HR) hc (H_X.keptS kk12 aw_H_X) (by rw [hX]; omega) ⟨hU, hR, hX⟩ (H_U.aw (Nat.le_trans kk9.size N10.le)) aw_H_U (HR.aw (Nat.le_trans kk9.size N10.le)) aw_HR (H_X.aw (Nat.le_trans kk9.size N10.le)) aw_H_X f34 o33)) rfl ?_)
 rintro _ w13 ⟨A_se, c_se, A_sp, c_sp, L_sp, rfl, Q13, S13, hK_sp, B13, T13, k13⟩
 have kk13 := kk12.trans k13 (Ons.subc (.inr (Nat.le_trans kk9.size N10.le)) (Ons.subc (.inl rfl) Ons.subn))
 have hl_sp := (key_len hK_sp).trans (ptK_length ..)
 have f43 := (f35.kept k13 (Ons.cons' (Ne.symm ne_pm_pb) (Ons.cons' ne_pb_b Ons.nil')))
 have f44 := (f36.kept k13 (Ons.cons' (Ne.symm ne_pm_pr) (Ons.cons' ne_pr_b Ons.nil')))
 have f45 := (f37.kept k13 (Ons.cons' (Ne.symm ne_pm_pc) (Ons.cons' ne_pc_b Ons.nil')))
 refine ⟨⟨kk13, f43, f44, f45, T13⟩, ?_⟩
 refine Dt 9 rfl (fun W hS => pu_assign rfl) <| D_done (by kernel_rfl) <| X_then hK26 <| C_seq fun K46 hK46 => C_region <| Rp (pu_move rfl) <| Rp (pu_neqnn (by kernel_rfl) rfl) <| R_nil <| X_then hK46 <| C_false rfl <| C_skip <| X_then hK25 <| C_seq fun K47 hK47 => C_region <| Rp (pu_loadRow (len := 6) B13 (by kernel_rfl) (by kernel_rfl) rfl rfl) <| R_lo0 (lo_storeRow (C := [.int .i64 ((q + 1 : Nat) : Int), .int .i64 ((nn : Nat) : Int), .int .u32 ((ge + 1 : Nat) : Int), .slice A_se ((boxE U R (ge + 1)).length) (c_se), .slice A_rg ((G).length) (c_rg), .slice A_sp ((L_sp).length) (c_sp)]) f44 (by kernel_rfl) rfl rfl (by intro u hu; simp at hu; rcases hu with rfl | rfl | rfl | rfl | rfl | rfl <;> rfl) rfl) ?_
 rintro _ w14 kf14
 obtain ⟨k14, f_pr_14⟩ := kf14
 replace f_pr_14 : Bk w14 pr ([.int .i64 ((q + 1 : Nat) : Int), .int .i64 ((nn : Nat) : Int), .int .u32 ((ge + 1 : Nat) : Int), .slice A_se ((boxE U R (ge + 1)).length) (c_se), .slice A_rg ((G).length) (c_rg), .slice A_sp ((L_sp).length) (c_sp)]) 39 := f_pr_14
 have kk14 := kk13.trans k14 (fun i hi => .inr (hi ▸ (Nat.le_trans kk1.size N2.le)))
 refine Rp (pu_assign rfl) <| R_nil <| X_then hK47 <| C_ret ?_
 have ob48 := (Q13.on k14 (by have := f36.lt; omega))
 have ob49 := ((ob39.kept k13 (fun b_ hb_ hc_ => by simp only [Ons, List.mem_cons, List.not_mem_nil, or_false] at hc_; rcases hc_ with e_ | e_ <;> first | exact (by have h1 := (Q9.lt _ hb_).2; have h2 := N10.le; omega) | exact (by have h1 := (ob39.lt _ hb_).1; have h2 := o19.lt; omega))).on k14 (by have := f18.lt; omega))
 have ob50 := (S13.on k14 (by have := f36.lt; omega))
 have o51 := (T13.on k14 (Ne.symm ne_pr_b))
 exact X_retCT (len := 6) (.inl rfl) rfl rfl f_pr_14 (by kernel_rfl) (by kernel_rfl) rfl rfl ⟨_, _, _, _, _, _, L_sp, rfl, ob48.low ((kk12).size), ob49.low ((kk8).size), ((ob50).lowb (kk12).size).lowd (kk12).size, hK_sp, o51, kk14⟩
end Go.Proofs.YtlkbkgghfhoggaaGreatDoor
