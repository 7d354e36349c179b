/- The bodies of CeremonyFresh. -/
import Derived.Test.YtlkbkgghfhoggaaGreatDoorVa
import Derived.Test.YtlkbkgghfhoggaaGreatDoorLs
set_option linter.unusedVariables false
set_option linter.unusedSimpArgs false
set_option maxHeartbeats 2000000
set_option maxRecDepth 100000
namespace Go.Proofs.YtlkbkgghfhoggaaGreatDoor
open Go.RowKit Gm
theorem num36_err (e : Int) (w : World) (hG : Gt w) : Ret Tryz.prog 14 #[.iface 76 (.int .i64 (e))] w (fun v w' => v = .int .i64 e ∧ Kp No w w') := by
 have kk0 := Kp.refl No w
 refine enter (n := 10) [.iface 76 (.int .i64 (e))] Tryz.func14 rfl rfl rfl ?_
 show Cw _ _ _ _ [(0, .iface 76 (.int .i64 (e)))] _
 refine C_seq (fun K1 hK1 => ?_)
 refine C_region ?_
 refine R_pu (pu_assign rfl) rfl ?_
 refine R_nil ?_
 refine X_then hK1 ?_
 refine C_seq (fun K2 hK2 => ?_)
 refine C_region ?_
 refine R_lo (lo_alloc (L := [.int .i64 0]) (by kernel_rfl)) rfl ?_
 rintro _ w1 ⟨p1_0, rfl, N1⟩
 have k1 := N1.kp
 have kk1 := kk0.then_ k1
 have ne_p1_0_0 := Nat.ne_of_gt (Nat.lt_of_lt_of_le hG.lt N1.le)
 have f_p1_0_1 := N1.bk
 refine R_nil ?_
 refine X_then hK2 ?_
 refine C_seq (fun K3 hK3 => ?_)
 refine C_seq (fun K4 hK4 => ?_)
 refine C_region ?_
 refine R_pu (pu_move rfl) rfl ?_
 refine R_pu (pu_eqlin (by kernel_rfl) rfl rfl) rfl ?_
 refine R_nil ?_
 refine X_then hK4 ?_
 refine C_false rfl ?_
 refine C_skip ?_
 refine X_then hK3 ?_
 refine C_seq (fun K5 hK5 => ?_)
 refine C_seq (fun K6 hK6 => ?_)
 refine C_region ?_
 refine R_pu (pu_move rfl) rfl ?_
 refine R_pu (pu_makeInterface Tryz.underlying93 rfl rfl) rfl ?_
 have o7 := (hG.no k1)
 refine R_lo (lo_call (by kernel_rfl) rfl (as_ret e p1_0 _ _ o7 f_p1_0_1)) rfl ?_
 rintro _ w2 ⟨rfl, B2, k2⟩
 have kk2 := kk1.trans k2 (fun i hi => .inr (hi ▸ (Nat.le_trans kk0.size N1.le)))
 refine R_nil ?_
 refine X_then hK6 ?_
 refine C_true rfl ?_
 refine C_seq (fun K8 hK8 => ?_)
 refine C_region ?_
 refine R_pu (pu_loadK B2 (by kernel_rfl) rfl rfl) rfl ?_
 refine R_pu (pu_assign rfl) rfl ?_
 refine R_nil ?_
 refine X_then hK8 ?_
 refine C_ret ?_
 refine X_then_ret ?_
 exact X_ret1 (.inl rfl) rfl rfl ⟨rfl, kk2⟩
theorem cer_full (A : Option Addr) (l : List Nat) (c n : Nat) (w : World) (HB : Bs w A l) (hc : l.length ≤ c) (hn : n ≤ 1000000) : Ret Tryz.prog 8 #[.slice A (l.length) (c), .int .i64 ((n : Nat) : Int)] w (fun v w' => ∃ A c, v = .slice A (fullB l n).length c ∧ Ob w' w.heap.size (.slice A (fullB l n).length c) (fullB l n) ∧ Kp No w w') := by
 have kk0 := Kp.refl No w
 refine enter (n := 12) [.slice A (l.length) (c), .int .i64 ((n : Nat) : Int)] Tryz.func8 rfl rfl rfl ?_
 show Cw _ _ _ _ [(0, .slice A (l.length) (c)), (1, .int .i64 ((n : Nat) : Int))] _
 refine C_seq (fun K1 hK1 => ?_)
 refine C_region ?_
 refine R_pu (pu_assign rfl) rfl ?_
 refine R_nil ?_
 refine X_then hK1 ?_
 refine C_seq (fun K2 hK2 => ?_)
 refine C_region ?_
 refine R_pu (pu_move rfl) rfl ?_
 refine R_lo (lo_make (z := .int .u8 0) (bytes := 1) (ln := n) (cp := n) Tryz.underlying22 (by kernel_rfl) rfl rfl rfl rfl rfl (by omega) (by omega) (by omega)) rfl ?_
 rintro _ w1 ⟨d, rfl, N1⟩
 have k1 := N1.kp
 have kk1 := kk0.then_ k1
 have f_d_1 : Bk w1 d (u8s (List.replicate n 0)) 5 := by rw [u8s_rep]; exact N1.bk
 refine R_pu (pu_assign rfl) rfl ?_
 refine R_nil ?_
 refine X_then hK2 ?_
 refine C_seq (fun K3 hK3 => ?_)
 refine C_region ?_
 refine R_pu (pu_move rfl) rfl ?_
 refine R_pu (pu_move rfl) rfl ?_
 refine R_lo (lo_copyG (m' := (min n l.length)) f_d_1 rfl rfl (HB.keptNo kk1) rfl (by rw [Nat.min_comm]) (by rw [(rep_by n).1]; omega)) rfl ?_
 rintro _ w2 kg2
 obtain ⟨rfl, kf2⟩ := kg2
 obtain ⟨k2, f_d_2⟩ := kf2
 replace f_d_2 := Bk.eq f_d_2 (congrArg u8s (fullB_copy l n))
 replace f_d_2 : Bk w2 d (u8s (fullB l n)) 5 := f_d_2
 have kk2 := kk1.trans k2 (fun i hi => .inr (hi ▸ (Nat.le_trans kk0.size N1.le)))
 refine R_nil ?_
 refine X_then hK3 ?_
 refine C_seq (fun K4 hK4 => ?_)
 refine C_region ?_
 refine R_pu (pu_move rfl) rfl ?_
 refine R_pu (pu_assign rfl) rfl ?_
 refine R_nil ?_
 refine X_then hK4 ?_
 refine C_ret ?_
 exact X_ret1 (.inl rfl) rfl rfl ⟨some ⟨d, 0, none⟩, n, by rw [fullB_length], by rw [fullB_length]; exact Ob.made f_d_2 (Nat.le_trans kk0.size N1.le) (fullB_length _ _) (by unfold maxLen; omega) (fullB_by n HB.byte).2, kk2⟩
theorem sure36  (w : World) (hG : Gt w) : Ret Tryz.prog 5 #[] w (fun v w' => v = .bool true ∧ Kp No w w') := by
 have kk0 := Kp.refl No w
 refine enter (n := 71) [] Tryz.func5 rfl rfl rfl ?_
 show Cw _ _ _ _ [] _
 refine C_seq (fun K1 hK1 => ?_)
 refine C_region ?_
 refine R_pu (pu_assign rfl) rfl ?_
 refine R_nil ?_
 refine X_then hK1 ?_
 refine C_seq (fun K2 hK2 => ?_)
 refine C_region ?_
 refine R_lo (lo_call (by kernel_rfl) rfl (gf_new _)) rfl ?_
 rintro _ w1 ⟨b1_0, rfl, le1, T1, k1⟩
 have kk1 := kk0.then_ k1
 have ne_b1_0_0 := Nat.ne_of_gt (Nat.lt_of_lt_of_le hG.lt le1)
 refine R_pu (pu_assign rfl) rfl ?_
 refine R_nil ?_
 refine X_then hK2 ?_
 refine C_seq (fun K3 hK3 => ?_)
 refine C_region ?_
 refine R_pu (pu_move rfl) rfl ?_
 have o4 := (hG.no k1)
 refine R_lo (lo_make (z := .int .u8 0) (bytes := 1) (ln := 128) (cp := 128) Tryz.underlying22 (by kernel_rfl) rfl rfl rfl rfl rfl (by omega) (by omega) (by omega)) rfl ?_
 rintro _ w2 ⟨d0, rfl, N2⟩
 have k2 := N2.kp
 have kk2 := kk1.then_ k2
 have ne_d0_0 := Nat.ne_of_gt (Nat.lt_of_lt_of_le o4.lt N2.le)
 have ne_d0_b1_0 := Nat.ne_of_gt (Nat.lt_of_lt_of_le T1.lt N2.le)
 have f_d0_2 : Bk w2 d0 (u8s (List.replicate 128 0)) 5 := by rw [u8s_rep]; exact N2.bk
 have o5 := (T1.no k2)
 have o6 := (o4.no k2)
 refine R_lo (lo_callE (by kernel_rfl) rfl (by rw [(rep_by 128).1] <;> rfl) (cer_init b1_0 1 3 (some ⟨d0, 0, none⟩) (List.replicate 128 0) 128 (List.replicate 32 0) (List.replicate 32 0) (List.replicate 32 0) (List.replicate 32 0) [] _ (Bs.ofBk f_d0_2 (rep_by 128)) (Nat.le_of_eq (rep_by 128).1) ⟨rfl, ⟨by decide, by decide, by decide⟩, rfl, rfl, rfl, rfl⟩ (Aw.ofBk ne_d0_b1_0) o5)) rfl ?_
 rintro _ w3 ⟨A_es, c_es, A_rs, c_rs, A_ps, c_ps, L_ps, rfl, Q3, R3, S3, hK_ps, T3, k3⟩
 have kk3 := kk2.trans k3 (fun i hi => .inr (hi ▸ (Nat.le_trans kk0.size le1)))
 have z7 := k3.size
 have z8 := k3.size
 have z9 := k3.size
 have hl_ps := (key_len hK_ps).trans (ptK_length ..)
 refine R_pu (pu_move rfl) rfl ?_
 refine R_pu (pu_extract rfl rfl) rfl ?_
 refine R_pu (pu_extract rfl rfl) rfl ?_
 have f10 := (f_d0_2.on k3 ne_d0_b1_0)
 have o11 := (o6.on k3 (Ne.symm ne_b1_0_0))
 refine R_lo (lo_alloc (L := [.int .i64 0, .int .i64 0, .int .u32 0, .slice none (0) (0), .slice none (0) (0), .slice none (0) (0)]) (by kernel_rfl)) rfl ?_
 rintro _ w4 ⟨mx, rfl, N4⟩
 have k4 := N4.kp
 have kk4 := kk3.then_ k4
 have ne_mx_d0 := Nat.ne_of_gt (Nat.lt_of_lt_of_le f10.lt N4.le)
 have ne_mx_0 := Nat.ne_of_gt (Nat.lt_of_lt_of_le o11.lt N4.le)
 have ne_mx_b1_0 := Nat.ne_of_gt (Nat.lt_of_lt_of_le T3.lt N4.le)
 have f_mx_4 := N4.bk
 refine R_lo0 (lo_storeRow (C := [.int .i64 2, .int .i64 3, .int .u32 1, .slice A_es ((boxE (List.replicate 32 0) (List.replicate 32 0) 1).length) (c_es), .slice A_rs ((boxR (List.replicate 32 0) (encR [(1, (List.replicate 32 0))])).length) (c_rs), .slice A_ps ((L_ps).length) (c_ps)]) f_mx_4 (by kernel_rfl) rfl rfl (by intro u hu; simp at hu; rcases hu with rfl | rfl | rfl | rfl | rfl | rfl <;> rfl) rfl) ?_
 rintro _ w5 kf5
 obtain ⟨k5, f_mx_5⟩ := kf5
 replace f_mx_5 : Bk w5 mx ([.int .i64 2, .int .i64 3, .int .u32 1, .slice A_es ((boxE (List.replicate 32 0) (List.replicate 32 0) 1).length) (c_es), .slice A_rs ((boxR (List.replicate 32 0) (encR [(1, (List.replicate 32 0))])).length) (c_rs), .slice A_ps ((L_ps).length) (c_ps)]) 39 := f_mx_5
 have kk5 := kk4.trans k5 (fun i hi => .inr (hi ▸ (Nat.le_trans kk3.size N4.le)))
 refine R_pu (pu_assign rfl) rfl ?_
 refine R_nil ?_
 refine X_then hK3 ?_
 refine C_seq (fun K12 hK12 => ?_)
 refine C_seq (fun K13 hK13 => ?_)
 refine C_region ?_
 refine R_pu (pu_move rfl) rfl ?_
 refine R_pu (pu_neqnn (by kernel_rfl) rfl) rfl ?_
 refine R_pu (pu_move rfl) rfl ?_
 refine R_gpu rfl rfl (pu_fieldAddr (off := 5) (o' := 5) (by kernel_rfl) rfl rfl) rfl ?_
 refine R_gpu rfl rfl (pu_loadK f_mx_5 (by kernel_rfl) rfl rfl) rfl ?_
 refine R_gpu rfl rfl (pu_len Tryz.underlying37 rfl) rfl ?_
 refine R_gpu rfl rfl (pu_false (pu_neq (p := ((L_ps).length) = 3) rfl rfl (by omega)) (fun h => h hl_ps)) rfl ?_
 refine R_pu (pu_pickf rfl rfl) rfl ?_
 refine R_nil ?_
 refine X_then hK13 ?_
 refine C_false rfl ?_
 refine C_skip ?_
 refine X_then hK12 ?_
 refine C_seq (fun K14 hK14 => ?_)
 have hop := opens_own hK_ps (by decide) (by decide) (by rfl) (by rfl) (fun v hv => by rw [(List.mem_replicate.1 hv).2]; decide) (fun v hv => by rw [(List.mem_replicate.1 hv).2]; decide)
 refine C_region ?_
 refine R_pu (pu_move rfl) rfl ?_
 refine R_pu (pu_loadRow (len := 6) f_mx_5 (by kernel_rfl) (by kernel_rfl) rfl rfl) rfl ?_
 have ob15 := ((Q3.keptNo k4).onN k5 Q3 N4.le)
 have ob16 := ((R3.keptNo k4).onN k5 R3 N4.le)
 have ob17 := ((S3.keptNo k4).onN k5 S3 N4.le)
 have o18 := ((T3.no k4).on k5 (Ne.symm ne_mx_b1_0))
 have f19 := ((f10.no k4).on k5 (Ne.symm ne_mx_d0))
 have o20 := ((o11.no k4).on k5 (Ne.symm ne_mx_0))
 have lm21 := ob15.top
 have lm22 := ob16.top
 have lm23 := ob17.top
 have lm24 := ob15.top
 have lm25 := ob16.top
 have lm26 := ob17.top
 refine R_lo (lo_call (by kernel_rfl) rfl (cer_open b1_0 1 3 1 A_es (boxE (List.replicate 32 0) (List.replicate 32 0) 1) c_es A_rs (boxR (List.replicate 32 0) (encR [(1, (List.replicate 32 0))])) c_rs A_ps L_ps c_ps (List.replicate 32 0) (List.replicate 32 0) ([(1, (List.replicate 32 0))]) _ ob15.bs ob15.le.2 ob16.bs ob16.le.2 ob17.ss ⟨⟨by decide, by decide, by decide⟩, ⟨by omega, ob17.le.2, by omega⟩, (by decide), (by decide), hop.1, hop.2, rfl, (by rfl), rfl, may_one, ok_one (rep_by 32)⟩ (Aw.ofOb ob15 (by have := o5.lt; omega)) (Aw.ofOb ob16 (by have := o5.lt; omega)) (ob17.aw (by have := o5.lt; omega)) o18)) rfl ?_
 rintro _ w6 ⟨A_ro, c_ro, A_rn, c_rn, rfl, Q6, R6, T6, k6⟩
 have kk6 := kk5.trans k6 (fun i hi => .inr (hi ▸ (Nat.le_trans kk0.size le1)))
 have z27 := k6.size
 have z28 := k6.size
 refine R_pu (pu_move rfl) rfl ?_
 refine R_pu (pu_extract rfl rfl) rfl ?_
 refine R_pu (pu_extract rfl rfl) rfl ?_
 refine R_pu (pu_extract rfl rfl) rfl ?_
 have f29 := (f19.on k6 ne_d0_b1_0)
 have f30 := (f_mx_5.on k6 ne_mx_b1_0)
 have o31 := (o20.on k6 (Ne.symm ne_b1_0_0))
 have ob32 := (ob15.on k6 (by have := o5.lt; omega))
 have ob33 := (ob16.on k6 (by have := o5.lt; omega))
 have ob34 := (ob17.on k6 (by have := o5.lt; omega))
 refine R_lo (lo_alloc (L := [.slice none (0) (0)]) (by kernel_rfl)) rfl ?_
 rintro _ w7 ⟨mr, rfl, N7⟩
 have k7 := N7.kp
 have kk7 := kk6.then_ k7
 have ne_mr_d0 := Nat.ne_of_gt (Nat.lt_of_lt_of_le f29.lt N7.le)
 have ne_mr_mx := Nat.ne_of_gt (Nat.lt_of_lt_of_le f30.lt N7.le)
 have ne_mr_0 := Nat.ne_of_gt (Nat.lt_of_lt_of_le o31.lt N7.le)
 have ne_mr_b1_0 := Nat.ne_of_gt (Nat.lt_of_lt_of_le T6.lt N7.le)
 have f_mr_7 := N7.bk
 refine R_pu (pu_assign rfl) rfl ?_
 refine R_lo0 (lo_storeRow (C := [.slice A_rn (([(1, (List.replicate 32 0))]).length) (c_rn)]) f_mr_7 (by kernel_rfl) rfl rfl (by intro u hu; simp at hu; rcases hu with rfl <;> rfl) rfl) ?_
 rintro _ w8 kf8
 obtain ⟨k8, f_mr_8⟩ := kf8
 replace f_mr_8 : Bk w8 mr ([.slice A_rn (([(1, (List.replicate 32 0))]).length) (c_rn)]) 46 := f_mr_8
 have kk8 := kk7.trans k8 (fun i hi => .inr (hi ▸ (Nat.le_trans kk6.size N7.le)))
 refine R_pu (pu_assign rfl) rfl ?_
 refine R_nil ?_
 refine X_then hK14 ?_
 refine C_seq (fun K35 hK35 => ?_)
 refine C_region ?_
 refine R_lo (lo_call (by kernel_rfl) rfl (cer_need 1 _ ⟨by decide, by decide⟩)) rfl ?_
 rintro _ w9 ⟨rfl, k9⟩
 have kk9 := kk8.then_ k9
 refine R_pu (pu_move rfl) rfl ?_
 refine R_pu (pu_extract rfl rfl) rfl ?_
 refine R_pu (pu_extract rfl rfl) rfl ?_
 refine R_pu (pu_assign rfl) rfl ?_
 refine R_pu (pu_assign rfl) rfl ?_
 refine R_nil ?_
 refine X_then hK35 ?_
 refine C_seq (fun K36 hK36 => ?_)
 refine C_region ?_
 refine R_pu (pu_move rfl) rfl ?_
 have f37 := (((f29.no k7).on k8 (Ne.symm ne_mr_d0)).no k9)
 have f38 := (((f30.no k7).on k8 (Ne.symm ne_mr_mx)).no k9)
 have f39 := (f_mr_8.no k9)
 have o40 := (((o31.no k7).on k8 (Ne.symm ne_mr_0)).no k9)
 have o41 := (((T6.no k7).on k8 (Ne.symm ne_mr_b1_0)).no k9)
 have ob42 := (((ob32.keptNo k7).onN k8 ob32 N7.le).keptNo k9)
 have ob43 := (((ob33.keptNo k7).onN k8 ob33 N7.le).keptNo k9)
 have ob44 := (((ob34.keptNo k7).onN k8 ob34 N7.le).keptNo k9)
 have ob45 := (((Q6.keptNo k7).onN k8 Q6 N7.le).keptNo k9)
 have ob46 := (((R6.keptNo k7).onN k8 R6 N7.le).keptNo k9)
 refine R_lo (lo_make (z := .int .u8 0) (bytes := 1) (ln := 127) (cp := 127) Tryz.underlying22 (by kernel_rfl) rfl rfl rfl rfl rfl (by omega) (by omega) (by omega)) rfl ?_
 rintro _ w10 ⟨d1, rfl, N10⟩
 have k10 := N10.kp
 have kk10 := kk9.then_ k10
 have ne_d1_d0 := Nat.ne_of_gt (Nat.lt_of_lt_of_le f37.lt N10.le)
 have ne_d1_mx := Nat.ne_of_gt (Nat.lt_of_lt_of_le f38.lt N10.le)
 have ne_d1_mr := Nat.ne_of_gt (Nat.lt_of_lt_of_le f39.lt N10.le)
 have ne_d1_0 := Nat.ne_of_gt (Nat.lt_of_lt_of_le o40.lt N10.le)
 have ne_d1_b1_0 := Nat.ne_of_gt (Nat.lt_of_lt_of_le o41.lt N10.le)
 have f_d1_10 : Bk w10 d1 (u8s (List.replicate 127 0)) 5 := by rw [u8s_rep]; exact N10.bk
 have o47 := (o41.no k10)
 refine R_lo (lo_callE (by kernel_rfl) rfl (by rw [(rep_by 127).1] <;> rfl) (cer_init_short b1_0 1 3 (some ⟨d1, 0, none⟩) (List.replicate 127 0) 127 _ (Bs.ofBk f_d1_10 (rep_by 127)) (Nat.le_of_eq (rep_by 127).1) ⟨⟨by decide, by decide, by decide⟩, by rw [List.length_replicate]; decide⟩)) rfl ?_
 rintro _ w11 ⟨rfl, k11⟩
 have kk11 := kk10.then_ k11
 refine R_pu (pu_move rfl) rfl ?_
 refine R_pu (pu_extract rfl rfl) rfl ?_
 refine R_pu (pu_extract rfl rfl) rfl ?_
 have f48 := ((f37.no k10).no k11)
 have f49 := ((f38.no k10).no k11)
 have f50 := ((f39.no k10).no k11)
 have f51 := (f_d1_10.no k11)
 have o52 := ((o40.no k10).no k11)
 have o53 := (o47.no k11)
 have ob54 := ((ob42.keptNo k10).keptNo k11)
 have ob55 := ((ob43.keptNo k10).keptNo k11)
 have ob56 := ((ob44.keptNo k10).keptNo k11)
 have ob57 := ((ob45.keptNo k10).keptNo k11)
 have ob58 := ((ob46.keptNo k10).keptNo k11)
 refine R_lo (lo_alloc (L := [.int .i64 0, .int .i64 0, .int .u32 0, .slice none (0) (0), .slice none (0) (0), .slice none (0) (0)]) (by kernel_rfl)) rfl ?_
 rintro _ w12 ⟨my, rfl, N12⟩
 have k12 := N12.kp
 have kk12 := kk11.then_ k12
 have ne_my_d0 := Nat.ne_of_gt (Nat.lt_of_lt_of_le f48.lt N12.le)
 have ne_my_mx := Nat.ne_of_gt (Nat.lt_of_lt_of_le f49.lt N12.le)
 have ne_my_mr := Nat.ne_of_gt (Nat.lt_of_lt_of_le f50.lt N12.le)
 have ne_my_d1 := Nat.ne_of_gt (Nat.lt_of_lt_of_le f51.lt N12.le)
 have ne_my_0 := Nat.ne_of_gt (Nat.lt_of_lt_of_le o52.lt N12.le)
 have ne_my_b1_0 := Nat.ne_of_gt (Nat.lt_of_lt_of_le o53.lt N12.le)
 have f_my_12 := N12.bk
 refine R_lo0 (lo_storeRow (C := [.int .i64 0, .int .i64 0, .int .u32 0, .slice none (0) (0), .slice none (0) (0), .slice none (0) (0)]) f_my_12 (by kernel_rfl) rfl rfl (by intro u hu; simp at hu; rcases hu with rfl | rfl | rfl | rfl | rfl | rfl <;> rfl) rfl) ?_
 rintro _ w13 kf13
 obtain ⟨k13, f_my_13⟩ := kf13
 replace f_my_13 : Bk w13 my ([.int .i64 0, .int .i64 0, .int .u32 0, .slice none (0) (0), .slice none (0) (0), .slice none (0) (0)]) 39 := f_my_13
 have kk13 := kk12.trans k13 (fun i hi => .inr (hi ▸ (Nat.le_trans kk11.size N12.le)))
 refine R_pu (pu_assign rfl) rfl ?_
 refine R_nil ?_
 refine X_then hK36 ?_
 refine C_seq (fun K59 hK59 => ?_)
 refine C_region ?_
 refine R_pu (pu_move rfl) rfl ?_
 refine R_pu (pu_eqlnn (by kernel_rfl) rfl) rfl ?_
 refine R_pu (pu_move rfl) rfl ?_
 refine R_gpu rfl rfl (pu_move rfl) rfl ?_
 refine R_gpu rfl rfl (pu_len Tryz.underlying22 rfl) rfl ?_
 refine R_gpu rfl rfl (pu_true (pu_eql (p := (((List.replicate 32 0)).length) = 32) rfl rfl (by omega)) (List.length_replicate ..)) rfl ?_
 refine R_pu (pu_pickt rfl rfl) rfl ?_
 refine R_pu (pu_move rfl) rfl ?_
 refine R_gpu rfl rfl (pu_fieldAddr (off := 0) (o' := 0) (by kernel_rfl) rfl rfl) rfl ?_
 have f60 := ((f50.no k12).on k13 (Ne.symm ne_my_mr))
 refine R_gpu rfl rfl (pu_loadK f60 (by kernel_rfl) rfl rfl) rfl ?_
 refine R_gpu rfl rfl (pu_len Tryz.underlying44 rfl) rfl ?_
 refine R_gpu rfl rfl (pu_true (pu_eql (p := (([(1, (List.replicate 32 0))]).length) = 1) rfl rfl (by omega)) rfl) rfl ?_
 refine R_pu (pu_pickt rfl rfl) rfl ?_
 refine R_pu (pu_move rfl) rfl ?_
 refine R_gpu rfl rfl (pu_move rfl) rfl ?_
 refine R_gpu rfl rfl (pu_true (pu_eql (p := (128 : Nat) = 128) rfl rfl (by omega)) (by decide)) rfl ?_
 refine R_pu (pu_pickt rfl rfl) rfl ?_
 refine R_pu (pu_move rfl) rfl ?_
 refine R_gpu rfl rfl (pu_move rfl) rfl ?_
 have o61 := ((o52.no k12).on k13 (Ne.symm ne_my_0))
 refine R_glo rfl rfl (lo_call (by kernel_rfl) rfl (num36_err 2 _ o61)) rfl ?_
 rintro _ w14 ⟨rfl, k14⟩
 have kk14 := kk13.then_ k14
 refine R_gpu rfl rfl (pu_true (pu_eql (p := (2 : Nat) = 2) rfl rfl (by omega)) (by decide)) rfl ?_
 refine R_pu (pu_pickt rfl rfl) rfl ?_
 refine R_pu (pu_move rfl) rfl ?_
 refine R_gpu rfl rfl (pu_fieldAddr (off := 3) (o' := 3) (by kernel_rfl) rfl rfl) rfl ?_
 have f62 := (((f49.no k12).on k13 (Ne.symm ne_my_mx)).no k14)
 refine R_gpu rfl rfl (pu_loadK f62 (by kernel_rfl) rfl rfl) rfl ?_
 refine R_gpu rfl rfl (pu_len Tryz.underlying22 rfl) rfl ?_
 refine R_gpu rfl rfl (pu_true (pu_eql (p := ((boxE (List.replicate 32 0) (List.replicate 32 0) 1).length) = 48) rfl rfl (by omega)) (by rw [boxE_len]; rfl)) rfl ?_
 refine R_pu (pu_pickt rfl rfl) rfl ?_
 refine R_pu (pu_assign rfl) rfl ?_
 refine R_nil ?_
 refine X_then hK59 ?_
 refine C_ret ?_
 exact X_ret1 (.inl rfl) rfl rfl ⟨rfl, kk14⟩
theorem ceremonyFresh_ (ka : Int) (hka : (Lit.int .i64 ka).wf = true) (na : Int) (hna : (Lit.int .i64 na).wf = true) (A : Option Addr) (l : List Nat) (c : Nat) (A2 : Option Addr) (l2 : List Nat) (c2 : Nat) (A3 : Option Addr) (m : List Nat) (c3 : Nat) (w : World) (HB : Bs w A l) (hc : l.length ≤ c) (HB2 : Bs w A2 l2) (hc2 : l2.length ≤ c2) (HM : Bs w A3 m) (hc3 : m.length ≤ c3) (hG : Gt w) : Ret Tryz.prog 3 #[.agg ([.int .i64 (ka), .int .i64 (na), .slice A (l.length) (c), .slice A2 (l2.length) (c2)] : List Value).toArray, .slice A3 (m.length) (c3)] w (fun v w' => v = .bool true ∧ Kp No w w') := by
 have kk0 := Kp.refl No w
 refine enter (n := 228) [.agg ([.int .i64 (ka), .int .i64 (na), .slice A (l.length) (c), .slice A2 (l2.length) (c2)] : List Value).toArray, .slice A3 (m.length) (c3)] Tryz.func3 rfl rfl rfl ?_
 show Cw _ _ _ _ [(0, .agg ([.int .i64 (ka), .int .i64 (na), .slice A (l.length) (c), .slice A2 (l2.length) (c2)] : List Value).toArray), (1, .slice A3 (m.length) (c3))] _
 refine C_seq (fun K1 hK1 => ?_)
 refine C_region ?_
 refine R_lo (lo_box (L := [.int .i64 (ka), .int .i64 (na), .slice A (l.length) (c), .slice A2 (l2.length) (c2)]) rfl rfl) rfl ?_
 rintro _ w1 ⟨pa, rfl, N1⟩
 have k1 := N1.kp
 have kk1 := kk0.then_ k1
 have ne_pa_0 := Nat.ne_of_gt (Nat.lt_of_lt_of_le hG.lt N1.le)
 have f_pa_1 := N1.bk
 refine R_pu (pu_assign rfl) rfl ?_
 refine R_nil ?_
 refine X_then hK1 ?_
 refine C_seq (fun K2 hK2 => ?_)
 refine C_region ?_
 refine R_pu (pu_fieldAddr (off := 0) (o' := 0) (by kernel_rfl) rfl rfl) rfl ?_
 refine R_pu (pu_loadK f_pa_1 (by kernel_rfl) rfl rfl) rfl ?_
 obtain ⟨u, hu, hul⟩ : ∃ u : Nat, (u : Int) = ka % 18446744073709551616 ∧ u < 18446744073709551616 := ⟨(ka % 18446744073709551616).toNat, by omega, by omega⟩
 refine R_pu (pu_conv (z := ((u : Nat) : Int)) Tryz.underlying3 Tryz.underlying25 rfl (by rw [IntKind.wrap_u64]; omega)) rfl ?_
 refine R_pu (pu_rem (z := ((u % 4 : Nat) : Int)) rfl rfl (by omega) (by rfl)) rfl ?_
 refine R_pu (pu_conv (z := ((u % 4 : Nat) : Int)) Tryz.underlying25 Tryz.underlying3 rfl (by rw [IntKind.wrap_i64]; omega)) rfl ?_
 obtain ⟨q, hq⟩ : ∃ m : Nat, 2 + u % 4 = m + 1 := ⟨1 + u % 4, by omega⟩
 refine R_pu (pu_add (z := ((q + 1 : Nat) : Int)) rfl rfl (by rw [IntKind.wrap_i64]; omega)) rfl ?_
 refine R_pu (pu_assign rfl) rfl ?_
 refine R_nil ?_
 refine X_then hK2 ?_
 refine C_seq (fun K3 hK3 => ?_)
 refine C_region ?_
 refine R_pu (pu_move rfl) rfl ?_
 refine R_pu (pu_fieldAddr (off := 1) (o' := 1) (by kernel_rfl) rfl rfl) rfl ?_
 refine R_pu (pu_loadK f_pa_1 (by kernel_rfl) rfl rfl) rfl ?_
 obtain ⟨v, hv, hvl⟩ : ∃ u : Nat, (u : Int) = na % 18446744073709551616 ∧ u < 18446744073709551616 := ⟨(na % 18446744073709551616).toNat, by omega, by omega⟩
 refine R_pu (pu_conv (z := ((v : Nat) : Int)) Tryz.underlying3 Tryz.underlying25 rfl (by rw [IntKind.wrap_u64]; omega)) rfl ?_
 refine R_pu (pu_rem (z := ((v % 4 : Nat) : Int)) rfl rfl (by omega) (by rfl)) rfl ?_
 refine R_pu (pu_conv (z := ((v % 4 : Nat) : Int)) Tryz.underlying25 Tryz.underlying3 rfl (by rw [IntKind.wrap_i64]; omega)) rfl ?_
 obtain ⟨nn, hnn⟩ : ∃ m : Nat, q + 1 + v % 4 = m := ⟨q + 1 + v % 4, by omega⟩
 refine R_pu (pu_add (z := ((nn : Nat) : Int)) rfl rfl (by rw [IntKind.wrap_i64]; omega)) rfl ?_
 refine R_pu (pu_assign rfl) rfl ?_
 refine R_nil ?_
 refine X_then hK3 ?_
 refine C_seq (fun K4 hK4 => ?_)
 refine C_seq (fun K5 hK5 => ?_)
 refine C_region ?_
 refine R_pu (pu_move rfl) rfl ?_
 refine R_pu (pu_len Tryz.underlying22 rfl) rfl ?_
 refine R_pu (pu_gtr (p := m.length > 100) rfl rfl (by omega)) rfl ?_
 refine R_nil ?_
 refine X_then hK5 ?_
 refine C_dec rfl (fun h39 => ?_) (fun h39 => ?_)
 · refine C_seq (fun K6 hK6 => ?_)
   refine C_region ?_
   have o7 := (hG.no k1)
   refine R_lo (lo_call (by kernel_rfl) rfl (sure36 _ o7)) rfl ?_
   rintro _ w2 ⟨rfl, k2⟩
   have kk2 := kk1.then_ k2
   refine R_pu (pu_assign rfl) rfl ?_
   refine R_nil ?_
   refine X_then hK6 ?_
   refine C_ret ?_
   refine X_then_ret ?_
   exact X_ret1 (.inl rfl) rfl rfl ⟨rfl, kk2⟩
 · refine C_skip ?_
   refine X_then hK4 ?_
   refine C_seq (fun K8 hK8 => ?_)
   refine C_region ?_
   have o9 := (hG.no k1)
   refine R_lo (lo_call (by kernel_rfl) rfl (gf_new _)) rfl ?_
   rintro _ w3 ⟨b5_0, rfl, le3, T3, k3⟩
   have kk3 := kk1.then_ k3
   have ne_b5_0_pa := Nat.ne_of_gt (Nat.lt_of_lt_of_le f_pa_1.lt le3)
   have ne_b5_0_0 := Nat.ne_of_gt (Nat.lt_of_lt_of_le o9.lt le3)
   refine R_pu (pu_assign rfl) rfl ?_
   refine R_nil ?_
   refine X_then hK8 ?_
   refine C_seq (fun K10 hK10 => ?_)
   refine C_region ?_
   refine R_pu (pu_move rfl) rfl ?_
   refine R_lo (lo_call (by kernel_rfl) rfl (cer_need q _ ⟨by omega, by omega⟩)) rfl ?_
   rintro _ w4 ⟨rfl, k4⟩
   have kk4 := kk3.then_ k4
   refine R_pu (pu_move rfl) rfl ?_
   refine R_pu (pu_extract rfl rfl) rfl ?_
   refine R_pu (pu_extract rfl rfl) rfl ?_
   refine R_pu (pu_assign rfl) rfl ?_
   refine R_pu (pu_assign rfl) rfl ?_
   refine R_nil ?_
   refine X_then hK10 ?_
   refine C_seq (fun K11 hK11 => ?_)
   refine C_region ?_
   refine R_pu (pu_fieldAddr (off := 2) (o' := 2) (by kernel_rfl) rfl rfl) rfl ?_
   have f12 := ((f_pa_1.no k3).no k4)
   refine R_pu (pu_loadK f12 (by kernel_rfl) rfl rfl) rfl ?_
   refine R_pu (pu_move rfl) rfl ?_
   have o13 := ((o9.no k3).no k4)
   have o14 := (T3.no k4)
   refine R_lo (lo_call (by kernel_rfl) rfl (cer_full A l c (32 * ((q + 1) + 2)) _ (HB.keptNo kk4) hc (by omega))) rfl ?_
   rintro _ w5 ⟨A_d, c_d, rfl, Q5, k5⟩
   have kk5 := kk4.then_ k5
   have z15 := k5.size
   refine R_pu (pu_assign rfl) rfl ?_
   refine R_nil ?_
   refine X_then hK11 ?_
   refine C_seq (fun K16 hK16 => ?_)
   obtain ⟨U, R, Y, X, hd, hU, hR, hY, hX⟩ := cut_draws (n := q * 32) (show (fullB l (32 * (q + 1 + 2))).length = 96 + q * 32 by rw [fullB_length]; omega)
   have bD := (fullB_by (32 * (q + 1 + 2)) HB.byte).2
   rw [hd] at bD
   have bU : Bl U := fun v hv => bD v (by simp [hv]); have bR : Bl R := fun v hv => bD v (by simp [hv]); have bY : By 32 Y := ⟨hY, fun v hv => bD v (by simp [hv])⟩; have bX : Bl X := fun v hv => bD v (by simp [hv])
   have hP12 : 2 ≤ q + 1 ∧ q + 1 ≤ nn ∧ nn ≤ 12 := by omega
   have hPY : 2 ≤ q + 1 ∧ q + 1 ≤ nn ∧ nn ≤ 255 := by omega
   refine C_region ?_
   refine R_pu (pu_move rfl) rfl ?_
   refine R_pu (pu_move rfl) rfl ?_
   refine R_pu (pu_move rfl) rfl ?_
   refine R_pu (pu_move rfl) rfl ?_
   have o17 := (o14.no k5)
   have f18 := (f12.no k5)
   have o19 := (o13.no k5)
   have lm20 := Q5.top
   have lm21 := Q5.top
   have lm22 := Q5.top
   refine R_lo (lo_call (by kernel_rfl) rfl (cer_init b5_0 q nn A_d (fullB l (32 * ((q + 1) + 2))) c_d U R Y X [] _ Q5.bs Q5.le.2 ⟨by rw [hd]; simp [List.append_assoc], hP12, hU, hR, hY, hX⟩ (Aw.ofOb Q5 (by have := o14.lt; omega)) o17)) rfl ?_
   rintro _ w6 ⟨A_ex, c_ex, A_rx, c_rx, A_px, c_px, L_px, rfl, Q6, R6, S6, hK_px, T6, k6⟩
   have kk6 := kk5.trans k6 (fun i hi => .inr (hi ▸ (Nat.le_trans kk1.size le3)))
   have z23 := k6.size
   have z24 := k6.size
   have z25 := k6.size
   have hl_px := (key_len hK_px).trans (ptK_length ..)
   refine R_pu (pu_move rfl) rfl ?_
   refine R_pu (pu_extract rfl rfl) rfl ?_
   refine R_pu (pu_extract rfl rfl) rfl ?_
   have f26 := (f18.on k6 (Ne.symm ne_b5_0_pa))
   have o27 := (o19.on k6 (Ne.symm ne_b5_0_0))
   have ob28 := (Q5.on k6 (by have := o14.lt; omega))
   refine R_lo (lo_alloc (L := [.int .i64 0, .int .i64 0, .int .u32 0, .slice none (0) (0), .slice none (0) (0), .slice none (0) (0)]) (by kernel_rfl)) rfl ?_
   rintro _ w7 ⟨mx, rfl, N7⟩
   have k7 := N7.kp
   have kk7 := kk6.then_ k7
   have ne_mx_pa := Nat.ne_of_gt (Nat.lt_of_lt_of_le f26.lt N7.le)
   have ne_mx_0 := Nat.ne_of_gt (Nat.lt_of_lt_of_le o27.lt N7.le)
   have ne_mx_b5_0 := Nat.ne_of_gt (Nat.lt_of_lt_of_le T6.lt N7.le)
   have f_mx_7 := N7.bk
   refine R_lo0 (lo_storeRow (C := [.int .i64 ((q + 1 : Nat) : Int), .int .i64 ((nn : Nat) : Int), .int .u32 1, .slice A_ex ((boxE U R 1).length) (c_ex), .slice A_rx ((boxR R (encR [(1, Y)])).length) (c_rx), .slice A_px ((L_px).length) (c_px)]) f_mx_7 (by kernel_rfl) rfl rfl (by intro u hu; simp at hu; rcases hu with rfl | rfl | rfl | rfl | rfl | rfl <;> rfl) rfl) ?_
   rintro _ w8 kf8
   obtain ⟨k8, f_mx_8⟩ := kf8
   replace f_mx_8 : Bk w8 mx ([.int .i64 ((q + 1 : Nat) : Int), .int .i64 ((nn : Nat) : Int), .int .u32 1, .slice A_ex ((boxE U R 1).length) (c_ex), .slice A_rx ((boxR R (encR [(1, Y)])).length) (c_rx), .slice A_px ((L_px).length) (c_px)]) 39 := f_mx_8
   have kk8 := kk7.trans k8 (fun i hi => .inr (hi ▸ (Nat.le_trans kk6.size N7.le)))
   refine R_pu (pu_assign rfl) rfl ?_
   refine R_nil ?_
   refine X_then hK16 ?_
   refine C_seq (fun K29 hK29 => ?_)
   refine C_region ?_
   refine R_pu (pu_move rfl) rfl ?_
   refine R_pu (pu_move rfl) rfl ?_
   refine R_pu (pu_move rfl) rfl ?_
   have f30 := ((f26.no k7).on k8 (Ne.symm ne_mx_pa))
   have o31 := ((o27.no k7).on k8 (Ne.symm ne_mx_0))
   have o32 := ((T6.no k7).on k8 (Ne.symm ne_mx_b5_0))
   have ob33 := ((ob28.keptNo k7).onN k8 ob28 N7.le)
   have ob34 := ((Q6.keptNo k7).onN k8 Q6 N7.le)
   have ob35 := ((R6.keptNo k7).onN k8 R6 N7.le)
   have ob36 := ((S6.keptNo k7).onN k8 S6 N7.le)
   refine R_lo (lo_buildSlice0 (sz := 1) Tryz.underlying22 (by kernel_rfl)) rfl ?_
   rintro _ w9 ⟨e0, rfl, N9⟩
   have k9 := N9.kp
   have kk9 := kk8.then_ k9
   have ne_e0_pa := Nat.ne_of_gt (Nat.lt_of_lt_of_le f30.lt N9.le)
   have ne_e0_mx := Nat.ne_of_gt (Nat.lt_of_lt_of_le f_mx_8.lt N9.le)
   have ne_e0_0 := Nat.ne_of_gt (Nat.lt_of_lt_of_le o31.lt N9.le)
   have ne_e0_b5_0 := Nat.ne_of_gt (Nat.lt_of_lt_of_le o32.lt N9.le)
   have f_e0_9 := N9.bk
   refine R_pu (pu_move rfl) rfl ?_
   have ob37 : Ob w9 w8.heap.size (.slice (some ⟨e0, 0, none⟩) ([] : List Nat).length 0) [] := Ob.low0 (t := 0) f_e0_9 N9.le
   have lm38 := ob33.top
   have lm39 := ob34.top
   have lm40 := ob35.top
   have lm41 := ob36.top
   have z42 := N9.kp.size
   have ob43 := (ob33.keptNo k9)
   refine R_lo (lo_app (X := ([] : List Nat)) (Y := fullB l (32 * ((q + 1) + 2))) ob37 ob37.le.1 rfl rfl rfl ob43.bs (by have hfl := fullB_length l (32 * (q + 1 + 2)); simp only [List.length_append, List.length_nil, hfl]; omega) z42) rfl ?_
   rintro _ w10 ⟨A_10, c_10, rfl, p10⟩
   have k10 := p10.kp
   have kk10 := kk9.trans k10 (fun i hi => .inr (Nat.le_trans (kk8).size hi))
   refine R_pu (pu_move rfl) rfl ?_
   refine R_lo (lo_app (X := ([] : List Nat) ++ (fullB l (32 * ((q + 1) + 2)))) (Y := m) p10.ob p10.ob.le.1 rfl rfl rfl (HM.keptNo kk10) (by have hfl := fullB_length l (32 * (q + 1 + 2)); simp only [List.length_append, List.length_nil, hfl]; omega) (Nat.le_trans z42 k10.size)) rfl ?_
   rintro _ w11 ⟨A_11, c_11, rfl, p11⟩
   have k11 := p11.kp
   have kk11 := kk10.trans k11 (fun i hi => .inr (Nat.le_trans (kk8).size hi))
   have o44 : Tb w11 b5_0 := (((o32.no k9).kept k10 (by have := o32.lt; omega)).kept k11 (by have := o32.lt; omega))
   have f45 : Bk w11 pa ([.int .i64 (ka), .int .i64 (na), .slice A (l.length) (c), .slice A2 (l2.length) (c2)]) 24 := (((f30.no k9).kept k10 (by have := f30.lt; omega)).kept k11 (by have := f30.lt; omega))
   have f46 : Bk w11 mx ([.int .i64 ((q + 1 : Nat) : Int), .int .i64 ((nn : Nat) : Int), .int .u32 1, .slice A_ex ((boxE U R 1).length) (c_ex), .slice A_rx ((boxR R (encR [(1, Y)])).length) (c_rx), .slice A_px ((L_px).length) (c_px)]) 39 := (((f_mx_8.no k9).kept k10 (by have := f_mx_8.lt; omega)).kept k11 (by have := f_mx_8.lt; omega))
   have o47 : Gt w11 := (((o31.no k9).kept k10 (by have := o31.lt; omega)).kept k11 (by have := o31.lt; omega))
   have ob49 := ((ob43.past lm38 k10).past lm38 k11)
   have lm48 := ob49.top
   have ob51 := (((ob34.keptNo k9).past lm39 k10).past lm39 k11)
   have lm50 := ob51.top
   have ob53 := (((ob35.keptNo k9).past lm40 k10).past lm40 k11)
   have lm52 := ob53.top
   have ob55 := (((ob36.keptNo k9).past lm41 k10).past lm41 k11)
   have lm54 := ob55.top
   have lm56 := p11.ob.top
   have lm57 := ob49.top
   have lm58 := ob51.top
   have lm59 := ob53.top
   have lm60 := ob55.top
   have lm61 := p11.ob.top
   have lm62 := ob49.top
   have lm63 := ob51.top
   have lm64 := ob53.top
   have lm65 := ob55.top
   have lm66 := p11.ob.top
   refine R_lo (lo_call (by kernel_rfl) rfl (cer_init b5_0 q nn A_11 ((([] : List Nat) ++ (fullB l (32 * ((q + 1) + 2)))) ++ m) c_11 U R Y X m _ p11.ob.bs p11.ob.le.2 ⟨by rw [hd]; simp [List.append_assoc], hP12, hU, hR, hY, hX⟩ (Aw.ofOb p11.ob (by have := o32.lt; omega)) o44)) rfl ?_
   rintro _ w12 ⟨A_ey, c_ey, A_ry, c_ry, A_py, c_py, L_py, rfl, Q12, R12, S12, hK_py, T12, k12⟩
   have kk12 := kk11.trans k12 (fun i hi => .inr (hi ▸ (Nat.le_trans kk1.size le3)))
   have z67 := k12.size
   have z68 := k12.size
   have z69 := k12.size
   have hl_py := (key_len hK_py).trans (ptK_length ..)
   refine R_pu (pu_move rfl) rfl ?_
   refine R_pu (pu_extract rfl rfl) rfl ?_
   refine R_pu (pu_extract rfl rfl) rfl ?_
   have f70 := (f45.on k12 (Ne.symm ne_b5_0_pa))
   have f71 := (f46.on k12 ne_mx_b5_0)
   have o72 := (o47.on k12 (Ne.symm ne_b5_0_0))
   have ob73 := (ob49.on k12 (by have := o14.lt; omega))
   have ob74 := (ob51.on k12 (by have := o17.lt; omega))
   have ob75 := (ob53.on k12 (by have := o17.lt; omega))
   have ob76 := (ob55.on k12 (by have := o17.lt; omega))
   have ob77 := (p11.ob.on k12 (by have := o32.lt; omega))
   refine R_lo (lo_alloc (L := [.int .i64 0, .int .i64 0, .int .u32 0, .slice none (0) (0), .slice none (0) (0), .slice none (0) (0)]) (by kernel_rfl)) rfl ?_
   rintro _ w13 ⟨my, rfl, N13⟩
   have k13 := N13.kp
   have kk13 := kk12.then_ k13
   have ne_my_pa := Nat.ne_of_gt (Nat.lt_of_lt_of_le f70.lt N13.le)
   have ne_my_mx := Nat.ne_of_gt (Nat.lt_of_lt_of_le f71.lt N13.le)
   have ne_my_0 := Nat.ne_of_gt (Nat.lt_of_lt_of_le o72.lt N13.le)
   have ne_my_b5_0 := Nat.ne_of_gt (Nat.lt_of_lt_of_le T12.lt N13.le)
   have f_my_13 := N13.bk
   refine R_lo0 (lo_storeRow (C := [.int .i64 ((q + 1 : Nat) : Int), .int .i64 ((nn : Nat) : Int), .int .u32 1, .slice A_ey ((boxE U R 1).length) (c_ey), .slice A_ry ((boxR R (encR [(1, Y)])).length) (c_ry), .slice A_py ((L_py).length) (c_py)]) f_my_13 (by kernel_rfl) rfl rfl (by intro u hu; simp at hu; rcases hu with rfl | rfl | rfl | rfl | rfl | rfl <;> rfl) rfl) ?_
   rintro _ w14 kf14
   obtain ⟨k14, f_my_14⟩ := kf14
   replace f_my_14 : Bk w14 my ([.int .i64 ((q + 1 : Nat) : Int), .int .i64 ((nn : Nat) : Int), .int .u32 1, .slice A_ey ((boxE U R 1).length) (c_ey), .slice A_ry ((boxR R (encR [(1, Y)])).length) (c_ry), .slice A_py ((L_py).length) (c_py)]) 39 := f_my_14
   have kk14 := kk13.trans k14 (fun i hi => .inr (hi ▸ (Nat.le_trans kk12.size N13.le)))
   refine R_pu (pu_assign rfl) rfl ?_
   refine R_nil ?_
   refine X_then hK29 ?_
   refine C_seq (fun K78 hK78 => ?_)
   refine C_seq (fun K79 hK79 => ?_)
   refine C_region ?_
   refine R_pu (pu_move rfl) rfl ?_
   refine R_pu (pu_neqnn (by kernel_rfl) rfl) rfl ?_
   refine R_pu (pu_move rfl) rfl ?_
   refine R_gpu rfl rfl (pu_move rfl) rfl ?_
   refine R_gpu rfl rfl (pu_neqnn (by kernel_rfl) rfl) rfl ?_
   refine R_pu (pu_pickf rfl rfl) rfl ?_
   refine R_pu (pu_move rfl) rfl ?_
   refine R_gpu rfl rfl (pu_move rfl) rfl ?_
   refine R_gpu rfl rfl (pu_move rfl) rfl ?_
   refine R_gpu rfl rfl (pu_sub (z := ((q : Nat) : Int)) rfl rfl (by rw [IntKind.wrap_i64]; omega)) rfl ?_
   refine R_gpu rfl rfl (pu_mul (z := ((32 * q : Nat) : Int)) rfl rfl (by rw [IntKind.wrap_i64]; omega)) rfl ?_
   refine R_gpu rfl rfl (pu_add (z := ((96 + (32 * q) : Nat) : Int)) rfl rfl (by rw [IntKind.wrap_i64]; omega)) rfl ?_
   refine R_gpu rfl rfl (pu_false (pu_neq (p := (32 * ((q + 1) + 2)) = (96 + (32 * q))) rfl rfl (by omega)) (by omega)) rfl ?_
   refine R_pu (pu_pickf rfl rfl) rfl ?_
   refine R_pu (pu_move rfl) rfl ?_
   refine R_gpu rfl rfl (pu_fieldAddr (off := 3) (o' := 3) (by kernel_rfl) rfl rfl) rfl ?_
   have f80 := ((f71.no k13).on k14 (Ne.symm ne_my_mx))
   refine R_gpu rfl rfl (pu_loadK f80 (by kernel_rfl) rfl rfl) rfl ?_
   have ob81 := ((ob74.keptNo k13).onN k14 ob74 N13.le)
   refine R_gpu rfl rfl (pu_bstr ob81.bs Tryz.underlying22 Tryz.underlying5 Tryz.underlying9 rfl rfl) rfl ?_
   refine R_gpu rfl rfl (pu_fieldAddr (off := 3) (o' := 3) (by kernel_rfl) rfl rfl) rfl ?_
   refine R_gpu rfl rfl (pu_loadK f_my_14 (by kernel_rfl) rfl rfl) rfl ?_
   have ob82 := ((Q12.keptNo k13).onN k14 Q12 N13.le)
   refine R_gpu rfl rfl (pu_bstr ob82.bs Tryz.underlying22 Tryz.underlying5 Tryz.underlying9 rfl rfl) rfl ?_
   refine R_gpu rfl rfl (pu_false (pu_neqs (p := (boxE U R 1) = (boxE U R 1)) rfl rfl (bstr_inj (ob81.bs).byte (ob82.bs).byte)) (fun h => h rfl)) rfl ?_
   refine R_pu (pu_pickf rfl rfl) rfl ?_
   refine R_pu (pu_move rfl) rfl ?_
   refine R_gpu rfl rfl (pu_fieldAddr (off := 4) (o' := 4) (by kernel_rfl) rfl rfl) rfl ?_
   refine R_gpu rfl rfl (pu_loadK f80 (by kernel_rfl) rfl rfl) rfl ?_
   have ob83 := ((ob75.keptNo k13).onN k14 ob75 N13.le)
   refine R_gpu rfl rfl (pu_bstr ob83.bs Tryz.underlying22 Tryz.underlying5 Tryz.underlying9 rfl rfl) rfl ?_
   refine R_gpu rfl rfl (pu_fieldAddr (off := 4) (o' := 4) (by kernel_rfl) rfl rfl) rfl ?_
   refine R_gpu rfl rfl (pu_loadK f_my_14 (by kernel_rfl) rfl rfl) rfl ?_
   have ob84 := ((R12.keptNo k13).onN k14 R12 N13.le)
   refine R_gpu rfl rfl (pu_bstr ob84.bs Tryz.underlying22 Tryz.underlying5 Tryz.underlying9 rfl rfl) rfl ?_
   refine R_gpu rfl rfl (pu_false (pu_neqs (p := (boxR R (encR [(1, Y)])) = (boxR R (encR [(1, Y)]))) rfl rfl (bstr_inj (ob83.bs).byte (ob84.bs).byte)) (fun h => h rfl)) rfl ?_
   refine R_pu (pu_pickf rfl rfl) rfl ?_
   refine R_pu (pu_move rfl) rfl ?_
   refine R_gpu rfl rfl (pu_fieldAddr (off := 5) (o' := 5) (by kernel_rfl) rfl rfl) rfl ?_
   refine R_gpu rfl rfl (pu_loadK f80 (by kernel_rfl) rfl rfl) rfl ?_
   refine R_gpu rfl rfl (pu_len Tryz.underlying37 rfl) rfl ?_
   refine R_gpu rfl rfl (pu_move rfl) rfl ?_
   refine R_gpu rfl rfl (pu_false (pu_neq (p := ((L_px).length) = nn) rfl rfl (by omega)) (fun h => h hl_px)) rfl ?_
   refine R_pu (pu_pickf rfl rfl) rfl ?_
   refine R_pu (pu_move rfl) rfl ?_
   refine R_gpu rfl rfl (pu_fieldAddr (off := 5) (o' := 5) (by kernel_rfl) rfl rfl) rfl ?_
   refine R_gpu rfl rfl (pu_loadK f_my_14 (by kernel_rfl) rfl rfl) rfl ?_
   refine R_gpu rfl rfl (pu_len Tryz.underlying37 rfl) rfl ?_
   refine R_gpu rfl rfl (pu_move rfl) rfl ?_
   refine R_gpu rfl rfl (pu_false (pu_neq (p := ((L_py).length) = nn) rfl rfl (by omega)) (fun h => h hl_py)) rfl ?_
   refine R_pu (pu_pickf rfl rfl) rfl ?_
   refine R_nil ?_
   refine X_then hK79 ?_
   refine C_false rfl ?_
   refine C_skip ?_
   refine X_then hK78 ?_
   refine C_seq (fun K85 hK85 => ?_)
   have hop := opens_own hK_px (by omega) (by omega) hU hX bU bX
   refine C_region ?_
   refine R_pu (pu_move rfl) rfl ?_
   refine R_pu (pu_loadRow (len := 6) f80 (by kernel_rfl) (by kernel_rfl) rfl rfl) rfl ?_
   have ob86 := ((ob76.keptNo k13).onN k14 ob76 N13.le)
   have o87 := ((T12.no k13).on k14 (Ne.symm ne_my_b5_0))
   have f88 := ((f70.no k13).on k14 (Ne.symm ne_my_pa))
   have o89 := ((o72.no k13).on k14 (Ne.symm ne_my_0))
   have ob91 := ((ob73.keptNo k13).onN k14 ob73 N13.le)
   have lm90 := ob91.top
   have lm92 := ob81.top
   have lm93 := ob83.top
   have lm94 := ob86.top
   have ob96 := ((ob77.keptNo k13).onN k14 ob77 N13.le)
   have lm95 := ob96.top
   have lm97 := ob82.top
   have lm98 := ob84.top
   have ob100 := ((S12.keptNo k13).onN k14 S12 N13.le)
   have lm99 := ob100.top
   have lm101 := ob91.top
   have lm102 := ob81.top
   have lm103 := ob83.top
   have lm104 := ob86.top
   have lm105 := ob96.top
   have lm106 := ob82.top
   have lm107 := ob84.top
   have lm108 := ob100.top
   refine R_lo (lo_call (by kernel_rfl) rfl (cer_open b5_0 q nn 1 A_ex (boxE U R 1) c_ex A_rx (boxR R (encR [(1, Y)])) c_rx A_px L_px c_px U R ([(1, Y)]) _ ob81.bs ob81.le.2 ob83.bs ob83.le.2 ob86.ss ⟨hPY, ⟨by omega, ob86.le.2, by omega⟩, (by decide), (by decide), hop.1, hop.2, rfl, hR, rfl, may_one, ok_one bY⟩ (Aw.ofOb ob81 (by have := o17.lt; omega)) (Aw.ofOb ob83 (by have := o17.lt; omega)) (ob86.aw (by have := o17.lt; omega)) o87)) rfl ?_
   rintro _ w15 ⟨A_ro, c_ro, A_rn, c_rn, rfl, Q15, R15, T15, k15⟩
   have kk15 := kk14.trans k15 (fun i hi => .inr (hi ▸ (Nat.le_trans kk1.size le3)))
   have z109 := k15.size
   have z110 := k15.size
   refine R_pu (pu_move rfl) rfl ?_
   refine R_pu (pu_extract rfl rfl) rfl ?_
   refine R_pu (pu_extract rfl rfl) rfl ?_
   refine R_pu (pu_extract rfl rfl) rfl ?_
   have f111 := (f88.on k15 (Ne.symm ne_b5_0_pa))
   have f112 := (f80.on k15 ne_mx_b5_0)
   have f113 := (f_my_14.on k15 ne_my_b5_0)
   have o114 := (o89.on k15 (Ne.symm ne_b5_0_0))
   have ob115 := (ob91.on k15 (by have := o14.lt; omega))
   have ob116 := (ob81.on k15 (by have := o17.lt; omega))
   have ob117 := (ob83.on k15 (by have := o17.lt; omega))
   have ob118 := (ob86.on k15 (by have := o17.lt; omega))
   have ob119 := (ob96.on k15 (by have := o32.lt; omega))
   have ob120 := (ob82.on k15 (by have := o44.lt; omega))
   have ob121 := (ob84.on k15 (by have := o44.lt; omega))
   have ob122 := (ob100.on k15 (by have := o44.lt; omega))
   refine R_lo (lo_alloc (L := [.slice none (0) (0)]) (by kernel_rfl)) rfl ?_
   rintro _ w16 ⟨mr, rfl, N16⟩
   have k16 := N16.kp
   have kk16 := kk15.then_ k16
   have ne_mr_pa := Nat.ne_of_gt (Nat.lt_of_lt_of_le f111.lt N16.le)
   have ne_mr_mx := Nat.ne_of_gt (Nat.lt_of_lt_of_le f112.lt N16.le)
   have ne_mr_my := Nat.ne_of_gt (Nat.lt_of_lt_of_le f113.lt N16.le)
   have ne_mr_0 := Nat.ne_of_gt (Nat.lt_of_lt_of_le o114.lt N16.le)
   have ne_mr_b5_0 := Nat.ne_of_gt (Nat.lt_of_lt_of_le T15.lt N16.le)
   have f_mr_16 := N16.bk
   refine R_pu (pu_assign rfl) rfl ?_
   refine R_lo0 (lo_storeRow (C := [.slice A_rn (([(1, Y)]).length) (c_rn)]) f_mr_16 (by kernel_rfl) rfl rfl (by intro u hu; simp at hu; rcases hu with rfl <;> rfl) rfl) ?_
   rintro _ w17 kf17
   obtain ⟨k17, f_mr_17⟩ := kf17
   replace f_mr_17 : Bk w17 mr ([.slice A_rn (([(1, Y)]).length) (c_rn)]) 46 := f_mr_17
   have kk17 := kk16.trans k17 (fun i hi => .inr (hi ▸ (Nat.le_trans kk15.size N16.le)))
   refine R_pu (pu_assign rfl) rfl ?_
   refine R_nil ?_
   refine X_then hK85 ?_
   refine C_seq (fun K123 hK123 => ?_)
   obtain ⟨U2, X2, hd2, hU2, hX2⟩ := cut_two (n := q * 32) (show (fullB l (32 * (q + 1))).length = 32 + q * 32 by rw [fullB_length]; omega)
   have bD2 := (fullB_by (32 * (q + 1)) HB.byte).2
   rw [hd2] at bD2
   have bU2 : Bl U2 := fun v hv => bD2 v (by simp [hv]); have bX2 : Bl X2 := fun v hv => bD2 v (by simp [hv])
   have hel : (encR [((1, Y) : Tm)]).length = 35 := by unfold encR; rw [List.length_append, keys_len (ok_one bY)]; rfl
   have hrl : (boxR R (encR [(1, Y)])).length = 63 := by rw [boxR_len, hel]
   have f124 := ((f111.no k16).on k17 (Ne.symm ne_mr_pa))
   have f125 := ((f112.no k16).on k17 (Ne.symm ne_mr_mx))
   have f126 := ((f113.no k16).on k17 (Ne.symm ne_mr_my))
   have o127 := ((o114.no k16).on k17 (Ne.symm ne_mr_0))
   have o128 := ((T15.no k16).on k17 (Ne.symm ne_mr_b5_0))
   have ob129 := ((Q15.keptNo k16).onN k17 Q15 N16.le)
   refine D_begin (fun W => Kp No w W ∧ Bk W pa ([.int .i64 (ka), .int .i64 (na), .slice A (l.length) (c), .slice A2 (l2.length) (c2)]) 24 ∧ Bk W mx ([.int .i64 ((q + 1 : Nat) : Int), .int .i64 ((nn : Nat) : Int), .int .u32 1, .slice A_ex ((boxE U R 1).length) (c_ex), .slice A_rx ((boxR R (encR [(1, Y)])).length) (c_rx), .slice A_px ((L_px).length) (c_px)]) 39 ∧ Bk W my ([.int .i64 ((q + 1 : Nat) : Int), .int .i64 ((nn : Nat) : Int), .int .u32 1, .slice A_ey ((boxE U R 1).length) (c_ey), .slice A_ry ((boxR R (encR [(1, Y)])).length) (c_ry), .slice A_py ((L_py).length) (c_py)]) 39 ∧ Bk W mr ([.slice A_rn (([(1, Y)]).length) (c_rn)]) 46 ∧ Gt W ∧ Tb W b5_0 ∧ Ob W w14.heap.size (.slice A_ro ((R).length) (c_ro)) (R)) 16 rfl (by kernel_rfl) ⟨kk17.drew, f124.draw, f125.draw, f126.draw, f_mr_17.draw, o127.draw, o128.draw, ob129.draw⟩ ?_
   intro w18 k18 _
   have kk18 := kk17.then_ k18
   refine D_take 0 rfl (by kernel_rfl) (by kernel_rfl) (by kernel_rfl) (fun _ _ _ h => h) rfl (fun W hS => pu_move rfl) ?_
   refine D_take 1 rfl (by kernel_rfl) (by kernel_rfl) (by kernel_rfl) (fun _ _ _ h => h) rfl (fun W hS => pu_loadRow (len := 6) hS.2.2.1 (by kernel_rfl) (by kernel_rfl) rfl rfl) ?_
   refine D_take 2 rfl (by kernel_rfl) (by kernel_rfl) (by kernel_rfl) (fun _ _ _ h => h) rfl (fun W hS => pu_move rfl) ?_
   refine D_take 3 rfl (by kernel_rfl) (by kernel_rfl) (by kernel_rfl) (fun _ _ _ h => h) rfl (fun W hS => pu_move rfl) ?_
   refine D_take 4 rfl (by kernel_rfl) (by kernel_rfl) (by kernel_rfl) (fun _ _ _ h => h) rfl (fun W hS => pu_move rfl) ?_
   refine D_take 5 rfl (by kernel_rfl) (by kernel_rfl) (by kernel_rfl) (fun _ _ _ h => h) rfl (fun W hS => pu_fieldAddr (off := 2) (o' := 2) (by kernel_rfl) rfl rfl) ?_
   refine D_take 6 rfl (by kernel_rfl) (by kernel_rfl) (by kernel_rfl) (fun _ _ _ h => h) rfl (fun W hS => pu_loadK hS.2.1 (by kernel_rfl) rfl rfl) ?_
   refine D_take 7 rfl (by kernel_rfl) (by kernel_rfl) (by kernel_rfl) (fun _ _ _ h => h) rfl (fun W hS => pu_move rfl) ?_
   refine D_two 8 13 (by kernel_rfl) ?_ ?_
   · have f130 : Bk w18 pa ([.int .i64 (ka), .int .i64 (na), .slice A (l.length) (c), .slice A2 (l2.length) (c2)]) 24 := (f124.no k18)
     have f131 := (f125.no k18)
     have f132 := (f126.no k18)
     have f133 := (f_mr_17.no k18)
     have o134 := (o127.no k18)
     have o135 := (o128.no k18)
     have ob137 := (((ob115.keptNo k16).onN k17 ob115 N16.le).keptNo k18)
     have lm136 := ob137.top
     have ob139 := (((ob116.keptNo k16).onN k17 ob116 N16.le).keptNo k18)
     have lm138 := ob139.top
     have ob141 := (((ob117.keptNo k16).onN k17 ob117 N16.le).keptNo k18)
     have lm140 := ob141.top
     have ob143 := (((ob118.keptNo k16).onN k17 ob118 N16.le).keptNo k18)
     have lm142 := ob143.top
     have ob145 := (((ob119.keptNo k16).onN k17 ob119 N16.le).keptNo k18)
     have lm144 := ob145.top
     have ob147 := (((ob120.keptNo k16).onN k17 ob120 N16.le).keptNo k18)
     have lm146 := ob147.top
     have ob149 := (((ob121.keptNo k16).onN k17 ob121 N16.le).keptNo k18)
     have lm148 := ob149.top
     have ob151 := (((ob122.keptNo k16).onN k17 ob122 N16.le).keptNo k18)
     have lm150 := ob151.top
     have ob153 := (ob129.keptNo k18)
     have lm152 := ob153.top
     have ob155 := (((R15.keptNo k16).onN k17 R15 N16.le).keptNo k18)
     have lm154 := ob155.top
     refine Nx_lo rfl (lo_call (by kernel_rfl) rfl (cer_full A l c (32 * (q + 1)) _ (HB.keptNo kk18) hc (by omega))) rfl ?_
     rintro _ w19 ⟨A_d2, c_d2, rfl, Q19, k19⟩
     have kk19 := kk18.then_ k19
     have z156 := k19.size
     have f157 := (f130.no k19)
     have f158 := (f131.no k19)
     have f159 := (f132.no k19)
     have f160 := (f133.no k19)
     have o161 := (o134.no k19)
     have o162 := (o135.no k19)
     have ob163 := (ob153.keptNo k19)
     refine ⟨⟨kk19, f157, f158, f159, f160, o161, o162, ob163⟩, ?_⟩
     refine D_two 9 13 (by kernel_rfl) ?_ ?_
     · have ob164 := (ob141.keptNo k19)
       have ob166 := (ob137.keptNo k19)
       have lm165 := ob166.top
       have ob168 := (ob139.keptNo k19)
       have lm167 := ob168.top
       have lm169 := ob164.top
       have ob171 := (ob143.keptNo k19)
       have lm170 := ob171.top
       have ob173 := (ob145.keptNo k19)
       have lm172 := ob173.top
       have ob175 := (ob147.keptNo k19)
       have lm174 := ob175.top
       have ob177 := (ob149.keptNo k19)
       have lm176 := ob177.top
       have ob179 := (ob151.keptNo k19)
       have lm178 := ob179.top
       have lm180 := ob163.top
       have ob182 := (ob155.keptNo k19)
       have lm181 := ob182.top
       have lm183 := Q19.top
       have lm184 := ob166.top
       have lm185 := ob168.top
       have lm186 := ob164.top
       have lm187 := ob171.top
       have lm188 := ob173.top
       have lm189 := ob175.top
       have lm190 := ob177.top
       have lm191 := ob179.top
       have lm192 := ob163.top
       have lm193 := ob182.top
       have lm194 := Q19.top
       have lm195 := ob166.top
       have lm196 := ob168.top
       have lm197 := ob164.top
       have lm198 := ob171.top
       have lm199 := ob173.top
       have lm200 := ob175.top
       have lm201 := ob177.top
       have lm202 := ob179.top
       have lm203 := ob163.top
       have lm204 := ob182.top
       have lm205 := Q19.top
       refine Nx_lo rfl (lo_call (by kernel_rfl) rfl (cer_rekey b5_0 q nn 1 A_ex ((boxE U R 1).length) c_ex A_rx (boxR R (encR [(1, Y)])) c_rx A_px ((L_px).length) c_px A_ro R c_ro q nn A_d2 (fullB l (32 * (q + 1))) c_d2 U2 X2 [] _ ob164.bs ob164.le.2 ob163.bs ob163.le.2 Q19.bs Q19.le.2 ⟨hPY, ⟨by decide, by decide⟩, hP12, hR, by rw [hd2]; simp, hU2, hX2, by omega, by omega⟩ (Aw.ofOb ob164 (by have := o17.lt; omega)) (Aw.ofOb ob163 (by have := o87.lt; omega)) (Aw.ofOb Q19 (by have := o135.lt; omega)) o162)) rfl ?_
       rintro _ w20 ⟨A_ez, c_ez, A_rz, c_rz, A_pz, c_pz, L_pz, rfl, Q20, R20, S20, hK_pz, T20, k20⟩
       have kk20 := kk19.trans k20 (fun i hi => .inr (hi ▸ (Nat.le_trans kk1.size le3)))
       have z206 := k20.size
       have z207 := k20.size
       have z208 := k20.size
       have hl_pz := (key_len hK_pz).trans (ptK_length ..)
       have f209 := (f157.on k20 (Ne.symm ne_b5_0_pa))
       have f210 := (f158.on k20 ne_mx_b5_0)
       have f211 := (f159.on k20 ne_my_b5_0)
       have f212 := (f160.on k20 ne_mr_b5_0)
       have o213 := (o161.on k20 (Ne.symm ne_b5_0_0))
       have ob214 := (ob163.on k20 (by have := o87.lt; omega))
       refine ⟨⟨kk20, f209, f210, f211, f212, o213, T20, ob214⟩, ?_⟩
       refine D_take 10 rfl (by kernel_rfl) (by kernel_rfl) (by kernel_rfl) (fun _ _ _ h => h) rfl (fun W hS => pu_move rfl) ?_
       refine D_take 11 rfl (by kernel_rfl) (by kernel_rfl) (by kernel_rfl) (fun _ _ _ h => h) rfl (fun W hS => pu_extract rfl rfl) ?_
       refine D_take 12 rfl (by kernel_rfl) (by kernel_rfl) (by kernel_rfl) (fun _ _ _ h => h) rfl (fun W hS => pu_extract rfl rfl) ?_
       have ob215 := (ob166.on k20 (by have := o14.lt; omega))
       have ob216 := (ob168.on k20 (by have := o17.lt; omega))
       have ob217 := (ob164.on k20 (by have := o17.lt; omega))
       have ob218 := (ob171.on k20 (by have := o17.lt; omega))
       have ob219 := (ob173.on k20 (by have := o32.lt; omega))
       have ob220 := (ob175.on k20 (by have := o44.lt; omega))
       have ob221 := (ob177.on k20 (by have := o44.lt; omega))
       have ob222 := (ob179.on k20 (by have := o44.lt; omega))
       have ob223 := (ob182.on k20 (by have := o87.lt; omega))
       have ob224 := (Q19.on k20 (by have := o135.lt; omega))
       refine D_one 13 (by kernel_rfl) (Nx_lo rfl (lo_alloc (L := [.int .i64 0, .int .i64 0, .int .u32 0, .slice none (0) (0), .slice none (0) (0), .slice none (0) (0)]) (by kernel_rfl)) rfl ?_)
       rintro _ w21 ⟨mz, rfl, N21⟩
       have k21 := N21.kp
       have kk21 := kk20.then_ k21
       have ne_mz_pa := Nat.ne_of_gt (Nat.lt_of_lt_of_le f209.lt N21.le)
       have ne_mz_mx := Nat.ne_of_gt (Nat.lt_of_lt_of_le f210.lt N21.le)
       have ne_mz_my := Nat.ne_of_gt (Nat.lt_of_lt_of_le f211.lt N21.le)
       have ne_mz_mr := Nat.ne_of_gt (Nat.lt_of_lt_of_le f212.lt N21.le)
       have ne_mz_0 := Nat.ne_of_gt (Nat.lt_of_lt_of_le o213.lt N21.le)
       have ne_mz_b5_0 := Nat.ne_of_gt (Nat.lt_of_lt_of_le T20.lt N21.le)
       have f_mz_21 := N21.bk
       have f225 := (f209.no k21)
       have f226 := (f210.no k21)
       have f227 := (f211.no k21)
       have f228 := (f212.no k21)
       have o229 := (o213.no k21)
       have o230 := (T20.no k21)
       have ob231 := (ob214.keptNo k21)
       refine ⟨⟨kk21, f225, f226, f227, f228, o229, o230, ob231⟩, ?_⟩
       refine D_one 14 (by kernel_rfl) (Nx_lo0 rfl (lo_storeRow (C := [.int .i64 ((q + 1 : Nat) : Int), .int .i64 ((nn : Nat) : Int), .int .u32 2, .slice A_ez ((boxE U2 R 2).length) (c_ez), .slice A_rz ((boxR R (encR [(1, Y)])).length) (c_rz), .slice A_pz ((L_pz).length) (c_pz)]) f_mz_21 (by kernel_rfl) rfl rfl (by intro u hu; simp at hu; rcases hu with rfl | rfl | rfl | rfl | rfl | rfl <;> rfl) rfl) ?_)
       rintro _ w22 kf22
       obtain ⟨k22, f_mz_22⟩ := kf22
       replace f_mz_22 : Bk w22 mz ([.int .i64 ((q + 1 : Nat) : Int), .int .i64 ((nn : Nat) : Int), .int .u32 2, .slice A_ez ((boxE U2 R 2).length) (c_ez), .slice A_rz ((boxR R (encR [(1, Y)])).length) (c_rz), .slice A_pz ((L_pz).length) (c_pz)]) 39 := f_mz_22
       have kk22 := kk21.trans k22 (fun i hi => .inr (hi ▸ (Nat.le_trans kk20.size N21.le)))
       have f232 := (f225.on k22 (Ne.symm ne_mz_pa))
       have f233 := (f226.on k22 (Ne.symm ne_mz_mx))
       have f234 := (f227.on k22 (Ne.symm ne_mz_my))
       have f235 := (f228.on k22 (Ne.symm ne_mz_mr))
       have o236 := (o229.on k22 (Ne.symm ne_mz_0))
       have o237 := (o230.on k22 (Ne.symm ne_mz_b5_0))
       have ob238 := (ob231.onN k22 ob214 N21.le)
       refine ⟨⟨kk22, f232, f233, f234, f235, o236, o237, ob238⟩, ?_⟩
       refine D_take 15 rfl (by kernel_rfl) (by kernel_rfl) (by kernel_rfl) (fun _ _ _ h => h) rfl (fun W hS => pu_assign rfl) ?_
       refine D_done (by kernel_rfl) ?_
       refine X_then hK123 ?_
       refine C_seq (fun K239 hK239 => ?_)
       have hop2 := opens_own hK_pz (by omega) (by omega) hU2 hX2 bU2 bX2
       refine C_region ?_
       refine R_pu (pu_move rfl) rfl ?_
       refine R_pu (pu_loadRow (len := 6) f_mz_22 (by kernel_rfl) (by kernel_rfl) rfl rfl) rfl ?_
       have ob240 := ((Q20.keptNo k21).onN k22 Q20 N21.le)
       have ob241 := ((R20.keptNo k21).onN k22 R20 N21.le)
       have ob242 := ((S20.keptNo k21).onN k22 S20 N21.le)
       have ob244 := ((ob215.keptNo k21).onN k22 ob215 N21.le)
       have lm243 := ob244.top
       have ob246 := ((ob216.keptNo k21).onN k22 ob216 N21.le)
       have lm245 := ob246.top
       have ob248 := ((ob217.keptNo k21).onN k22 ob217 N21.le)
       have lm247 := ob248.top
       have ob250 := ((ob218.keptNo k21).onN k22 ob218 N21.le)
       have lm249 := ob250.top
       have ob252 := ((ob219.keptNo k21).onN k22 ob219 N21.le)
       have lm251 := ob252.top
       have ob254 := ((ob220.keptNo k21).onN k22 ob220 N21.le)
       have lm253 := ob254.top
       have ob256 := ((ob221.keptNo k21).onN k22 ob221 N21.le)
       have lm255 := ob256.top
       have ob258 := ((ob222.keptNo k21).onN k22 ob222 N21.le)
       have lm257 := ob258.top
       have lm259 := ob238.top
       have ob261 := ((ob223.keptNo k21).onN k22 ob223 N21.le)
       have lm260 := ob261.top
       have ob263 := ((ob224.keptNo k21).onN k22 ob224 N21.le)
       have lm262 := ob263.top
       have lm264 := ob240.top
       have lm265 := ob241.top
       have lm266 := ob242.top
       have lm267 := ob244.top
       have lm268 := ob246.top
       have lm269 := ob248.top
       have lm270 := ob250.top
       have lm271 := ob252.top
       have lm272 := ob254.top
       have lm273 := ob256.top
       have lm274 := ob258.top
       have lm275 := ob238.top
       have lm276 := ob261.top
       have lm277 := ob263.top
       have lm278 := ob240.top
       have lm279 := ob241.top
       have lm280 := ob242.top
       refine R_lo (lo_call (by kernel_rfl) rfl (cer_open b5_0 q nn 2 A_ez (boxE U2 R 2) c_ez A_rz (boxR R (encR [(1, Y)])) c_rz A_pz L_pz c_pz U2 R ([(1, Y)]) _ ob240.bs ob240.le.2 ob241.bs ob241.le.2 ob242.ss ⟨hPY, ⟨by omega, ob242.le.2, by omega⟩, (by decide), (by decide), hop2.1, hop2.2, rfl, hR, rfl, may_one, ok_one bY⟩ (Aw.ofOb ob240 (by have := o162.lt; omega)) (Aw.ofOb ob241 (by have := o162.lt; omega)) (ob242.aw (by have := o162.lt; omega)) o237)) rfl ?_
       rintro _ w23 ⟨A_ro2, c_ro2, A_rn2, c_rn2, rfl, Q23, R23, T23, k23⟩
       have kk23 := kk22.trans k23 (fun i hi => .inr (hi ▸ (Nat.le_trans kk1.size le3)))
       have z281 := k23.size
       have z282 := k23.size
       refine R_pu (pu_move rfl) rfl ?_
       refine R_pu (pu_extract rfl rfl) rfl ?_
       refine R_pu (pu_extract rfl rfl) rfl ?_
       refine R_pu (pu_extract rfl rfl) rfl ?_
       have f283 := (f232.on k23 (Ne.symm ne_b5_0_pa))
       have f284 := (f233.on k23 ne_mx_b5_0)
       have f285 := (f234.on k23 ne_my_b5_0)
       have f286 := (f235.on k23 ne_mr_b5_0)
       have f287 := (f_mz_22.on k23 ne_mz_b5_0)
       have o288 := (o236.on k23 (Ne.symm ne_b5_0_0))
       have ob289 := (ob244.on k23 (by have := o14.lt; omega))
       have ob290 := (ob246.on k23 (by have := o17.lt; omega))
       have ob291 := (ob248.on k23 (by have := o17.lt; omega))
       have ob292 := (ob250.on k23 (by have := o17.lt; omega))
       have ob293 := (ob252.on k23 (by have := o32.lt; omega))
       have ob294 := (ob254.on k23 (by have := o44.lt; omega))
       have ob295 := (ob256.on k23 (by have := o44.lt; omega))
       have ob296 := (ob258.on k23 (by have := o44.lt; omega))
       have ob297 := (ob238.on k23 (by have := o87.lt; omega))
       have ob298 := (ob261.on k23 (by have := o87.lt; omega))
       have ob299 := (ob263.on k23 (by have := o135.lt; omega))
       have ob300 := (ob240.on k23 (by have := o162.lt; omega))
       have ob301 := (ob241.on k23 (by have := o162.lt; omega))
       have ob302 := (ob242.on k23 (by have := o162.lt; omega))
       refine R_lo (lo_alloc (L := [.slice none (0) (0)]) (by kernel_rfl)) rfl ?_
       rintro _ w24 ⟨mq, rfl, N24⟩
       have k24 := N24.kp
       have kk24 := kk23.then_ k24
       have ne_mq_pa := Nat.ne_of_gt (Nat.lt_of_lt_of_le f283.lt N24.le)
       have ne_mq_mx := Nat.ne_of_gt (Nat.lt_of_lt_of_le f284.lt N24.le)
       have ne_mq_my := Nat.ne_of_gt (Nat.lt_of_lt_of_le f285.lt N24.le)
       have ne_mq_mr := Nat.ne_of_gt (Nat.lt_of_lt_of_le f286.lt N24.le)
       have ne_mq_mz := Nat.ne_of_gt (Nat.lt_of_lt_of_le f287.lt N24.le)
       have ne_mq_0 := Nat.ne_of_gt (Nat.lt_of_lt_of_le o288.lt N24.le)
       have ne_mq_b5_0 := Nat.ne_of_gt (Nat.lt_of_lt_of_le T23.lt N24.le)
       have f_mq_24 := N24.bk
       refine R_pu (pu_assign rfl) rfl ?_
       refine R_lo0 (lo_storeRow (C := [.slice A_rn2 (([(1, Y)]).length) (c_rn2)]) f_mq_24 (by kernel_rfl) rfl rfl (by intro u hu; simp at hu; rcases hu with rfl <;> rfl) rfl) ?_
       rintro _ w25 kf25
       obtain ⟨k25, f_mq_25⟩ := kf25
       replace f_mq_25 : Bk w25 mq ([.slice A_rn2 (([(1, Y)]).length) (c_rn2)]) 46 := f_mq_25
       have kk25 := kk24.trans k25 (fun i hi => .inr (hi ▸ (Nat.le_trans kk23.size N24.le)))
       refine R_pu (pu_assign rfl) rfl ?_
       refine R_nil ?_
       refine X_then hK239 ?_
       refine C_seq (fun K303 hK303 => ?_)
       refine C_seq (fun K304 hK304 => ?_)
       refine C_region ?_
       refine R_pu (pu_assign rfl) rfl ?_
       refine R_nil ?_
       refine X_then hK304 ?_
       refine C_block ?_
       have f305 := ((f283.no k24).on k25 (Ne.symm ne_mq_pa))
       have f306 := ((f284.no k24).on k25 (Ne.symm ne_mq_mx))
       have f307 := ((f285.no k24).on k25 (Ne.symm ne_mq_my))
       have f308 := ((f287.no k24).on k25 (Ne.symm ne_mq_mz))
       have ob309 := ((ob291.keptNo k24).onN k25 ob291 N24.le)
       have ob310 := ((ob292.keptNo k24).onN k25 ob292 N24.le)
       have ob311 := ((ob296.keptNo k24).onN k25 ob296 N24.le)
       have ob312 := ((ob297.keptNo k24).onN k25 ob297 N24.le)
       have ob313 := ((Q23.keptNo k24).onN k25 Q23 N24.le)
       have ob314 := ((ob301.keptNo k24).onN k25 ob301 N24.le)
       have ob315 := ((ob302.keptNo k24).onN k25 ob302 N24.le)
       have o316 := ((o288.no k24).on k25 (Ne.symm ne_mq_0))
       have o317 := ((T23.no k24).on k25 (Ne.symm ne_mq_b5_0))
       refine C_loop (fun m_ l_ wr => ∃ i : Nat, (m_ = nn - i) ∧ (l_ = [(5, .int .i64 ((q + 1 : Nat) : Int)), (6, .int .i64 ((nn : Nat) : Int)), (9, .int .i64 ((32 * (q + 1) : Nat) : Int)), (11, .pointer (some ⟨mx, 0, none⟩)), (13, .pointer (some ⟨my, 0, none⟩)), (15, .slice A_ro ((R).length) (c_ro)), (17, .nilIface), (18, .pointer (some ⟨mz, 0, none⟩)), (19, .nilIface), (20, .slice A_ro2 ((R).length) (c_ro2)), (22, .nilIface), (23, .int .i64 ((i : Nat) : Int))]) ∧ (i ≤ nn) ∧ (Kp No w wr) ∧ (Bk wr pa ([.int .i64 (ka), .int .i64 (na), .slice A (l.length) (c), .slice A2 (l2.length) (c2)]) 24) ∧ (Bk wr mx ([.int .i64 ((q + 1 : Nat) : Int), .int .i64 ((nn : Nat) : Int), .int .u32 1, .slice A_ex ((boxE U R 1).length) (c_ex), .slice A_rx ((boxR R (encR [(1, Y)])).length) (c_rx), .slice A_px ((L_px).length) (c_px)]) 39) ∧ (Bk wr my ([.int .i64 ((q + 1 : Nat) : Int), .int .i64 ((nn : Nat) : Int), .int .u32 1, .slice A_ey ((boxE U R 1).length) (c_ey), .slice A_ry ((boxR R (encR [(1, Y)])).length) (c_ry), .slice A_py ((L_py).length) (c_py)]) 39) ∧ (Bk wr mz ([.int .i64 ((q + 1 : Nat) : Int), .int .i64 ((nn : Nat) : Int), .int .u32 2, .slice A_ez ((boxE U2 R 2).length) (c_ez), .slice A_rz ((boxR R (encR [(1, Y)])).length) (c_rz), .slice A_pz ((L_pz).length) (c_pz)]) 39) ∧ (Ob wr w5.heap.size (.slice A_rx ((boxR R (encR [(1, Y)])).length) (c_rx)) (boxR R (encR [(1, Y)])) ∧ w5.heap.size ≤ (wr).heap.size) ∧ (Sw 51 w5.heap.size wr w5.heap.size (.slice A_px ((L_px).length) (c_px)) (L_px) ∧ w5.heap.size ≤ (wr).heap.size) ∧ (Sw 51 w11.heap.size wr w11.heap.size (.slice A_py ((L_py).length) (c_py)) (L_py) ∧ w11.heap.size ≤ (wr).heap.size) ∧ (Ob wr w14.heap.size (.slice A_ro ((R).length) (c_ro)) (R) ∧ w14.heap.size ≤ (wr).heap.size) ∧ (Ob wr w22.heap.size (.slice A_ro2 ((R).length) (c_ro2)) (R) ∧ w22.heap.size ≤ (wr).heap.size) ∧ (Ob wr w19.heap.size (.slice A_rz ((boxR R (encR [(1, Y)])).length) (c_rz)) (boxR R (encR [(1, Y)])) ∧ w19.heap.size ≤ (wr).heap.size) ∧ (Sw 51 w19.heap.size wr w19.heap.size (.slice A_pz ((L_pz).length) (c_pz)) (L_pz) ∧ w19.heap.size ≤ (wr).heap.size) ∧ (Gt wr) ∧ (Tb wr b5_0)) (nn - 0) [(5, .int .i64 ((q + 1 : Nat) : Int)), (6, .int .i64 ((nn : Nat) : Int)), (9, .int .i64 ((32 * (q + 1) : Nat) : Int)), (11, .pointer (some ⟨mx, 0, none⟩)), (13, .pointer (some ⟨my, 0, none⟩)), (15, .slice A_ro ((R).length) (c_ro)), (17, .nilIface), (18, .pointer (some ⟨mz, 0, none⟩)), (19, .nilIface), (20, .slice A_ro2 ((R).length) (c_ro2)), (22, .nilIface), (23, .int .i64 0)] (Sub.cons rfl (Sub.cons rfl (Sub.cons rfl (Sub.cons rfl (Sub.cons rfl (Sub.cons rfl (Sub.cons rfl (Sub.cons rfl (Sub.cons rfl (Sub.cons rfl (Sub.cons rfl (Sub.cons rfl (Sub.nil _))))))))))))) ⟨0, rfl, rfl, by omega, kk25, f305, f306, f307, f308, ⟨ob309, (Nat.le_trans (Nat.le_trans (Nat.le_trans (Nat.le_trans (Nat.le_trans (Nat.le_trans (Nat.le_trans (Nat.le_trans (Nat.le_trans (Nat.le_trans (Nat.le_trans (Nat.le_trans (Nat.le_trans (Nat.le_trans (Nat.le_trans (Nat.le_trans (Nat.le_trans (Nat.le_trans (Nat.le_trans z24 k7.size) k8.size) k9.size) k10.size) k11.size) k12.size) k13.size) k14.size) k15.size) k16.size) k17.size) k18.size) k19.size) k20.size) k21.size) k22.size) k23.size) k24.size) k25.size)⟩, ⟨ob310, (Nat.le_trans (Nat.le_trans (Nat.le_trans (Nat.le_trans (Nat.le_trans (Nat.le_trans (Nat.le_trans (Nat.le_trans (Nat.le_trans (Nat.le_trans (Nat.le_trans (Nat.le_trans (Nat.le_trans (Nat.le_trans (Nat.le_trans (Nat.le_trans (Nat.le_trans (Nat.le_trans (Nat.le_trans z25 k7.size) k8.size) k9.size) k10.size) k11.size) k12.size) k13.size) k14.size) k15.size) k16.size) k17.size) k18.size) k19.size) k20.size) k21.size) k22.size) k23.size) k24.size) k25.size)⟩, ⟨ob311, (Nat.le_trans (Nat.le_trans (Nat.le_trans (Nat.le_trans (Nat.le_trans (Nat.le_trans (Nat.le_trans (Nat.le_trans (Nat.le_trans (Nat.le_trans (Nat.le_trans (Nat.le_trans (Nat.le_trans z69 k13.size) k14.size) k15.size) k16.size) k17.size) k18.size) k19.size) k20.size) k21.size) k22.size) k23.size) k24.size) k25.size)⟩, ⟨ob312, (Nat.le_trans (Nat.le_trans (Nat.le_trans (Nat.le_trans (Nat.le_trans (Nat.le_trans (Nat.le_trans (Nat.le_trans (Nat.le_trans (Nat.le_trans z109 k16.size) k17.size) k18.size) k19.size) k20.size) k21.size) k22.size) k23.size) k24.size) k25.size)⟩, ⟨ob313, (Nat.le_trans (Nat.le_trans z281 k24.size) k25.size)⟩, ⟨ob314, (Nat.le_trans (Nat.le_trans (Nat.le_trans (Nat.le_trans (Nat.le_trans z207 k21.size) k22.size) k23.size) k24.size) k25.size)⟩, ⟨ob315, (Nat.le_trans (Nat.le_trans (Nat.le_trans (Nat.le_trans (Nat.le_trans z208 k21.size) k22.size) k23.size) k24.size) k25.size)⟩, o316, o317⟩ ?_
       rintro _ _ w26 ⟨i, rfl, rfl, hi, kk26, f_pa_26, f_mx_26, f_my_26, f_mz_26, rx_26, px_26, py_26, ro_26, ro2_26, rz_26, pz_26, G_26, T_b5_0_26⟩
       refine C_seq (fun K318 hK318 => ?_)
       refine C_seq (fun K319 hK319 => ?_)
       refine C_region ?_
       refine R_pu (pu_move rfl) rfl ?_
       refine R_pu (pu_move rfl) rfl ?_
       refine R_pu (pu_lss (p := i < nn) rfl rfl (by omega)) rfl ?_
       by_cases g16_3 : i < nn
       · refine R_pu (pu_true (pu_move rfl) g16_3) rfl ?_
         refine R_gpu rfl rfl (pu_move rfl) rfl ?_
         refine R_gpu rfl rfl (pu_eqlnn (by kernel_rfl) rfl) rfl ?_
         refine R_pu (pu_pickt rfl rfl) rfl ?_
         refine R_pu (pu_move rfl) rfl ?_
         refine R_gpu rfl rfl (pu_move rfl) rfl ?_
         refine R_gpu rfl rfl (pu_fieldAddr (off := 5) (o' := 5) (by kernel_rfl) rfl rfl) rfl ?_
         refine R_gpu rfl rfl (pu_loadK f_mz_26 (by kernel_rfl) rfl rfl) rfl ?_
         refine R_gpu rfl rfl (pu_len Tryz.underlying37 rfl) rfl ?_
         refine R_gpu rfl rfl (pu_true (pu_lss (p := i < ((L_pz).length)) rfl rfl (by omega)) (by omega)) rfl ?_
         refine R_pu (pu_pickt rfl rfl) rfl ?_
         refine R_nil ?_
         refine X_then hK319 ?_
         refine C_true rfl ?_
         refine C_skip ?_
         refine X_then hK318 ?_
         refine C_seq (fun K320 hK320 => ?_)
         refine C_block ?_
         refine C_seq (fun K321 hK321 => ?_)
         refine D_begin (fun W => Kp No w W ∧ Bk W pa ([.int .i64 (ka), .int .i64 (na), .slice A (l.length) (c), .slice A2 (l2.length) (c2)]) 24 ∧ Bk W mx ([.int .i64 ((q + 1 : Nat) : Int), .int .i64 ((nn : Nat) : Int), .int .u32 1, .slice A_ex ((boxE U R 1).length) (c_ex), .slice A_rx ((boxR R (encR [(1, Y)])).length) (c_rx), .slice A_px ((L_px).length) (c_px)]) 39 ∧ Bk W my ([.int .i64 ((q + 1 : Nat) : Int), .int .i64 ((nn : Nat) : Int), .int .u32 1, .slice A_ey ((boxE U R 1).length) (c_ey), .slice A_ry ((boxR R (encR [(1, Y)])).length) (c_ry), .slice A_py ((L_py).length) (c_py)]) 39 ∧ Bk W mz ([.int .i64 ((q + 1 : Nat) : Int), .int .i64 ((nn : Nat) : Int), .int .u32 2, .slice A_ez ((boxE U2 R 2).length) (c_ez), .slice A_rz ((boxR R (encR [(1, Y)])).length) (c_rz), .slice A_pz ((L_pz).length) (c_pz)]) 39 ∧ Gt W ∧ Tb W b5_0 ∧ Sw 51 w5.heap.size W w5.heap.size (.slice A_px ((L_px).length) (c_px)) (L_px) ∧ Sw 51 w11.heap.size W w11.heap.size (.slice A_py ((L_py).length) (c_py)) (L_py) ∧ Sw 51 w19.heap.size W w19.heap.size (.slice A_pz ((L_pz).length) (c_pz)) (L_pz)) 33 rfl (by kernel_rfl) ⟨kk26.drew, f_pa_26.draw, f_mx_26.draw, f_my_26.draw, f_mz_26.draw, G_26.draw, T_b5_0_26.draw, px_26.1.draw, py_26.1.draw, pz_26.1.draw⟩ ?_
         intro w27 k27 _
         have kk27 := kk26.then_ k27
         refine D_take 0 rfl (by kernel_rfl) (by kernel_rfl) (by kernel_rfl) (fun _ _ _ h => h) rfl (fun W hS => pu_fieldAddr (off := 5) (o' := 5) (by kernel_rfl) rfl rfl) ?_
         refine D_take 1 rfl (by kernel_rfl) (by kernel_rfl) (by kernel_rfl) (fun _ _ _ h => h) rfl (fun W hS => pu_loadK hS.2.2.1 (by kernel_rfl) rfl rfl) ?_
         refine D_take 2 rfl (by kernel_rfl) (by kernel_rfl) (by kernel_rfl) (fun _ _ _ h => h) rfl (fun W hS => pu_move rfl) ?_
         have ob322 := (px_26.1.keptNo k27)
         obtain ⟨s1, e_s1⟩ : ∃ q_, (L_px)[i]? = some q_ := ⟨_, List.getElem?_eq_getElem (by first | omega | (simp; done) | (simp; omega))⟩
         have ok_s1 := ob322.ss.get e_s1
         have od_s1 := ob322.od e_s1
         have bi_s1 : s1.ix < 256 := ok_s1.ix
         refine D_take 3 rfl (by kernel_rfl) (by kernel_rfl) (by kernel_rfl) (fun _ _ _ h => h) rfl (fun W hS => pu_indexAddrH hS.2.2.2.2.2.2.2.1.ss Tryz.underlying37 (by kernel_rfl) rfl rfl rfl rfl e_s1) ?_
         refine D_take 4 rfl (by kernel_rfl) (by kernel_rfl) (by kernel_rfl) (fun _ _ _ h => h) rfl (fun W hS => pu_fieldAddrH (off := 2) hS.2.2.2.2.2.2.2.1.ss e_s1 (by kernel_rfl) rfl) ?_
         refine D_take 5 rfl (by kernel_rfl) (by kernel_rfl) (by kernel_rfl) (fun _ _ _ h => h) rfl (fun W hS => pu_loadH hS.2.2.2.2.2.2.2.1.ss e_s1 (by kernel_rfl) rfl rfl) ?_
         refine D_take 6 rfl (by kernel_rfl) (by kernel_rfl) (by kernel_rfl) (fun _ _ _ h => h) rfl (fun W hS => pu_bstr (hS.2.2.2.2.2.2.2.1.ss.get e_s1).bs Tryz.underlying22 Tryz.underlying5 Tryz.underlying9 rfl rfl) ?_
         refine D_take 7 rfl (by kernel_rfl) (by kernel_rfl) (by kernel_rfl) (fun _ _ _ h => h) rfl (fun W hS => pu_fieldAddr (off := 5) (o' := 5) (by kernel_rfl) rfl rfl) ?_
         refine D_take 8 rfl (by kernel_rfl) (by kernel_rfl) (by kernel_rfl) (fun _ _ _ h => h) rfl (fun W hS => pu_loadK hS.2.2.2.1 (by kernel_rfl) rfl rfl) ?_
         refine D_take 9 rfl (by kernel_rfl) (by kernel_rfl) (by kernel_rfl) (fun _ _ _ h => h) rfl (fun W hS => pu_move rfl) ?_
         have ob323 := (py_26.1.keptNo k27)
         obtain ⟨s2, e_s2⟩ : ∃ q_, (L_py)[i]? = some q_ := ⟨_, List.getElem?_eq_getElem (by first | omega | (simp; done) | (simp; omega))⟩
         have ok_s2 := ob323.ss.get e_s2
         have od_s2 := ob323.od e_s2
         have bi_s2 : s2.ix < 256 := ok_s2.ix
         refine D_take 10 rfl (by kernel_rfl) (by kernel_rfl) (by kernel_rfl) (fun _ _ _ h => h) rfl (fun W hS => pu_indexAddrH hS.2.2.2.2.2.2.2.2.1.ss Tryz.underlying37 (by kernel_rfl) rfl rfl rfl rfl e_s2) ?_
         refine D_take 11 rfl (by kernel_rfl) (by kernel_rfl) (by kernel_rfl) (fun _ _ _ h => h) rfl (fun W hS => pu_fieldAddrH (off := 2) hS.2.2.2.2.2.2.2.2.1.ss e_s2 (by kernel_rfl) rfl) ?_
         refine D_take 12 rfl (by kernel_rfl) (by kernel_rfl) (by kernel_rfl) (fun _ _ _ h => h) rfl (fun W hS => pu_loadH hS.2.2.2.2.2.2.2.2.1.ss e_s2 (by kernel_rfl) rfl rfl) ?_
         refine D_take 13 rfl (by kernel_rfl) (by kernel_rfl) (by kernel_rfl) (fun _ _ _ h => h) rfl (fun W hS => pu_bstr (hS.2.2.2.2.2.2.2.2.1.ss.get e_s2).bs Tryz.underlying22 Tryz.underlying5 Tryz.underlying9 rfl rfl) ?_
         have hkx := key_at hK_px e_s1 (ptK_get (show i < nn by omega)); have hky := key_at hK_py e_s2 (ptK_get (show i < nn by omega))
         refine D_take 14 rfl (by kernel_rfl) (by kernel_rfl) (by kernel_rfl) (fun _ _ _ h => h) rfl (fun W hS => pu_false (pu_neqs (p := s1.X = s2.X) rfl rfl (bstr_inj ((hS.2.2.2.2.2.2.2.1.ss.get e_s1).bs).byte ((hS.2.2.2.2.2.2.2.2.1.ss.get e_s2).bs).byte)) (fun h => h (hkx.2.2.trans hky.2.2.symm))) ?_
         refine D_take 15 rfl (by kernel_rfl) (by kernel_rfl) (by kernel_rfl) (fun _ _ _ h => h) rfl (fun W hS => pu_move rfl) ?_
         refine D_gtake 16 rfl rfl rfl (by kernel_rfl) (by kernel_rfl) (by kernel_rfl) (fun _ _ _ h => h) rfl (fun W hS => pu_fieldAddr (off := 5) (o' := 5) (by kernel_rfl) rfl rfl) ?_
         refine D_gtake 17 rfl rfl rfl (by kernel_rfl) (by kernel_rfl) (by kernel_rfl) (fun _ _ _ h => h) rfl (fun W hS => pu_loadK hS.2.2.2.2.1 (by kernel_rfl) rfl rfl) ?_
         refine D_gtake 18 rfl rfl rfl (by kernel_rfl) (by kernel_rfl) (by kernel_rfl) (fun _ _ _ h => h) rfl (fun W hS => pu_move rfl) ?_
         have ob324 := (pz_26.1.keptNo k27)
         obtain ⟨s3, e_s3⟩ : ∃ q_, (L_pz)[i]? = some q_ := ⟨_, List.getElem?_eq_getElem (by first | omega | (simp; done) | (simp; omega))⟩
         have ok_s3 := ob324.ss.get e_s3
         have od_s3 := ob324.od e_s3
         have bi_s3 : s3.ix < 256 := ok_s3.ix
         refine D_gtake 19 rfl rfl rfl (by kernel_rfl) (by kernel_rfl) (by kernel_rfl) (fun _ _ _ h => h) rfl (fun W hS => pu_indexAddrH hS.2.2.2.2.2.2.2.2.2.ss Tryz.underlying37 (by kernel_rfl) rfl rfl rfl rfl e_s3) ?_
         refine D_gtake 20 rfl rfl rfl (by kernel_rfl) (by kernel_rfl) (by kernel_rfl) (fun _ _ _ h => h) rfl (fun W hS => pu_fieldAddrH (off := 1) hS.2.2.2.2.2.2.2.2.2.ss e_s3 (by kernel_rfl) rfl) ?_
         refine D_gtake 21 rfl rfl rfl (by kernel_rfl) (by kernel_rfl) (by kernel_rfl) (fun _ _ _ h => h) rfl (fun W hS => pu_loadH hS.2.2.2.2.2.2.2.2.2.ss e_s3 (by kernel_rfl) rfl rfl) ?_
         refine D_gtake 22 rfl rfl rfl (by kernel_rfl) (by kernel_rfl) (by kernel_rfl) (fun _ _ _ h => h) rfl (fun W hS => pu_false (pu_neq (p := s3.gen = 2) rfl rfl (by omega)) (fun h => h (part_of hK_pz (List.mem_of_getElem? e_s3)).1)) ?_
         refine D_take 23 rfl (by kernel_rfl) (by kernel_rfl) (by kernel_rfl) (fun _ _ _ h => h) rfl (fun W hS => pu_pickf rfl rfl) ?_
         refine D_take 24 rfl (by kernel_rfl) (by kernel_rfl) (by kernel_rfl) (fun _ _ _ h => h) rfl (fun W hS => pu_move rfl) ?_
         refine D_gtake 25 rfl rfl rfl (by kernel_rfl) (by kernel_rfl) (by kernel_rfl) (fun _ _ _ h => h) rfl (fun W hS => pu_fieldAddr (off := 5) (o' := 5) (by kernel_rfl) rfl rfl) ?_
         refine D_gtake 26 rfl rfl rfl (by kernel_rfl) (by kernel_rfl) (by kernel_rfl) (fun _ _ _ h => h) rfl (fun W hS => pu_loadK hS.2.2.1 (by kernel_rfl) rfl rfl) ?_
         refine D_gtake 27 rfl rfl rfl (by kernel_rfl) (by kernel_rfl) (by kernel_rfl) (fun _ _ _ h => h) rfl (fun W hS => pu_move rfl) ?_
         refine D_gtake 28 rfl rfl rfl (by kernel_rfl) (by kernel_rfl) (by kernel_rfl) (fun _ _ _ h => h) rfl (fun W hS => pu_indexAddrH hS.2.2.2.2.2.2.2.1.ss Tryz.underlying37 (by kernel_rfl) rfl rfl rfl rfl e_s1) ?_
         refine D_gtake 29 rfl rfl rfl (by kernel_rfl) (by kernel_rfl) (by kernel_rfl) (fun _ _ _ h => h) rfl (fun W hS => pu_fieldAddrH (off := 1) hS.2.2.2.2.2.2.2.1.ss e_s1 (by kernel_rfl) rfl) ?_
         refine D_gtake 30 rfl rfl rfl (by kernel_rfl) (by kernel_rfl) (by kernel_rfl) (fun _ _ _ h => h) rfl (fun W hS => pu_loadH hS.2.2.2.2.2.2.2.1.ss e_s1 (by kernel_rfl) rfl rfl) ?_
         refine D_gtake 31 rfl rfl rfl (by kernel_rfl) (by kernel_rfl) (by kernel_rfl) (fun _ _ _ h => h) rfl (fun W hS => pu_false (pu_neq (p := s1.gen = 1) rfl rfl (by omega)) (fun h => h (part_of hK_px (List.mem_of_getElem? e_s1)).1)) ?_
         refine D_take 32 rfl (by kernel_rfl) (by kernel_rfl) (by kernel_rfl) (fun _ _ _ h => h) rfl (fun W hS => pu_pickf rfl rfl) ?_
         refine D_done (by kernel_rfl) ?_
         refine X_then hK321 ?_
         refine C_false rfl ?_
         refine C_skip ?_
         refine X_in_normal ?_
         refine X_then hK320 ?_
         refine C_region ?_
         refine R_pu (pu_move rfl) rfl ?_
         refine R_pu (pu_add (z := ((i + 1 : Nat) : Int)) rfl rfl (by rw [IntKind.wrap_i64]; omega)) rfl ?_
         refine R_pu (pu_assign rfl) rfl ?_
         refine R_nil ?_
         have f325 := (f_pa_26.no k27)
         have f326 := (f_mx_26.no k27)
         have f327 := (f_my_26.no k27)
         have f328 := (f_mz_26.no k27)
         have ob329 := (rx_26.1.keptNo k27)
         have ob330 := (ro_26.1.keptNo k27)
         have ob331 := (ro2_26.1.keptNo k27)
         have ob332 := (rz_26.1.keptNo k27)
         have o333 := (G_26.no k27)
         have o334 := (T_b5_0_26.no k27)
         refine X_round (nn - (i + 1)) [(5, .int .i64 ((q + 1 : Nat) : Int)), (6, .int .i64 ((nn : Nat) : Int)), (9, .int .i64 ((32 * (q + 1) : Nat) : Int)), (11, .pointer (some ⟨mx, 0, none⟩)), (13, .pointer (some ⟨my, 0, none⟩)), (15, .slice A_ro ((R).length) (c_ro)), (17, .nilIface), (18, .pointer (some ⟨mz, 0, none⟩)), (19, .nilIface), (20, .slice A_ro2 ((R).length) (c_ro2)), (22, .nilIface), (23, .int .i64 (((i + 1) : Nat) : Int))] (by omega) (Sub.cons rfl (Sub.cons rfl (Sub.cons rfl (Sub.cons rfl (Sub.cons rfl (Sub.cons rfl (Sub.cons rfl (Sub.cons rfl (Sub.cons rfl (Sub.cons rfl (Sub.cons rfl (Sub.cons rfl (Sub.nil _))))))))))))) ⟨i + 1, rfl, rfl, by omega, kk27, f325, f326, f327, f328, ⟨ob329, (Nat.le_trans rx_26.2 k27.size)⟩, ⟨ob322, (Nat.le_trans px_26.2 k27.size)⟩, ⟨ob323, (Nat.le_trans py_26.2 k27.size)⟩, ⟨ob330, (Nat.le_trans ro_26.2 k27.size)⟩, ⟨ob331, (Nat.le_trans ro2_26.2 k27.size)⟩, ⟨ob332, (Nat.le_trans rz_26.2 k27.size)⟩, ⟨ob324, (Nat.le_trans pz_26.2 k27.size)⟩, o333, o334⟩
       · refine R_pu (pu_false (pu_move rfl) g16_3) rfl ?_
         refine R_gno rfl rfl rfl rfl ?_
         refine R_gno rfl rfl rfl rfl ?_
         refine R_pu (pu_pickf rfl rfl) rfl ?_
         refine R_pu (pu_move rfl) rfl ?_
         refine R_gno rfl rfl rfl rfl ?_
         refine R_gno rfl rfl rfl rfl ?_
         refine R_gno rfl rfl rfl rfl ?_
         refine R_gno rfl rfl rfl rfl ?_
         refine R_gno rfl rfl rfl rfl ?_
         refine R_pu (pu_pickf rfl rfl) rfl ?_
         refine R_nil ?_
         refine X_then hK319 ?_
         refine C_false rfl ?_
         refine C_exit ?_
         refine X_then_exit (X_then_exit (X_in_eq ?_))
         refine X_then hK303 ?_
         refine C_seq (fun K335 hK335 => ?_)
         refine C_region ?_
         refine R_pu (pu_move rfl) rfl ?_
         refine R_pu (pu_eqlnn (by kernel_rfl) rfl) rfl ?_
         refine R_pu (pu_move rfl) rfl ?_
         refine R_gpu rfl rfl (pu_move rfl) rfl ?_
         refine R_gpu rfl rfl (pu_eqlnn (by kernel_rfl) rfl) rfl ?_
         refine R_pu (pu_pickt rfl rfl) rfl ?_
         refine R_pu (pu_move rfl) rfl ?_
         refine R_gpu rfl rfl (pu_move rfl) rfl ?_
         refine R_gpu rfl rfl (pu_eqlnn (by kernel_rfl) rfl) rfl ?_
         refine R_pu (pu_pickt rfl rfl) rfl ?_
         refine R_pu (pu_move rfl) rfl ?_
         refine R_gpu rfl rfl (pu_move rfl) rfl ?_
         refine R_gpu rfl rfl (pu_bstr ro2_26.1.bs Tryz.underlying22 Tryz.underlying5 Tryz.underlying9 rfl rfl) rfl ?_
         refine R_gpu rfl rfl (pu_move rfl) rfl ?_
         refine R_gpu rfl rfl (pu_bstr ro_26.1.bs Tryz.underlying22 Tryz.underlying5 Tryz.underlying9 rfl rfl) rfl ?_
         refine R_gpu rfl rfl (pu_true (pu_eqls (p := R = R) rfl rfl (bstr_inj (ro2_26.1.bs).byte (ro_26.1.bs).byte)) rfl) rfl ?_
         refine R_pu (pu_pickt rfl rfl) rfl ?_
         refine R_pu (pu_move rfl) rfl ?_
         refine R_gpu rfl rfl (pu_fieldAddr (off := 4) (o' := 4) (by kernel_rfl) rfl rfl) rfl ?_
         refine R_gpu rfl rfl (pu_loadK f_mz_26 (by kernel_rfl) rfl rfl) rfl ?_
         refine R_gpu rfl rfl (pu_bstr rz_26.1.bs Tryz.underlying22 Tryz.underlying5 Tryz.underlying9 rfl rfl) rfl ?_
         refine R_gpu rfl rfl (pu_fieldAddr (off := 4) (o' := 4) (by kernel_rfl) rfl rfl) rfl ?_
         refine R_gpu rfl rfl (pu_loadK f_mx_26 (by kernel_rfl) rfl rfl) rfl ?_
         refine R_gpu rfl rfl (pu_bstr rx_26.1.bs Tryz.underlying22 Tryz.underlying5 Tryz.underlying9 rfl rfl) rfl ?_
         refine R_gpu rfl rfl (pu_true (pu_eqls (p := (boxR R (encR [(1, Y)])) = (boxR R (encR [(1, Y)]))) rfl rfl (bstr_inj (rz_26.1.bs).byte (rx_26.1.bs).byte)) rfl) rfl ?_
         refine R_pu (pu_pickt rfl rfl) rfl ?_
         refine R_pu (pu_move rfl) rfl ?_
         refine R_gpu rfl rfl (pu_move rfl) rfl ?_
         refine R_gpu rfl rfl (pu_move rfl) rfl ?_
         refine R_gpu rfl rfl (pu_mul (z := ((32 * (q + 1) : Nat) : Int)) rfl rfl (by rw [IntKind.wrap_i64]; omega)) rfl ?_
         refine R_gpu rfl rfl (pu_true (pu_eql (p := (32 * (q + 1)) = (32 * (q + 1))) rfl rfl (by omega)) rfl) rfl ?_
         refine R_pu (pu_pickt rfl rfl) rfl ?_
         refine R_pu (pu_move rfl) rfl ?_
         refine R_glo rfl rfl (lo_call (by kernel_rfl) rfl (sure36 _ G_26)) rfl ?_
         rintro _ w28 ⟨rfl, k28⟩
         have kk28 := kk26.then_ k28
         refine R_pu (pu_pickt rfl rfl) rfl ?_
         refine R_pu (pu_assign rfl) rfl ?_
         refine R_nil ?_
         refine X_then hK335 ?_
         refine C_ret ?_
         exact X_ret1 (.inl rfl) rfl rfl ⟨rfl, kk28⟩
     · have ob336 := (ob137.keptNo k19)
       have ob337 := (ob139.keptNo k19)
       have ob338 := (ob141.keptNo k19)
       have ob339 := (ob143.keptNo k19)
       have ob340 := (ob145.keptNo k19)
       have ob341 := (ob147.keptNo k19)
       have ob342 := (ob149.keptNo k19)
       have ob343 := (ob151.keptNo k19)
       have ob344 := (ob155.keptNo k19)
       refine Nx_lo rfl (lo_alloc (L := [.int .i64 0, .int .i64 0, .int .u32 0, .slice none (0) (0), .slice none (0) (0), .slice none (0) (0)]) (by kernel_rfl)) rfl ?_
       rintro _ w29 ⟨mz, rfl, N29⟩
       have k29 := N29.kp
       have kk29 := kk19.then_ k29
       have ne_mz_pa := Nat.ne_of_gt (Nat.lt_of_lt_of_le f157.lt N29.le)
       have ne_mz_mx := Nat.ne_of_gt (Nat.lt_of_lt_of_le f158.lt N29.le)
       have ne_mz_my := Nat.ne_of_gt (Nat.lt_of_lt_of_le f159.lt N29.le)
       have ne_mz_mr := Nat.ne_of_gt (Nat.lt_of_lt_of_le f160.lt N29.le)
       have ne_mz_0 := Nat.ne_of_gt (Nat.lt_of_lt_of_le o161.lt N29.le)
       have ne_mz_b5_0 := Nat.ne_of_gt (Nat.lt_of_lt_of_le o162.lt N29.le)
       have f_mz_29 := N29.bk
       have f345 := (f157.no k29)
       have f346 := (f158.no k29)
       have f347 := (f159.no k29)
       have f348 := (f160.no k29)
       have o349 := (o161.no k29)
       have o350 := (o162.no k29)
       have ob351 := (ob163.keptNo k29)
       refine ⟨⟨kk29, f345, f346, f347, f348, o349, o350, ob351⟩, ?_⟩
       have ob352 := (ob338.keptNo k29)
       have ob353 := (Q19.keptNo k29)
       have ob355 := (ob336.keptNo k29)
       have lm354 := ob355.top
       have ob357 := (ob337.keptNo k29)
       have lm356 := ob357.top
       have lm358 := ob352.top
       have ob360 := (ob339.keptNo k29)
       have lm359 := ob360.top
       have ob362 := (ob340.keptNo k29)
       have lm361 := ob362.top
       have ob364 := (ob341.keptNo k29)
       have lm363 := ob364.top
       have ob366 := (ob342.keptNo k29)
       have lm365 := ob366.top
       have ob368 := (ob343.keptNo k29)
       have lm367 := ob368.top
       have lm369 := ob351.top
       have ob371 := (ob344.keptNo k29)
       have lm370 := ob371.top
       have lm372 := ob353.top
       have lm373 := ob355.top
       have lm374 := ob357.top
       have lm375 := ob352.top
       have lm376 := ob360.top
       have lm377 := ob362.top
       have lm378 := ob364.top
       have lm379 := ob366.top
       have lm380 := ob368.top
       have lm381 := ob351.top
       have lm382 := ob371.top
       have lm383 := ob353.top
       have lm384 := ob355.top
       have lm385 := ob357.top
       have lm386 := ob352.top
       have lm387 := ob360.top
       have lm388 := ob362.top
       have lm389 := ob364.top
       have lm390 := ob366.top
       have lm391 := ob368.top
       have lm392 := ob351.top
       have lm393 := ob371.top
       have lm394 := ob353.top
       refine D_one 9 (by kernel_rfl) (Nx_lo rfl (lo_call (by kernel_rfl) rfl (cer_rekey b5_0 q nn 1 A_ex ((boxE U R 1).length) c_ex A_rx (boxR R (encR [(1, Y)])) c_rx A_px ((L_px).length) c_px A_ro R c_ro q nn A_d2 (fullB l (32 * (q + 1))) c_d2 U2 X2 [] _ ob352.bs ob352.le.2 ob351.bs ob351.le.2 ob353.bs ob353.le.2 ⟨hPY, ⟨by decide, by decide⟩, hP12, hR, by rw [hd2]; simp, hU2, hX2, by omega, by omega⟩ (Aw.ofOb ob352 (by have := o17.lt; omega)) (Aw.ofOb ob351 (by have := o87.lt; omega)) (Aw.ofOb ob353 (by have := o135.lt; omega)) o350)) rfl ?_)
       rintro _ w30 ⟨A_ez, c_ez, A_rz, c_rz, A_pz, c_pz, L_pz, rfl, Q30, R30, S30, hK_pz, T30, k30⟩
       have kk30 := kk29.trans k30 (fun i hi => .inr (hi ▸ (Nat.le_trans kk1.size le3)))
       have z395 := k30.size
       have z396 := k30.size
       have z397 := k30.size
       have hl_pz := (key_len hK_pz).trans (ptK_length ..)
       have f398 := (f345.on k30 (Ne.symm ne_b5_0_pa))
       have f399 := (f346.on k30 ne_mx_b5_0)
       have f400 := (f347.on k30 ne_my_b5_0)
       have f401 := (f348.on k30 ne_mr_b5_0)
       have o402 := (o349.on k30 (Ne.symm ne_b5_0_0))
       have ob403 := (ob351.on k30 (by have := o87.lt; omega))
       refine ⟨⟨kk30, f398, f399, f400, f401, o402, T30, ob403⟩, ?_⟩
       refine D_take 10 rfl (by kernel_rfl) (by kernel_rfl) (by kernel_rfl) (fun _ _ _ h => h) rfl (fun W hS => pu_move rfl) ?_
       refine D_take 11 rfl (by kernel_rfl) (by kernel_rfl) (by kernel_rfl) (fun _ _ _ h => h) rfl (fun W hS => pu_extract rfl rfl) ?_
       refine D_take 12 rfl (by kernel_rfl) (by kernel_rfl) (by kernel_rfl) (fun _ _ _ h => h) rfl (fun W hS => pu_extract rfl rfl) ?_
       have f404 := (f_mz_29.on k30 ne_mz_b5_0)
       refine D_one 14 (by kernel_rfl) (Nx_lo0 rfl (lo_storeRow (C := [.int .i64 ((q + 1 : Nat) : Int), .int .i64 ((nn : Nat) : Int), .int .u32 2, .slice A_ez ((boxE U2 R 2).length) (c_ez), .slice A_rz ((boxR R (encR [(1, Y)])).length) (c_rz), .slice A_pz ((L_pz).length) (c_pz)]) f404 (by kernel_rfl) rfl rfl (by intro u hu; simp at hu; rcases hu with rfl | rfl | rfl | rfl | rfl | rfl <;> rfl) rfl) ?_)
       rintro _ w31 kf31
       obtain ⟨k31, f_mz_31⟩ := kf31
       replace f_mz_31 : Bk w31 mz ([.int .i64 ((q + 1 : Nat) : Int), .int .i64 ((nn : Nat) : Int), .int .u32 2, .slice A_ez ((boxE U2 R 2).length) (c_ez), .slice A_rz ((boxR R (encR [(1, Y)])).length) (c_rz), .slice A_pz ((L_pz).length) (c_pz)]) 39 := f_mz_31
       have kk31 := kk30.trans k31 (fun i hi => .inr (hi ▸ (Nat.le_trans kk19.size N29.le)))
       have f405 := (f398.on k31 (Ne.symm ne_mz_pa))
       have f406 := (f399.on k31 (Ne.symm ne_mz_mx))
       have f407 := (f400.on k31 (Ne.symm ne_mz_my))
       have f408 := (f401.on k31 (Ne.symm ne_mz_mr))
       have o409 := (o402.on k31 (Ne.symm ne_mz_0))
       have o410 := (T30.on k31 (Ne.symm ne_mz_b5_0))
       have ob411 := (ob403.onN k31 ob163 N29.le)
       refine ⟨⟨kk31, f405, f406, f407, f408, o409, o410, ob411⟩, ?_⟩
       refine D_take 15 rfl (by kernel_rfl) (by kernel_rfl) (by kernel_rfl) (fun _ _ _ h => h) rfl (fun W hS => pu_assign rfl) ?_
       refine D_done (by kernel_rfl) ?_
       refine X_then hK123 ?_
       refine C_seq (fun K412 hK412 => ?_)
       have hop2 := opens_own hK_pz (by omega) (by omega) hU2 hX2 bU2 bX2
       refine C_region ?_
       refine R_pu (pu_move rfl) rfl ?_
       refine R_pu (pu_loadRow (len := 6) f_mz_31 (by kernel_rfl) (by kernel_rfl) rfl rfl) rfl ?_
       have ob413 := (Q30.on k31 (by have := f_mz_29.lt; omega))
       have ob414 := (R30.on k31 (by have := f_mz_29.lt; omega))
       have ob415 := (S30.on k31 (by have := f_mz_29.lt; omega))
       have ob417 := ((ob355.on k30 (by have := o14.lt; omega)).onN k31 ob336 N29.le)
       have lm416 := ob417.top
       have ob419 := ((ob357.on k30 (by have := o17.lt; omega)).onN k31 ob337 N29.le)
       have lm418 := ob419.top
       have ob421 := ((ob352.on k30 (by have := o17.lt; omega)).onN k31 ob338 N29.le)
       have lm420 := ob421.top
       have ob423 := ((ob360.on k30 (by have := o17.lt; omega)).onN k31 ob339 N29.le)
       have lm422 := ob423.top
       have ob425 := ((ob362.on k30 (by have := o32.lt; omega)).onN k31 ob340 N29.le)
       have lm424 := ob425.top
       have ob427 := ((ob364.on k30 (by have := o44.lt; omega)).onN k31 ob341 N29.le)
       have lm426 := ob427.top
       have ob429 := ((ob366.on k30 (by have := o44.lt; omega)).onN k31 ob342 N29.le)
       have lm428 := ob429.top
       have ob431 := ((ob368.on k30 (by have := o44.lt; omega)).onN k31 ob343 N29.le)
       have lm430 := ob431.top
       have lm432 := ob411.top
       have ob434 := ((ob371.on k30 (by have := o87.lt; omega)).onN k31 ob344 N29.le)
       have lm433 := ob434.top
       have ob436 := ((ob353.on k30 (by have := o135.lt; omega)).onN k31 Q19 N29.le)
       have lm435 := ob436.top
       have lm437 := ob413.top
       have lm438 := ob414.top
       have lm439 := ob415.top
       have lm440 := ob417.top
       have lm441 := ob419.top
       have lm442 := ob421.top
       have lm443 := ob423.top
       have lm444 := ob425.top
       have lm445 := ob427.top
       have lm446 := ob429.top
       have lm447 := ob431.top
       have lm448 := ob411.top
       have lm449 := ob434.top
       have lm450 := ob436.top
       have lm451 := ob413.top
       have lm452 := ob414.top
       have lm453 := ob415.top
       refine R_lo (lo_call (by kernel_rfl) rfl (cer_open b5_0 q nn 2 A_ez (boxE U2 R 2) c_ez A_rz (boxR R (encR [(1, Y)])) c_rz A_pz L_pz c_pz U2 R ([(1, Y)]) _ ob413.bs ob413.le.2 ob414.bs ob414.le.2 ob415.ss ⟨hPY, ⟨by omega, ob415.le.2, by omega⟩, (by decide), (by decide), hop2.1, hop2.2, rfl, hR, rfl, may_one, ok_one bY⟩ (Aw.ofOb ob413 (by have := o350.lt; omega)) (Aw.ofOb ob414 (by have := o350.lt; omega)) (ob415.aw (by have := o350.lt; omega)) o410)) rfl ?_
       rintro _ w32 ⟨A_ro2, c_ro2, A_rn2, c_rn2, rfl, Q32, R32, T32, k32⟩
       have kk32 := kk31.trans k32 (fun i hi => .inr (hi ▸ (Nat.le_trans kk1.size le3)))
       have z454 := k32.size
       have z455 := k32.size
       refine R_pu (pu_move rfl) rfl ?_
       refine R_pu (pu_extract rfl rfl) rfl ?_
       refine R_pu (pu_extract rfl rfl) rfl ?_
       refine R_pu (pu_extract rfl rfl) rfl ?_
       have f456 := (f405.on k32 (Ne.symm ne_b5_0_pa))
       have f457 := (f406.on k32 ne_mx_b5_0)
       have f458 := (f407.on k32 ne_my_b5_0)
       have f459 := (f408.on k32 ne_mr_b5_0)
       have f460 := (f_mz_31.on k32 ne_mz_b5_0)
       have o461 := (o409.on k32 (Ne.symm ne_b5_0_0))
       have ob462 := (ob417.on k32 (by have := o14.lt; omega))
       have ob463 := (ob419.on k32 (by have := o17.lt; omega))
       have ob464 := (ob421.on k32 (by have := o17.lt; omega))
       have ob465 := (ob423.on k32 (by have := o17.lt; omega))
       have ob466 := (ob425.on k32 (by have := o32.lt; omega))
       have ob467 := (ob427.on k32 (by have := o44.lt; omega))
       have ob468 := (ob429.on k32 (by have := o44.lt; omega))
       have ob469 := (ob431.on k32 (by have := o44.lt; omega))
       have ob470 := (ob411.on k32 (by have := o87.lt; omega))
       have ob471 := (ob434.on k32 (by have := o87.lt; omega))
       have ob472 := (ob436.on k32 (by have := o135.lt; omega))
       have ob473 := (ob413.on k32 (by have := o350.lt; omega))
       have ob474 := (ob414.on k32 (by have := o350.lt; omega))
       have ob475 := (ob415.on k32 (by have := o350.lt; omega))
       refine R_lo (lo_alloc (L := [.slice none (0) (0)]) (by kernel_rfl)) rfl ?_
       rintro _ w33 ⟨mq, rfl, N33⟩
       have k33 := N33.kp
       have kk33 := kk32.then_ k33
       have ne_mq_pa := Nat.ne_of_gt (Nat.lt_of_lt_of_le f456.lt N33.le)
       have ne_mq_mx := Nat.ne_of_gt (Nat.lt_of_lt_of_le f457.lt N33.le)
       have ne_mq_my := Nat.ne_of_gt (Nat.lt_of_lt_of_le f458.lt N33.le)
       have ne_mq_mr := Nat.ne_of_gt (Nat.lt_of_lt_of_le f459.lt N33.le)
       have ne_mq_mz := Nat.ne_of_gt (Nat.lt_of_lt_of_le f460.lt N33.le)
       have ne_mq_0 := Nat.ne_of_gt (Nat.lt_of_lt_of_le o461.lt N33.le)
       have ne_mq_b5_0 := Nat.ne_of_gt (Nat.lt_of_lt_of_le T32.lt N33.le)
       have f_mq_33 := N33.bk
       refine R_pu (pu_assign rfl) rfl ?_
       refine R_lo0 (lo_storeRow (C := [.slice A_rn2 (([(1, Y)]).length) (c_rn2)]) f_mq_33 (by kernel_rfl) rfl rfl (by intro u hu; simp at hu; rcases hu with rfl <;> rfl) rfl) ?_
       rintro _ w34 kf34
       obtain ⟨k34, f_mq_34⟩ := kf34
       replace f_mq_34 : Bk w34 mq ([.slice A_rn2 (([(1, Y)]).length) (c_rn2)]) 46 := f_mq_34
       have kk34 := kk33.trans k34 (fun i hi => .inr (hi ▸ (Nat.le_trans kk32.size N33.le)))
       refine R_pu (pu_assign rfl) rfl ?_
       refine R_nil ?_
       refine X_then hK412 ?_
       refine C_seq (fun K476 hK476 => ?_)
       refine C_seq (fun K477 hK477 => ?_)
       refine C_region ?_
       refine R_pu (pu_assign rfl) rfl ?_
       refine R_nil ?_
       refine X_then hK477 ?_
       refine C_block ?_
       have f478 := ((f456.no k33).on k34 (Ne.symm ne_mq_pa))
       have f479 := ((f457.no k33).on k34 (Ne.symm ne_mq_mx))
       have f480 := ((f458.no k33).on k34 (Ne.symm ne_mq_my))
       have f481 := ((f460.no k33).on k34 (Ne.symm ne_mq_mz))
       have ob482 := ((ob464.keptNo k33).onN k34 ob464 N33.le)
       have ob483 := ((ob465.keptNo k33).onN k34 ob465 N33.le)
       have ob484 := ((ob469.keptNo k33).onN k34 ob469 N33.le)
       have ob485 := ((ob470.keptNo k33).onN k34 ob470 N33.le)
       have ob486 := ((Q32.keptNo k33).onN k34 Q32 N33.le)
       have ob487 := ((ob474.keptNo k33).onN k34 ob474 N33.le)
       have ob488 := ((ob475.keptNo k33).onN k34 ob475 N33.le)
       have o489 := ((o461.no k33).on k34 (Ne.symm ne_mq_0))
       have o490 := ((T32.no k33).on k34 (Ne.symm ne_mq_b5_0))
       refine C_loop (fun m_ l_ wr => ∃ i : Nat, (m_ = nn - i) ∧ (l_ = [(5, .int .i64 ((q + 1 : Nat) : Int)), (6, .int .i64 ((nn : Nat) : Int)), (9, .int .i64 ((32 * (q + 1) : Nat) : Int)), (11, .pointer (some ⟨mx, 0, none⟩)), (13, .pointer (some ⟨my, 0, none⟩)), (15, .slice A_ro ((R).length) (c_ro)), (17, .nilIface), (18, .pointer (some ⟨mz, 0, none⟩)), (19, .nilIface), (20, .slice A_ro2 ((R).length) (c_ro2)), (22, .nilIface), (23, .int .i64 ((i : Nat) : Int))]) ∧ (i ≤ nn) ∧ (Kp No w wr) ∧ (Bk wr pa ([.int .i64 (ka), .int .i64 (na), .slice A (l.length) (c), .slice A2 (l2.length) (c2)]) 24) ∧ (Bk wr mx ([.int .i64 ((q + 1 : Nat) : Int), .int .i64 ((nn : Nat) : Int), .int .u32 1, .slice A_ex ((boxE U R 1).length) (c_ex), .slice A_rx ((boxR R (encR [(1, Y)])).length) (c_rx), .slice A_px ((L_px).length) (c_px)]) 39) ∧ (Bk wr my ([.int .i64 ((q + 1 : Nat) : Int), .int .i64 ((nn : Nat) : Int), .int .u32 1, .slice A_ey ((boxE U R 1).length) (c_ey), .slice A_ry ((boxR R (encR [(1, Y)])).length) (c_ry), .slice A_py ((L_py).length) (c_py)]) 39) ∧ (Bk wr mz ([.int .i64 ((q + 1 : Nat) : Int), .int .i64 ((nn : Nat) : Int), .int .u32 2, .slice A_ez ((boxE U2 R 2).length) (c_ez), .slice A_rz ((boxR R (encR [(1, Y)])).length) (c_rz), .slice A_pz ((L_pz).length) (c_pz)]) 39) ∧ (Ob wr w5.heap.size (.slice A_rx ((boxR R (encR [(1, Y)])).length) (c_rx)) (boxR R (encR [(1, Y)])) ∧ w5.heap.size ≤ (wr).heap.size) ∧ (Sw 51 w5.heap.size wr w5.heap.size (.slice A_px ((L_px).length) (c_px)) (L_px) ∧ w5.heap.size ≤ (wr).heap.size) ∧ (Sw 51 w11.heap.size wr w11.heap.size (.slice A_py ((L_py).length) (c_py)) (L_py) ∧ w11.heap.size ≤ (wr).heap.size) ∧ (Ob wr w14.heap.size (.slice A_ro ((R).length) (c_ro)) (R) ∧ w14.heap.size ≤ (wr).heap.size) ∧ (Ob wr w31.heap.size (.slice A_ro2 ((R).length) (c_ro2)) (R) ∧ w31.heap.size ≤ (wr).heap.size) ∧ (Ob wr w29.heap.size (.slice A_rz ((boxR R (encR [(1, Y)])).length) (c_rz)) (boxR R (encR [(1, Y)])) ∧ w29.heap.size ≤ (wr).heap.size) ∧ (Sw 51 w29.heap.size wr w29.heap.size (.slice A_pz ((L_pz).length) (c_pz)) (L_pz) ∧ w29.heap.size ≤ (wr).heap.size) ∧ (Gt wr) ∧ (Tb wr b5_0)) (nn - 0) [(5, .int .i64 ((q + 1 : Nat) : Int)), (6, .int .i64 ((nn : Nat) : Int)), (9, .int .i64 ((32 * (q + 1) : Nat) : Int)), (11, .pointer (some ⟨mx, 0, none⟩)), (13, .pointer (some ⟨my, 0, none⟩)), (15, .slice A_ro ((R).length) (c_ro)), (17, .nilIface), (18, .pointer (some ⟨mz, 0, none⟩)), (19, .nilIface), (20, .slice A_ro2 ((R).length) (c_ro2)), (22, .nilIface), (23, .int .i64 0)] (Sub.cons rfl (Sub.cons rfl (Sub.cons rfl (Sub.cons rfl (Sub.cons rfl (Sub.cons rfl (Sub.cons rfl (Sub.cons rfl (Sub.cons rfl (Sub.cons rfl (Sub.cons rfl (Sub.cons rfl (Sub.nil _))))))))))))) ⟨0, rfl, rfl, by omega, kk34, f478, f479, f480, f481, ⟨ob482, (Nat.le_trans (Nat.le_trans (Nat.le_trans (Nat.le_trans (Nat.le_trans (Nat.le_trans (Nat.le_trans (Nat.le_trans (Nat.le_trans (Nat.le_trans (Nat.le_trans (Nat.le_trans (Nat.le_trans (Nat.le_trans (Nat.le_trans (Nat.le_trans (Nat.le_trans (Nat.le_trans (Nat.le_trans z24 k7.size) k8.size) k9.size) k10.size) k11.size) k12.size) k13.size) k14.size) k15.size) k16.size) k17.size) k18.size) k19.size) k29.size) k30.size) k31.size) k32.size) k33.size) k34.size)⟩, ⟨ob483, (Nat.le_trans (Nat.le_trans (Nat.le_trans (Nat.le_trans (Nat.le_trans (Nat.le_trans (Nat.le_trans (Nat.le_trans (Nat.le_trans (Nat.le_trans (Nat.le_trans (Nat.le_trans (Nat.le_trans (Nat.le_trans (Nat.le_trans (Nat.le_trans (Nat.le_trans (Nat.le_trans (Nat.le_trans z25 k7.size) k8.size) k9.size) k10.size) k11.size) k12.size) k13.size) k14.size) k15.size) k16.size) k17.size) k18.size) k19.size) k29.size) k30.size) k31.size) k32.size) k33.size) k34.size)⟩, ⟨ob484, (Nat.le_trans (Nat.le_trans (Nat.le_trans (Nat.le_trans (Nat.le_trans (Nat.le_trans (Nat.le_trans (Nat.le_trans (Nat.le_trans (Nat.le_trans (Nat.le_trans (Nat.le_trans (Nat.le_trans z69 k13.size) k14.size) k15.size) k16.size) k17.size) k18.size) k19.size) k29.size) k30.size) k31.size) k32.size) k33.size) k34.size)⟩, ⟨ob485, (Nat.le_trans (Nat.le_trans (Nat.le_trans (Nat.le_trans (Nat.le_trans (Nat.le_trans (Nat.le_trans (Nat.le_trans (Nat.le_trans (Nat.le_trans z109 k16.size) k17.size) k18.size) k19.size) k29.size) k30.size) k31.size) k32.size) k33.size) k34.size)⟩, ⟨ob486, (Nat.le_trans (Nat.le_trans z454 k33.size) k34.size)⟩, ⟨ob487, (Nat.le_trans (Nat.le_trans (Nat.le_trans (Nat.le_trans z396 k31.size) k32.size) k33.size) k34.size)⟩, ⟨ob488, (Nat.le_trans (Nat.le_trans (Nat.le_trans (Nat.le_trans z397 k31.size) k32.size) k33.size) k34.size)⟩, o489, o490⟩ ?_
       rintro _ _ w35 ⟨i, rfl, rfl, hi, kk35, f_pa_35, f_mx_35, f_my_35, f_mz_35, rx_35, px_35, py_35, ro_35, ro2_35, rz_35, pz_35, G_35, T_b5_0_35⟩
       refine C_seq (fun K491 hK491 => ?_)
       refine C_seq (fun K492 hK492 => ?_)
       refine C_region ?_
       refine R_pu (pu_move rfl) rfl ?_
       refine R_pu (pu_move rfl) rfl ?_
       refine R_pu (pu_lss (p := i < nn) rfl rfl (by omega)) rfl ?_
       by_cases g16_3 : i < nn
       · refine R_pu (pu_true (pu_move rfl) g16_3) rfl ?_
         refine R_gpu rfl rfl (pu_move rfl) rfl ?_
         refine R_gpu rfl rfl (pu_eqlnn (by kernel_rfl) rfl) rfl ?_
         refine R_pu (pu_pickt rfl rfl) rfl ?_
         refine R_pu (pu_move rfl) rfl ?_
         refine R_gpu rfl rfl (pu_move rfl) rfl ?_
         refine R_gpu rfl rfl (pu_fieldAddr (off := 5) (o' := 5) (by kernel_rfl) rfl rfl) rfl ?_
         refine R_gpu rfl rfl (pu_loadK f_mz_35 (by kernel_rfl) rfl rfl) rfl ?_
         refine R_gpu rfl rfl (pu_len Tryz.underlying37 rfl) rfl ?_
         refine R_gpu rfl rfl (pu_true (pu_lss (p := i < ((L_pz).length)) rfl rfl (by omega)) (by omega)) rfl ?_
         refine R_pu (pu_pickt rfl rfl) rfl ?_
         refine R_nil ?_
         refine X_then hK492 ?_
         refine C_true rfl ?_
         refine C_skip ?_
         refine X_then hK491 ?_
         refine C_seq (fun K493 hK493 => ?_)
         refine C_block ?_
         refine C_seq (fun K494 hK494 => ?_)
         refine D_begin (fun W => Kp No w W ∧ Bk W pa ([.int .i64 (ka), .int .i64 (na), .slice A (l.length) (c), .slice A2 (l2.length) (c2)]) 24 ∧ Bk W mx ([.int .i64 ((q + 1 : Nat) : Int), .int .i64 ((nn : Nat) : Int), .int .u32 1, .slice A_ex ((boxE U R 1).length) (c_ex), .slice A_rx ((boxR R (encR [(1, Y)])).length) (c_rx), .slice A_px ((L_px).length) (c_px)]) 39 ∧ Bk W my ([.int .i64 ((q + 1 : Nat) : Int), .int .i64 ((nn : Nat) : Int), .int .u32 1, .slice A_ey ((boxE U R 1).length) (c_ey), .slice A_ry ((boxR R (encR [(1, Y)])).length) (c_ry), .slice A_py ((L_py).length) (c_py)]) 39 ∧ Bk W mz ([.int .i64 ((q + 1 : Nat) : Int), .int .i64 ((nn : Nat) : Int), .int .u32 2, .slice A_ez ((boxE U2 R 2).length) (c_ez), .slice A_rz ((boxR R (encR [(1, Y)])).length) (c_rz), .slice A_pz ((L_pz).length) (c_pz)]) 39 ∧ Gt W ∧ Tb W b5_0 ∧ Sw 51 w5.heap.size W w5.heap.size (.slice A_px ((L_px).length) (c_px)) (L_px) ∧ Sw 51 w11.heap.size W w11.heap.size (.slice A_py ((L_py).length) (c_py)) (L_py) ∧ Sw 51 w29.heap.size W w29.heap.size (.slice A_pz ((L_pz).length) (c_pz)) (L_pz)) 33 rfl (by kernel_rfl) ⟨kk35.drew, f_pa_35.draw, f_mx_35.draw, f_my_35.draw, f_mz_35.draw, G_35.draw, T_b5_0_35.draw, px_35.1.draw, py_35.1.draw, pz_35.1.draw⟩ ?_
         intro w36 k36 _
         have kk36 := kk35.then_ k36
         refine D_take 0 rfl (by kernel_rfl) (by kernel_rfl) (by kernel_rfl) (fun _ _ _ h => h) rfl (fun W hS => pu_fieldAddr (off := 5) (o' := 5) (by kernel_rfl) rfl rfl) ?_
         refine D_take 1 rfl (by kernel_rfl) (by kernel_rfl) (by kernel_rfl) (fun _ _ _ h => h) rfl (fun W hS => pu_loadK hS.2.2.1 (by kernel_rfl) rfl rfl) ?_
         refine D_take 2 rfl (by kernel_rfl) (by kernel_rfl) (by kernel_rfl) (fun _ _ _ h => h) rfl (fun W hS => pu_move rfl) ?_
         have ob495 := (px_35.1.keptNo k36)
         obtain ⟨s1, e_s1⟩ : ∃ q_, (L_px)[i]? = some q_ := ⟨_, List.getElem?_eq_getElem (by first | omega | (simp; done) | (simp; omega))⟩
         have ok_s1 := ob495.ss.get e_s1
         have od_s1 := ob495.od e_s1
         have bi_s1 : s1.ix < 256 := ok_s1.ix
         refine D_take 3 rfl (by kernel_rfl) (by kernel_rfl) (by kernel_rfl) (fun _ _ _ h => h) rfl (fun W hS => pu_indexAddrH hS.2.2.2.2.2.2.2.1.ss Tryz.underlying37 (by kernel_rfl) rfl rfl rfl rfl e_s1) ?_
         refine D_take 4 rfl (by kernel_rfl) (by kernel_rfl) (by kernel_rfl) (fun _ _ _ h => h) rfl (fun W hS => pu_fieldAddrH (off := 2) hS.2.2.2.2.2.2.2.1.ss e_s1 (by kernel_rfl) rfl) ?_
         refine D_take 5 rfl (by kernel_rfl) (by kernel_rfl) (by kernel_rfl) (fun _ _ _ h => h) rfl (fun W hS => pu_loadH hS.2.2.2.2.2.2.2.1.ss e_s1 (by kernel_rfl) rfl rfl) ?_
         refine D_take 6 rfl (by kernel_rfl) (by kernel_rfl) (by kernel_rfl) (fun _ _ _ h => h) rfl (fun W hS => pu_bstr (hS.2.2.2.2.2.2.2.1.ss.get e_s1).bs Tryz.underlying22 Tryz.underlying5 Tryz.underlying9 rfl rfl) ?_
         refine D_take 7 rfl (by kernel_rfl) (by kernel_rfl) (by kernel_rfl) (fun _ _ _ h => h) rfl (fun W hS => pu_fieldAddr (off := 5) (o' := 5) (by kernel_rfl) rfl rfl) ?_
         refine D_take 8 rfl (by kernel_rfl) (by kernel_rfl) (by kernel_rfl) (fun _ _ _ h => h) rfl (fun W hS => pu_loadK hS.2.2.2.1 (by kernel_rfl) rfl rfl) ?_
         refine D_take 9 rfl (by kernel_rfl) (by kernel_rfl) (by kernel_rfl) (fun _ _ _ h => h) rfl (fun W hS => pu_move rfl) ?_
         have ob496 := (py_35.1.keptNo k36)
         obtain ⟨s2, e_s2⟩ : ∃ q_, (L_py)[i]? = some q_ := ⟨_, List.getElem?_eq_getElem (by first | omega | (simp; done) | (simp; omega))⟩
         have ok_s2 := ob496.ss.get e_s2
         have od_s2 := ob496.od e_s2
         have bi_s2 : s2.ix < 256 := ok_s2.ix
         refine D_take 10 rfl (by kernel_rfl) (by kernel_rfl) (by kernel_rfl) (fun _ _ _ h => h) rfl (fun W hS => pu_indexAddrH hS.2.2.2.2.2.2.2.2.1.ss Tryz.underlying37 (by kernel_rfl) rfl rfl rfl rfl e_s2) ?_
         refine D_take 11 rfl (by kernel_rfl) (by kernel_rfl) (by kernel_rfl) (fun _ _ _ h => h) rfl (fun W hS => pu_fieldAddrH (off := 2) hS.2.2.2.2.2.2.2.2.1.ss e_s2 (by kernel_rfl) rfl) ?_
         refine D_take 12 rfl (by kernel_rfl) (by kernel_rfl) (by kernel_rfl) (fun _ _ _ h => h) rfl (fun W hS => pu_loadH hS.2.2.2.2.2.2.2.2.1.ss e_s2 (by kernel_rfl) rfl rfl) ?_
         refine D_take 13 rfl (by kernel_rfl) (by kernel_rfl) (by kernel_rfl) (fun _ _ _ h => h) rfl (fun W hS => pu_bstr (hS.2.2.2.2.2.2.2.2.1.ss.get e_s2).bs Tryz.underlying22 Tryz.underlying5 Tryz.underlying9 rfl rfl) ?_
         have hkx := key_at hK_px e_s1 (ptK_get (show i < nn by omega)); have hky := key_at hK_py e_s2 (ptK_get (show i < nn by omega))
         refine D_take 14 rfl (by kernel_rfl) (by kernel_rfl) (by kernel_rfl) (fun _ _ _ h => h) rfl (fun W hS => pu_false (pu_neqs (p := s1.X = s2.X) rfl rfl (bstr_inj ((hS.2.2.2.2.2.2.2.1.ss.get e_s1).bs).byte ((hS.2.2.2.2.2.2.2.2.1.ss.get e_s2).bs).byte)) (fun h => h (hkx.2.2.trans hky.2.2.symm))) ?_
         refine D_take 15 rfl (by kernel_rfl) (by kernel_rfl) (by kernel_rfl) (fun _ _ _ h => h) rfl (fun W hS => pu_move rfl) ?_
         refine D_gtake 16 rfl rfl rfl (by kernel_rfl) (by kernel_rfl) (by kernel_rfl) (fun _ _ _ h => h) rfl (fun W hS => pu_fieldAddr (off := 5) (o' := 5) (by kernel_rfl) rfl rfl) ?_
         refine D_gtake 17 rfl rfl rfl (by kernel_rfl) (by kernel_rfl) (by kernel_rfl) (fun _ _ _ h => h) rfl (fun W hS => pu_loadK hS.2.2.2.2.1 (by kernel_rfl) rfl rfl) ?_
         refine D_gtake 18 rfl rfl rfl (by kernel_rfl) (by kernel_rfl) (by kernel_rfl) (fun _ _ _ h => h) rfl (fun W hS => pu_move rfl) ?_
         have ob497 := (pz_35.1.keptNo k36)
         obtain ⟨s3, e_s3⟩ : ∃ q_, (L_pz)[i]? = some q_ := ⟨_, List.getElem?_eq_getElem (by first | omega | (simp; done) | (simp; omega))⟩
         have ok_s3 := ob497.ss.get e_s3
         have od_s3 := ob497.od e_s3
         have bi_s3 : s3.ix < 256 := ok_s3.ix
         refine D_gtake 19 rfl rfl rfl (by kernel_rfl) (by kernel_rfl) (by kernel_rfl) (fun _ _ _ h => h) rfl (fun W hS => pu_indexAddrH hS.2.2.2.2.2.2.2.2.2.ss Tryz.underlying37 (by kernel_rfl) rfl rfl rfl rfl e_s3) ?_
         refine D_gtake 20 rfl rfl rfl (by kernel_rfl) (by kernel_rfl) (by kernel_rfl) (fun _ _ _ h => h) rfl (fun W hS => pu_fieldAddrH (off := 1) hS.2.2.2.2.2.2.2.2.2.ss e_s3 (by kernel_rfl) rfl) ?_
         refine D_gtake 21 rfl rfl rfl (by kernel_rfl) (by kernel_rfl) (by kernel_rfl) (fun _ _ _ h => h) rfl (fun W hS => pu_loadH hS.2.2.2.2.2.2.2.2.2.ss e_s3 (by kernel_rfl) rfl rfl) ?_
         refine D_gtake 22 rfl rfl rfl (by kernel_rfl) (by kernel_rfl) (by kernel_rfl) (fun _ _ _ h => h) rfl (fun W hS => pu_false (pu_neq (p := s3.gen = 2) rfl rfl (by omega)) (fun h => h (part_of hK_pz (List.mem_of_getElem? e_s3)).1)) ?_
         refine D_take 23 rfl (by kernel_rfl) (by kernel_rfl) (by kernel_rfl) (fun _ _ _ h => h) rfl (fun W hS => pu_pickf rfl rfl) ?_
         refine D_take 24 rfl (by kernel_rfl) (by kernel_rfl) (by kernel_rfl) (fun _ _ _ h => h) rfl (fun W hS => pu_move rfl) ?_
         refine D_gtake 25 rfl rfl rfl (by kernel_rfl) (by kernel_rfl) (by kernel_rfl) (fun _ _ _ h => h) rfl (fun W hS => pu_fieldAddr (off := 5) (o' := 5) (by kernel_rfl) rfl rfl) ?_
         refine D_gtake 26 rfl rfl rfl (by kernel_rfl) (by kernel_rfl) (by kernel_rfl) (fun _ _ _ h => h) rfl (fun W hS => pu_loadK hS.2.2.1 (by kernel_rfl) rfl rfl) ?_
         refine D_gtake 27 rfl rfl rfl (by kernel_rfl) (by kernel_rfl) (by kernel_rfl) (fun _ _ _ h => h) rfl (fun W hS => pu_move rfl) ?_
         refine D_gtake 28 rfl rfl rfl (by kernel_rfl) (by kernel_rfl) (by kernel_rfl) (fun _ _ _ h => h) rfl (fun W hS => pu_indexAddrH hS.2.2.2.2.2.2.2.1.ss Tryz.underlying37 (by kernel_rfl) rfl rfl rfl rfl e_s1) ?_
         refine D_gtake 29 rfl rfl rfl (by kernel_rfl) (by kernel_rfl) (by kernel_rfl) (fun _ _ _ h => h) rfl (fun W hS => pu_fieldAddrH (off := 1) hS.2.2.2.2.2.2.2.1.ss e_s1 (by kernel_rfl) rfl) ?_
         refine D_gtake 30 rfl rfl rfl (by kernel_rfl) (by kernel_rfl) (by kernel_rfl) (fun _ _ _ h => h) rfl (fun W hS => pu_loadH hS.2.2.2.2.2.2.2.1.ss e_s1 (by kernel_rfl) rfl rfl) ?_
         refine D_gtake 31 rfl rfl rfl (by kernel_rfl) (by kernel_rfl) (by kernel_rfl) (fun _ _ _ h => h) rfl (fun W hS => pu_false (pu_neq (p := s1.gen = 1) rfl rfl (by omega)) (fun h => h (part_of hK_px (List.mem_of_getElem? e_s1)).1)) ?_
         refine D_take 32 rfl (by kernel_rfl) (by kernel_rfl) (by kernel_rfl) (fun _ _ _ h => h) rfl (fun W hS => pu_pickf rfl rfl) ?_
         refine D_done (by kernel_rfl) ?_
         refine X_then hK494 ?_
         refine C_false rfl ?_
         refine C_skip ?_
         refine X_in_normal ?_
         refine X_then hK493 ?_
         refine C_region ?_
         refine R_pu (pu_move rfl) rfl ?_
         refine R_pu (pu_add (z := ((i + 1 : Nat) : Int)) rfl rfl (by rw [IntKind.wrap_i64]; omega)) rfl ?_
         refine R_pu (pu_assign rfl) rfl ?_
         refine R_nil ?_
         have f498 := (f_pa_35.no k36)
         have f499 := (f_mx_35.no k36)
         have f500 := (f_my_35.no k36)
         have f501 := (f_mz_35.no k36)
         have ob502 := (rx_35.1.keptNo k36)
         have ob503 := (ro_35.1.keptNo k36)
         have ob504 := (ro2_35.1.keptNo k36)
         have ob505 := (rz_35.1.keptNo k36)
         have o506 := (G_35.no k36)
         have o507 := (T_b5_0_35.no k36)
         refine X_round (nn - (i + 1)) [(5, .int .i64 ((q + 1 : Nat) : Int)), (6, .int .i64 ((nn : Nat) : Int)), (9, .int .i64 ((32 * (q + 1) : Nat) : Int)), (11, .pointer (some ⟨mx, 0, none⟩)), (13, .pointer (some ⟨my, 0, none⟩)), (15, .slice A_ro ((R).length) (c_ro)), (17, .nilIface), (18, .pointer (some ⟨mz, 0, none⟩)), (19, .nilIface), (20, .slice A_ro2 ((R).length) (c_ro2)), (22, .nilIface), (23, .int .i64 (((i + 1) : Nat) : Int))] (by omega) (Sub.cons rfl (Sub.cons rfl (Sub.cons rfl (Sub.cons rfl (Sub.cons rfl (Sub.cons rfl (Sub.cons rfl (Sub.cons rfl (Sub.cons rfl (Sub.cons rfl (Sub.cons rfl (Sub.cons rfl (Sub.nil _))))))))))))) ⟨i + 1, rfl, rfl, by omega, kk36, f498, f499, f500, f501, ⟨ob502, (Nat.le_trans rx_35.2 k36.size)⟩, ⟨ob495, (Nat.le_trans px_35.2 k36.size)⟩, ⟨ob496, (Nat.le_trans py_35.2 k36.size)⟩, ⟨ob503, (Nat.le_trans ro_35.2 k36.size)⟩, ⟨ob504, (Nat.le_trans ro2_35.2 k36.size)⟩, ⟨ob505, (Nat.le_trans rz_35.2 k36.size)⟩, ⟨ob497, (Nat.le_trans pz_35.2 k36.size)⟩, o506, o507⟩
       · refine R_pu (pu_false (pu_move rfl) g16_3) rfl ?_
         refine R_gno rfl rfl rfl rfl ?_
         refine R_gno rfl rfl rfl rfl ?_
         refine R_pu (pu_pickf rfl rfl) rfl ?_
         refine R_pu (pu_move rfl) rfl ?_
         refine R_gno rfl rfl rfl rfl ?_
         refine R_gno rfl rfl rfl rfl ?_
         refine R_gno rfl rfl rfl rfl ?_
         refine R_gno rfl rfl rfl rfl ?_
         refine R_gno rfl rfl rfl rfl ?_
         refine R_pu (pu_pickf rfl rfl) rfl ?_
         refine R_nil ?_
         refine X_then hK492 ?_
         refine C_false rfl ?_
         refine C_exit ?_
         refine X_then_exit (X_then_exit (X_in_eq ?_))
         refine X_then hK476 ?_
         refine C_seq (fun K508 hK508 => ?_)
         refine C_region ?_
         refine R_pu (pu_move rfl) rfl ?_
         refine R_pu (pu_eqlnn (by kernel_rfl) rfl) rfl ?_
         refine R_pu (pu_move rfl) rfl ?_
         refine R_gpu rfl rfl (pu_move rfl) rfl ?_
         refine R_gpu rfl rfl (pu_eqlnn (by kernel_rfl) rfl) rfl ?_
         refine R_pu (pu_pickt rfl rfl) rfl ?_
         refine R_pu (pu_move rfl) rfl ?_
         refine R_gpu rfl rfl (pu_move rfl) rfl ?_
         refine R_gpu rfl rfl (pu_eqlnn (by kernel_rfl) rfl) rfl ?_
         refine R_pu (pu_pickt rfl rfl) rfl ?_
         refine R_pu (pu_move rfl) rfl ?_
         refine R_gpu rfl rfl (pu_move rfl) rfl ?_
         refine R_gpu rfl rfl (pu_bstr ro2_35.1.bs Tryz.underlying22 Tryz.underlying5 Tryz.underlying9 rfl rfl) rfl ?_
         refine R_gpu rfl rfl (pu_move rfl) rfl ?_
         refine R_gpu rfl rfl (pu_bstr ro_35.1.bs Tryz.underlying22 Tryz.underlying5 Tryz.underlying9 rfl rfl) rfl ?_
         refine R_gpu rfl rfl (pu_true (pu_eqls (p := R = R) rfl rfl (bstr_inj (ro2_35.1.bs).byte (ro_35.1.bs).byte)) rfl) rfl ?_
         refine R_pu (pu_pickt rfl rfl) rfl ?_
         refine R_pu (pu_move rfl) rfl ?_
         refine R_gpu rfl rfl (pu_fieldAddr (off := 4) (o' := 4) (by kernel_rfl) rfl rfl) rfl ?_
         refine R_gpu rfl rfl (pu_loadK f_mz_35 (by kernel_rfl) rfl rfl) rfl ?_
         refine R_gpu rfl rfl (pu_bstr rz_35.1.bs Tryz.underlying22 Tryz.underlying5 Tryz.underlying9 rfl rfl) rfl ?_
         refine R_gpu rfl rfl (pu_fieldAddr (off := 4) (o' := 4) (by kernel_rfl) rfl rfl) rfl ?_
         refine R_gpu rfl rfl (pu_loadK f_mx_35 (by kernel_rfl) rfl rfl) rfl ?_
         refine R_gpu rfl rfl (pu_bstr rx_35.1.bs Tryz.underlying22 Tryz.underlying5 Tryz.underlying9 rfl rfl) rfl ?_
         refine R_gpu rfl rfl (pu_true (pu_eqls (p := (boxR R (encR [(1, Y)])) = (boxR R (encR [(1, Y)]))) rfl rfl (bstr_inj (rz_35.1.bs).byte (rx_35.1.bs).byte)) rfl) rfl ?_
         refine R_pu (pu_pickt rfl rfl) rfl ?_
         refine R_pu (pu_move rfl) rfl ?_
         refine R_gpu rfl rfl (pu_move rfl) rfl ?_
         refine R_gpu rfl rfl (pu_move rfl) rfl ?_
         refine R_gpu rfl rfl (pu_mul (z := ((32 * (q + 1) : Nat) : Int)) rfl rfl (by rw [IntKind.wrap_i64]; omega)) rfl ?_
         refine R_gpu rfl rfl (pu_true (pu_eql (p := (32 * (q + 1)) = (32 * (q + 1))) rfl rfl (by omega)) rfl) rfl ?_
         refine R_pu (pu_pickt rfl rfl) rfl ?_
         refine R_pu (pu_move rfl) rfl ?_
         refine R_glo rfl rfl (lo_call (by kernel_rfl) rfl (sure36 _ G_35)) rfl ?_
         rintro _ w37 ⟨rfl, k37⟩
         have kk37 := kk35.then_ k37
         refine R_pu (pu_pickt rfl rfl) rfl ?_
         refine R_pu (pu_assign rfl) rfl ?_
         refine R_nil ?_
         refine X_then hK508 ?_
         refine C_ret ?_
         exact X_ret1 (.inl rfl) rfl rfl ⟨rfl, kk37⟩
   · have f509 : Bk w18 pa ([.int .i64 (ka), .int .i64 (na), .slice A (l.length) (c), .slice A2 (l2.length) (c2)]) 24 := (f124.no k18)
     have f510 := (f125.no k18)
     have f511 := (f126.no k18)
     have f512 := (f_mr_17.no k18)
     have o513 := (o127.no k18)
     have o514 := (o128.no k18)
     have ob515 := (((ob115.keptNo k16).onN k17 ob115 N16.le).keptNo k18)
     have ob516 := (((ob116.keptNo k16).onN k17 ob116 N16.le).keptNo k18)
     have ob517 := (((ob117.keptNo k16).onN k17 ob117 N16.le).keptNo k18)
     have ob518 := (((ob118.keptNo k16).onN k17 ob118 N16.le).keptNo k18)
     have ob519 := (((ob119.keptNo k16).onN k17 ob119 N16.le).keptNo k18)
     have ob520 := (((ob120.keptNo k16).onN k17 ob120 N16.le).keptNo k18)
     have ob521 := (((ob121.keptNo k16).onN k17 ob121 N16.le).keptNo k18)
     have ob522 := (((ob122.keptNo k16).onN k17 ob122 N16.le).keptNo k18)
     have ob523 := (ob129.keptNo k18)
     have ob524 := (((R15.keptNo k16).onN k17 R15 N16.le).keptNo k18)
     refine Nx_lo rfl (lo_alloc (L := [.int .i64 0, .int .i64 0, .int .u32 0, .slice none (0) (0), .slice none (0) (0), .slice none (0) (0)]) (by kernel_rfl)) rfl ?_
     rintro _ w38 ⟨mz, rfl, N38⟩
     have k38 := N38.kp
     have kk38 := kk18.then_ k38
     have ne_mz_pa := Nat.ne_of_gt (Nat.lt_of_lt_of_le f509.lt N38.le)
     have ne_mz_mx := Nat.ne_of_gt (Nat.lt_of_lt_of_le f510.lt N38.le)
     have ne_mz_my := Nat.ne_of_gt (Nat.lt_of_lt_of_le f511.lt N38.le)
     have ne_mz_mr := Nat.ne_of_gt (Nat.lt_of_lt_of_le f512.lt N38.le)
     have ne_mz_0 := Nat.ne_of_gt (Nat.lt_of_lt_of_le o513.lt N38.le)
     have ne_mz_b5_0 := Nat.ne_of_gt (Nat.lt_of_lt_of_le o514.lt N38.le)
     have f_mz_38 := N38.bk
     have f525 := (f509.no k38)
     have f526 := (f510.no k38)
     have f527 := (f511.no k38)
     have f528 := (f512.no k38)
     have o529 := (o513.no k38)
     have o530 := (o514.no k38)
     have ob531 := (ob523.keptNo k38)
     refine ⟨⟨kk38, f525, f526, f527, f528, o529, o530, ob531⟩, ?_⟩
     have ob533 := (ob515.keptNo k38)
     have lm532 := ob533.top
     have ob535 := (ob516.keptNo k38)
     have lm534 := ob535.top
     have ob537 := (ob517.keptNo k38)
     have lm536 := ob537.top
     have ob539 := (ob518.keptNo k38)
     have lm538 := ob539.top
     have ob541 := (ob519.keptNo k38)
     have lm540 := ob541.top
     have ob543 := (ob520.keptNo k38)
     have lm542 := ob543.top
     have ob545 := (ob521.keptNo k38)
     have lm544 := ob545.top
     have ob547 := (ob522.keptNo k38)
     have lm546 := ob547.top
     have lm548 := ob531.top
     have ob550 := (ob524.keptNo k38)
     have lm549 := ob550.top
     refine D_one 8 (by kernel_rfl) (Nx_lo rfl (lo_call (by kernel_rfl) rfl (cer_full A l c (32 * (q + 1)) _ (HB.keptNo kk38) hc (by omega))) rfl ?_)
     rintro _ w39 ⟨A_d2, c_d2, rfl, Q39, k39⟩
     have kk39 := kk38.then_ k39
     have z551 := k39.size
     have f552 := (f525.no k39)
     have f553 := (f526.no k39)
     have f554 := (f527.no k39)
     have f555 := (f528.no k39)
     have o556 := (o529.no k39)
     have o557 := (o530.no k39)
     have ob558 := (ob531.keptNo k39)
     refine ⟨⟨kk39, f552, f553, f554, f555, o556, o557, ob558⟩, ?_⟩
     have ob559 := (ob537.keptNo k39)
     have f560 := (f_mz_38.no k39)
     have ob562 := (ob533.keptNo k39)
     have lm561 := ob562.top
     have ob564 := (ob535.keptNo k39)
     have lm563 := ob564.top
     have lm565 := ob559.top
     have ob567 := (ob539.keptNo k39)
     have lm566 := ob567.top
     have ob569 := (ob541.keptNo k39)
     have lm568 := ob569.top
     have ob571 := (ob543.keptNo k39)
     have lm570 := ob571.top
     have ob573 := (ob545.keptNo k39)
     have lm572 := ob573.top
     have ob575 := (ob547.keptNo k39)
     have lm574 := ob575.top
     have lm576 := ob558.top
     have ob578 := (ob550.keptNo k39)
     have lm577 := ob578.top
     have lm579 := Q39.top
     have lm580 := ob562.top
     have lm581 := ob564.top
     have lm582 := ob559.top
     have lm583 := ob567.top
     have lm584 := ob569.top
     have lm585 := ob571.top
     have lm586 := ob573.top
     have lm587 := ob575.top
     have lm588 := ob558.top
     have lm589 := ob578.top
     have lm590 := Q39.top
     have lm591 := ob562.top
     have lm592 := ob564.top
     have lm593 := ob559.top
     have lm594 := ob567.top
     have lm595 := ob569.top
     have lm596 := ob571.top
     have lm597 := ob573.top
     have lm598 := ob575.top
     have lm599 := ob558.top
     have lm600 := ob578.top
     have lm601 := Q39.top
     refine D_one 9 (by kernel_rfl) (Nx_lo rfl (lo_call (by kernel_rfl) rfl (cer_rekey b5_0 q nn 1 A_ex ((boxE U R 1).length) c_ex A_rx (boxR R (encR [(1, Y)])) c_rx A_px ((L_px).length) c_px A_ro R c_ro q nn A_d2 (fullB l (32 * (q + 1))) c_d2 U2 X2 [] _ ob559.bs ob559.le.2 ob558.bs ob558.le.2 Q39.bs Q39.le.2 ⟨hPY, ⟨by decide, by decide⟩, hP12, hR, by rw [hd2]; simp, hU2, hX2, by omega, by omega⟩ (Aw.ofOb ob559 (by have := o17.lt; omega)) (Aw.ofOb ob558 (by have := o87.lt; omega)) (Aw.ofOb Q39 (by have := o530.lt; omega)) o557)) rfl ?_)
     rintro _ w40 ⟨A_ez, c_ez, A_rz, c_rz, A_pz, c_pz, L_pz, rfl, Q40, R40, S40, hK_pz, T40, k40⟩
     have kk40 := kk39.trans k40 (fun i hi => .inr (hi ▸ (Nat.le_trans kk1.size le3)))
     have z602 := k40.size
     have z603 := k40.size
     have z604 := k40.size
     have hl_pz := (key_len hK_pz).trans (ptK_length ..)
     have f605 := (f552.on k40 (Ne.symm ne_b5_0_pa))
     have f606 := (f553.on k40 ne_mx_b5_0)
     have f607 := (f554.on k40 ne_my_b5_0)
     have f608 := (f555.on k40 ne_mr_b5_0)
     have o609 := (o556.on k40 (Ne.symm ne_b5_0_0))
     have ob610 := (ob558.on k40 (by have := o87.lt; omega))
     refine ⟨⟨kk40, f605, f606, f607, f608, o609, T40, ob610⟩, ?_⟩
     refine D_take 10 rfl (by kernel_rfl) (by kernel_rfl) (by kernel_rfl) (fun _ _ _ h => h) rfl (fun W hS => pu_move rfl) ?_
     refine D_take 11 rfl (by kernel_rfl) (by kernel_rfl) (by kernel_rfl) (fun _ _ _ h => h) rfl (fun W hS => pu_extract rfl rfl) ?_
     refine D_take 12 rfl (by kernel_rfl) (by kernel_rfl) (by kernel_rfl) (fun _ _ _ h => h) rfl (fun W hS => pu_extract rfl rfl) ?_
     have f611 := (f560.on k40 ne_mz_b5_0)
     refine D_one 14 (by kernel_rfl) (Nx_lo0 rfl (lo_storeRow (C := [.int .i64 ((q + 1 : Nat) : Int), .int .i64 ((nn : Nat) : Int), .int .u32 2, .slice A_ez ((boxE U2 R 2).length) (c_ez), .slice A_rz ((boxR R (encR [(1, Y)])).length) (c_rz), .slice A_pz ((L_pz).length) (c_pz)]) f611 (by kernel_rfl) rfl rfl (by intro u hu; simp at hu; rcases hu with rfl | rfl | rfl | rfl | rfl | rfl <;> rfl) rfl) ?_)
     rintro _ w41 kf41
     obtain ⟨k41, f_mz_41⟩ := kf41
     replace f_mz_41 : Bk w41 mz ([.int .i64 ((q + 1 : Nat) : Int), .int .i64 ((nn : Nat) : Int), .int .u32 2, .slice A_ez ((boxE U2 R 2).length) (c_ez), .slice A_rz ((boxR R (encR [(1, Y)])).length) (c_rz), .slice A_pz ((L_pz).length) (c_pz)]) 39 := f_mz_41
     have kk41 := kk40.trans k41 (fun i hi => .inr (hi ▸ (Nat.le_trans kk18.size N38.le)))
     have f612 := (f605.on k41 (Ne.symm ne_mz_pa))
     have f613 := (f606.on k41 (Ne.symm ne_mz_mx))
     have f614 := (f607.on k41 (Ne.symm ne_mz_my))
     have f615 := (f608.on k41 (Ne.symm ne_mz_mr))
     have o616 := (o609.on k41 (Ne.symm ne_mz_0))
     have o617 := (T40.on k41 (Ne.symm ne_mz_b5_0))
     have ob618 := (ob610.onN k41 ob523 N38.le)
     refine ⟨⟨kk41, f612, f613, f614, f615, o616, o617, ob618⟩, ?_⟩
     refine D_take 15 rfl (by kernel_rfl) (by kernel_rfl) (by kernel_rfl) (fun _ _ _ h => h) rfl (fun W hS => pu_assign rfl) ?_
     refine D_done (by kernel_rfl) ?_
     refine X_then hK123 ?_
     refine C_seq (fun K619 hK619 => ?_)
     have hop2 := opens_own hK_pz (by omega) (by omega) hU2 hX2 bU2 bX2
     refine C_region ?_
     refine R_pu (pu_move rfl) rfl ?_
     refine R_pu (pu_loadRow (len := 6) f_mz_41 (by kernel_rfl) (by kernel_rfl) rfl rfl) rfl ?_
     have ob620 := (Q40.on k41 (by have := f560.lt; omega))
     have ob621 := (R40.on k41 (by have := f560.lt; omega))
     have ob622 := (S40.on k41 (by have := f560.lt; omega))
     have ob624 := ((ob562.on k40 (by have := o14.lt; omega)).onN k41 ob515 N38.le)
     have lm623 := ob624.top
     have ob626 := ((ob564.on k40 (by have := o17.lt; omega)).onN k41 ob516 N38.le)
     have lm625 := ob626.top
     have ob628 := ((ob559.on k40 (by have := o17.lt; omega)).onN k41 ob517 N38.le)
     have lm627 := ob628.top
     have ob630 := ((ob567.on k40 (by have := o17.lt; omega)).onN k41 ob518 N38.le)
     have lm629 := ob630.top
     have ob632 := ((ob569.on k40 (by have := o32.lt; omega)).onN k41 ob519 N38.le)
     have lm631 := ob632.top
     have ob634 := ((ob571.on k40 (by have := o44.lt; omega)).onN k41 ob520 N38.le)
     have lm633 := ob634.top
     have ob636 := ((ob573.on k40 (by have := o44.lt; omega)).onN k41 ob521 N38.le)
     have lm635 := ob636.top
     have ob638 := ((ob575.on k40 (by have := o44.lt; omega)).onN k41 ob522 N38.le)
     have lm637 := ob638.top
     have lm639 := ob618.top
     have ob641 := ((ob578.on k40 (by have := o87.lt; omega)).onN k41 ob524 N38.le)
     have lm640 := ob641.top
     have ob643 := ((Q39.on k40 (by have := o530.lt; omega)).on k41 (by have := f_mz_38.lt; omega))
     have lm642 := ob643.top
     have lm644 := ob620.top
     have lm645 := ob621.top
     have lm646 := ob622.top
     have lm647 := ob624.top
     have lm648 := ob626.top
     have lm649 := ob628.top
     have lm650 := ob630.top
     have lm651 := ob632.top
     have lm652 := ob634.top
     have lm653 := ob636.top
     have lm654 := ob638.top
     have lm655 := ob618.top
     have lm656 := ob641.top
     have lm657 := ob643.top
     have lm658 := ob620.top
     have lm659 := ob621.top
     have lm660 := ob622.top
     refine R_lo (lo_call (by kernel_rfl) rfl (cer_open b5_0 q nn 2 A_ez (boxE U2 R 2) c_ez A_rz (boxR R (encR [(1, Y)])) c_rz A_pz L_pz c_pz U2 R ([(1, Y)]) _ ob620.bs ob620.le.2 ob621.bs ob621.le.2 ob622.ss ⟨hPY, ⟨by omega, ob622.le.2, by omega⟩, (by decide), (by decide), hop2.1, hop2.2, rfl, hR, rfl, may_one, ok_one bY⟩ (Aw.ofOb ob620 (by have := o557.lt; omega)) (Aw.ofOb ob621 (by have := o557.lt; omega)) (ob622.aw (by have := o557.lt; omega)) o617)) rfl ?_
     rintro _ w42 ⟨A_ro2, c_ro2, A_rn2, c_rn2, rfl, Q42, R42, T42, k42⟩
     have kk42 := kk41.trans k42 (fun i hi => .inr (hi ▸ (Nat.le_trans kk1.size le3)))
     have z661 := k42.size
     have z662 := k42.size
     refine R_pu (pu_move rfl) rfl ?_
     refine R_pu (pu_extract rfl rfl) rfl ?_
     refine R_pu (pu_extract rfl rfl) rfl ?_
     refine R_pu (pu_extract rfl rfl) rfl ?_
     have f663 := (f612.on k42 (Ne.symm ne_b5_0_pa))
     have f664 := (f613.on k42 ne_mx_b5_0)
     have f665 := (f614.on k42 ne_my_b5_0)
     have f666 := (f615.on k42 ne_mr_b5_0)
     have f667 := (f_mz_41.on k42 ne_mz_b5_0)
     have o668 := (o616.on k42 (Ne.symm ne_b5_0_0))
     have ob669 := (ob624.on k42 (by have := o14.lt; omega))
     have ob670 := (ob626.on k42 (by have := o17.lt; omega))
     have ob671 := (ob628.on k42 (by have := o17.lt; omega))
     have ob672 := (ob630.on k42 (by have := o17.lt; omega))
     have ob673 := (ob632.on k42 (by have := o32.lt; omega))
     have ob674 := (ob634.on k42 (by have := o44.lt; omega))
     have ob675 := (ob636.on k42 (by have := o44.lt; omega))
     have ob676 := (ob638.on k42 (by have := o44.lt; omega))
     have ob677 := (ob618.on k42 (by have := o87.lt; omega))
     have ob678 := (ob641.on k42 (by have := o87.lt; omega))
     have ob679 := (ob643.on k42 (by have := o530.lt; omega))
     have ob680 := (ob620.on k42 (by have := o557.lt; omega))
     have ob681 := (ob621.on k42 (by have := o557.lt; omega))
     have ob682 := (ob622.on k42 (by have := o557.lt; omega))
     refine R_lo (lo_alloc (L := [.slice none (0) (0)]) (by kernel_rfl)) rfl ?_
     rintro _ w43 ⟨mq, rfl, N43⟩
     have k43 := N43.kp
     have kk43 := kk42.then_ k43
     have ne_mq_pa := Nat.ne_of_gt (Nat.lt_of_lt_of_le f663.lt N43.le)
     have ne_mq_mx := Nat.ne_of_gt (Nat.lt_of_lt_of_le f664.lt N43.le)
     have ne_mq_my := Nat.ne_of_gt (Nat.lt_of_lt_of_le f665.lt N43.le)
     have ne_mq_mr := Nat.ne_of_gt (Nat.lt_of_lt_of_le f666.lt N43.le)
     have ne_mq_mz := Nat.ne_of_gt (Nat.lt_of_lt_of_le f667.lt N43.le)
     have ne_mq_0 := Nat.ne_of_gt (Nat.lt_of_lt_of_le o668.lt N43.le)
     have ne_mq_b5_0 := Nat.ne_of_gt (Nat.lt_of_lt_of_le T42.lt N43.le)
     have f_mq_43 := N43.bk
     refine R_pu (pu_assign rfl) rfl ?_
     refine R_lo0 (lo_storeRow (C := [.slice A_rn2 (([(1, Y)]).length) (c_rn2)]) f_mq_43 (by kernel_rfl) rfl rfl (by intro u hu; simp at hu; rcases hu with rfl <;> rfl) rfl) ?_
     rintro _ w44 kf44
     obtain ⟨k44, f_mq_44⟩ := kf44
     replace f_mq_44 : Bk w44 mq ([.slice A_rn2 (([(1, Y)]).length) (c_rn2)]) 46 := f_mq_44
     have kk44 := kk43.trans k44 (fun i hi => .inr (hi ▸ (Nat.le_trans kk42.size N43.le)))
     refine R_pu (pu_assign rfl) rfl ?_
     refine R_nil ?_
     refine X_then hK619 ?_
     refine C_seq (fun K683 hK683 => ?_)
     refine C_seq (fun K684 hK684 => ?_)
     refine C_region ?_
     refine R_pu (pu_assign rfl) rfl ?_
     refine R_nil ?_
     refine X_then hK684 ?_
     refine C_block ?_
     have f685 := ((f663.no k43).on k44 (Ne.symm ne_mq_pa))
     have f686 := ((f664.no k43).on k44 (Ne.symm ne_mq_mx))
     have f687 := ((f665.no k43).on k44 (Ne.symm ne_mq_my))
     have f688 := ((f667.no k43).on k44 (Ne.symm ne_mq_mz))
     have ob689 := ((ob671.keptNo k43).onN k44 ob671 N43.le)
     have ob690 := ((ob672.keptNo k43).onN k44 ob672 N43.le)
     have ob691 := ((ob676.keptNo k43).onN k44 ob676 N43.le)
     have ob692 := ((ob677.keptNo k43).onN k44 ob677 N43.le)
     have ob693 := ((Q42.keptNo k43).onN k44 Q42 N43.le)
     have ob694 := ((ob681.keptNo k43).onN k44 ob681 N43.le)
     have ob695 := ((ob682.keptNo k43).onN k44 ob682 N43.le)
     have o696 := ((o668.no k43).on k44 (Ne.symm ne_mq_0))
     have o697 := ((T42.no k43).on k44 (Ne.symm ne_mq_b5_0))
     refine C_loop (fun m_ l_ wr => ∃ i : Nat, (m_ = nn - i) ∧ (l_ = [(5, .int .i64 ((q + 1 : Nat) : Int)), (6, .int .i64 ((nn : Nat) : Int)), (9, .int .i64 ((32 * (q + 1) : Nat) : Int)), (11, .pointer (some ⟨mx, 0, none⟩)), (13, .pointer (some ⟨my, 0, none⟩)), (15, .slice A_ro ((R).length) (c_ro)), (17, .nilIface), (18, .pointer (some ⟨mz, 0, none⟩)), (19, .nilIface), (20, .slice A_ro2 ((R).length) (c_ro2)), (22, .nilIface), (23, .int .i64 ((i : Nat) : Int))]) ∧ (i ≤ nn) ∧ (Kp No w wr) ∧ (Bk wr pa ([.int .i64 (ka), .int .i64 (na), .slice A (l.length) (c), .slice A2 (l2.length) (c2)]) 24) ∧ (Bk wr mx ([.int .i64 ((q + 1 : Nat) : Int), .int .i64 ((nn : Nat) : Int), .int .u32 1, .slice A_ex ((boxE U R 1).length) (c_ex), .slice A_rx ((boxR R (encR [(1, Y)])).length) (c_rx), .slice A_px ((L_px).length) (c_px)]) 39) ∧ (Bk wr my ([.int .i64 ((q + 1 : Nat) : Int), .int .i64 ((nn : Nat) : Int), .int .u32 1, .slice A_ey ((boxE U R 1).length) (c_ey), .slice A_ry ((boxR R (encR [(1, Y)])).length) (c_ry), .slice A_py ((L_py).length) (c_py)]) 39) ∧ (Bk wr mz ([.int .i64 ((q + 1 : Nat) : Int), .int .i64 ((nn : Nat) : Int), .int .u32 2, .slice A_ez ((boxE U2 R 2).length) (c_ez), .slice A_rz ((boxR R (encR [(1, Y)])).length) (c_rz), .slice A_pz ((L_pz).length) (c_pz)]) 39) ∧ (Ob wr w5.heap.size (.slice A_rx ((boxR R (encR [(1, Y)])).length) (c_rx)) (boxR R (encR [(1, Y)])) ∧ w5.heap.size ≤ (wr).heap.size) ∧ (Sw 51 w5.heap.size wr w5.heap.size (.slice A_px ((L_px).length) (c_px)) (L_px) ∧ w5.heap.size ≤ (wr).heap.size) ∧ (Sw 51 w11.heap.size wr w11.heap.size (.slice A_py ((L_py).length) (c_py)) (L_py) ∧ w11.heap.size ≤ (wr).heap.size) ∧ (Ob wr w14.heap.size (.slice A_ro ((R).length) (c_ro)) (R) ∧ w14.heap.size ≤ (wr).heap.size) ∧ (Ob wr w41.heap.size (.slice A_ro2 ((R).length) (c_ro2)) (R) ∧ w41.heap.size ≤ (wr).heap.size) ∧ (Ob wr w39.heap.size (.slice A_rz ((boxR R (encR [(1, Y)])).length) (c_rz)) (boxR R (encR [(1, Y)])) ∧ w39.heap.size ≤ (wr).heap.size) ∧ (Sw 51 w39.heap.size wr w39.heap.size (.slice A_pz ((L_pz).length) (c_pz)) (L_pz) ∧ w39.heap.size ≤ (wr).heap.size) ∧ (Gt wr) ∧ (Tb wr b5_0)) (nn - 0) [(5, .int .i64 ((q + 1 : Nat) : Int)), (6, .int .i64 ((nn : Nat) : Int)), (9, .int .i64 ((32 * (q + 1) : Nat) : Int)), (11, .pointer (some ⟨mx, 0, none⟩)), (13, .pointer (some ⟨my, 0, none⟩)), (15, .slice A_ro ((R).length) (c_ro)), (17, .nilIface), (18, .pointer (some ⟨mz, 0, none⟩)), (19, .nilIface), (20, .slice A_ro2 ((R).length) (c_ro2)), (22, .nilIface), (23, .int .i64 0)] (Sub.cons rfl (Sub.cons rfl (Sub.cons rfl (Sub.cons rfl (Sub.cons rfl (Sub.cons rfl (Sub.cons rfl (Sub.cons rfl (Sub.cons rfl (Sub.cons rfl (Sub.cons rfl (Sub.cons rfl (Sub.nil _))))))))))))) ⟨0, rfl, rfl, by omega, kk44, f685, f686, f687, f688, ⟨ob689, (Nat.le_trans (Nat.le_trans (Nat.le_trans (Nat.le_trans (Nat.le_trans (Nat.le_trans (Nat.le_trans (Nat.le_trans (Nat.le_trans (Nat.le_trans (Nat.le_trans (Nat.le_trans (Nat.le_trans (Nat.le_trans (Nat.le_trans (Nat.le_trans (Nat.le_trans (Nat.le_trans (Nat.le_trans z24 k7.size) k8.size) k9.size) k10.size) k11.size) k12.size) k13.size) k14.size) k15.size) k16.size) k17.size) k18.size) k38.size) k39.size) k40.size) k41.size) k42.size) k43.size) k44.size)⟩, ⟨ob690, (Nat.le_trans (Nat.le_trans (Nat.le_trans (Nat.le_trans (Nat.le_trans (Nat.le_trans (Nat.le_trans (Nat.le_trans (Nat.le_trans (Nat.le_trans (Nat.le_trans (Nat.le_trans (Nat.le_trans (Nat.le_trans (Nat.le_trans (Nat.le_trans (Nat.le_trans (Nat.le_trans (Nat.le_trans z25 k7.size) k8.size) k9.size) k10.size) k11.size) k12.size) k13.size) k14.size) k15.size) k16.size) k17.size) k18.size) k38.size) k39.size) k40.size) k41.size) k42.size) k43.size) k44.size)⟩, ⟨ob691, (Nat.le_trans (Nat.le_trans (Nat.le_trans (Nat.le_trans (Nat.le_trans (Nat.le_trans (Nat.le_trans (Nat.le_trans (Nat.le_trans (Nat.le_trans (Nat.le_trans (Nat.le_trans (Nat.le_trans z69 k13.size) k14.size) k15.size) k16.size) k17.size) k18.size) k38.size) k39.size) k40.size) k41.size) k42.size) k43.size) k44.size)⟩, ⟨ob692, (Nat.le_trans (Nat.le_trans (Nat.le_trans (Nat.le_trans (Nat.le_trans (Nat.le_trans (Nat.le_trans (Nat.le_trans (Nat.le_trans (Nat.le_trans z109 k16.size) k17.size) k18.size) k38.size) k39.size) k40.size) k41.size) k42.size) k43.size) k44.size)⟩, ⟨ob693, (Nat.le_trans (Nat.le_trans z661 k43.size) k44.size)⟩, ⟨ob694, (Nat.le_trans (Nat.le_trans (Nat.le_trans (Nat.le_trans z603 k41.size) k42.size) k43.size) k44.size)⟩, ⟨ob695, (Nat.le_trans (Nat.le_trans (Nat.le_trans (Nat.le_trans z604 k41.size) k42.size) k43.size) k44.size)⟩, o696, o697⟩ ?_
     rintro _ _ w45 ⟨i, rfl, rfl, hi, kk45, f_pa_45, f_mx_45, f_my_45, f_mz_45, rx_45, px_45, py_45, ro_45, ro2_45, rz_45, pz_45, G_45, T_b5_0_45⟩
     refine C_seq (fun K698 hK698 => ?_)
     refine C_seq (fun K699 hK699 => ?_)
     refine C_region ?_
     refine R_pu (pu_move rfl) rfl ?_
     refine R_pu (pu_move rfl) rfl ?_
     refine R_pu (pu_lss (p := i < nn) rfl rfl (by omega)) rfl ?_
     by_cases g16_3 : i < nn
     · refine R_pu (pu_true (pu_move rfl) g16_3) rfl ?_
       refine R_gpu rfl rfl (pu_move rfl) rfl ?_
       refine R_gpu rfl rfl (pu_eqlnn (by kernel_rfl) rfl) rfl ?_
       refine R_pu (pu_pickt rfl rfl) rfl ?_
       refine R_pu (pu_move rfl) rfl ?_
       refine R_gpu rfl rfl (pu_move rfl) rfl ?_
       refine R_gpu rfl rfl (pu_fieldAddr (off := 5) (o' := 5) (by kernel_rfl) rfl rfl) rfl ?_
       refine R_gpu rfl rfl (pu_loadK f_mz_45 (by kernel_rfl) rfl rfl) rfl ?_
       refine R_gpu rfl rfl (pu_len Tryz.underlying37 rfl) rfl ?_
       refine R_gpu rfl rfl (pu_true (pu_lss (p := i < ((L_pz).length)) rfl rfl (by omega)) (by omega)) rfl ?_
       refine R_pu (pu_pickt rfl rfl) rfl ?_
       refine R_nil ?_
       refine X_then hK699 ?_
       refine C_true rfl ?_
       refine C_skip ?_
       refine X_then hK698 ?_
       refine C_seq (fun K700 hK700 => ?_)
       refine C_block ?_
       refine C_seq (fun K701 hK701 => ?_)
       refine D_begin (fun W => Kp No w W ∧ Bk W pa ([.int .i64 (ka), .int .i64 (na), .slice A (l.length) (c), .slice A2 (l2.length) (c2)]) 24 ∧ Bk W mx ([.int .i64 ((q + 1 : Nat) : Int), .int .i64 ((nn : Nat) : Int), .int .u32 1, .slice A_ex ((boxE U R 1).length) (c_ex), .slice A_rx ((boxR R (encR [(1, Y)])).length) (c_rx), .slice A_px ((L_px).length) (c_px)]) 39 ∧ Bk W my ([.int .i64 ((q + 1 : Nat) : Int), .int .i64 ((nn : Nat) : Int), .int .u32 1, .slice A_ey ((boxE U R 1).length) (c_ey), .slice A_ry ((boxR R (encR [(1, Y)])).length) (c_ry), .slice A_py ((L_py).length) (c_py)]) 39 ∧ Bk W mz ([.int .i64 ((q + 1 : Nat) : Int), .int .i64 ((nn : Nat) : Int), .int .u32 2, .slice A_ez ((boxE U2 R 2).length) (c_ez), .slice A_rz ((boxR R (encR [(1, Y)])).length) (c_rz), .slice A_pz ((L_pz).length) (c_pz)]) 39 ∧ Gt W ∧ Tb W b5_0 ∧ Sw 51 w5.heap.size W w5.heap.size (.slice A_px ((L_px).length) (c_px)) (L_px) ∧ Sw 51 w11.heap.size W w11.heap.size (.slice A_py ((L_py).length) (c_py)) (L_py) ∧ Sw 51 w39.heap.size W w39.heap.size (.slice A_pz ((L_pz).length) (c_pz)) (L_pz)) 33 rfl (by kernel_rfl) ⟨kk45.drew, f_pa_45.draw, f_mx_45.draw, f_my_45.draw, f_mz_45.draw, G_45.draw, T_b5_0_45.draw, px_45.1.draw, py_45.1.draw, pz_45.1.draw⟩ ?_
       intro w46 k46 _
       have kk46 := kk45.then_ k46
       refine D_take 0 rfl (by kernel_rfl) (by kernel_rfl) (by kernel_rfl) (fun _ _ _ h => h) rfl (fun W hS => pu_fieldAddr (off := 5) (o' := 5) (by kernel_rfl) rfl rfl) ?_
       refine D_take 1 rfl (by kernel_rfl) (by kernel_rfl) (by kernel_rfl) (fun _ _ _ h => h) rfl (fun W hS => pu_loadK hS.2.2.1 (by kernel_rfl) rfl rfl) ?_
       refine D_take 2 rfl (by kernel_rfl) (by kernel_rfl) (by kernel_rfl) (fun _ _ _ h => h) rfl (fun W hS => pu_move rfl) ?_
       have ob702 := (px_45.1.keptNo k46)
       obtain ⟨s1, e_s1⟩ : ∃ q_, (L_px)[i]? = some q_ := ⟨_, List.getElem?_eq_getElem (by first | omega | (simp; done) | (simp; omega))⟩
       have ok_s1 := ob702.ss.get e_s1
       have od_s1 := ob702.od e_s1
       have bi_s1 : s1.ix < 256 := ok_s1.ix
       refine D_take 3 rfl (by kernel_rfl) (by kernel_rfl) (by kernel_rfl) (fun _ _ _ h => h) rfl (fun W hS => pu_indexAddrH hS.2.2.2.2.2.2.2.1.ss Tryz.underlying37 (by kernel_rfl) rfl rfl rfl rfl e_s1) ?_
       refine D_take 4 rfl (by kernel_rfl) (by kernel_rfl) (by kernel_rfl) (fun _ _ _ h => h) rfl (fun W hS => pu_fieldAddrH (off := 2) hS.2.2.2.2.2.2.2.1.ss e_s1 (by kernel_rfl) rfl) ?_
       refine D_take 5 rfl (by kernel_rfl) (by kernel_rfl) (by kernel_rfl) (fun _ _ _ h => h) rfl (fun W hS => pu_loadH hS.2.2.2.2.2.2.2.1.ss e_s1 (by kernel_rfl) rfl rfl) ?_
       refine D_take 6 rfl (by kernel_rfl) (by kernel_rfl) (by kernel_rfl) (fun _ _ _ h => h) rfl (fun W hS => pu_bstr (hS.2.2.2.2.2.2.2.1.ss.get e_s1).bs Tryz.underlying22 Tryz.underlying5 Tryz.underlying9 rfl rfl) ?_
       refine D_take 7 rfl (by kernel_rfl) (by kernel_rfl) (by kernel_rfl) (fun _ _ _ h => h) rfl (fun W hS => pu_fieldAddr (off := 5) (o' := 5) (by kernel_rfl) rfl rfl) ?_
       refine D_take 8 rfl (by kernel_rfl) (by kernel_rfl) (by kernel_rfl) (fun _ _ _ h => h) rfl (fun W hS => pu_loadK hS.2.2.2.1 (by kernel_rfl) rfl rfl) ?_
       refine D_take 9 rfl (by kernel_rfl) (by kernel_rfl) (by kernel_rfl) (fun _ _ _ h => h) rfl (fun W hS => pu_move rfl) ?_
       have ob703 := (py_45.1.keptNo k46)
       obtain ⟨s2, e_s2⟩ : ∃ q_, (L_py)[i]? = some q_ := ⟨_, List.getElem?_eq_getElem (by first | omega | (simp; done) | (simp; omega))⟩
       have ok_s2 := ob703.ss.get e_s2
       have od_s2 := ob703.od e_s2
       have bi_s2 : s2.ix < 256 := ok_s2.ix
       refine D_take 10 rfl (by kernel_rfl) (by kernel_rfl) (by kernel_rfl) (fun _ _ _ h => h) rfl (fun W hS => pu_indexAddrH hS.2.2.2.2.2.2.2.2.1.ss Tryz.underlying37 (by kernel_rfl) rfl rfl rfl rfl e_s2) ?_
       refine D_take 11 rfl (by kernel_rfl) (by kernel_rfl) (by kernel_rfl) (fun _ _ _ h => h) rfl (fun W hS => pu_fieldAddrH (off := 2) hS.2.2.2.2.2.2.2.2.1.ss e_s2 (by kernel_rfl) rfl) ?_
       refine D_take 12 rfl (by kernel_rfl) (by kernel_rfl) (by kernel_rfl) (fun _ _ _ h => h) rfl (fun W hS => pu_loadH hS.2.2.2.2.2.2.2.2.1.ss e_s2 (by kernel_rfl) rfl rfl) ?_
       refine D_take 13 rfl (by kernel_rfl) (by kernel_rfl) (by kernel_rfl) (fun _ _ _ h => h) rfl (fun W hS => pu_bstr (hS.2.2.2.2.2.2.2.2.1.ss.get e_s2).bs Tryz.underlying22 Tryz.underlying5 Tryz.underlying9 rfl rfl) ?_
       have hkx := key_at hK_px e_s1 (ptK_get (show i < nn by omega)); have hky := key_at hK_py e_s2 (ptK_get (show i < nn by omega))
       refine D_take 14 rfl (by kernel_rfl) (by kernel_rfl) (by kernel_rfl) (fun _ _ _ h => h) rfl (fun W hS => pu_false (pu_neqs (p := s1.X = s2.X) rfl rfl (bstr_inj ((hS.2.2.2.2.2.2.2.1.ss.get e_s1).bs).byte ((hS.2.2.2.2.2.2.2.2.1.ss.get e_s2).bs).byte)) (fun h => h (hkx.2.2.trans hky.2.2.symm))) ?_
       refine D_take 15 rfl (by kernel_rfl) (by kernel_rfl) (by kernel_rfl) (fun _ _ _ h => h) rfl (fun W hS => pu_move rfl) ?_
       refine D_gtake 16 rfl rfl rfl (by kernel_rfl) (by kernel_rfl) (by kernel_rfl) (fun _ _ _ h => h) rfl (fun W hS => pu_fieldAddr (off := 5) (o' := 5) (by kernel_rfl) rfl rfl) ?_
       refine D_gtake 17 rfl rfl rfl (by kernel_rfl) (by kernel_rfl) (by kernel_rfl) (fun _ _ _ h => h) rfl (fun W hS => pu_loadK hS.2.2.2.2.1 (by kernel_rfl) rfl rfl) ?_
       refine D_gtake 18 rfl rfl rfl (by kernel_rfl) (by kernel_rfl) (by kernel_rfl) (fun _ _ _ h => h) rfl (fun W hS => pu_move rfl) ?_
       have ob704 := (pz_45.1.keptNo k46)
       obtain ⟨s3, e_s3⟩ : ∃ q_, (L_pz)[i]? = some q_ := ⟨_, List.getElem?_eq_getElem (by first | omega | (simp; done) | (simp; omega))⟩
       have ok_s3 := ob704.ss.get e_s3
       have od_s3 := ob704.od e_s3
       have bi_s3 : s3.ix < 256 := ok_s3.ix
       refine D_gtake 19 rfl rfl rfl (by kernel_rfl) (by kernel_rfl) (by kernel_rfl) (fun _ _ _ h => h) rfl (fun W hS => pu_indexAddrH hS.2.2.2.2.2.2.2.2.2.ss Tryz.underlying37 (by kernel_rfl) rfl rfl rfl rfl e_s3) ?_
       refine D_gtake 20 rfl rfl rfl (by kernel_rfl) (by kernel_rfl) (by kernel_rfl) (fun _ _ _ h => h) rfl (fun W hS => pu_fieldAddrH (off := 1) hS.2.2.2.2.2.2.2.2.2.ss e_s3 (by kernel_rfl) rfl) ?_
       refine D_gtake 21 rfl rfl rfl (by kernel_rfl) (by kernel_rfl) (by kernel_rfl) (fun _ _ _ h => h) rfl (fun W hS => pu_loadH hS.2.2.2.2.2.2.2.2.2.ss e_s3 (by kernel_rfl) rfl rfl) ?_
       refine D_gtake 22 rfl rfl rfl (by kernel_rfl) (by kernel_rfl) (by kernel_rfl) (fun _ _ _ h => h) rfl (fun W hS => pu_false (pu_neq (p := s3.gen = 2) rfl rfl (by omega)) (fun h => h (part_of hK_pz (List.mem_of_getElem? e_s3)).1)) ?_
       refine D_take 23 rfl (by kernel_rfl) (by kernel_rfl) (by kernel_rfl) (fun _ _ _ h => h) rfl (fun W hS => pu_pickf rfl rfl) ?_
       refine D_take 24 rfl (by kernel_rfl) (by kernel_rfl) (by kernel_rfl) (fun _ _ _ h => h) rfl (fun W hS => pu_move rfl) ?_
       refine D_gtake 25 rfl rfl rfl (by kernel_rfl) (by kernel_rfl) (by kernel_rfl) (fun _ _ _ h => h) rfl (fun W hS => pu_fieldAddr (off := 5) (o' := 5) (by kernel_rfl) rfl rfl) ?_
       refine D_gtake 26 rfl rfl rfl (by kernel_rfl) (by kernel_rfl) (by kernel_rfl) (fun _ _ _ h => h) rfl (fun W hS => pu_loadK hS.2.2.1 (by kernel_rfl) rfl rfl) ?_
       refine D_gtake 27 rfl rfl rfl (by kernel_rfl) (by kernel_rfl) (by kernel_rfl) (fun _ _ _ h => h) rfl (fun W hS => pu_move rfl) ?_
       refine D_gtake 28 rfl rfl rfl (by kernel_rfl) (by kernel_rfl) (by kernel_rfl) (fun _ _ _ h => h) rfl (fun W hS => pu_indexAddrH hS.2.2.2.2.2.2.2.1.ss Tryz.underlying37 (by kernel_rfl) rfl rfl rfl rfl e_s1) ?_
       refine D_gtake 29 rfl rfl rfl (by kernel_rfl) (by kernel_rfl) (by kernel_rfl) (fun _ _ _ h => h) rfl (fun W hS => pu_fieldAddrH (off := 1) hS.2.2.2.2.2.2.2.1.ss e_s1 (by kernel_rfl) rfl) ?_
       refine D_gtake 30 rfl rfl rfl (by kernel_rfl) (by kernel_rfl) (by kernel_rfl) (fun _ _ _ h => h) rfl (fun W hS => pu_loadH hS.2.2.2.2.2.2.2.1.ss e_s1 (by kernel_rfl) rfl rfl) ?_
       refine D_gtake 31 rfl rfl rfl (by kernel_rfl) (by kernel_rfl) (by kernel_rfl) (fun _ _ _ h => h) rfl (fun W hS => pu_false (pu_neq (p := s1.gen = 1) rfl rfl (by omega)) (fun h => h (part_of hK_px (List.mem_of_getElem? e_s1)).1)) ?_
       refine D_take 32 rfl (by kernel_rfl) (by kernel_rfl) (by kernel_rfl) (fun _ _ _ h => h) rfl (fun W hS => pu_pickf rfl rfl) ?_
       refine D_done (by kernel_rfl) ?_
       refine X_then hK701 ?_
       refine C_false rfl ?_
       refine C_skip ?_
       refine X_in_normal ?_
       refine X_then hK700 ?_
       refine C_region ?_
       refine R_pu (pu_move rfl) rfl ?_
       refine R_pu (pu_add (z := ((i + 1 : Nat) : Int)) rfl rfl (by rw [IntKind.wrap_i64]; omega)) rfl ?_
       refine R_pu (pu_assign rfl) rfl ?_
       refine R_nil ?_
       have f705 := (f_pa_45.no k46)
       have f706 := (f_mx_45.no k46)
       have f707 := (f_my_45.no k46)
       have f708 := (f_mz_45.no k46)
       have ob709 := (rx_45.1.keptNo k46)
       have ob710 := (ro_45.1.keptNo k46)
       have ob711 := (ro2_45.1.keptNo k46)
       have ob712 := (rz_45.1.keptNo k46)
       have o713 := (G_45.no k46)
       have o714 := (T_b5_0_45.no k46)
       refine X_round (nn - (i + 1)) [(5, .int .i64 ((q + 1 : Nat) : Int)), (6, .int .i64 ((nn : Nat) : Int)), (9, .int .i64 ((32 * (q + 1) : Nat) : Int)), (11, .pointer (some ⟨mx, 0, none⟩)), (13, .pointer (some ⟨my, 0, none⟩)), (15, .slice A_ro ((R).length) (c_ro)), (17, .nilIface), (18, .pointer (some ⟨mz, 0, none⟩)), (19, .nilIface), (20, .slice A_ro2 ((R).length) (c_ro2)), (22, .nilIface), (23, .int .i64 (((i + 1) : Nat) : Int))] (by omega) (Sub.cons rfl (Sub.cons rfl (Sub.cons rfl (Sub.cons rfl (Sub.cons rfl (Sub.cons rfl (Sub.cons rfl (Sub.cons rfl (Sub.cons rfl (Sub.cons rfl (Sub.cons rfl (Sub.cons rfl (Sub.nil _))))))))))))) ⟨i + 1, rfl, rfl, by omega, kk46, f705, f706, f707, f708, ⟨ob709, (Nat.le_trans rx_45.2 k46.size)⟩, ⟨ob702, (Nat.le_trans px_45.2 k46.size)⟩, ⟨ob703, (Nat.le_trans py_45.2 k46.size)⟩, ⟨ob710, (Nat.le_trans ro_45.2 k46.size)⟩, ⟨ob711, (Nat.le_trans ro2_45.2 k46.size)⟩, ⟨ob712, (Nat.le_trans rz_45.2 k46.size)⟩, ⟨ob704, (Nat.le_trans pz_45.2 k46.size)⟩, o713, o714⟩
     · refine R_pu (pu_false (pu_move rfl) g16_3) rfl ?_
       refine R_gno rfl rfl rfl rfl ?_
       refine R_gno rfl rfl rfl rfl ?_
       refine R_pu (pu_pickf rfl rfl) rfl ?_
       refine R_pu (pu_move rfl) rfl ?_
       refine R_gno rfl rfl rfl rfl ?_
       refine R_gno rfl rfl rfl rfl ?_
       refine R_gno rfl rfl rfl rfl ?_
       refine R_gno rfl rfl rfl rfl ?_
       refine R_gno rfl rfl rfl rfl ?_
       refine R_pu (pu_pickf rfl rfl) rfl ?_
       refine R_nil ?_
       refine X_then hK699 ?_
       refine C_false rfl ?_
       refine C_exit ?_
       refine X_then_exit (X_then_exit (X_in_eq ?_))
       refine X_then hK683 ?_
       refine C_seq (fun K715 hK715 => ?_)
       refine C_region ?_
       refine R_pu (pu_move rfl) rfl ?_
       refine R_pu (pu_eqlnn (by kernel_rfl) rfl) rfl ?_
       refine R_pu (pu_move rfl) rfl ?_
       refine R_gpu rfl rfl (pu_move rfl) rfl ?_
       refine R_gpu rfl rfl (pu_eqlnn (by kernel_rfl) rfl) rfl ?_
       refine R_pu (pu_pickt rfl rfl) rfl ?_
       refine R_pu (pu_move rfl) rfl ?_
       refine R_gpu rfl rfl (pu_move rfl) rfl ?_
       refine R_gpu rfl rfl (pu_eqlnn (by kernel_rfl) rfl) rfl ?_
       refine R_pu (pu_pickt rfl rfl) rfl ?_
       refine R_pu (pu_move rfl) rfl ?_
       refine R_gpu rfl rfl (pu_move rfl) rfl ?_
       refine R_gpu rfl rfl (pu_bstr ro2_45.1.bs Tryz.underlying22 Tryz.underlying5 Tryz.underlying9 rfl rfl) rfl ?_
       refine R_gpu rfl rfl (pu_move rfl) rfl ?_
       refine R_gpu rfl rfl (pu_bstr ro_45.1.bs Tryz.underlying22 Tryz.underlying5 Tryz.underlying9 rfl rfl) rfl ?_
       refine R_gpu rfl rfl (pu_true (pu_eqls (p := R = R) rfl rfl (bstr_inj (ro2_45.1.bs).byte (ro_45.1.bs).byte)) rfl) rfl ?_
       refine R_pu (pu_pickt rfl rfl) rfl ?_
       refine R_pu (pu_move rfl) rfl ?_
       refine R_gpu rfl rfl (pu_fieldAddr (off := 4) (o' := 4) (by kernel_rfl) rfl rfl) rfl ?_
       refine R_gpu rfl rfl (pu_loadK f_mz_45 (by kernel_rfl) rfl rfl) rfl ?_
       refine R_gpu rfl rfl (pu_bstr rz_45.1.bs Tryz.underlying22 Tryz.underlying5 Tryz.underlying9 rfl rfl) rfl ?_
       refine R_gpu rfl rfl (pu_fieldAddr (off := 4) (o' := 4) (by kernel_rfl) rfl rfl) rfl ?_
       refine R_gpu rfl rfl (pu_loadK f_mx_45 (by kernel_rfl) rfl rfl) rfl ?_
       refine R_gpu rfl rfl (pu_bstr rx_45.1.bs Tryz.underlying22 Tryz.underlying5 Tryz.underlying9 rfl rfl) rfl ?_
       refine R_gpu rfl rfl (pu_true (pu_eqls (p := (boxR R (encR [(1, Y)])) = (boxR R (encR [(1, Y)]))) rfl rfl (bstr_inj (rz_45.1.bs).byte (rx_45.1.bs).byte)) rfl) rfl ?_
       refine R_pu (pu_pickt rfl rfl) rfl ?_
       refine R_pu (pu_move rfl) rfl ?_
       refine R_gpu rfl rfl (pu_move rfl) rfl ?_
       refine R_gpu rfl rfl (pu_move rfl) rfl ?_
       refine R_gpu rfl rfl (pu_mul (z := ((32 * (q + 1) : Nat) : Int)) rfl rfl (by rw [IntKind.wrap_i64]; omega)) rfl ?_
       refine R_gpu rfl rfl (pu_true (pu_eql (p := (32 * (q + 1)) = (32 * (q + 1))) rfl rfl (by omega)) rfl) rfl ?_
       refine R_pu (pu_pickt rfl rfl) rfl ?_
       refine R_pu (pu_move rfl) rfl ?_
       refine R_glo rfl rfl (lo_call (by kernel_rfl) rfl (sure36 _ G_45)) rfl ?_
       rintro _ w47 ⟨rfl, k47⟩
       have kk47 := kk45.then_ k47
       refine R_pu (pu_pickt rfl rfl) rfl ?_
       refine R_pu (pu_assign rfl) rfl ?_
       refine R_nil ?_
       refine X_then hK715 ?_
       refine C_ret ?_
       exact X_ret1 (.inl rfl) rfl rfl ⟨rfl, kk47⟩
end Go.Proofs.YtlkbkgghfhoggaaGreatDoor
