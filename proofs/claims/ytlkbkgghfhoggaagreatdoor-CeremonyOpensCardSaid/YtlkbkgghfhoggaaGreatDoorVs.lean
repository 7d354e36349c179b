/- Walks of bursarylaw36's num, full, sure. -/
import Derived.Test.YtlkbkgghfhoggaaGreatDoorVa
import Derived.Test.YtlkbkgghfhoggaaGreatDoorLs
set_option linter.unusedVariables false
set_option linter.unusedSimpArgs false
set_option maxHeartbeats 2000000
set_option maxRecDepth 100000
namespace Go.Proofs.YtlkbkgghfhoggaaGreatDoor
open Go.RowKit Gm
theorem num36_err (e : Int) (w : World) (hG : Gt w) : Ret Tryz.prog 14 #[.iface 76 (.int .i64 (e))] w (fun v w' => v = .int .i64 e ∧ Kp No w w') := by
 have kk0 := Kp.refl No w
 refine enter (n := 10) [.iface 76 (.int .i64 (e))] Tryz.func14 rfl rfl rfl ?_
 show Cw _ _ _ _ [(0, .iface 76 (.int .i64 (e)))] _
 refine C_seq fun K1 hK1 => C_region <| Rp (pu_assign rfl) <| R_nil <| X_then hK1 <| C_seq fun K2 hK2 => C_region <| R_lo (lo_alloc (L := [.int .i64 0]) (by kernel_rfl)) rfl ?_
 rintro _ w1 ⟨p1_0, rfl, N1⟩
 have k1 := N1.kp
 have kk1 := kk0.then_ k1
 have f_p1_0_1 := N1.bk
 refine R_nil <| X_then hK2 <| C_seq fun K3 hK3 => C_seq fun K4 hK4 => C_region <| Rp (pu_move rfl) <| Rp (pu_eqlin (by kernel_rfl) rfl rfl) <| R_nil <| X_then hK4 <| C_false rfl <| C_skip <| X_then hK3 <| C_seq fun K5 hK5 => C_seq fun K6 hK6 => C_region <| Rp (pu_move rfl) <| Rp (pu_makeInterface Tryz.underlying93 rfl rfl) ?_
 have o7 := (hG.no k1)
 refine R_lo (lo_call (by kernel_rfl) rfl (as_ret e p1_0 _ _ o7 f_p1_0_1)) rfl ?_
 rintro _ w2 ⟨rfl, B2, k2⟩
 have kk2 := kk1.trans k2 (fun i hi => .inr (hi ▸ (Nat.le_trans kk0.size N1.le)))
 exact R_nil <| X_then hK6 <| C_true rfl <| C_seq fun K8 hK8 => C_region <| Rp (pu_loadK B2 (by kernel_rfl) rfl rfl) <| Rp (pu_assign rfl) <| R_nil <| X_then hK8 <| C_ret <| X_then_ret <| X_ret1 (.inl rfl) rfl rfl ⟨rfl, kk2⟩
theorem cer_full (A : Option Addr) (l : List Nat) (c n : Nat) (w : World) (HB : Bs w A l) (hc : l.length ≤ c) (hn : n ≤ 1000000) : Ret Tryz.prog 8 #[.slice A (l.length) (c), .int .i64 ((n : Nat) : Int)] w (fun v w' => ∃ A c, v = .slice A (fullB l n).length c ∧ Ob w' w.heap.size (.slice A (fullB l n).length c) (fullB l n) ∧ Kp No w w') := by
 have kk0 := Kp.refl No w
 refine enter (n := 12) [.slice A (l.length) (c), .int .i64 ((n : Nat) : Int)] Tryz.func8 rfl rfl rfl ?_
 show Cw _ _ _ _ [(0, .slice A (l.length) (c)), (1, .int .i64 ((n : Nat) : Int))] _
 refine C_seq fun K1 hK1 => C_region <| Rp (pu_assign rfl) <| R_nil <| X_then hK1 <| C_seq fun K2 hK2 => C_region <| Rp (pu_move rfl) <| R_lo (lo_make (z := .int .u8 0) (bytes := 1) (ln := n) (cp := n) Tryz.underlying22 (by kernel_rfl) rfl rfl rfl rfl rfl (by omega) (by omega) (by omega)) rfl ?_
 rintro _ w1 ⟨d, rfl, N1⟩
 have k1 := N1.kp
 have kk1 := kk0.then_ k1
 have f_d_1 : Bk w1 d (u8s (List.replicate n 0)) 5 := by rw [u8s_rep]; exact N1.bk
 refine Rp (pu_assign rfl) <| R_nil <| X_then hK2 <| C_seq fun K3 hK3 => C_region <| Rp (pu_move rfl) <| Rp (pu_move rfl) <| R_lo (lo_copyG (m' := (min n l.length)) f_d_1 rfl rfl (HB.keptNo kk1) rfl (by rw [Nat.min_comm]) (by rw [(rep_by n).1]; omega)) rfl ?_
 rintro _ w2 kg2
 obtain ⟨rfl, kf2⟩ := kg2
 obtain ⟨k2, f_d_2⟩ := kf2
 replace f_d_2 := Bk.eq f_d_2 (congrArg u8s (fullB_copy l n))
 replace f_d_2 : Bk w2 d (u8s (fullB l n)) 5 := f_d_2
 have kk2 := kk1.trans k2 (fun i hi => .inr (hi ▸ (Nat.le_trans kk0.size N1.le)))
 exact R_nil <| X_then hK3 <| C_seq fun K4 hK4 => C_region <| Rp (pu_move rfl) <| Rp (pu_assign rfl) <| R_nil <| X_then hK4 <| C_ret <| X_ret1 (.inl rfl) rfl rfl ⟨some ⟨d, 0, none⟩, n, by rw [fullB_length], by rw [fullB_length]; exact Ob.made f_d_2 (Nat.le_trans kk0.size N1.le) (fullB_length _ _) (by unfold maxLen; omega) (fullB_by n HB.byte).2, kk2⟩
theorem sure36  (w : World) (hG : Gt w) : Ret Tryz.prog 5 #[] w (fun v w' => v = .bool true ∧ Kp No w w') := by
 have kk0 := Kp.refl No w
 refine enter (n := 71) [] Tryz.func5 rfl rfl rfl ?_
 show Cw _ _ _ _ [] _
 refine C_seq fun K1 hK1 => C_region <| Rp (pu_assign rfl) <| R_nil <| X_then hK1 <| C_seq fun K2 hK2 => C_region <| R_lo (lo_call (by kernel_rfl) rfl (gf_new _)) rfl ?_
 rintro _ w1 ⟨b1_0, rfl, le1, T1, k1⟩
 have kk1 := kk0.then_ k1
 have ne_b1_0_0 := Nat.ne_of_gt (Nat.lt_of_lt_of_le hG.lt le1)
 refine Rp (pu_assign rfl) <| R_nil <| X_then hK2 <| C_seq fun K3 hK3 => C_region <| Rp (pu_move rfl) ?_
 have o4 := (hG.no k1)
 refine R_lo (lo_make (z := .int .u8 0) (bytes := 1) (ln := 128) (cp := 128) Tryz.underlying22 (by kernel_rfl) rfl rfl rfl rfl rfl (by omega) (by omega) (by omega)) rfl ?_
 rintro _ w2 ⟨d0, rfl, N2⟩
 have k2 := N2.kp
 have kk2 := kk1.then_ k2
 have ne_d0_b1_0 := Nat.ne_of_gt (Nat.lt_of_lt_of_le T1.lt N2.le)
 have f_d0_2 : Bk w2 d0 (u8s (List.replicate 128 0)) 5 := by rw [u8s_rep]; exact N2.bk
 have o5 := (T1.no k2)
 have o6 := (o4.no k2)
 refine R_lo (lo_callE (by kernel_rfl) rfl (by rw [(rep_by 128).1] <;> rfl) (cer_init b1_0 1 3 (some ⟨d0, 0, none⟩) (List.replicate 128 0) 128 (List.replicate 32 0) (List.replicate 32 0) (List.replicate 32 0) (List.replicate 32 0) [] _ (Bs.ofBk f_d0_2 (rep_by 128)) (Nat.le_of_eq (rep_by 128).1) ⟨rfl, ⟨by decide, by decide, by decide⟩, rfl, rfl, rfl, rfl⟩ (Aw.ofBk ne_d0_b1_0) o5)) rfl ?_
 rintro _ w3 ⟨A_es, c_es, A_rs, c_rs, A_ps, c_ps, L_ps, rfl, Q3, R3, S3, hK_ps, T3, k3⟩
 have kk3 := kk2.trans k3 (fun i hi => .inr (hi ▸ (Nat.le_trans kk0.size le1)))
 have hl_ps := (key_len hK_ps).trans (ptK_length ..)
 refine Rp (pu_move rfl) <| Rp (pu_extract rfl rfl) <| Rp (pu_extract rfl rfl) ?_
 have o11 := (o6.on k3 (Ne.symm ne_b1_0_0))
 refine R_lo (lo_alloc (L := [.int .i64 0, .int .i64 0, .int .u32 0, .slice none (0) (0), .slice none (0) (0), .slice none (0) (0)]) (by kernel_rfl)) rfl ?_
 rintro _ w4 ⟨mx, rfl, N4⟩
 have k4 := N4.kp
 have kk4 := kk3.then_ k4
 have ne_mx_0 := Nat.ne_of_gt (Nat.lt_of_lt_of_le o11.lt N4.le)
 have ne_mx_b1_0 := Nat.ne_of_gt (Nat.lt_of_lt_of_le T3.lt N4.le)
 have f_mx_4 := N4.bk
 refine R_lo0 (lo_storeRow (C := [.int .i64 2, .int .i64 3, .int .u32 1, .slice A_es ((boxE (List.replicate 32 0) (List.replicate 32 0) 1).length) (c_es), .slice A_rs ((boxR (List.replicate 32 0) (encR [(1, (List.replicate 32 0))])).length) (c_rs), .slice A_ps ((L_ps).length) (c_ps)]) f_mx_4 (by kernel_rfl) rfl rfl (by intro u hu; simp at hu; rcases hu with rfl | rfl | rfl | rfl | rfl | rfl <;> rfl) rfl) ?_
 rintro _ w5 kf5
 obtain ⟨k5, f_mx_5⟩ := kf5
 replace f_mx_5 : Bk w5 mx ([.int .i64 2, .int .i64 3, .int .u32 1, .slice A_es ((boxE (List.replicate 32 0) (List.replicate 32 0) 1).length) (c_es), .slice A_rs ((boxR (List.replicate 32 0) (encR [(1, (List.replicate 32 0))])).length) (c_rs), .slice A_ps ((L_ps).length) (c_ps)]) 39 := f_mx_5
 have kk5 := kk4.trans k5 (fun i hi => .inr (hi ▸ (Nat.le_trans kk3.size N4.le)))
 refine Rp (pu_assign rfl) <| R_nil <| X_then hK3 <| C_seq fun K12 hK12 => C_seq fun K13 hK13 => C_region <| Rp (pu_move rfl) <| Rp (pu_neqnn (by kernel_rfl) rfl) <| Rp (pu_move rfl) <| Rg (pu_fieldAddr (off := 5) (o' := 5) (by kernel_rfl) rfl rfl) <| Rg (pu_loadK f_mx_5 (by kernel_rfl) rfl rfl) <| Rg (pu_len Tryz.underlying37 rfl) <| Rg (pu_false (pu_neq (p := ((L_ps).length) = 3) rfl rfl (by omega)) (fun h => h hl_ps)) <| Rp (pu_pickf rfl rfl) <| R_nil <| X_then hK13 <| C_false rfl <| C_skip <| X_then hK12 <| C_seq (fun K14 hK14 => ?_)
 have hop := opens_own hK_ps (by decide) (by decide) (by rfl) (by rfl) (fun v hv => by rw [(List.mem_replicate.1 hv).2]; decide) (fun v hv => by rw [(List.mem_replicate.1 hv).2]; decide)
 refine C_region <| Rp (pu_move rfl) <| Rp (pu_loadRow (len := 6) f_mx_5 (by kernel_rfl) (by kernel_rfl) rfl rfl) ?_
 have ob15 := ((Q3.keptNo k4).onN k5 Q3 N4.le)
 have ob16 := ((R3.keptNo k4).onN k5 R3 N4.le)
 have ob17 := ((S3.keptNo k4).onN k5 S3 N4.le)
 have o18 := ((T3.no k4).on k5 (Ne.symm ne_mx_b1_0))
 have o20 := ((o11.no k4).on k5 (Ne.symm ne_mx_0))
 refine R_lo (lo_call (by kernel_rfl) rfl (cer_open b1_0 1 3 1 A_es (boxE (List.replicate 32 0) (List.replicate 32 0) 1) c_es A_rs (boxR (List.replicate 32 0) (encR [(1, (List.replicate 32 0))])) c_rs A_ps L_ps c_ps (List.replicate 32 0) (List.replicate 32 0) ([(1, (List.replicate 32 0))]) _ ob15.bs ob15.le.2 ob16.bs ob16.le.2 ob17.ss ⟨⟨by decide, by decide, by decide⟩, ⟨by omega, ob17.le.2, by omega⟩, (by decide), (by decide), hop.1, hop.2, rfl, (by rfl), rfl, may_one, ok_one (rep_by 32)⟩ (Aw.ofOb ob15 (by have := o5.lt; omega)) (Aw.ofOb ob16 (by have := o5.lt; omega)) (ob17.aw (by have := o5.lt; omega)) o18)) rfl ?_
 rintro _ w6 ⟨A_ro, c_ro, A_rn, c_rn, rfl, Q6, R6, T6, k6⟩
 have kk6 := kk5.trans k6 (fun i hi => .inr (hi ▸ (Nat.le_trans kk0.size le1)))
 refine Rp (pu_move rfl) <| Rp (pu_extract rfl rfl) <| Rp (pu_extract rfl rfl) <| Rp (pu_extract rfl rfl) ?_
 have f30 := (f_mx_5.on k6 ne_mx_b1_0)
 have o31 := (o20.on k6 (Ne.symm ne_b1_0_0))
 refine R_lo (lo_alloc (L := [.slice none (0) (0)]) (by kernel_rfl)) rfl ?_
 rintro _ w7 ⟨mr, rfl, N7⟩
 have k7 := N7.kp
 have kk7 := kk6.then_ k7
 have ne_mr_mx := Nat.ne_of_gt (Nat.lt_of_lt_of_le f30.lt N7.le)
 have ne_mr_0 := Nat.ne_of_gt (Nat.lt_of_lt_of_le o31.lt N7.le)
 have f_mr_7 := N7.bk
 refine Rp (pu_assign rfl) <| R_lo0 (lo_storeRow (C := [.slice A_rn (([(1, (List.replicate 32 0))]).length) (c_rn)]) f_mr_7 (by kernel_rfl) rfl rfl (by intro u hu; simp at hu; rcases hu with rfl <;> rfl) rfl) ?_
 rintro _ w8 kf8
 obtain ⟨k8, f_mr_8⟩ := kf8
 replace f_mr_8 : Bk w8 mr ([.slice A_rn (([(1, (List.replicate 32 0))]).length) (c_rn)]) 46 := f_mr_8
 have kk8 := kk7.trans k8 (fun i hi => .inr (hi ▸ (Nat.le_trans kk6.size N7.le)))
 refine Rp (pu_assign rfl) <| R_nil <| X_then hK14 <| C_seq fun K35 hK35 => C_region <| R_lo (lo_call (by kernel_rfl) rfl (cer_need 1 _ ⟨by decide, by decide⟩)) rfl ?_
 rintro _ w9 ⟨rfl, k9⟩
 have kk9 := kk8.then_ k9
 refine Rp (pu_move rfl) <| Rp (pu_extract rfl rfl) <| Rp (pu_extract rfl rfl) <| Rp (pu_assign rfl) <| Rp (pu_assign rfl) <| R_nil <| X_then hK35 <| C_seq fun K36 hK36 => C_region <| Rp (pu_move rfl) ?_
 have f38 := (((f30.no k7).on k8 (Ne.symm ne_mr_mx)).no k9)
 have f39 := (f_mr_8.no k9)
 have o40 := (((o31.no k7).on k8 (Ne.symm ne_mr_0)).no k9)
 refine R_lo (lo_make (z := .int .u8 0) (bytes := 1) (ln := 127) (cp := 127) Tryz.underlying22 (by kernel_rfl) rfl rfl rfl rfl rfl (by omega) (by omega) (by omega)) rfl ?_
 rintro _ w10 ⟨d1, rfl, N10⟩
 have k10 := N10.kp
 have kk10 := kk9.then_ k10
 have f_d1_10 : Bk w10 d1 (u8s (List.replicate 127 0)) 5 := by rw [u8s_rep]; exact N10.bk
 refine R_lo (lo_callE (by kernel_rfl) rfl (by rw [(rep_by 127).1] <;> rfl) (cer_init_short b1_0 1 3 (some ⟨d1, 0, none⟩) (List.replicate 127 0) 127 _ (Bs.ofBk f_d1_10 (rep_by 127)) (Nat.le_of_eq (rep_by 127).1) ⟨⟨by decide, by decide, by decide⟩, by rw [List.length_replicate]; decide⟩)) rfl ?_
 rintro _ w11 ⟨rfl, k11⟩
 have kk11 := kk10.then_ k11
 refine Rp (pu_move rfl) <| Rp (pu_extract rfl rfl) <| Rp (pu_extract rfl rfl) ?_
 have f49 := ((f38.no k10).no k11)
 have f50 := ((f39.no k10).no k11)
 have o52 := ((o40.no k10).no k11)
 refine R_lo (lo_alloc (L := [.int .i64 0, .int .i64 0, .int .u32 0, .slice none (0) (0), .slice none (0) (0), .slice none (0) (0)]) (by kernel_rfl)) rfl ?_
 rintro _ w12 ⟨my, rfl, N12⟩
 have k12 := N12.kp
 have kk12 := kk11.then_ k12
 have ne_my_mx := Nat.ne_of_gt (Nat.lt_of_lt_of_le f49.lt N12.le)
 have ne_my_mr := Nat.ne_of_gt (Nat.lt_of_lt_of_le f50.lt N12.le)
 have ne_my_0 := Nat.ne_of_gt (Nat.lt_of_lt_of_le o52.lt N12.le)
 have f_my_12 := N12.bk
 refine R_lo0 (lo_storeRow (C := [.int .i64 0, .int .i64 0, .int .u32 0, .slice none (0) (0), .slice none (0) (0), .slice none (0) (0)]) f_my_12 (by kernel_rfl) rfl rfl (by intro u hu; simp at hu; rcases hu with rfl | rfl | rfl | rfl | rfl | rfl <;> rfl) rfl) ?_
 rintro _ w13 kf13
 obtain ⟨k13, f_my_13⟩ := kf13
 replace f_my_13 : Bk w13 my ([.int .i64 0, .int .i64 0, .int .u32 0, .slice none (0) (0), .slice none (0) (0), .slice none (0) (0)]) 39 := f_my_13
 have kk13 := kk12.trans k13 (fun i hi => .inr (hi ▸ (Nat.le_trans kk11.size N12.le)))
 refine Rp (pu_assign rfl) <| R_nil <| X_then hK36 <| C_seq fun K59 hK59 => C_region <| Rp (pu_move rfl) <| Rp (pu_eqlnn (by kernel_rfl) rfl) <| Rp (pu_move rfl) <| Rg (pu_move rfl) <| Rg (pu_len Tryz.underlying22 rfl) <| Rg (pu_true (pu_eql (p := (((List.replicate 32 0)).length) = 32) rfl rfl (by omega)) (List.length_replicate ..)) <| Rp (pu_pickt rfl rfl) <| Rp (pu_move rfl) <| Rg (pu_fieldAddr (off := 0) (o' := 0) (by kernel_rfl) rfl rfl) ?_
 have f60 := ((f50.no k12).on k13 (Ne.symm ne_my_mr))
 refine Rg (pu_loadK f60 (by kernel_rfl) rfl rfl) <| Rg (pu_len Tryz.underlying44 rfl) <| Rg (pu_true (pu_eql (p := (([(1, (List.replicate 32 0))]).length) = 1) rfl rfl (by omega)) rfl) <| Rp (pu_pickt rfl rfl) <| Rp (pu_move rfl) <| Rg (pu_move rfl) <| Rg (pu_true (pu_eql (p := (128 : Nat) = 128) rfl rfl (by omega)) (by decide)) <| Rp (pu_pickt rfl rfl) <| Rp (pu_move rfl) <| Rg (pu_move rfl) ?_
 have o61 := ((o52.no k12).on k13 (Ne.symm ne_my_0))
 refine R_glo rfl rfl (lo_call (by kernel_rfl) rfl (num36_err 2 _ o61)) rfl ?_
 rintro _ w14 ⟨rfl, k14⟩
 have kk14 := kk13.then_ k14
 refine Rg (pu_true (pu_eql (p := (2 : Nat) = 2) rfl rfl (by omega)) (by decide)) <| Rp (pu_pickt rfl rfl) <| Rp (pu_move rfl) <| Rg (pu_fieldAddr (off := 3) (o' := 3) (by kernel_rfl) rfl rfl) ?_
 have f62 := (((f49.no k12).on k13 (Ne.symm ne_my_mx)).no k14)
 exact Rg (pu_loadK f62 (by kernel_rfl) rfl rfl) <| Rg (pu_len Tryz.underlying22 rfl) <| Rg (pu_true (pu_eql (p := ((boxE (List.replicate 32 0) (List.replicate 32 0) 1).length) = 48) rfl rfl (by omega)) (by rw [boxE_len]; rfl)) <| Rp (pu_pickt rfl rfl) <| Rp (pu_assign rfl) <| R_nil <| X_then hK59 <| C_ret <| X_ret1 (.inl rfl) rfl rfl ⟨rfl, kk14⟩
end Go.Proofs.YtlkbkgghfhoggaaGreatDoor
