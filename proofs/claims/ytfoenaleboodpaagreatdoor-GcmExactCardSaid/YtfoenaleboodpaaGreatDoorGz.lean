/- The body of GcmExact. -/
import Derived.Test.YtfoenaleboodpaaGreatDoorGy
import Derived.Test.YtfoenaleboodpaaGreatDoorGd
set_option linter.unusedVariables false
set_option linter.unusedSimpArgs false
namespace Go.Proofs.YtfoenaleboodpaaGreatDoor
open Go.RowKit Gm
theorem num_errv (n : Nat) (ev : Value) (w : World) (h : ErrV n ev) (hG : Gt w) : Ret Tryz.prog 7 #[ev] w (fun v w' => v = .int .i64 ((n : Nat) : Int) ∧ Kp No w w') := by
  rcases h with ⟨h1, h2⟩ | ⟨h1, h2⟩
  · subst h1 h2; exact num11_nil w
  · subst h2; exact num11_err (n : Int) w hG
set_option maxRecDepth 100000 in
set_option maxHeartbeats 2000000 in
theorem gcmExact_ (A0 : Option Addr) (Y : List Nat) (c0 : Nat) (A1 : Option Addr) (N : List Nat) (c1 : Nat) (A2 : Option Addr) (D : List Nat) (c2 : Nat) (A3 : Option Addr) (M : List Nat) (c3 : Nat) (A4 : Option Addr) (X : List Nat) (c4 : Nat) (w : World) (HY : Bs w A0 Y) (hy : Y.length ≤ c0) (HN : Bs w A1 N) (hn : N.length ≤ c1) (HD : Bs w A2 D) (hd : D.length ≤ c2) (HM : Bs w A3 M) (hm : M.length ≤ c3) (HX : Bs w A4 X) (hx : X.length ≤ c4) (hG : Gt w) : Ret Tryz.prog 3 #[.agg ([.slice A0 (Y.length) (c0), .slice A1 (N.length) (c1), .slice A2 (D.length) (c2)] : List Value).toArray, .slice A3 (M.length) (c3), .slice A4 (X.length) (c4)] w (fun v w' => v = .bool true ∧ Kp No w w') := by
  have kk0 := Kp.refl No w
  refine enter (n := 197) [.agg ([.slice A0 (Y.length) (c0), .slice A1 (N.length) (c1), .slice A2 (D.length) (c2)] : List Value).toArray, .slice A3 (M.length) (c3), .slice A4 (X.length) (c4)] Tryz.func3 rfl rfl rfl ?_
  show Cw _ _ _ _ [(0, .agg ([.slice A0 (Y.length) (c0), .slice A1 (N.length) (c1), .slice A2 (D.length) (c2)] : List Value).toArray), (1, .slice A3 (M.length) (c3)), (2, .slice A4 (X.length) (c4))] _
  refine C_seq (fun K1 hK1 => ?_)
  refine C_region ?_
  refine R_lo (lo_box (L := [.slice A0 (Y.length) (c0), .slice A1 (N.length) (c1), .slice A2 (D.length) (c2)]) rfl rfl) rfl ?_
  rintro _ w1 ⟨pc, rfl, N1⟩
  have k1 := N1.kp
  have kk1 := kk0.then_ k1
  have ne_pc_0 : pc ≠ 0 := Nat.ne_of_gt (Nat.lt_of_lt_of_le hG.lt N1.le)
  have f_pc_1 : Bk w1 pc ([.slice A0 (Y.length) (c0), .slice A1 (N.length) (c1), .slice A2 (D.length) (c2)]) 24 := N1.bk
  refine R_pu (pu_assign rfl) rfl ?_
  refine R_nil ?_
  refine X_then hK1 ?_
  refine C_seq (fun K2 hK2 => ?_)
  refine C_seq (fun K3 hK3 => ?_)
  refine C_region ?_
  refine R_pu (pu_move rfl) rfl ?_
  refine R_pu (pu_len Tryz.underlying22 rfl) rfl ?_
  refine R_pu (pu_gtr (p := M.length > 300) rfl rfl (by omega)) rfl ?_
  by_cases g1_3 : M.length > 300
  · refine R_pu (pu_true (pu_move rfl) g1_3) rfl ?_
    refine R_gpu rfl rfl (pu_move rfl) rfl ?_
    refine R_gpu rfl rfl (pu_len Tryz.underlying22 rfl) rfl ?_
    refine R_gpu rfl rfl (pu_leq (p := M.length ≤ 2048) rfl rfl (by omega)) rfl ?_
    refine R_pu (pu_pickt rfl rfl) rfl ?_
    by_cases g1_8 : M.length ≤ 2048
    · refine R_pu (pu_true (pu_move rfl) g1_8) rfl ?_
      refine R_gno rfl rfl rfl rfl ?_
      refine R_gno rfl rfl rfl rfl ?_
      refine R_gno rfl rfl rfl rfl ?_
      refine R_gno rfl rfl rfl rfl ?_
      refine R_gun rfl rfl rfl ?_
      refine R_gun rfl rfl rfl ?_
      refine R_gun rfl rfl rfl ?_
      refine R_gno rfl rfl rfl rfl ?_
      refine R_pu (pu_pickt rfl rfl) rfl ?_
      refine R_pu (pu_move rfl) rfl ?_
      refine R_gno rfl rfl rfl rfl ?_
      refine R_gno rfl rfl rfl rfl ?_
      refine R_gno rfl rfl rfl rfl ?_
      refine R_gno rfl rfl rfl rfl ?_
      refine R_gno rfl rfl rfl rfl ?_
      refine R_gun rfl rfl rfl ?_
      refine R_gun rfl rfl rfl ?_
      refine R_gun rfl rfl rfl ?_
      refine R_gun rfl rfl rfl ?_
      refine R_gno rfl rfl rfl rfl ?_
      refine R_pu (pu_pickt rfl rfl) rfl ?_
      refine R_nil ?_
      refine X_then hK3 ?_
      refine C_true rfl ?_
      refine C_seq (fun K4 hK4 => ?_)
      refine C_region ?_
      have o5 : Gt w1 := (hG.no k1)
      refine R_lo (lo_call (by kernel_rfl) rfl (sure11 _ o5)) rfl ?_
      rintro _ w2 ⟨rfl, k2⟩
      have kk2 := kk1.then_ k2
      refine R_pu (pu_assign rfl) rfl ?_
      refine R_nil ?_
      refine X_then hK4 ?_
      refine C_ret ?_
      refine X_then_ret ?_
      exact X_ret1 (.inl rfl) rfl rfl ⟨rfl, kk2⟩
    · refine R_pu (pu_false (pu_move rfl) g1_8) rfl ?_
      refine R_gpu rfl rfl (pu_move rfl) rfl ?_
      refine R_gpu rfl rfl (pu_len Tryz.underlying22 rfl) rfl ?_
      refine R_gpu rfl rfl (pu_gtr (p := X.length > 300) rfl rfl (by omega)) rfl ?_
      by_cases g1_12 : X.length > 300
      · refine R_gpu rfl rfl (pu_true (pu_move rfl) g1_12) rfl ?_
        refine R_gpu rfl rfl (pu_move rfl) rfl ?_
        refine R_gpu rfl rfl (pu_len Tryz.underlying22 rfl) rfl ?_
        refine R_gpu rfl rfl (pu_leq (p := X.length ≤ 2064) rfl rfl (by omega)) rfl ?_
        refine R_gpu rfl rfl (pu_pickt rfl rfl) rfl ?_
        refine R_pu (pu_pickf rfl rfl) rfl ?_
        by_cases g1_18 : X.length ≤ 2064
        · refine R_pu (pu_true (pu_move rfl) g1_18) rfl ?_
          refine R_gno rfl rfl rfl rfl ?_
          refine R_gno rfl rfl rfl rfl ?_
          refine R_gno rfl rfl rfl rfl ?_
          refine R_gno rfl rfl rfl rfl ?_
          refine R_gno rfl rfl rfl rfl ?_
          refine R_gun rfl rfl rfl ?_
          refine R_gun rfl rfl rfl ?_
          refine R_gun rfl rfl rfl ?_
          refine R_gun rfl rfl rfl ?_
          refine R_gno rfl rfl rfl rfl ?_
          refine R_pu (pu_pickt rfl rfl) rfl ?_
          refine R_nil ?_
          refine X_then hK3 ?_
          refine C_true rfl ?_
          refine C_seq (fun K6 hK6 => ?_)
          refine C_region ?_
          have o7 : Gt w1 := (hG.no k1)
          refine R_lo (lo_call (by kernel_rfl) rfl (sure11 _ o7)) rfl ?_
          rintro _ w3 ⟨rfl, k3⟩
          have kk3 := kk1.then_ k3
          refine R_pu (pu_assign rfl) rfl ?_
          refine R_nil ?_
          refine X_then hK6 ?_
          refine C_ret ?_
          refine X_then_ret ?_
          exact X_ret1 (.inl rfl) rfl rfl ⟨rfl, kk3⟩
        · refine R_pu (pu_false (pu_move rfl) g1_18) rfl ?_
          refine R_gpu rfl rfl (pu_fieldAddr (off := 2) (o' := 2) (by kernel_rfl) rfl rfl) rfl ?_
          refine R_gpu rfl rfl (pu_loadK f_pc_1 (by kernel_rfl) rfl rfl) rfl ?_
          refine R_gpu rfl rfl (pu_len Tryz.underlying22 rfl) rfl ?_
          refine R_gpu rfl rfl (pu_gtr (p := D.length > 300) rfl rfl (by omega)) rfl ?_
          by_cases g1_23 : D.length > 300
          · refine R_gpu rfl rfl (pu_true (pu_move rfl) g1_23) rfl ?_
            refine R_gpu rfl rfl (pu_fieldAddr (off := 2) (o' := 2) (by kernel_rfl) rfl rfl) rfl ?_
            refine R_gpu rfl rfl (pu_loadK f_pc_1 (by kernel_rfl) rfl rfl) rfl ?_
            refine R_gpu rfl rfl (pu_len Tryz.underlying22 rfl) rfl ?_
            refine R_gpu rfl rfl (pu_leq (p := D.length ≤ 2048) rfl rfl (by omega)) rfl ?_
            refine R_gpu rfl rfl (pu_pickt rfl rfl) rfl ?_
            refine R_pu (pu_pickf rfl rfl) rfl ?_
            refine R_nil ?_
            refine X_then hK3 ?_
            refine C_dec rfl (fun h52 => ?_) (fun h52 => ?_)
            · refine C_seq (fun K8 hK8 => ?_)
              refine C_region ?_
              have o9 : Gt w1 := (hG.no k1)
              refine R_lo (lo_call (by kernel_rfl) rfl (sure11 _ o9)) rfl ?_
              rintro _ w4 ⟨rfl, k4⟩
              have kk4 := kk1.then_ k4
              refine R_pu (pu_assign rfl) rfl ?_
              refine R_nil ?_
              refine X_then hK8 ?_
              refine C_ret ?_
              refine X_then_ret ?_
              exact X_ret1 (.inl rfl) rfl rfl ⟨rfl, kk4⟩
            · refine C_skip ?_
              refine X_then hK2 ?_
              refine C_seq (fun K10 hK10 => ?_)
              refine C_region ?_
              refine R_pu (pu_assign rfl) rfl ?_
              refine R_nil ?_
              refine X_then hK10 ?_
              refine C_seq (fun K11 hK11 => ?_)
              refine C_region ?_
              refine R_pu (pu_move rfl) rfl ?_
              refine R_pu (pu_fieldAddr (off := 1) (o' := 1) (by kernel_rfl) rfl rfl) rfl ?_
              refine R_pu (pu_loadK f_pc_1 (by kernel_rfl) rfl rfl) rfl ?_
              refine R_pu (pu_move rfl) rfl ?_
              refine R_pu (pu_fieldAddr (off := 2) (o' := 2) (by kernel_rfl) rfl rfl) rfl ?_
              refine R_pu (pu_loadK f_pc_1 (by kernel_rfl) rfl rfl) rfl ?_
              refine R_lo (lo_call (by kernel_rfl) rfl (gcm_seal_nil A1 N c1 A3 M c3 A2 D c2 _ (HN.keptNo kk1) hn (HM.keptNo kk1) hm (HD.keptNo kk1) hd)) rfl ?_
              rintro _ w5 ⟨rfl, k5⟩
              have kk5 := kk1.then_ k5
              refine R_pu (pu_move rfl) rfl ?_
              refine R_pu (pu_extract rfl rfl) rfl ?_
              refine R_pu (pu_extract rfl rfl) rfl ?_
              refine R_pu (pu_assign rfl) rfl ?_
              refine R_pu (pu_assign rfl) rfl ?_
              refine R_nil ?_
              refine X_then hK11 ?_
              refine C_seq (fun K12 hK12 => ?_)
              refine C_region ?_
              refine R_pu (pu_move rfl) rfl ?_
              refine R_pu (pu_fieldAddr (off := 1) (o' := 1) (by kernel_rfl) rfl rfl) rfl ?_
              have f13 : Bk w5 pc ([.slice A0 (Y.length) (c0), .slice A1 (N.length) (c1), .slice A2 (D.length) (c2)]) 24 := (f_pc_1.no k5)
              refine R_pu (pu_loadK f13 (by kernel_rfl) rfl rfl) rfl ?_
              refine R_pu (pu_move rfl) rfl ?_
              refine R_pu (pu_fieldAddr (off := 2) (o' := 2) (by kernel_rfl) rfl rfl) rfl ?_
              refine R_pu (pu_loadK f13 (by kernel_rfl) rfl rfl) rfl ?_
              refine R_lo (lo_call (by kernel_rfl) rfl (gcm_open_nil A1 N c1 A4 X c4 A2 D c2 _ (HN.keptNo kk5) hn (HX.keptNo kk5) hx (HD.keptNo kk5) hd)) rfl ?_
              rintro _ w6 ⟨rfl, k6⟩
              have kk6 := kk5.then_ k6
              refine R_pu (pu_move rfl) rfl ?_
              refine R_pu (pu_extract rfl rfl) rfl ?_
              refine R_pu (pu_extract rfl rfl) rfl ?_
              refine R_pu (pu_assign rfl) rfl ?_
              refine R_pu (pu_assign rfl) rfl ?_
              refine R_nil ?_
              refine X_then hK12 ?_
              refine C_seq (fun K14 hK14 => ?_)
              refine C_seq (fun K15 hK15 => ?_)
              refine C_region ?_
              refine R_pu (pu_move rfl) rfl ?_
              have o16 : Gt w6 := (((hG.no k1).no k5).no k6)
              refine R_lo (lo_call (by kernel_rfl) rfl (num11_err 1 _ o16)) rfl ?_
              rintro _ w7 ⟨rfl, k7⟩
              have kk7 := kk6.then_ k7
              refine R_pu (pu_false (pu_neq (p := (1 : Nat) = 1) rfl rfl (by omega)) (by decide)) rfl ?_
              refine R_pu (pu_move rfl) rfl ?_
              refine R_gpu rfl rfl (pu_move rfl) rfl ?_
              have o17 : Gt w7 := (o16.no k7)
              refine R_glo rfl rfl (lo_call (by kernel_rfl) rfl (num11_err 1 _ o17)) rfl ?_
              rintro _ w8 ⟨rfl, k8⟩
              have kk8 := kk7.then_ k8
              refine R_gpu rfl rfl (pu_false (pu_neq (p := (1 : Nat) = 1) rfl rfl (by omega)) (by decide)) rfl ?_
              refine R_pu (pu_pickf rfl rfl) rfl ?_
              refine R_pu (pu_move rfl) rfl ?_
              refine R_gpu rfl rfl (pu_move rfl) rfl ?_
              refine R_gpu rfl rfl (pu_fieldAddr (off := 1) (o' := 1) (by kernel_rfl) rfl rfl) rfl ?_
              have f18 : Bk w8 pc ([.slice A0 (Y.length) (c0), .slice A1 (N.length) (c1), .slice A2 (D.length) (c2)]) 24 := (((f13.no k6).no k7).no k8)
              refine R_gpu rfl rfl (pu_loadK f18 (by kernel_rfl) rfl rfl) rfl ?_
              refine R_gpu rfl rfl (pu_move rfl) rfl ?_
              refine R_gpu rfl rfl (pu_fieldAddr (off := 2) (o' := 2) (by kernel_rfl) rfl rfl) rfl ?_
              refine R_gpu rfl rfl (pu_loadK f18 (by kernel_rfl) rfl rfl) rfl ?_
              refine R_glo rfl rfl (lo_call (by kernel_rfl) rfl (gcm_opens_nil A1 N c1 A4 X c4 A2 D c2 _ (HN.keptNo kk8) hn (HX.keptNo kk8) hx (HD.keptNo kk8) hd)) rfl ?_
              rintro _ w9 ⟨rfl, k9⟩
              have kk9 := kk8.then_ k9
              refine R_pu (pu_pickf rfl rfl) rfl ?_
              refine R_nil ?_
              refine X_then hK15 ?_
              refine C_false rfl ?_
              refine C_skip ?_
              refine X_then hK14 ?_
              by_cases h32 : Y.length = 32
              · refine C_seq (fun K19 hK19 => ?_)
                refine C_region ?_
                refine R_pu (pu_fieldAddr (off := 0) (o' := 0) (by kernel_rfl) rfl rfl) rfl ?_
                have f20 : Bk w9 pc ([.slice A0 (Y.length) (c0), .slice A1 (N.length) (c1), .slice A2 (D.length) (c2)]) 24 := (f18.no k9)
                refine R_pu (pu_loadK f20 (by kernel_rfl) rfl rfl) rfl ?_
                have o21 : Gt w9 := ((o17.no k8).no k9)
                have bK_kp : By 32 Y := ⟨h32, HY.byte⟩
                have wy_kb : Wy (KW Y) := KW_wy bK_kp.2
                refine R_lo (lo_call (by kernel_rfl) rfl (gcm_new A0 Y c0 _ (HY.keptNo kk9) hy bK_kp.1)) rfl ?_
                rintro _ w10 ⟨kp, kb, kx, rfl, le10, lb10, lx10, n1_10, n2_10, n3_10, P10, B10, T10, k10⟩
                have kk10 := kk9.then_ k10
                have ne_kp_pc : kp ≠ pc := Nat.ne_of_gt (Nat.lt_of_lt_of_le f20.lt le10)
                have ne_kp_0 : kp ≠ 0 := Nat.ne_of_gt (Nat.lt_of_lt_of_le o21.lt le10)
                have ne_kb_pc : kb ≠ pc := Nat.ne_of_gt (Nat.lt_of_lt_of_le f20.lt lb10)
                have ne_kb_0 : kb ≠ 0 := Nat.ne_of_gt (Nat.lt_of_lt_of_le o21.lt lb10)
                have ne_kx_pc : kx ≠ pc := Nat.ne_of_gt (Nat.lt_of_lt_of_le f20.lt lx10)
                have ne_kx_0 : kx ≠ 0 := Nat.ne_of_gt (Nat.lt_of_lt_of_le o21.lt lx10)
                refine R_pu (pu_move rfl) rfl ?_
                refine R_pu (pu_extract rfl rfl) rfl ?_
                refine R_pu (pu_extract rfl rfl) rfl ?_
                refine R_pu (pu_assign rfl) rfl ?_
                refine R_pu (pu_assign rfl) rfl ?_
                refine R_nil ?_
                refine X_then hK19 ?_
                refine C_seq (fun K22 hK22 => ?_)
                refine C_seq (fun K23 hK23 => ?_)
                refine C_region ?_
                refine R_pu (pu_fieldAddr (off := 0) (o' := 0) (by kernel_rfl) rfl rfl) rfl ?_
                have f24 : Bk w10 pc ([.slice A0 (Y.length) (c0), .slice A1 (N.length) (c1), .slice A2 (D.length) (c2)]) 24 := (f20.no k10)
                refine R_pu (pu_loadK f24 (by kernel_rfl) rfl rfl) rfl ?_
                refine R_pu (pu_len Tryz.underlying22 rfl) rfl ?_
                refine R_pu (pu_neq (p := Y.length = 32) rfl rfl (by omega)) rfl ?_
                refine R_nil ?_
                refine X_then hK23 ?_
                refine C_decf rfl (fun h => h h32) ?_
                refine C_skip ?_
                refine X_then hK22 ?_
                refine C_seq (fun K25 hK25 => ?_)
                refine C_region ?_
                refine R_pu (pu_fieldAddr (off := 0) (o' := 0) (by kernel_rfl) rfl rfl) rfl ?_
                refine R_pu (pu_loadK f24 (by kernel_rfl) rfl rfl) rfl ?_
                refine R_lo (lo_call (by kernel_rfl) rfl (ref11_ready A0 Y c0 _ (HY.keptNo kk10) hy h32)) rfl ?_
                rintro _ w11 ⟨rfl, k11⟩
                have kk11 := kk10.then_ k11
                have f26 : Bk w11 pc ([.slice A0 (Y.length) (c0), .slice A1 (N.length) (c1), .slice A2 (D.length) (c2)]) 24 := (f24.no k11)
                have f27 : Bk w11 kp (gkL kb (gmH Y)) 59 := (P10.no k11)
                have f28 : Bk w11 kb (keyL kx (KW Y)) 88 := (B10.no k11)
                have o29 : Gt w11 := ((o21.no k10).no k11)
                have o30 : Sx w11 kx := (T10.no k11)
                refine R_lo (lo_alloc (L := u8s (List.replicate 512 0)) (by kernel_rfl)) rfl ?_
                rintro _ w12 ⟨pr, rfl, N12⟩
                have k12 := N12.kp
                have kk12 := kk11.then_ k12
                have ne_pr_pc : pr ≠ pc := Nat.ne_of_gt (Nat.lt_of_lt_of_le f26.lt N12.le)
                have ne_pr_kp : pr ≠ kp := Nat.ne_of_gt (Nat.lt_of_lt_of_le f27.lt N12.le)
                have ne_pr_kb : pr ≠ kb := Nat.ne_of_gt (Nat.lt_of_lt_of_le f28.lt N12.le)
                have ne_pr_0 : pr ≠ 0 := Nat.ne_of_gt (Nat.lt_of_lt_of_le o29.lt N12.le)
                have ne_pr_kx : pr ≠ kx := Nat.ne_of_gt (Nat.lt_of_lt_of_le o30.lt N12.le)
                have f_pr_12 : Bk w12 pr (u8s (List.replicate 512 0)) 42 := N12.bk
                refine R_lo0 (lo_storeRow (C := u8s (RKL Y)) f_pr_12 (by rw [u8s_length, (RKL_by Y).1]; kernel_rfl) rfl rfl (u8s_each _) ((u8s_length _).trans ((RKL_by Y).1.trans ((rep_by 512).1.symm.trans (u8s_length _).symm)))) ?_
                rintro _ w13 kf13
                obtain ⟨k13, f_pr_13⟩ := kf13
                replace f_pr_13 : Bk w13 pr (u8s (RKL Y)) 42 := f_pr_13
                have kk13 := kk12.trans k13 (fun i hi => .inr (hi ▸ (Nat.le_trans kk11.size N12.le)))
                refine R_nil ?_
                refine X_then hK25 ?_
                refine C_seq (fun K31 hK31 => ?_)
                obtain ⟨E1, hE1⟩ : ∃ E, E = sealE N M D := ⟨_, rfl⟩; obtain ⟨E2, hE2⟩ : ∃ E, E = openE Y N X D := ⟨_, rfl⟩
                refine C_region ?_
                refine R_pu (pu_move rfl) rfl ?_
                refine R_pu (pu_fieldAddr (off := 1) (o' := 1) (by kernel_rfl) rfl rfl) rfl ?_
                have f32 : Bk w13 pc ([.slice A0 (Y.length) (c0), .slice A1 (N.length) (c1), .slice A2 (D.length) (c2)]) 24 := ((f26.no k12).on k13 (Ne.symm ne_pr_pc))
                refine R_pu (pu_loadK f32 (by kernel_rfl) rfl rfl) rfl ?_
                refine R_pu (pu_move rfl) rfl ?_
                refine R_pu (pu_fieldAddr (off := 2) (o' := 2) (by kernel_rfl) rfl rfl) rfl ?_
                refine R_pu (pu_loadK f32 (by kernel_rfl) rfl rfl) rfl ?_
                have f33 : Bk w13 kp (gkL kb (gmH Y)) 59 := ((f27.no k12).on k13 (Ne.symm ne_pr_kp))
                have f34 : Bk w13 kb (keyL kx (KW Y)) 88 := ((f28.no k12).on k13 (Ne.symm ne_pr_kb))
                have o35 : Sx w13 kx := ((o30.no k12).on k13 (Ne.symm ne_pr_kx))
                have o36 : Gt w13 := ((o29.no k12).on k13 (Ne.symm ne_pr_0))
                refine R_lo (lo_call (by kernel_rfl) rfl (gcm_seal_all kp kb kx Y A1 N c1 A3 M c3 A2 D c2 E1 _ bK_kp n1_10 n2_10 n3_10 f33 f34 o35 (HN.keptNo kk13) hn (HN.aw (Nat.le_trans kk9.size lx10)) (HM.keptNo kk13) hm (HM.aw (Nat.le_trans kk9.size lx10)) (HD.keptNo kk13) hd (HD.aw (Nat.le_trans kk9.size lx10)) hE1)) rfl ?_
                rintro _ w14 ⟨A_sa, c_sa, ev_sa, rfl, he_sa, Q14, T14, k14⟩
                have kk14 := kk13.trans k14 (fun i hi => .inr (hi ▸ (Nat.le_trans kk9.size lx10)))
                have z37 : w13.heap.size ≤ w14.heap.size := k14.size
                refine R_pu (pu_move rfl) rfl ?_
                refine R_pu (pu_extract rfl rfl) rfl ?_
                refine R_pu (pu_extract rfl rfl) rfl ?_
                refine R_pu (pu_assign rfl) rfl ?_
                refine R_pu (pu_assign rfl) rfl ?_
                refine R_nil ?_
                refine X_then hK31 ?_
                refine C_seq (fun K38 hK38 => ?_)
                refine C_region ?_
                have f39 : Bk w14 pr (u8s (RKL Y)) 42 := (f_pr_13.on k14 ne_pr_kx)
                refine R_pu (pu_loadRow (len := 512) f39 (by kernel_rfl) (by kernel_rfl) (by rw [u8s_length]; exact (RKL_by Y).1) rfl) rfl ?_
                refine R_pu (pu_fieldAddr (off := 1) (o' := 1) (by kernel_rfl) rfl rfl) rfl ?_
                have f40 : Bk w14 pc ([.slice A0 (Y.length) (c0), .slice A1 (N.length) (c1), .slice A2 (D.length) (c2)]) 24 := (f32.on k14 (Ne.symm ne_kx_pc))
                refine R_pu (pu_loadK f40 (by kernel_rfl) rfl rfl) rfl ?_
                refine R_pu (pu_move rfl) rfl ?_
                refine R_pu (pu_fieldAddr (off := 2) (o' := 2) (by kernel_rfl) rfl rfl) rfl ?_
                refine R_pu (pu_loadK f40 (by kernel_rfl) rfl rfl) rfl ?_
                have f41 : Bk w14 kp (gkL kb (gmH Y)) 59 := (f33.on k14 n2_10)
                have f42 : Bk w14 kb (keyL kx (KW Y)) 88 := (f34.on k14 n3_10)
                have o43 : Gt w14 := (o36.on k14 (Ne.symm ne_kx_0))
                have lm44 := Q14.top
                refine R_lo (lo_call (by kernel_rfl) rfl (ref11_seal_all Y A1 N c1 A3 M c3 A2 D c2 E1 _ (HN.keptNo kk14) hn (HM.keptNo kk14) hm (HD.keptNo kk14) hd hE1)) rfl ?_
                rintro _ w15 ⟨A_sb, c_sb, rfl, Q15, k15⟩
                have kk15 := kk14.then_ k15
                have z45 : w14.heap.size ≤ w15.heap.size := k15.size
                refine R_pu (pu_move rfl) rfl ?_
                refine R_pu (pu_extract rfl rfl) rfl ?_
                refine R_pu (pu_extract rfl rfl) rfl ?_
                refine R_pu (pu_assign rfl) rfl ?_
                refine R_pu (pu_assign rfl) rfl ?_
                refine R_nil ?_
                refine X_then hK38 ?_
                refine C_seq (fun K46 hK46 => ?_)
                refine C_region ?_
                refine R_pu (pu_move rfl) rfl ?_
                refine R_pu (pu_fieldAddr (off := 1) (o' := 1) (by kernel_rfl) rfl rfl) rfl ?_
                have f47 : Bk w15 pc ([.slice A0 (Y.length) (c0), .slice A1 (N.length) (c1), .slice A2 (D.length) (c2)]) 24 := (f40.no k15)
                refine R_pu (pu_loadK f47 (by kernel_rfl) rfl rfl) rfl ?_
                refine R_pu (pu_move rfl) rfl ?_
                refine R_pu (pu_fieldAddr (off := 2) (o' := 2) (by kernel_rfl) rfl rfl) rfl ?_
                refine R_pu (pu_loadK f47 (by kernel_rfl) rfl rfl) rfl ?_
                have f48 : Bk w15 kp (gkL kb (gmH Y)) 59 := (f41.no k15)
                have f49 : Bk w15 kb (keyL kx (KW Y)) 88 := (f42.no k15)
                have o50 : Sx w15 kx := (T14.no k15)
                have f51 : Bk w15 pr (u8s (RKL Y)) 42 := (f39.no k15)
                have o52 : Gt w15 := (o43.no k15)
                have ob54 := (Q14.keptNo k15)
                have lm53 := ob54.top
                have lm55 := Q15.top
                refine R_lo (lo_call (by kernel_rfl) rfl (gcm_open_all kp kb kx Y A1 N c1 A4 X c4 A2 D c2 E2 _ bK_kp n1_10 n2_10 n3_10 f48 f49 o50 (HN.keptNo kk15) hn (HN.aw (Nat.le_trans kk9.size lx10)) (HX.keptNo kk15) hx (HX.aw (Nat.le_trans kk9.size lx10)) (HD.keptNo kk15) hd (HD.aw (Nat.le_trans kk9.size lx10)) hE2)) rfl ?_
                rintro _ w16 ⟨A_oa, c_oa, ev_oa, rfl, he_oa, Q16, T16, k16⟩
                have kk16 := kk15.trans k16 (fun i hi => .inr (hi ▸ (Nat.le_trans kk9.size lx10)))
                have z56 : w15.heap.size ≤ w16.heap.size := k16.size
                refine R_pu (pu_move rfl) rfl ?_
                refine R_pu (pu_extract rfl rfl) rfl ?_
                refine R_pu (pu_extract rfl rfl) rfl ?_
                refine R_pu (pu_assign rfl) rfl ?_
                refine R_pu (pu_assign rfl) rfl ?_
                refine R_nil ?_
                refine X_then hK46 ?_
                refine C_seq (fun K57 hK57 => ?_)
                refine C_region ?_
                have f58 : Bk w16 pr (u8s (RKL Y)) 42 := (f51.on k16 ne_pr_kx)
                refine R_pu (pu_loadRow (len := 512) f58 (by kernel_rfl) (by kernel_rfl) (by rw [u8s_length]; exact (RKL_by Y).1) rfl) rfl ?_
                refine R_pu (pu_fieldAddr (off := 1) (o' := 1) (by kernel_rfl) rfl rfl) rfl ?_
                have f59 : Bk w16 pc ([.slice A0 (Y.length) (c0), .slice A1 (N.length) (c1), .slice A2 (D.length) (c2)]) 24 := (f47.on k16 (Ne.symm ne_kx_pc))
                refine R_pu (pu_loadK f59 (by kernel_rfl) rfl rfl) rfl ?_
                refine R_pu (pu_move rfl) rfl ?_
                refine R_pu (pu_fieldAddr (off := 2) (o' := 2) (by kernel_rfl) rfl rfl) rfl ?_
                refine R_pu (pu_loadK f59 (by kernel_rfl) rfl rfl) rfl ?_
                have f60 : Bk w16 kp (gkL kb (gmH Y)) 59 := (f48.on k16 n2_10)
                have f61 : Bk w16 kb (keyL kx (KW Y)) 88 := (f49.on k16 n3_10)
                have o62 : Gt w16 := (o52.on k16 (Ne.symm ne_kx_0))
                have ob64 := (ob54.on k16 (by have := o35.lt; omega))
                have lm63 := ob64.top
                have ob66 := (Q15.on k16 (by have := T14.lt; omega))
                have lm65 := ob66.top
                have lm67 := Q16.top
                refine R_lo (lo_call (by kernel_rfl) rfl (ref11_open_all Y A1 N c1 A4 X c4 A2 D c2 E2 _ (HN.keptNo kk16) hn (HX.keptNo kk16) hx (HD.keptNo kk16) hd hE2)) rfl ?_
                rintro _ w17 ⟨A_ob, c_ob, rfl, Q17, k17⟩
                have kk17 := kk16.then_ k17
                have z68 : w16.heap.size ≤ w17.heap.size := k17.size
                refine R_pu (pu_move rfl) rfl ?_
                refine R_pu (pu_extract rfl rfl) rfl ?_
                refine R_pu (pu_extract rfl rfl) rfl ?_
                refine R_pu (pu_assign rfl) rfl ?_
                refine R_pu (pu_assign rfl) rfl ?_
                refine R_nil ?_
                refine X_then hK57 ?_
                refine C_seq (fun K69 hK69 => ?_)
                refine C_region ?_
                refine R_pu (pu_move rfl) rfl ?_
                refine R_pu (pu_eqlnn (by kernel_rfl) rfl) rfl ?_
                refine R_pu (pu_move rfl) rfl ?_
                refine R_gpu rfl rfl (pu_move rfl) rfl ?_
                have ob70 := (ob64.keptNo k17)
                refine R_gpu rfl rfl (pu_bstr ob70.bs Tryz.underlying22 Tryz.underlying5 Tryz.underlying9 rfl rfl) rfl ?_
                refine R_gpu rfl rfl (pu_move rfl) rfl ?_
                have ob71 := (ob66.keptNo k17)
                refine R_gpu rfl rfl (pu_bstr ob71.bs Tryz.underlying22 Tryz.underlying5 Tryz.underlying9 rfl rfl) rfl ?_
                refine R_gpu rfl rfl (pu_true (pu_eqls (p := (subI E1 (sealB Y N M D) []) = (subI E1 (sealB Y N M D) [])) rfl rfl (bstr_inj (ob70.bs).byte (ob71.bs).byte)) rfl) rfl ?_
                refine R_pu (pu_pickt rfl rfl) rfl ?_
                refine R_pu (pu_move rfl) rfl ?_
                refine R_gpu rfl rfl (pu_move rfl) rfl ?_
                have o72 : Gt w17 := (o62.no k17)
                refine R_glo rfl rfl (lo_call (by kernel_rfl) rfl (num_errv E1 ev_sa _ he_sa o72)) rfl ?_
                rintro _ w18 ⟨rfl, k18⟩
                have kk18 := kk17.then_ k18
                refine R_gpu rfl rfl (pu_move rfl) rfl ?_
                refine R_gpu rfl rfl (pu_true (pu_eql (p := E1 = E1) rfl rfl (by omega)) rfl) rfl ?_
                refine R_pu (pu_pickt rfl rfl) rfl ?_
                refine R_pu (pu_move rfl) rfl ?_
                refine R_gpu rfl rfl (pu_move rfl) rfl ?_
                have ob73 := ((Q16.keptNo k17).keptNo k18)
                refine R_gpu rfl rfl (pu_bstr ob73.bs Tryz.underlying22 Tryz.underlying5 Tryz.underlying9 rfl rfl) rfl ?_
                refine R_gpu rfl rfl (pu_move rfl) rfl ?_
                have ob74 := (Q17.keptNo k18)
                refine R_gpu rfl rfl (pu_bstr ob74.bs Tryz.underlying22 Tryz.underlying5 Tryz.underlying9 rfl rfl) rfl ?_
                refine R_gpu rfl rfl (pu_true (pu_eqls (p := (subI E2 (cphB Y N (X.take (X.length - 16))) []) = (subI E2 (cphB Y N (X.take (X.length - 16))) [])) rfl rfl (bstr_inj (ob73.bs).byte (ob74.bs).byte)) rfl) rfl ?_
                refine R_pu (pu_pickt rfl rfl) rfl ?_
                refine R_pu (pu_move rfl) rfl ?_
                refine R_gpu rfl rfl (pu_move rfl) rfl ?_
                have o75 : Gt w18 := (o72.no k18)
                refine R_glo rfl rfl (lo_call (by kernel_rfl) rfl (num_errv E2 ev_oa _ he_oa o75)) rfl ?_
                rintro _ w19 ⟨rfl, k19⟩
                have kk19 := kk18.then_ k19
                refine R_gpu rfl rfl (pu_move rfl) rfl ?_
                refine R_gpu rfl rfl (pu_true (pu_eql (p := E2 = E2) rfl rfl (by omega)) rfl) rfl ?_
                refine R_pu (pu_pickt rfl rfl) rfl ?_
                refine R_pu (pu_move rfl) rfl ?_
                refine R_gpu rfl rfl (pu_move rfl) rfl ?_
                refine R_gpu rfl rfl (pu_fieldAddr (off := 1) (o' := 1) (by kernel_rfl) rfl rfl) rfl ?_
                have f76 : Bk w19 pc ([.slice A0 (Y.length) (c0), .slice A1 (N.length) (c1), .slice A2 (D.length) (c2)]) 24 := (((f59.no k17).no k18).no k19)
                refine R_gpu rfl rfl (pu_loadK f76 (by kernel_rfl) rfl rfl) rfl ?_
                refine R_gpu rfl rfl (pu_move rfl) rfl ?_
                refine R_gpu rfl rfl (pu_fieldAddr (off := 2) (o' := 2) (by kernel_rfl) rfl rfl) rfl ?_
                refine R_gpu rfl rfl (pu_loadK f76 (by kernel_rfl) rfl rfl) rfl ?_
                have f77 : Bk w19 kp (gkL kb (gmH Y)) 59 := (((f60.no k17).no k18).no k19)
                have f78 : Bk w19 kb (keyL kx (KW Y)) 88 := (((f61.no k17).no k18).no k19)
                have o79 : Sx w19 kx := (((T16.no k17).no k18).no k19)
                refine R_glo rfl rfl (lo_call (by kernel_rfl) rfl (gcm_opens_all kp kb kx Y A1 N c1 A4 X c4 A2 D c2 _ bK_kp n1_10 n2_10 n3_10 f77 f78 o79 (HN.keptNo kk19) hn (HN.aw (Nat.le_trans kk9.size lx10)) (HX.keptNo kk19) hx (HX.aw (Nat.le_trans kk9.size lx10)) (HD.keptNo kk19) hd (HD.aw (Nat.le_trans kk9.size lx10)))) rfl ?_
                rintro _ w20 ⟨rfl, T20, k20⟩
                have kk20 := kk19.trans k20 (fun i hi => .inr (hi ▸ (Nat.le_trans kk9.size lx10)))
                refine R_gpu rfl rfl (pu_move rfl) rfl ?_
                refine R_gpu rfl rfl (pu_eql (p := E2 = 0) rfl rfl (by omega)) rfl ?_
                refine R_gpu rfl rfl (pu_b (pu_eqlb Tryz.underlying4 rfl rfl) (show (decide (openE Y N X D = 0) == decide (E2 = 0)) = true by subst hE2; exact beq_self_eq_true _)) rfl ?_
                refine R_pu (pu_pickt rfl rfl) rfl ?_
                refine R_pu (pu_move rfl) rfl ?_
                have o80 : Gt w20 := ((o75.no k19).on k20 (Ne.symm ne_kx_0))
                refine R_glo rfl rfl (lo_call (by kernel_rfl) rfl (sure11 _ o80)) rfl ?_
                rintro _ w21 ⟨rfl, k21⟩
                have kk21 := kk20.then_ k21
                refine R_pu (pu_pickt rfl rfl) rfl ?_
                refine R_pu (pu_assign rfl) rfl ?_
                refine R_nil ?_
                refine X_then hK69 ?_
                refine C_ret ?_
                exact X_ret1 (.inl rfl) rfl rfl ⟨rfl, kk21⟩
              · refine C_seq (fun K81 hK81 => ?_)
                refine C_region ?_
                refine R_pu (pu_fieldAddr (off := 0) (o' := 0) (by kernel_rfl) rfl rfl) rfl ?_
                have f82 : Bk w9 pc ([.slice A0 (Y.length) (c0), .slice A1 (N.length) (c1), .slice A2 (D.length) (c2)]) 24 := (f18.no k9)
                refine R_pu (pu_loadK f82 (by kernel_rfl) rfl rfl) rfl ?_
                refine R_lo (lo_call (by kernel_rfl) rfl (gcm_new_err A0 Y c0 _ (HY.keptNo kk9) hy h32)) rfl ?_
                rintro _ w22 ⟨rfl, k22⟩
                have kk22 := kk9.then_ k22
                refine R_pu (pu_move rfl) rfl ?_
                refine R_pu (pu_extract rfl rfl) rfl ?_
                refine R_pu (pu_extract rfl rfl) rfl ?_
                refine R_pu (pu_assign rfl) rfl ?_
                refine R_pu (pu_assign rfl) rfl ?_
                refine R_nil ?_
                refine X_then hK81 ?_
                refine C_seq (fun K83 hK83 => ?_)
                refine C_seq (fun K84 hK84 => ?_)
                refine C_region ?_
                refine R_pu (pu_fieldAddr (off := 0) (o' := 0) (by kernel_rfl) rfl rfl) rfl ?_
                have f85 : Bk w22 pc ([.slice A0 (Y.length) (c0), .slice A1 (N.length) (c1), .slice A2 (D.length) (c2)]) 24 := (f82.no k22)
                refine R_pu (pu_loadK f85 (by kernel_rfl) rfl rfl) rfl ?_
                refine R_pu (pu_len Tryz.underlying22 rfl) rfl ?_
                refine R_pu (pu_neq (p := Y.length = 32) rfl rfl (by omega)) rfl ?_
                refine R_nil ?_
                refine X_then hK84 ?_
                refine C_dect rfl h32 ?_
                refine C_seq (fun K86 hK86 => ?_)
                refine C_region ?_
                refine R_pu (pu_move rfl) rfl ?_
                have o87 : Gt w22 := (((o17.no k8).no k9).no k22)
                refine R_lo (lo_call (by kernel_rfl) rfl (num11_err 1 _ o87)) rfl ?_
                rintro _ w23 ⟨rfl, k23⟩
                have kk23 := kk22.then_ k23
                refine R_pu (pu_true (pu_eql (p := (1 : Nat) = 1) rfl rfl (by omega)) (by decide)) rfl ?_
                refine R_pu (pu_move rfl) rfl ?_
                refine R_gpu rfl rfl (pu_move rfl) rfl ?_
                refine R_gpu rfl rfl (pu_eqlpn (by kernel_rfl) rfl rfl) rfl ?_
                refine R_pu (pu_pickt rfl rfl) rfl ?_
                refine R_pu (pu_move rfl) rfl ?_
                have o88 : Gt w23 := (o87.no k23)
                refine R_glo rfl rfl (lo_call (by kernel_rfl) rfl (sure11 _ o88)) rfl ?_
                rintro _ w24 ⟨rfl, k24⟩
                have kk24 := kk23.then_ k24
                refine R_pu (pu_pickt rfl rfl) rfl ?_
                refine R_pu (pu_assign rfl) rfl ?_
                refine R_nil ?_
                refine X_then hK86 ?_
                refine C_ret ?_
                refine X_then_ret ?_
                exact X_ret1 (.inl rfl) rfl rfl ⟨rfl, kk24⟩
          · refine R_gpu rfl rfl (pu_false (pu_move rfl) g1_23) rfl ?_
            refine R_gno rfl rfl rfl rfl ?_
            refine R_gno rfl rfl rfl rfl ?_
            refine R_gno rfl rfl rfl rfl ?_
            refine R_gno rfl rfl rfl rfl ?_
            refine R_gpu rfl rfl (pu_pickf rfl rfl) rfl ?_
            refine R_pu (pu_pickf rfl rfl) rfl ?_
            refine R_nil ?_
            refine X_then hK3 ?_
            refine C_false rfl ?_
            refine C_skip ?_
            refine X_then hK2 ?_
            refine C_seq (fun K89 hK89 => ?_)
            refine C_region ?_
            refine R_pu (pu_assign rfl) rfl ?_
            refine R_nil ?_
            refine X_then hK89 ?_
            refine C_seq (fun K90 hK90 => ?_)
            refine C_region ?_
            refine R_pu (pu_move rfl) rfl ?_
            refine R_pu (pu_fieldAddr (off := 1) (o' := 1) (by kernel_rfl) rfl rfl) rfl ?_
            refine R_pu (pu_loadK f_pc_1 (by kernel_rfl) rfl rfl) rfl ?_
            refine R_pu (pu_move rfl) rfl ?_
            refine R_pu (pu_fieldAddr (off := 2) (o' := 2) (by kernel_rfl) rfl rfl) rfl ?_
            refine R_pu (pu_loadK f_pc_1 (by kernel_rfl) rfl rfl) rfl ?_
            refine R_lo (lo_call (by kernel_rfl) rfl (gcm_seal_nil A1 N c1 A3 M c3 A2 D c2 _ (HN.keptNo kk1) hn (HM.keptNo kk1) hm (HD.keptNo kk1) hd)) rfl ?_
            rintro _ w25 ⟨rfl, k25⟩
            have kk25 := kk1.then_ k25
            refine R_pu (pu_move rfl) rfl ?_
            refine R_pu (pu_extract rfl rfl) rfl ?_
            refine R_pu (pu_extract rfl rfl) rfl ?_
            refine R_pu (pu_assign rfl) rfl ?_
            refine R_pu (pu_assign rfl) rfl ?_
            refine R_nil ?_
            refine X_then hK90 ?_
            refine C_seq (fun K91 hK91 => ?_)
            refine C_region ?_
            refine R_pu (pu_move rfl) rfl ?_
            refine R_pu (pu_fieldAddr (off := 1) (o' := 1) (by kernel_rfl) rfl rfl) rfl ?_
            have f92 : Bk w25 pc ([.slice A0 (Y.length) (c0), .slice A1 (N.length) (c1), .slice A2 (D.length) (c2)]) 24 := (f_pc_1.no k25)
            refine R_pu (pu_loadK f92 (by kernel_rfl) rfl rfl) rfl ?_
            refine R_pu (pu_move rfl) rfl ?_
            refine R_pu (pu_fieldAddr (off := 2) (o' := 2) (by kernel_rfl) rfl rfl) rfl ?_
            refine R_pu (pu_loadK f92 (by kernel_rfl) rfl rfl) rfl ?_
            refine R_lo (lo_call (by kernel_rfl) rfl (gcm_open_nil A1 N c1 A4 X c4 A2 D c2 _ (HN.keptNo kk25) hn (HX.keptNo kk25) hx (HD.keptNo kk25) hd)) rfl ?_
            rintro _ w26 ⟨rfl, k26⟩
            have kk26 := kk25.then_ k26
            refine R_pu (pu_move rfl) rfl ?_
            refine R_pu (pu_extract rfl rfl) rfl ?_
            refine R_pu (pu_extract rfl rfl) rfl ?_
            refine R_pu (pu_assign rfl) rfl ?_
            refine R_pu (pu_assign rfl) rfl ?_
            refine R_nil ?_
            refine X_then hK91 ?_
            refine C_seq (fun K93 hK93 => ?_)
            refine C_seq (fun K94 hK94 => ?_)
            refine C_region ?_
            refine R_pu (pu_move rfl) rfl ?_
            have o95 : Gt w26 := (((hG.no k1).no k25).no k26)
            refine R_lo (lo_call (by kernel_rfl) rfl (num11_err 1 _ o95)) rfl ?_
            rintro _ w27 ⟨rfl, k27⟩
            have kk27 := kk26.then_ k27
            refine R_pu (pu_false (pu_neq (p := (1 : Nat) = 1) rfl rfl (by omega)) (by decide)) rfl ?_
            refine R_pu (pu_move rfl) rfl ?_
            refine R_gpu rfl rfl (pu_move rfl) rfl ?_
            have o96 : Gt w27 := (o95.no k27)
            refine R_glo rfl rfl (lo_call (by kernel_rfl) rfl (num11_err 1 _ o96)) rfl ?_
            rintro _ w28 ⟨rfl, k28⟩
            have kk28 := kk27.then_ k28
            refine R_gpu rfl rfl (pu_false (pu_neq (p := (1 : Nat) = 1) rfl rfl (by omega)) (by decide)) rfl ?_
            refine R_pu (pu_pickf rfl rfl) rfl ?_
            refine R_pu (pu_move rfl) rfl ?_
            refine R_gpu rfl rfl (pu_move rfl) rfl ?_
            refine R_gpu rfl rfl (pu_fieldAddr (off := 1) (o' := 1) (by kernel_rfl) rfl rfl) rfl ?_
            have f97 : Bk w28 pc ([.slice A0 (Y.length) (c0), .slice A1 (N.length) (c1), .slice A2 (D.length) (c2)]) 24 := (((f92.no k26).no k27).no k28)
            refine R_gpu rfl rfl (pu_loadK f97 (by kernel_rfl) rfl rfl) rfl ?_
            refine R_gpu rfl rfl (pu_move rfl) rfl ?_
            refine R_gpu rfl rfl (pu_fieldAddr (off := 2) (o' := 2) (by kernel_rfl) rfl rfl) rfl ?_
            refine R_gpu rfl rfl (pu_loadK f97 (by kernel_rfl) rfl rfl) rfl ?_
            refine R_glo rfl rfl (lo_call (by kernel_rfl) rfl (gcm_opens_nil A1 N c1 A4 X c4 A2 D c2 _ (HN.keptNo kk28) hn (HX.keptNo kk28) hx (HD.keptNo kk28) hd)) rfl ?_
            rintro _ w29 ⟨rfl, k29⟩
            have kk29 := kk28.then_ k29
            refine R_pu (pu_pickf rfl rfl) rfl ?_
            refine R_nil ?_
            refine X_then hK94 ?_
            refine C_false rfl ?_
            refine C_skip ?_
            refine X_then hK93 ?_
            by_cases h32 : Y.length = 32
            · refine C_seq (fun K98 hK98 => ?_)
              refine C_region ?_
              refine R_pu (pu_fieldAddr (off := 0) (o' := 0) (by kernel_rfl) rfl rfl) rfl ?_
              have f99 : Bk w29 pc ([.slice A0 (Y.length) (c0), .slice A1 (N.length) (c1), .slice A2 (D.length) (c2)]) 24 := (f97.no k29)
              refine R_pu (pu_loadK f99 (by kernel_rfl) rfl rfl) rfl ?_
              have o100 : Gt w29 := ((o96.no k28).no k29)
              have bK_kp : By 32 Y := ⟨h32, HY.byte⟩
              have wy_kb : Wy (KW Y) := KW_wy bK_kp.2
              refine R_lo (lo_call (by kernel_rfl) rfl (gcm_new A0 Y c0 _ (HY.keptNo kk29) hy bK_kp.1)) rfl ?_
              rintro _ w30 ⟨kp, kb, kx, rfl, le30, lb30, lx30, n1_30, n2_30, n3_30, P30, B30, T30, k30⟩
              have kk30 := kk29.then_ k30
              have ne_kp_pc : kp ≠ pc := Nat.ne_of_gt (Nat.lt_of_lt_of_le f99.lt le30)
              have ne_kp_0 : kp ≠ 0 := Nat.ne_of_gt (Nat.lt_of_lt_of_le o100.lt le30)
              have ne_kb_pc : kb ≠ pc := Nat.ne_of_gt (Nat.lt_of_lt_of_le f99.lt lb30)
              have ne_kb_0 : kb ≠ 0 := Nat.ne_of_gt (Nat.lt_of_lt_of_le o100.lt lb30)
              have ne_kx_pc : kx ≠ pc := Nat.ne_of_gt (Nat.lt_of_lt_of_le f99.lt lx30)
              have ne_kx_0 : kx ≠ 0 := Nat.ne_of_gt (Nat.lt_of_lt_of_le o100.lt lx30)
              refine R_pu (pu_move rfl) rfl ?_
              refine R_pu (pu_extract rfl rfl) rfl ?_
              refine R_pu (pu_extract rfl rfl) rfl ?_
              refine R_pu (pu_assign rfl) rfl ?_
              refine R_pu (pu_assign rfl) rfl ?_
              refine R_nil ?_
              refine X_then hK98 ?_
              refine C_seq (fun K101 hK101 => ?_)
              refine C_seq (fun K102 hK102 => ?_)
              refine C_region ?_
              refine R_pu (pu_fieldAddr (off := 0) (o' := 0) (by kernel_rfl) rfl rfl) rfl ?_
              have f103 : Bk w30 pc ([.slice A0 (Y.length) (c0), .slice A1 (N.length) (c1), .slice A2 (D.length) (c2)]) 24 := (f99.no k30)
              refine R_pu (pu_loadK f103 (by kernel_rfl) rfl rfl) rfl ?_
              refine R_pu (pu_len Tryz.underlying22 rfl) rfl ?_
              refine R_pu (pu_neq (p := Y.length = 32) rfl rfl (by omega)) rfl ?_
              refine R_nil ?_
              refine X_then hK102 ?_
              refine C_decf rfl (fun h => h h32) ?_
              refine C_skip ?_
              refine X_then hK101 ?_
              refine C_seq (fun K104 hK104 => ?_)
              refine C_region ?_
              refine R_pu (pu_fieldAddr (off := 0) (o' := 0) (by kernel_rfl) rfl rfl) rfl ?_
              refine R_pu (pu_loadK f103 (by kernel_rfl) rfl rfl) rfl ?_
              refine R_lo (lo_call (by kernel_rfl) rfl (ref11_ready A0 Y c0 _ (HY.keptNo kk30) hy h32)) rfl ?_
              rintro _ w31 ⟨rfl, k31⟩
              have kk31 := kk30.then_ k31
              have f105 : Bk w31 pc ([.slice A0 (Y.length) (c0), .slice A1 (N.length) (c1), .slice A2 (D.length) (c2)]) 24 := (f103.no k31)
              have f106 : Bk w31 kp (gkL kb (gmH Y)) 59 := (P30.no k31)
              have f107 : Bk w31 kb (keyL kx (KW Y)) 88 := (B30.no k31)
              have o108 : Gt w31 := ((o100.no k30).no k31)
              have o109 : Sx w31 kx := (T30.no k31)
              refine R_lo (lo_alloc (L := u8s (List.replicate 512 0)) (by kernel_rfl)) rfl ?_
              rintro _ w32 ⟨pr, rfl, N32⟩
              have k32 := N32.kp
              have kk32 := kk31.then_ k32
              have ne_pr_pc : pr ≠ pc := Nat.ne_of_gt (Nat.lt_of_lt_of_le f105.lt N32.le)
              have ne_pr_kp : pr ≠ kp := Nat.ne_of_gt (Nat.lt_of_lt_of_le f106.lt N32.le)
              have ne_pr_kb : pr ≠ kb := Nat.ne_of_gt (Nat.lt_of_lt_of_le f107.lt N32.le)
              have ne_pr_0 : pr ≠ 0 := Nat.ne_of_gt (Nat.lt_of_lt_of_le o108.lt N32.le)
              have ne_pr_kx : pr ≠ kx := Nat.ne_of_gt (Nat.lt_of_lt_of_le o109.lt N32.le)
              have f_pr_32 : Bk w32 pr (u8s (List.replicate 512 0)) 42 := N32.bk
              refine R_lo0 (lo_storeRow (C := u8s (RKL Y)) f_pr_32 (by rw [u8s_length, (RKL_by Y).1]; kernel_rfl) rfl rfl (u8s_each _) ((u8s_length _).trans ((RKL_by Y).1.trans ((rep_by 512).1.symm.trans (u8s_length _).symm)))) ?_
              rintro _ w33 kf33
              obtain ⟨k33, f_pr_33⟩ := kf33
              replace f_pr_33 : Bk w33 pr (u8s (RKL Y)) 42 := f_pr_33
              have kk33 := kk32.trans k33 (fun i hi => .inr (hi ▸ (Nat.le_trans kk31.size N32.le)))
              refine R_nil ?_
              refine X_then hK104 ?_
              refine C_seq (fun K110 hK110 => ?_)
              obtain ⟨E1, hE1⟩ : ∃ E, E = sealE N M D := ⟨_, rfl⟩; obtain ⟨E2, hE2⟩ : ∃ E, E = openE Y N X D := ⟨_, rfl⟩
              refine C_region ?_
              refine R_pu (pu_move rfl) rfl ?_
              refine R_pu (pu_fieldAddr (off := 1) (o' := 1) (by kernel_rfl) rfl rfl) rfl ?_
              have f111 : Bk w33 pc ([.slice A0 (Y.length) (c0), .slice A1 (N.length) (c1), .slice A2 (D.length) (c2)]) 24 := ((f105.no k32).on k33 (Ne.symm ne_pr_pc))
              refine R_pu (pu_loadK f111 (by kernel_rfl) rfl rfl) rfl ?_
              refine R_pu (pu_move rfl) rfl ?_
              refine R_pu (pu_fieldAddr (off := 2) (o' := 2) (by kernel_rfl) rfl rfl) rfl ?_
              refine R_pu (pu_loadK f111 (by kernel_rfl) rfl rfl) rfl ?_
              have f112 : Bk w33 kp (gkL kb (gmH Y)) 59 := ((f106.no k32).on k33 (Ne.symm ne_pr_kp))
              have f113 : Bk w33 kb (keyL kx (KW Y)) 88 := ((f107.no k32).on k33 (Ne.symm ne_pr_kb))
              have o114 : Sx w33 kx := ((o109.no k32).on k33 (Ne.symm ne_pr_kx))
              have o115 : Gt w33 := ((o108.no k32).on k33 (Ne.symm ne_pr_0))
              refine R_lo (lo_call (by kernel_rfl) rfl (gcm_seal_all kp kb kx Y A1 N c1 A3 M c3 A2 D c2 E1 _ bK_kp n1_30 n2_30 n3_30 f112 f113 o114 (HN.keptNo kk33) hn (HN.aw (Nat.le_trans kk29.size lx30)) (HM.keptNo kk33) hm (HM.aw (Nat.le_trans kk29.size lx30)) (HD.keptNo kk33) hd (HD.aw (Nat.le_trans kk29.size lx30)) hE1)) rfl ?_
              rintro _ w34 ⟨A_sa, c_sa, ev_sa, rfl, he_sa, Q34, T34, k34⟩
              have kk34 := kk33.trans k34 (fun i hi => .inr (hi ▸ (Nat.le_trans kk29.size lx30)))
              have z116 : w33.heap.size ≤ w34.heap.size := k34.size
              refine R_pu (pu_move rfl) rfl ?_
              refine R_pu (pu_extract rfl rfl) rfl ?_
              refine R_pu (pu_extract rfl rfl) rfl ?_
              refine R_pu (pu_assign rfl) rfl ?_
              refine R_pu (pu_assign rfl) rfl ?_
              refine R_nil ?_
              refine X_then hK110 ?_
              refine C_seq (fun K117 hK117 => ?_)
              refine C_region ?_
              have f118 : Bk w34 pr (u8s (RKL Y)) 42 := (f_pr_33.on k34 ne_pr_kx)
              refine R_pu (pu_loadRow (len := 512) f118 (by kernel_rfl) (by kernel_rfl) (by rw [u8s_length]; exact (RKL_by Y).1) rfl) rfl ?_
              refine R_pu (pu_fieldAddr (off := 1) (o' := 1) (by kernel_rfl) rfl rfl) rfl ?_
              have f119 : Bk w34 pc ([.slice A0 (Y.length) (c0), .slice A1 (N.length) (c1), .slice A2 (D.length) (c2)]) 24 := (f111.on k34 (Ne.symm ne_kx_pc))
              refine R_pu (pu_loadK f119 (by kernel_rfl) rfl rfl) rfl ?_
              refine R_pu (pu_move rfl) rfl ?_
              refine R_pu (pu_fieldAddr (off := 2) (o' := 2) (by kernel_rfl) rfl rfl) rfl ?_
              refine R_pu (pu_loadK f119 (by kernel_rfl) rfl rfl) rfl ?_
              have f120 : Bk w34 kp (gkL kb (gmH Y)) 59 := (f112.on k34 n2_30)
              have f121 : Bk w34 kb (keyL kx (KW Y)) 88 := (f113.on k34 n3_30)
              have o122 : Gt w34 := (o115.on k34 (Ne.symm ne_kx_0))
              have lm123 := Q34.top
              refine R_lo (lo_call (by kernel_rfl) rfl (ref11_seal_all Y A1 N c1 A3 M c3 A2 D c2 E1 _ (HN.keptNo kk34) hn (HM.keptNo kk34) hm (HD.keptNo kk34) hd hE1)) rfl ?_
              rintro _ w35 ⟨A_sb, c_sb, rfl, Q35, k35⟩
              have kk35 := kk34.then_ k35
              have z124 : w34.heap.size ≤ w35.heap.size := k35.size
              refine R_pu (pu_move rfl) rfl ?_
              refine R_pu (pu_extract rfl rfl) rfl ?_
              refine R_pu (pu_extract rfl rfl) rfl ?_
              refine R_pu (pu_assign rfl) rfl ?_
              refine R_pu (pu_assign rfl) rfl ?_
              refine R_nil ?_
              refine X_then hK117 ?_
              refine C_seq (fun K125 hK125 => ?_)
              refine C_region ?_
              refine R_pu (pu_move rfl) rfl ?_
              refine R_pu (pu_fieldAddr (off := 1) (o' := 1) (by kernel_rfl) rfl rfl) rfl ?_
              have f126 : Bk w35 pc ([.slice A0 (Y.length) (c0), .slice A1 (N.length) (c1), .slice A2 (D.length) (c2)]) 24 := (f119.no k35)
              refine R_pu (pu_loadK f126 (by kernel_rfl) rfl rfl) rfl ?_
              refine R_pu (pu_move rfl) rfl ?_
              refine R_pu (pu_fieldAddr (off := 2) (o' := 2) (by kernel_rfl) rfl rfl) rfl ?_
              refine R_pu (pu_loadK f126 (by kernel_rfl) rfl rfl) rfl ?_
              have f127 : Bk w35 kp (gkL kb (gmH Y)) 59 := (f120.no k35)
              have f128 : Bk w35 kb (keyL kx (KW Y)) 88 := (f121.no k35)
              have o129 : Sx w35 kx := (T34.no k35)
              have f130 : Bk w35 pr (u8s (RKL Y)) 42 := (f118.no k35)
              have o131 : Gt w35 := (o122.no k35)
              have ob133 := (Q34.keptNo k35)
              have lm132 := ob133.top
              have lm134 := Q35.top
              refine R_lo (lo_call (by kernel_rfl) rfl (gcm_open_all kp kb kx Y A1 N c1 A4 X c4 A2 D c2 E2 _ bK_kp n1_30 n2_30 n3_30 f127 f128 o129 (HN.keptNo kk35) hn (HN.aw (Nat.le_trans kk29.size lx30)) (HX.keptNo kk35) hx (HX.aw (Nat.le_trans kk29.size lx30)) (HD.keptNo kk35) hd (HD.aw (Nat.le_trans kk29.size lx30)) hE2)) rfl ?_
              rintro _ w36 ⟨A_oa, c_oa, ev_oa, rfl, he_oa, Q36, T36, k36⟩
              have kk36 := kk35.trans k36 (fun i hi => .inr (hi ▸ (Nat.le_trans kk29.size lx30)))
              have z135 : w35.heap.size ≤ w36.heap.size := k36.size
              refine R_pu (pu_move rfl) rfl ?_
              refine R_pu (pu_extract rfl rfl) rfl ?_
              refine R_pu (pu_extract rfl rfl) rfl ?_
              refine R_pu (pu_assign rfl) rfl ?_
              refine R_pu (pu_assign rfl) rfl ?_
              refine R_nil ?_
              refine X_then hK125 ?_
              refine C_seq (fun K136 hK136 => ?_)
              refine C_region ?_
              have f137 : Bk w36 pr (u8s (RKL Y)) 42 := (f130.on k36 ne_pr_kx)
              refine R_pu (pu_loadRow (len := 512) f137 (by kernel_rfl) (by kernel_rfl) (by rw [u8s_length]; exact (RKL_by Y).1) rfl) rfl ?_
              refine R_pu (pu_fieldAddr (off := 1) (o' := 1) (by kernel_rfl) rfl rfl) rfl ?_
              have f138 : Bk w36 pc ([.slice A0 (Y.length) (c0), .slice A1 (N.length) (c1), .slice A2 (D.length) (c2)]) 24 := (f126.on k36 (Ne.symm ne_kx_pc))
              refine R_pu (pu_loadK f138 (by kernel_rfl) rfl rfl) rfl ?_
              refine R_pu (pu_move rfl) rfl ?_
              refine R_pu (pu_fieldAddr (off := 2) (o' := 2) (by kernel_rfl) rfl rfl) rfl ?_
              refine R_pu (pu_loadK f138 (by kernel_rfl) rfl rfl) rfl ?_
              have f139 : Bk w36 kp (gkL kb (gmH Y)) 59 := (f127.on k36 n2_30)
              have f140 : Bk w36 kb (keyL kx (KW Y)) 88 := (f128.on k36 n3_30)
              have o141 : Gt w36 := (o131.on k36 (Ne.symm ne_kx_0))
              have ob143 := (ob133.on k36 (by have := o114.lt; omega))
              have lm142 := ob143.top
              have ob145 := (Q35.on k36 (by have := T34.lt; omega))
              have lm144 := ob145.top
              have lm146 := Q36.top
              refine R_lo (lo_call (by kernel_rfl) rfl (ref11_open_all Y A1 N c1 A4 X c4 A2 D c2 E2 _ (HN.keptNo kk36) hn (HX.keptNo kk36) hx (HD.keptNo kk36) hd hE2)) rfl ?_
              rintro _ w37 ⟨A_ob, c_ob, rfl, Q37, k37⟩
              have kk37 := kk36.then_ k37
              have z147 : w36.heap.size ≤ w37.heap.size := k37.size
              refine R_pu (pu_move rfl) rfl ?_
              refine R_pu (pu_extract rfl rfl) rfl ?_
              refine R_pu (pu_extract rfl rfl) rfl ?_
              refine R_pu (pu_assign rfl) rfl ?_
              refine R_pu (pu_assign rfl) rfl ?_
              refine R_nil ?_
              refine X_then hK136 ?_
              refine C_seq (fun K148 hK148 => ?_)
              refine C_region ?_
              refine R_pu (pu_move rfl) rfl ?_
              refine R_pu (pu_eqlnn (by kernel_rfl) rfl) rfl ?_
              refine R_pu (pu_move rfl) rfl ?_
              refine R_gpu rfl rfl (pu_move rfl) rfl ?_
              have ob149 := (ob143.keptNo k37)
              refine R_gpu rfl rfl (pu_bstr ob149.bs Tryz.underlying22 Tryz.underlying5 Tryz.underlying9 rfl rfl) rfl ?_
              refine R_gpu rfl rfl (pu_move rfl) rfl ?_
              have ob150 := (ob145.keptNo k37)
              refine R_gpu rfl rfl (pu_bstr ob150.bs Tryz.underlying22 Tryz.underlying5 Tryz.underlying9 rfl rfl) rfl ?_
              refine R_gpu rfl rfl (pu_true (pu_eqls (p := (subI E1 (sealB Y N M D) []) = (subI E1 (sealB Y N M D) [])) rfl rfl (bstr_inj (ob149.bs).byte (ob150.bs).byte)) rfl) rfl ?_
              refine R_pu (pu_pickt rfl rfl) rfl ?_
              refine R_pu (pu_move rfl) rfl ?_
              refine R_gpu rfl rfl (pu_move rfl) rfl ?_
              have o151 : Gt w37 := (o141.no k37)
              refine R_glo rfl rfl (lo_call (by kernel_rfl) rfl (num_errv E1 ev_sa _ he_sa o151)) rfl ?_
              rintro _ w38 ⟨rfl, k38⟩
              have kk38 := kk37.then_ k38
              refine R_gpu rfl rfl (pu_move rfl) rfl ?_
              refine R_gpu rfl rfl (pu_true (pu_eql (p := E1 = E1) rfl rfl (by omega)) rfl) rfl ?_
              refine R_pu (pu_pickt rfl rfl) rfl ?_
              refine R_pu (pu_move rfl) rfl ?_
              refine R_gpu rfl rfl (pu_move rfl) rfl ?_
              have ob152 := ((Q36.keptNo k37).keptNo k38)
              refine R_gpu rfl rfl (pu_bstr ob152.bs Tryz.underlying22 Tryz.underlying5 Tryz.underlying9 rfl rfl) rfl ?_
              refine R_gpu rfl rfl (pu_move rfl) rfl ?_
              have ob153 := (Q37.keptNo k38)
              refine R_gpu rfl rfl (pu_bstr ob153.bs Tryz.underlying22 Tryz.underlying5 Tryz.underlying9 rfl rfl) rfl ?_
              refine R_gpu rfl rfl (pu_true (pu_eqls (p := (subI E2 (cphB Y N (X.take (X.length - 16))) []) = (subI E2 (cphB Y N (X.take (X.length - 16))) [])) rfl rfl (bstr_inj (ob152.bs).byte (ob153.bs).byte)) rfl) rfl ?_
              refine R_pu (pu_pickt rfl rfl) rfl ?_
              refine R_pu (pu_move rfl) rfl ?_
              refine R_gpu rfl rfl (pu_move rfl) rfl ?_
              have o154 : Gt w38 := (o151.no k38)
              refine R_glo rfl rfl (lo_call (by kernel_rfl) rfl (num_errv E2 ev_oa _ he_oa o154)) rfl ?_
              rintro _ w39 ⟨rfl, k39⟩
              have kk39 := kk38.then_ k39
              refine R_gpu rfl rfl (pu_move rfl) rfl ?_
              refine R_gpu rfl rfl (pu_true (pu_eql (p := E2 = E2) rfl rfl (by omega)) rfl) rfl ?_
              refine R_pu (pu_pickt rfl rfl) rfl ?_
              refine R_pu (pu_move rfl) rfl ?_
              refine R_gpu rfl rfl (pu_move rfl) rfl ?_
              refine R_gpu rfl rfl (pu_fieldAddr (off := 1) (o' := 1) (by kernel_rfl) rfl rfl) rfl ?_
              have f155 : Bk w39 pc ([.slice A0 (Y.length) (c0), .slice A1 (N.length) (c1), .slice A2 (D.length) (c2)]) 24 := (((f138.no k37).no k38).no k39)
              refine R_gpu rfl rfl (pu_loadK f155 (by kernel_rfl) rfl rfl) rfl ?_
              refine R_gpu rfl rfl (pu_move rfl) rfl ?_
              refine R_gpu rfl rfl (pu_fieldAddr (off := 2) (o' := 2) (by kernel_rfl) rfl rfl) rfl ?_
              refine R_gpu rfl rfl (pu_loadK f155 (by kernel_rfl) rfl rfl) rfl ?_
              have f156 : Bk w39 kp (gkL kb (gmH Y)) 59 := (((f139.no k37).no k38).no k39)
              have f157 : Bk w39 kb (keyL kx (KW Y)) 88 := (((f140.no k37).no k38).no k39)
              have o158 : Sx w39 kx := (((T36.no k37).no k38).no k39)
              refine R_glo rfl rfl (lo_call (by kernel_rfl) rfl (gcm_opens_all kp kb kx Y A1 N c1 A4 X c4 A2 D c2 _ bK_kp n1_30 n2_30 n3_30 f156 f157 o158 (HN.keptNo kk39) hn (HN.aw (Nat.le_trans kk29.size lx30)) (HX.keptNo kk39) hx (HX.aw (Nat.le_trans kk29.size lx30)) (HD.keptNo kk39) hd (HD.aw (Nat.le_trans kk29.size lx30)))) rfl ?_
              rintro _ w40 ⟨rfl, T40, k40⟩
              have kk40 := kk39.trans k40 (fun i hi => .inr (hi ▸ (Nat.le_trans kk29.size lx30)))
              refine R_gpu rfl rfl (pu_move rfl) rfl ?_
              refine R_gpu rfl rfl (pu_eql (p := E2 = 0) rfl rfl (by omega)) rfl ?_
              refine R_gpu rfl rfl (pu_b (pu_eqlb Tryz.underlying4 rfl rfl) (show (decide (openE Y N X D = 0) == decide (E2 = 0)) = true by subst hE2; exact beq_self_eq_true _)) rfl ?_
              refine R_pu (pu_pickt rfl rfl) rfl ?_
              refine R_pu (pu_move rfl) rfl ?_
              have o159 : Gt w40 := ((o154.no k39).on k40 (Ne.symm ne_kx_0))
              refine R_glo rfl rfl (lo_call (by kernel_rfl) rfl (sure11 _ o159)) rfl ?_
              rintro _ w41 ⟨rfl, k41⟩
              have kk41 := kk40.then_ k41
              refine R_pu (pu_pickt rfl rfl) rfl ?_
              refine R_pu (pu_assign rfl) rfl ?_
              refine R_nil ?_
              refine X_then hK148 ?_
              refine C_ret ?_
              exact X_ret1 (.inl rfl) rfl rfl ⟨rfl, kk41⟩
            · refine C_seq (fun K160 hK160 => ?_)
              refine C_region ?_
              refine R_pu (pu_fieldAddr (off := 0) (o' := 0) (by kernel_rfl) rfl rfl) rfl ?_
              have f161 : Bk w29 pc ([.slice A0 (Y.length) (c0), .slice A1 (N.length) (c1), .slice A2 (D.length) (c2)]) 24 := (f97.no k29)
              refine R_pu (pu_loadK f161 (by kernel_rfl) rfl rfl) rfl ?_
              refine R_lo (lo_call (by kernel_rfl) rfl (gcm_new_err A0 Y c0 _ (HY.keptNo kk29) hy h32)) rfl ?_
              rintro _ w42 ⟨rfl, k42⟩
              have kk42 := kk29.then_ k42
              refine R_pu (pu_move rfl) rfl ?_
              refine R_pu (pu_extract rfl rfl) rfl ?_
              refine R_pu (pu_extract rfl rfl) rfl ?_
              refine R_pu (pu_assign rfl) rfl ?_
              refine R_pu (pu_assign rfl) rfl ?_
              refine R_nil ?_
              refine X_then hK160 ?_
              refine C_seq (fun K162 hK162 => ?_)
              refine C_seq (fun K163 hK163 => ?_)
              refine C_region ?_
              refine R_pu (pu_fieldAddr (off := 0) (o' := 0) (by kernel_rfl) rfl rfl) rfl ?_
              have f164 : Bk w42 pc ([.slice A0 (Y.length) (c0), .slice A1 (N.length) (c1), .slice A2 (D.length) (c2)]) 24 := (f161.no k42)
              refine R_pu (pu_loadK f164 (by kernel_rfl) rfl rfl) rfl ?_
              refine R_pu (pu_len Tryz.underlying22 rfl) rfl ?_
              refine R_pu (pu_neq (p := Y.length = 32) rfl rfl (by omega)) rfl ?_
              refine R_nil ?_
              refine X_then hK163 ?_
              refine C_dect rfl h32 ?_
              refine C_seq (fun K165 hK165 => ?_)
              refine C_region ?_
              refine R_pu (pu_move rfl) rfl ?_
              have o166 : Gt w42 := (((o96.no k28).no k29).no k42)
              refine R_lo (lo_call (by kernel_rfl) rfl (num11_err 1 _ o166)) rfl ?_
              rintro _ w43 ⟨rfl, k43⟩
              have kk43 := kk42.then_ k43
              refine R_pu (pu_true (pu_eql (p := (1 : Nat) = 1) rfl rfl (by omega)) (by decide)) rfl ?_
              refine R_pu (pu_move rfl) rfl ?_
              refine R_gpu rfl rfl (pu_move rfl) rfl ?_
              refine R_gpu rfl rfl (pu_eqlpn (by kernel_rfl) rfl rfl) rfl ?_
              refine R_pu (pu_pickt rfl rfl) rfl ?_
              refine R_pu (pu_move rfl) rfl ?_
              have o167 : Gt w43 := (o166.no k43)
              refine R_glo rfl rfl (lo_call (by kernel_rfl) rfl (sure11 _ o167)) rfl ?_
              rintro _ w44 ⟨rfl, k44⟩
              have kk44 := kk43.then_ k44
              refine R_pu (pu_pickt rfl rfl) rfl ?_
              refine R_pu (pu_assign rfl) rfl ?_
              refine R_nil ?_
              refine X_then hK165 ?_
              refine C_ret ?_
              refine X_then_ret ?_
              exact X_ret1 (.inl rfl) rfl rfl ⟨rfl, kk44⟩
      · refine R_gpu rfl rfl (pu_false (pu_move rfl) g1_12) rfl ?_
        refine R_gno rfl rfl rfl rfl ?_
        refine R_gno rfl rfl rfl rfl ?_
        refine R_gno rfl rfl rfl rfl ?_
        refine R_gpu rfl rfl (pu_pickf rfl rfl) rfl ?_
        refine R_pu (pu_pickf rfl rfl) rfl ?_
        refine R_pu (pu_move rfl) rfl ?_
        refine R_gpu rfl rfl (pu_fieldAddr (off := 2) (o' := 2) (by kernel_rfl) rfl rfl) rfl ?_
        refine R_gpu rfl rfl (pu_loadK f_pc_1 (by kernel_rfl) rfl rfl) rfl ?_
        refine R_gpu rfl rfl (pu_len Tryz.underlying22 rfl) rfl ?_
        refine R_gpu rfl rfl (pu_gtr (p := D.length > 300) rfl rfl (by omega)) rfl ?_
        by_cases g1_23 : D.length > 300
        · refine R_gpu rfl rfl (pu_true (pu_move rfl) g1_23) rfl ?_
          refine R_gpu rfl rfl (pu_fieldAddr (off := 2) (o' := 2) (by kernel_rfl) rfl rfl) rfl ?_
          refine R_gpu rfl rfl (pu_loadK f_pc_1 (by kernel_rfl) rfl rfl) rfl ?_
          refine R_gpu rfl rfl (pu_len Tryz.underlying22 rfl) rfl ?_
          refine R_gpu rfl rfl (pu_leq (p := D.length ≤ 2048) rfl rfl (by omega)) rfl ?_
          refine R_gpu rfl rfl (pu_pickt rfl rfl) rfl ?_
          refine R_pu (pu_pickf rfl rfl) rfl ?_
          refine R_nil ?_
          refine X_then hK3 ?_
          refine C_dec rfl (fun h52 => ?_) (fun h52 => ?_)
          · refine C_seq (fun K168 hK168 => ?_)
            refine C_region ?_
            have o169 : Gt w1 := (hG.no k1)
            refine R_lo (lo_call (by kernel_rfl) rfl (sure11 _ o169)) rfl ?_
            rintro _ w45 ⟨rfl, k45⟩
            have kk45 := kk1.then_ k45
            refine R_pu (pu_assign rfl) rfl ?_
            refine R_nil ?_
            refine X_then hK168 ?_
            refine C_ret ?_
            refine X_then_ret ?_
            exact X_ret1 (.inl rfl) rfl rfl ⟨rfl, kk45⟩
          · refine C_skip ?_
            refine X_then hK2 ?_
            refine C_seq (fun K170 hK170 => ?_)
            refine C_region ?_
            refine R_pu (pu_assign rfl) rfl ?_
            refine R_nil ?_
            refine X_then hK170 ?_
            refine C_seq (fun K171 hK171 => ?_)
            refine C_region ?_
            refine R_pu (pu_move rfl) rfl ?_
            refine R_pu (pu_fieldAddr (off := 1) (o' := 1) (by kernel_rfl) rfl rfl) rfl ?_
            refine R_pu (pu_loadK f_pc_1 (by kernel_rfl) rfl rfl) rfl ?_
            refine R_pu (pu_move rfl) rfl ?_
            refine R_pu (pu_fieldAddr (off := 2) (o' := 2) (by kernel_rfl) rfl rfl) rfl ?_
            refine R_pu (pu_loadK f_pc_1 (by kernel_rfl) rfl rfl) rfl ?_
            refine R_lo (lo_call (by kernel_rfl) rfl (gcm_seal_nil A1 N c1 A3 M c3 A2 D c2 _ (HN.keptNo kk1) hn (HM.keptNo kk1) hm (HD.keptNo kk1) hd)) rfl ?_
            rintro _ w46 ⟨rfl, k46⟩
            have kk46 := kk1.then_ k46
            refine R_pu (pu_move rfl) rfl ?_
            refine R_pu (pu_extract rfl rfl) rfl ?_
            refine R_pu (pu_extract rfl rfl) rfl ?_
            refine R_pu (pu_assign rfl) rfl ?_
            refine R_pu (pu_assign rfl) rfl ?_
            refine R_nil ?_
            refine X_then hK171 ?_
            refine C_seq (fun K172 hK172 => ?_)
            refine C_region ?_
            refine R_pu (pu_move rfl) rfl ?_
            refine R_pu (pu_fieldAddr (off := 1) (o' := 1) (by kernel_rfl) rfl rfl) rfl ?_
            have f173 : Bk w46 pc ([.slice A0 (Y.length) (c0), .slice A1 (N.length) (c1), .slice A2 (D.length) (c2)]) 24 := (f_pc_1.no k46)
            refine R_pu (pu_loadK f173 (by kernel_rfl) rfl rfl) rfl ?_
            refine R_pu (pu_move rfl) rfl ?_
            refine R_pu (pu_fieldAddr (off := 2) (o' := 2) (by kernel_rfl) rfl rfl) rfl ?_
            refine R_pu (pu_loadK f173 (by kernel_rfl) rfl rfl) rfl ?_
            refine R_lo (lo_call (by kernel_rfl) rfl (gcm_open_nil A1 N c1 A4 X c4 A2 D c2 _ (HN.keptNo kk46) hn (HX.keptNo kk46) hx (HD.keptNo kk46) hd)) rfl ?_
            rintro _ w47 ⟨rfl, k47⟩
            have kk47 := kk46.then_ k47
            refine R_pu (pu_move rfl) rfl ?_
            refine R_pu (pu_extract rfl rfl) rfl ?_
            refine R_pu (pu_extract rfl rfl) rfl ?_
            refine R_pu (pu_assign rfl) rfl ?_
            refine R_pu (pu_assign rfl) rfl ?_
            refine R_nil ?_
            refine X_then hK172 ?_
            refine C_seq (fun K174 hK174 => ?_)
            refine C_seq (fun K175 hK175 => ?_)
            refine C_region ?_
            refine R_pu (pu_move rfl) rfl ?_
            have o176 : Gt w47 := (((hG.no k1).no k46).no k47)
            refine R_lo (lo_call (by kernel_rfl) rfl (num11_err 1 _ o176)) rfl ?_
            rintro _ w48 ⟨rfl, k48⟩
            have kk48 := kk47.then_ k48
            refine R_pu (pu_false (pu_neq (p := (1 : Nat) = 1) rfl rfl (by omega)) (by decide)) rfl ?_
            refine R_pu (pu_move rfl) rfl ?_
            refine R_gpu rfl rfl (pu_move rfl) rfl ?_
            have o177 : Gt w48 := (o176.no k48)
            refine R_glo rfl rfl (lo_call (by kernel_rfl) rfl (num11_err 1 _ o177)) rfl ?_
            rintro _ w49 ⟨rfl, k49⟩
            have kk49 := kk48.then_ k49
            refine R_gpu rfl rfl (pu_false (pu_neq (p := (1 : Nat) = 1) rfl rfl (by omega)) (by decide)) rfl ?_
            refine R_pu (pu_pickf rfl rfl) rfl ?_
            refine R_pu (pu_move rfl) rfl ?_
            refine R_gpu rfl rfl (pu_move rfl) rfl ?_
            refine R_gpu rfl rfl (pu_fieldAddr (off := 1) (o' := 1) (by kernel_rfl) rfl rfl) rfl ?_
            have f178 : Bk w49 pc ([.slice A0 (Y.length) (c0), .slice A1 (N.length) (c1), .slice A2 (D.length) (c2)]) 24 := (((f173.no k47).no k48).no k49)
            refine R_gpu rfl rfl (pu_loadK f178 (by kernel_rfl) rfl rfl) rfl ?_
            refine R_gpu rfl rfl (pu_move rfl) rfl ?_
            refine R_gpu rfl rfl (pu_fieldAddr (off := 2) (o' := 2) (by kernel_rfl) rfl rfl) rfl ?_
            refine R_gpu rfl rfl (pu_loadK f178 (by kernel_rfl) rfl rfl) rfl ?_
            refine R_glo rfl rfl (lo_call (by kernel_rfl) rfl (gcm_opens_nil A1 N c1 A4 X c4 A2 D c2 _ (HN.keptNo kk49) hn (HX.keptNo kk49) hx (HD.keptNo kk49) hd)) rfl ?_
            rintro _ w50 ⟨rfl, k50⟩
            have kk50 := kk49.then_ k50
            refine R_pu (pu_pickf rfl rfl) rfl ?_
            refine R_nil ?_
            refine X_then hK175 ?_
            refine C_false rfl ?_
            refine C_skip ?_
            refine X_then hK174 ?_
            by_cases h32 : Y.length = 32
            · refine C_seq (fun K179 hK179 => ?_)
              refine C_region ?_
              refine R_pu (pu_fieldAddr (off := 0) (o' := 0) (by kernel_rfl) rfl rfl) rfl ?_
              have f180 : Bk w50 pc ([.slice A0 (Y.length) (c0), .slice A1 (N.length) (c1), .slice A2 (D.length) (c2)]) 24 := (f178.no k50)
              refine R_pu (pu_loadK f180 (by kernel_rfl) rfl rfl) rfl ?_
              have o181 : Gt w50 := ((o177.no k49).no k50)
              have bK_kp : By 32 Y := ⟨h32, HY.byte⟩
              have wy_kb : Wy (KW Y) := KW_wy bK_kp.2
              refine R_lo (lo_call (by kernel_rfl) rfl (gcm_new A0 Y c0 _ (HY.keptNo kk50) hy bK_kp.1)) rfl ?_
              rintro _ w51 ⟨kp, kb, kx, rfl, le51, lb51, lx51, n1_51, n2_51, n3_51, P51, B51, T51, k51⟩
              have kk51 := kk50.then_ k51
              have ne_kp_pc : kp ≠ pc := Nat.ne_of_gt (Nat.lt_of_lt_of_le f180.lt le51)
              have ne_kp_0 : kp ≠ 0 := Nat.ne_of_gt (Nat.lt_of_lt_of_le o181.lt le51)
              have ne_kb_pc : kb ≠ pc := Nat.ne_of_gt (Nat.lt_of_lt_of_le f180.lt lb51)
              have ne_kb_0 : kb ≠ 0 := Nat.ne_of_gt (Nat.lt_of_lt_of_le o181.lt lb51)
              have ne_kx_pc : kx ≠ pc := Nat.ne_of_gt (Nat.lt_of_lt_of_le f180.lt lx51)
              have ne_kx_0 : kx ≠ 0 := Nat.ne_of_gt (Nat.lt_of_lt_of_le o181.lt lx51)
              refine R_pu (pu_move rfl) rfl ?_
              refine R_pu (pu_extract rfl rfl) rfl ?_
              refine R_pu (pu_extract rfl rfl) rfl ?_
              refine R_pu (pu_assign rfl) rfl ?_
              refine R_pu (pu_assign rfl) rfl ?_
              refine R_nil ?_
              refine X_then hK179 ?_
              refine C_seq (fun K182 hK182 => ?_)
              refine C_seq (fun K183 hK183 => ?_)
              refine C_region ?_
              refine R_pu (pu_fieldAddr (off := 0) (o' := 0) (by kernel_rfl) rfl rfl) rfl ?_
              have f184 : Bk w51 pc ([.slice A0 (Y.length) (c0), .slice A1 (N.length) (c1), .slice A2 (D.length) (c2)]) 24 := (f180.no k51)
              refine R_pu (pu_loadK f184 (by kernel_rfl) rfl rfl) rfl ?_
              refine R_pu (pu_len Tryz.underlying22 rfl) rfl ?_
              refine R_pu (pu_neq (p := Y.length = 32) rfl rfl (by omega)) rfl ?_
              refine R_nil ?_
              refine X_then hK183 ?_
              refine C_decf rfl (fun h => h h32) ?_
              refine C_skip ?_
              refine X_then hK182 ?_
              refine C_seq (fun K185 hK185 => ?_)
              refine C_region ?_
              refine R_pu (pu_fieldAddr (off := 0) (o' := 0) (by kernel_rfl) rfl rfl) rfl ?_
              refine R_pu (pu_loadK f184 (by kernel_rfl) rfl rfl) rfl ?_
              refine R_lo (lo_call (by kernel_rfl) rfl (ref11_ready A0 Y c0 _ (HY.keptNo kk51) hy h32)) rfl ?_
              rintro _ w52 ⟨rfl, k52⟩
              have kk52 := kk51.then_ k52
              have f186 : Bk w52 pc ([.slice A0 (Y.length) (c0), .slice A1 (N.length) (c1), .slice A2 (D.length) (c2)]) 24 := (f184.no k52)
              have f187 : Bk w52 kp (gkL kb (gmH Y)) 59 := (P51.no k52)
              have f188 : Bk w52 kb (keyL kx (KW Y)) 88 := (B51.no k52)
              have o189 : Gt w52 := ((o181.no k51).no k52)
              have o190 : Sx w52 kx := (T51.no k52)
              refine R_lo (lo_alloc (L := u8s (List.replicate 512 0)) (by kernel_rfl)) rfl ?_
              rintro _ w53 ⟨pr, rfl, N53⟩
              have k53 := N53.kp
              have kk53 := kk52.then_ k53
              have ne_pr_pc : pr ≠ pc := Nat.ne_of_gt (Nat.lt_of_lt_of_le f186.lt N53.le)
              have ne_pr_kp : pr ≠ kp := Nat.ne_of_gt (Nat.lt_of_lt_of_le f187.lt N53.le)
              have ne_pr_kb : pr ≠ kb := Nat.ne_of_gt (Nat.lt_of_lt_of_le f188.lt N53.le)
              have ne_pr_0 : pr ≠ 0 := Nat.ne_of_gt (Nat.lt_of_lt_of_le o189.lt N53.le)
              have ne_pr_kx : pr ≠ kx := Nat.ne_of_gt (Nat.lt_of_lt_of_le o190.lt N53.le)
              have f_pr_53 : Bk w53 pr (u8s (List.replicate 512 0)) 42 := N53.bk
              refine R_lo0 (lo_storeRow (C := u8s (RKL Y)) f_pr_53 (by rw [u8s_length, (RKL_by Y).1]; kernel_rfl) rfl rfl (u8s_each _) ((u8s_length _).trans ((RKL_by Y).1.trans ((rep_by 512).1.symm.trans (u8s_length _).symm)))) ?_
              rintro _ w54 kf54
              obtain ⟨k54, f_pr_54⟩ := kf54
              replace f_pr_54 : Bk w54 pr (u8s (RKL Y)) 42 := f_pr_54
              have kk54 := kk53.trans k54 (fun i hi => .inr (hi ▸ (Nat.le_trans kk52.size N53.le)))
              refine R_nil ?_
              refine X_then hK185 ?_
              refine C_seq (fun K191 hK191 => ?_)
              obtain ⟨E1, hE1⟩ : ∃ E, E = sealE N M D := ⟨_, rfl⟩; obtain ⟨E2, hE2⟩ : ∃ E, E = openE Y N X D := ⟨_, rfl⟩
              refine C_region ?_
              refine R_pu (pu_move rfl) rfl ?_
              refine R_pu (pu_fieldAddr (off := 1) (o' := 1) (by kernel_rfl) rfl rfl) rfl ?_
              have f192 : Bk w54 pc ([.slice A0 (Y.length) (c0), .slice A1 (N.length) (c1), .slice A2 (D.length) (c2)]) 24 := ((f186.no k53).on k54 (Ne.symm ne_pr_pc))
              refine R_pu (pu_loadK f192 (by kernel_rfl) rfl rfl) rfl ?_
              refine R_pu (pu_move rfl) rfl ?_
              refine R_pu (pu_fieldAddr (off := 2) (o' := 2) (by kernel_rfl) rfl rfl) rfl ?_
              refine R_pu (pu_loadK f192 (by kernel_rfl) rfl rfl) rfl ?_
              have f193 : Bk w54 kp (gkL kb (gmH Y)) 59 := ((f187.no k53).on k54 (Ne.symm ne_pr_kp))
              have f194 : Bk w54 kb (keyL kx (KW Y)) 88 := ((f188.no k53).on k54 (Ne.symm ne_pr_kb))
              have o195 : Sx w54 kx := ((o190.no k53).on k54 (Ne.symm ne_pr_kx))
              have o196 : Gt w54 := ((o189.no k53).on k54 (Ne.symm ne_pr_0))
              refine R_lo (lo_call (by kernel_rfl) rfl (gcm_seal_all kp kb kx Y A1 N c1 A3 M c3 A2 D c2 E1 _ bK_kp n1_51 n2_51 n3_51 f193 f194 o195 (HN.keptNo kk54) hn (HN.aw (Nat.le_trans kk50.size lx51)) (HM.keptNo kk54) hm (HM.aw (Nat.le_trans kk50.size lx51)) (HD.keptNo kk54) hd (HD.aw (Nat.le_trans kk50.size lx51)) hE1)) rfl ?_
              rintro _ w55 ⟨A_sa, c_sa, ev_sa, rfl, he_sa, Q55, T55, k55⟩
              have kk55 := kk54.trans k55 (fun i hi => .inr (hi ▸ (Nat.le_trans kk50.size lx51)))
              have z197 : w54.heap.size ≤ w55.heap.size := k55.size
              refine R_pu (pu_move rfl) rfl ?_
              refine R_pu (pu_extract rfl rfl) rfl ?_
              refine R_pu (pu_extract rfl rfl) rfl ?_
              refine R_pu (pu_assign rfl) rfl ?_
              refine R_pu (pu_assign rfl) rfl ?_
              refine R_nil ?_
              refine X_then hK191 ?_
              refine C_seq (fun K198 hK198 => ?_)
              refine C_region ?_
              have f199 : Bk w55 pr (u8s (RKL Y)) 42 := (f_pr_54.on k55 ne_pr_kx)
              refine R_pu (pu_loadRow (len := 512) f199 (by kernel_rfl) (by kernel_rfl) (by rw [u8s_length]; exact (RKL_by Y).1) rfl) rfl ?_
              refine R_pu (pu_fieldAddr (off := 1) (o' := 1) (by kernel_rfl) rfl rfl) rfl ?_
              have f200 : Bk w55 pc ([.slice A0 (Y.length) (c0), .slice A1 (N.length) (c1), .slice A2 (D.length) (c2)]) 24 := (f192.on k55 (Ne.symm ne_kx_pc))
              refine R_pu (pu_loadK f200 (by kernel_rfl) rfl rfl) rfl ?_
              refine R_pu (pu_move rfl) rfl ?_
              refine R_pu (pu_fieldAddr (off := 2) (o' := 2) (by kernel_rfl) rfl rfl) rfl ?_
              refine R_pu (pu_loadK f200 (by kernel_rfl) rfl rfl) rfl ?_
              have f201 : Bk w55 kp (gkL kb (gmH Y)) 59 := (f193.on k55 n2_51)
              have f202 : Bk w55 kb (keyL kx (KW Y)) 88 := (f194.on k55 n3_51)
              have o203 : Gt w55 := (o196.on k55 (Ne.symm ne_kx_0))
              have lm204 := Q55.top
              refine R_lo (lo_call (by kernel_rfl) rfl (ref11_seal_all Y A1 N c1 A3 M c3 A2 D c2 E1 _ (HN.keptNo kk55) hn (HM.keptNo kk55) hm (HD.keptNo kk55) hd hE1)) rfl ?_
              rintro _ w56 ⟨A_sb, c_sb, rfl, Q56, k56⟩
              have kk56 := kk55.then_ k56
              have z205 : w55.heap.size ≤ w56.heap.size := k56.size
              refine R_pu (pu_move rfl) rfl ?_
              refine R_pu (pu_extract rfl rfl) rfl ?_
              refine R_pu (pu_extract rfl rfl) rfl ?_
              refine R_pu (pu_assign rfl) rfl ?_
              refine R_pu (pu_assign rfl) rfl ?_
              refine R_nil ?_
              refine X_then hK198 ?_
              refine C_seq (fun K206 hK206 => ?_)
              refine C_region ?_
              refine R_pu (pu_move rfl) rfl ?_
              refine R_pu (pu_fieldAddr (off := 1) (o' := 1) (by kernel_rfl) rfl rfl) rfl ?_
              have f207 : Bk w56 pc ([.slice A0 (Y.length) (c0), .slice A1 (N.length) (c1), .slice A2 (D.length) (c2)]) 24 := (f200.no k56)
              refine R_pu (pu_loadK f207 (by kernel_rfl) rfl rfl) rfl ?_
              refine R_pu (pu_move rfl) rfl ?_
              refine R_pu (pu_fieldAddr (off := 2) (o' := 2) (by kernel_rfl) rfl rfl) rfl ?_
              refine R_pu (pu_loadK f207 (by kernel_rfl) rfl rfl) rfl ?_
              have f208 : Bk w56 kp (gkL kb (gmH Y)) 59 := (f201.no k56)
              have f209 : Bk w56 kb (keyL kx (KW Y)) 88 := (f202.no k56)
              have o210 : Sx w56 kx := (T55.no k56)
              have f211 : Bk w56 pr (u8s (RKL Y)) 42 := (f199.no k56)
              have o212 : Gt w56 := (o203.no k56)
              have ob214 := (Q55.keptNo k56)
              have lm213 := ob214.top
              have lm215 := Q56.top
              refine R_lo (lo_call (by kernel_rfl) rfl (gcm_open_all kp kb kx Y A1 N c1 A4 X c4 A2 D c2 E2 _ bK_kp n1_51 n2_51 n3_51 f208 f209 o210 (HN.keptNo kk56) hn (HN.aw (Nat.le_trans kk50.size lx51)) (HX.keptNo kk56) hx (HX.aw (Nat.le_trans kk50.size lx51)) (HD.keptNo kk56) hd (HD.aw (Nat.le_trans kk50.size lx51)) hE2)) rfl ?_
              rintro _ w57 ⟨A_oa, c_oa, ev_oa, rfl, he_oa, Q57, T57, k57⟩
              have kk57 := kk56.trans k57 (fun i hi => .inr (hi ▸ (Nat.le_trans kk50.size lx51)))
              have z216 : w56.heap.size ≤ w57.heap.size := k57.size
              refine R_pu (pu_move rfl) rfl ?_
              refine R_pu (pu_extract rfl rfl) rfl ?_
              refine R_pu (pu_extract rfl rfl) rfl ?_
              refine R_pu (pu_assign rfl) rfl ?_
              refine R_pu (pu_assign rfl) rfl ?_
              refine R_nil ?_
              refine X_then hK206 ?_
              refine C_seq (fun K217 hK217 => ?_)
              refine C_region ?_
              have f218 : Bk w57 pr (u8s (RKL Y)) 42 := (f211.on k57 ne_pr_kx)
              refine R_pu (pu_loadRow (len := 512) f218 (by kernel_rfl) (by kernel_rfl) (by rw [u8s_length]; exact (RKL_by Y).1) rfl) rfl ?_
              refine R_pu (pu_fieldAddr (off := 1) (o' := 1) (by kernel_rfl) rfl rfl) rfl ?_
              have f219 : Bk w57 pc ([.slice A0 (Y.length) (c0), .slice A1 (N.length) (c1), .slice A2 (D.length) (c2)]) 24 := (f207.on k57 (Ne.symm ne_kx_pc))
              refine R_pu (pu_loadK f219 (by kernel_rfl) rfl rfl) rfl ?_
              refine R_pu (pu_move rfl) rfl ?_
              refine R_pu (pu_fieldAddr (off := 2) (o' := 2) (by kernel_rfl) rfl rfl) rfl ?_
              refine R_pu (pu_loadK f219 (by kernel_rfl) rfl rfl) rfl ?_
              have f220 : Bk w57 kp (gkL kb (gmH Y)) 59 := (f208.on k57 n2_51)
              have f221 : Bk w57 kb (keyL kx (KW Y)) 88 := (f209.on k57 n3_51)
              have o222 : Gt w57 := (o212.on k57 (Ne.symm ne_kx_0))
              have ob224 := (ob214.on k57 (by have := o195.lt; omega))
              have lm223 := ob224.top
              have ob226 := (Q56.on k57 (by have := T55.lt; omega))
              have lm225 := ob226.top
              have lm227 := Q57.top
              refine R_lo (lo_call (by kernel_rfl) rfl (ref11_open_all Y A1 N c1 A4 X c4 A2 D c2 E2 _ (HN.keptNo kk57) hn (HX.keptNo kk57) hx (HD.keptNo kk57) hd hE2)) rfl ?_
              rintro _ w58 ⟨A_ob, c_ob, rfl, Q58, k58⟩
              have kk58 := kk57.then_ k58
              have z228 : w57.heap.size ≤ w58.heap.size := k58.size
              refine R_pu (pu_move rfl) rfl ?_
              refine R_pu (pu_extract rfl rfl) rfl ?_
              refine R_pu (pu_extract rfl rfl) rfl ?_
              refine R_pu (pu_assign rfl) rfl ?_
              refine R_pu (pu_assign rfl) rfl ?_
              refine R_nil ?_
              refine X_then hK217 ?_
              refine C_seq (fun K229 hK229 => ?_)
              refine C_region ?_
              refine R_pu (pu_move rfl) rfl ?_
              refine R_pu (pu_eqlnn (by kernel_rfl) rfl) rfl ?_
              refine R_pu (pu_move rfl) rfl ?_
              refine R_gpu rfl rfl (pu_move rfl) rfl ?_
              have ob230 := (ob224.keptNo k58)
              refine R_gpu rfl rfl (pu_bstr ob230.bs Tryz.underlying22 Tryz.underlying5 Tryz.underlying9 rfl rfl) rfl ?_
              refine R_gpu rfl rfl (pu_move rfl) rfl ?_
              have ob231 := (ob226.keptNo k58)
              refine R_gpu rfl rfl (pu_bstr ob231.bs Tryz.underlying22 Tryz.underlying5 Tryz.underlying9 rfl rfl) rfl ?_
              refine R_gpu rfl rfl (pu_true (pu_eqls (p := (subI E1 (sealB Y N M D) []) = (subI E1 (sealB Y N M D) [])) rfl rfl (bstr_inj (ob230.bs).byte (ob231.bs).byte)) rfl) rfl ?_
              refine R_pu (pu_pickt rfl rfl) rfl ?_
              refine R_pu (pu_move rfl) rfl ?_
              refine R_gpu rfl rfl (pu_move rfl) rfl ?_
              have o232 : Gt w58 := (o222.no k58)
              refine R_glo rfl rfl (lo_call (by kernel_rfl) rfl (num_errv E1 ev_sa _ he_sa o232)) rfl ?_
              rintro _ w59 ⟨rfl, k59⟩
              have kk59 := kk58.then_ k59
              refine R_gpu rfl rfl (pu_move rfl) rfl ?_
              refine R_gpu rfl rfl (pu_true (pu_eql (p := E1 = E1) rfl rfl (by omega)) rfl) rfl ?_
              refine R_pu (pu_pickt rfl rfl) rfl ?_
              refine R_pu (pu_move rfl) rfl ?_
              refine R_gpu rfl rfl (pu_move rfl) rfl ?_
              have ob233 := ((Q57.keptNo k58).keptNo k59)
              refine R_gpu rfl rfl (pu_bstr ob233.bs Tryz.underlying22 Tryz.underlying5 Tryz.underlying9 rfl rfl) rfl ?_
              refine R_gpu rfl rfl (pu_move rfl) rfl ?_
              have ob234 := (Q58.keptNo k59)
              refine R_gpu rfl rfl (pu_bstr ob234.bs Tryz.underlying22 Tryz.underlying5 Tryz.underlying9 rfl rfl) rfl ?_
              refine R_gpu rfl rfl (pu_true (pu_eqls (p := (subI E2 (cphB Y N (X.take (X.length - 16))) []) = (subI E2 (cphB Y N (X.take (X.length - 16))) [])) rfl rfl (bstr_inj (ob233.bs).byte (ob234.bs).byte)) rfl) rfl ?_
              refine R_pu (pu_pickt rfl rfl) rfl ?_
              refine R_pu (pu_move rfl) rfl ?_
              refine R_gpu rfl rfl (pu_move rfl) rfl ?_
              have o235 : Gt w59 := (o232.no k59)
              refine R_glo rfl rfl (lo_call (by kernel_rfl) rfl (num_errv E2 ev_oa _ he_oa o235)) rfl ?_
              rintro _ w60 ⟨rfl, k60⟩
              have kk60 := kk59.then_ k60
              refine R_gpu rfl rfl (pu_move rfl) rfl ?_
              refine R_gpu rfl rfl (pu_true (pu_eql (p := E2 = E2) rfl rfl (by omega)) rfl) rfl ?_
              refine R_pu (pu_pickt rfl rfl) rfl ?_
              refine R_pu (pu_move rfl) rfl ?_
              refine R_gpu rfl rfl (pu_move rfl) rfl ?_
              refine R_gpu rfl rfl (pu_fieldAddr (off := 1) (o' := 1) (by kernel_rfl) rfl rfl) rfl ?_
              have f236 : Bk w60 pc ([.slice A0 (Y.length) (c0), .slice A1 (N.length) (c1), .slice A2 (D.length) (c2)]) 24 := (((f219.no k58).no k59).no k60)
              refine R_gpu rfl rfl (pu_loadK f236 (by kernel_rfl) rfl rfl) rfl ?_
              refine R_gpu rfl rfl (pu_move rfl) rfl ?_
              refine R_gpu rfl rfl (pu_fieldAddr (off := 2) (o' := 2) (by kernel_rfl) rfl rfl) rfl ?_
              refine R_gpu rfl rfl (pu_loadK f236 (by kernel_rfl) rfl rfl) rfl ?_
              have f237 : Bk w60 kp (gkL kb (gmH Y)) 59 := (((f220.no k58).no k59).no k60)
              have f238 : Bk w60 kb (keyL kx (KW Y)) 88 := (((f221.no k58).no k59).no k60)
              have o239 : Sx w60 kx := (((T57.no k58).no k59).no k60)
              refine R_glo rfl rfl (lo_call (by kernel_rfl) rfl (gcm_opens_all kp kb kx Y A1 N c1 A4 X c4 A2 D c2 _ bK_kp n1_51 n2_51 n3_51 f237 f238 o239 (HN.keptNo kk60) hn (HN.aw (Nat.le_trans kk50.size lx51)) (HX.keptNo kk60) hx (HX.aw (Nat.le_trans kk50.size lx51)) (HD.keptNo kk60) hd (HD.aw (Nat.le_trans kk50.size lx51)))) rfl ?_
              rintro _ w61 ⟨rfl, T61, k61⟩
              have kk61 := kk60.trans k61 (fun i hi => .inr (hi ▸ (Nat.le_trans kk50.size lx51)))
              refine R_gpu rfl rfl (pu_move rfl) rfl ?_
              refine R_gpu rfl rfl (pu_eql (p := E2 = 0) rfl rfl (by omega)) rfl ?_
              refine R_gpu rfl rfl (pu_b (pu_eqlb Tryz.underlying4 rfl rfl) (show (decide (openE Y N X D = 0) == decide (E2 = 0)) = true by subst hE2; exact beq_self_eq_true _)) rfl ?_
              refine R_pu (pu_pickt rfl rfl) rfl ?_
              refine R_pu (pu_move rfl) rfl ?_
              have o240 : Gt w61 := ((o235.no k60).on k61 (Ne.symm ne_kx_0))
              refine R_glo rfl rfl (lo_call (by kernel_rfl) rfl (sure11 _ o240)) rfl ?_
              rintro _ w62 ⟨rfl, k62⟩
              have kk62 := kk61.then_ k62
              refine R_pu (pu_pickt rfl rfl) rfl ?_
              refine R_pu (pu_assign rfl) rfl ?_
              refine R_nil ?_
              refine X_then hK229 ?_
              refine C_ret ?_
              exact X_ret1 (.inl rfl) rfl rfl ⟨rfl, kk62⟩
            · refine C_seq (fun K241 hK241 => ?_)
              refine C_region ?_
              refine R_pu (pu_fieldAddr (off := 0) (o' := 0) (by kernel_rfl) rfl rfl) rfl ?_
              have f242 : Bk w50 pc ([.slice A0 (Y.length) (c0), .slice A1 (N.length) (c1), .slice A2 (D.length) (c2)]) 24 := (f178.no k50)
              refine R_pu (pu_loadK f242 (by kernel_rfl) rfl rfl) rfl ?_
              refine R_lo (lo_call (by kernel_rfl) rfl (gcm_new_err A0 Y c0 _ (HY.keptNo kk50) hy h32)) rfl ?_
              rintro _ w63 ⟨rfl, k63⟩
              have kk63 := kk50.then_ k63
              refine R_pu (pu_move rfl) rfl ?_
              refine R_pu (pu_extract rfl rfl) rfl ?_
              refine R_pu (pu_extract rfl rfl) rfl ?_
              refine R_pu (pu_assign rfl) rfl ?_
              refine R_pu (pu_assign rfl) rfl ?_
              refine R_nil ?_
              refine X_then hK241 ?_
              refine C_seq (fun K243 hK243 => ?_)
              refine C_seq (fun K244 hK244 => ?_)
              refine C_region ?_
              refine R_pu (pu_fieldAddr (off := 0) (o' := 0) (by kernel_rfl) rfl rfl) rfl ?_
              have f245 : Bk w63 pc ([.slice A0 (Y.length) (c0), .slice A1 (N.length) (c1), .slice A2 (D.length) (c2)]) 24 := (f242.no k63)
              refine R_pu (pu_loadK f245 (by kernel_rfl) rfl rfl) rfl ?_
              refine R_pu (pu_len Tryz.underlying22 rfl) rfl ?_
              refine R_pu (pu_neq (p := Y.length = 32) rfl rfl (by omega)) rfl ?_
              refine R_nil ?_
              refine X_then hK244 ?_
              refine C_dect rfl h32 ?_
              refine C_seq (fun K246 hK246 => ?_)
              refine C_region ?_
              refine R_pu (pu_move rfl) rfl ?_
              have o247 : Gt w63 := (((o177.no k49).no k50).no k63)
              refine R_lo (lo_call (by kernel_rfl) rfl (num11_err 1 _ o247)) rfl ?_
              rintro _ w64 ⟨rfl, k64⟩
              have kk64 := kk63.then_ k64
              refine R_pu (pu_true (pu_eql (p := (1 : Nat) = 1) rfl rfl (by omega)) (by decide)) rfl ?_
              refine R_pu (pu_move rfl) rfl ?_
              refine R_gpu rfl rfl (pu_move rfl) rfl ?_
              refine R_gpu rfl rfl (pu_eqlpn (by kernel_rfl) rfl rfl) rfl ?_
              refine R_pu (pu_pickt rfl rfl) rfl ?_
              refine R_pu (pu_move rfl) rfl ?_
              have o248 : Gt w64 := (o247.no k64)
              refine R_glo rfl rfl (lo_call (by kernel_rfl) rfl (sure11 _ o248)) rfl ?_
              rintro _ w65 ⟨rfl, k65⟩
              have kk65 := kk64.then_ k65
              refine R_pu (pu_pickt rfl rfl) rfl ?_
              refine R_pu (pu_assign rfl) rfl ?_
              refine R_nil ?_
              refine X_then hK246 ?_
              refine C_ret ?_
              refine X_then_ret ?_
              exact X_ret1 (.inl rfl) rfl rfl ⟨rfl, kk65⟩
        · refine R_gpu rfl rfl (pu_false (pu_move rfl) g1_23) rfl ?_
          refine R_gno rfl rfl rfl rfl ?_
          refine R_gno rfl rfl rfl rfl ?_
          refine R_gno rfl rfl rfl rfl ?_
          refine R_gno rfl rfl rfl rfl ?_
          refine R_gpu rfl rfl (pu_pickf rfl rfl) rfl ?_
          refine R_pu (pu_pickf rfl rfl) rfl ?_
          refine R_nil ?_
          refine X_then hK3 ?_
          refine C_false rfl ?_
          refine C_skip ?_
          refine X_then hK2 ?_
          refine C_seq (fun K249 hK249 => ?_)
          refine C_region ?_
          refine R_pu (pu_assign rfl) rfl ?_
          refine R_nil ?_
          refine X_then hK249 ?_
          refine C_seq (fun K250 hK250 => ?_)
          refine C_region ?_
          refine R_pu (pu_move rfl) rfl ?_
          refine R_pu (pu_fieldAddr (off := 1) (o' := 1) (by kernel_rfl) rfl rfl) rfl ?_
          refine R_pu (pu_loadK f_pc_1 (by kernel_rfl) rfl rfl) rfl ?_
          refine R_pu (pu_move rfl) rfl ?_
          refine R_pu (pu_fieldAddr (off := 2) (o' := 2) (by kernel_rfl) rfl rfl) rfl ?_
          refine R_pu (pu_loadK f_pc_1 (by kernel_rfl) rfl rfl) rfl ?_
          refine R_lo (lo_call (by kernel_rfl) rfl (gcm_seal_nil A1 N c1 A3 M c3 A2 D c2 _ (HN.keptNo kk1) hn (HM.keptNo kk1) hm (HD.keptNo kk1) hd)) rfl ?_
          rintro _ w66 ⟨rfl, k66⟩
          have kk66 := kk1.then_ k66
          refine R_pu (pu_move rfl) rfl ?_
          refine R_pu (pu_extract rfl rfl) rfl ?_
          refine R_pu (pu_extract rfl rfl) rfl ?_
          refine R_pu (pu_assign rfl) rfl ?_
          refine R_pu (pu_assign rfl) rfl ?_
          refine R_nil ?_
          refine X_then hK250 ?_
          refine C_seq (fun K251 hK251 => ?_)
          refine C_region ?_
          refine R_pu (pu_move rfl) rfl ?_
          refine R_pu (pu_fieldAddr (off := 1) (o' := 1) (by kernel_rfl) rfl rfl) rfl ?_
          have f252 : Bk w66 pc ([.slice A0 (Y.length) (c0), .slice A1 (N.length) (c1), .slice A2 (D.length) (c2)]) 24 := (f_pc_1.no k66)
          refine R_pu (pu_loadK f252 (by kernel_rfl) rfl rfl) rfl ?_
          refine R_pu (pu_move rfl) rfl ?_
          refine R_pu (pu_fieldAddr (off := 2) (o' := 2) (by kernel_rfl) rfl rfl) rfl ?_
          refine R_pu (pu_loadK f252 (by kernel_rfl) rfl rfl) rfl ?_
          refine R_lo (lo_call (by kernel_rfl) rfl (gcm_open_nil A1 N c1 A4 X c4 A2 D c2 _ (HN.keptNo kk66) hn (HX.keptNo kk66) hx (HD.keptNo kk66) hd)) rfl ?_
          rintro _ w67 ⟨rfl, k67⟩
          have kk67 := kk66.then_ k67
          refine R_pu (pu_move rfl) rfl ?_
          refine R_pu (pu_extract rfl rfl) rfl ?_
          refine R_pu (pu_extract rfl rfl) rfl ?_
          refine R_pu (pu_assign rfl) rfl ?_
          refine R_pu (pu_assign rfl) rfl ?_
          refine R_nil ?_
          refine X_then hK251 ?_
          refine C_seq (fun K253 hK253 => ?_)
          refine C_seq (fun K254 hK254 => ?_)
          refine C_region ?_
          refine R_pu (pu_move rfl) rfl ?_
          have o255 : Gt w67 := (((hG.no k1).no k66).no k67)
          refine R_lo (lo_call (by kernel_rfl) rfl (num11_err 1 _ o255)) rfl ?_
          rintro _ w68 ⟨rfl, k68⟩
          have kk68 := kk67.then_ k68
          refine R_pu (pu_false (pu_neq (p := (1 : Nat) = 1) rfl rfl (by omega)) (by decide)) rfl ?_
          refine R_pu (pu_move rfl) rfl ?_
          refine R_gpu rfl rfl (pu_move rfl) rfl ?_
          have o256 : Gt w68 := (o255.no k68)
          refine R_glo rfl rfl (lo_call (by kernel_rfl) rfl (num11_err 1 _ o256)) rfl ?_
          rintro _ w69 ⟨rfl, k69⟩
          have kk69 := kk68.then_ k69
          refine R_gpu rfl rfl (pu_false (pu_neq (p := (1 : Nat) = 1) rfl rfl (by omega)) (by decide)) rfl ?_
          refine R_pu (pu_pickf rfl rfl) rfl ?_
          refine R_pu (pu_move rfl) rfl ?_
          refine R_gpu rfl rfl (pu_move rfl) rfl ?_
          refine R_gpu rfl rfl (pu_fieldAddr (off := 1) (o' := 1) (by kernel_rfl) rfl rfl) rfl ?_
          have f257 : Bk w69 pc ([.slice A0 (Y.length) (c0), .slice A1 (N.length) (c1), .slice A2 (D.length) (c2)]) 24 := (((f252.no k67).no k68).no k69)
          refine R_gpu rfl rfl (pu_loadK f257 (by kernel_rfl) rfl rfl) rfl ?_
          refine R_gpu rfl rfl (pu_move rfl) rfl ?_
          refine R_gpu rfl rfl (pu_fieldAddr (off := 2) (o' := 2) (by kernel_rfl) rfl rfl) rfl ?_
          refine R_gpu rfl rfl (pu_loadK f257 (by kernel_rfl) rfl rfl) rfl ?_
          refine R_glo rfl rfl (lo_call (by kernel_rfl) rfl (gcm_opens_nil A1 N c1 A4 X c4 A2 D c2 _ (HN.keptNo kk69) hn (HX.keptNo kk69) hx (HD.keptNo kk69) hd)) rfl ?_
          rintro _ w70 ⟨rfl, k70⟩
          have kk70 := kk69.then_ k70
          refine R_pu (pu_pickf rfl rfl) rfl ?_
          refine R_nil ?_
          refine X_then hK254 ?_
          refine C_false rfl ?_
          refine C_skip ?_
          refine X_then hK253 ?_
          by_cases h32 : Y.length = 32
          · refine C_seq (fun K258 hK258 => ?_)
            refine C_region ?_
            refine R_pu (pu_fieldAddr (off := 0) (o' := 0) (by kernel_rfl) rfl rfl) rfl ?_
            have f259 : Bk w70 pc ([.slice A0 (Y.length) (c0), .slice A1 (N.length) (c1), .slice A2 (D.length) (c2)]) 24 := (f257.no k70)
            refine R_pu (pu_loadK f259 (by kernel_rfl) rfl rfl) rfl ?_
            have o260 : Gt w70 := ((o256.no k69).no k70)
            have bK_kp : By 32 Y := ⟨h32, HY.byte⟩
            have wy_kb : Wy (KW Y) := KW_wy bK_kp.2
            refine R_lo (lo_call (by kernel_rfl) rfl (gcm_new A0 Y c0 _ (HY.keptNo kk70) hy bK_kp.1)) rfl ?_
            rintro _ w71 ⟨kp, kb, kx, rfl, le71, lb71, lx71, n1_71, n2_71, n3_71, P71, B71, T71, k71⟩
            have kk71 := kk70.then_ k71
            have ne_kp_pc : kp ≠ pc := Nat.ne_of_gt (Nat.lt_of_lt_of_le f259.lt le71)
            have ne_kp_0 : kp ≠ 0 := Nat.ne_of_gt (Nat.lt_of_lt_of_le o260.lt le71)
            have ne_kb_pc : kb ≠ pc := Nat.ne_of_gt (Nat.lt_of_lt_of_le f259.lt lb71)
            have ne_kb_0 : kb ≠ 0 := Nat.ne_of_gt (Nat.lt_of_lt_of_le o260.lt lb71)
            have ne_kx_pc : kx ≠ pc := Nat.ne_of_gt (Nat.lt_of_lt_of_le f259.lt lx71)
            have ne_kx_0 : kx ≠ 0 := Nat.ne_of_gt (Nat.lt_of_lt_of_le o260.lt lx71)
            refine R_pu (pu_move rfl) rfl ?_
            refine R_pu (pu_extract rfl rfl) rfl ?_
            refine R_pu (pu_extract rfl rfl) rfl ?_
            refine R_pu (pu_assign rfl) rfl ?_
            refine R_pu (pu_assign rfl) rfl ?_
            refine R_nil ?_
            refine X_then hK258 ?_
            refine C_seq (fun K261 hK261 => ?_)
            refine C_seq (fun K262 hK262 => ?_)
            refine C_region ?_
            refine R_pu (pu_fieldAddr (off := 0) (o' := 0) (by kernel_rfl) rfl rfl) rfl ?_
            have f263 : Bk w71 pc ([.slice A0 (Y.length) (c0), .slice A1 (N.length) (c1), .slice A2 (D.length) (c2)]) 24 := (f259.no k71)
            refine R_pu (pu_loadK f263 (by kernel_rfl) rfl rfl) rfl ?_
            refine R_pu (pu_len Tryz.underlying22 rfl) rfl ?_
            refine R_pu (pu_neq (p := Y.length = 32) rfl rfl (by omega)) rfl ?_
            refine R_nil ?_
            refine X_then hK262 ?_
            refine C_decf rfl (fun h => h h32) ?_
            refine C_skip ?_
            refine X_then hK261 ?_
            refine C_seq (fun K264 hK264 => ?_)
            refine C_region ?_
            refine R_pu (pu_fieldAddr (off := 0) (o' := 0) (by kernel_rfl) rfl rfl) rfl ?_
            refine R_pu (pu_loadK f263 (by kernel_rfl) rfl rfl) rfl ?_
            refine R_lo (lo_call (by kernel_rfl) rfl (ref11_ready A0 Y c0 _ (HY.keptNo kk71) hy h32)) rfl ?_
            rintro _ w72 ⟨rfl, k72⟩
            have kk72 := kk71.then_ k72
            have f265 : Bk w72 pc ([.slice A0 (Y.length) (c0), .slice A1 (N.length) (c1), .slice A2 (D.length) (c2)]) 24 := (f263.no k72)
            have f266 : Bk w72 kp (gkL kb (gmH Y)) 59 := (P71.no k72)
            have f267 : Bk w72 kb (keyL kx (KW Y)) 88 := (B71.no k72)
            have o268 : Gt w72 := ((o260.no k71).no k72)
            have o269 : Sx w72 kx := (T71.no k72)
            refine R_lo (lo_alloc (L := u8s (List.replicate 512 0)) (by kernel_rfl)) rfl ?_
            rintro _ w73 ⟨pr, rfl, N73⟩
            have k73 := N73.kp
            have kk73 := kk72.then_ k73
            have ne_pr_pc : pr ≠ pc := Nat.ne_of_gt (Nat.lt_of_lt_of_le f265.lt N73.le)
            have ne_pr_kp : pr ≠ kp := Nat.ne_of_gt (Nat.lt_of_lt_of_le f266.lt N73.le)
            have ne_pr_kb : pr ≠ kb := Nat.ne_of_gt (Nat.lt_of_lt_of_le f267.lt N73.le)
            have ne_pr_0 : pr ≠ 0 := Nat.ne_of_gt (Nat.lt_of_lt_of_le o268.lt N73.le)
            have ne_pr_kx : pr ≠ kx := Nat.ne_of_gt (Nat.lt_of_lt_of_le o269.lt N73.le)
            have f_pr_73 : Bk w73 pr (u8s (List.replicate 512 0)) 42 := N73.bk
            refine R_lo0 (lo_storeRow (C := u8s (RKL Y)) f_pr_73 (by rw [u8s_length, (RKL_by Y).1]; kernel_rfl) rfl rfl (u8s_each _) ((u8s_length _).trans ((RKL_by Y).1.trans ((rep_by 512).1.symm.trans (u8s_length _).symm)))) ?_
            rintro _ w74 kf74
            obtain ⟨k74, f_pr_74⟩ := kf74
            replace f_pr_74 : Bk w74 pr (u8s (RKL Y)) 42 := f_pr_74
            have kk74 := kk73.trans k74 (fun i hi => .inr (hi ▸ (Nat.le_trans kk72.size N73.le)))
            refine R_nil ?_
            refine X_then hK264 ?_
            refine C_seq (fun K270 hK270 => ?_)
            obtain ⟨E1, hE1⟩ : ∃ E, E = sealE N M D := ⟨_, rfl⟩; obtain ⟨E2, hE2⟩ : ∃ E, E = openE Y N X D := ⟨_, rfl⟩
            refine C_region ?_
            refine R_pu (pu_move rfl) rfl ?_
            refine R_pu (pu_fieldAddr (off := 1) (o' := 1) (by kernel_rfl) rfl rfl) rfl ?_
            have f271 : Bk w74 pc ([.slice A0 (Y.length) (c0), .slice A1 (N.length) (c1), .slice A2 (D.length) (c2)]) 24 := ((f265.no k73).on k74 (Ne.symm ne_pr_pc))
            refine R_pu (pu_loadK f271 (by kernel_rfl) rfl rfl) rfl ?_
            refine R_pu (pu_move rfl) rfl ?_
            refine R_pu (pu_fieldAddr (off := 2) (o' := 2) (by kernel_rfl) rfl rfl) rfl ?_
            refine R_pu (pu_loadK f271 (by kernel_rfl) rfl rfl) rfl ?_
            have f272 : Bk w74 kp (gkL kb (gmH Y)) 59 := ((f266.no k73).on k74 (Ne.symm ne_pr_kp))
            have f273 : Bk w74 kb (keyL kx (KW Y)) 88 := ((f267.no k73).on k74 (Ne.symm ne_pr_kb))
            have o274 : Sx w74 kx := ((o269.no k73).on k74 (Ne.symm ne_pr_kx))
            have o275 : Gt w74 := ((o268.no k73).on k74 (Ne.symm ne_pr_0))
            refine R_lo (lo_call (by kernel_rfl) rfl (gcm_seal_all kp kb kx Y A1 N c1 A3 M c3 A2 D c2 E1 _ bK_kp n1_71 n2_71 n3_71 f272 f273 o274 (HN.keptNo kk74) hn (HN.aw (Nat.le_trans kk70.size lx71)) (HM.keptNo kk74) hm (HM.aw (Nat.le_trans kk70.size lx71)) (HD.keptNo kk74) hd (HD.aw (Nat.le_trans kk70.size lx71)) hE1)) rfl ?_
            rintro _ w75 ⟨A_sa, c_sa, ev_sa, rfl, he_sa, Q75, T75, k75⟩
            have kk75 := kk74.trans k75 (fun i hi => .inr (hi ▸ (Nat.le_trans kk70.size lx71)))
            have z276 : w74.heap.size ≤ w75.heap.size := k75.size
            refine R_pu (pu_move rfl) rfl ?_
            refine R_pu (pu_extract rfl rfl) rfl ?_
            refine R_pu (pu_extract rfl rfl) rfl ?_
            refine R_pu (pu_assign rfl) rfl ?_
            refine R_pu (pu_assign rfl) rfl ?_
            refine R_nil ?_
            refine X_then hK270 ?_
            refine C_seq (fun K277 hK277 => ?_)
            refine C_region ?_
            have f278 : Bk w75 pr (u8s (RKL Y)) 42 := (f_pr_74.on k75 ne_pr_kx)
            refine R_pu (pu_loadRow (len := 512) f278 (by kernel_rfl) (by kernel_rfl) (by rw [u8s_length]; exact (RKL_by Y).1) rfl) rfl ?_
            refine R_pu (pu_fieldAddr (off := 1) (o' := 1) (by kernel_rfl) rfl rfl) rfl ?_
            have f279 : Bk w75 pc ([.slice A0 (Y.length) (c0), .slice A1 (N.length) (c1), .slice A2 (D.length) (c2)]) 24 := (f271.on k75 (Ne.symm ne_kx_pc))
            refine R_pu (pu_loadK f279 (by kernel_rfl) rfl rfl) rfl ?_
            refine R_pu (pu_move rfl) rfl ?_
            refine R_pu (pu_fieldAddr (off := 2) (o' := 2) (by kernel_rfl) rfl rfl) rfl ?_
            refine R_pu (pu_loadK f279 (by kernel_rfl) rfl rfl) rfl ?_
            have f280 : Bk w75 kp (gkL kb (gmH Y)) 59 := (f272.on k75 n2_71)
            have f281 : Bk w75 kb (keyL kx (KW Y)) 88 := (f273.on k75 n3_71)
            have o282 : Gt w75 := (o275.on k75 (Ne.symm ne_kx_0))
            have lm283 := Q75.top
            refine R_lo (lo_call (by kernel_rfl) rfl (ref11_seal_all Y A1 N c1 A3 M c3 A2 D c2 E1 _ (HN.keptNo kk75) hn (HM.keptNo kk75) hm (HD.keptNo kk75) hd hE1)) rfl ?_
            rintro _ w76 ⟨A_sb, c_sb, rfl, Q76, k76⟩
            have kk76 := kk75.then_ k76
            have z284 : w75.heap.size ≤ w76.heap.size := k76.size
            refine R_pu (pu_move rfl) rfl ?_
            refine R_pu (pu_extract rfl rfl) rfl ?_
            refine R_pu (pu_extract rfl rfl) rfl ?_
            refine R_pu (pu_assign rfl) rfl ?_
            refine R_pu (pu_assign rfl) rfl ?_
            refine R_nil ?_
            refine X_then hK277 ?_
            refine C_seq (fun K285 hK285 => ?_)
            refine C_region ?_
            refine R_pu (pu_move rfl) rfl ?_
            refine R_pu (pu_fieldAddr (off := 1) (o' := 1) (by kernel_rfl) rfl rfl) rfl ?_
            have f286 : Bk w76 pc ([.slice A0 (Y.length) (c0), .slice A1 (N.length) (c1), .slice A2 (D.length) (c2)]) 24 := (f279.no k76)
            refine R_pu (pu_loadK f286 (by kernel_rfl) rfl rfl) rfl ?_
            refine R_pu (pu_move rfl) rfl ?_
            refine R_pu (pu_fieldAddr (off := 2) (o' := 2) (by kernel_rfl) rfl rfl) rfl ?_
            refine R_pu (pu_loadK f286 (by kernel_rfl) rfl rfl) rfl ?_
            have f287 : Bk w76 kp (gkL kb (gmH Y)) 59 := (f280.no k76)
            have f288 : Bk w76 kb (keyL kx (KW Y)) 88 := (f281.no k76)
            have o289 : Sx w76 kx := (T75.no k76)
            have f290 : Bk w76 pr (u8s (RKL Y)) 42 := (f278.no k76)
            have o291 : Gt w76 := (o282.no k76)
            have ob293 := (Q75.keptNo k76)
            have lm292 := ob293.top
            have lm294 := Q76.top
            refine R_lo (lo_call (by kernel_rfl) rfl (gcm_open_all kp kb kx Y A1 N c1 A4 X c4 A2 D c2 E2 _ bK_kp n1_71 n2_71 n3_71 f287 f288 o289 (HN.keptNo kk76) hn (HN.aw (Nat.le_trans kk70.size lx71)) (HX.keptNo kk76) hx (HX.aw (Nat.le_trans kk70.size lx71)) (HD.keptNo kk76) hd (HD.aw (Nat.le_trans kk70.size lx71)) hE2)) rfl ?_
            rintro _ w77 ⟨A_oa, c_oa, ev_oa, rfl, he_oa, Q77, T77, k77⟩
            have kk77 := kk76.trans k77 (fun i hi => .inr (hi ▸ (Nat.le_trans kk70.size lx71)))
            have z295 : w76.heap.size ≤ w77.heap.size := k77.size
            refine R_pu (pu_move rfl) rfl ?_
            refine R_pu (pu_extract rfl rfl) rfl ?_
            refine R_pu (pu_extract rfl rfl) rfl ?_
            refine R_pu (pu_assign rfl) rfl ?_
            refine R_pu (pu_assign rfl) rfl ?_
            refine R_nil ?_
            refine X_then hK285 ?_
            refine C_seq (fun K296 hK296 => ?_)
            refine C_region ?_
            have f297 : Bk w77 pr (u8s (RKL Y)) 42 := (f290.on k77 ne_pr_kx)
            refine R_pu (pu_loadRow (len := 512) f297 (by kernel_rfl) (by kernel_rfl) (by rw [u8s_length]; exact (RKL_by Y).1) rfl) rfl ?_
            refine R_pu (pu_fieldAddr (off := 1) (o' := 1) (by kernel_rfl) rfl rfl) rfl ?_
            have f298 : Bk w77 pc ([.slice A0 (Y.length) (c0), .slice A1 (N.length) (c1), .slice A2 (D.length) (c2)]) 24 := (f286.on k77 (Ne.symm ne_kx_pc))
            refine R_pu (pu_loadK f298 (by kernel_rfl) rfl rfl) rfl ?_
            refine R_pu (pu_move rfl) rfl ?_
            refine R_pu (pu_fieldAddr (off := 2) (o' := 2) (by kernel_rfl) rfl rfl) rfl ?_
            refine R_pu (pu_loadK f298 (by kernel_rfl) rfl rfl) rfl ?_
            have f299 : Bk w77 kp (gkL kb (gmH Y)) 59 := (f287.on k77 n2_71)
            have f300 : Bk w77 kb (keyL kx (KW Y)) 88 := (f288.on k77 n3_71)
            have o301 : Gt w77 := (o291.on k77 (Ne.symm ne_kx_0))
            have ob303 := (ob293.on k77 (by have := o274.lt; omega))
            have lm302 := ob303.top
            have ob305 := (Q76.on k77 (by have := T75.lt; omega))
            have lm304 := ob305.top
            have lm306 := Q77.top
            refine R_lo (lo_call (by kernel_rfl) rfl (ref11_open_all Y A1 N c1 A4 X c4 A2 D c2 E2 _ (HN.keptNo kk77) hn (HX.keptNo kk77) hx (HD.keptNo kk77) hd hE2)) rfl ?_
            rintro _ w78 ⟨A_ob, c_ob, rfl, Q78, k78⟩
            have kk78 := kk77.then_ k78
            have z307 : w77.heap.size ≤ w78.heap.size := k78.size
            refine R_pu (pu_move rfl) rfl ?_
            refine R_pu (pu_extract rfl rfl) rfl ?_
            refine R_pu (pu_extract rfl rfl) rfl ?_
            refine R_pu (pu_assign rfl) rfl ?_
            refine R_pu (pu_assign rfl) rfl ?_
            refine R_nil ?_
            refine X_then hK296 ?_
            refine C_seq (fun K308 hK308 => ?_)
            refine C_region ?_
            refine R_pu (pu_move rfl) rfl ?_
            refine R_pu (pu_eqlnn (by kernel_rfl) rfl) rfl ?_
            refine R_pu (pu_move rfl) rfl ?_
            refine R_gpu rfl rfl (pu_move rfl) rfl ?_
            have ob309 := (ob303.keptNo k78)
            refine R_gpu rfl rfl (pu_bstr ob309.bs Tryz.underlying22 Tryz.underlying5 Tryz.underlying9 rfl rfl) rfl ?_
            refine R_gpu rfl rfl (pu_move rfl) rfl ?_
            have ob310 := (ob305.keptNo k78)
            refine R_gpu rfl rfl (pu_bstr ob310.bs Tryz.underlying22 Tryz.underlying5 Tryz.underlying9 rfl rfl) rfl ?_
            refine R_gpu rfl rfl (pu_true (pu_eqls (p := (subI E1 (sealB Y N M D) []) = (subI E1 (sealB Y N M D) [])) rfl rfl (bstr_inj (ob309.bs).byte (ob310.bs).byte)) rfl) rfl ?_
            refine R_pu (pu_pickt rfl rfl) rfl ?_
            refine R_pu (pu_move rfl) rfl ?_
            refine R_gpu rfl rfl (pu_move rfl) rfl ?_
            have o311 : Gt w78 := (o301.no k78)
            refine R_glo rfl rfl (lo_call (by kernel_rfl) rfl (num_errv E1 ev_sa _ he_sa o311)) rfl ?_
            rintro _ w79 ⟨rfl, k79⟩
            have kk79 := kk78.then_ k79
            refine R_gpu rfl rfl (pu_move rfl) rfl ?_
            refine R_gpu rfl rfl (pu_true (pu_eql (p := E1 = E1) rfl rfl (by omega)) rfl) rfl ?_
            refine R_pu (pu_pickt rfl rfl) rfl ?_
            refine R_pu (pu_move rfl) rfl ?_
            refine R_gpu rfl rfl (pu_move rfl) rfl ?_
            have ob312 := ((Q77.keptNo k78).keptNo k79)
            refine R_gpu rfl rfl (pu_bstr ob312.bs Tryz.underlying22 Tryz.underlying5 Tryz.underlying9 rfl rfl) rfl ?_
            refine R_gpu rfl rfl (pu_move rfl) rfl ?_
            have ob313 := (Q78.keptNo k79)
            refine R_gpu rfl rfl (pu_bstr ob313.bs Tryz.underlying22 Tryz.underlying5 Tryz.underlying9 rfl rfl) rfl ?_
            refine R_gpu rfl rfl (pu_true (pu_eqls (p := (subI E2 (cphB Y N (X.take (X.length - 16))) []) = (subI E2 (cphB Y N (X.take (X.length - 16))) [])) rfl rfl (bstr_inj (ob312.bs).byte (ob313.bs).byte)) rfl) rfl ?_
            refine R_pu (pu_pickt rfl rfl) rfl ?_
            refine R_pu (pu_move rfl) rfl ?_
            refine R_gpu rfl rfl (pu_move rfl) rfl ?_
            have o314 : Gt w79 := (o311.no k79)
            refine R_glo rfl rfl (lo_call (by kernel_rfl) rfl (num_errv E2 ev_oa _ he_oa o314)) rfl ?_
            rintro _ w80 ⟨rfl, k80⟩
            have kk80 := kk79.then_ k80
            refine R_gpu rfl rfl (pu_move rfl) rfl ?_
            refine R_gpu rfl rfl (pu_true (pu_eql (p := E2 = E2) rfl rfl (by omega)) rfl) rfl ?_
            refine R_pu (pu_pickt rfl rfl) rfl ?_
            refine R_pu (pu_move rfl) rfl ?_
            refine R_gpu rfl rfl (pu_move rfl) rfl ?_
            refine R_gpu rfl rfl (pu_fieldAddr (off := 1) (o' := 1) (by kernel_rfl) rfl rfl) rfl ?_
            have f315 : Bk w80 pc ([.slice A0 (Y.length) (c0), .slice A1 (N.length) (c1), .slice A2 (D.length) (c2)]) 24 := (((f298.no k78).no k79).no k80)
            refine R_gpu rfl rfl (pu_loadK f315 (by kernel_rfl) rfl rfl) rfl ?_
            refine R_gpu rfl rfl (pu_move rfl) rfl ?_
            refine R_gpu rfl rfl (pu_fieldAddr (off := 2) (o' := 2) (by kernel_rfl) rfl rfl) rfl ?_
            refine R_gpu rfl rfl (pu_loadK f315 (by kernel_rfl) rfl rfl) rfl ?_
            have f316 : Bk w80 kp (gkL kb (gmH Y)) 59 := (((f299.no k78).no k79).no k80)
            have f317 : Bk w80 kb (keyL kx (KW Y)) 88 := (((f300.no k78).no k79).no k80)
            have o318 : Sx w80 kx := (((T77.no k78).no k79).no k80)
            refine R_glo rfl rfl (lo_call (by kernel_rfl) rfl (gcm_opens_all kp kb kx Y A1 N c1 A4 X c4 A2 D c2 _ bK_kp n1_71 n2_71 n3_71 f316 f317 o318 (HN.keptNo kk80) hn (HN.aw (Nat.le_trans kk70.size lx71)) (HX.keptNo kk80) hx (HX.aw (Nat.le_trans kk70.size lx71)) (HD.keptNo kk80) hd (HD.aw (Nat.le_trans kk70.size lx71)))) rfl ?_
            rintro _ w81 ⟨rfl, T81, k81⟩
            have kk81 := kk80.trans k81 (fun i hi => .inr (hi ▸ (Nat.le_trans kk70.size lx71)))
            refine R_gpu rfl rfl (pu_move rfl) rfl ?_
            refine R_gpu rfl rfl (pu_eql (p := E2 = 0) rfl rfl (by omega)) rfl ?_
            refine R_gpu rfl rfl (pu_b (pu_eqlb Tryz.underlying4 rfl rfl) (show (decide (openE Y N X D = 0) == decide (E2 = 0)) = true by subst hE2; exact beq_self_eq_true _)) rfl ?_
            refine R_pu (pu_pickt rfl rfl) rfl ?_
            refine R_pu (pu_move rfl) rfl ?_
            have o319 : Gt w81 := ((o314.no k80).on k81 (Ne.symm ne_kx_0))
            refine R_glo rfl rfl (lo_call (by kernel_rfl) rfl (sure11 _ o319)) rfl ?_
            rintro _ w82 ⟨rfl, k82⟩
            have kk82 := kk81.then_ k82
            refine R_pu (pu_pickt rfl rfl) rfl ?_
            refine R_pu (pu_assign rfl) rfl ?_
            refine R_nil ?_
            refine X_then hK308 ?_
            refine C_ret ?_
            exact X_ret1 (.inl rfl) rfl rfl ⟨rfl, kk82⟩
          · refine C_seq (fun K320 hK320 => ?_)
            refine C_region ?_
            refine R_pu (pu_fieldAddr (off := 0) (o' := 0) (by kernel_rfl) rfl rfl) rfl ?_
            have f321 : Bk w70 pc ([.slice A0 (Y.length) (c0), .slice A1 (N.length) (c1), .slice A2 (D.length) (c2)]) 24 := (f257.no k70)
            refine R_pu (pu_loadK f321 (by kernel_rfl) rfl rfl) rfl ?_
            refine R_lo (lo_call (by kernel_rfl) rfl (gcm_new_err A0 Y c0 _ (HY.keptNo kk70) hy h32)) rfl ?_
            rintro _ w83 ⟨rfl, k83⟩
            have kk83 := kk70.then_ k83
            refine R_pu (pu_move rfl) rfl ?_
            refine R_pu (pu_extract rfl rfl) rfl ?_
            refine R_pu (pu_extract rfl rfl) rfl ?_
            refine R_pu (pu_assign rfl) rfl ?_
            refine R_pu (pu_assign rfl) rfl ?_
            refine R_nil ?_
            refine X_then hK320 ?_
            refine C_seq (fun K322 hK322 => ?_)
            refine C_seq (fun K323 hK323 => ?_)
            refine C_region ?_
            refine R_pu (pu_fieldAddr (off := 0) (o' := 0) (by kernel_rfl) rfl rfl) rfl ?_
            have f324 : Bk w83 pc ([.slice A0 (Y.length) (c0), .slice A1 (N.length) (c1), .slice A2 (D.length) (c2)]) 24 := (f321.no k83)
            refine R_pu (pu_loadK f324 (by kernel_rfl) rfl rfl) rfl ?_
            refine R_pu (pu_len Tryz.underlying22 rfl) rfl ?_
            refine R_pu (pu_neq (p := Y.length = 32) rfl rfl (by omega)) rfl ?_
            refine R_nil ?_
            refine X_then hK323 ?_
            refine C_dect rfl h32 ?_
            refine C_seq (fun K325 hK325 => ?_)
            refine C_region ?_
            refine R_pu (pu_move rfl) rfl ?_
            have o326 : Gt w83 := (((o256.no k69).no k70).no k83)
            refine R_lo (lo_call (by kernel_rfl) rfl (num11_err 1 _ o326)) rfl ?_
            rintro _ w84 ⟨rfl, k84⟩
            have kk84 := kk83.then_ k84
            refine R_pu (pu_true (pu_eql (p := (1 : Nat) = 1) rfl rfl (by omega)) (by decide)) rfl ?_
            refine R_pu (pu_move rfl) rfl ?_
            refine R_gpu rfl rfl (pu_move rfl) rfl ?_
            refine R_gpu rfl rfl (pu_eqlpn (by kernel_rfl) rfl rfl) rfl ?_
            refine R_pu (pu_pickt rfl rfl) rfl ?_
            refine R_pu (pu_move rfl) rfl ?_
            have o327 : Gt w84 := (o326.no k84)
            refine R_glo rfl rfl (lo_call (by kernel_rfl) rfl (sure11 _ o327)) rfl ?_
            rintro _ w85 ⟨rfl, k85⟩
            have kk85 := kk84.then_ k85
            refine R_pu (pu_pickt rfl rfl) rfl ?_
            refine R_pu (pu_assign rfl) rfl ?_
            refine R_nil ?_
            refine X_then hK325 ?_
            refine C_ret ?_
            refine X_then_ret ?_
            exact X_ret1 (.inl rfl) rfl rfl ⟨rfl, kk85⟩
  · refine R_pu (pu_false (pu_move rfl) g1_3) rfl ?_
    refine R_gno rfl rfl rfl rfl ?_
    refine R_gno rfl rfl rfl rfl ?_
    refine R_gno rfl rfl rfl rfl ?_
    refine R_pu (pu_pickf rfl rfl) rfl ?_
    refine R_pu (pu_move rfl) rfl ?_
    refine R_gpu rfl rfl (pu_move rfl) rfl ?_
    refine R_gpu rfl rfl (pu_len Tryz.underlying22 rfl) rfl ?_
    refine R_gpu rfl rfl (pu_gtr (p := X.length > 300) rfl rfl (by omega)) rfl ?_
    by_cases g1_12 : X.length > 300
    · refine R_gpu rfl rfl (pu_true (pu_move rfl) g1_12) rfl ?_
      refine R_gpu rfl rfl (pu_move rfl) rfl ?_
      refine R_gpu rfl rfl (pu_len Tryz.underlying22 rfl) rfl ?_
      refine R_gpu rfl rfl (pu_leq (p := X.length ≤ 2064) rfl rfl (by omega)) rfl ?_
      refine R_gpu rfl rfl (pu_pickt rfl rfl) rfl ?_
      refine R_pu (pu_pickf rfl rfl) rfl ?_
      by_cases g1_18 : X.length ≤ 2064
      · refine R_pu (pu_true (pu_move rfl) g1_18) rfl ?_
        refine R_gno rfl rfl rfl rfl ?_
        refine R_gno rfl rfl rfl rfl ?_
        refine R_gno rfl rfl rfl rfl ?_
        refine R_gno rfl rfl rfl rfl ?_
        refine R_gno rfl rfl rfl rfl ?_
        refine R_gun rfl rfl rfl ?_
        refine R_gun rfl rfl rfl ?_
        refine R_gun rfl rfl rfl ?_
        refine R_gun rfl rfl rfl ?_
        refine R_gno rfl rfl rfl rfl ?_
        refine R_pu (pu_pickt rfl rfl) rfl ?_
        refine R_nil ?_
        refine X_then hK3 ?_
        refine C_true rfl ?_
        refine C_seq (fun K328 hK328 => ?_)
        refine C_region ?_
        have o329 : Gt w1 := (hG.no k1)
        refine R_lo (lo_call (by kernel_rfl) rfl (sure11 _ o329)) rfl ?_
        rintro _ w86 ⟨rfl, k86⟩
        have kk86 := kk1.then_ k86
        refine R_pu (pu_assign rfl) rfl ?_
        refine R_nil ?_
        refine X_then hK328 ?_
        refine C_ret ?_
        refine X_then_ret ?_
        exact X_ret1 (.inl rfl) rfl rfl ⟨rfl, kk86⟩
      · refine R_pu (pu_false (pu_move rfl) g1_18) rfl ?_
        refine R_gpu rfl rfl (pu_fieldAddr (off := 2) (o' := 2) (by kernel_rfl) rfl rfl) rfl ?_
        refine R_gpu rfl rfl (pu_loadK f_pc_1 (by kernel_rfl) rfl rfl) rfl ?_
        refine R_gpu rfl rfl (pu_len Tryz.underlying22 rfl) rfl ?_
        refine R_gpu rfl rfl (pu_gtr (p := D.length > 300) rfl rfl (by omega)) rfl ?_
        by_cases g1_23 : D.length > 300
        · refine R_gpu rfl rfl (pu_true (pu_move rfl) g1_23) rfl ?_
          refine R_gpu rfl rfl (pu_fieldAddr (off := 2) (o' := 2) (by kernel_rfl) rfl rfl) rfl ?_
          refine R_gpu rfl rfl (pu_loadK f_pc_1 (by kernel_rfl) rfl rfl) rfl ?_
          refine R_gpu rfl rfl (pu_len Tryz.underlying22 rfl) rfl ?_
          refine R_gpu rfl rfl (pu_leq (p := D.length ≤ 2048) rfl rfl (by omega)) rfl ?_
          refine R_gpu rfl rfl (pu_pickt rfl rfl) rfl ?_
          refine R_pu (pu_pickf rfl rfl) rfl ?_
          refine R_nil ?_
          refine X_then hK3 ?_
          refine C_dec rfl (fun h52 => ?_) (fun h52 => ?_)
          · refine C_seq (fun K330 hK330 => ?_)
            refine C_region ?_
            have o331 : Gt w1 := (hG.no k1)
            refine R_lo (lo_call (by kernel_rfl) rfl (sure11 _ o331)) rfl ?_
            rintro _ w87 ⟨rfl, k87⟩
            have kk87 := kk1.then_ k87
            refine R_pu (pu_assign rfl) rfl ?_
            refine R_nil ?_
            refine X_then hK330 ?_
            refine C_ret ?_
            refine X_then_ret ?_
            exact X_ret1 (.inl rfl) rfl rfl ⟨rfl, kk87⟩
          · refine C_skip ?_
            refine X_then hK2 ?_
            refine C_seq (fun K332 hK332 => ?_)
            refine C_region ?_
            refine R_pu (pu_assign rfl) rfl ?_
            refine R_nil ?_
            refine X_then hK332 ?_
            refine C_seq (fun K333 hK333 => ?_)
            refine C_region ?_
            refine R_pu (pu_move rfl) rfl ?_
            refine R_pu (pu_fieldAddr (off := 1) (o' := 1) (by kernel_rfl) rfl rfl) rfl ?_
            refine R_pu (pu_loadK f_pc_1 (by kernel_rfl) rfl rfl) rfl ?_
            refine R_pu (pu_move rfl) rfl ?_
            refine R_pu (pu_fieldAddr (off := 2) (o' := 2) (by kernel_rfl) rfl rfl) rfl ?_
            refine R_pu (pu_loadK f_pc_1 (by kernel_rfl) rfl rfl) rfl ?_
            refine R_lo (lo_call (by kernel_rfl) rfl (gcm_seal_nil A1 N c1 A3 M c3 A2 D c2 _ (HN.keptNo kk1) hn (HM.keptNo kk1) hm (HD.keptNo kk1) hd)) rfl ?_
            rintro _ w88 ⟨rfl, k88⟩
            have kk88 := kk1.then_ k88
            refine R_pu (pu_move rfl) rfl ?_
            refine R_pu (pu_extract rfl rfl) rfl ?_
            refine R_pu (pu_extract rfl rfl) rfl ?_
            refine R_pu (pu_assign rfl) rfl ?_
            refine R_pu (pu_assign rfl) rfl ?_
            refine R_nil ?_
            refine X_then hK333 ?_
            refine C_seq (fun K334 hK334 => ?_)
            refine C_region ?_
            refine R_pu (pu_move rfl) rfl ?_
            refine R_pu (pu_fieldAddr (off := 1) (o' := 1) (by kernel_rfl) rfl rfl) rfl ?_
            have f335 : Bk w88 pc ([.slice A0 (Y.length) (c0), .slice A1 (N.length) (c1), .slice A2 (D.length) (c2)]) 24 := (f_pc_1.no k88)
            refine R_pu (pu_loadK f335 (by kernel_rfl) rfl rfl) rfl ?_
            refine R_pu (pu_move rfl) rfl ?_
            refine R_pu (pu_fieldAddr (off := 2) (o' := 2) (by kernel_rfl) rfl rfl) rfl ?_
            refine R_pu (pu_loadK f335 (by kernel_rfl) rfl rfl) rfl ?_
            refine R_lo (lo_call (by kernel_rfl) rfl (gcm_open_nil A1 N c1 A4 X c4 A2 D c2 _ (HN.keptNo kk88) hn (HX.keptNo kk88) hx (HD.keptNo kk88) hd)) rfl ?_
            rintro _ w89 ⟨rfl, k89⟩
            have kk89 := kk88.then_ k89
            refine R_pu (pu_move rfl) rfl ?_
            refine R_pu (pu_extract rfl rfl) rfl ?_
            refine R_pu (pu_extract rfl rfl) rfl ?_
            refine R_pu (pu_assign rfl) rfl ?_
            refine R_pu (pu_assign rfl) rfl ?_
            refine R_nil ?_
            refine X_then hK334 ?_
            refine C_seq (fun K336 hK336 => ?_)
            refine C_seq (fun K337 hK337 => ?_)
            refine C_region ?_
            refine R_pu (pu_move rfl) rfl ?_
            have o338 : Gt w89 := (((hG.no k1).no k88).no k89)
            refine R_lo (lo_call (by kernel_rfl) rfl (num11_err 1 _ o338)) rfl ?_
            rintro _ w90 ⟨rfl, k90⟩
            have kk90 := kk89.then_ k90
            refine R_pu (pu_false (pu_neq (p := (1 : Nat) = 1) rfl rfl (by omega)) (by decide)) rfl ?_
            refine R_pu (pu_move rfl) rfl ?_
            refine R_gpu rfl rfl (pu_move rfl) rfl ?_
            have o339 : Gt w90 := (o338.no k90)
            refine R_glo rfl rfl (lo_call (by kernel_rfl) rfl (num11_err 1 _ o339)) rfl ?_
            rintro _ w91 ⟨rfl, k91⟩
            have kk91 := kk90.then_ k91
            refine R_gpu rfl rfl (pu_false (pu_neq (p := (1 : Nat) = 1) rfl rfl (by omega)) (by decide)) rfl ?_
            refine R_pu (pu_pickf rfl rfl) rfl ?_
            refine R_pu (pu_move rfl) rfl ?_
            refine R_gpu rfl rfl (pu_move rfl) rfl ?_
            refine R_gpu rfl rfl (pu_fieldAddr (off := 1) (o' := 1) (by kernel_rfl) rfl rfl) rfl ?_
            have f340 : Bk w91 pc ([.slice A0 (Y.length) (c0), .slice A1 (N.length) (c1), .slice A2 (D.length) (c2)]) 24 := (((f335.no k89).no k90).no k91)
            refine R_gpu rfl rfl (pu_loadK f340 (by kernel_rfl) rfl rfl) rfl ?_
            refine R_gpu rfl rfl (pu_move rfl) rfl ?_
            refine R_gpu rfl rfl (pu_fieldAddr (off := 2) (o' := 2) (by kernel_rfl) rfl rfl) rfl ?_
            refine R_gpu rfl rfl (pu_loadK f340 (by kernel_rfl) rfl rfl) rfl ?_
            refine R_glo rfl rfl (lo_call (by kernel_rfl) rfl (gcm_opens_nil A1 N c1 A4 X c4 A2 D c2 _ (HN.keptNo kk91) hn (HX.keptNo kk91) hx (HD.keptNo kk91) hd)) rfl ?_
            rintro _ w92 ⟨rfl, k92⟩
            have kk92 := kk91.then_ k92
            refine R_pu (pu_pickf rfl rfl) rfl ?_
            refine R_nil ?_
            refine X_then hK337 ?_
            refine C_false rfl ?_
            refine C_skip ?_
            refine X_then hK336 ?_
            by_cases h32 : Y.length = 32
            · refine C_seq (fun K341 hK341 => ?_)
              refine C_region ?_
              refine R_pu (pu_fieldAddr (off := 0) (o' := 0) (by kernel_rfl) rfl rfl) rfl ?_
              have f342 : Bk w92 pc ([.slice A0 (Y.length) (c0), .slice A1 (N.length) (c1), .slice A2 (D.length) (c2)]) 24 := (f340.no k92)
              refine R_pu (pu_loadK f342 (by kernel_rfl) rfl rfl) rfl ?_
              have o343 : Gt w92 := ((o339.no k91).no k92)
              have bK_kp : By 32 Y := ⟨h32, HY.byte⟩
              have wy_kb : Wy (KW Y) := KW_wy bK_kp.2
              refine R_lo (lo_call (by kernel_rfl) rfl (gcm_new A0 Y c0 _ (HY.keptNo kk92) hy bK_kp.1)) rfl ?_
              rintro _ w93 ⟨kp, kb, kx, rfl, le93, lb93, lx93, n1_93, n2_93, n3_93, P93, B93, T93, k93⟩
              have kk93 := kk92.then_ k93
              have ne_kp_pc : kp ≠ pc := Nat.ne_of_gt (Nat.lt_of_lt_of_le f342.lt le93)
              have ne_kp_0 : kp ≠ 0 := Nat.ne_of_gt (Nat.lt_of_lt_of_le o343.lt le93)
              have ne_kb_pc : kb ≠ pc := Nat.ne_of_gt (Nat.lt_of_lt_of_le f342.lt lb93)
              have ne_kb_0 : kb ≠ 0 := Nat.ne_of_gt (Nat.lt_of_lt_of_le o343.lt lb93)
              have ne_kx_pc : kx ≠ pc := Nat.ne_of_gt (Nat.lt_of_lt_of_le f342.lt lx93)
              have ne_kx_0 : kx ≠ 0 := Nat.ne_of_gt (Nat.lt_of_lt_of_le o343.lt lx93)
              refine R_pu (pu_move rfl) rfl ?_
              refine R_pu (pu_extract rfl rfl) rfl ?_
              refine R_pu (pu_extract rfl rfl) rfl ?_
              refine R_pu (pu_assign rfl) rfl ?_
              refine R_pu (pu_assign rfl) rfl ?_
              refine R_nil ?_
              refine X_then hK341 ?_
              refine C_seq (fun K344 hK344 => ?_)
              refine C_seq (fun K345 hK345 => ?_)
              refine C_region ?_
              refine R_pu (pu_fieldAddr (off := 0) (o' := 0) (by kernel_rfl) rfl rfl) rfl ?_
              have f346 : Bk w93 pc ([.slice A0 (Y.length) (c0), .slice A1 (N.length) (c1), .slice A2 (D.length) (c2)]) 24 := (f342.no k93)
              refine R_pu (pu_loadK f346 (by kernel_rfl) rfl rfl) rfl ?_
              refine R_pu (pu_len Tryz.underlying22 rfl) rfl ?_
              refine R_pu (pu_neq (p := Y.length = 32) rfl rfl (by omega)) rfl ?_
              refine R_nil ?_
              refine X_then hK345 ?_
              refine C_decf rfl (fun h => h h32) ?_
              refine C_skip ?_
              refine X_then hK344 ?_
              refine C_seq (fun K347 hK347 => ?_)
              refine C_region ?_
              refine R_pu (pu_fieldAddr (off := 0) (o' := 0) (by kernel_rfl) rfl rfl) rfl ?_
              refine R_pu (pu_loadK f346 (by kernel_rfl) rfl rfl) rfl ?_
              refine R_lo (lo_call (by kernel_rfl) rfl (ref11_ready A0 Y c0 _ (HY.keptNo kk93) hy h32)) rfl ?_
              rintro _ w94 ⟨rfl, k94⟩
              have kk94 := kk93.then_ k94
              have f348 : Bk w94 pc ([.slice A0 (Y.length) (c0), .slice A1 (N.length) (c1), .slice A2 (D.length) (c2)]) 24 := (f346.no k94)
              have f349 : Bk w94 kp (gkL kb (gmH Y)) 59 := (P93.no k94)
              have f350 : Bk w94 kb (keyL kx (KW Y)) 88 := (B93.no k94)
              have o351 : Gt w94 := ((o343.no k93).no k94)
              have o352 : Sx w94 kx := (T93.no k94)
              refine R_lo (lo_alloc (L := u8s (List.replicate 512 0)) (by kernel_rfl)) rfl ?_
              rintro _ w95 ⟨pr, rfl, N95⟩
              have k95 := N95.kp
              have kk95 := kk94.then_ k95
              have ne_pr_pc : pr ≠ pc := Nat.ne_of_gt (Nat.lt_of_lt_of_le f348.lt N95.le)
              have ne_pr_kp : pr ≠ kp := Nat.ne_of_gt (Nat.lt_of_lt_of_le f349.lt N95.le)
              have ne_pr_kb : pr ≠ kb := Nat.ne_of_gt (Nat.lt_of_lt_of_le f350.lt N95.le)
              have ne_pr_0 : pr ≠ 0 := Nat.ne_of_gt (Nat.lt_of_lt_of_le o351.lt N95.le)
              have ne_pr_kx : pr ≠ kx := Nat.ne_of_gt (Nat.lt_of_lt_of_le o352.lt N95.le)
              have f_pr_95 : Bk w95 pr (u8s (List.replicate 512 0)) 42 := N95.bk
              refine R_lo0 (lo_storeRow (C := u8s (RKL Y)) f_pr_95 (by rw [u8s_length, (RKL_by Y).1]; kernel_rfl) rfl rfl (u8s_each _) ((u8s_length _).trans ((RKL_by Y).1.trans ((rep_by 512).1.symm.trans (u8s_length _).symm)))) ?_
              rintro _ w96 kf96
              obtain ⟨k96, f_pr_96⟩ := kf96
              replace f_pr_96 : Bk w96 pr (u8s (RKL Y)) 42 := f_pr_96
              have kk96 := kk95.trans k96 (fun i hi => .inr (hi ▸ (Nat.le_trans kk94.size N95.le)))
              refine R_nil ?_
              refine X_then hK347 ?_
              refine C_seq (fun K353 hK353 => ?_)
              obtain ⟨E1, hE1⟩ : ∃ E, E = sealE N M D := ⟨_, rfl⟩; obtain ⟨E2, hE2⟩ : ∃ E, E = openE Y N X D := ⟨_, rfl⟩
              refine C_region ?_
              refine R_pu (pu_move rfl) rfl ?_
              refine R_pu (pu_fieldAddr (off := 1) (o' := 1) (by kernel_rfl) rfl rfl) rfl ?_
              have f354 : Bk w96 pc ([.slice A0 (Y.length) (c0), .slice A1 (N.length) (c1), .slice A2 (D.length) (c2)]) 24 := ((f348.no k95).on k96 (Ne.symm ne_pr_pc))
              refine R_pu (pu_loadK f354 (by kernel_rfl) rfl rfl) rfl ?_
              refine R_pu (pu_move rfl) rfl ?_
              refine R_pu (pu_fieldAddr (off := 2) (o' := 2) (by kernel_rfl) rfl rfl) rfl ?_
              refine R_pu (pu_loadK f354 (by kernel_rfl) rfl rfl) rfl ?_
              have f355 : Bk w96 kp (gkL kb (gmH Y)) 59 := ((f349.no k95).on k96 (Ne.symm ne_pr_kp))
              have f356 : Bk w96 kb (keyL kx (KW Y)) 88 := ((f350.no k95).on k96 (Ne.symm ne_pr_kb))
              have o357 : Sx w96 kx := ((o352.no k95).on k96 (Ne.symm ne_pr_kx))
              have o358 : Gt w96 := ((o351.no k95).on k96 (Ne.symm ne_pr_0))
              refine R_lo (lo_call (by kernel_rfl) rfl (gcm_seal_all kp kb kx Y A1 N c1 A3 M c3 A2 D c2 E1 _ bK_kp n1_93 n2_93 n3_93 f355 f356 o357 (HN.keptNo kk96) hn (HN.aw (Nat.le_trans kk92.size lx93)) (HM.keptNo kk96) hm (HM.aw (Nat.le_trans kk92.size lx93)) (HD.keptNo kk96) hd (HD.aw (Nat.le_trans kk92.size lx93)) hE1)) rfl ?_
              rintro _ w97 ⟨A_sa, c_sa, ev_sa, rfl, he_sa, Q97, T97, k97⟩
              have kk97 := kk96.trans k97 (fun i hi => .inr (hi ▸ (Nat.le_trans kk92.size lx93)))
              have z359 : w96.heap.size ≤ w97.heap.size := k97.size
              refine R_pu (pu_move rfl) rfl ?_
              refine R_pu (pu_extract rfl rfl) rfl ?_
              refine R_pu (pu_extract rfl rfl) rfl ?_
              refine R_pu (pu_assign rfl) rfl ?_
              refine R_pu (pu_assign rfl) rfl ?_
              refine R_nil ?_
              refine X_then hK353 ?_
              refine C_seq (fun K360 hK360 => ?_)
              refine C_region ?_
              have f361 : Bk w97 pr (u8s (RKL Y)) 42 := (f_pr_96.on k97 ne_pr_kx)
              refine R_pu (pu_loadRow (len := 512) f361 (by kernel_rfl) (by kernel_rfl) (by rw [u8s_length]; exact (RKL_by Y).1) rfl) rfl ?_
              refine R_pu (pu_fieldAddr (off := 1) (o' := 1) (by kernel_rfl) rfl rfl) rfl ?_
              have f362 : Bk w97 pc ([.slice A0 (Y.length) (c0), .slice A1 (N.length) (c1), .slice A2 (D.length) (c2)]) 24 := (f354.on k97 (Ne.symm ne_kx_pc))
              refine R_pu (pu_loadK f362 (by kernel_rfl) rfl rfl) rfl ?_
              refine R_pu (pu_move rfl) rfl ?_
              refine R_pu (pu_fieldAddr (off := 2) (o' := 2) (by kernel_rfl) rfl rfl) rfl ?_
              refine R_pu (pu_loadK f362 (by kernel_rfl) rfl rfl) rfl ?_
              have f363 : Bk w97 kp (gkL kb (gmH Y)) 59 := (f355.on k97 n2_93)
              have f364 : Bk w97 kb (keyL kx (KW Y)) 88 := (f356.on k97 n3_93)
              have o365 : Gt w97 := (o358.on k97 (Ne.symm ne_kx_0))
              have lm366 := Q97.top
              refine R_lo (lo_call (by kernel_rfl) rfl (ref11_seal_all Y A1 N c1 A3 M c3 A2 D c2 E1 _ (HN.keptNo kk97) hn (HM.keptNo kk97) hm (HD.keptNo kk97) hd hE1)) rfl ?_
              rintro _ w98 ⟨A_sb, c_sb, rfl, Q98, k98⟩
              have kk98 := kk97.then_ k98
              have z367 : w97.heap.size ≤ w98.heap.size := k98.size
              refine R_pu (pu_move rfl) rfl ?_
              refine R_pu (pu_extract rfl rfl) rfl ?_
              refine R_pu (pu_extract rfl rfl) rfl ?_
              refine R_pu (pu_assign rfl) rfl ?_
              refine R_pu (pu_assign rfl) rfl ?_
              refine R_nil ?_
              refine X_then hK360 ?_
              refine C_seq (fun K368 hK368 => ?_)
              refine C_region ?_
              refine R_pu (pu_move rfl) rfl ?_
              refine R_pu (pu_fieldAddr (off := 1) (o' := 1) (by kernel_rfl) rfl rfl) rfl ?_
              have f369 : Bk w98 pc ([.slice A0 (Y.length) (c0), .slice A1 (N.length) (c1), .slice A2 (D.length) (c2)]) 24 := (f362.no k98)
              refine R_pu (pu_loadK f369 (by kernel_rfl) rfl rfl) rfl ?_
              refine R_pu (pu_move rfl) rfl ?_
              refine R_pu (pu_fieldAddr (off := 2) (o' := 2) (by kernel_rfl) rfl rfl) rfl ?_
              refine R_pu (pu_loadK f369 (by kernel_rfl) rfl rfl) rfl ?_
              have f370 : Bk w98 kp (gkL kb (gmH Y)) 59 := (f363.no k98)
              have f371 : Bk w98 kb (keyL kx (KW Y)) 88 := (f364.no k98)
              have o372 : Sx w98 kx := (T97.no k98)
              have f373 : Bk w98 pr (u8s (RKL Y)) 42 := (f361.no k98)
              have o374 : Gt w98 := (o365.no k98)
              have ob376 := (Q97.keptNo k98)
              have lm375 := ob376.top
              have lm377 := Q98.top
              refine R_lo (lo_call (by kernel_rfl) rfl (gcm_open_all kp kb kx Y A1 N c1 A4 X c4 A2 D c2 E2 _ bK_kp n1_93 n2_93 n3_93 f370 f371 o372 (HN.keptNo kk98) hn (HN.aw (Nat.le_trans kk92.size lx93)) (HX.keptNo kk98) hx (HX.aw (Nat.le_trans kk92.size lx93)) (HD.keptNo kk98) hd (HD.aw (Nat.le_trans kk92.size lx93)) hE2)) rfl ?_
              rintro _ w99 ⟨A_oa, c_oa, ev_oa, rfl, he_oa, Q99, T99, k99⟩
              have kk99 := kk98.trans k99 (fun i hi => .inr (hi ▸ (Nat.le_trans kk92.size lx93)))
              have z378 : w98.heap.size ≤ w99.heap.size := k99.size
              refine R_pu (pu_move rfl) rfl ?_
              refine R_pu (pu_extract rfl rfl) rfl ?_
              refine R_pu (pu_extract rfl rfl) rfl ?_
              refine R_pu (pu_assign rfl) rfl ?_
              refine R_pu (pu_assign rfl) rfl ?_
              refine R_nil ?_
              refine X_then hK368 ?_
              refine C_seq (fun K379 hK379 => ?_)
              refine C_region ?_
              have f380 : Bk w99 pr (u8s (RKL Y)) 42 := (f373.on k99 ne_pr_kx)
              refine R_pu (pu_loadRow (len := 512) f380 (by kernel_rfl) (by kernel_rfl) (by rw [u8s_length]; exact (RKL_by Y).1) rfl) rfl ?_
              refine R_pu (pu_fieldAddr (off := 1) (o' := 1) (by kernel_rfl) rfl rfl) rfl ?_
              have f381 : Bk w99 pc ([.slice A0 (Y.length) (c0), .slice A1 (N.length) (c1), .slice A2 (D.length) (c2)]) 24 := (f369.on k99 (Ne.symm ne_kx_pc))
              refine R_pu (pu_loadK f381 (by kernel_rfl) rfl rfl) rfl ?_
              refine R_pu (pu_move rfl) rfl ?_
              refine R_pu (pu_fieldAddr (off := 2) (o' := 2) (by kernel_rfl) rfl rfl) rfl ?_
              refine R_pu (pu_loadK f381 (by kernel_rfl) rfl rfl) rfl ?_
              have f382 : Bk w99 kp (gkL kb (gmH Y)) 59 := (f370.on k99 n2_93)
              have f383 : Bk w99 kb (keyL kx (KW Y)) 88 := (f371.on k99 n3_93)
              have o384 : Gt w99 := (o374.on k99 (Ne.symm ne_kx_0))
              have ob386 := (ob376.on k99 (by have := o357.lt; omega))
              have lm385 := ob386.top
              have ob388 := (Q98.on k99 (by have := T97.lt; omega))
              have lm387 := ob388.top
              have lm389 := Q99.top
              refine R_lo (lo_call (by kernel_rfl) rfl (ref11_open_all Y A1 N c1 A4 X c4 A2 D c2 E2 _ (HN.keptNo kk99) hn (HX.keptNo kk99) hx (HD.keptNo kk99) hd hE2)) rfl ?_
              rintro _ w100 ⟨A_ob, c_ob, rfl, Q100, k100⟩
              have kk100 := kk99.then_ k100
              have z390 : w99.heap.size ≤ w100.heap.size := k100.size
              refine R_pu (pu_move rfl) rfl ?_
              refine R_pu (pu_extract rfl rfl) rfl ?_
              refine R_pu (pu_extract rfl rfl) rfl ?_
              refine R_pu (pu_assign rfl) rfl ?_
              refine R_pu (pu_assign rfl) rfl ?_
              refine R_nil ?_
              refine X_then hK379 ?_
              refine C_seq (fun K391 hK391 => ?_)
              refine C_region ?_
              refine R_pu (pu_move rfl) rfl ?_
              refine R_pu (pu_eqlnn (by kernel_rfl) rfl) rfl ?_
              refine R_pu (pu_move rfl) rfl ?_
              refine R_gpu rfl rfl (pu_move rfl) rfl ?_
              have ob392 := (ob386.keptNo k100)
              refine R_gpu rfl rfl (pu_bstr ob392.bs Tryz.underlying22 Tryz.underlying5 Tryz.underlying9 rfl rfl) rfl ?_
              refine R_gpu rfl rfl (pu_move rfl) rfl ?_
              have ob393 := (ob388.keptNo k100)
              refine R_gpu rfl rfl (pu_bstr ob393.bs Tryz.underlying22 Tryz.underlying5 Tryz.underlying9 rfl rfl) rfl ?_
              refine R_gpu rfl rfl (pu_true (pu_eqls (p := (subI E1 (sealB Y N M D) []) = (subI E1 (sealB Y N M D) [])) rfl rfl (bstr_inj (ob392.bs).byte (ob393.bs).byte)) rfl) rfl ?_
              refine R_pu (pu_pickt rfl rfl) rfl ?_
              refine R_pu (pu_move rfl) rfl ?_
              refine R_gpu rfl rfl (pu_move rfl) rfl ?_
              have o394 : Gt w100 := (o384.no k100)
              refine R_glo rfl rfl (lo_call (by kernel_rfl) rfl (num_errv E1 ev_sa _ he_sa o394)) rfl ?_
              rintro _ w101 ⟨rfl, k101⟩
              have kk101 := kk100.then_ k101
              refine R_gpu rfl rfl (pu_move rfl) rfl ?_
              refine R_gpu rfl rfl (pu_true (pu_eql (p := E1 = E1) rfl rfl (by omega)) rfl) rfl ?_
              refine R_pu (pu_pickt rfl rfl) rfl ?_
              refine R_pu (pu_move rfl) rfl ?_
              refine R_gpu rfl rfl (pu_move rfl) rfl ?_
              have ob395 := ((Q99.keptNo k100).keptNo k101)
              refine R_gpu rfl rfl (pu_bstr ob395.bs Tryz.underlying22 Tryz.underlying5 Tryz.underlying9 rfl rfl) rfl ?_
              refine R_gpu rfl rfl (pu_move rfl) rfl ?_
              have ob396 := (Q100.keptNo k101)
              refine R_gpu rfl rfl (pu_bstr ob396.bs Tryz.underlying22 Tryz.underlying5 Tryz.underlying9 rfl rfl) rfl ?_
              refine R_gpu rfl rfl (pu_true (pu_eqls (p := (subI E2 (cphB Y N (X.take (X.length - 16))) []) = (subI E2 (cphB Y N (X.take (X.length - 16))) [])) rfl rfl (bstr_inj (ob395.bs).byte (ob396.bs).byte)) rfl) rfl ?_
              refine R_pu (pu_pickt rfl rfl) rfl ?_
              refine R_pu (pu_move rfl) rfl ?_
              refine R_gpu rfl rfl (pu_move rfl) rfl ?_
              have o397 : Gt w101 := (o394.no k101)
              refine R_glo rfl rfl (lo_call (by kernel_rfl) rfl (num_errv E2 ev_oa _ he_oa o397)) rfl ?_
              rintro _ w102 ⟨rfl, k102⟩
              have kk102 := kk101.then_ k102
              refine R_gpu rfl rfl (pu_move rfl) rfl ?_
              refine R_gpu rfl rfl (pu_true (pu_eql (p := E2 = E2) rfl rfl (by omega)) rfl) rfl ?_
              refine R_pu (pu_pickt rfl rfl) rfl ?_
              refine R_pu (pu_move rfl) rfl ?_
              refine R_gpu rfl rfl (pu_move rfl) rfl ?_
              refine R_gpu rfl rfl (pu_fieldAddr (off := 1) (o' := 1) (by kernel_rfl) rfl rfl) rfl ?_
              have f398 : Bk w102 pc ([.slice A0 (Y.length) (c0), .slice A1 (N.length) (c1), .slice A2 (D.length) (c2)]) 24 := (((f381.no k100).no k101).no k102)
              refine R_gpu rfl rfl (pu_loadK f398 (by kernel_rfl) rfl rfl) rfl ?_
              refine R_gpu rfl rfl (pu_move rfl) rfl ?_
              refine R_gpu rfl rfl (pu_fieldAddr (off := 2) (o' := 2) (by kernel_rfl) rfl rfl) rfl ?_
              refine R_gpu rfl rfl (pu_loadK f398 (by kernel_rfl) rfl rfl) rfl ?_
              have f399 : Bk w102 kp (gkL kb (gmH Y)) 59 := (((f382.no k100).no k101).no k102)
              have f400 : Bk w102 kb (keyL kx (KW Y)) 88 := (((f383.no k100).no k101).no k102)
              have o401 : Sx w102 kx := (((T99.no k100).no k101).no k102)
              refine R_glo rfl rfl (lo_call (by kernel_rfl) rfl (gcm_opens_all kp kb kx Y A1 N c1 A4 X c4 A2 D c2 _ bK_kp n1_93 n2_93 n3_93 f399 f400 o401 (HN.keptNo kk102) hn (HN.aw (Nat.le_trans kk92.size lx93)) (HX.keptNo kk102) hx (HX.aw (Nat.le_trans kk92.size lx93)) (HD.keptNo kk102) hd (HD.aw (Nat.le_trans kk92.size lx93)))) rfl ?_
              rintro _ w103 ⟨rfl, T103, k103⟩
              have kk103 := kk102.trans k103 (fun i hi => .inr (hi ▸ (Nat.le_trans kk92.size lx93)))
              refine R_gpu rfl rfl (pu_move rfl) rfl ?_
              refine R_gpu rfl rfl (pu_eql (p := E2 = 0) rfl rfl (by omega)) rfl ?_
              refine R_gpu rfl rfl (pu_b (pu_eqlb Tryz.underlying4 rfl rfl) (show (decide (openE Y N X D = 0) == decide (E2 = 0)) = true by subst hE2; exact beq_self_eq_true _)) rfl ?_
              refine R_pu (pu_pickt rfl rfl) rfl ?_
              refine R_pu (pu_move rfl) rfl ?_
              have o402 : Gt w103 := ((o397.no k102).on k103 (Ne.symm ne_kx_0))
              refine R_glo rfl rfl (lo_call (by kernel_rfl) rfl (sure11 _ o402)) rfl ?_
              rintro _ w104 ⟨rfl, k104⟩
              have kk104 := kk103.then_ k104
              refine R_pu (pu_pickt rfl rfl) rfl ?_
              refine R_pu (pu_assign rfl) rfl ?_
              refine R_nil ?_
              refine X_then hK391 ?_
              refine C_ret ?_
              exact X_ret1 (.inl rfl) rfl rfl ⟨rfl, kk104⟩
            · refine C_seq (fun K403 hK403 => ?_)
              refine C_region ?_
              refine R_pu (pu_fieldAddr (off := 0) (o' := 0) (by kernel_rfl) rfl rfl) rfl ?_
              have f404 : Bk w92 pc ([.slice A0 (Y.length) (c0), .slice A1 (N.length) (c1), .slice A2 (D.length) (c2)]) 24 := (f340.no k92)
              refine R_pu (pu_loadK f404 (by kernel_rfl) rfl rfl) rfl ?_
              refine R_lo (lo_call (by kernel_rfl) rfl (gcm_new_err A0 Y c0 _ (HY.keptNo kk92) hy h32)) rfl ?_
              rintro _ w105 ⟨rfl, k105⟩
              have kk105 := kk92.then_ k105
              refine R_pu (pu_move rfl) rfl ?_
              refine R_pu (pu_extract rfl rfl) rfl ?_
              refine R_pu (pu_extract rfl rfl) rfl ?_
              refine R_pu (pu_assign rfl) rfl ?_
              refine R_pu (pu_assign rfl) rfl ?_
              refine R_nil ?_
              refine X_then hK403 ?_
              refine C_seq (fun K405 hK405 => ?_)
              refine C_seq (fun K406 hK406 => ?_)
              refine C_region ?_
              refine R_pu (pu_fieldAddr (off := 0) (o' := 0) (by kernel_rfl) rfl rfl) rfl ?_
              have f407 : Bk w105 pc ([.slice A0 (Y.length) (c0), .slice A1 (N.length) (c1), .slice A2 (D.length) (c2)]) 24 := (f404.no k105)
              refine R_pu (pu_loadK f407 (by kernel_rfl) rfl rfl) rfl ?_
              refine R_pu (pu_len Tryz.underlying22 rfl) rfl ?_
              refine R_pu (pu_neq (p := Y.length = 32) rfl rfl (by omega)) rfl ?_
              refine R_nil ?_
              refine X_then hK406 ?_
              refine C_dect rfl h32 ?_
              refine C_seq (fun K408 hK408 => ?_)
              refine C_region ?_
              refine R_pu (pu_move rfl) rfl ?_
              have o409 : Gt w105 := (((o339.no k91).no k92).no k105)
              refine R_lo (lo_call (by kernel_rfl) rfl (num11_err 1 _ o409)) rfl ?_
              rintro _ w106 ⟨rfl, k106⟩
              have kk106 := kk105.then_ k106
              refine R_pu (pu_true (pu_eql (p := (1 : Nat) = 1) rfl rfl (by omega)) (by decide)) rfl ?_
              refine R_pu (pu_move rfl) rfl ?_
              refine R_gpu rfl rfl (pu_move rfl) rfl ?_
              refine R_gpu rfl rfl (pu_eqlpn (by kernel_rfl) rfl rfl) rfl ?_
              refine R_pu (pu_pickt rfl rfl) rfl ?_
              refine R_pu (pu_move rfl) rfl ?_
              have o410 : Gt w106 := (o409.no k106)
              refine R_glo rfl rfl (lo_call (by kernel_rfl) rfl (sure11 _ o410)) rfl ?_
              rintro _ w107 ⟨rfl, k107⟩
              have kk107 := kk106.then_ k107
              refine R_pu (pu_pickt rfl rfl) rfl ?_
              refine R_pu (pu_assign rfl) rfl ?_
              refine R_nil ?_
              refine X_then hK408 ?_
              refine C_ret ?_
              refine X_then_ret ?_
              exact X_ret1 (.inl rfl) rfl rfl ⟨rfl, kk107⟩
        · refine R_gpu rfl rfl (pu_false (pu_move rfl) g1_23) rfl ?_
          refine R_gno rfl rfl rfl rfl ?_
          refine R_gno rfl rfl rfl rfl ?_
          refine R_gno rfl rfl rfl rfl ?_
          refine R_gno rfl rfl rfl rfl ?_
          refine R_gpu rfl rfl (pu_pickf rfl rfl) rfl ?_
          refine R_pu (pu_pickf rfl rfl) rfl ?_
          refine R_nil ?_
          refine X_then hK3 ?_
          refine C_false rfl ?_
          refine C_skip ?_
          refine X_then hK2 ?_
          refine C_seq (fun K411 hK411 => ?_)
          refine C_region ?_
          refine R_pu (pu_assign rfl) rfl ?_
          refine R_nil ?_
          refine X_then hK411 ?_
          refine C_seq (fun K412 hK412 => ?_)
          refine C_region ?_
          refine R_pu (pu_move rfl) rfl ?_
          refine R_pu (pu_fieldAddr (off := 1) (o' := 1) (by kernel_rfl) rfl rfl) rfl ?_
          refine R_pu (pu_loadK f_pc_1 (by kernel_rfl) rfl rfl) rfl ?_
          refine R_pu (pu_move rfl) rfl ?_
          refine R_pu (pu_fieldAddr (off := 2) (o' := 2) (by kernel_rfl) rfl rfl) rfl ?_
          refine R_pu (pu_loadK f_pc_1 (by kernel_rfl) rfl rfl) rfl ?_
          refine R_lo (lo_call (by kernel_rfl) rfl (gcm_seal_nil A1 N c1 A3 M c3 A2 D c2 _ (HN.keptNo kk1) hn (HM.keptNo kk1) hm (HD.keptNo kk1) hd)) rfl ?_
          rintro _ w108 ⟨rfl, k108⟩
          have kk108 := kk1.then_ k108
          refine R_pu (pu_move rfl) rfl ?_
          refine R_pu (pu_extract rfl rfl) rfl ?_
          refine R_pu (pu_extract rfl rfl) rfl ?_
          refine R_pu (pu_assign rfl) rfl ?_
          refine R_pu (pu_assign rfl) rfl ?_
          refine R_nil ?_
          refine X_then hK412 ?_
          refine C_seq (fun K413 hK413 => ?_)
          refine C_region ?_
          refine R_pu (pu_move rfl) rfl ?_
          refine R_pu (pu_fieldAddr (off := 1) (o' := 1) (by kernel_rfl) rfl rfl) rfl ?_
          have f414 : Bk w108 pc ([.slice A0 (Y.length) (c0), .slice A1 (N.length) (c1), .slice A2 (D.length) (c2)]) 24 := (f_pc_1.no k108)
          refine R_pu (pu_loadK f414 (by kernel_rfl) rfl rfl) rfl ?_
          refine R_pu (pu_move rfl) rfl ?_
          refine R_pu (pu_fieldAddr (off := 2) (o' := 2) (by kernel_rfl) rfl rfl) rfl ?_
          refine R_pu (pu_loadK f414 (by kernel_rfl) rfl rfl) rfl ?_
          refine R_lo (lo_call (by kernel_rfl) rfl (gcm_open_nil A1 N c1 A4 X c4 A2 D c2 _ (HN.keptNo kk108) hn (HX.keptNo kk108) hx (HD.keptNo kk108) hd)) rfl ?_
          rintro _ w109 ⟨rfl, k109⟩
          have kk109 := kk108.then_ k109
          refine R_pu (pu_move rfl) rfl ?_
          refine R_pu (pu_extract rfl rfl) rfl ?_
          refine R_pu (pu_extract rfl rfl) rfl ?_
          refine R_pu (pu_assign rfl) rfl ?_
          refine R_pu (pu_assign rfl) rfl ?_
          refine R_nil ?_
          refine X_then hK413 ?_
          refine C_seq (fun K415 hK415 => ?_)
          refine C_seq (fun K416 hK416 => ?_)
          refine C_region ?_
          refine R_pu (pu_move rfl) rfl ?_
          have o417 : Gt w109 := (((hG.no k1).no k108).no k109)
          refine R_lo (lo_call (by kernel_rfl) rfl (num11_err 1 _ o417)) rfl ?_
          rintro _ w110 ⟨rfl, k110⟩
          have kk110 := kk109.then_ k110
          refine R_pu (pu_false (pu_neq (p := (1 : Nat) = 1) rfl rfl (by omega)) (by decide)) rfl ?_
          refine R_pu (pu_move rfl) rfl ?_
          refine R_gpu rfl rfl (pu_move rfl) rfl ?_
          have o418 : Gt w110 := (o417.no k110)
          refine R_glo rfl rfl (lo_call (by kernel_rfl) rfl (num11_err 1 _ o418)) rfl ?_
          rintro _ w111 ⟨rfl, k111⟩
          have kk111 := kk110.then_ k111
          refine R_gpu rfl rfl (pu_false (pu_neq (p := (1 : Nat) = 1) rfl rfl (by omega)) (by decide)) rfl ?_
          refine R_pu (pu_pickf rfl rfl) rfl ?_
          refine R_pu (pu_move rfl) rfl ?_
          refine R_gpu rfl rfl (pu_move rfl) rfl ?_
          refine R_gpu rfl rfl (pu_fieldAddr (off := 1) (o' := 1) (by kernel_rfl) rfl rfl) rfl ?_
          have f419 : Bk w111 pc ([.slice A0 (Y.length) (c0), .slice A1 (N.length) (c1), .slice A2 (D.length) (c2)]) 24 := (((f414.no k109).no k110).no k111)
          refine R_gpu rfl rfl (pu_loadK f419 (by kernel_rfl) rfl rfl) rfl ?_
          refine R_gpu rfl rfl (pu_move rfl) rfl ?_
          refine R_gpu rfl rfl (pu_fieldAddr (off := 2) (o' := 2) (by kernel_rfl) rfl rfl) rfl ?_
          refine R_gpu rfl rfl (pu_loadK f419 (by kernel_rfl) rfl rfl) rfl ?_
          refine R_glo rfl rfl (lo_call (by kernel_rfl) rfl (gcm_opens_nil A1 N c1 A4 X c4 A2 D c2 _ (HN.keptNo kk111) hn (HX.keptNo kk111) hx (HD.keptNo kk111) hd)) rfl ?_
          rintro _ w112 ⟨rfl, k112⟩
          have kk112 := kk111.then_ k112
          refine R_pu (pu_pickf rfl rfl) rfl ?_
          refine R_nil ?_
          refine X_then hK416 ?_
          refine C_false rfl ?_
          refine C_skip ?_
          refine X_then hK415 ?_
          by_cases h32 : Y.length = 32
          · refine C_seq (fun K420 hK420 => ?_)
            refine C_region ?_
            refine R_pu (pu_fieldAddr (off := 0) (o' := 0) (by kernel_rfl) rfl rfl) rfl ?_
            have f421 : Bk w112 pc ([.slice A0 (Y.length) (c0), .slice A1 (N.length) (c1), .slice A2 (D.length) (c2)]) 24 := (f419.no k112)
            refine R_pu (pu_loadK f421 (by kernel_rfl) rfl rfl) rfl ?_
            have o422 : Gt w112 := ((o418.no k111).no k112)
            have bK_kp : By 32 Y := ⟨h32, HY.byte⟩
            have wy_kb : Wy (KW Y) := KW_wy bK_kp.2
            refine R_lo (lo_call (by kernel_rfl) rfl (gcm_new A0 Y c0 _ (HY.keptNo kk112) hy bK_kp.1)) rfl ?_
            rintro _ w113 ⟨kp, kb, kx, rfl, le113, lb113, lx113, n1_113, n2_113, n3_113, P113, B113, T113, k113⟩
            have kk113 := kk112.then_ k113
            have ne_kp_pc : kp ≠ pc := Nat.ne_of_gt (Nat.lt_of_lt_of_le f421.lt le113)
            have ne_kp_0 : kp ≠ 0 := Nat.ne_of_gt (Nat.lt_of_lt_of_le o422.lt le113)
            have ne_kb_pc : kb ≠ pc := Nat.ne_of_gt (Nat.lt_of_lt_of_le f421.lt lb113)
            have ne_kb_0 : kb ≠ 0 := Nat.ne_of_gt (Nat.lt_of_lt_of_le o422.lt lb113)
            have ne_kx_pc : kx ≠ pc := Nat.ne_of_gt (Nat.lt_of_lt_of_le f421.lt lx113)
            have ne_kx_0 : kx ≠ 0 := Nat.ne_of_gt (Nat.lt_of_lt_of_le o422.lt lx113)
            refine R_pu (pu_move rfl) rfl ?_
            refine R_pu (pu_extract rfl rfl) rfl ?_
            refine R_pu (pu_extract rfl rfl) rfl ?_
            refine R_pu (pu_assign rfl) rfl ?_
            refine R_pu (pu_assign rfl) rfl ?_
            refine R_nil ?_
            refine X_then hK420 ?_
            refine C_seq (fun K423 hK423 => ?_)
            refine C_seq (fun K424 hK424 => ?_)
            refine C_region ?_
            refine R_pu (pu_fieldAddr (off := 0) (o' := 0) (by kernel_rfl) rfl rfl) rfl ?_
            have f425 : Bk w113 pc ([.slice A0 (Y.length) (c0), .slice A1 (N.length) (c1), .slice A2 (D.length) (c2)]) 24 := (f421.no k113)
            refine R_pu (pu_loadK f425 (by kernel_rfl) rfl rfl) rfl ?_
            refine R_pu (pu_len Tryz.underlying22 rfl) rfl ?_
            refine R_pu (pu_neq (p := Y.length = 32) rfl rfl (by omega)) rfl ?_
            refine R_nil ?_
            refine X_then hK424 ?_
            refine C_decf rfl (fun h => h h32) ?_
            refine C_skip ?_
            refine X_then hK423 ?_
            refine C_seq (fun K426 hK426 => ?_)
            refine C_region ?_
            refine R_pu (pu_fieldAddr (off := 0) (o' := 0) (by kernel_rfl) rfl rfl) rfl ?_
            refine R_pu (pu_loadK f425 (by kernel_rfl) rfl rfl) rfl ?_
            refine R_lo (lo_call (by kernel_rfl) rfl (ref11_ready A0 Y c0 _ (HY.keptNo kk113) hy h32)) rfl ?_
            rintro _ w114 ⟨rfl, k114⟩
            have kk114 := kk113.then_ k114
            have f427 : Bk w114 pc ([.slice A0 (Y.length) (c0), .slice A1 (N.length) (c1), .slice A2 (D.length) (c2)]) 24 := (f425.no k114)
            have f428 : Bk w114 kp (gkL kb (gmH Y)) 59 := (P113.no k114)
            have f429 : Bk w114 kb (keyL kx (KW Y)) 88 := (B113.no k114)
            have o430 : Gt w114 := ((o422.no k113).no k114)
            have o431 : Sx w114 kx := (T113.no k114)
            refine R_lo (lo_alloc (L := u8s (List.replicate 512 0)) (by kernel_rfl)) rfl ?_
            rintro _ w115 ⟨pr, rfl, N115⟩
            have k115 := N115.kp
            have kk115 := kk114.then_ k115
            have ne_pr_pc : pr ≠ pc := Nat.ne_of_gt (Nat.lt_of_lt_of_le f427.lt N115.le)
            have ne_pr_kp : pr ≠ kp := Nat.ne_of_gt (Nat.lt_of_lt_of_le f428.lt N115.le)
            have ne_pr_kb : pr ≠ kb := Nat.ne_of_gt (Nat.lt_of_lt_of_le f429.lt N115.le)
            have ne_pr_0 : pr ≠ 0 := Nat.ne_of_gt (Nat.lt_of_lt_of_le o430.lt N115.le)
            have ne_pr_kx : pr ≠ kx := Nat.ne_of_gt (Nat.lt_of_lt_of_le o431.lt N115.le)
            have f_pr_115 : Bk w115 pr (u8s (List.replicate 512 0)) 42 := N115.bk
            refine R_lo0 (lo_storeRow (C := u8s (RKL Y)) f_pr_115 (by rw [u8s_length, (RKL_by Y).1]; kernel_rfl) rfl rfl (u8s_each _) ((u8s_length _).trans ((RKL_by Y).1.trans ((rep_by 512).1.symm.trans (u8s_length _).symm)))) ?_
            rintro _ w116 kf116
            obtain ⟨k116, f_pr_116⟩ := kf116
            replace f_pr_116 : Bk w116 pr (u8s (RKL Y)) 42 := f_pr_116
            have kk116 := kk115.trans k116 (fun i hi => .inr (hi ▸ (Nat.le_trans kk114.size N115.le)))
            refine R_nil ?_
            refine X_then hK426 ?_
            refine C_seq (fun K432 hK432 => ?_)
            obtain ⟨E1, hE1⟩ : ∃ E, E = sealE N M D := ⟨_, rfl⟩; obtain ⟨E2, hE2⟩ : ∃ E, E = openE Y N X D := ⟨_, rfl⟩
            refine C_region ?_
            refine R_pu (pu_move rfl) rfl ?_
            refine R_pu (pu_fieldAddr (off := 1) (o' := 1) (by kernel_rfl) rfl rfl) rfl ?_
            have f433 : Bk w116 pc ([.slice A0 (Y.length) (c0), .slice A1 (N.length) (c1), .slice A2 (D.length) (c2)]) 24 := ((f427.no k115).on k116 (Ne.symm ne_pr_pc))
            refine R_pu (pu_loadK f433 (by kernel_rfl) rfl rfl) rfl ?_
            refine R_pu (pu_move rfl) rfl ?_
            refine R_pu (pu_fieldAddr (off := 2) (o' := 2) (by kernel_rfl) rfl rfl) rfl ?_
            refine R_pu (pu_loadK f433 (by kernel_rfl) rfl rfl) rfl ?_
            have f434 : Bk w116 kp (gkL kb (gmH Y)) 59 := ((f428.no k115).on k116 (Ne.symm ne_pr_kp))
            have f435 : Bk w116 kb (keyL kx (KW Y)) 88 := ((f429.no k115).on k116 (Ne.symm ne_pr_kb))
            have o436 : Sx w116 kx := ((o431.no k115).on k116 (Ne.symm ne_pr_kx))
            have o437 : Gt w116 := ((o430.no k115).on k116 (Ne.symm ne_pr_0))
            refine R_lo (lo_call (by kernel_rfl) rfl (gcm_seal_all kp kb kx Y A1 N c1 A3 M c3 A2 D c2 E1 _ bK_kp n1_113 n2_113 n3_113 f434 f435 o436 (HN.keptNo kk116) hn (HN.aw (Nat.le_trans kk112.size lx113)) (HM.keptNo kk116) hm (HM.aw (Nat.le_trans kk112.size lx113)) (HD.keptNo kk116) hd (HD.aw (Nat.le_trans kk112.size lx113)) hE1)) rfl ?_
            rintro _ w117 ⟨A_sa, c_sa, ev_sa, rfl, he_sa, Q117, T117, k117⟩
            have kk117 := kk116.trans k117 (fun i hi => .inr (hi ▸ (Nat.le_trans kk112.size lx113)))
            have z438 : w116.heap.size ≤ w117.heap.size := k117.size
            refine R_pu (pu_move rfl) rfl ?_
            refine R_pu (pu_extract rfl rfl) rfl ?_
            refine R_pu (pu_extract rfl rfl) rfl ?_
            refine R_pu (pu_assign rfl) rfl ?_
            refine R_pu (pu_assign rfl) rfl ?_
            refine R_nil ?_
            refine X_then hK432 ?_
            refine C_seq (fun K439 hK439 => ?_)
            refine C_region ?_
            have f440 : Bk w117 pr (u8s (RKL Y)) 42 := (f_pr_116.on k117 ne_pr_kx)
            refine R_pu (pu_loadRow (len := 512) f440 (by kernel_rfl) (by kernel_rfl) (by rw [u8s_length]; exact (RKL_by Y).1) rfl) rfl ?_
            refine R_pu (pu_fieldAddr (off := 1) (o' := 1) (by kernel_rfl) rfl rfl) rfl ?_
            have f441 : Bk w117 pc ([.slice A0 (Y.length) (c0), .slice A1 (N.length) (c1), .slice A2 (D.length) (c2)]) 24 := (f433.on k117 (Ne.symm ne_kx_pc))
            refine R_pu (pu_loadK f441 (by kernel_rfl) rfl rfl) rfl ?_
            refine R_pu (pu_move rfl) rfl ?_
            refine R_pu (pu_fieldAddr (off := 2) (o' := 2) (by kernel_rfl) rfl rfl) rfl ?_
            refine R_pu (pu_loadK f441 (by kernel_rfl) rfl rfl) rfl ?_
            have f442 : Bk w117 kp (gkL kb (gmH Y)) 59 := (f434.on k117 n2_113)
            have f443 : Bk w117 kb (keyL kx (KW Y)) 88 := (f435.on k117 n3_113)
            have o444 : Gt w117 := (o437.on k117 (Ne.symm ne_kx_0))
            have lm445 := Q117.top
            refine R_lo (lo_call (by kernel_rfl) rfl (ref11_seal_all Y A1 N c1 A3 M c3 A2 D c2 E1 _ (HN.keptNo kk117) hn (HM.keptNo kk117) hm (HD.keptNo kk117) hd hE1)) rfl ?_
            rintro _ w118 ⟨A_sb, c_sb, rfl, Q118, k118⟩
            have kk118 := kk117.then_ k118
            have z446 : w117.heap.size ≤ w118.heap.size := k118.size
            refine R_pu (pu_move rfl) rfl ?_
            refine R_pu (pu_extract rfl rfl) rfl ?_
            refine R_pu (pu_extract rfl rfl) rfl ?_
            refine R_pu (pu_assign rfl) rfl ?_
            refine R_pu (pu_assign rfl) rfl ?_
            refine R_nil ?_
            refine X_then hK439 ?_
            refine C_seq (fun K447 hK447 => ?_)
            refine C_region ?_
            refine R_pu (pu_move rfl) rfl ?_
            refine R_pu (pu_fieldAddr (off := 1) (o' := 1) (by kernel_rfl) rfl rfl) rfl ?_
            have f448 : Bk w118 pc ([.slice A0 (Y.length) (c0), .slice A1 (N.length) (c1), .slice A2 (D.length) (c2)]) 24 := (f441.no k118)
            refine R_pu (pu_loadK f448 (by kernel_rfl) rfl rfl) rfl ?_
            refine R_pu (pu_move rfl) rfl ?_
            refine R_pu (pu_fieldAddr (off := 2) (o' := 2) (by kernel_rfl) rfl rfl) rfl ?_
            refine R_pu (pu_loadK f448 (by kernel_rfl) rfl rfl) rfl ?_
            have f449 : Bk w118 kp (gkL kb (gmH Y)) 59 := (f442.no k118)
            have f450 : Bk w118 kb (keyL kx (KW Y)) 88 := (f443.no k118)
            have o451 : Sx w118 kx := (T117.no k118)
            have f452 : Bk w118 pr (u8s (RKL Y)) 42 := (f440.no k118)
            have o453 : Gt w118 := (o444.no k118)
            have ob455 := (Q117.keptNo k118)
            have lm454 := ob455.top
            have lm456 := Q118.top
            refine R_lo (lo_call (by kernel_rfl) rfl (gcm_open_all kp kb kx Y A1 N c1 A4 X c4 A2 D c2 E2 _ bK_kp n1_113 n2_113 n3_113 f449 f450 o451 (HN.keptNo kk118) hn (HN.aw (Nat.le_trans kk112.size lx113)) (HX.keptNo kk118) hx (HX.aw (Nat.le_trans kk112.size lx113)) (HD.keptNo kk118) hd (HD.aw (Nat.le_trans kk112.size lx113)) hE2)) rfl ?_
            rintro _ w119 ⟨A_oa, c_oa, ev_oa, rfl, he_oa, Q119, T119, k119⟩
            have kk119 := kk118.trans k119 (fun i hi => .inr (hi ▸ (Nat.le_trans kk112.size lx113)))
            have z457 : w118.heap.size ≤ w119.heap.size := k119.size
            refine R_pu (pu_move rfl) rfl ?_
            refine R_pu (pu_extract rfl rfl) rfl ?_
            refine R_pu (pu_extract rfl rfl) rfl ?_
            refine R_pu (pu_assign rfl) rfl ?_
            refine R_pu (pu_assign rfl) rfl ?_
            refine R_nil ?_
            refine X_then hK447 ?_
            refine C_seq (fun K458 hK458 => ?_)
            refine C_region ?_
            have f459 : Bk w119 pr (u8s (RKL Y)) 42 := (f452.on k119 ne_pr_kx)
            refine R_pu (pu_loadRow (len := 512) f459 (by kernel_rfl) (by kernel_rfl) (by rw [u8s_length]; exact (RKL_by Y).1) rfl) rfl ?_
            refine R_pu (pu_fieldAddr (off := 1) (o' := 1) (by kernel_rfl) rfl rfl) rfl ?_
            have f460 : Bk w119 pc ([.slice A0 (Y.length) (c0), .slice A1 (N.length) (c1), .slice A2 (D.length) (c2)]) 24 := (f448.on k119 (Ne.symm ne_kx_pc))
            refine R_pu (pu_loadK f460 (by kernel_rfl) rfl rfl) rfl ?_
            refine R_pu (pu_move rfl) rfl ?_
            refine R_pu (pu_fieldAddr (off := 2) (o' := 2) (by kernel_rfl) rfl rfl) rfl ?_
            refine R_pu (pu_loadK f460 (by kernel_rfl) rfl rfl) rfl ?_
            have f461 : Bk w119 kp (gkL kb (gmH Y)) 59 := (f449.on k119 n2_113)
            have f462 : Bk w119 kb (keyL kx (KW Y)) 88 := (f450.on k119 n3_113)
            have o463 : Gt w119 := (o453.on k119 (Ne.symm ne_kx_0))
            have ob465 := (ob455.on k119 (by have := o436.lt; omega))
            have lm464 := ob465.top
            have ob467 := (Q118.on k119 (by have := T117.lt; omega))
            have lm466 := ob467.top
            have lm468 := Q119.top
            refine R_lo (lo_call (by kernel_rfl) rfl (ref11_open_all Y A1 N c1 A4 X c4 A2 D c2 E2 _ (HN.keptNo kk119) hn (HX.keptNo kk119) hx (HD.keptNo kk119) hd hE2)) rfl ?_
            rintro _ w120 ⟨A_ob, c_ob, rfl, Q120, k120⟩
            have kk120 := kk119.then_ k120
            have z469 : w119.heap.size ≤ w120.heap.size := k120.size
            refine R_pu (pu_move rfl) rfl ?_
            refine R_pu (pu_extract rfl rfl) rfl ?_
            refine R_pu (pu_extract rfl rfl) rfl ?_
            refine R_pu (pu_assign rfl) rfl ?_
            refine R_pu (pu_assign rfl) rfl ?_
            refine R_nil ?_
            refine X_then hK458 ?_
            refine C_seq (fun K470 hK470 => ?_)
            refine C_region ?_
            refine R_pu (pu_move rfl) rfl ?_
            refine R_pu (pu_eqlnn (by kernel_rfl) rfl) rfl ?_
            refine R_pu (pu_move rfl) rfl ?_
            refine R_gpu rfl rfl (pu_move rfl) rfl ?_
            have ob471 := (ob465.keptNo k120)
            refine R_gpu rfl rfl (pu_bstr ob471.bs Tryz.underlying22 Tryz.underlying5 Tryz.underlying9 rfl rfl) rfl ?_
            refine R_gpu rfl rfl (pu_move rfl) rfl ?_
            have ob472 := (ob467.keptNo k120)
            refine R_gpu rfl rfl (pu_bstr ob472.bs Tryz.underlying22 Tryz.underlying5 Tryz.underlying9 rfl rfl) rfl ?_
            refine R_gpu rfl rfl (pu_true (pu_eqls (p := (subI E1 (sealB Y N M D) []) = (subI E1 (sealB Y N M D) [])) rfl rfl (bstr_inj (ob471.bs).byte (ob472.bs).byte)) rfl) rfl ?_
            refine R_pu (pu_pickt rfl rfl) rfl ?_
            refine R_pu (pu_move rfl) rfl ?_
            refine R_gpu rfl rfl (pu_move rfl) rfl ?_
            have o473 : Gt w120 := (o463.no k120)
            refine R_glo rfl rfl (lo_call (by kernel_rfl) rfl (num_errv E1 ev_sa _ he_sa o473)) rfl ?_
            rintro _ w121 ⟨rfl, k121⟩
            have kk121 := kk120.then_ k121
            refine R_gpu rfl rfl (pu_move rfl) rfl ?_
            refine R_gpu rfl rfl (pu_true (pu_eql (p := E1 = E1) rfl rfl (by omega)) rfl) rfl ?_
            refine R_pu (pu_pickt rfl rfl) rfl ?_
            refine R_pu (pu_move rfl) rfl ?_
            refine R_gpu rfl rfl (pu_move rfl) rfl ?_
            have ob474 := ((Q119.keptNo k120).keptNo k121)
            refine R_gpu rfl rfl (pu_bstr ob474.bs Tryz.underlying22 Tryz.underlying5 Tryz.underlying9 rfl rfl) rfl ?_
            refine R_gpu rfl rfl (pu_move rfl) rfl ?_
            have ob475 := (Q120.keptNo k121)
            refine R_gpu rfl rfl (pu_bstr ob475.bs Tryz.underlying22 Tryz.underlying5 Tryz.underlying9 rfl rfl) rfl ?_
            refine R_gpu rfl rfl (pu_true (pu_eqls (p := (subI E2 (cphB Y N (X.take (X.length - 16))) []) = (subI E2 (cphB Y N (X.take (X.length - 16))) [])) rfl rfl (bstr_inj (ob474.bs).byte (ob475.bs).byte)) rfl) rfl ?_
            refine R_pu (pu_pickt rfl rfl) rfl ?_
            refine R_pu (pu_move rfl) rfl ?_
            refine R_gpu rfl rfl (pu_move rfl) rfl ?_
            have o476 : Gt w121 := (o473.no k121)
            refine R_glo rfl rfl (lo_call (by kernel_rfl) rfl (num_errv E2 ev_oa _ he_oa o476)) rfl ?_
            rintro _ w122 ⟨rfl, k122⟩
            have kk122 := kk121.then_ k122
            refine R_gpu rfl rfl (pu_move rfl) rfl ?_
            refine R_gpu rfl rfl (pu_true (pu_eql (p := E2 = E2) rfl rfl (by omega)) rfl) rfl ?_
            refine R_pu (pu_pickt rfl rfl) rfl ?_
            refine R_pu (pu_move rfl) rfl ?_
            refine R_gpu rfl rfl (pu_move rfl) rfl ?_
            refine R_gpu rfl rfl (pu_fieldAddr (off := 1) (o' := 1) (by kernel_rfl) rfl rfl) rfl ?_
            have f477 : Bk w122 pc ([.slice A0 (Y.length) (c0), .slice A1 (N.length) (c1), .slice A2 (D.length) (c2)]) 24 := (((f460.no k120).no k121).no k122)
            refine R_gpu rfl rfl (pu_loadK f477 (by kernel_rfl) rfl rfl) rfl ?_
            refine R_gpu rfl rfl (pu_move rfl) rfl ?_
            refine R_gpu rfl rfl (pu_fieldAddr (off := 2) (o' := 2) (by kernel_rfl) rfl rfl) rfl ?_
            refine R_gpu rfl rfl (pu_loadK f477 (by kernel_rfl) rfl rfl) rfl ?_
            have f478 : Bk w122 kp (gkL kb (gmH Y)) 59 := (((f461.no k120).no k121).no k122)
            have f479 : Bk w122 kb (keyL kx (KW Y)) 88 := (((f462.no k120).no k121).no k122)
            have o480 : Sx w122 kx := (((T119.no k120).no k121).no k122)
            refine R_glo rfl rfl (lo_call (by kernel_rfl) rfl (gcm_opens_all kp kb kx Y A1 N c1 A4 X c4 A2 D c2 _ bK_kp n1_113 n2_113 n3_113 f478 f479 o480 (HN.keptNo kk122) hn (HN.aw (Nat.le_trans kk112.size lx113)) (HX.keptNo kk122) hx (HX.aw (Nat.le_trans kk112.size lx113)) (HD.keptNo kk122) hd (HD.aw (Nat.le_trans kk112.size lx113)))) rfl ?_
            rintro _ w123 ⟨rfl, T123, k123⟩
            have kk123 := kk122.trans k123 (fun i hi => .inr (hi ▸ (Nat.le_trans kk112.size lx113)))
            refine R_gpu rfl rfl (pu_move rfl) rfl ?_
            refine R_gpu rfl rfl (pu_eql (p := E2 = 0) rfl rfl (by omega)) rfl ?_
            refine R_gpu rfl rfl (pu_b (pu_eqlb Tryz.underlying4 rfl rfl) (show (decide (openE Y N X D = 0) == decide (E2 = 0)) = true by subst hE2; exact beq_self_eq_true _)) rfl ?_
            refine R_pu (pu_pickt rfl rfl) rfl ?_
            refine R_pu (pu_move rfl) rfl ?_
            have o481 : Gt w123 := ((o476.no k122).on k123 (Ne.symm ne_kx_0))
            refine R_glo rfl rfl (lo_call (by kernel_rfl) rfl (sure11 _ o481)) rfl ?_
            rintro _ w124 ⟨rfl, k124⟩
            have kk124 := kk123.then_ k124
            refine R_pu (pu_pickt rfl rfl) rfl ?_
            refine R_pu (pu_assign rfl) rfl ?_
            refine R_nil ?_
            refine X_then hK470 ?_
            refine C_ret ?_
            exact X_ret1 (.inl rfl) rfl rfl ⟨rfl, kk124⟩
          · refine C_seq (fun K482 hK482 => ?_)
            refine C_region ?_
            refine R_pu (pu_fieldAddr (off := 0) (o' := 0) (by kernel_rfl) rfl rfl) rfl ?_
            have f483 : Bk w112 pc ([.slice A0 (Y.length) (c0), .slice A1 (N.length) (c1), .slice A2 (D.length) (c2)]) 24 := (f419.no k112)
            refine R_pu (pu_loadK f483 (by kernel_rfl) rfl rfl) rfl ?_
            refine R_lo (lo_call (by kernel_rfl) rfl (gcm_new_err A0 Y c0 _ (HY.keptNo kk112) hy h32)) rfl ?_
            rintro _ w125 ⟨rfl, k125⟩
            have kk125 := kk112.then_ k125
            refine R_pu (pu_move rfl) rfl ?_
            refine R_pu (pu_extract rfl rfl) rfl ?_
            refine R_pu (pu_extract rfl rfl) rfl ?_
            refine R_pu (pu_assign rfl) rfl ?_
            refine R_pu (pu_assign rfl) rfl ?_
            refine R_nil ?_
            refine X_then hK482 ?_
            refine C_seq (fun K484 hK484 => ?_)
            refine C_seq (fun K485 hK485 => ?_)
            refine C_region ?_
            refine R_pu (pu_fieldAddr (off := 0) (o' := 0) (by kernel_rfl) rfl rfl) rfl ?_
            have f486 : Bk w125 pc ([.slice A0 (Y.length) (c0), .slice A1 (N.length) (c1), .slice A2 (D.length) (c2)]) 24 := (f483.no k125)
            refine R_pu (pu_loadK f486 (by kernel_rfl) rfl rfl) rfl ?_
            refine R_pu (pu_len Tryz.underlying22 rfl) rfl ?_
            refine R_pu (pu_neq (p := Y.length = 32) rfl rfl (by omega)) rfl ?_
            refine R_nil ?_
            refine X_then hK485 ?_
            refine C_dect rfl h32 ?_
            refine C_seq (fun K487 hK487 => ?_)
            refine C_region ?_
            refine R_pu (pu_move rfl) rfl ?_
            have o488 : Gt w125 := (((o418.no k111).no k112).no k125)
            refine R_lo (lo_call (by kernel_rfl) rfl (num11_err 1 _ o488)) rfl ?_
            rintro _ w126 ⟨rfl, k126⟩
            have kk126 := kk125.then_ k126
            refine R_pu (pu_true (pu_eql (p := (1 : Nat) = 1) rfl rfl (by omega)) (by decide)) rfl ?_
            refine R_pu (pu_move rfl) rfl ?_
            refine R_gpu rfl rfl (pu_move rfl) rfl ?_
            refine R_gpu rfl rfl (pu_eqlpn (by kernel_rfl) rfl rfl) rfl ?_
            refine R_pu (pu_pickt rfl rfl) rfl ?_
            refine R_pu (pu_move rfl) rfl ?_
            have o489 : Gt w126 := (o488.no k126)
            refine R_glo rfl rfl (lo_call (by kernel_rfl) rfl (sure11 _ o489)) rfl ?_
            rintro _ w127 ⟨rfl, k127⟩
            have kk127 := kk126.then_ k127
            refine R_pu (pu_pickt rfl rfl) rfl ?_
            refine R_pu (pu_assign rfl) rfl ?_
            refine R_nil ?_
            refine X_then hK487 ?_
            refine C_ret ?_
            refine X_then_ret ?_
            exact X_ret1 (.inl rfl) rfl rfl ⟨rfl, kk127⟩
    · refine R_gpu rfl rfl (pu_false (pu_move rfl) g1_12) rfl ?_
      refine R_gno rfl rfl rfl rfl ?_
      refine R_gno rfl rfl rfl rfl ?_
      refine R_gno rfl rfl rfl rfl ?_
      refine R_gpu rfl rfl (pu_pickf rfl rfl) rfl ?_
      refine R_pu (pu_pickf rfl rfl) rfl ?_
      refine R_pu (pu_move rfl) rfl ?_
      refine R_gpu rfl rfl (pu_fieldAddr (off := 2) (o' := 2) (by kernel_rfl) rfl rfl) rfl ?_
      refine R_gpu rfl rfl (pu_loadK f_pc_1 (by kernel_rfl) rfl rfl) rfl ?_
      refine R_gpu rfl rfl (pu_len Tryz.underlying22 rfl) rfl ?_
      refine R_gpu rfl rfl (pu_gtr (p := D.length > 300) rfl rfl (by omega)) rfl ?_
      by_cases g1_23 : D.length > 300
      · refine R_gpu rfl rfl (pu_true (pu_move rfl) g1_23) rfl ?_
        refine R_gpu rfl rfl (pu_fieldAddr (off := 2) (o' := 2) (by kernel_rfl) rfl rfl) rfl ?_
        refine R_gpu rfl rfl (pu_loadK f_pc_1 (by kernel_rfl) rfl rfl) rfl ?_
        refine R_gpu rfl rfl (pu_len Tryz.underlying22 rfl) rfl ?_
        refine R_gpu rfl rfl (pu_leq (p := D.length ≤ 2048) rfl rfl (by omega)) rfl ?_
        refine R_gpu rfl rfl (pu_pickt rfl rfl) rfl ?_
        refine R_pu (pu_pickf rfl rfl) rfl ?_
        refine R_nil ?_
        refine X_then hK3 ?_
        refine C_dec rfl (fun h52 => ?_) (fun h52 => ?_)
        · refine C_seq (fun K490 hK490 => ?_)
          refine C_region ?_
          have o491 : Gt w1 := (hG.no k1)
          refine R_lo (lo_call (by kernel_rfl) rfl (sure11 _ o491)) rfl ?_
          rintro _ w128 ⟨rfl, k128⟩
          have kk128 := kk1.then_ k128
          refine R_pu (pu_assign rfl) rfl ?_
          refine R_nil ?_
          refine X_then hK490 ?_
          refine C_ret ?_
          refine X_then_ret ?_
          exact X_ret1 (.inl rfl) rfl rfl ⟨rfl, kk128⟩
        · refine C_skip ?_
          refine X_then hK2 ?_
          refine C_seq (fun K492 hK492 => ?_)
          refine C_region ?_
          refine R_pu (pu_assign rfl) rfl ?_
          refine R_nil ?_
          refine X_then hK492 ?_
          refine C_seq (fun K493 hK493 => ?_)
          refine C_region ?_
          refine R_pu (pu_move rfl) rfl ?_
          refine R_pu (pu_fieldAddr (off := 1) (o' := 1) (by kernel_rfl) rfl rfl) rfl ?_
          refine R_pu (pu_loadK f_pc_1 (by kernel_rfl) rfl rfl) rfl ?_
          refine R_pu (pu_move rfl) rfl ?_
          refine R_pu (pu_fieldAddr (off := 2) (o' := 2) (by kernel_rfl) rfl rfl) rfl ?_
          refine R_pu (pu_loadK f_pc_1 (by kernel_rfl) rfl rfl) rfl ?_
          refine R_lo (lo_call (by kernel_rfl) rfl (gcm_seal_nil A1 N c1 A3 M c3 A2 D c2 _ (HN.keptNo kk1) hn (HM.keptNo kk1) hm (HD.keptNo kk1) hd)) rfl ?_
          rintro _ w129 ⟨rfl, k129⟩
          have kk129 := kk1.then_ k129
          refine R_pu (pu_move rfl) rfl ?_
          refine R_pu (pu_extract rfl rfl) rfl ?_
          refine R_pu (pu_extract rfl rfl) rfl ?_
          refine R_pu (pu_assign rfl) rfl ?_
          refine R_pu (pu_assign rfl) rfl ?_
          refine R_nil ?_
          refine X_then hK493 ?_
          refine C_seq (fun K494 hK494 => ?_)
          refine C_region ?_
          refine R_pu (pu_move rfl) rfl ?_
          refine R_pu (pu_fieldAddr (off := 1) (o' := 1) (by kernel_rfl) rfl rfl) rfl ?_
          have f495 : Bk w129 pc ([.slice A0 (Y.length) (c0), .slice A1 (N.length) (c1), .slice A2 (D.length) (c2)]) 24 := (f_pc_1.no k129)
          refine R_pu (pu_loadK f495 (by kernel_rfl) rfl rfl) rfl ?_
          refine R_pu (pu_move rfl) rfl ?_
          refine R_pu (pu_fieldAddr (off := 2) (o' := 2) (by kernel_rfl) rfl rfl) rfl ?_
          refine R_pu (pu_loadK f495 (by kernel_rfl) rfl rfl) rfl ?_
          refine R_lo (lo_call (by kernel_rfl) rfl (gcm_open_nil A1 N c1 A4 X c4 A2 D c2 _ (HN.keptNo kk129) hn (HX.keptNo kk129) hx (HD.keptNo kk129) hd)) rfl ?_
          rintro _ w130 ⟨rfl, k130⟩
          have kk130 := kk129.then_ k130
          refine R_pu (pu_move rfl) rfl ?_
          refine R_pu (pu_extract rfl rfl) rfl ?_
          refine R_pu (pu_extract rfl rfl) rfl ?_
          refine R_pu (pu_assign rfl) rfl ?_
          refine R_pu (pu_assign rfl) rfl ?_
          refine R_nil ?_
          refine X_then hK494 ?_
          refine C_seq (fun K496 hK496 => ?_)
          refine C_seq (fun K497 hK497 => ?_)
          refine C_region ?_
          refine R_pu (pu_move rfl) rfl ?_
          have o498 : Gt w130 := (((hG.no k1).no k129).no k130)
          refine R_lo (lo_call (by kernel_rfl) rfl (num11_err 1 _ o498)) rfl ?_
          rintro _ w131 ⟨rfl, k131⟩
          have kk131 := kk130.then_ k131
          refine R_pu (pu_false (pu_neq (p := (1 : Nat) = 1) rfl rfl (by omega)) (by decide)) rfl ?_
          refine R_pu (pu_move rfl) rfl ?_
          refine R_gpu rfl rfl (pu_move rfl) rfl ?_
          have o499 : Gt w131 := (o498.no k131)
          refine R_glo rfl rfl (lo_call (by kernel_rfl) rfl (num11_err 1 _ o499)) rfl ?_
          rintro _ w132 ⟨rfl, k132⟩
          have kk132 := kk131.then_ k132
          refine R_gpu rfl rfl (pu_false (pu_neq (p := (1 : Nat) = 1) rfl rfl (by omega)) (by decide)) rfl ?_
          refine R_pu (pu_pickf rfl rfl) rfl ?_
          refine R_pu (pu_move rfl) rfl ?_
          refine R_gpu rfl rfl (pu_move rfl) rfl ?_
          refine R_gpu rfl rfl (pu_fieldAddr (off := 1) (o' := 1) (by kernel_rfl) rfl rfl) rfl ?_
          have f500 : Bk w132 pc ([.slice A0 (Y.length) (c0), .slice A1 (N.length) (c1), .slice A2 (D.length) (c2)]) 24 := (((f495.no k130).no k131).no k132)
          refine R_gpu rfl rfl (pu_loadK f500 (by kernel_rfl) rfl rfl) rfl ?_
          refine R_gpu rfl rfl (pu_move rfl) rfl ?_
          refine R_gpu rfl rfl (pu_fieldAddr (off := 2) (o' := 2) (by kernel_rfl) rfl rfl) rfl ?_
          refine R_gpu rfl rfl (pu_loadK f500 (by kernel_rfl) rfl rfl) rfl ?_
          refine R_glo rfl rfl (lo_call (by kernel_rfl) rfl (gcm_opens_nil A1 N c1 A4 X c4 A2 D c2 _ (HN.keptNo kk132) hn (HX.keptNo kk132) hx (HD.keptNo kk132) hd)) rfl ?_
          rintro _ w133 ⟨rfl, k133⟩
          have kk133 := kk132.then_ k133
          refine R_pu (pu_pickf rfl rfl) rfl ?_
          refine R_nil ?_
          refine X_then hK497 ?_
          refine C_false rfl ?_
          refine C_skip ?_
          refine X_then hK496 ?_
          by_cases h32 : Y.length = 32
          · refine C_seq (fun K501 hK501 => ?_)
            refine C_region ?_
            refine R_pu (pu_fieldAddr (off := 0) (o' := 0) (by kernel_rfl) rfl rfl) rfl ?_
            have f502 : Bk w133 pc ([.slice A0 (Y.length) (c0), .slice A1 (N.length) (c1), .slice A2 (D.length) (c2)]) 24 := (f500.no k133)
            refine R_pu (pu_loadK f502 (by kernel_rfl) rfl rfl) rfl ?_
            have o503 : Gt w133 := ((o499.no k132).no k133)
            have bK_kp : By 32 Y := ⟨h32, HY.byte⟩
            have wy_kb : Wy (KW Y) := KW_wy bK_kp.2
            refine R_lo (lo_call (by kernel_rfl) rfl (gcm_new A0 Y c0 _ (HY.keptNo kk133) hy bK_kp.1)) rfl ?_
            rintro _ w134 ⟨kp, kb, kx, rfl, le134, lb134, lx134, n1_134, n2_134, n3_134, P134, B134, T134, k134⟩
            have kk134 := kk133.then_ k134
            have ne_kp_pc : kp ≠ pc := Nat.ne_of_gt (Nat.lt_of_lt_of_le f502.lt le134)
            have ne_kp_0 : kp ≠ 0 := Nat.ne_of_gt (Nat.lt_of_lt_of_le o503.lt le134)
            have ne_kb_pc : kb ≠ pc := Nat.ne_of_gt (Nat.lt_of_lt_of_le f502.lt lb134)
            have ne_kb_0 : kb ≠ 0 := Nat.ne_of_gt (Nat.lt_of_lt_of_le o503.lt lb134)
            have ne_kx_pc : kx ≠ pc := Nat.ne_of_gt (Nat.lt_of_lt_of_le f502.lt lx134)
            have ne_kx_0 : kx ≠ 0 := Nat.ne_of_gt (Nat.lt_of_lt_of_le o503.lt lx134)
            refine R_pu (pu_move rfl) rfl ?_
            refine R_pu (pu_extract rfl rfl) rfl ?_
            refine R_pu (pu_extract rfl rfl) rfl ?_
            refine R_pu (pu_assign rfl) rfl ?_
            refine R_pu (pu_assign rfl) rfl ?_
            refine R_nil ?_
            refine X_then hK501 ?_
            refine C_seq (fun K504 hK504 => ?_)
            refine C_seq (fun K505 hK505 => ?_)
            refine C_region ?_
            refine R_pu (pu_fieldAddr (off := 0) (o' := 0) (by kernel_rfl) rfl rfl) rfl ?_
            have f506 : Bk w134 pc ([.slice A0 (Y.length) (c0), .slice A1 (N.length) (c1), .slice A2 (D.length) (c2)]) 24 := (f502.no k134)
            refine R_pu (pu_loadK f506 (by kernel_rfl) rfl rfl) rfl ?_
            refine R_pu (pu_len Tryz.underlying22 rfl) rfl ?_
            refine R_pu (pu_neq (p := Y.length = 32) rfl rfl (by omega)) rfl ?_
            refine R_nil ?_
            refine X_then hK505 ?_
            refine C_decf rfl (fun h => h h32) ?_
            refine C_skip ?_
            refine X_then hK504 ?_
            refine C_seq (fun K507 hK507 => ?_)
            refine C_region ?_
            refine R_pu (pu_fieldAddr (off := 0) (o' := 0) (by kernel_rfl) rfl rfl) rfl ?_
            refine R_pu (pu_loadK f506 (by kernel_rfl) rfl rfl) rfl ?_
            refine R_lo (lo_call (by kernel_rfl) rfl (ref11_ready A0 Y c0 _ (HY.keptNo kk134) hy h32)) rfl ?_
            rintro _ w135 ⟨rfl, k135⟩
            have kk135 := kk134.then_ k135
            have f508 : Bk w135 pc ([.slice A0 (Y.length) (c0), .slice A1 (N.length) (c1), .slice A2 (D.length) (c2)]) 24 := (f506.no k135)
            have f509 : Bk w135 kp (gkL kb (gmH Y)) 59 := (P134.no k135)
            have f510 : Bk w135 kb (keyL kx (KW Y)) 88 := (B134.no k135)
            have o511 : Gt w135 := ((o503.no k134).no k135)
            have o512 : Sx w135 kx := (T134.no k135)
            refine R_lo (lo_alloc (L := u8s (List.replicate 512 0)) (by kernel_rfl)) rfl ?_
            rintro _ w136 ⟨pr, rfl, N136⟩
            have k136 := N136.kp
            have kk136 := kk135.then_ k136
            have ne_pr_pc : pr ≠ pc := Nat.ne_of_gt (Nat.lt_of_lt_of_le f508.lt N136.le)
            have ne_pr_kp : pr ≠ kp := Nat.ne_of_gt (Nat.lt_of_lt_of_le f509.lt N136.le)
            have ne_pr_kb : pr ≠ kb := Nat.ne_of_gt (Nat.lt_of_lt_of_le f510.lt N136.le)
            have ne_pr_0 : pr ≠ 0 := Nat.ne_of_gt (Nat.lt_of_lt_of_le o511.lt N136.le)
            have ne_pr_kx : pr ≠ kx := Nat.ne_of_gt (Nat.lt_of_lt_of_le o512.lt N136.le)
            have f_pr_136 : Bk w136 pr (u8s (List.replicate 512 0)) 42 := N136.bk
            refine R_lo0 (lo_storeRow (C := u8s (RKL Y)) f_pr_136 (by rw [u8s_length, (RKL_by Y).1]; kernel_rfl) rfl rfl (u8s_each _) ((u8s_length _).trans ((RKL_by Y).1.trans ((rep_by 512).1.symm.trans (u8s_length _).symm)))) ?_
            rintro _ w137 kf137
            obtain ⟨k137, f_pr_137⟩ := kf137
            replace f_pr_137 : Bk w137 pr (u8s (RKL Y)) 42 := f_pr_137
            have kk137 := kk136.trans k137 (fun i hi => .inr (hi ▸ (Nat.le_trans kk135.size N136.le)))
            refine R_nil ?_
            refine X_then hK507 ?_
            refine C_seq (fun K513 hK513 => ?_)
            obtain ⟨E1, hE1⟩ : ∃ E, E = sealE N M D := ⟨_, rfl⟩; obtain ⟨E2, hE2⟩ : ∃ E, E = openE Y N X D := ⟨_, rfl⟩
            refine C_region ?_
            refine R_pu (pu_move rfl) rfl ?_
            refine R_pu (pu_fieldAddr (off := 1) (o' := 1) (by kernel_rfl) rfl rfl) rfl ?_
            have f514 : Bk w137 pc ([.slice A0 (Y.length) (c0), .slice A1 (N.length) (c1), .slice A2 (D.length) (c2)]) 24 := ((f508.no k136).on k137 (Ne.symm ne_pr_pc))
            refine R_pu (pu_loadK f514 (by kernel_rfl) rfl rfl) rfl ?_
            refine R_pu (pu_move rfl) rfl ?_
            refine R_pu (pu_fieldAddr (off := 2) (o' := 2) (by kernel_rfl) rfl rfl) rfl ?_
            refine R_pu (pu_loadK f514 (by kernel_rfl) rfl rfl) rfl ?_
            have f515 : Bk w137 kp (gkL kb (gmH Y)) 59 := ((f509.no k136).on k137 (Ne.symm ne_pr_kp))
            have f516 : Bk w137 kb (keyL kx (KW Y)) 88 := ((f510.no k136).on k137 (Ne.symm ne_pr_kb))
            have o517 : Sx w137 kx := ((o512.no k136).on k137 (Ne.symm ne_pr_kx))
            have o518 : Gt w137 := ((o511.no k136).on k137 (Ne.symm ne_pr_0))
            refine R_lo (lo_call (by kernel_rfl) rfl (gcm_seal_all kp kb kx Y A1 N c1 A3 M c3 A2 D c2 E1 _ bK_kp n1_134 n2_134 n3_134 f515 f516 o517 (HN.keptNo kk137) hn (HN.aw (Nat.le_trans kk133.size lx134)) (HM.keptNo kk137) hm (HM.aw (Nat.le_trans kk133.size lx134)) (HD.keptNo kk137) hd (HD.aw (Nat.le_trans kk133.size lx134)) hE1)) rfl ?_
            rintro _ w138 ⟨A_sa, c_sa, ev_sa, rfl, he_sa, Q138, T138, k138⟩
            have kk138 := kk137.trans k138 (fun i hi => .inr (hi ▸ (Nat.le_trans kk133.size lx134)))
            have z519 : w137.heap.size ≤ w138.heap.size := k138.size
            refine R_pu (pu_move rfl) rfl ?_
            refine R_pu (pu_extract rfl rfl) rfl ?_
            refine R_pu (pu_extract rfl rfl) rfl ?_
            refine R_pu (pu_assign rfl) rfl ?_
            refine R_pu (pu_assign rfl) rfl ?_
            refine R_nil ?_
            refine X_then hK513 ?_
            refine C_seq (fun K520 hK520 => ?_)
            refine C_region ?_
            have f521 : Bk w138 pr (u8s (RKL Y)) 42 := (f_pr_137.on k138 ne_pr_kx)
            refine R_pu (pu_loadRow (len := 512) f521 (by kernel_rfl) (by kernel_rfl) (by rw [u8s_length]; exact (RKL_by Y).1) rfl) rfl ?_
            refine R_pu (pu_fieldAddr (off := 1) (o' := 1) (by kernel_rfl) rfl rfl) rfl ?_
            have f522 : Bk w138 pc ([.slice A0 (Y.length) (c0), .slice A1 (N.length) (c1), .slice A2 (D.length) (c2)]) 24 := (f514.on k138 (Ne.symm ne_kx_pc))
            refine R_pu (pu_loadK f522 (by kernel_rfl) rfl rfl) rfl ?_
            refine R_pu (pu_move rfl) rfl ?_
            refine R_pu (pu_fieldAddr (off := 2) (o' := 2) (by kernel_rfl) rfl rfl) rfl ?_
            refine R_pu (pu_loadK f522 (by kernel_rfl) rfl rfl) rfl ?_
            have f523 : Bk w138 kp (gkL kb (gmH Y)) 59 := (f515.on k138 n2_134)
            have f524 : Bk w138 kb (keyL kx (KW Y)) 88 := (f516.on k138 n3_134)
            have o525 : Gt w138 := (o518.on k138 (Ne.symm ne_kx_0))
            have lm526 := Q138.top
            refine R_lo (lo_call (by kernel_rfl) rfl (ref11_seal_all Y A1 N c1 A3 M c3 A2 D c2 E1 _ (HN.keptNo kk138) hn (HM.keptNo kk138) hm (HD.keptNo kk138) hd hE1)) rfl ?_
            rintro _ w139 ⟨A_sb, c_sb, rfl, Q139, k139⟩
            have kk139 := kk138.then_ k139
            have z527 : w138.heap.size ≤ w139.heap.size := k139.size
            refine R_pu (pu_move rfl) rfl ?_
            refine R_pu (pu_extract rfl rfl) rfl ?_
            refine R_pu (pu_extract rfl rfl) rfl ?_
            refine R_pu (pu_assign rfl) rfl ?_
            refine R_pu (pu_assign rfl) rfl ?_
            refine R_nil ?_
            refine X_then hK520 ?_
            refine C_seq (fun K528 hK528 => ?_)
            refine C_region ?_
            refine R_pu (pu_move rfl) rfl ?_
            refine R_pu (pu_fieldAddr (off := 1) (o' := 1) (by kernel_rfl) rfl rfl) rfl ?_
            have f529 : Bk w139 pc ([.slice A0 (Y.length) (c0), .slice A1 (N.length) (c1), .slice A2 (D.length) (c2)]) 24 := (f522.no k139)
            refine R_pu (pu_loadK f529 (by kernel_rfl) rfl rfl) rfl ?_
            refine R_pu (pu_move rfl) rfl ?_
            refine R_pu (pu_fieldAddr (off := 2) (o' := 2) (by kernel_rfl) rfl rfl) rfl ?_
            refine R_pu (pu_loadK f529 (by kernel_rfl) rfl rfl) rfl ?_
            have f530 : Bk w139 kp (gkL kb (gmH Y)) 59 := (f523.no k139)
            have f531 : Bk w139 kb (keyL kx (KW Y)) 88 := (f524.no k139)
            have o532 : Sx w139 kx := (T138.no k139)
            have f533 : Bk w139 pr (u8s (RKL Y)) 42 := (f521.no k139)
            have o534 : Gt w139 := (o525.no k139)
            have ob536 := (Q138.keptNo k139)
            have lm535 := ob536.top
            have lm537 := Q139.top
            refine R_lo (lo_call (by kernel_rfl) rfl (gcm_open_all kp kb kx Y A1 N c1 A4 X c4 A2 D c2 E2 _ bK_kp n1_134 n2_134 n3_134 f530 f531 o532 (HN.keptNo kk139) hn (HN.aw (Nat.le_trans kk133.size lx134)) (HX.keptNo kk139) hx (HX.aw (Nat.le_trans kk133.size lx134)) (HD.keptNo kk139) hd (HD.aw (Nat.le_trans kk133.size lx134)) hE2)) rfl ?_
            rintro _ w140 ⟨A_oa, c_oa, ev_oa, rfl, he_oa, Q140, T140, k140⟩
            have kk140 := kk139.trans k140 (fun i hi => .inr (hi ▸ (Nat.le_trans kk133.size lx134)))
            have z538 : w139.heap.size ≤ w140.heap.size := k140.size
            refine R_pu (pu_move rfl) rfl ?_
            refine R_pu (pu_extract rfl rfl) rfl ?_
            refine R_pu (pu_extract rfl rfl) rfl ?_
            refine R_pu (pu_assign rfl) rfl ?_
            refine R_pu (pu_assign rfl) rfl ?_
            refine R_nil ?_
            refine X_then hK528 ?_
            refine C_seq (fun K539 hK539 => ?_)
            refine C_region ?_
            have f540 : Bk w140 pr (u8s (RKL Y)) 42 := (f533.on k140 ne_pr_kx)
            refine R_pu (pu_loadRow (len := 512) f540 (by kernel_rfl) (by kernel_rfl) (by rw [u8s_length]; exact (RKL_by Y).1) rfl) rfl ?_
            refine R_pu (pu_fieldAddr (off := 1) (o' := 1) (by kernel_rfl) rfl rfl) rfl ?_
            have f541 : Bk w140 pc ([.slice A0 (Y.length) (c0), .slice A1 (N.length) (c1), .slice A2 (D.length) (c2)]) 24 := (f529.on k140 (Ne.symm ne_kx_pc))
            refine R_pu (pu_loadK f541 (by kernel_rfl) rfl rfl) rfl ?_
            refine R_pu (pu_move rfl) rfl ?_
            refine R_pu (pu_fieldAddr (off := 2) (o' := 2) (by kernel_rfl) rfl rfl) rfl ?_
            refine R_pu (pu_loadK f541 (by kernel_rfl) rfl rfl) rfl ?_
            have f542 : Bk w140 kp (gkL kb (gmH Y)) 59 := (f530.on k140 n2_134)
            have f543 : Bk w140 kb (keyL kx (KW Y)) 88 := (f531.on k140 n3_134)
            have o544 : Gt w140 := (o534.on k140 (Ne.symm ne_kx_0))
            have ob546 := (ob536.on k140 (by have := o517.lt; omega))
            have lm545 := ob546.top
            have ob548 := (Q139.on k140 (by have := T138.lt; omega))
            have lm547 := ob548.top
            have lm549 := Q140.top
            refine R_lo (lo_call (by kernel_rfl) rfl (ref11_open_all Y A1 N c1 A4 X c4 A2 D c2 E2 _ (HN.keptNo kk140) hn (HX.keptNo kk140) hx (HD.keptNo kk140) hd hE2)) rfl ?_
            rintro _ w141 ⟨A_ob, c_ob, rfl, Q141, k141⟩
            have kk141 := kk140.then_ k141
            have z550 : w140.heap.size ≤ w141.heap.size := k141.size
            refine R_pu (pu_move rfl) rfl ?_
            refine R_pu (pu_extract rfl rfl) rfl ?_
            refine R_pu (pu_extract rfl rfl) rfl ?_
            refine R_pu (pu_assign rfl) rfl ?_
            refine R_pu (pu_assign rfl) rfl ?_
            refine R_nil ?_
            refine X_then hK539 ?_
            refine C_seq (fun K551 hK551 => ?_)
            refine C_region ?_
            refine R_pu (pu_move rfl) rfl ?_
            refine R_pu (pu_eqlnn (by kernel_rfl) rfl) rfl ?_
            refine R_pu (pu_move rfl) rfl ?_
            refine R_gpu rfl rfl (pu_move rfl) rfl ?_
            have ob552 := (ob546.keptNo k141)
            refine R_gpu rfl rfl (pu_bstr ob552.bs Tryz.underlying22 Tryz.underlying5 Tryz.underlying9 rfl rfl) rfl ?_
            refine R_gpu rfl rfl (pu_move rfl) rfl ?_
            have ob553 := (ob548.keptNo k141)
            refine R_gpu rfl rfl (pu_bstr ob553.bs Tryz.underlying22 Tryz.underlying5 Tryz.underlying9 rfl rfl) rfl ?_
            refine R_gpu rfl rfl (pu_true (pu_eqls (p := (subI E1 (sealB Y N M D) []) = (subI E1 (sealB Y N M D) [])) rfl rfl (bstr_inj (ob552.bs).byte (ob553.bs).byte)) rfl) rfl ?_
            refine R_pu (pu_pickt rfl rfl) rfl ?_
            refine R_pu (pu_move rfl) rfl ?_
            refine R_gpu rfl rfl (pu_move rfl) rfl ?_
            have o554 : Gt w141 := (o544.no k141)
            refine R_glo rfl rfl (lo_call (by kernel_rfl) rfl (num_errv E1 ev_sa _ he_sa o554)) rfl ?_
            rintro _ w142 ⟨rfl, k142⟩
            have kk142 := kk141.then_ k142
            refine R_gpu rfl rfl (pu_move rfl) rfl ?_
            refine R_gpu rfl rfl (pu_true (pu_eql (p := E1 = E1) rfl rfl (by omega)) rfl) rfl ?_
            refine R_pu (pu_pickt rfl rfl) rfl ?_
            refine R_pu (pu_move rfl) rfl ?_
            refine R_gpu rfl rfl (pu_move rfl) rfl ?_
            have ob555 := ((Q140.keptNo k141).keptNo k142)
            refine R_gpu rfl rfl (pu_bstr ob555.bs Tryz.underlying22 Tryz.underlying5 Tryz.underlying9 rfl rfl) rfl ?_
            refine R_gpu rfl rfl (pu_move rfl) rfl ?_
            have ob556 := (Q141.keptNo k142)
            refine R_gpu rfl rfl (pu_bstr ob556.bs Tryz.underlying22 Tryz.underlying5 Tryz.underlying9 rfl rfl) rfl ?_
            refine R_gpu rfl rfl (pu_true (pu_eqls (p := (subI E2 (cphB Y N (X.take (X.length - 16))) []) = (subI E2 (cphB Y N (X.take (X.length - 16))) [])) rfl rfl (bstr_inj (ob555.bs).byte (ob556.bs).byte)) rfl) rfl ?_
            refine R_pu (pu_pickt rfl rfl) rfl ?_
            refine R_pu (pu_move rfl) rfl ?_
            refine R_gpu rfl rfl (pu_move rfl) rfl ?_
            have o557 : Gt w142 := (o554.no k142)
            refine R_glo rfl rfl (lo_call (by kernel_rfl) rfl (num_errv E2 ev_oa _ he_oa o557)) rfl ?_
            rintro _ w143 ⟨rfl, k143⟩
            have kk143 := kk142.then_ k143
            refine R_gpu rfl rfl (pu_move rfl) rfl ?_
            refine R_gpu rfl rfl (pu_true (pu_eql (p := E2 = E2) rfl rfl (by omega)) rfl) rfl ?_
            refine R_pu (pu_pickt rfl rfl) rfl ?_
            refine R_pu (pu_move rfl) rfl ?_
            refine R_gpu rfl rfl (pu_move rfl) rfl ?_
            refine R_gpu rfl rfl (pu_fieldAddr (off := 1) (o' := 1) (by kernel_rfl) rfl rfl) rfl ?_
            have f558 : Bk w143 pc ([.slice A0 (Y.length) (c0), .slice A1 (N.length) (c1), .slice A2 (D.length) (c2)]) 24 := (((f541.no k141).no k142).no k143)
            refine R_gpu rfl rfl (pu_loadK f558 (by kernel_rfl) rfl rfl) rfl ?_
            refine R_gpu rfl rfl (pu_move rfl) rfl ?_
            refine R_gpu rfl rfl (pu_fieldAddr (off := 2) (o' := 2) (by kernel_rfl) rfl rfl) rfl ?_
            refine R_gpu rfl rfl (pu_loadK f558 (by kernel_rfl) rfl rfl) rfl ?_
            have f559 : Bk w143 kp (gkL kb (gmH Y)) 59 := (((f542.no k141).no k142).no k143)
            have f560 : Bk w143 kb (keyL kx (KW Y)) 88 := (((f543.no k141).no k142).no k143)
            have o561 : Sx w143 kx := (((T140.no k141).no k142).no k143)
            refine R_glo rfl rfl (lo_call (by kernel_rfl) rfl (gcm_opens_all kp kb kx Y A1 N c1 A4 X c4 A2 D c2 _ bK_kp n1_134 n2_134 n3_134 f559 f560 o561 (HN.keptNo kk143) hn (HN.aw (Nat.le_trans kk133.size lx134)) (HX.keptNo kk143) hx (HX.aw (Nat.le_trans kk133.size lx134)) (HD.keptNo kk143) hd (HD.aw (Nat.le_trans kk133.size lx134)))) rfl ?_
            rintro _ w144 ⟨rfl, T144, k144⟩
            have kk144 := kk143.trans k144 (fun i hi => .inr (hi ▸ (Nat.le_trans kk133.size lx134)))
            refine R_gpu rfl rfl (pu_move rfl) rfl ?_
            refine R_gpu rfl rfl (pu_eql (p := E2 = 0) rfl rfl (by omega)) rfl ?_
            refine R_gpu rfl rfl (pu_b (pu_eqlb Tryz.underlying4 rfl rfl) (show (decide (openE Y N X D = 0) == decide (E2 = 0)) = true by subst hE2; exact beq_self_eq_true _)) rfl ?_
            refine R_pu (pu_pickt rfl rfl) rfl ?_
            refine R_pu (pu_move rfl) rfl ?_
            have o562 : Gt w144 := ((o557.no k143).on k144 (Ne.symm ne_kx_0))
            refine R_glo rfl rfl (lo_call (by kernel_rfl) rfl (sure11 _ o562)) rfl ?_
            rintro _ w145 ⟨rfl, k145⟩
            have kk145 := kk144.then_ k145
            refine R_pu (pu_pickt rfl rfl) rfl ?_
            refine R_pu (pu_assign rfl) rfl ?_
            refine R_nil ?_
            refine X_then hK551 ?_
            refine C_ret ?_
            exact X_ret1 (.inl rfl) rfl rfl ⟨rfl, kk145⟩
          · refine C_seq (fun K563 hK563 => ?_)
            refine C_region ?_
            refine R_pu (pu_fieldAddr (off := 0) (o' := 0) (by kernel_rfl) rfl rfl) rfl ?_
            have f564 : Bk w133 pc ([.slice A0 (Y.length) (c0), .slice A1 (N.length) (c1), .slice A2 (D.length) (c2)]) 24 := (f500.no k133)
            refine R_pu (pu_loadK f564 (by kernel_rfl) rfl rfl) rfl ?_
            refine R_lo (lo_call (by kernel_rfl) rfl (gcm_new_err A0 Y c0 _ (HY.keptNo kk133) hy h32)) rfl ?_
            rintro _ w146 ⟨rfl, k146⟩
            have kk146 := kk133.then_ k146
            refine R_pu (pu_move rfl) rfl ?_
            refine R_pu (pu_extract rfl rfl) rfl ?_
            refine R_pu (pu_extract rfl rfl) rfl ?_
            refine R_pu (pu_assign rfl) rfl ?_
            refine R_pu (pu_assign rfl) rfl ?_
            refine R_nil ?_
            refine X_then hK563 ?_
            refine C_seq (fun K565 hK565 => ?_)
            refine C_seq (fun K566 hK566 => ?_)
            refine C_region ?_
            refine R_pu (pu_fieldAddr (off := 0) (o' := 0) (by kernel_rfl) rfl rfl) rfl ?_
            have f567 : Bk w146 pc ([.slice A0 (Y.length) (c0), .slice A1 (N.length) (c1), .slice A2 (D.length) (c2)]) 24 := (f564.no k146)
            refine R_pu (pu_loadK f567 (by kernel_rfl) rfl rfl) rfl ?_
            refine R_pu (pu_len Tryz.underlying22 rfl) rfl ?_
            refine R_pu (pu_neq (p := Y.length = 32) rfl rfl (by omega)) rfl ?_
            refine R_nil ?_
            refine X_then hK566 ?_
            refine C_dect rfl h32 ?_
            refine C_seq (fun K568 hK568 => ?_)
            refine C_region ?_
            refine R_pu (pu_move rfl) rfl ?_
            have o569 : Gt w146 := (((o499.no k132).no k133).no k146)
            refine R_lo (lo_call (by kernel_rfl) rfl (num11_err 1 _ o569)) rfl ?_
            rintro _ w147 ⟨rfl, k147⟩
            have kk147 := kk146.then_ k147
            refine R_pu (pu_true (pu_eql (p := (1 : Nat) = 1) rfl rfl (by omega)) (by decide)) rfl ?_
            refine R_pu (pu_move rfl) rfl ?_
            refine R_gpu rfl rfl (pu_move rfl) rfl ?_
            refine R_gpu rfl rfl (pu_eqlpn (by kernel_rfl) rfl rfl) rfl ?_
            refine R_pu (pu_pickt rfl rfl) rfl ?_
            refine R_pu (pu_move rfl) rfl ?_
            have o570 : Gt w147 := (o569.no k147)
            refine R_glo rfl rfl (lo_call (by kernel_rfl) rfl (sure11 _ o570)) rfl ?_
            rintro _ w148 ⟨rfl, k148⟩
            have kk148 := kk147.then_ k148
            refine R_pu (pu_pickt rfl rfl) rfl ?_
            refine R_pu (pu_assign rfl) rfl ?_
            refine R_nil ?_
            refine X_then hK568 ?_
            refine C_ret ?_
            refine X_then_ret ?_
            exact X_ret1 (.inl rfl) rfl rfl ⟨rfl, kk148⟩
      · refine R_gpu rfl rfl (pu_false (pu_move rfl) g1_23) rfl ?_
        refine R_gno rfl rfl rfl rfl ?_
        refine R_gno rfl rfl rfl rfl ?_
        refine R_gno rfl rfl rfl rfl ?_
        refine R_gno rfl rfl rfl rfl ?_
        refine R_gpu rfl rfl (pu_pickf rfl rfl) rfl ?_
        refine R_pu (pu_pickf rfl rfl) rfl ?_
        refine R_nil ?_
        refine X_then hK3 ?_
        refine C_false rfl ?_
        refine C_skip ?_
        refine X_then hK2 ?_
        refine C_seq (fun K571 hK571 => ?_)
        refine C_region ?_
        refine R_pu (pu_assign rfl) rfl ?_
        refine R_nil ?_
        refine X_then hK571 ?_
        refine C_seq (fun K572 hK572 => ?_)
        refine C_region ?_
        refine R_pu (pu_move rfl) rfl ?_
        refine R_pu (pu_fieldAddr (off := 1) (o' := 1) (by kernel_rfl) rfl rfl) rfl ?_
        refine R_pu (pu_loadK f_pc_1 (by kernel_rfl) rfl rfl) rfl ?_
        refine R_pu (pu_move rfl) rfl ?_
        refine R_pu (pu_fieldAddr (off := 2) (o' := 2) (by kernel_rfl) rfl rfl) rfl ?_
        refine R_pu (pu_loadK f_pc_1 (by kernel_rfl) rfl rfl) rfl ?_
        refine R_lo (lo_call (by kernel_rfl) rfl (gcm_seal_nil A1 N c1 A3 M c3 A2 D c2 _ (HN.keptNo kk1) hn (HM.keptNo kk1) hm (HD.keptNo kk1) hd)) rfl ?_
        rintro _ w149 ⟨rfl, k149⟩
        have kk149 := kk1.then_ k149
        refine R_pu (pu_move rfl) rfl ?_
        refine R_pu (pu_extract rfl rfl) rfl ?_
        refine R_pu (pu_extract rfl rfl) rfl ?_
        refine R_pu (pu_assign rfl) rfl ?_
        refine R_pu (pu_assign rfl) rfl ?_
        refine R_nil ?_
        refine X_then hK572 ?_
        refine C_seq (fun K573 hK573 => ?_)
        refine C_region ?_
        refine R_pu (pu_move rfl) rfl ?_
        refine R_pu (pu_fieldAddr (off := 1) (o' := 1) (by kernel_rfl) rfl rfl) rfl ?_
        have f574 : Bk w149 pc ([.slice A0 (Y.length) (c0), .slice A1 (N.length) (c1), .slice A2 (D.length) (c2)]) 24 := (f_pc_1.no k149)
        refine R_pu (pu_loadK f574 (by kernel_rfl) rfl rfl) rfl ?_
        refine R_pu (pu_move rfl) rfl ?_
        refine R_pu (pu_fieldAddr (off := 2) (o' := 2) (by kernel_rfl) rfl rfl) rfl ?_
        refine R_pu (pu_loadK f574 (by kernel_rfl) rfl rfl) rfl ?_
        refine R_lo (lo_call (by kernel_rfl) rfl (gcm_open_nil A1 N c1 A4 X c4 A2 D c2 _ (HN.keptNo kk149) hn (HX.keptNo kk149) hx (HD.keptNo kk149) hd)) rfl ?_
        rintro _ w150 ⟨rfl, k150⟩
        have kk150 := kk149.then_ k150
        refine R_pu (pu_move rfl) rfl ?_
        refine R_pu (pu_extract rfl rfl) rfl ?_
        refine R_pu (pu_extract rfl rfl) rfl ?_
        refine R_pu (pu_assign rfl) rfl ?_
        refine R_pu (pu_assign rfl) rfl ?_
        refine R_nil ?_
        refine X_then hK573 ?_
        refine C_seq (fun K575 hK575 => ?_)
        refine C_seq (fun K576 hK576 => ?_)
        refine C_region ?_
        refine R_pu (pu_move rfl) rfl ?_
        have o577 : Gt w150 := (((hG.no k1).no k149).no k150)
        refine R_lo (lo_call (by kernel_rfl) rfl (num11_err 1 _ o577)) rfl ?_
        rintro _ w151 ⟨rfl, k151⟩
        have kk151 := kk150.then_ k151
        refine R_pu (pu_false (pu_neq (p := (1 : Nat) = 1) rfl rfl (by omega)) (by decide)) rfl ?_
        refine R_pu (pu_move rfl) rfl ?_
        refine R_gpu rfl rfl (pu_move rfl) rfl ?_
        have o578 : Gt w151 := (o577.no k151)
        refine R_glo rfl rfl (lo_call (by kernel_rfl) rfl (num11_err 1 _ o578)) rfl ?_
        rintro _ w152 ⟨rfl, k152⟩
        have kk152 := kk151.then_ k152
        refine R_gpu rfl rfl (pu_false (pu_neq (p := (1 : Nat) = 1) rfl rfl (by omega)) (by decide)) rfl ?_
        refine R_pu (pu_pickf rfl rfl) rfl ?_
        refine R_pu (pu_move rfl) rfl ?_
        refine R_gpu rfl rfl (pu_move rfl) rfl ?_
        refine R_gpu rfl rfl (pu_fieldAddr (off := 1) (o' := 1) (by kernel_rfl) rfl rfl) rfl ?_
        have f579 : Bk w152 pc ([.slice A0 (Y.length) (c0), .slice A1 (N.length) (c1), .slice A2 (D.length) (c2)]) 24 := (((f574.no k150).no k151).no k152)
        refine R_gpu rfl rfl (pu_loadK f579 (by kernel_rfl) rfl rfl) rfl ?_
        refine R_gpu rfl rfl (pu_move rfl) rfl ?_
        refine R_gpu rfl rfl (pu_fieldAddr (off := 2) (o' := 2) (by kernel_rfl) rfl rfl) rfl ?_
        refine R_gpu rfl rfl (pu_loadK f579 (by kernel_rfl) rfl rfl) rfl ?_
        refine R_glo rfl rfl (lo_call (by kernel_rfl) rfl (gcm_opens_nil A1 N c1 A4 X c4 A2 D c2 _ (HN.keptNo kk152) hn (HX.keptNo kk152) hx (HD.keptNo kk152) hd)) rfl ?_
        rintro _ w153 ⟨rfl, k153⟩
        have kk153 := kk152.then_ k153
        refine R_pu (pu_pickf rfl rfl) rfl ?_
        refine R_nil ?_
        refine X_then hK576 ?_
        refine C_false rfl ?_
        refine C_skip ?_
        refine X_then hK575 ?_
        by_cases h32 : Y.length = 32
        · refine C_seq (fun K580 hK580 => ?_)
          refine C_region ?_
          refine R_pu (pu_fieldAddr (off := 0) (o' := 0) (by kernel_rfl) rfl rfl) rfl ?_
          have f581 : Bk w153 pc ([.slice A0 (Y.length) (c0), .slice A1 (N.length) (c1), .slice A2 (D.length) (c2)]) 24 := (f579.no k153)
          refine R_pu (pu_loadK f581 (by kernel_rfl) rfl rfl) rfl ?_
          have o582 : Gt w153 := ((o578.no k152).no k153)
          have bK_kp : By 32 Y := ⟨h32, HY.byte⟩
          have wy_kb : Wy (KW Y) := KW_wy bK_kp.2
          refine R_lo (lo_call (by kernel_rfl) rfl (gcm_new A0 Y c0 _ (HY.keptNo kk153) hy bK_kp.1)) rfl ?_
          rintro _ w154 ⟨kp, kb, kx, rfl, le154, lb154, lx154, n1_154, n2_154, n3_154, P154, B154, T154, k154⟩
          have kk154 := kk153.then_ k154
          have ne_kp_pc : kp ≠ pc := Nat.ne_of_gt (Nat.lt_of_lt_of_le f581.lt le154)
          have ne_kp_0 : kp ≠ 0 := Nat.ne_of_gt (Nat.lt_of_lt_of_le o582.lt le154)
          have ne_kb_pc : kb ≠ pc := Nat.ne_of_gt (Nat.lt_of_lt_of_le f581.lt lb154)
          have ne_kb_0 : kb ≠ 0 := Nat.ne_of_gt (Nat.lt_of_lt_of_le o582.lt lb154)
          have ne_kx_pc : kx ≠ pc := Nat.ne_of_gt (Nat.lt_of_lt_of_le f581.lt lx154)
          have ne_kx_0 : kx ≠ 0 := Nat.ne_of_gt (Nat.lt_of_lt_of_le o582.lt lx154)
          refine R_pu (pu_move rfl) rfl ?_
          refine R_pu (pu_extract rfl rfl) rfl ?_
          refine R_pu (pu_extract rfl rfl) rfl ?_
          refine R_pu (pu_assign rfl) rfl ?_
          refine R_pu (pu_assign rfl) rfl ?_
          refine R_nil ?_
          refine X_then hK580 ?_
          refine C_seq (fun K583 hK583 => ?_)
          refine C_seq (fun K584 hK584 => ?_)
          refine C_region ?_
          refine R_pu (pu_fieldAddr (off := 0) (o' := 0) (by kernel_rfl) rfl rfl) rfl ?_
          have f585 : Bk w154 pc ([.slice A0 (Y.length) (c0), .slice A1 (N.length) (c1), .slice A2 (D.length) (c2)]) 24 := (f581.no k154)
          refine R_pu (pu_loadK f585 (by kernel_rfl) rfl rfl) rfl ?_
          refine R_pu (pu_len Tryz.underlying22 rfl) rfl ?_
          refine R_pu (pu_neq (p := Y.length = 32) rfl rfl (by omega)) rfl ?_
          refine R_nil ?_
          refine X_then hK584 ?_
          refine C_decf rfl (fun h => h h32) ?_
          refine C_skip ?_
          refine X_then hK583 ?_
          refine C_seq (fun K586 hK586 => ?_)
          refine C_region ?_
          refine R_pu (pu_fieldAddr (off := 0) (o' := 0) (by kernel_rfl) rfl rfl) rfl ?_
          refine R_pu (pu_loadK f585 (by kernel_rfl) rfl rfl) rfl ?_
          refine R_lo (lo_call (by kernel_rfl) rfl (ref11_ready A0 Y c0 _ (HY.keptNo kk154) hy h32)) rfl ?_
          rintro _ w155 ⟨rfl, k155⟩
          have kk155 := kk154.then_ k155
          have f587 : Bk w155 pc ([.slice A0 (Y.length) (c0), .slice A1 (N.length) (c1), .slice A2 (D.length) (c2)]) 24 := (f585.no k155)
          have f588 : Bk w155 kp (gkL kb (gmH Y)) 59 := (P154.no k155)
          have f589 : Bk w155 kb (keyL kx (KW Y)) 88 := (B154.no k155)
          have o590 : Gt w155 := ((o582.no k154).no k155)
          have o591 : Sx w155 kx := (T154.no k155)
          refine R_lo (lo_alloc (L := u8s (List.replicate 512 0)) (by kernel_rfl)) rfl ?_
          rintro _ w156 ⟨pr, rfl, N156⟩
          have k156 := N156.kp
          have kk156 := kk155.then_ k156
          have ne_pr_pc : pr ≠ pc := Nat.ne_of_gt (Nat.lt_of_lt_of_le f587.lt N156.le)
          have ne_pr_kp : pr ≠ kp := Nat.ne_of_gt (Nat.lt_of_lt_of_le f588.lt N156.le)
          have ne_pr_kb : pr ≠ kb := Nat.ne_of_gt (Nat.lt_of_lt_of_le f589.lt N156.le)
          have ne_pr_0 : pr ≠ 0 := Nat.ne_of_gt (Nat.lt_of_lt_of_le o590.lt N156.le)
          have ne_pr_kx : pr ≠ kx := Nat.ne_of_gt (Nat.lt_of_lt_of_le o591.lt N156.le)
          have f_pr_156 : Bk w156 pr (u8s (List.replicate 512 0)) 42 := N156.bk
          refine R_lo0 (lo_storeRow (C := u8s (RKL Y)) f_pr_156 (by rw [u8s_length, (RKL_by Y).1]; kernel_rfl) rfl rfl (u8s_each _) ((u8s_length _).trans ((RKL_by Y).1.trans ((rep_by 512).1.symm.trans (u8s_length _).symm)))) ?_
          rintro _ w157 kf157
          obtain ⟨k157, f_pr_157⟩ := kf157
          replace f_pr_157 : Bk w157 pr (u8s (RKL Y)) 42 := f_pr_157
          have kk157 := kk156.trans k157 (fun i hi => .inr (hi ▸ (Nat.le_trans kk155.size N156.le)))
          refine R_nil ?_
          refine X_then hK586 ?_
          refine C_seq (fun K592 hK592 => ?_)
          obtain ⟨E1, hE1⟩ : ∃ E, E = sealE N M D := ⟨_, rfl⟩; obtain ⟨E2, hE2⟩ : ∃ E, E = openE Y N X D := ⟨_, rfl⟩
          refine C_region ?_
          refine R_pu (pu_move rfl) rfl ?_
          refine R_pu (pu_fieldAddr (off := 1) (o' := 1) (by kernel_rfl) rfl rfl) rfl ?_
          have f593 : Bk w157 pc ([.slice A0 (Y.length) (c0), .slice A1 (N.length) (c1), .slice A2 (D.length) (c2)]) 24 := ((f587.no k156).on k157 (Ne.symm ne_pr_pc))
          refine R_pu (pu_loadK f593 (by kernel_rfl) rfl rfl) rfl ?_
          refine R_pu (pu_move rfl) rfl ?_
          refine R_pu (pu_fieldAddr (off := 2) (o' := 2) (by kernel_rfl) rfl rfl) rfl ?_
          refine R_pu (pu_loadK f593 (by kernel_rfl) rfl rfl) rfl ?_
          have f594 : Bk w157 kp (gkL kb (gmH Y)) 59 := ((f588.no k156).on k157 (Ne.symm ne_pr_kp))
          have f595 : Bk w157 kb (keyL kx (KW Y)) 88 := ((f589.no k156).on k157 (Ne.symm ne_pr_kb))
          have o596 : Sx w157 kx := ((o591.no k156).on k157 (Ne.symm ne_pr_kx))
          have o597 : Gt w157 := ((o590.no k156).on k157 (Ne.symm ne_pr_0))
          refine R_lo (lo_call (by kernel_rfl) rfl (gcm_seal_all kp kb kx Y A1 N c1 A3 M c3 A2 D c2 E1 _ bK_kp n1_154 n2_154 n3_154 f594 f595 o596 (HN.keptNo kk157) hn (HN.aw (Nat.le_trans kk153.size lx154)) (HM.keptNo kk157) hm (HM.aw (Nat.le_trans kk153.size lx154)) (HD.keptNo kk157) hd (HD.aw (Nat.le_trans kk153.size lx154)) hE1)) rfl ?_
          rintro _ w158 ⟨A_sa, c_sa, ev_sa, rfl, he_sa, Q158, T158, k158⟩
          have kk158 := kk157.trans k158 (fun i hi => .inr (hi ▸ (Nat.le_trans kk153.size lx154)))
          have z598 : w157.heap.size ≤ w158.heap.size := k158.size
          refine R_pu (pu_move rfl) rfl ?_
          refine R_pu (pu_extract rfl rfl) rfl ?_
          refine R_pu (pu_extract rfl rfl) rfl ?_
          refine R_pu (pu_assign rfl) rfl ?_
          refine R_pu (pu_assign rfl) rfl ?_
          refine R_nil ?_
          refine X_then hK592 ?_
          refine C_seq (fun K599 hK599 => ?_)
          refine C_region ?_
          have f600 : Bk w158 pr (u8s (RKL Y)) 42 := (f_pr_157.on k158 ne_pr_kx)
          refine R_pu (pu_loadRow (len := 512) f600 (by kernel_rfl) (by kernel_rfl) (by rw [u8s_length]; exact (RKL_by Y).1) rfl) rfl ?_
          refine R_pu (pu_fieldAddr (off := 1) (o' := 1) (by kernel_rfl) rfl rfl) rfl ?_
          have f601 : Bk w158 pc ([.slice A0 (Y.length) (c0), .slice A1 (N.length) (c1), .slice A2 (D.length) (c2)]) 24 := (f593.on k158 (Ne.symm ne_kx_pc))
          refine R_pu (pu_loadK f601 (by kernel_rfl) rfl rfl) rfl ?_
          refine R_pu (pu_move rfl) rfl ?_
          refine R_pu (pu_fieldAddr (off := 2) (o' := 2) (by kernel_rfl) rfl rfl) rfl ?_
          refine R_pu (pu_loadK f601 (by kernel_rfl) rfl rfl) rfl ?_
          have f602 : Bk w158 kp (gkL kb (gmH Y)) 59 := (f594.on k158 n2_154)
          have f603 : Bk w158 kb (keyL kx (KW Y)) 88 := (f595.on k158 n3_154)
          have o604 : Gt w158 := (o597.on k158 (Ne.symm ne_kx_0))
          have lm605 := Q158.top
          refine R_lo (lo_call (by kernel_rfl) rfl (ref11_seal_all Y A1 N c1 A3 M c3 A2 D c2 E1 _ (HN.keptNo kk158) hn (HM.keptNo kk158) hm (HD.keptNo kk158) hd hE1)) rfl ?_
          rintro _ w159 ⟨A_sb, c_sb, rfl, Q159, k159⟩
          have kk159 := kk158.then_ k159
          have z606 : w158.heap.size ≤ w159.heap.size := k159.size
          refine R_pu (pu_move rfl) rfl ?_
          refine R_pu (pu_extract rfl rfl) rfl ?_
          refine R_pu (pu_extract rfl rfl) rfl ?_
          refine R_pu (pu_assign rfl) rfl ?_
          refine R_pu (pu_assign rfl) rfl ?_
          refine R_nil ?_
          refine X_then hK599 ?_
          refine C_seq (fun K607 hK607 => ?_)
          refine C_region ?_
          refine R_pu (pu_move rfl) rfl ?_
          refine R_pu (pu_fieldAddr (off := 1) (o' := 1) (by kernel_rfl) rfl rfl) rfl ?_
          have f608 : Bk w159 pc ([.slice A0 (Y.length) (c0), .slice A1 (N.length) (c1), .slice A2 (D.length) (c2)]) 24 := (f601.no k159)
          refine R_pu (pu_loadK f608 (by kernel_rfl) rfl rfl) rfl ?_
          refine R_pu (pu_move rfl) rfl ?_
          refine R_pu (pu_fieldAddr (off := 2) (o' := 2) (by kernel_rfl) rfl rfl) rfl ?_
          refine R_pu (pu_loadK f608 (by kernel_rfl) rfl rfl) rfl ?_
          have f609 : Bk w159 kp (gkL kb (gmH Y)) 59 := (f602.no k159)
          have f610 : Bk w159 kb (keyL kx (KW Y)) 88 := (f603.no k159)
          have o611 : Sx w159 kx := (T158.no k159)
          have f612 : Bk w159 pr (u8s (RKL Y)) 42 := (f600.no k159)
          have o613 : Gt w159 := (o604.no k159)
          have ob615 := (Q158.keptNo k159)
          have lm614 := ob615.top
          have lm616 := Q159.top
          refine R_lo (lo_call (by kernel_rfl) rfl (gcm_open_all kp kb kx Y A1 N c1 A4 X c4 A2 D c2 E2 _ bK_kp n1_154 n2_154 n3_154 f609 f610 o611 (HN.keptNo kk159) hn (HN.aw (Nat.le_trans kk153.size lx154)) (HX.keptNo kk159) hx (HX.aw (Nat.le_trans kk153.size lx154)) (HD.keptNo kk159) hd (HD.aw (Nat.le_trans kk153.size lx154)) hE2)) rfl ?_
          rintro _ w160 ⟨A_oa, c_oa, ev_oa, rfl, he_oa, Q160, T160, k160⟩
          have kk160 := kk159.trans k160 (fun i hi => .inr (hi ▸ (Nat.le_trans kk153.size lx154)))
          have z617 : w159.heap.size ≤ w160.heap.size := k160.size
          refine R_pu (pu_move rfl) rfl ?_
          refine R_pu (pu_extract rfl rfl) rfl ?_
          refine R_pu (pu_extract rfl rfl) rfl ?_
          refine R_pu (pu_assign rfl) rfl ?_
          refine R_pu (pu_assign rfl) rfl ?_
          refine R_nil ?_
          refine X_then hK607 ?_
          refine C_seq (fun K618 hK618 => ?_)
          refine C_region ?_
          have f619 : Bk w160 pr (u8s (RKL Y)) 42 := (f612.on k160 ne_pr_kx)
          refine R_pu (pu_loadRow (len := 512) f619 (by kernel_rfl) (by kernel_rfl) (by rw [u8s_length]; exact (RKL_by Y).1) rfl) rfl ?_
          refine R_pu (pu_fieldAddr (off := 1) (o' := 1) (by kernel_rfl) rfl rfl) rfl ?_
          have f620 : Bk w160 pc ([.slice A0 (Y.length) (c0), .slice A1 (N.length) (c1), .slice A2 (D.length) (c2)]) 24 := (f608.on k160 (Ne.symm ne_kx_pc))
          refine R_pu (pu_loadK f620 (by kernel_rfl) rfl rfl) rfl ?_
          refine R_pu (pu_move rfl) rfl ?_
          refine R_pu (pu_fieldAddr (off := 2) (o' := 2) (by kernel_rfl) rfl rfl) rfl ?_
          refine R_pu (pu_loadK f620 (by kernel_rfl) rfl rfl) rfl ?_
          have f621 : Bk w160 kp (gkL kb (gmH Y)) 59 := (f609.on k160 n2_154)
          have f622 : Bk w160 kb (keyL kx (KW Y)) 88 := (f610.on k160 n3_154)
          have o623 : Gt w160 := (o613.on k160 (Ne.symm ne_kx_0))
          have ob625 := (ob615.on k160 (by have := o596.lt; omega))
          have lm624 := ob625.top
          have ob627 := (Q159.on k160 (by have := T158.lt; omega))
          have lm626 := ob627.top
          have lm628 := Q160.top
          refine R_lo (lo_call (by kernel_rfl) rfl (ref11_open_all Y A1 N c1 A4 X c4 A2 D c2 E2 _ (HN.keptNo kk160) hn (HX.keptNo kk160) hx (HD.keptNo kk160) hd hE2)) rfl ?_
          rintro _ w161 ⟨A_ob, c_ob, rfl, Q161, k161⟩
          have kk161 := kk160.then_ k161
          have z629 : w160.heap.size ≤ w161.heap.size := k161.size
          refine R_pu (pu_move rfl) rfl ?_
          refine R_pu (pu_extract rfl rfl) rfl ?_
          refine R_pu (pu_extract rfl rfl) rfl ?_
          refine R_pu (pu_assign rfl) rfl ?_
          refine R_pu (pu_assign rfl) rfl ?_
          refine R_nil ?_
          refine X_then hK618 ?_
          refine C_seq (fun K630 hK630 => ?_)
          refine C_region ?_
          refine R_pu (pu_move rfl) rfl ?_
          refine R_pu (pu_eqlnn (by kernel_rfl) rfl) rfl ?_
          refine R_pu (pu_move rfl) rfl ?_
          refine R_gpu rfl rfl (pu_move rfl) rfl ?_
          have ob631 := (ob625.keptNo k161)
          refine R_gpu rfl rfl (pu_bstr ob631.bs Tryz.underlying22 Tryz.underlying5 Tryz.underlying9 rfl rfl) rfl ?_
          refine R_gpu rfl rfl (pu_move rfl) rfl ?_
          have ob632 := (ob627.keptNo k161)
          refine R_gpu rfl rfl (pu_bstr ob632.bs Tryz.underlying22 Tryz.underlying5 Tryz.underlying9 rfl rfl) rfl ?_
          refine R_gpu rfl rfl (pu_true (pu_eqls (p := (subI E1 (sealB Y N M D) []) = (subI E1 (sealB Y N M D) [])) rfl rfl (bstr_inj (ob631.bs).byte (ob632.bs).byte)) rfl) rfl ?_
          refine R_pu (pu_pickt rfl rfl) rfl ?_
          refine R_pu (pu_move rfl) rfl ?_
          refine R_gpu rfl rfl (pu_move rfl) rfl ?_
          have o633 : Gt w161 := (o623.no k161)
          refine R_glo rfl rfl (lo_call (by kernel_rfl) rfl (num_errv E1 ev_sa _ he_sa o633)) rfl ?_
          rintro _ w162 ⟨rfl, k162⟩
          have kk162 := kk161.then_ k162
          refine R_gpu rfl rfl (pu_move rfl) rfl ?_
          refine R_gpu rfl rfl (pu_true (pu_eql (p := E1 = E1) rfl rfl (by omega)) rfl) rfl ?_
          refine R_pu (pu_pickt rfl rfl) rfl ?_
          refine R_pu (pu_move rfl) rfl ?_
          refine R_gpu rfl rfl (pu_move rfl) rfl ?_
          have ob634 := ((Q160.keptNo k161).keptNo k162)
          refine R_gpu rfl rfl (pu_bstr ob634.bs Tryz.underlying22 Tryz.underlying5 Tryz.underlying9 rfl rfl) rfl ?_
          refine R_gpu rfl rfl (pu_move rfl) rfl ?_
          have ob635 := (Q161.keptNo k162)
          refine R_gpu rfl rfl (pu_bstr ob635.bs Tryz.underlying22 Tryz.underlying5 Tryz.underlying9 rfl rfl) rfl ?_
          refine R_gpu rfl rfl (pu_true (pu_eqls (p := (subI E2 (cphB Y N (X.take (X.length - 16))) []) = (subI E2 (cphB Y N (X.take (X.length - 16))) [])) rfl rfl (bstr_inj (ob634.bs).byte (ob635.bs).byte)) rfl) rfl ?_
          refine R_pu (pu_pickt rfl rfl) rfl ?_
          refine R_pu (pu_move rfl) rfl ?_
          refine R_gpu rfl rfl (pu_move rfl) rfl ?_
          have o636 : Gt w162 := (o633.no k162)
          refine R_glo rfl rfl (lo_call (by kernel_rfl) rfl (num_errv E2 ev_oa _ he_oa o636)) rfl ?_
          rintro _ w163 ⟨rfl, k163⟩
          have kk163 := kk162.then_ k163
          refine R_gpu rfl rfl (pu_move rfl) rfl ?_
          refine R_gpu rfl rfl (pu_true (pu_eql (p := E2 = E2) rfl rfl (by omega)) rfl) rfl ?_
          refine R_pu (pu_pickt rfl rfl) rfl ?_
          refine R_pu (pu_move rfl) rfl ?_
          refine R_gpu rfl rfl (pu_move rfl) rfl ?_
          refine R_gpu rfl rfl (pu_fieldAddr (off := 1) (o' := 1) (by kernel_rfl) rfl rfl) rfl ?_
          have f637 : Bk w163 pc ([.slice A0 (Y.length) (c0), .slice A1 (N.length) (c1), .slice A2 (D.length) (c2)]) 24 := (((f620.no k161).no k162).no k163)
          refine R_gpu rfl rfl (pu_loadK f637 (by kernel_rfl) rfl rfl) rfl ?_
          refine R_gpu rfl rfl (pu_move rfl) rfl ?_
          refine R_gpu rfl rfl (pu_fieldAddr (off := 2) (o' := 2) (by kernel_rfl) rfl rfl) rfl ?_
          refine R_gpu rfl rfl (pu_loadK f637 (by kernel_rfl) rfl rfl) rfl ?_
          have f638 : Bk w163 kp (gkL kb (gmH Y)) 59 := (((f621.no k161).no k162).no k163)
          have f639 : Bk w163 kb (keyL kx (KW Y)) 88 := (((f622.no k161).no k162).no k163)
          have o640 : Sx w163 kx := (((T160.no k161).no k162).no k163)
          refine R_glo rfl rfl (lo_call (by kernel_rfl) rfl (gcm_opens_all kp kb kx Y A1 N c1 A4 X c4 A2 D c2 _ bK_kp n1_154 n2_154 n3_154 f638 f639 o640 (HN.keptNo kk163) hn (HN.aw (Nat.le_trans kk153.size lx154)) (HX.keptNo kk163) hx (HX.aw (Nat.le_trans kk153.size lx154)) (HD.keptNo kk163) hd (HD.aw (Nat.le_trans kk153.size lx154)))) rfl ?_
          rintro _ w164 ⟨rfl, T164, k164⟩
          have kk164 := kk163.trans k164 (fun i hi => .inr (hi ▸ (Nat.le_trans kk153.size lx154)))
          refine R_gpu rfl rfl (pu_move rfl) rfl ?_
          refine R_gpu rfl rfl (pu_eql (p := E2 = 0) rfl rfl (by omega)) rfl ?_
          refine R_gpu rfl rfl (pu_b (pu_eqlb Tryz.underlying4 rfl rfl) (show (decide (openE Y N X D = 0) == decide (E2 = 0)) = true by subst hE2; exact beq_self_eq_true _)) rfl ?_
          refine R_pu (pu_pickt rfl rfl) rfl ?_
          refine R_pu (pu_move rfl) rfl ?_
          have o641 : Gt w164 := ((o636.no k163).on k164 (Ne.symm ne_kx_0))
          refine R_glo rfl rfl (lo_call (by kernel_rfl) rfl (sure11 _ o641)) rfl ?_
          rintro _ w165 ⟨rfl, k165⟩
          have kk165 := kk164.then_ k165
          refine R_pu (pu_pickt rfl rfl) rfl ?_
          refine R_pu (pu_assign rfl) rfl ?_
          refine R_nil ?_
          refine X_then hK630 ?_
          refine C_ret ?_
          exact X_ret1 (.inl rfl) rfl rfl ⟨rfl, kk165⟩
        · refine C_seq (fun K642 hK642 => ?_)
          refine C_region ?_
          refine R_pu (pu_fieldAddr (off := 0) (o' := 0) (by kernel_rfl) rfl rfl) rfl ?_
          have f643 : Bk w153 pc ([.slice A0 (Y.length) (c0), .slice A1 (N.length) (c1), .slice A2 (D.length) (c2)]) 24 := (f579.no k153)
          refine R_pu (pu_loadK f643 (by kernel_rfl) rfl rfl) rfl ?_
          refine R_lo (lo_call (by kernel_rfl) rfl (gcm_new_err A0 Y c0 _ (HY.keptNo kk153) hy h32)) rfl ?_
          rintro _ w166 ⟨rfl, k166⟩
          have kk166 := kk153.then_ k166
          refine R_pu (pu_move rfl) rfl ?_
          refine R_pu (pu_extract rfl rfl) rfl ?_
          refine R_pu (pu_extract rfl rfl) rfl ?_
          refine R_pu (pu_assign rfl) rfl ?_
          refine R_pu (pu_assign rfl) rfl ?_
          refine R_nil ?_
          refine X_then hK642 ?_
          refine C_seq (fun K644 hK644 => ?_)
          refine C_seq (fun K645 hK645 => ?_)
          refine C_region ?_
          refine R_pu (pu_fieldAddr (off := 0) (o' := 0) (by kernel_rfl) rfl rfl) rfl ?_
          have f646 : Bk w166 pc ([.slice A0 (Y.length) (c0), .slice A1 (N.length) (c1), .slice A2 (D.length) (c2)]) 24 := (f643.no k166)
          refine R_pu (pu_loadK f646 (by kernel_rfl) rfl rfl) rfl ?_
          refine R_pu (pu_len Tryz.underlying22 rfl) rfl ?_
          refine R_pu (pu_neq (p := Y.length = 32) rfl rfl (by omega)) rfl ?_
          refine R_nil ?_
          refine X_then hK645 ?_
          refine C_dect rfl h32 ?_
          refine C_seq (fun K647 hK647 => ?_)
          refine C_region ?_
          refine R_pu (pu_move rfl) rfl ?_
          have o648 : Gt w166 := (((o578.no k152).no k153).no k166)
          refine R_lo (lo_call (by kernel_rfl) rfl (num11_err 1 _ o648)) rfl ?_
          rintro _ w167 ⟨rfl, k167⟩
          have kk167 := kk166.then_ k167
          refine R_pu (pu_true (pu_eql (p := (1 : Nat) = 1) rfl rfl (by omega)) (by decide)) rfl ?_
          refine R_pu (pu_move rfl) rfl ?_
          refine R_gpu rfl rfl (pu_move rfl) rfl ?_
          refine R_gpu rfl rfl (pu_eqlpn (by kernel_rfl) rfl rfl) rfl ?_
          refine R_pu (pu_pickt rfl rfl) rfl ?_
          refine R_pu (pu_move rfl) rfl ?_
          have o649 : Gt w167 := (o648.no k167)
          refine R_glo rfl rfl (lo_call (by kernel_rfl) rfl (sure11 _ o649)) rfl ?_
          rintro _ w168 ⟨rfl, k168⟩
          have kk168 := kk167.then_ k168
          refine R_pu (pu_pickt rfl rfl) rfl ?_
          refine R_pu (pu_assign rfl) rfl ?_
          refine R_nil ?_
          refine X_then hK647 ?_
          refine C_ret ?_
          refine X_then_ret ?_
          exact X_ret1 (.inl rfl) rfl rfl ⟨rfl, kk168⟩
end Go.Proofs.YtfoenaleboodpaaGreatDoor
