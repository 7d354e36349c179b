/- The body of EnvelopeBack. -/
import Derived.Test.YtjbdimfpjbmggaaGreatDoorKs
import Derived.Test.YtjbdimfpjbmggaaGreatDoorAs
set_option linter.unusedVariables false
set_option linter.unusedSimpArgs false
namespace Go.Proofs.YtjbdimfpjbmggaaGreatDoor
open Go.RowKit Gm
theorem flipE32 {K M : List Nat} {g j a b : Nat} (hM : M.length = 32) (hj : j < 16) (ha : (boxE K M g)[32 + j]? = some a) (hb : b ≠ a) : ¬ opE K ((boxE K M g).set (32 + j) b) g := by
  have h := @flipE K M g j a b hj (by rw [hM]; exact ha) hb
  rw [hM] at h; exact h
theorem flipR35 {K B : List Nat} {j a b : Nat} (hB : B.length = 35) (hj : j < 16) (ha : (boxR K B)[47 + j]? = some a) (hb : b ≠ a) : ¬ opR K ((boxR K B).set (47 + j) b) := by
  have h := @flipR K B j a b hj (by rw [hB]; exact ha) hb
  rw [hB] at h; exact h
set_option maxRecDepth 100000 in
set_option maxHeartbeats 2000000 in
theorem num22_nil  (w : World)  : Ret Tryz.prog 15 #[.nilIface] w (fun v w' => v = .int .i64 0 ∧ Kp No w w') := by
  have kk0 := Kp.refl No w
  refine enter (n := 10) [.nilIface] Tryz.func15 rfl rfl rfl ?_
  show Cw _ _ _ _ [(0, .nilIface)] _
  refine C_seq (fun K1 hK1 => ?_)
  refine C_region ?_
  refine R_pu (pu_assign rfl) rfl ?_
  refine R_nil ?_
  refine X_then hK1 ?_
  refine C_seq (fun K2 hK2 => ?_)
  refine C_region ?_
  refine R_lo (lo_alloc (L := [.int .i64 0]) (by kernel_rfl)) rfl ?_
  rintro _ w1 ⟨p1_0, rfl, N1⟩
  have k1 := N1.kp
  have kk1 := kk0.then_ k1
  have f_p1_0_1 : Bk w1 p1_0 ([.int .i64 0]) 56 := N1.bk
  refine R_nil ?_
  refine X_then hK2 ?_
  refine C_seq (fun K3 hK3 => ?_)
  refine C_seq (fun K4 hK4 => ?_)
  refine C_region ?_
  refine R_pu (pu_move rfl) rfl ?_
  refine R_pu (pu_eqlnn (by kernel_rfl) rfl) rfl ?_
  refine R_nil ?_
  refine X_then hK4 ?_
  refine C_true rfl ?_
  refine C_seq (fun K5 hK5 => ?_)
  refine C_region ?_
  refine R_pu (pu_assign rfl) rfl ?_
  refine R_nil ?_
  refine X_then hK5 ?_
  refine C_ret ?_
  refine X_then_ret ?_
  exact X_ret1 (.inl rfl) rfl rfl ⟨rfl, kk1⟩
set_option maxRecDepth 100000 in
set_option maxHeartbeats 2000000 in
theorem num22_err (e : Int) (w : World) (hG : Gt w) : Ret Tryz.prog 15 #[.iface 56 (.int .i64 (e))] w (fun v w' => v = .int .i64 e ∧ Kp No w w') := by
  have kk0 := Kp.refl No w
  refine enter (n := 10) [.iface 56 (.int .i64 (e))] Tryz.func15 rfl rfl rfl ?_
  show Cw _ _ _ _ [(0, .iface 56 (.int .i64 (e)))] _
  refine C_seq (fun K1 hK1 => ?_)
  refine C_region ?_
  refine R_pu (pu_assign rfl) rfl ?_
  refine R_nil ?_
  refine X_then hK1 ?_
  refine C_seq (fun K2 hK2 => ?_)
  refine C_region ?_
  refine R_lo (lo_alloc (L := [.int .i64 0]) (by kernel_rfl)) rfl ?_
  rintro _ w1 ⟨p1_0, rfl, N1⟩
  have k1 := N1.kp
  have kk1 := kk0.then_ k1
  have ne_p1_0_0 : p1_0 ≠ 0 := Nat.ne_of_gt (Nat.lt_of_lt_of_le hG.lt N1.le)
  have f_p1_0_1 : Bk w1 p1_0 ([.int .i64 0]) 56 := N1.bk
  refine R_nil ?_
  refine X_then hK2 ?_
  refine C_seq (fun K3 hK3 => ?_)
  refine C_seq (fun K4 hK4 => ?_)
  refine C_region ?_
  refine R_pu (pu_move rfl) rfl ?_
  refine R_pu (pu_eqlin (by kernel_rfl) rfl rfl) rfl ?_
  refine R_nil ?_
  refine X_then hK4 ?_
  refine C_false rfl ?_
  refine C_skip ?_
  refine X_then hK3 ?_
  refine C_seq (fun K5 hK5 => ?_)
  refine C_seq (fun K6 hK6 => ?_)
  refine C_region ?_
  refine R_pu (pu_move rfl) rfl ?_
  refine R_pu (pu_makeInterface Tryz.underlying80 rfl rfl) rfl ?_
  have o7 : Gt w1 := (hG.no k1)
  refine R_lo (lo_call (by kernel_rfl) rfl (as_ret e p1_0 _ _ o7 f_p1_0_1)) rfl ?_
  rintro _ w2 ⟨rfl, B2, k2⟩
  have kk2 := kk1.trans k2 (fun i hi => .inr (hi ▸ (Nat.le_trans kk0.size N1.le)))
  refine R_nil ?_
  refine X_then hK6 ?_
  refine C_true rfl ?_
  refine C_seq (fun K8 hK8 => ?_)
  refine C_region ?_
  refine R_pu (pu_loadK B2 (by kernel_rfl) rfl rfl) rfl ?_
  refine R_pu (pu_assign rfl) rfl ?_
  refine R_nil ?_
  refine X_then hK8 ?_
  refine C_ret ?_
  refine X_then_ret ?_
  exact X_ret1 (.inl rfl) rfl rfl ⟨rfl, kk2⟩
set_option maxRecDepth 100000 in
set_option maxHeartbeats 2000000 in
theorem sure22  (w : World) (hG : Gt w) : Ret Tryz.prog 5 #[] w (fun v w' => v = .bool true ∧ Kp No w w') := by
  have kk0 := Kp.refl No w
  refine enter (n := 102) [] Tryz.func5 rfl rfl rfl ?_
  show Cw _ _ _ _ [] _
  refine C_seq (fun K1 hK1 => ?_)
  refine C_region ?_
  refine R_pu (pu_assign rfl) rfl ?_
  refine R_nil ?_
  refine X_then hK1 ?_
  refine C_seq (fun K2 hK2 => ?_)
  refine C_region ?_
  refine R_lo (lo_make (z := .int .u8 0) (bytes := 1) (ln := 32) (cp := 32) Tryz.underlying22 (by kernel_rfl) rfl rfl rfl rfl rfl (by omega) (by omega) (by omega)) rfl ?_
  rintro _ w1 ⟨k0, rfl, N1⟩
  have k1 := N1.kp
  have kk1 := kk0.then_ k1
  have ne_k0_0 : k0 ≠ 0 := Nat.ne_of_gt (Nat.lt_of_lt_of_le hG.lt N1.le)
  have f_k0_1 : Bk w1 k0 (u8s (List.replicate 32 0)) 5 := by rw [u8s_rep]; exact N1.bk
  have o3 : Gt w1 := (hG.no k1)
  refine R_lo (lo_buildSlice (L := u8s ([48, 49, 50, 51, 52, 53, 54, 55, 56, 57, 97, 98, 99, 100, 101, 102, 48, 49, 50, 51, 52, 53, 54, 55, 56, 57, 97, 98, 99, 100, 101, 102])) Tryz.underlying22 rfl (by kernel_rfl)) rfl ?_
  rintro _ w2 ⟨q0, rfl, N2⟩
  have k2 := N2.kp
  have kk2 := kk1.then_ k2
  have ne_q0_k0 : q0 ≠ k0 := Nat.ne_of_gt (Nat.lt_of_lt_of_le f_k0_1.lt N2.le)
  have ne_q0_0 : q0 ≠ 0 := Nat.ne_of_gt (Nat.lt_of_lt_of_le o3.lt N2.le)
  have f_q0_2 : Bk w2 q0 (u8s ([48, 49, 50, 51, 52, 53, 54, 55, 56, 57, 97, 98, 99, 100, 101, 102, 48, 49, 50, 51, 52, 53, 54, 55, 56, 57, 97, 98, 99, 100, 101, 102])) 5 := N2.bk
  refine R_lo (lo_mark f_q0_2 (show By 32 [48, 49, 50, 51, 52, 53, 54, 55, 56, 57, 97, 98, 99, 100, 101, 102, 48, 49, 50, 51, 52, 53, 54, 55, 56, 57, 97, 98, 99, 100, 101, 102] from by_lit _ (by decide)).2 Tryz.underlying22 Tryz.underlying5 rfl (show By 32 [48, 49, 50, 51, 52, 53, 54, 55, 56, 57, 97, 98, 99, 100, 101, 102, 48, 49, 50, 51, 52, 53, 54, 55, 56, 57, 97, 98, 99, 100, 101, 102] from by_lit _ (by decide)).1 (by decide)) rfl ?_
  rintro _ w3 ⟨rfl, Q3, k3⟩
  have kk3 := kk2.trans k3 (fun i hi => .inr (hi ▸ (Nat.le_trans kk1.size N2.le)))
  refine R_pu (pu_assign rfl) rfl ?_
  refine R_pu (pu_assign rfl) rfl ?_
  refine R_nil ?_
  refine X_then hK2 ?_
  refine C_seq (fun K4 hK4 => ?_)
  obtain ⟨rt, hrt⟩ : ∃ r, r = [48, 49, 50, 51, 52, 53, 54, 55, 56, 57, 97, 98, 99, 100, 101, 102, 48, 49, 50, 51, 52, 53, 54, 55, 56, 57, 97, 98, 99, 100, 101, 102] := ⟨_, rfl⟩
  have br : By 32 rt := by rw [hrt]; exact ⟨rfl, by decide⟩
  have od5 : Od w3 0 (.slice (some ⟨q0, 0, none⟩) (32) (32)) rt := by rw [hrt]; exact Q3
  refine C_region ?_
  refine R_pu (pu_move rfl) rfl ?_
  refine R_pu (pu_move rfl) rfl ?_
  have f6 : Bk w3 k0 (u8s (List.replicate 32 0)) 5 := ((f_k0_1.no k2).on k3 (Ne.symm ne_q0_k0))
  have o7 : Gt w3 := ((o3.no k2).on k3 (Ne.symm ne_q0_0))
  have lm8 := od5.top
  refine R_lo (lo_callE (by kernel_rfl) rfl (by rw [(rep_by 32).1, od5.le.1] <;> rfl) (env_seal (some ⟨k0, 0, none⟩) (List.replicate 32 0) 32 (some ⟨q0, 0, none⟩) rt 32 3 _ (Bs.ofBk f6 (rep_by 32)) (Nat.le_of_eq (rep_by 32).1) od5.bs od5.le.2 (by decide) ⟨List.length_replicate .., br.1⟩)) rfl ?_
  rintro _ w4 ⟨A_bx, c_bx, rfl, Q4, k4⟩
  have kk4 := kk3.then_ k4
  have z9 : w3.heap.size ≤ w4.heap.size := k4.size
  refine R_pu (pu_move rfl) rfl ?_
  refine R_pu (pu_extract rfl rfl) rfl ?_
  refine R_pu (pu_extract rfl rfl) rfl ?_
  refine R_pu (pu_assign rfl) rfl ?_
  refine R_pu (pu_assign rfl) rfl ?_
  refine R_nil ?_
  refine X_then hK4 ?_
  refine C_seq (fun K10 hK10 => ?_)
  have hbl : (boxE (List.replicate 32 0) rt 3).length = 48 := by rw [boxE_len, br.1]
  refine C_region ?_
  refine R_pu (pu_move rfl) rfl ?_
  refine R_pu (pu_move rfl) rfl ?_
  have f11 : Bk w4 k0 (u8s (List.replicate 32 0)) 5 := (f6.no k4)
  have o12 : Gt w4 := (o7.no k4)
  have ob14 := (od5.keptNo k4)
  have lm13 := ob14.top
  have lm15 := Q4.top
  refine R_lo (lo_callE (by kernel_rfl) rfl (by rw [(rep_by 32).1] <;> rfl) (env_open (some ⟨k0, 0, none⟩) (List.replicate 32 0) 32 A_bx (boxE (List.replicate 32 0) rt 3) c_bx 3 _ (Bs.ofBk f11 (rep_by 32)) (Nat.le_of_eq (rep_by 32).1) Q4.bs Q4.le.2 (by decide) (List.length_replicate ..) hbl (opE_box _ _ _))) rfl ?_
  rintro _ w5 ⟨A_cc, c_cc, rfl, Q5, k5⟩
  have kk5 := kk4.then_ k5
  have z16 : w4.heap.size ≤ w5.heap.size := k5.size
  refine R_pu (pu_move rfl) rfl ?_
  refine R_pu (pu_extract rfl rfl) rfl ?_
  refine R_pu (pu_extract rfl rfl) rfl ?_
  refine R_pu (pu_assign rfl) rfl ?_
  refine R_pu (pu_assign rfl) rfl ?_
  refine R_nil ?_
  refine X_then hK10 ?_
  refine C_seq (fun K17 hK17 => ?_)
  refine C_region ?_
  refine R_pu (pu_move rfl) rfl ?_
  have b4 : By 32 (4 :: List.replicate 31 0) := ⟨rfl, by decide⟩
  refine R_pu (pu_build (L := u8s (4 :: List.replicate 31 0)) rfl (by kernel_rfl)) rfl ?_
  have f18 : Bk w5 k0 (u8s (List.replicate 32 0)) 5 := (f11.no k5)
  have o19 : Gt w5 := (o12.no k5)
  have ob20 := (ob14.keptNo k5)
  have ob21 := (Q4.keptNo k5)
  refine R_lo (lo_call (by kernel_rfl) rfl (ring_first (4 :: List.replicate 31 0) b4 _)) rfl ?_
  rintro _ w6 ⟨rf, rfl, le6, B6, k6⟩
  have kk6 := kk5.then_ k6
  have ne_rf_k0 : rf ≠ k0 := Nat.ne_of_gt (Nat.lt_of_lt_of_le f18.lt le6)
  have ne_rf_0 : rf ≠ 0 := Nat.ne_of_gt (Nat.lt_of_lt_of_le o19.lt le6)
  have ob22 := (ob20.keptNo k6)
  have f23 : Bk w6 k0 (u8s (List.replicate 32 0)) 5 := (f18.no k6)
  have o24 : Gt w6 := (o19.no k6)
  have lm25 := ob22.top
  have ob27 := (ob21.keptNo k6)
  have lm26 := ob27.top
  have ob29 := (Q5.keptNo k6)
  have lm28 := ob29.top
  refine R_lo (lo_callE (by kernel_rfl) rfl (by rw [ob22.le.1] <;> rfl) (env_sealring (some ⟨q0, 0, none⟩) rt 32 (some ⟨rf, 0, none⟩) ([(1, (4 :: List.replicate 31 0))]) 1 _ ob22.bs ob22.le.2 (Rs.oneT B6 (t := (1, (4 :: List.replicate 31 0))) b4) (fun t h => by rw [List.mem_singleton.1 h]; exact okT_mk (by decide) b4) (Nat.le_refl _) br.1 may_one)) rfl ?_
  rintro _ w7 ⟨A_rg, c_rg, rfl, Q7, k7⟩
  have kk7 := kk6.then_ k7
  have z30 : w6.heap.size ≤ w7.heap.size := k7.size
  refine R_pu (pu_move rfl) rfl ?_
  refine R_pu (pu_extract rfl rfl) rfl ?_
  refine R_pu (pu_extract rfl rfl) rfl ?_
  refine R_pu (pu_assign rfl) rfl ?_
  refine R_pu (pu_assign rfl) rfl ?_
  refine R_nil ?_
  refine X_then hK17 ?_
  refine C_seq (fun K31 hK31 => ?_)
  have hel : (encR [(1, (4 :: List.replicate 31 0))]).length = 35 := by unfold encR; rw [List.length_append, keys_len (ok_one b4)]; rfl
  have hrl : (boxR rt (encR [(1, (4 :: List.replicate 31 0))])).length = 63 := by rw [boxR_len, hel]
  have hD5 : mayD (inR rt (boxR rt (encR [(1, (4 :: List.replicate 31 0))]))) := by rw [inR_box]; exact encR_may may_one (ok_one b4)
  refine C_region ?_
  refine R_pu (pu_move rfl) rfl ?_
  refine R_pu (pu_move rfl) rfl ?_
  have ob32 := (ob22.keptNo k7)
  have f33 : Bk w7 k0 (u8s (List.replicate 32 0)) 5 := (f23.no k7)
  have f34 : Bk w7 rf (tmC (1, (4 :: List.replicate 31 0))) 50 := (B6.no k7)
  have o35 : Gt w7 := (o24.no k7)
  have lm36 := ob32.top
  have ob38 := (ob27.keptNo k7)
  have lm37 := ob38.top
  have ob40 := (ob29.keptNo k7)
  have lm39 := ob40.top
  have lm41 := Q7.top
  refine R_lo (lo_callE (by kernel_rfl) rfl (by rw [ob32.le.1] <;> rfl) (env_openring (some ⟨q0, 0, none⟩) rt 32 A_rg (boxR rt (encR ([(1, (4 :: List.replicate 31 0))]))) c_rg _ ob32.bs ob32.le.2 Q7.bs Q7.le.2 br.1 (by omega) (by omega) (opR_box _ _) hD5)) rfl ?_
  rintro _ w8 ⟨A_or_, c_or_, rfl, Q8, k8⟩
  have kk8 := kk7.then_ k8
  have z42 : w7.heap.size ≤ w8.heap.size := k8.size
  refine R_pu (pu_move rfl) rfl ?_
  refine R_pu (pu_extract rfl rfl) rfl ?_
  refine R_pu (pu_extract rfl rfl) rfl ?_
  have f43 : Bk w8 k0 (u8s (List.replicate 32 0)) 5 := (f33.no k8)
  have f44 : Bk w8 rf (tmC (1, (4 :: List.replicate 31 0))) 50 := (f34.no k8)
  have o45 : Gt w8 := (o35.no k8)
  have ob46 := (ob32.keptNo k8)
  have ob47 := (ob38.keptNo k8)
  have ob48 := (ob40.keptNo k8)
  have ob49 := (Q7.keptNo k8)
  refine R_lo (lo_alloc (L := [.slice none (0) (0)]) (by kernel_rfl)) rfl ?_
  rintro _ w9 ⟨pr, rfl, N9⟩
  have k9 := N9.kp
  have kk9 := kk8.then_ k9
  have ne_pr_k0 : pr ≠ k0 := Nat.ne_of_gt (Nat.lt_of_lt_of_le f43.lt N9.le)
  have ne_pr_rf : pr ≠ rf := Nat.ne_of_gt (Nat.lt_of_lt_of_le f44.lt N9.le)
  have ne_pr_0 : pr ≠ 0 := Nat.ne_of_gt (Nat.lt_of_lt_of_le o45.lt N9.le)
  have f_pr_9 : Bk w9 pr ([.slice none (0) (0)]) 37 := N9.bk
  refine R_lo0 (lo_storeRow (C := [.slice A_or_ ((decR (inR rt (boxR rt (encR ([(1, (4 :: List.replicate 31 0))]))))).length) (c_or_)]) f_pr_9 (by kernel_rfl) rfl rfl (by intro u hu; simp at hu; rcases hu with rfl <;> rfl) rfl) ?_
  rintro _ w10 kf10
  obtain ⟨k10, f_pr_10⟩ := kf10
  replace f_pr_10 : Bk w10 pr ([.slice A_or_ ((decR (inR rt (boxR rt (encR ([(1, (4 :: List.replicate 31 0))]))))).length) (c_or_)]) 37 := f_pr_10
  have kk10 := kk9.trans k10 (fun i hi => .inr (hi ▸ (Nat.le_trans kk8.size N9.le)))
  refine R_pu (pu_assign rfl) rfl ?_
  refine R_nil ?_
  refine X_then hK31 ?_
  refine C_seq (fun K50 hK50 => ?_)
  have hdr : decR (inR rt (boxR rt (encR [(1, (4 :: List.replicate 31 0))]))) = [(1, (4 :: List.replicate 31 0))] := by rw [inR_box]; exact dec_enc may_one (ok_one b4)
  have ob51 := ((Q8.keptNo k9).onN k10 Q8 N9.le)
  have ro52 : Ro tmC 33 50 w10 w7.heap.size (.slice A_or_ (([(1, (4 :: List.replicate 31 0))]).length) (c_or_)) ([(1, (4 :: List.replicate 31 0))]) := by rw [← hdr]; exact ob51
  have fr53 : Bk w10 pr [.slice A_or_ (([(1, (4 :: List.replicate 31 0))]).length) (c_or_)] 37 := by rw [← hdr]; exact f_pr_10
  refine C_region ?_
  refine R_pu (pu_move rfl) rfl ?_
  refine R_pu (pu_move rfl) rfl ?_
  refine R_pu (pu_move rfl) rfl ?_
  refine R_pu (pu_len Tryz.underlying22 rfl) rfl ?_
  have hm6 : min (boxE (List.replicate 32 0) rt 3).length 47 = 47 := by rw [hbl]; rfl
  refine R_pu ((show Pu _ _ _ _ (.int .i64 ((47 : Nat) : Int)) by rw [← hm6]; exact pu_min rfl rfl)) rfl ?_
  have ob54 := ((ob47.keptNo k9).onN k10 ob47 N9.le)
  refine R_pu (pu_sliceHi (hi := 47) (s := 1) Tryz.underlying22 (by kernel_rfl) rfl rfl rfl (by have := ob54.le.2; omega)) rfl ?_
  have f55 : Bk w10 k0 (u8s (List.replicate 32 0)) 5 := ((f43.no k9).on k10 (Ne.symm ne_pr_k0))
  refine R_lo (lo_callE (by kernel_rfl) rfl (by rw [(rep_by 32).1, (show ((boxE (List.replicate 32 0) rt 3).take 47).length = 47 by rw [List.length_take]; omega)] <;> rfl) (env_open_len (some ⟨k0, 0, none⟩) (List.replicate 32 0) 32 A_bx ((boxE (List.replicate 32 0) rt 3).take 47) c_bx 3 _ (Bs.ofBk f55 (rep_by 32)) (Nat.le_of_eq (rep_by 32).1) (ob54.bs.take 47) (by rw [List.length_take]; have := ob54.le.2; omega) (by decide) (List.length_replicate ..) (by rw [List.length_take]; omega))) rfl ?_
  rintro _ w11 ⟨rfl, k11⟩
  have kk11 := kk10.then_ k11
  refine R_pu (pu_move rfl) rfl ?_
  refine R_pu (pu_extract rfl rfl) rfl ?_
  refine R_pu (pu_extract rfl rfl) rfl ?_
  refine R_pu (pu_assign rfl) rfl ?_
  refine R_pu (pu_assign rfl) rfl ?_
  refine R_nil ?_
  refine X_then hK50 ?_
  refine C_seq (fun K56 hK56 => ?_)
  refine C_region ?_
  refine R_pu (pu_move rfl) rfl ?_
  refine R_pu (pu_eqlnn (by kernel_rfl) rfl) rfl ?_
  refine R_pu (pu_move rfl) rfl ?_
  refine R_gpu rfl rfl (pu_move rfl) rfl ?_
  refine R_gpu rfl rfl (pu_eqlnn (by kernel_rfl) rfl) rfl ?_
  refine R_pu (pu_pickt rfl rfl) rfl ?_
  refine R_pu (pu_move rfl) rfl ?_
  refine R_gpu rfl rfl (pu_move rfl) rfl ?_
  refine R_gpu rfl rfl (pu_eqlnn (by kernel_rfl) rfl) rfl ?_
  refine R_pu (pu_pickt rfl rfl) rfl ?_
  refine R_pu (pu_move rfl) rfl ?_
  refine R_gpu rfl rfl (pu_move rfl) rfl ?_
  refine R_gpu rfl rfl (pu_eqlnn (by kernel_rfl) rfl) rfl ?_
  refine R_pu (pu_pickt rfl rfl) rfl ?_
  refine R_pu (pu_move rfl) rfl ?_
  refine R_gpu rfl rfl (pu_move rfl) rfl ?_
  refine R_gpu rfl rfl (pu_len Tryz.underlying22 rfl) rfl ?_
  refine R_gpu rfl rfl (pu_true (pu_eql (p := ((boxE (List.replicate 32 0) rt 3).length) = 48) rfl rfl (by omega)) hbl) rfl ?_
  refine R_pu (pu_pickt rfl rfl) rfl ?_
  refine R_pu (pu_move rfl) rfl ?_
  refine R_gpu rfl rfl (pu_move rfl) rfl ?_
  have ob57 := (((ob48.keptNo k9).onN k10 ob48 N9.le).keptNo k11)
  refine R_gpu rfl rfl (pu_bstr ob57.bs Tryz.underlying22 Tryz.underlying5 Tryz.underlying9 rfl rfl) rfl ?_
  refine R_gpu rfl rfl (pu_move rfl) rfl ?_
  have ob58 := (((ob46.keptNo k9).onN k10 ob46 N9.le).keptNo k11)
  refine R_gpu rfl rfl (pu_bstr ob58.bs Tryz.underlying22 Tryz.underlying5 Tryz.underlying9 rfl ob58.le.1) rfl ?_
  refine R_gpu rfl rfl (pu_true (pu_eqls (p := (inE (List.replicate 32 0) (boxE (List.replicate 32 0) rt 3) 3) = rt) rfl rfl (bstr_inj (ob57.bs).byte (ob58.bs).byte)) (inE_box _ _ _)) rfl ?_
  refine R_pu (pu_pickt rfl rfl) rfl ?_
  refine R_pu (pu_move rfl) rfl ?_
  refine R_gpu rfl rfl (pu_move rfl) rfl ?_
  refine R_gpu rfl rfl (pu_len Tryz.underlying22 rfl) rfl ?_
  refine R_gpu rfl rfl (pu_true (pu_eql (p := ((boxR rt (encR ([(1, (4 :: List.replicate 31 0))]))).length) = 63) rfl rfl (by omega)) hrl) rfl ?_
  refine R_pu (pu_pickt rfl rfl) rfl ?_
  refine R_pu (pu_move rfl) rfl ?_
  refine R_gpu rfl rfl (pu_fieldAddr (off := 0) (o' := 0) (by kernel_rfl) rfl rfl) rfl ?_
  have f59 : Bk w11 pr ([.slice A_or_ (([(1, (4 :: List.replicate 31 0))]).length) (c_or_)]) 37 := (fr53.no k11)
  refine R_gpu rfl rfl (pu_loadK f59 (by kernel_rfl) rfl rfl) rfl ?_
  refine R_gpu rfl rfl (pu_len Tryz.underlying35 rfl) rfl ?_
  refine R_gpu rfl rfl (pu_true (pu_eql (p := (([(1, (4 :: List.replicate 31 0))]).length) = 1) rfl rfl (by omega)) rfl) rfl ?_
  refine R_pu (pu_pickt rfl rfl) rfl ?_
  refine R_pu (pu_move rfl) rfl ?_
  refine R_gpu rfl rfl (pu_fieldAddr (off := 0) (o' := 0) (by kernel_rfl) rfl rfl) rfl ?_
  refine R_gpu rfl rfl (pu_loadK f59 (by kernel_rfl) rfl rfl) rfl ?_
  obtain ⟨t1, e_t1⟩ : ∃ q_, ([(1, (4 :: List.replicate 31 0))])[0]? = some q_ := ⟨_, List.getElem?_eq_getElem (by exact Nat.succ_pos _)⟩
  have ok_t1 : okT t1 := (ok_one b4) t1 (List.mem_of_getElem? e_t1)
  have ob60 := (ro52.keptNo k11)
  refine R_gpu rfl rfl (pu_indexAddrR (m := 0) ob60.rs Tryz.underlying35 (by kernel_rfl) rfl rfl rfl rfl e_t1) rfl ?_
  refine R_gpu rfl rfl (pu_fieldAddrR (off := 1) ob60.rs e_t1 (by kernel_rfl) rfl) rfl ?_
  refine R_gpu rfl rfl (pu_indexSub (o := 1) (i := 0) ob60.rs e_t1 Tryz.underlying47 (by kernel_rfl) rfl rfl rfl (by omega)) rfl ?_
  obtain ⟨n1, e_n1⟩ : ∃ q_, t1.2[0]? = some q_ := ⟨_, List.getElem?_eq_getElem (by rw [ok_t1.2.1]; omega)⟩
  have b_n1 : n1 < 256 := ok_t1.2.2 _ (List.mem_of_getElem? e_n1)
  refine R_gpu rfl rfl (pu_loadR (j := 1 + 0) ob60.rs e_t1 (by kernel_rfl) rfl (by rw [Nat.add_comm]; simpa [tmC] using u8s_get e_n1)) rfl ?_
  refine R_gpu rfl rfl (pu_true (pu_eql (p := n1 = 4) rfl rfl (by omega)) (by cases e_t1; cases e_n1; rfl)) rfl ?_
  refine R_pu (pu_pickt rfl rfl) rfl ?_
  refine R_pu (pu_move rfl) rfl ?_
  refine R_gpu rfl rfl (pu_move rfl) rfl ?_
  have o61 : Gt w11 := (((o45.no k9).on k10 (Ne.symm ne_pr_0)).no k11)
  refine R_glo rfl rfl (lo_call (by kernel_rfl) rfl (num22_err 13 _ o61)) rfl ?_
  rintro _ w12 ⟨rfl, k12⟩
  have kk12 := kk11.then_ k12
  refine R_gpu rfl rfl (pu_true (pu_eql (p := (13 : Nat) = 13) rfl rfl (by omega)) (by decide)) rfl ?_
  refine R_pu (pu_pickt rfl rfl) rfl ?_
  refine R_pu (pu_assign rfl) rfl ?_
  refine R_nil ?_
  refine X_then hK56 ?_
  refine C_ret ?_
  exact X_ret1 (.inl rfl) rfl rfl ⟨rfl, kk12⟩
set_option maxRecDepth 100000 in
set_option maxHeartbeats 2000000 in
theorem envelopeBack_ (X : List Nat) (bX : By 32 X) (Y : List Nat) (bY : By 32 Y) (z : Int) (hz : (Lit.int .i64 z).wf = true) (w : World) (hG : Gt w) : Ret Tryz.prog 4 #[.agg (u8s X : List Value).toArray, .agg (u8s Y : List Value).toArray, .int .i64 (z)] w (fun v w' => v = .bool true ∧ Kp No w w') := by
  have kk0 := Kp.refl No w
  refine enter (n := 156) [.agg (u8s X : List Value).toArray, .agg (u8s Y : List Value).toArray, .int .i64 (z)] Tryz.func4 rfl rfl rfl ?_
  show Cw _ _ _ _ [(0, .agg (u8s X : List Value).toArray), (1, .agg (u8s Y : List Value).toArray), (2, .int .i64 (z))] _
  refine C_seq (fun K1 hK1 => ?_)
  refine C_region ?_
  refine R_lo (lo_box (L := u8s X) rfl rfl) rfl ?_
  rintro _ w1 ⟨pa, rfl, N1⟩
  have k1 := N1.kp
  have kk1 := kk0.then_ k1
  have ne_pa_0 : pa ≠ 0 := Nat.ne_of_gt (Nat.lt_of_lt_of_le hG.lt N1.le)
  have f_pa_1 : Bk w1 pa (u8s X) 47 := N1.bk
  have o2 : Gt w1 := (hG.no k1)
  refine R_lo (lo_box (L := u8s Y) rfl rfl) rfl ?_
  rintro _ w2 ⟨pb, rfl, N2⟩
  have k2 := N2.kp
  have kk2 := kk1.then_ k2
  have ne_pb_pa : pb ≠ pa := Nat.ne_of_gt (Nat.lt_of_lt_of_le f_pa_1.lt N2.le)
  have ne_pb_0 : pb ≠ 0 := Nat.ne_of_gt (Nat.lt_of_lt_of_le o2.lt N2.le)
  have f_pb_2 : Bk w2 pb (u8s Y) 47 := N2.bk
  refine R_pu (pu_assign rfl) rfl ?_
  refine R_nil ?_
  refine X_then hK1 ?_
  refine C_seq (fun K3 hK3 => ?_)
  refine C_region ?_
  refine R_pu (pu_move rfl) rfl ?_
  obtain ⟨u, hu, hul⟩ : ∃ u : Nat, (u : Int) = z % 4294967296 ∧ u < 4294967296 := ⟨(z % 4294967296).toNat, by omega, by omega⟩
  refine R_pu (pu_conv (z := ((u : Nat) : Int)) Tryz.underlying3 Tryz.underlying23 rfl (by rw [IntKind.wrap_u32]; omega)) rfl ?_
  refine R_pu (pu_assign rfl) rfl ?_
  refine R_nil ?_
  refine X_then hK3 ?_
  refine C_seq (fun K4 hK4 => ?_)
  have f5 : Bk w2 pa (u8s X) 47 := (f_pa_1.no k2)
  have o6 : Gt w2 := (o2.no k2)
  refine D_begin (fun W => Kp No w W ∧ Bk W pa (u8s X) 47 ∧ Bk W pb (u8s Y) 47 ∧ Gt W) 9 rfl (by kernel_rfl) ⟨kk2.drew, f5.draw, f_pb_2.draw, o6.draw⟩ ?_
  intro w3 k3 _
  have kk3 := kk2.then_ k3
  refine D_take 0 rfl (by kernel_rfl) (by kernel_rfl) (by kernel_rfl) (fun _ _ _ h => h) rfl (fun W hS => pu_sliceArr Tryz.underlying47 (by kernel_rfl) rfl) ?_
  refine D_take 1 rfl (by kernel_rfl) (by kernel_rfl) (by kernel_rfl) (fun _ _ _ h => h) rfl (fun W hS => pu_sliceArr Tryz.underlying47 (by kernel_rfl) rfl) ?_
  refine D_take 2 rfl (by kernel_rfl) (by kernel_rfl) (by kernel_rfl) (fun _ _ _ h => h) rfl (fun W hS => pu_move rfl) ?_
  have f7 : Bk w3 pa (u8s X) 47 := (f5.no k3)
  have f8 : Bk w3 pb (u8s Y) 47 := (f_pb_2.no k3)
  have o9 : Gt w3 := (o6.no k3)
  refine D_one 3 (by kernel_rfl) (Nx_lo rfl (lo_callE (by kernel_rfl) rfl (by rw [bX.1, bY.1] <;> rfl) (env_seal (some ⟨pa, 0, none⟩) X 32 (some ⟨pb, 0, none⟩) Y 32 u _ (Bs.ofBk f7 bX) (Nat.le_of_eq bX.1) (Bs.ofBk f8 bY) (Nat.le_of_eq bY.1) hul ⟨bX.1, bY.1⟩)) rfl ?_)
  rintro _ w4 ⟨A_bx, c_bx, rfl, Q4, k4⟩
  have kk4 := kk3.then_ k4
  have z10 : w3.heap.size ≤ w4.heap.size := k4.size
  have f11 : Bk w4 pa (u8s X) 47 := (f7.no k4)
  have f12 : Bk w4 pb (u8s Y) 47 := (f8.no k4)
  have o13 : Gt w4 := (o9.no k4)
  refine ⟨⟨kk4, f11, f12, o13⟩, ?_⟩
  refine D_take 4 rfl (by kernel_rfl) (by kernel_rfl) (by kernel_rfl) (fun _ _ _ h => h) rfl (fun W hS => pu_move rfl) ?_
  refine D_take 5 rfl (by kernel_rfl) (by kernel_rfl) (by kernel_rfl) (fun _ _ _ h => h) rfl (fun W hS => pu_extract rfl rfl) ?_
  refine D_take 6 rfl (by kernel_rfl) (by kernel_rfl) (by kernel_rfl) (fun _ _ _ h => h) rfl (fun W hS => pu_extract rfl rfl) ?_
  refine D_take 7 rfl (by kernel_rfl) (by kernel_rfl) (by kernel_rfl) (fun _ _ _ h => h) rfl (fun W hS => pu_assign rfl) ?_
  refine D_take 8 rfl (by kernel_rfl) (by kernel_rfl) (by kernel_rfl) (fun _ _ _ h => h) rfl (fun W hS => pu_assign rfl) ?_
  refine D_done (by kernel_rfl) ?_
  refine X_then hK4 ?_
  refine C_seq (fun K14 hK14 => ?_)
  have hbl : (boxE X Y u).length = 48 := by rw [boxE_len, bY.1]
  refine C_region ?_
  refine R_pu (pu_sliceArr Tryz.underlying47 (by kernel_rfl) rfl) rfl ?_
  refine R_pu (pu_move rfl) rfl ?_
  refine R_pu (pu_move rfl) rfl ?_
  have lm15 := Q4.top
  refine R_lo (lo_callE (by kernel_rfl) rfl (by rw [bX.1] <;> rfl) (env_open (some ⟨pa, 0, none⟩) X 32 A_bx (boxE X Y u) c_bx u _ (Bs.ofBk f11 bX) (Nat.le_of_eq bX.1) Q4.bs Q4.le.2 hul bX.1 hbl (opE_box _ _ _))) rfl ?_
  rintro _ w5 ⟨A_cc, c_cc, rfl, Q5, k5⟩
  have kk5 := kk4.then_ k5
  have z16 : w4.heap.size ≤ w5.heap.size := k5.size
  refine R_pu (pu_move rfl) rfl ?_
  refine R_pu (pu_extract rfl rfl) rfl ?_
  refine R_pu (pu_extract rfl rfl) rfl ?_
  refine R_pu (pu_assign rfl) rfl ?_
  refine R_pu (pu_assign rfl) rfl ?_
  refine R_nil ?_
  refine X_then hK14 ?_
  refine C_seq (fun K17 hK17 => ?_)
  have f18 : Bk w5 pa (u8s X) 47 := (f11.no k5)
  have f19 : Bk w5 pb (u8s Y) 47 := (f12.no k5)
  have o20 : Gt w5 := (o13.no k5)
  refine D_begin (fun W => Kp No w W ∧ Bk W pa (u8s X) 47 ∧ Bk W pb (u8s Y) 47 ∧ Gt W) 9 rfl (by kernel_rfl) ⟨kk5.drew, f18.draw, f19.draw, o20.draw⟩ ?_
  intro w6 k6 _
  have kk6 := kk5.then_ k6
  refine D_take 0 rfl (by kernel_rfl) (by kernel_rfl) (by kernel_rfl) (fun _ _ _ h => h) rfl (fun W hS => pu_sliceArr Tryz.underlying47 (by kernel_rfl) rfl) ?_
  refine D_take 1 rfl (by kernel_rfl) (by kernel_rfl) (by kernel_rfl) (fun _ _ _ h => h) rfl (fun W hS => pu_loadRow (len := 32) hS.2.1 (by kernel_rfl) (by kernel_rfl) (by rw [u8s_length]; exact bX.1) rfl) ?_
  have f21 : Bk w6 pa (u8s X) 47 := (f18.no k6)
  have f22 : Bk w6 pb (u8s Y) 47 := (f19.no k6)
  have o23 : Gt w6 := (o20.no k6)
  have ob24 := ((Q4.keptNo k5).keptNo k6)
  have ob25 := (Q5.keptNo k6)
  refine D_one 2 (by kernel_rfl) (Nx_lo rfl (lo_call (by kernel_rfl) rfl (ring_first X bX _)) rfl ?_)
  rintro _ w7 ⟨rf, rfl, le7, B7, k7⟩
  have kk7 := kk6.then_ k7
  have ne_rf_pa : rf ≠ pa := Nat.ne_of_gt (Nat.lt_of_lt_of_le f21.lt le7)
  have ne_rf_pb : rf ≠ pb := Nat.ne_of_gt (Nat.lt_of_lt_of_le f22.lt le7)
  have ne_rf_0 : rf ≠ 0 := Nat.ne_of_gt (Nat.lt_of_lt_of_le o23.lt le7)
  have f26 : Bk w7 pa (u8s X) 47 := (f21.no k7)
  have f27 : Bk w7 pb (u8s Y) 47 := (f22.no k7)
  have o28 : Gt w7 := (o23.no k7)
  refine ⟨⟨kk7, f26, f27, o28⟩, ?_⟩
  have ob30 := (ob24.keptNo k7)
  have lm29 := ob30.top
  have ob32 := (ob25.keptNo k7)
  have lm31 := ob32.top
  refine D_one 3 (by kernel_rfl) (Nx_lo rfl (lo_callE (by kernel_rfl) rfl (by rw [bY.1] <;> rfl) (env_sealring (some ⟨pb, 0, none⟩) Y 32 (some ⟨rf, 0, none⟩) ([(1, X)]) 1 _ (Bs.ofBk f27 bY) (Nat.le_of_eq bY.1) (Rs.oneT B7 (t := (1, X)) bX) (fun t h => by rw [List.mem_singleton.1 h]; exact okT_mk (by decide) bX) (Nat.le_refl _) bY.1 may_one)) rfl ?_)
  rintro _ w8 ⟨A_rg, c_rg, rfl, Q8, k8⟩
  have kk8 := kk7.then_ k8
  have z33 : w7.heap.size ≤ w8.heap.size := k8.size
  have f34 : Bk w8 pa (u8s X) 47 := (f26.no k8)
  have f35 : Bk w8 pb (u8s Y) 47 := (f27.no k8)
  have o36 : Gt w8 := (o28.no k8)
  refine ⟨⟨kk8, f34, f35, o36⟩, ?_⟩
  refine D_take 4 rfl (by kernel_rfl) (by kernel_rfl) (by kernel_rfl) (fun _ _ _ h => h) rfl (fun W hS => pu_move rfl) ?_
  refine D_take 5 rfl (by kernel_rfl) (by kernel_rfl) (by kernel_rfl) (fun _ _ _ h => h) rfl (fun W hS => pu_extract rfl rfl) ?_
  refine D_take 6 rfl (by kernel_rfl) (by kernel_rfl) (by kernel_rfl) (fun _ _ _ h => h) rfl (fun W hS => pu_extract rfl rfl) ?_
  refine D_take 7 rfl (by kernel_rfl) (by kernel_rfl) (by kernel_rfl) (fun _ _ _ h => h) rfl (fun W hS => pu_assign rfl) ?_
  refine D_take 8 rfl (by kernel_rfl) (by kernel_rfl) (by kernel_rfl) (fun _ _ _ h => h) rfl (fun W hS => pu_assign rfl) ?_
  refine D_done (by kernel_rfl) ?_
  refine X_then hK17 ?_
  refine C_seq (fun K37 hK37 => ?_)
  have hel : (encR [(1, X)]).length = 35 := by unfold encR; rw [List.length_append, keys_len (ok_one bX)]; rfl
  have hrl : (boxR Y (encR [(1, X)])).length = 63 := by rw [boxR_len, hel]
  have hD5 : mayD (inR Y (boxR Y (encR [(1, X)]))) := by rw [inR_box]; exact encR_may may_one (ok_one bX)
  refine C_region ?_
  refine R_pu (pu_sliceArr Tryz.underlying47 (by kernel_rfl) rfl) rfl ?_
  refine R_pu (pu_move rfl) rfl ?_
  have f38 : Bk w8 rf (tmC (1, X)) 50 := (B7.no k8)
  have ob40 := (ob30.keptNo k8)
  have lm39 := ob40.top
  have ob42 := (ob32.keptNo k8)
  have lm41 := ob42.top
  have lm43 := Q8.top
  refine R_lo (lo_callE (by kernel_rfl) rfl (by rw [bY.1] <;> rfl) (env_openring (some ⟨pb, 0, none⟩) Y 32 A_rg (boxR Y (encR ([(1, X)]))) c_rg _ (Bs.ofBk f35 bY) (Nat.le_of_eq bY.1) Q8.bs Q8.le.2 bY.1 (by omega) (by omega) (opR_box _ _) hD5)) rfl ?_
  rintro _ w9 ⟨A_or_, c_or_, rfl, Q9, k9⟩
  have kk9 := kk8.then_ k9
  have z44 : w8.heap.size ≤ w9.heap.size := k9.size
  refine R_pu (pu_move rfl) rfl ?_
  refine R_pu (pu_extract rfl rfl) rfl ?_
  refine R_pu (pu_extract rfl rfl) rfl ?_
  have f45 : Bk w9 pa (u8s X) 47 := (f34.no k9)
  have f46 : Bk w9 pb (u8s Y) 47 := (f35.no k9)
  have f47 : Bk w9 rf (tmC (1, X)) 50 := (f38.no k9)
  have o48 : Gt w9 := (o36.no k9)
  have ob49 := (ob40.keptNo k9)
  have ob50 := (ob42.keptNo k9)
  have ob51 := (Q8.keptNo k9)
  refine R_lo (lo_alloc (L := [.slice none (0) (0)]) (by kernel_rfl)) rfl ?_
  rintro _ w10 ⟨pr, rfl, N10⟩
  have k10 := N10.kp
  have kk10 := kk9.then_ k10
  have ne_pr_pa : pr ≠ pa := Nat.ne_of_gt (Nat.lt_of_lt_of_le f45.lt N10.le)
  have ne_pr_pb : pr ≠ pb := Nat.ne_of_gt (Nat.lt_of_lt_of_le f46.lt N10.le)
  have ne_pr_rf : pr ≠ rf := Nat.ne_of_gt (Nat.lt_of_lt_of_le f47.lt N10.le)
  have ne_pr_0 : pr ≠ 0 := Nat.ne_of_gt (Nat.lt_of_lt_of_le o48.lt N10.le)
  have f_pr_10 : Bk w10 pr ([.slice none (0) (0)]) 37 := N10.bk
  refine R_lo0 (lo_storeRow (C := [.slice A_or_ ((decR (inR Y (boxR Y (encR ([(1, X)]))))).length) (c_or_)]) f_pr_10 (by kernel_rfl) rfl rfl (by intro u hu; simp at hu; rcases hu with rfl <;> rfl) rfl) ?_
  rintro _ w11 kf11
  obtain ⟨k11, f_pr_11⟩ := kf11
  replace f_pr_11 : Bk w11 pr ([.slice A_or_ ((decR (inR Y (boxR Y (encR ([(1, X)]))))).length) (c_or_)]) 37 := f_pr_11
  have kk11 := kk10.trans k11 (fun i hi => .inr (hi ▸ (Nat.le_trans kk9.size N10.le)))
  refine R_pu (pu_assign rfl) rfl ?_
  refine R_nil ?_
  refine X_then hK37 ?_
  refine C_seq (fun K52 hK52 => ?_)
  refine C_seq (fun K53 hK53 => ?_)
  have hdr : decR (inR Y (boxR Y (encR [(1, X)]))) = [(1, X)] := by rw [inR_box]; exact dec_enc may_one (ok_one bX)
  have ob54 := ((Q9.keptNo k10).onN k11 Q9 N10.le)
  have ro55 : Ro tmC 33 50 w11 w8.heap.size (.slice A_or_ (([(1, X)]).length) (c_or_)) ([(1, X)]) := by rw [← hdr]; exact ob54
  have fr56 : Bk w11 pr [.slice A_or_ (([(1, X)]).length) (c_or_)] 37 := by rw [← hdr]; exact f_pr_11
  have f57 : Bk w11 pa (u8s X) 47 := ((f45.no k10).on k11 (Ne.symm ne_pr_pa))
  have f58 : Bk w11 pb (u8s Y) 47 := ((f46.no k10).on k11 (Ne.symm ne_pr_pb))
  have f59 : Bk w11 rf (tmC (1, X)) 50 := ((f47.no k10).on k11 (Ne.symm ne_pr_rf))
  have o60 : Gt w11 := ((o48.no k10).on k11 (Ne.symm ne_pr_0))
  have ob61 := ((ob49.keptNo k10).onN k11 ob49 N10.le)
  have ob62 := ((ob50.keptNo k10).onN k11 ob50 N10.le)
  have ob63 := ((ob51.keptNo k10).onN k11 ob51 N10.le)
  refine D_begin (fun W => Kp No w W ∧ Bk W pa (u8s X) 47 ∧ Bk W pb (u8s Y) 47 ∧ Bk W rf (tmC (1, X)) 50 ∧ Bk W pr ([.slice A_or_ (([(1, X)]).length) (c_or_)]) 37 ∧ Gt W ∧ Ob W w3.heap.size (.slice A_bx ((boxE X Y u).length) (c_bx)) (boxE X Y u) ∧ Ob W w4.heap.size (.slice A_cc ((inE X (boxE X Y u) u).length) (c_cc)) (inE X (boxE X Y u) u) ∧ Ob W w7.heap.size (.slice A_rg ((boxR Y (encR ([(1, X)]))).length) (c_rg)) (boxR Y (encR ([(1, X)])))) 46 rfl (by kernel_rfl) ⟨kk11.drew, f57.draw, f58.draw, f59.draw, fr56.draw, o60.draw, ob61.draw, ob62.draw, ob63.draw⟩ ?_
  intro w12 k12 _
  have kk12 := kk11.then_ k12
  refine D_take 0 rfl (by kernel_rfl) (by kernel_rfl) (by kernel_rfl) (fun _ _ _ h => h) rfl (fun W hS => pu_move rfl) ?_
  refine D_take 1 rfl (by kernel_rfl) (by kernel_rfl) (by kernel_rfl) (fun _ _ _ h => h) rfl (fun W hS => pu_neqnn (by kernel_rfl) rfl) ?_
  refine D_take 2 rfl (by kernel_rfl) (by kernel_rfl) (by kernel_rfl) (fun _ _ _ h => h) rfl (fun W hS => pu_move rfl) ?_
  refine D_gtake 3 rfl rfl rfl (by kernel_rfl) (by kernel_rfl) (by kernel_rfl) (fun _ _ _ h => h) rfl (fun W hS => pu_move rfl) ?_
  refine D_gtake 4 rfl rfl rfl (by kernel_rfl) (by kernel_rfl) (by kernel_rfl) (fun _ _ _ h => h) rfl (fun W hS => pu_neqnn (by kernel_rfl) rfl) ?_
  refine D_take 5 rfl (by kernel_rfl) (by kernel_rfl) (by kernel_rfl) (fun _ _ _ h => h) rfl (fun W hS => pu_pickf rfl rfl) ?_
  refine D_take 6 rfl (by kernel_rfl) (by kernel_rfl) (by kernel_rfl) (fun _ _ _ h => h) rfl (fun W hS => pu_move rfl) ?_
  refine D_gtake 7 rfl rfl rfl (by kernel_rfl) (by kernel_rfl) (by kernel_rfl) (fun _ _ _ h => h) rfl (fun W hS => pu_move rfl) ?_
  refine D_gtake 8 rfl rfl rfl (by kernel_rfl) (by kernel_rfl) (by kernel_rfl) (fun _ _ _ h => h) rfl (fun W hS => pu_neqnn (by kernel_rfl) rfl) ?_
  refine D_take 9 rfl (by kernel_rfl) (by kernel_rfl) (by kernel_rfl) (fun _ _ _ h => h) rfl (fun W hS => pu_pickf rfl rfl) ?_
  refine D_take 10 rfl (by kernel_rfl) (by kernel_rfl) (by kernel_rfl) (fun _ _ _ h => h) rfl (fun W hS => pu_move rfl) ?_
  refine D_gtake 11 rfl rfl rfl (by kernel_rfl) (by kernel_rfl) (by kernel_rfl) (fun _ _ _ h => h) rfl (fun W hS => pu_move rfl) ?_
  refine D_gtake 12 rfl rfl rfl (by kernel_rfl) (by kernel_rfl) (by kernel_rfl) (fun _ _ _ h => h) rfl (fun W hS => pu_neqnn (by kernel_rfl) rfl) ?_
  refine D_take 13 rfl (by kernel_rfl) (by kernel_rfl) (by kernel_rfl) (fun _ _ _ h => h) rfl (fun W hS => pu_pickf rfl rfl) ?_
  refine D_take 14 rfl (by kernel_rfl) (by kernel_rfl) (by kernel_rfl) (fun _ _ _ h => h) rfl (fun W hS => pu_move rfl) ?_
  refine D_gtake 15 rfl rfl rfl (by kernel_rfl) (by kernel_rfl) (by kernel_rfl) (fun _ _ _ h => h) rfl (fun W hS => pu_move rfl) ?_
  refine D_gtake 16 rfl rfl rfl (by kernel_rfl) (by kernel_rfl) (by kernel_rfl) (fun _ _ _ h => h) rfl (fun W hS => pu_bstr hS.2.2.2.2.2.2.2.1.bs Tryz.underlying22 Tryz.underlying5 Tryz.underlying9 rfl rfl) ?_
  refine D_gtake 17 rfl rfl rfl (by kernel_rfl) (by kernel_rfl) (by kernel_rfl) (fun _ _ _ h => h) rfl (fun W hS => pu_sliceArr Tryz.underlying47 (by kernel_rfl) rfl) ?_
  refine D_gtake 18 rfl rfl rfl (by kernel_rfl) (by kernel_rfl) (by kernel_rfl) (fun _ _ _ h => h) rfl (fun W hS => pu_bstr (Bs.ofBk hS.2.2.1 bY) Tryz.underlying22 Tryz.underlying5 Tryz.underlying9 rfl bY.1) ?_
  refine D_gtake 19 rfl rfl rfl (by kernel_rfl) (by kernel_rfl) (by kernel_rfl) (fun _ _ _ h => h) rfl (fun W hS => pu_false (pu_neqs (p := (inE X (boxE X Y u) u) = Y) rfl rfl (bstr_inj (hS.2.2.2.2.2.2.2.1.bs).byte ((Bs.ofBk hS.2.2.1 bY)).byte)) (fun h => h (inE_box _ _ _))) ?_
  refine D_take 20 rfl (by kernel_rfl) (by kernel_rfl) (by kernel_rfl) (fun _ _ _ h => h) rfl (fun W hS => pu_pickf rfl rfl) ?_
  refine D_take 21 rfl (by kernel_rfl) (by kernel_rfl) (by kernel_rfl) (fun _ _ _ h => h) rfl (fun W hS => pu_move rfl) ?_
  refine D_gtake 22 rfl rfl rfl (by kernel_rfl) (by kernel_rfl) (by kernel_rfl) (fun _ _ _ h => h) rfl (fun W hS => pu_fieldAddr (off := 0) (o' := 0) (by kernel_rfl) rfl rfl) ?_
  refine D_gtake 23 rfl rfl rfl (by kernel_rfl) (by kernel_rfl) (by kernel_rfl) (fun _ _ _ h => h) rfl (fun W hS => pu_loadK hS.2.2.2.2.1 (by kernel_rfl) rfl rfl) ?_
  refine D_gtake 24 rfl rfl rfl (by kernel_rfl) (by kernel_rfl) (by kernel_rfl) (fun _ _ _ h => h) rfl (fun W hS => pu_len Tryz.underlying35 rfl) ?_
  refine D_gtake 25 rfl rfl rfl (by kernel_rfl) (by kernel_rfl) (by kernel_rfl) (fun _ _ _ h => h) rfl (fun W hS => pu_false (pu_neq (p := (([(1, X)]).length) = 1) rfl rfl (by omega)) (fun h => h rfl)) ?_
  refine D_take 26 rfl (by kernel_rfl) (by kernel_rfl) (by kernel_rfl) (fun _ _ _ h => h) rfl (fun W hS => pu_pickf rfl rfl) ?_
  refine D_take 27 rfl (by kernel_rfl) (by kernel_rfl) (by kernel_rfl) (fun _ _ _ h => h) rfl (fun W hS => pu_move rfl) ?_
  refine D_gtake 28 rfl rfl rfl (by kernel_rfl) (by kernel_rfl) (by kernel_rfl) (fun _ _ _ h => h) rfl (fun W hS => pu_fieldAddr (off := 0) (o' := 0) (by kernel_rfl) rfl rfl) ?_
  refine D_gtake 29 rfl rfl rfl (by kernel_rfl) (by kernel_rfl) (by kernel_rfl) (fun _ _ _ h => h) rfl (fun W hS => pu_loadK hS.2.2.2.2.1 (by kernel_rfl) rfl rfl) ?_
  refine D_gtake 33 rfl rfl rfl (by kernel_rfl) (by kernel_rfl) (by kernel_rfl) (fun _ _ _ h => h) rfl (fun W hS => pu_loadRow (len := 32) hS.2.1 (by kernel_rfl) (by kernel_rfl) (by rw [u8s_length]; exact bX.1) rfl) ?_
  obtain ⟨t1, e_t1⟩ : ∃ q_, ([(1, X)])[0]? = some q_ := ⟨_, List.getElem?_eq_getElem (by exact Nat.succ_pos _)⟩
  have ok_t1 : okT t1 := (ok_one bX) t1 (List.mem_of_getElem? e_t1)
  have ob64 := (ro55.keptNo k12)
  have f65 : Bk w12 pa (u8s X) 47 := (f57.no k12)
  have f66 : Bk w12 pb (u8s Y) 47 := (f58.no k12)
  have f67 : Bk w12 rf (tmC (1, X)) 50 := (f59.no k12)
  have f68 : Bk w12 pr ([.slice A_or_ (([(1, X)]).length) (c_or_)]) 37 := (fr56.no k12)
  have o69 : Gt w12 := (o60.no k12)
  have ob70 := (ob61.keptNo k12)
  have ob71 := (ob62.keptNo k12)
  have ob72 := (ob63.keptNo k12)
  refine D_one 30 (by kernel_rfl) (Nx_gpu rfl rfl rfl (pu_indexAddrR (m := 0) ob64.rs Tryz.underlying35 (by kernel_rfl) rfl rfl rfl rfl e_t1) rfl ⟨⟨kk12, f65, f66, f67, f68, o69, ob70, ob71, ob72⟩, ?_⟩)
  refine D_one 31 (by kernel_rfl) (Nx_gpu rfl rfl rfl (pu_fieldAddrR (off := 1) ob64.rs e_t1 (by kernel_rfl) rfl) rfl ⟨⟨kk12, f65, f66, f67, f68, o69, ob70, ob71, ob72⟩, ?_⟩)
  refine D_one 32 (by kernel_rfl) (Nx_gpu rfl rfl rfl (pu_loadSub (o := 1) (len := 32) ob64.rs e_t1 (by kernel_rfl) (by kernel_rfl) rfl (tm_mid ok_t1.2) (by rw [u8s_length]; exact ok_t1.2.1)) rfl ⟨⟨kk12, f65, f66, f67, f68, o69, ob70, ob71, ob72⟩, ?_⟩)
  refine D_gtake 34 rfl rfl rfl (by kernel_rfl) (by kernel_rfl) (by kernel_rfl) (fun _ _ _ h => h) rfl (fun W hS => pu_false (pu_neqB (t := 47) Tryz.underlying47 Tryz.underlying5 (by kernel_rfl) (by kernel_rfl) (ok_t1.2) (bX) rfl rfl) (fun h => h (by cases e_t1; rfl))) ?_
  refine D_take 35 rfl (by kernel_rfl) (by kernel_rfl) (by kernel_rfl) (fun _ _ _ h => h) rfl (fun W hS => pu_pickf rfl rfl) ?_
  refine D_take 36 rfl (by kernel_rfl) (by kernel_rfl) (by kernel_rfl) (fun _ _ _ h => h) rfl (fun W hS => pu_move rfl) ?_
  refine D_gtake 37 rfl rfl rfl (by kernel_rfl) (by kernel_rfl) (by kernel_rfl) (fun _ _ _ h => h) rfl (fun W hS => pu_move rfl) ?_
  refine D_gtake 38 rfl rfl rfl (by kernel_rfl) (by kernel_rfl) (by kernel_rfl) (fun _ _ _ h => h) rfl (fun W hS => pu_len Tryz.underlying22 rfl) ?_
  refine D_gtake 39 rfl rfl rfl (by kernel_rfl) (by kernel_rfl) (by kernel_rfl) (fun _ _ _ h => h) rfl (fun W hS => pu_false (pu_neq (p := ((boxE X Y u).length) = 48) rfl rfl (by omega)) (fun h => h hbl)) ?_
  refine D_take 40 rfl (by kernel_rfl) (by kernel_rfl) (by kernel_rfl) (fun _ _ _ h => h) rfl (fun W hS => pu_pickf rfl rfl) ?_
  refine D_take 41 rfl (by kernel_rfl) (by kernel_rfl) (by kernel_rfl) (fun _ _ _ h => h) rfl (fun W hS => pu_move rfl) ?_
  refine D_gtake 42 rfl rfl rfl (by kernel_rfl) (by kernel_rfl) (by kernel_rfl) (fun _ _ _ h => h) rfl (fun W hS => pu_move rfl) ?_
  refine D_gtake 43 rfl rfl rfl (by kernel_rfl) (by kernel_rfl) (by kernel_rfl) (fun _ _ _ h => h) rfl (fun W hS => pu_len Tryz.underlying22 rfl) ?_
  refine D_gtake 44 rfl rfl rfl (by kernel_rfl) (by kernel_rfl) (by kernel_rfl) (fun _ _ _ h => h) rfl (fun W hS => pu_false (pu_neq (p := ((boxR Y (encR ([(1, X)]))).length) = 63) rfl rfl (by omega)) (fun h => h hrl)) ?_
  refine D_take 45 rfl (by kernel_rfl) (by kernel_rfl) (by kernel_rfl) (fun _ _ _ h => h) rfl (fun W hS => pu_pickf rfl rfl) ?_
  refine D_done (by kernel_rfl) ?_
  refine X_then hK53 ?_
  refine C_false rfl ?_
  refine C_skip ?_
  refine X_then hK52 ?_
  refine C_seq (fun K73 hK73 => ?_)
  refine C_region ?_
  refine R_pu (pu_move rfl) rfl ?_
  obtain ⟨v, hv, hvl⟩ : ∃ u : Nat, (u : Int) = z % 18446744073709551616 ∧ u < 18446744073709551616 := ⟨(z % 18446744073709551616).toNat, by omega, by omega⟩
  refine R_pu (pu_conv (z := ((v : Nat) : Int)) Tryz.underlying3 Tryz.underlying51 rfl (by rw [IntKind.wrap_u64]; omega)) rfl ?_
  refine R_pu (pu_rem (z := ((v % 128 : Nat) : Int)) rfl rfl (by omega) (by rfl)) rfl ?_
  refine R_pu (pu_conv (z := ((v % 128 : Nat) : Int)) Tryz.underlying51 Tryz.underlying3 rfl (by rw [IntKind.wrap_i64]; omega)) rfl ?_
  refine R_pu (pu_assign rfl) rfl ?_
  refine R_nil ?_
  refine X_then hK73 ?_
  refine C_seq (fun K74 hK74 => ?_)
  obtain ⟨gb, hA_gb, hgb_gb, hgl_gb⟩ := ob70.blk (by rw [hbl]; omega)
  subst hA_gb
  have obf75 : Ob w12 w3.heap.size (.slice (some ⟨gb, 0, none⟩) ((boxE X Y u).length) (c_bx)) (boxE X Y u) := by exact ob70
  have ne_gb_pa : gb ≠ pa := by have := f7.lt; omega
  have ne_gb_pb : gb ≠ pb := by have := f8.lt; omega
  have ne_gb_0 : gb ≠ 0 := by have := o9.lt; omega
  refine C_region ?_
  refine R_pu (pu_move rfl) rfl ?_
  refine R_pu (pu_move rfl) rfl ?_
  refine R_pu (pu_quo (z := (((v % 128) / 8 : Nat) : Int)) rfl rfl (by omega) (by rw [Int.tdiv_eq_ediv_of_nonneg (by omega), IntKind.wrap_i64]; omega)) rfl ?_
  refine R_pu (pu_add (z := ((32 + ((v % 128) / 8) : Nat) : Int)) rfl rfl (by rw [IntKind.wrap_i64]; omega)) rfl ?_
  refine R_pu (pu_move rfl) rfl ?_
  refine R_pu (pu_move rfl) rfl ?_
  refine R_pu (pu_quo (z := (((v % 128) / 8 : Nat) : Int)) rfl rfl (by omega) (by rw [Int.tdiv_eq_ediv_of_nonneg (by omega), IntKind.wrap_i64]; omega)) rfl ?_
  refine R_pu (pu_add (z := ((32 + ((v % 128) / 8) : Nat) : Int)) rfl rfl (by rw [IntKind.wrap_i64]; omega)) rfl ?_
  refine R_pu (pu_indexAddrP (m := 32 + ((v % 128) / 8)) (s := 1) (o' := 32 + ((v % 128) / 8)) Tryz.underlying22 (by kernel_rfl) rfl rfl rfl (by omega) (by omega)) rfl ?_
  obtain ⟨a, e_a⟩ : ∃ q_, ((boxE X Y u))[32 + ((v % 128) / 8)]? = some q_ := ⟨_, List.getElem?_eq_getElem (by omega)⟩
  have b_a : a < 256 := obf75.byte _ (List.mem_of_getElem? e_a)
  refine R_pu (pu_load (by kernel_rfl) rfl (Ob.cellF obf75 e_a)) rfl ?_
  refine R_pu (pu_move rfl) rfl ?_
  refine R_pu (pu_conv (z := ((v % 128 : Nat) : Int)) Tryz.underlying3 Tryz.underlying51 rfl (by rw [IntKind.wrap_u64]; omega)) rfl ?_
  refine R_pu (pu_rem (z := (((v % 128) % 8 : Nat) : Int)) rfl rfl (by omega) (by rfl)) rfl ?_
  refine R_pu (pu_shl (m := (v % 128) % 8) (z := ((1 * 2 ^ ((v % 128) % 8) % 256 : Nat) : Int)) rfl rfl (shl_nat_u8 1 ((v % 128) % 8) (by omega))) rfl ?_
  refine R_pu (pu_xor rfl rfl (u8_xor_nat a (1 * 2 ^ ((v % 128) % 8) % 256) b_a (Nat.mod_lt _ (by decide)))) rfl ?_
  refine R_pu (pu_indexAddrP (m := 32 + ((v % 128) / 8)) (s := 1) (o' := 32 + ((v % 128) / 8)) Tryz.underlying22 (by kernel_rfl) rfl rfl rfl (by omega) (by omega)) rfl ?_
  refine R_lo0 (lo_storeFix obf75 (by kernel_rfl) rfl rfl (by omega) (Nat.xor_lt_two_pow (n := 8) b_a (Nat.mod_lt _ (by decide)))) ?_
  rintro _ w13 kf13
  obtain ⟨q13, k13⟩ := kf13
  have kk13 := kk12.trans k13 (fun i hi => .inr (hi ▸ (Nat.le_trans (kk3).size hgb_gb)))
  refine R_nil ?_
  refine X_then hK74 ?_
  refine C_seq (fun K76 hK76 => ?_)
  have ob77 := (ob72.onE k13 (fun b hb hc => by have h1 := (ob72.lt b hb).1; have h2 := lm29 gb rfl; omega))
  obtain ⟨gr, hA_gr, hgb_gr, hgl_gr⟩ := ob77.blk (by rw [hrl]; omega)
  subst hA_gr
  have obf78 : Ob w13 w7.heap.size (.slice (some ⟨gr, 0, none⟩) ((boxR Y (encR [(1, X)])).length) (c_rg)) (boxR Y (encR [(1, X)])) := by exact ob77
  have ne_gr_pa : gr ≠ pa := by have := f26.lt; omega
  have ne_gr_pb : gr ≠ pb := by have := f27.lt; omega
  have ne_gr_0 : gr ≠ 0 := by have := o28.lt; omega
  refine C_region ?_
  refine R_pu (pu_move rfl) rfl ?_
  refine R_pu (pu_move rfl) rfl ?_
  refine R_pu (pu_quo (z := (((v % 128) / 8 : Nat) : Int)) rfl rfl (by omega) (by rw [Int.tdiv_eq_ediv_of_nonneg (by omega), IntKind.wrap_i64]; omega)) rfl ?_
  refine R_pu (pu_add (z := ((47 + ((v % 128) / 8) : Nat) : Int)) rfl rfl (by rw [IntKind.wrap_i64]; omega)) rfl ?_
  refine R_pu (pu_move rfl) rfl ?_
  refine R_pu (pu_move rfl) rfl ?_
  refine R_pu (pu_quo (z := (((v % 128) / 8 : Nat) : Int)) rfl rfl (by omega) (by rw [Int.tdiv_eq_ediv_of_nonneg (by omega), IntKind.wrap_i64]; omega)) rfl ?_
  refine R_pu (pu_add (z := ((47 + ((v % 128) / 8) : Nat) : Int)) rfl rfl (by rw [IntKind.wrap_i64]; omega)) rfl ?_
  refine R_pu (pu_indexAddrP (m := 47 + ((v % 128) / 8)) (s := 1) (o' := 47 + ((v % 128) / 8)) Tryz.underlying22 (by kernel_rfl) rfl rfl rfl (by omega) (by omega)) rfl ?_
  obtain ⟨c, e_c⟩ : ∃ q_, ((boxR Y (encR [(1, X)])))[47 + ((v % 128) / 8)]? = some q_ := ⟨_, List.getElem?_eq_getElem (by omega)⟩
  have b_c : c < 256 := obf78.byte _ (List.mem_of_getElem? e_c)
  refine R_pu (pu_load (by kernel_rfl) rfl (Ob.cellF obf78 e_c)) rfl ?_
  refine R_pu (pu_move rfl) rfl ?_
  refine R_pu (pu_conv (z := ((v % 128 : Nat) : Int)) Tryz.underlying3 Tryz.underlying51 rfl (by rw [IntKind.wrap_u64]; omega)) rfl ?_
  refine R_pu (pu_rem (z := (((v % 128) % 8 : Nat) : Int)) rfl rfl (by omega) (by rfl)) rfl ?_
  refine R_pu (pu_shl (m := (v % 128) % 8) (z := ((1 * 2 ^ ((v % 128) % 8) % 256 : Nat) : Int)) rfl rfl (shl_nat_u8 1 ((v % 128) % 8) (by omega))) rfl ?_
  refine R_pu (pu_xor rfl rfl (u8_xor_nat c (1 * 2 ^ ((v % 128) % 8) % 256) b_c (Nat.mod_lt _ (by decide)))) rfl ?_
  refine R_pu (pu_indexAddrP (m := 47 + ((v % 128) / 8)) (s := 1) (o' := 47 + ((v % 128) / 8)) Tryz.underlying22 (by kernel_rfl) rfl rfl rfl (by omega) (by omega)) rfl ?_
  refine R_lo0 (lo_storeFix obf78 (by kernel_rfl) rfl rfl (by omega) (Nat.xor_lt_two_pow (n := 8) b_c (Nat.mod_lt _ (by decide)))) ?_
  rintro _ w14 kf14
  obtain ⟨q14, k14⟩ := kf14
  have kk14 := kk13.trans k14 (fun i hi => .inr (hi ▸ (Nat.le_trans (kk7).size hgb_gr)))
  refine R_nil ?_
  refine X_then hK76 ?_
  refine C_seq (fun K79 hK79 => ?_)
  refine C_region ?_
  refine R_pu (pu_sliceArr Tryz.underlying47 (by kernel_rfl) rfl) rfl ?_
  refine R_pu (pu_move rfl) rfl ?_
  refine R_pu (pu_move rfl) rfl ?_
  have f80 : Bk w14 pa (u8s X) 47 := ((f65.on k13 (Ne.symm ne_gb_pa)).on k14 (Ne.symm ne_gr_pa))
  have ob81 := (q13.onT k14 lm29 hgb_gr)
  refine R_lo (lo_callE (by kernel_rfl) rfl (by rw [bX.1, ob81.le.1] <;> rfl) (env_open_bad (some ⟨pa, 0, none⟩) X 32 (some ⟨gb, 0, none⟩) ((boxE X Y u).set (32 + ((v % 128) / 8)) (a ^^^ (1 * 2 ^ ((v % 128) % 8) % 256))) c_bx u _ (Bs.ofBk f80 bX) (Nat.le_of_eq bX.1) ob81.bs ob81.le.2 hul bX.1 (by rw [List.length_set]; exact hbl) (flipE32 bY.1 (by omega) e_a (bit_flip (by omega))))) rfl ?_
  rintro _ w15 ⟨rfl, k15⟩
  have kk15 := kk14.then_ k15
  refine R_pu (pu_move rfl) rfl ?_
  refine R_pu (pu_extract rfl rfl) rfl ?_
  refine R_pu (pu_extract rfl rfl) rfl ?_
  refine R_pu (pu_assign rfl) rfl ?_
  refine R_pu (pu_assign rfl) rfl ?_
  refine R_nil ?_
  refine X_then hK79 ?_
  refine C_seq (fun K82 hK82 => ?_)
  refine C_region ?_
  refine R_pu (pu_sliceArr Tryz.underlying47 (by kernel_rfl) rfl) rfl ?_
  refine R_pu (pu_move rfl) rfl ?_
  have f83 : Bk w15 pb (u8s Y) 47 := (((f66.on k13 (Ne.symm ne_gb_pb)).on k14 (Ne.symm ne_gr_pb)).no k15)
  have ob84 := (q14.keptNo k15)
  refine R_lo (lo_callE (by kernel_rfl) rfl (by rw [bY.1, ob84.le.1] <;> rfl) (env_openring_bad (some ⟨pb, 0, none⟩) Y 32 (some ⟨gr, 0, none⟩) ((boxR Y (encR [(1, X)])).set (47 + ((v % 128) / 8)) (c ^^^ (1 * 2 ^ ((v % 128) % 8) % 256))) c_rg _ (Bs.ofBk f83 bY) (Nat.le_of_eq bY.1) ob84.bs ob84.le.2 bY.1 (by rw [List.length_set]; omega) (by rw [List.length_set]; omega) (flipR35 hel (by omega) e_c (bit_flip (by omega))))) rfl ?_
  rintro _ w16 ⟨rfl, k16⟩
  have kk16 := kk15.then_ k16
  refine R_pu (pu_move rfl) rfl ?_
  refine R_pu (pu_extract rfl rfl) rfl ?_
  refine R_pu (pu_extract rfl rfl) rfl ?_
  have f85 : Bk w16 pa (u8s X) 47 := ((f80.no k15).no k16)
  have f86 : Bk w16 pb (u8s Y) 47 := (f83.no k16)
  have o87 : Gt w16 := ((((o69.on k13 (Ne.symm ne_gb_0)).on k14 (Ne.symm ne_gr_0)).no k15).no k16)
  have ob88 := ((ob81.keptNo k15).keptNo k16)
  have ob89 := (ob84.keptNo k16)
  refine R_lo (lo_alloc (L := [.slice none (0) (0)]) (by kernel_rfl)) rfl ?_
  rintro _ w17 ⟨pr2, rfl, N17⟩
  have k17 := N17.kp
  have kk17 := kk16.then_ k17
  have ne_pr2_pa : pr2 ≠ pa := Nat.ne_of_gt (Nat.lt_of_lt_of_le f85.lt N17.le)
  have ne_pr2_pb : pr2 ≠ pb := Nat.ne_of_gt (Nat.lt_of_lt_of_le f86.lt N17.le)
  have ne_pr2_0 : pr2 ≠ 0 := Nat.ne_of_gt (Nat.lt_of_lt_of_le o87.lt N17.le)
  have ne_pr2_gb : pr2 ≠ gb := ob88.ne N17.le
  have ne_pr2_gr : pr2 ≠ gr := ob89.ne N17.le
  have f_pr2_17 : Bk w17 pr2 ([.slice none (0) (0)]) 37 := N17.bk
  refine R_lo0 (lo_storeRow (C := [.slice none (0) (0)]) f_pr2_17 (by kernel_rfl) rfl rfl (by intro u hu; simp at hu; rcases hu with rfl <;> rfl) rfl) ?_
  rintro _ w18 kf18
  obtain ⟨k18, f_pr2_18⟩ := kf18
  replace f_pr2_18 : Bk w18 pr2 ([.slice none (0) (0)]) 37 := f_pr2_18
  have kk18 := kk17.trans k18 (fun i hi => .inr (hi ▸ (Nat.le_trans kk16.size N17.le)))
  refine R_pu (pu_assign rfl) rfl ?_
  refine R_nil ?_
  refine X_then hK82 ?_
  refine C_seq (fun K90 hK90 => ?_)
  refine C_region ?_
  refine R_pu (pu_move rfl) rfl ?_
  have o91 : Gt w18 := ((o87.no k17).on k18 (Ne.symm ne_pr2_0))
  refine R_lo (lo_call (by kernel_rfl) rfl (num22_err 13 _ o91)) rfl ?_
  rintro _ w19 ⟨rfl, k19⟩
  have kk19 := kk18.then_ k19
  refine R_pu (pu_true (pu_eql (p := (13 : Nat) = 13) rfl rfl (by omega)) (by decide)) rfl ?_
  refine R_pu (pu_move rfl) rfl ?_
  refine R_gpu rfl rfl (pu_move rfl) rfl ?_
  have o92 : Gt w19 := (o91.no k19)
  refine R_glo rfl rfl (lo_call (by kernel_rfl) rfl (num22_err 11 _ o92)) rfl ?_
  rintro _ w20 ⟨rfl, k20⟩
  have kk20 := kk19.then_ k20
  refine R_gpu rfl rfl (pu_true (pu_eql (p := (11 : Nat) = 11) rfl rfl (by omega)) (by decide)) rfl ?_
  refine R_pu (pu_pickt rfl rfl) rfl ?_
  refine R_pu (pu_move rfl) rfl ?_
  have o93 : Gt w20 := (o92.no k20)
  refine R_glo rfl rfl (lo_call (by kernel_rfl) rfl (sure22 _ o93)) rfl ?_
  rintro _ w21 ⟨rfl, k21⟩
  have kk21 := kk20.then_ k21
  refine R_pu (pu_pickt rfl rfl) rfl ?_
  refine R_pu (pu_assign rfl) rfl ?_
  refine R_nil ?_
  refine X_then hK90 ?_
  refine C_ret ?_
  exact X_ret1 (.inl rfl) rfl rfl ⟨rfl, kk21⟩
end Go.Proofs.YtjbdimfpjbmggaaGreatDoor
