/- Walks of keyring. -/
import Derived.Test.YtlkbkgghfhoggaaGreatDoorKo
set_option linter.unusedVariables false
set_option linter.unusedSimpArgs false
set_option maxHeartbeats 2000000
set_option maxRecDepth 100000
namespace Go.Proofs.YtlkbkgghfhoggaaGreatDoor
open Go.RowKit Gm
theorem ring_first (X : List Nat) (bX : By 32 X) (w : World)  : Ret Tryz.prog 19 #[.agg (u8s X : List Value).toArray] w (fun v w' => ∃ p, v = .agg ([.slice (some ⟨p, 0, none⟩) 1 1] : List Value).toArray ∧ w.heap.size ≤ p ∧ Bk w' p (tmC (1, X)) 58 ∧ Kp No w w') := by
 have kk0 := Kp.refl No w
 refine enter (n := 7) [.agg (u8s X : List Value).toArray] Tryz.func19 rfl rfl rfl ?_
 show Cw _ _ _ _ [(0, .agg (u8s X : List Value).toArray)] _
 refine C_seq fun K1 hK1 => C_region <| R_lo (lo_box (L := u8s X) rfl rfl) rfl ?_
 rintro _ w1 ⟨px, rfl, N1⟩
 have k1 := N1.kp
 have kk1 := kk0.then_ k1
 have f_px_1 := N1.bk
 refine R_lo (lo_alloc (L := [.slice none (0) (0)]) (by kernel_rfl)) rfl ?_
 rintro _ w2 ⟨pr, rfl, N2⟩
 have k2 := N2.kp
 have kk2 := kk1.then_ k2
 have f_pr_2 := N2.bk
 refine R_nil <| X_then hK1 <| C_seq fun K2 hK2 => C_region ?_
 have f3 := (f_px_1.no k2)
 refine Rp (pu_loadRow (len := 32) f3 (by kernel_rfl) (by kernel_rfl) (by rw [u8s_length]; exact bX.1) rfl) <| Rp (pu_build (L := tmC (1, X)) rfl (built_numrow (n := 32) (by kernel_rfl) rfl (by rw [u8s_length]; exact bX.1))) <| R_lo (lo_buildSlice (L := tmC (1, X)) Tryz.underlying44 rfl (lit_one (by kernel_rfl) (tm_len (t := (1, X)) bX))) rfl ?_
 rintro _ w3 ⟨p, rfl, N3⟩
 have k3 := N3.kp
 have kk3 := kk2.then_ k3
 have ne_p_pr := Nat.ne_of_gt (Nat.lt_of_lt_of_le f_pr_2.lt N3.le)
 have f_p_3 := N3.bk
 refine Rp (pu_build (L := [.slice (some ⟨p, 0, none⟩) (1) (1)]) rfl (by kernel_rfl)) ?_
 have f4 := (f_pr_2.no k3)
 refine R_lo0 (lo_storeRow (C := [.slice (some ⟨p, 0, none⟩) (1) (1)]) f4 (by kernel_rfl) rfl rfl (by intro u hu; simp at hu; rcases hu with rfl <;> rfl) rfl) ?_
 rintro _ w4 kf4
 obtain ⟨k4, f_pr_4⟩ := kf4
 replace f_pr_4 : Bk w4 pr ([.slice (some ⟨p, 0, none⟩) (1) (1)]) 46 := f_pr_4
 have kk4 := kk3.trans k4 (fun i hi => .inr (hi ▸ (Nat.le_trans kk1.size N2.le)))
 refine R_nil <| X_then hK2 <| C_ret ?_
 have f5 := (f_p_3.on k4 ne_p_pr)
 exact X_retRow (len := 1) (.inl rfl) rfl rfl f_pr_4 (by kernel_rfl) (by kernel_rfl) rfl ⟨p, rfl, (Nat.le_trans kk2.size N3.le), f5, kk4⟩
theorem ring_check_ok (A : Option Addr) (L : List Tm) (c : Nat)  (w : World) (HT : Rs tmC 33 w A L) (hok : ∀ t ∈ L, okT t) (hc : L.length ≤ c) (hM : mayR L) : Ret Tryz.prog 42 #[.agg ([.slice A (L.length) (c)] : List Value).toArray] w (fun v w' => v = .nilIface ∧ Kp No w w') := by
 obtain ⟨hm1, hm2, hm3⟩ := id hM
 have kk0 := Kp.refl No w
 refine enter (n := 32) [.agg ([.slice A (L.length) (c)] : List Value).toArray] Tryz.func42 rfl rfl rfl ?_
 show Cw _ _ _ _ [(0, .agg ([.slice A (L.length) (c)] : List Value).toArray)] _
 refine C_seq fun K1 hK1 => C_region <| R_lo (lo_box (L := [.slice A (L.length) (c)]) rfl rfl) rfl ?_
 rintro _ w1 ⟨p0_0, rfl, N1⟩
 have k1 := N1.kp
 have kk1 := kk0.then_ k1
 have f_p0_0_1 := N1.bk
 refine Rp (pu_assign rfl) <| R_nil <| X_then hK1 <| C_seq fun K2 hK2 => C_seq fun K3 hK3 => C_region <| Rp (pu_fieldAddr (off := 0) (o' := 0) (by kernel_rfl) rfl rfl) <| Rp (pu_loadK f_p0_0_1 (by kernel_rfl) rfl rfl) <| Rp (pu_len Tryz.underlying44 rfl) <| Rp (pu_false (pu_lss (p := L.length < 1) rfl rfl (by omega)) (by omega)) <| Rp (pu_move rfl) <| Rg (pu_fieldAddr (off := 0) (o' := 0) (by kernel_rfl) rfl rfl) <| Rg (pu_loadK f_p0_0_1 (by kernel_rfl) rfl rfl) <| Rg (pu_len Tryz.underlying44 rfl) <| Rg (pu_false (pu_gtr (p := L.length > 16) rfl rfl (by omega)) (by omega)) <| Rp (pu_pickf rfl rfl) <| R_nil <| X_then hK3 <| C_false rfl <| C_skip <| X_then hK2 <| C_seq fun K4 hK4 => C_seq fun K5 hK5 => C_region <| Rp (pu_fieldAddr (off := 0) (o' := 0) (by kernel_rfl) rfl rfl) <| Rp (pu_loadK f_p0_0_1 (by kernel_rfl) rfl rfl) <| Rp (pu_len Tryz.underlying44 rfl) <| Rp (pu_move rfl) <| R_nil <| X_then hK5 <| C_block <| C_loop (fun m_ l_ wr => ∃ i : Nat, (m_ = L.length - i) ∧ (l_ = [(17, .slice A (L.length) (c)), (18, .int .i64 ((L.length : Nat) : Int)), (19, .int .i64 ((i : Nat) : Int))]) ∧ (i ≤ L.length) ∧ (Kp No w wr) ∧ (Bk wr p0_0 ([.slice A (L.length) (c)]) 46)) (L.length - 0) [(17, .slice A (L.length) (c)), (18, .int .i64 ((L.length : Nat) : Int)), (19, .int .i64 0)] (Sub.cons rfl (Sub.cons rfl (Sub.cons rfl (Sub.nil _)))) ⟨0, rfl, rfl, by omega, kk1, f_p0_0_1⟩ ?_
 rintro _ _ w2 ⟨i, rfl, rfl, hi, kk2, f_p0_0_2⟩
 refine C_seq fun K6 hK6 => C_region <| Rp (pu_lss (p := i < L.length) rfl rfl (by omega)) <| R_nil <| X_then hK6 <| C_seq fun K7 hK7 => C_dec rfl (fun h20 => ?_) (fun h20 => ?_)
 ·
  refine C_skip <| X_then hK7 <| C_seq fun K8 hK8 => C_block <| C_seq fun K9 hK9 => C_region <| Rp (pu_move rfl) ?_
  obtain ⟨t, e_t⟩ : ∃ q_, (L)[i]? = some q_ := ⟨_, List.getElem?_eq_getElem (by omega)⟩
  have ok_t : okT t := hok t (List.mem_of_getElem? e_t)
  refine Rp (pu_indexAddrR (m := i) (HT.keptNo kk2) Tryz.underlying44 (by kernel_rfl) rfl rfl rfl rfl e_t) <| Rp (pu_loadRow2 (HT.keptNo kk2) e_t (by kernel_rfl) (by kernel_rfl) rfl) <| R_lo (lo_alloc (L := tmC (0, (List.replicate 32 0))) (by kernel_rfl)) rfl ?_
  rintro _ w3 ⟨pt, rfl, N3⟩
  have k3 := N3.kp
  have kk3 := kk2.then_ k3
  have ne_pt_p0_0 := Nat.ne_of_gt (Nat.lt_of_lt_of_le f_p0_0_2.lt N3.le)
  have f_pt_3 := N3.bk
  refine Rp (pu_assign rfl) <| R_lo0 (lo_storeRow (C := tmC (t.1, t.2)) f_pt_3 (by rw [tm_len (t := (t.1, t.2)) ok_t.2]; kernel_rfl) rfl rfl (tm_one _) ((tm_len (t := (t.1, t.2)) ok_t.2).trans (tm_len (t := (0, (List.replicate 32 0))) (rep_by 32)).symm)) ?_
  rintro _ w4 kf4
  obtain ⟨k4, f_pt_4⟩ := kf4
  replace f_pt_4 : Bk w4 pt (tmC (t.1, t.2)) 58 := f_pt_4
  have kk4 := kk3.trans k4 (fun i hi => .inr (hi ▸ (Nat.le_trans kk2.size N3.le)))
  refine R_nil <| X_then hK9 <| C_seq fun K10 hK10 => C_region <| Rp (pu_fieldAddr (off := 0) (o' := 0) (by kernel_rfl) rfl rfl) <| Rp (pu_loadK f_pt_4 (by kernel_rfl) rfl rfl) <| Rp (pu_move rfl) <| Rp (pu_add (z := ((i + 1 : Nat) : Int)) rfl rfl (by rw [IntKind.wrap_i64]; omega)) <| Rp (pu_conv (z := ((i + 1 : Nat) : Int)) Tryz.underlying3 Tryz.underlying32 rfl (by rw [IntKind.wrap_u32]; omega)) <| Rp (pu_neq (p := t.1 = (i + 1)) rfl rfl (by omega)) <| R_nil <| X_then hK10 <| C_decf rfl (fun h => h (hm3 i t e_t)) <| C_skip <| X_in_normal <| X_then hK8 <| C_region <| Rp (pu_add (z := ((i + 1 : Nat) : Int)) rfl rfl (by rw [IntKind.wrap_i64]; omega)) <| Rp (pu_move rfl) <| R_nil ?_
  have f11 := ((f_p0_0_2.no k3).on k4 (Ne.symm ne_pt_p0_0))
  refine X_round (L.length - (i + 1)) [(17, .slice A (L.length) (c)), (18, .int .i64 ((L.length : Nat) : Int)), (19, .int .i64 (((i + 1) : Nat) : Int))] (by omega) (Sub.cons rfl (Sub.cons rfl (Sub.cons rfl (Sub.nil _)))) ⟨i + 1, rfl, rfl, by omega, kk4, f11⟩
 ·
  refine C_exit <| X_then_exit (X_then_exit (X_in_eq ?_))
  exact X_then hK4 <| C_seq fun K12 hK12 => C_region <| Rp (pu_assign rfl) <| R_nil <| X_then hK12 <| C_ret <| X_ret1 (.inl rfl) rfl rfl ⟨rfl, kk2⟩
theorem ring_encode (A : Option Addr) (L : List Tm) (c : Nat)  (w : World) (HT : Rs tmC 33 w A L) (hok : ∀ t ∈ L, okT t) (hc : L.length ≤ c) (hM : mayR L) : Ret Tryz.prog 34 #[.agg ([.slice A (L.length) (c)] : List Value).toArray] w (fun v w' => ∃ A c, v = .tuple #[.slice A (encR L).length c, .nilIface] ∧ Ob w' w.heap.size (.slice A (encR L).length c) (encR L) ∧ Kp No w w') := by
 have hm2 := hM.2.1; have hkt := keys_take hok hm2
 have kk0 := Kp.refl No w
 refine enter (n := 34) [.agg ([.slice A (L.length) (c)] : List Value).toArray] Tryz.func34 rfl rfl rfl ?_
 show Cw _ _ _ _ [(0, .agg ([.slice A (L.length) (c)] : List Value).toArray)] _
 refine C_seq fun K1 hK1 => C_region <| R_lo (lo_box (L := [.slice A (L.length) (c)]) rfl rfl) rfl ?_
 rintro _ w1 ⟨pb, rfl, N1⟩
 have k1 := N1.kp
 have kk1 := kk0.then_ k1
 have f_pb_1 := N1.bk
 refine Rp (pu_assign rfl) <| Rp (pu_assign rfl) <| R_nil <| X_then hK1 <| C_seq fun K2 hK2 => C_seq fun K3 hK3 => C_region <| Rp (pu_loadRow (len := 1) f_pb_1 (by kernel_rfl) (by kernel_rfl) rfl rfl) <| R_lo (lo_call (by kernel_rfl) rfl (ring_check_ok A L c _ (HT.keptNo kk1) hok hc hM)) rfl ?_
 rintro _ w2 ⟨rfl, k2⟩
 have kk2 := kk1.then_ k2
 refine Rp (pu_assign rfl) <| R_nil <| X_then hK3 <| C_seq fun K4 hK4 => C_region <| Rp (pu_move rfl) <| Rp (pu_neqnn (by kernel_rfl) rfl) <| R_nil <| X_then hK4 <| C_false rfl <| C_skip <| X_then hK2 <| C_seq fun K5 hK5 => C_region ?_
 have f6 := (f_pb_1.no k2)
 refine R_lo (lo_buildSlice (L := u8s ([107, 114])) Tryz.underlying22 rfl (by kernel_rfl)) rfl ?_
 rintro _ w3 ⟨q, rfl, N3⟩
 have k3 := N3.kp
 have kk3 := kk2.then_ k3
 have ne_q_pb := Nat.ne_of_gt (Nat.lt_of_lt_of_le f6.lt N3.le)
 have f_q_3 := N3.bk
 refine R_lo (lo_mark f_q_3 (show By 2 [107, 114] from by_lit _ (by decide)).2 Tryz.underlying22 Tryz.underlying5 rfl (show By 2 [107, 114] from by_lit _ (by decide)).1 (by decide)) rfl ?_
 rintro _ w4 ⟨rfl, Q4, k4⟩
 have kk4 := kk3.trans k4 (fun i hi => .inr (hi ▸ (Nat.le_trans kk2.size N3.le)))
 refine Rp (pu_fieldAddr (off := 0) (o' := 0) (by kernel_rfl) rfl rfl) ?_
 have f7 := ((f6.no k3).on k4 (Ne.symm ne_q_pb))
 refine Rp (pu_loadK f7 (by kernel_rfl) rfl rfl) <| Rp (pu_len Tryz.underlying44 rfl) <| Rp (pu_conv (z := ((L.length % 256 : Nat) : Int)) Tryz.underlying3 Tryz.underlying5 rfl (by rw [IntKind.wrap_u8]; omega)) <| R_lo (lo_buildSlice (L := u8s ([L.length % 256])) Tryz.underlying22 rfl (by kernel_rfl)) rfl ?_
 rintro _ w5 ⟨q2, rfl, N5⟩
 have k5 := N5.kp
 have kk5 := kk4.then_ k5
 have f_q2_5 := N5.bk
 have ob8 := (Q4.keptNo k5)
 have f9 := (f7.no k5)
 refine R_lo (lo_appFull ob8.bs ob8.le.1 (Nat.succ_pos _) rfl rfl (show By 1 [L.length % 256] from ⟨rfl, fun n hn => by rw [List.mem_singleton.1 hn]; exact (Nat.mod_lt _ (by decide))⟩).1 (Bs.ofBk f_q2_5 (show By 1 [L.length % 256] from ⟨rfl, fun n hn => by rw [List.mem_singleton.1 hn]; exact (Nat.mod_lt _ (by decide))⟩)) (Nat.succ_pos _) (by simp)) rfl ?_
 rintro _ w6 ⟨A_out, c_out, rfl, Q6, k6⟩
 have kk6 := kk5.then_ k6
 have z11 := k6.size
 refine Rp (pu_assign rfl) <| R_nil <| X_then hK5 <| C_seq fun K12 hK12 => C_seq fun K13 hK13 => C_region <| Rp (pu_fieldAddr (off := 0) (o' := 0) (by kernel_rfl) rfl rfl) ?_
 have f14 := (f9.no k6)
 refine Rp (pu_loadK f14 (by kernel_rfl) rfl rfl) <| Rp (pu_len Tryz.underlying44 rfl) <| Rp (pu_move rfl) <| R_nil <| X_then hK13 <| C_block ?_
 have f15 := (f_q2_5.no k6)
 refine C_loop (fun m_ l_ wr => ∃ i : Nat, ∃ Ao : Option Addr, ∃ co : Nat, (m_ = L.length - i) ∧ (l_ = [(2, .slice none (0) (0)), (3, .nilIface), (5, .slice Ao (([107, 114, L.length % 256] ++ keysR (L.take i)).length) (co)), (22, .slice A (L.length) (c)), (23, .int .i64 ((L.length : Nat) : Int)), (24, .int .i64 ((i : Nat) : Int))]) ∧ (i ≤ L.length) ∧ (Kp No w wr) ∧ (Bk wr pb ([.slice A (L.length) (c)]) 46) ∧ (Bk wr q2 (u8s ([L.length % 256])) 5) ∧ (Ob wr w5.heap.size (.slice Ao ([107, 114, L.length % 256] ++ keysR (L.take i)).length co) ([107, 114, L.length % 256] ++ keysR (L.take i)) ∧ w5.heap.size ≤ (wr).heap.size)) (L.length - 0) [(2, .slice none (0) (0)), (3, .nilIface), (5, .slice A_out (([107, 114, L.length % 256] ++ keysR (L.take 0)).length) (c_out)), (22, .slice A (L.length) (c)), (23, .int .i64 ((L.length : Nat) : Int)), (24, .int .i64 0)] (Sub.cons rfl (Sub.cons rfl (Sub.cons rfl (Sub.cons rfl (Sub.cons rfl (Sub.cons rfl (Sub.nil _))))))) ⟨0, A_out, c_out, rfl, rfl, by omega, kk6, f14, f15, ⟨Q6, z11⟩⟩ ?_
 rintro _ _ w7 ⟨i, Ao, co, rfl, rfl, hi, kk7, f_pb_7, f_q2_7, out_7⟩
 refine C_seq fun K16 hK16 => C_region <| Rp (pu_lss (p := i < L.length) rfl rfl (by omega)) <| R_nil <| X_then hK16 <| C_seq fun K17 hK17 => C_dec rfl (fun h25 => ?_) (fun h25 => ?_)
 ·
  refine C_skip <| X_then hK17 <| C_seq fun K18 hK18 => C_block <| C_seq fun K19 hK19 => C_region ?_
  obtain ⟨t, e_t⟩ : ∃ q_, (L)[i]? = some q_ := ⟨_, List.getElem?_eq_getElem (by omega)⟩
  have ok_t : okT t := hok t (List.mem_of_getElem? e_t)
  refine Rp (pu_indexAddrR (m := i) (HT.keptNo kk7) Tryz.underlying44 (by kernel_rfl) rfl rfl rfl rfl e_t) <| Rp (pu_loadRow2 (HT.keptNo kk7) e_t (by kernel_rfl) (by kernel_rfl) rfl) <| R_lo (lo_alloc (L := tmC (0, (List.replicate 32 0))) (by kernel_rfl)) rfl ?_
  rintro _ w8 ⟨pt, rfl, N8⟩
  have k8 := N8.kp
  have kk8 := kk7.then_ k8
  have ne_pt_pb := Nat.ne_of_gt (Nat.lt_of_lt_of_le f_pb_7.lt N8.le)
  have ne_pt_q2 := Nat.ne_of_gt (Nat.lt_of_lt_of_le f_q2_7.lt N8.le)
  have f_pt_8 := N8.bk
  refine R_lo0 (lo_storeRow (C := tmC (t.1, t.2)) f_pt_8 (by rw [tm_len (t := (t.1, t.2)) ok_t.2]; kernel_rfl) rfl rfl (tm_one _) ((tm_len (t := (t.1, t.2)) ok_t.2).trans (tm_len (t := (0, (List.replicate 32 0))) (rep_by 32)).symm)) ?_
  rintro _ w9 kf9
  obtain ⟨k9, f_pt_9⟩ := kf9
  replace f_pt_9 : Bk w9 pt (tmC (t.1, t.2)) 58 := f_pt_9
  have kk9 := kk8.trans k9 (fun i hi => .inr (hi ▸ (Nat.le_trans kk7.size N8.le)))
  refine R_nil <| X_then hK19 <| C_region <| Rp (pu_move rfl) <| Rp (pu_fieldAddr (off := 1) (o' := 1) (by kernel_rfl) rfl rfl) <| Rp (pu_sliceArr Tryz.underlying56 (by kernel_rfl) rfl) ?_
  have ob20 := ((out_7.1.keptNo k8).onN k9 out_7.1 N8.le)
  refine R_lo (lo_app (X := [107, 114, L.length % 256] ++ keysR (L.take i)) (Y := t.2) ob20 ob20.le.1 rfl rfl ok_t.2.1 (Bs.ofTm (t := (t.1, t.2)) f_pt_9 ok_t.2) (by rw [List.length_append, ok_t.2.1]; have := hkt i; simp; omega) (Nat.le_trans (Nat.le_trans out_7.2 k8.size) k9.size)) rfl ?_
  rintro _ w10 ⟨A_10, c_10, rfl, p10⟩
  have k10 := p10.kp
  have kk10 := kk9.trans k10 (fun i hi => .inr (Nat.le_trans (kk5).size hi))
  refine Rp (pu_assign rfl) <| R_nil <| X_in_normal <| X_then hK18 <| C_region <| Rp (pu_add (z := ((i + 1 : Nat) : Int)) rfl rfl (by rw [IntKind.wrap_i64]; omega)) <| Rp (pu_move rfl) <| R_nil ?_
  have f21 : Bk w10 pb ([.slice A (L.length) (c)]) 46 := (((f_pb_7.no k8).on k9 (Ne.symm ne_pt_pb)).kept k10 (by have := f9.lt; omega))
  have f22 : Bk w10 q2 (u8s ([L.length % 256])) 5 := (((f_q2_7.no k8).on k9 (Ne.symm ne_pt_q2)).kept k10 (by have := f_q2_5.lt; omega))
  refine X_round (L.length - (i + 1)) [(2, .slice none (0) (0)), (3, .nilIface), (5, .slice A_10 (([107, 114, L.length % 256] ++ keysR (L.take (i + 1))).length) (c_10)), (22, .slice A (L.length) (c)), (23, .int .i64 ((L.length : Nat) : Int)), (24, .int .i64 (((i + 1) : Nat) : Int))] (by omega) (Sub.cons rfl (Sub.cons rfl (Sub.consE rfl (by rw [← keys_step e_t, ← List.append_assoc]) (Sub.cons rfl (Sub.cons rfl (Sub.cons rfl (Sub.nil _))))))) ⟨i + 1, A_10, c_10, rfl, rfl, by omega, kk10, f21, f22, ⟨by rw [← keys_step e_t, ← List.append_assoc]; exact p10.ob, (Nat.le_trans (Nat.le_trans (Nat.le_trans out_7.2 k8.size) k9.size) k10.size)⟩⟩
 ·
  refine C_exit <| X_then_exit (X_then_exit (X_in_eq ?_))
  exact X_then hK12 <| C_seq fun K23 hK23 => C_region <| Rp (pu_move rfl) <| Rp (pu_assign rfl) <| Rp (pu_assign rfl) <| R_nil <| X_then hK23 <| C_ret <| X_ret2 (.inl rfl) rfl rfl rfl (have e : [107, 114, L.length % 256] ++ keysR (L.take i) = encR L := (by rw [show i = L.length by omega, List.take_length]; rfl); ⟨Ao, co, by rw [← e], by rw [← e]; exact out_7.1.low ((kk5).size), kk7⟩)
end Go.Proofs.YtlkbkgghfhoggaaGreatDoor
