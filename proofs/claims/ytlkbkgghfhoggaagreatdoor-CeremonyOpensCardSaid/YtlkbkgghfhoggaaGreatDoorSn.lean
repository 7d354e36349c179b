/- Walks of shamir.places, through, Combine, At; of bursarylaw03.sure. -/
import Derived.Test.YtlkbkgghfhoggaaGreatDoorSm
set_option linter.unusedVariables false
set_option linter.unusedSimpArgs false
set_option maxHeartbeats 2000000
set_option maxRecDepth 100000
namespace Go.Proofs.YtlkbkgghfhoggaaGreatDoor
open Go.RowKit Gm
theorem shamir_places (A : Option Addr) (M : List Shr) (c q nn ge : Nat) (w : World) (HS : Ss w A M) (hm : (1 ≤ M.length ∧ M.length ≤ 255 ∧ M.length ≤ c) ∧ ge < 4294967296 ∧ ∃ N, Good M ge N) : Ret Tryz.prog 59 #[.slice A (M.length) (c), .agg ([.int .i64 ((q + 1 : Nat) : Int), .int .i64 ((nn : Nat) : Int), .int .u32 ((ge : Nat) : Int)] : List Value).toArray] w (fun v w' => ∃ A c, v = .tuple #[.slice A (ixs M).length c, .nilIface] ∧ Ob w' w.heap.size (.slice A (ixs M).length c) (ixs M) ∧ Kp No w w') := by
 obtain ⟨⟨hm1, hm2, hm3⟩, hge, N, hG⟩ := hm
 have kk0 := Kp.refl No w
 refine enter (n := 68) [.slice A (M.length) (c), .agg ([.int .i64 ((q + 1 : Nat) : Int), .int .i64 ((nn : Nat) : Int), .int .u32 ((ge : Nat) : Int)] : List Value).toArray] Tryz.func59 rfl rfl rfl ?_
 show Cw _ _ _ _ [(0, .slice A (M.length) (c)), (1, .agg ([.int .i64 ((q + 1 : Nat) : Int), .int .i64 ((nn : Nat) : Int), .int .u32 ((ge : Nat) : Int)] : List Value).toArray)] _
 refine C_seq fun K1 hK1 => C_region <| R_lo (lo_box (L := [.int .i64 ((q + 1 : Nat) : Int), .int .i64 ((nn : Nat) : Int), .int .u32 ((ge : Nat) : Int)]) rfl rfl) rfl ?_
 rintro _ w1 ⟨p0_0, rfl, N1⟩
 have k1 := N1.kp
 have kk1 := kk0.then_ k1
 have f_p0_0_1 := N1.bk
 refine Rp (pu_assign rfl) <| Rp (pu_assign rfl) <| R_nil <| X_then hK1 <| C_seq fun K2 hK2 => C_seq fun K3 hK3 => C_region <| Rp (pu_move rfl) <| Rp (pu_len Tryz.underlying37 rfl) <| Rp (pu_move rfl) <| R_nil <| X_then hK3 <| C_block <| C_loop (fun m_ l_ wr => ∃ i : Nat, (m_ = M.length - i) ∧ (l_ = [(0, .slice A (M.length) (c)), (3, .pointer (some ⟨p0_0, 0, none⟩)), (12, .slice A (M.length) (c)), (13, .int .i64 ((M.length : Nat) : Int)), (14, .int .i64 ((i : Nat) : Int))]) ∧ (i ≤ M.length) ∧ (Kp No w wr) ∧ (Bk wr p0_0 ([.int .i64 ((q + 1 : Nat) : Int), .int .i64 ((nn : Nat) : Int), .int .u32 ((ge : Nat) : Int)]) 34)) (M.length - 0) [(0, .slice A (M.length) (c)), (3, .pointer (some ⟨p0_0, 0, none⟩)), (12, .slice A (M.length) (c)), (13, .int .i64 ((M.length : Nat) : Int)), (14, .int .i64 0)] (Sub.cons rfl (Sub.cons rfl (Sub.cons rfl (Sub.cons rfl (Sub.cons rfl (Sub.nil _)))))) ⟨0, rfl, rfl, by omega, kk1, f_p0_0_1⟩ ?_
 rintro _ _ w2 ⟨i, rfl, rfl, hi, kk2, f_p0_0_2⟩
 refine C_seq fun K4 hK4 => C_region <| Rp (pu_lss (p := i < M.length) rfl rfl (by omega)) <| R_nil <| X_then hK4 <| C_seq fun K5 hK5 => C_dec rfl (fun h15 => ?_) (fun h15 => ?_)
 ·
  refine C_skip <| X_then hK5 <| C_seq fun K6 hK6 => C_block <| C_seq fun K7 hK7 => C_region ?_
  obtain ⟨s1, e_s1⟩ : ∃ q_, (M)[i]? = some q_ := ⟨_, List.getElem?_eq_getElem (by first | omega | (simp; done) | (simp; omega))⟩
  have ok_s1 := HS.get e_s1
  have okb_s1 := ok_s1.bs
  have bi_s1 : s1.ix < 256 := ok_s1.ix
  refine Rp (pu_indexAddrH (HS.keptNo kk2) Tryz.underlying37 (by kernel_rfl) rfl rfl rfl rfl e_s1) <| Rp (pu_loadHr (HS.keptNo kk2) e_s1 (by kernel_rfl) (by kernel_rfl) rfl) <| R_lo (lo_alloc (L := [.int .u8 0, .int .u32 0, .slice none (0) (0)]) (by kernel_rfl)) rfl ?_
  rintro _ w3 ⟨a1, rfl, N3⟩
  have k3 := N3.kp
  have kk3 := kk2.then_ k3
  have ne_a1_p0_0 := Nat.ne_of_gt (Nat.lt_of_lt_of_le f_p0_0_2.lt N3.le)
  have f_a1_3 := N3.bk
  refine R_lo0 (lo_storeRow (C := [.int .u8 ((s1.ix : Nat) : Int), .int .u32 ((s1.gen : Nat) : Int), .slice s1.A (s1.X.length) (s1.c)]) f_a1_3 (by kernel_rfl) rfl rfl (by intro u hu; simp at hu; rcases hu with rfl | rfl | rfl <;> rfl) rfl) ?_
  rintro _ w4 kf4
  obtain ⟨k4, f_a1_4⟩ := kf4
  replace f_a1_4 : Bk w4 a1 ([.int .u8 ((s1.ix : Nat) : Int), .int .u32 ((s1.gen : Nat) : Int), .slice s1.A (s1.X.length) (s1.c)]) 51 := f_a1_4
  have kk4 := kk3.trans k4 (fun i hi => .inr (hi ▸ (Nat.le_trans kk2.size N3.le)))
  refine R_nil <| X_then hK7 <| C_seq fun K8 hK8 => C_region <| Rp (pu_fieldAddr (off := 1) (o' := 1) (by kernel_rfl) rfl rfl) <| Rp (pu_loadK f_a1_4 (by kernel_rfl) rfl rfl) <| Rp (pu_fieldAddr (off := 2) (o' := 2) (by kernel_rfl) rfl rfl) ?_
  have f9 := ((f_p0_0_2.no k3).on k4 (Ne.symm ne_a1_p0_0))
  refine Rp (pu_loadK f9 (by kernel_rfl) rfl rfl) <| Rp (pu_neq (p := s1.gen = ge) rfl rfl (by omega)) <| R_nil <| X_then hK8 <| C_decf rfl (fun h => h (hG.geni e_s1)) <| C_skip <| X_in_normal <| X_then hK6 <| C_region <| Rp (pu_add (z := ((i + 1 : Nat) : Int)) rfl rfl (by rw [IntKind.wrap_i64]; omega)) <| Rp (pu_move rfl) <| R_nil <| X_round (M.length - (i + 1)) [(0, .slice A (M.length) (c)), (3, .pointer (some ⟨p0_0, 0, none⟩)), (12, .slice A (M.length) (c)), (13, .int .i64 ((M.length : Nat) : Int)), (14, .int .i64 (((i + 1) : Nat) : Int))] (by omega) (Sub.cons rfl (Sub.cons rfl (Sub.cons rfl (Sub.cons rfl (Sub.cons rfl (Sub.nil _)))))) ⟨i + 1, rfl, rfl, by omega, kk4, f9⟩
 ·
  refine C_exit <| X_then_exit (X_then_exit (X_in_eq ?_))
  refine X_then hK2 <| C_seq fun K10 hK10 => C_region <| Rp (pu_build (L := bL (fun v => decide (v = 0))) rfl (by kernel_rfl)) <| R_lo (lo_alloc (L := bL (fun _ => false)) (by kernel_rfl)) rfl ?_
  rintro _ w5 ⟨sn, rfl, N5⟩
  have k5 := N5.kp
  have kk5 := kk2.then_ k5
  have ne_sn_p0_0 := Nat.ne_of_gt (Nat.lt_of_lt_of_le f_p0_0_2.lt N5.le)
  have f_sn_5 := N5.bk
  refine R_lo0 (lo_storeRow (C := bL (fun v => decide (v = 0))) f_sn_5 (by kernel_rfl) rfl rfl (bL_one _) ((bL_length _).trans (bL_length _).symm)) ?_
  rintro _ w6 kf6
  obtain ⟨k6, f_sn_6⟩ := kf6
  replace f_sn_6 : Bk w6 sn (bL (fun v => decide (v = 0))) 173 := f_sn_6
  have kk6 := kk5.trans k6 (fun i hi => .inr (hi ▸ (Nat.le_trans kk2.size N5.le)))
  refine R_nil <| X_then hK10 <| C_seq fun K11 hK11 => C_region <| Rp (pu_move rfl) <| Rp (pu_len Tryz.underlying37 rfl) ?_
  have f12 := ((f_p0_0_2.no k5).on k6 (Ne.symm ne_sn_p0_0))
  refine R_lo (lo_make (z := .int .u8 0) (bytes := 1) (ln := 0) (cp := M.length) Tryz.underlying22 (by kernel_rfl) rfl rfl rfl rfl rfl (by omega) (by omega) (by omega)) rfl ?_
  rintro _ w7 ⟨d, rfl, N7⟩
  have k7 := N7.kp
  have kk7 := kk6.then_ k7
  have ne_d_p0_0 := Nat.ne_of_gt (Nat.lt_of_lt_of_le f12.lt N7.le)
  have ne_d_sn := Nat.ne_of_gt (Nat.lt_of_lt_of_le f_sn_6.lt N7.le)
  have f_d_7 : Bk w7 d (u8s (List.replicate M.length 0)) 5 := by rw [u8s_rep]; exact N7.bk
  refine Rp (pu_assign rfl) <| R_nil <| X_then hK11 <| C_seq fun K13 hK13 => C_seq (fun K14 hK14 => ?_)
  have ob0 : Ob w7 w.heap.size (.slice (some ⟨d, 0, none⟩) ([] : List Nat).length M.length) [] := Ob.of_block (base := w.heap.size) (k := 0) f_d_7 (Nat.le_trans kk6.size N7.le) (List.length_replicate ..) (by unfold maxLen; omega) (fun n hn => by rw [(List.mem_replicate.1 hn).2]; decide) (Nat.zero_le _)
  refine C_region <| Rp (pu_move rfl) <| Rp (pu_len Tryz.underlying37 rfl) <| Rp (pu_move rfl) <| R_nil <| X_then hK14 <| C_block ?_
  have f15 := (f12.no k7)
  have f16 := (f_sn_6.no k7)
  refine C_loop (fun m_ l_ wr => ∃ i : Nat, (m_ = M.length - i) ∧ (l_ = [(0, .slice A (M.length) (c)), (8, .pointer (some ⟨sn, 0, none⟩)), (9, .slice (some ⟨d, 0, none⟩) (((ixs M).take i).length) (M.length)), (29, .slice A (M.length) (c)), (30, .int .i64 ((M.length : Nat) : Int)), (31, .int .i64 ((i : Nat) : Int))]) ∧ (i ≤ M.length) ∧ (Kp No w wr) ∧ (Bk wr p0_0 ([.int .i64 ((q + 1 : Nat) : Int), .int .i64 ((nn : Nat) : Int), .int .u32 ((ge : Nat) : Int)]) 34) ∧ (Bk wr sn (bL (seen0 (ixs M) i)) 173) ∧ (Ob wr w.heap.size (.slice (some ⟨d, 0, none⟩) ((ixs M).take i).length M.length) ((ixs M).take i) ∧ w.heap.size ≤ (wr).heap.size)) (M.length - 0) [(0, .slice A (M.length) (c)), (8, .pointer (some ⟨sn, 0, none⟩)), (9, .slice (some ⟨d, 0, none⟩) (((ixs M).take 0).length) (M.length)), (29, .slice A (M.length) (c)), (30, .int .i64 ((M.length : Nat) : Int)), (31, .int .i64 0)] (Sub.cons rfl (Sub.cons rfl (Sub.cons rfl (Sub.cons rfl (Sub.cons rfl (Sub.cons rfl (Sub.nil _))))))) ⟨0, rfl, rfl, by omega, kk7, f15, Bk.eq f16 (seen0_zero (ixs M)), ⟨by exact ob0, kk7.size⟩⟩ ?_
  rintro _ _ w8 ⟨i, rfl, rfl, hi, kk8, f_p0_0_8, f_sn_8, xs_8⟩
  refine C_seq fun K17 hK17 => C_region <| Rp (pu_lss (p := i < M.length) rfl rfl (by omega)) <| R_nil <| X_then hK17 <| C_seq fun K18 hK18 => C_dec rfl (fun h32 => ?_) (fun h32 => ?_)
  ·
   refine C_skip <| X_then hK18 <| C_seq fun K19 hK19 => C_block <| C_seq fun K20 hK20 => C_region ?_
   obtain ⟨s2, e_s2⟩ : ∃ q_, (M)[i]? = some q_ := ⟨_, List.getElem?_eq_getElem (by first | omega | (simp; done) | (simp; omega))⟩
   have ok_s2 := HS.get e_s2
   have okb_s2 := ok_s2.bs
   have bi_s2 : s2.ix < 256 := ok_s2.ix
   refine Rp (pu_indexAddrH (HS.keptNo kk8) Tryz.underlying37 (by kernel_rfl) rfl rfl rfl rfl e_s2) <| Rp (pu_loadHr (HS.keptNo kk8) e_s2 (by kernel_rfl) (by kernel_rfl) rfl) <| R_lo (lo_alloc (L := [.int .u8 0, .int .u32 0, .slice none (0) (0)]) (by kernel_rfl)) rfl ?_
   rintro _ w9 ⟨a2, rfl, N9⟩
   have k9 := N9.kp
   have kk9 := kk8.then_ k9
   have ne_a2_p0_0 := Nat.ne_of_gt (Nat.lt_of_lt_of_le f_p0_0_8.lt N9.le)
   have ne_a2_sn := Nat.ne_of_gt (Nat.lt_of_lt_of_le f_sn_8.lt N9.le)
   have ne_a2_d := xs_8.1.ne N9.le
   have f_a2_9 := N9.bk
   refine R_lo0 (lo_storeRow (C := [.int .u8 ((s2.ix : Nat) : Int), .int .u32 ((s2.gen : Nat) : Int), .slice s2.A (s2.X.length) (s2.c)]) f_a2_9 (by kernel_rfl) rfl rfl (by intro u hu; simp at hu; rcases hu with rfl | rfl | rfl <;> rfl) rfl) ?_
   rintro _ w10 kf10
   obtain ⟨k10, f_a2_10⟩ := kf10
   replace f_a2_10 : Bk w10 a2 ([.int .u8 ((s2.ix : Nat) : Int), .int .u32 ((s2.gen : Nat) : Int), .slice s2.A (s2.X.length) (s2.c)]) 51 := f_a2_10
   have kk10 := kk9.trans k10 (fun i hi => .inr (hi ▸ (Nat.le_trans kk8.size N9.le)))
   refine R_nil <| X_then hK20 <| C_seq fun K21 hK21 => C_seq (fun K22 hK22 => ?_)
   have f23 := ((f_p0_0_8.no k9).on k10 (Ne.symm ne_a2_p0_0))
   have f24 := ((f_sn_8.no k9).on k10 (Ne.symm ne_a2_sn))
   refine D_begin (fun W => Kp No w W ∧ Bk W p0_0 ([.int .i64 ((q + 1 : Nat) : Int), .int .i64 ((nn : Nat) : Int), .int .u32 ((ge : Nat) : Int)]) 34 ∧ Bk W sn (bL (seen0 (ixs M) i)) 173 ∧ Bk W a2 ([.int .u8 ((s2.ix : Nat) : Int), .int .u32 ((s2.gen : Nat) : Int), .slice s2.A (s2.X.length) (s2.c)]) 51) 22 rfl (by kernel_rfl) ⟨kk10.drew, f23.draw, f24.draw, f_a2_10.draw⟩ ?_
   intro w11 k11 _
   have kk11 := kk10.then_ k11
   refine Dt 0 rfl (fun W hS => pu_fieldAddr (off := 0) (o' := 0) (by kernel_rfl) rfl rfl) <| Dt 1 rfl (fun W hS => pu_loadK hS.2.2.2 (by kernel_rfl) rfl rfl) <| Dt 2 rfl (fun W hS => pu_indexAddrA (m := s2.ix) (s := 1) (o' := s2.ix) Tryz.underlying173 (by kernel_rfl) rfl rfl rfl (by omega) (by omega)) <| Dt 3 rfl (fun W hS => pu_b (pu_loadK hS.2.2.1 (by kernel_rfl) rfl (bL_get (by omega))) (seen0_no hG.di (hG.ixi e_s2) (ixs_get e_s2))) <| Dt 4 rfl (fun W hS => pu_move rfl) <| Dg 5 rfl (fun W hS => pu_fieldAddr (off := 2) (o' := 2) (by kernel_rfl) rfl rfl) <| Dg 6 rfl (fun W hS => pu_loadK hS.2.2.2 (by kernel_rfl) rfl rfl) <| Dg 7 rfl (fun W hS => pu_len Tryz.underlying22 rfl) <| Dg 8 rfl (fun W hS => pu_move rfl) ?_
   obtain ⟨s0, e_s0⟩ : ∃ q_, (M)[0]? = some q_ := ⟨_, List.getElem?_eq_getElem (by first | omega | (simp; done) | (simp; omega))⟩
   have ok_s0 := HS.get e_s0
   have okb_s0 := ok_s0.bs
   have bi_s0 : s0.ix < 256 := ok_s0.ix
   refine Dg 9 rfl (fun W hS => pu_indexAddrH (HS.keptNo hS.1) Tryz.underlying37 (by kernel_rfl) rfl rfl rfl rfl e_s0) <| Dg 10 rfl (fun W hS => pu_fieldAddrH (off := 2) (HS.keptNo hS.1) e_s0 (by kernel_rfl) rfl) <| Dg 11 rfl (fun W hS => pu_loadH (HS.keptNo hS.1) e_s0 (by kernel_rfl) rfl rfl) <| Dg 12 rfl (fun W hS => pu_len Tryz.underlying22 rfl) <| Dg 13 rfl (fun W hS => pu_false (pu_neq (p := s2.X.length = s0.X.length) rfl rfl (by omega)) (fun h => h ((hG.leni e_s2).trans (hG.leni e_s0).symm))) <| Dt 14 rfl (fun W hS => pu_pickf rfl rfl) <| Dt 15 rfl (fun W hS => pu_move rfl) <| Dg 16 rfl (fun W hS => pu_fieldAddr (off := 2) (o' := 2) (by kernel_rfl) rfl rfl) <| Dg 17 rfl (fun W hS => pu_loadK hS.2.2.2 (by kernel_rfl) rfl rfl) <| Dg 18 rfl (fun W hS => pu_len Tryz.underlying22 rfl) <| D_one 19 (by kernel_rfl) (Nx_glo rfl rfl rfl (lo_call (by kernel_rfl) rfl (shamir_sized s2.X.length _)) rfl ?_)
   rintro _ w12 ⟨rfl, k12⟩
   have kk12 := kk11.then_ k12
   have f25 := ((f23.no k11).no k12)
   have f26 := ((f24.no k11).no k12)
   have f27 := ((f_a2_10.no k11).no k12)
   refine ⟨⟨kk12, f25, f26, f27⟩, ?_⟩
   refine Dg 20 rfl (fun W hS => pu_false (pu_notd rfl) (fun h => h (by rw [hG.leni e_s2]; exact ⟨hG.n1, hG.n2⟩))) <| Dt 21 rfl (fun W hS => pu_pickf rfl rfl) <| D_done (by kernel_rfl) <| X_then hK22 <| C_false rfl <| C_skip <| X_then hK21 <| C_seq fun K28 hK28 => C_region <| Rp (pu_fieldAddr (off := 0) (o' := 0) (by kernel_rfl) rfl rfl) <| Rp (pu_loadK f27 (by kernel_rfl) rfl rfl) <| Rp (pu_indexAddrA (m := s2.ix) (s := 1) (o' := s2.ix) Tryz.underlying173 (by kernel_rfl) rfl rfl rfl (by omega) (by omega)) <| R_lo0 (lo_store f26 (by kernel_rfl) rfl rfl rfl (by rw [bL_length]; omega)) ?_
   rintro _ w13 kf13
   obtain ⟨k13, f_sn_13⟩ := kf13
   replace f_sn_13 := Bk.eq f_sn_13 bL_set
   replace f_sn_13 : Bk w13 sn (bL (fun v => decide (v = s2.ix) || seen0 (ixs M) i v)) 173 := f_sn_13
   have kk13 := kk12.trans k13 (fun i hi => .inr (hi ▸ (Nat.le_trans kk2.size N5.le)))
   refine R_nil <| X_then hK28 <| C_region <| Rp (pu_move rfl) <| Rp (pu_fieldAddr (off := 0) (o' := 0) (by kernel_rfl) rfl rfl) ?_
   have f29 := (f27.on k13 ne_a2_sn)
   refine Rp (pu_loadK f29 (by kernel_rfl) rfl rfl) ?_
   have f30 := (f25.on k13 (Ne.symm ne_sn_p0_0))
   have ob31 := (((((xs_8.1.keptNo k9).onF k10 (Ne.symm ne_a2_d)).keptNo k11).keptNo k12).onF k13 ne_d_sn)
   refine R_lo (lo_buildSlice (L := u8s ([s2.ix])) Tryz.underlying22 rfl (by kernel_rfl)) rfl ?_
   rintro _ w14 ⟨p15_3, rfl, N14⟩
   have k14 := N14.kp
   have kk14 := kk13.then_ k14
   have f_p15_3_14 := N14.bk
   have ob32 := (ob31.keptNo k14)
   refine R_lo (lo_appFit (X := (ixs M).take i) (Y := [s2.ix]) ob32 ob32.le.1 rfl rfl (show By 1 [s2.ix] from ⟨rfl, fun n hn => by rw [List.mem_singleton.1 hn]; exact ok_s2.ix⟩).1 (Bs.ofBk f_p15_3_14 (show By 1 [s2.ix] from ⟨rfl, fun n hn => by rw [List.mem_singleton.1 hn]; exact ok_s2.ix⟩)) (by simp) (by rw [List.length_take, ixs_length]; simp; omega)) rfl ?_
   rintro _ w15 ⟨rfl, q15, k15⟩
   have kk15 := kk14.trans k15 (fun i hi => .inr (hi ▸ (Nat.le_trans kk6.size N7.le)))
   refine Rp (pu_assign rfl) <| R_nil <| X_in_normal <| X_then hK19 <| C_region <| Rp (pu_add (z := ((i + 1 : Nat) : Int)) rfl rfl (by rw [IntKind.wrap_i64]; omega)) <| Rp (pu_move rfl) <| R_nil ?_
   have f33 := ((f30.no k14).on k15 (Ne.symm ne_d_p0_0))
   have f34 := ((f_sn_13.no k14).on k15 (Ne.symm ne_d_sn))
   refine X_round (M.length - (i + 1)) [(0, .slice A (M.length) (c)), (8, .pointer (some ⟨sn, 0, none⟩)), (9, .slice (some ⟨d, 0, none⟩) (((ixs M).take (i + 1)).length) (M.length)), (29, .slice A (M.length) (c)), (30, .int .i64 ((M.length : Nat) : Int)), (31, .int .i64 (((i + 1) : Nat) : Int))] (by omega) (Sub.cons rfl (Sub.cons rfl (Sub.consE rfl (by rw [take_snoc (ixs_get e_s2)]) (Sub.cons rfl (Sub.cons rfl (Sub.cons rfl (Sub.nil _))))))) ⟨i + 1, rfl, rfl, by omega, kk15, f33, Bk.eq f34 (seen0_step (ixs_get e_s2)), ⟨by rw [← take_snoc (ixs_get e_s2)]; exact q15, (Nat.le_trans (Nat.le_trans (Nat.le_trans (Nat.le_trans (Nat.le_trans (Nat.le_trans (Nat.le_trans xs_8.2 k9.size) k10.size) k11.size) k12.size) k13.size) k14.size) k15.size)⟩⟩
  ·
   refine C_exit <| X_then_exit (X_then_exit (X_in_eq ?_))
   exact X_then hK13 <| C_seq fun K35 hK35 => C_region <| Rp (pu_move rfl) <| Rp (pu_assign rfl) <| Rp (pu_assign rfl) <| R_nil <| X_then hK35 <| C_ret <| X_ret2 (.inl rfl) rfl rfl rfl (by have hX : (ixs M).take i = ixs M := List.take_of_length_le (by rw [ixs_length]; omega); rw [hX]; have hob := xs_8.1; rw [hX] at hob; exact ⟨_, _, rfl, hob, kk8⟩)
theorem shamir_through (b : Nat) (A : Option Addr) (L : List Shr) (c q nn ge : Nat) (x N : Nat) (w : World) (HS : Ss w A L) (hm : (2 ≤ q + 1 ∧ q + 1 ≤ nn ∧ nn ≤ 255) ∧ (q + 1 ≤ L.length ∧ L.length ≤ c ∧ L.length < 9223372036854775808) ∧ ge < 4294967296 ∧ Good (L.take (q + 1)) ge N) (hx : x < 256) (aw_HS : Aws (On b) A L) (hT : Tb w b) : Ret Tryz.prog 38 #[.pointer (some ⟨b, 0, none⟩), .slice A (L.length) (c), .agg ([.int .i64 ((q + 1 : Nat) : Int), .int .i64 ((nn : Nat) : Int), .int .u32 ((ge : Nat) : Int)] : List Value).toArray, .int .u8 ((x : Nat) : Int)] w (fun v w' => ∃ A c, v = .tuple #[.slice A (thX (L.take (q + 1)) N x).length c, .nilIface] ∧ Ob w' w.heap.size (.slice A (thX (L.take (q + 1)) N x).length c) (thX (L.take (q + 1)) N x) ∧ Tb w' b ∧ Kp (On b) w w') := by
 obtain ⟨hP, ⟨hl1, hl2, hl3⟩, hge, hG⟩ := hm
 have hN1 := hG.n1; have hN2 := hG.n2
 have kk0 := Kp.refl (On b) w
 refine enter (n := 92) [.pointer (some ⟨b, 0, none⟩), .slice A (L.length) (c), .agg ([.int .i64 ((q + 1 : Nat) : Int), .int .i64 ((nn : Nat) : Int), .int .u32 ((ge : Nat) : Int)] : List Value).toArray, .int .u8 ((x : Nat) : Int)] Tryz.func38 rfl rfl rfl ?_
 show Cw _ _ _ _ [(0, .pointer (some ⟨b, 0, none⟩)), (1, .slice A (L.length) (c)), (2, .agg ([.int .i64 ((q + 1 : Nat) : Int), .int .i64 ((nn : Nat) : Int), .int .u32 ((ge : Nat) : Int)] : List Value).toArray), (3, .int .u8 ((x : Nat) : Int))] _
 refine C_seq fun K1 hK1 => C_region <| R_lo (lo_box (L := [.int .i64 ((q + 1 : Nat) : Int), .int .i64 ((nn : Nat) : Int), .int .u32 ((ge : Nat) : Int)]) rfl rfl) rfl ?_
 rintro _ w1 ⟨p0_0, rfl, N1⟩
 have k1 := N1.kp
 have kk1 := kk0.thenNo k1
 have ne_p0_0_b := Nat.ne_of_gt (Nat.lt_of_lt_of_le hT.lt N1.le)
 have f_p0_0_1 := N1.bk
 refine Rp (pu_assign rfl) <| Rp (pu_assign rfl) <| R_nil <| X_then hK1 <| C_seq fun K2 hK2 => C_block <| C_seq fun K3 hK3 => C_region <| Rp (pu_move rfl) <| Rp (pu_eqlpn (by kernel_rfl) rfl rfl) <| Rp (pu_move rfl) <| Rg (pu_loadRow (len := 3) f_p0_0_1 (by kernel_rfl) (by kernel_rfl) rfl rfl) <| R_glo rfl rfl (lo_call (by kernel_rfl) rfl (shamir_check_yes q nn ge _ hP)) rfl ?_
 rintro _ w2 ⟨rfl, k2⟩
 have kk2 := kk1.thenNo k2
 refine Rg (pu_neqnn (by kernel_rfl) rfl) <| Rp (pu_pickf rfl rfl) <| Rp (pu_assign rfl) <| R_nil <| X_then hK3 <| C_false rfl <| C_seq fun K4 hK4 => C_region <| Rp (pu_move rfl) <| Rp (pu_len Tryz.underlying37 rfl) <| Rp (pu_fieldAddr (off := 0) (o' := 0) (by kernel_rfl) rfl rfl) ?_
 have f5 := (f_p0_0_1.no k2)
 refine Rp (pu_loadK f5 (by kernel_rfl) rfl rfl) <| Rp (pu_false (pu_lss (p := L.length < (q + 1)) rfl rfl (by omega)) (by omega)) <| Rp (pu_assign rfl) <| R_nil <| X_then hK4 <| C_false rfl <| C_skip <| X_in_normal <| X_then hK2 <| C_seq fun K6 hK6 => C_region <| Rp (pu_move rfl) <| Rp (pu_fieldAddr (off := 0) (o' := 0) (by kernel_rfl) rfl rfl) <| Rp (pu_loadK f5 (by kernel_rfl) rfl rfl) ?_
 have HSt7 := HS.take (q + 1)
 have aw_HSt7 := aw_HS.take (q + 1)
 have ln_HSt7 : (L.take (q + 1)).length = q + 1 := by rw [List.length_take]; omega
 refine Rp (pu_sliceHi (hi := q + 1) (s := 3) Tryz.underlying37 (by kernel_rfl) rfl rfl rfl (by omega)) <| Rp (pu_assign rfl) <| R_nil <| X_then hK6 <| C_seq (fun K8 hK8 => ?_)
 obtain ⟨M, hM⟩ : ∃ M, M = L.take (q + 1) := ⟨_, rfl⟩
 have hML : M.length = q + 1 := by rw [hM, List.length_take]; omega
 have HSM : Ss w A M := by rw [hM]; exact HS.take _
 have aw_HSM : Aws (On b) A M := by rw [hM]; exact aw_HS.take _
 rw [← hM] at hG
 refine C_region <| Rp (pu_move rfl) <| Rp (pu_loadRow (len := 3) f5 (by kernel_rfl) (by kernel_rfl) rfl rfl) ?_
 have o9 := ((hT.no k1).no k2)
 refine R_lo (lo_callE (by kernel_rfl) rfl (by rw [hML] <;> rfl) (shamir_places A M c q nn ge _ (HSM.keptS kk2 aw_HSM) ⟨⟨by omega, by omega, by omega⟩, hge, N, hG⟩)) rfl ?_
 rintro _ w3 ⟨A_xs, c_xs, rfl, Q3, k3⟩
 have kk3 := kk2.thenNo k3
 have z10 := k3.size
 refine Rp (pu_move rfl) <| Rp (pu_extract rfl rfl) <| Rp (pu_extract rfl rfl) <| Rp (pu_assign rfl) <| Rp (pu_assign rfl) <| R_nil <| X_then hK8 <| C_seq fun K11 hK11 => C_seq fun K12 hK12 => C_region <| Rp (pu_move rfl) <| Rp (pu_neqnn (by kernel_rfl) rfl) <| R_nil <| X_then hK12 <| C_false rfl <| C_skip <| X_then hK11 <| C_seq fun K13 hK13 => C_region <| Rp (pu_move rfl) ?_
 obtain ⟨s0, e_s0⟩ : ∃ q_, (M)[0]? = some q_ := ⟨_, List.getElem?_eq_getElem (by first | omega | (simp; done) | (simp; omega))⟩
 have ok_s0 := HSM.get e_s0
 have okb_s0 := ok_s0.bs
 have aw_okb_s0 := aw_HSM.get e_s0
 have bi_s0 : s0.ix < 256 := ok_s0.ix
 refine Rp (pu_indexAddrH (HSM.keptS kk3 aw_HSM) Tryz.underlying37 (by kernel_rfl) rfl hML rfl rfl e_s0) <| Rp (pu_fieldAddrH (off := 2) (HSM.keptS kk3 aw_HSM) e_s0 (by kernel_rfl) rfl) <| Rp (pu_loadH (HSM.keptS kk3 aw_HSM) e_s0 (by kernel_rfl) rfl rfl) <| Rp ((show Pu _ _ _ _ (.int .i64 ((N : Nat) : Int)) by rw [← hG.leni e_s0]; exact pu_len Tryz.underlying22 rfl)) ?_
 have f14 := (f5.no k3)
 have o15 := (o9.no k3)
 refine R_lo (lo_make (z := .int .u8 0) (bytes := 1) (ln := N) (cp := N) Tryz.underlying22 (by kernel_rfl) rfl rfl rfl rfl rfl (by omega) (by omega) (by omega)) rfl ?_
 rintro _ w4 ⟨o, rfl, N4⟩
 have k4 := N4.kp
 have kk4 := kk3.thenNo k4
 have ne_o_p0_0 := Nat.ne_of_gt (Nat.lt_of_lt_of_le f14.lt N4.le)
 have ne_o_b := Nat.ne_of_gt (Nat.lt_of_lt_of_le o15.lt N4.le)
 have f_o_4 : Bk w4 o (u8s (List.replicate N 0)) 5 := by rw [u8s_rep]; exact N4.bk
 refine Rp (pu_assign rfl) <| R_nil <| X_then hK13 <| C_seq fun K16 hK16 => C_region <| Rp (pu_move rfl) <| Rp (pu_len Tryz.underlying37 rfl) ?_
 have f17 := (f14.no k4)
 have o18 := (o15.no k4)
 have ob19 := (Q3.keptNo k4)
 refine R_lo (lo_make (z := .int .u8 0) (bytes := 1) (ln := q + 1) (cp := q + 1) Tryz.underlying22 (by kernel_rfl) rfl rfl rfl rfl rfl (by omega) (by omega) (by omega)) rfl ?_
 rintro _ w5 ⟨y, rfl, N5⟩
 have k5 := N5.kp
 have kk5 := kk4.thenNo k5
 have ne_y_p0_0 := Nat.ne_of_gt (Nat.lt_of_lt_of_le f17.lt N5.le)
 have ne_y_o := Nat.ne_of_gt (Nat.lt_of_lt_of_le f_o_4.lt N5.le)
 have ne_y_b := Nat.ne_of_gt (Nat.lt_of_lt_of_le o18.lt N5.le)
 have f_y_5 : Bk w5 y (u8s (List.replicate (q + 1) 0)) 5 := by rw [u8s_rep]; exact N5.bk
 refine Rp (pu_assign rfl) <| R_nil <| X_then hK16 <| C_seq fun K20 hK20 => C_seq fun K21 hK21 => C_region <| Rp (pu_move rfl) <| Rp (pu_len Tryz.underlying22 rfl) <| Rp (pu_move rfl) <| R_nil <| X_then hK21 <| C_block ?_
 have f22 := (f17.no k5)
 have f23 := (f_o_4.no k5)
 have ob24 := (ob19.keptNo k5)
 have o25 := (o18.no k5)
 refine C_loop (fun m_ l_ wr => ∃ j : Nat, ∃ yy : List Nat, (m_ = N - j) ∧ (l_ = [(0, .pointer (some ⟨b, 0, none⟩)), (1, .slice A (q + 1) (c)), (3, .int .u8 ((x : Nat) : Int)), (10, .slice A_xs ((ixs M).length) (c_xs)), (12, .slice (some ⟨o, 0, none⟩) (N) (N)), (13, .slice (some ⟨y, 0, none⟩) (q + 1) (q + 1)), (56, .int .i64 ((N : Nat) : Int)), (57, .int .i64 ((j : Nat) : Int))]) ∧ (j ≤ N) ∧ (By (q + 1) yy) ∧ (Kp (On b) w wr) ∧ (Bk wr p0_0 ([.int .i64 ((q + 1 : Nat) : Int), .int .i64 ((nn : Nat) : Int), .int .u32 ((ge : Nat) : Int)]) 34) ∧ (Bk wr o (u8s (arr N (thP M x j))) 5) ∧ (Bk wr y (u8s yy) 5) ∧ (Ob wr w2.heap.size (.slice A_xs ((ixs M).length) (c_xs)) (ixs M) ∧ w2.heap.size ≤ (wr).heap.size) ∧ (Tb wr b)) (N - 0) [(0, .pointer (some ⟨b, 0, none⟩)), (1, .slice A (q + 1) (c)), (3, .int .u8 ((x : Nat) : Int)), (10, .slice A_xs ((ixs M).length) (c_xs)), (12, .slice (some ⟨o, 0, none⟩) (N) (N)), (13, .slice (some ⟨y, 0, none⟩) (q + 1) (q + 1)), (56, .int .i64 ((N : Nat) : Int)), (57, .int .i64 0)] (Sub.cons rfl (Sub.cons rfl (Sub.cons rfl (Sub.cons rfl (Sub.cons rfl (Sub.cons rfl (Sub.cons rfl (Sub.cons rfl (Sub.nil _))))))))) ⟨0, List.replicate (q + 1) 0, rfl, rfl, by omega, (rep_by (q + 1)), kk5, f22, Bk.eq f23 (congrArg u8s (thP_zero M N x)), Bk.eq f_y_5 (congrArg u8s rfl), ⟨ob24, (Nat.le_trans (Nat.le_trans z10 k4.size) k5.size)⟩, o25⟩ ?_
 rintro _ _ w6 ⟨j, yy, rfl, rfl, hj, hyy, kk6, f_p0_0_6, f_o_6, f_y_6, xs_6, T_6⟩
 refine C_seq fun K26 hK26 => C_region <| Rp (pu_lss (p := j < N) rfl rfl (by omega)) <| R_nil <| X_then hK26 <| C_seq fun K27 hK27 => C_dec rfl (fun h58 => ?_) (fun h58 => ?_)
 ·
  refine C_skip <| X_then hK27 <| C_seq fun K28 hK28 => C_block <| C_seq fun K29 hK29 => C_region <| Rp (pu_move rfl) <| Rp (pu_assign rfl) <| R_nil <| X_then hK29 <| C_seq fun K30 hK30 => C_seq fun K31 hK31 => C_region <| Rp (pu_move rfl) <| Rp (pu_len Tryz.underlying37 rfl) <| Rp (pu_move rfl) <| R_nil <| X_then hK31 <| C_block <| C_loop (fun m_ l_ wr => ∃ i : Nat, (m_ = q + 1 - i) ∧ (l_ = [(0, .pointer (some ⟨b, 0, none⟩)), (1, .slice A (q + 1) (c)), (3, .int .u8 ((x : Nat) : Int)), (10, .slice A_xs ((ixs M).length) (c_xs)), (12, .slice (some ⟨o, 0, none⟩) (N) (N)), (13, .slice (some ⟨y, 0, none⟩) (q + 1) (q + 1)), (14, .int .i64 ((j : Nat) : Int)), (56, .int .i64 ((N : Nat) : Int)), (57, .int .i64 ((j : Nat) : Int)), (60, .slice A (q + 1) (c)), (61, .int .i64 ((q + 1 : Nat) : Int)), (62, .int .i64 ((i : Nat) : Int))]) ∧ (i ≤ q + 1) ∧ (Kp (On b) w wr) ∧ (Bk wr p0_0 ([.int .i64 ((q + 1 : Nat) : Int), .int .i64 ((nn : Nat) : Int), .int .u32 ((ge : Nat) : Int)]) 34) ∧ (Bk wr o (u8s (arr N (thP M x j))) 5) ∧ (Bk wr y (u8s ((ysL M j).take i ++ yy.drop i)) 5) ∧ (Ob wr w2.heap.size (.slice A_xs ((ixs M).length) (c_xs)) (ixs M) ∧ w2.heap.size ≤ (wr).heap.size) ∧ (Tb wr b)) (q + 1 - 0) [(0, .pointer (some ⟨b, 0, none⟩)), (1, .slice A (q + 1) (c)), (3, .int .u8 ((x : Nat) : Int)), (10, .slice A_xs ((ixs M).length) (c_xs)), (12, .slice (some ⟨o, 0, none⟩) (N) (N)), (13, .slice (some ⟨y, 0, none⟩) (q + 1) (q + 1)), (14, .int .i64 ((j : Nat) : Int)), (56, .int .i64 ((N : Nat) : Int)), (57, .int .i64 ((j : Nat) : Int)), (60, .slice A (q + 1) (c)), (61, .int .i64 ((q + 1 : Nat) : Int)), (62, .int .i64 0)] (Sub.cons rfl (Sub.cons rfl (Sub.cons rfl (Sub.cons rfl (Sub.cons rfl (Sub.cons rfl (Sub.cons rfl (Sub.cons rfl (Sub.cons rfl (Sub.cons rfl (Sub.cons rfl (Sub.cons rfl (Sub.nil _))))))))))))) ⟨0, rfl, rfl, by omega, kk6, f_p0_0_6, f_o_6, Bk.eq f_y_6 (congrArg u8s rfl), ⟨xs_6.1, xs_6.2⟩, T_6⟩ ?_
  rintro _ _ w7 ⟨i, rfl, rfl, hi, kk7, f_p0_0_7, f_o_7, f_y_7, xs_7, T_7⟩
  refine C_seq fun K32 hK32 => C_region <| Rp (pu_lss (p := i < (q + 1)) rfl rfl (by omega)) <| R_nil <| X_then hK32 <| C_seq fun K33 hK33 => C_dec rfl (fun h63 => ?_) (fun h63 => ?_)
  ·
   refine C_skip <| X_then hK33 <| C_seq fun K34 hK34 => C_block <| C_seq fun K35 hK35 => C_region <| Rp (pu_move rfl) ?_
   obtain ⟨s3, e_s3⟩ : ∃ q_, (M)[i]? = some q_ := ⟨_, List.getElem?_eq_getElem (by first | omega | (simp; done) | (simp; omega))⟩
   have ok_s3 := HSM.get e_s3
   have okb_s3 := ok_s3.bs
   have aw_okb_s3 := aw_HSM.get e_s3
   have bi_s3 : s3.ix < 256 := ok_s3.ix
   refine Rp (pu_indexAddrH (HSM.keptS kk7 aw_HSM) Tryz.underlying37 (by kernel_rfl) rfl hML rfl rfl e_s3) <| Rp (pu_loadHr (HSM.keptS kk7 aw_HSM) e_s3 (by kernel_rfl) (by kernel_rfl) rfl) <| R_lo (lo_alloc (L := [.int .u8 0, .int .u32 0, .slice none (0) (0)]) (by kernel_rfl)) rfl ?_
   rintro _ w8 ⟨a3, rfl, N8⟩
   have k8 := N8.kp
   have kk8 := kk7.thenNo k8
   have ne_a3_p0_0 := Nat.ne_of_gt (Nat.lt_of_lt_of_le f_p0_0_7.lt N8.le)
   have ne_a3_o := Nat.ne_of_gt (Nat.lt_of_lt_of_le f_o_7.lt N8.le)
   have ne_a3_y := Nat.ne_of_gt (Nat.lt_of_lt_of_le f_y_7.lt N8.le)
   have ne_a3_b := Nat.ne_of_gt (Nat.lt_of_lt_of_le T_7.lt N8.le)
   have f_a3_8 := N8.bk
   refine Rp (pu_assign rfl) <| R_lo0 (lo_storeRow (C := [.int .u8 ((s3.ix : Nat) : Int), .int .u32 ((s3.gen : Nat) : Int), .slice s3.A (s3.X.length) (s3.c)]) f_a3_8 (by kernel_rfl) rfl rfl (by intro u hu; simp at hu; rcases hu with rfl | rfl | rfl <;> rfl) rfl) ?_
   rintro _ w9 kf9
   obtain ⟨k9, f_a3_9⟩ := kf9
   replace f_a3_9 : Bk w9 a3 ([.int .u8 ((s3.ix : Nat) : Int), .int .u32 ((s3.gen : Nat) : Int), .slice s3.A (s3.X.length) (s3.c)]) 51 := f_a3_9
   have kk9 := kk8.trans k9 (fun i hi => .inr (hi ▸ (Nat.le_trans kk7.size N8.le)))
   refine R_nil <| X_then hK35 ?_
   have l3 := hG.leni e_s3
   refine C_region <| Rp (pu_move rfl) <| Rp (pu_move rfl) <| Rp (pu_fieldAddr (off := 2) (o' := 2) (by kernel_rfl) rfl rfl) <| Rp (pu_loadK f_a3_9 (by kernel_rfl) rfl rfl) <| Rp (pu_move rfl) <| Rp (pu_indexAddrB (m := j) (okb_s3.keptS kk9 aw_okb_s3) Tryz.underlying22 (by kernel_rfl) rfl rfl rfl rfl (by omega)) ?_
   obtain ⟨n3, e_n3⟩ : ∃ q_, (s3.X)[j]? = some q_ := ⟨_, List.getElem?_eq_getElem (by omega)⟩
   have b_n3 : n3 < 256 := ((okb_s3.keptS kk9 aw_okb_s3)).lt e_n3
   refine Rp (pu_loadB (okb_s3.keptS kk9 aw_okb_s3) (by kernel_rfl) rfl e_n3) <| Rp (pu_indexAddrP (m := i) (s := 1) (o' := i) Tryz.underlying22 (by kernel_rfl) rfl rfl rfl (by omega) (by omega)) ?_
   have f36 := ((f_y_7.no k8).on k9 (Ne.symm ne_a3_y))
   refine R_lo0 (lo_store f36 (by kernel_rfl) rfl rfl rfl (by rw [u8s_length, (mix_by (ysL_bl HSM j) (by rw [ysL_length]; exact hML) hyy i).1]; omega)) ?_
   rintro _ w10 kf10
   obtain ⟨k10, f_y_10⟩ := kf10
   replace f_y_10 := Bk.eq f_y_10 (u8s_set _ _ n3)
   replace f_y_10 : Bk w10 y (u8s (((ysL M j).take i ++ yy.drop i).set i n3)) 5 := f_y_10
   have kk10 := kk9.trans k10 (fun i hi => .inr (hi ▸ (Nat.le_trans kk4.size N5.le)))
   refine R_nil <| X_in_normal <| X_then hK34 <| C_region <| Rp (pu_add (z := ((i + 1 : Nat) : Int)) rfl rfl (by rw [IntKind.wrap_i64]; omega)) <| Rp (pu_move rfl) <| R_nil ?_
   have f37 := (((f_p0_0_7.no k8).on k9 (Ne.symm ne_a3_p0_0)).on k10 (Ne.symm ne_y_p0_0))
   have f38 := (((f_o_7.no k8).on k9 (Ne.symm ne_a3_o)).on k10 (Ne.symm ne_y_o))
   have ob39 := (((xs_7.1.keptNo k8).onN k9 xs_7.1 N8.le).onN k10 ob19 N5.le)
   have o40 := (((T_7.no k8).on k9 (Ne.symm ne_a3_b)).on k10 (Ne.symm ne_y_b))
   refine X_round (q + 1 - (i + 1)) [(0, .pointer (some ⟨b, 0, none⟩)), (1, .slice A (q + 1) (c)), (3, .int .u8 ((x : Nat) : Int)), (10, .slice A_xs ((ixs M).length) (c_xs)), (12, .slice (some ⟨o, 0, none⟩) (N) (N)), (13, .slice (some ⟨y, 0, none⟩) (q + 1) (q + 1)), (14, .int .i64 ((j : Nat) : Int)), (56, .int .i64 ((N : Nat) : Int)), (57, .int .i64 ((j : Nat) : Int)), (60, .slice A (q + 1) (c)), (61, .int .i64 ((q + 1 : Nat) : Int)), (62, .int .i64 (((i + 1) : Nat) : Int))] (by omega) (Sub.cons rfl (Sub.cons rfl (Sub.cons rfl (Sub.cons rfl (Sub.cons rfl (Sub.cons rfl (Sub.cons rfl (Sub.cons rfl (Sub.cons rfl (Sub.cons rfl (Sub.cons rfl (Sub.cons rfl (Sub.nil _))))))))))))) ⟨i + 1, rfl, rfl, by omega, kk10, f37, f38, Bk.eq f_y_10 (congrArg u8s (mix_set (ysL_get e_s3 e_n3) (by rw [ysL_length]; exact hML) hyy.1)), ⟨ob39, (Nat.le_trans (Nat.le_trans (Nat.le_trans xs_7.2 k8.size) k9.size) k10.size)⟩, o40⟩
  ·
   refine C_exit <| X_then_exit (X_then_exit (X_in_eq ?_))
   refine X_then hK30 <| C_seq fun K41 hK41 => C_region <| Rp (pu_move rfl) <| Rp (pu_move rfl) <| Rp (pu_move rfl) <| Rp (pu_move rfl) <| Rp (pu_move rfl) <| Rp (pu_move rfl) <| R_lo (lo_callE (by kernel_rfl) rfl (by rw [(mix_by (ysL_bl HSM j) (by rw [ysL_length]; exact hML) hyy i).1] <;> rfl) (poly_interp b A_xs (ixs M) c_xs (some ⟨y, 0, none⟩) ((ysL M j).take i ++ yy.drop i) (q + 1) x hx _ xs_7.1.bs xs_7.1.le.2 (Bs.ofBk f_y_7 (mix_by (ysL_bl HSM j) (by rw [ysL_length]; exact hML) hyy i)) (Nat.le_of_eq (mix_by (ysL_bl HSM j) (by rw [ysL_length]; exact hML) hyy i).1) (by have hm_ := ((hG.may (by omega) (by omega))).2; omega) (by have hbl_ := (mix_by (ysL_bl HSM j) (by rw [ysL_length]; exact hML) hyy i).1; omega) (hG.may (by omega) (by omega)) (by rw [ixs_length, List.length_append, List.length_take, List.length_drop, ysL_length, hyy.1]; omega) (Aw.ofOb xs_7.1 (by have := o9.lt; omega)) (Aw.ofBk ne_y_b) T_7)) rfl ?_
   rintro _ w11 ⟨rfl, T11, k11⟩
   have kk11 := kk7.trans k11 (fun i hi => .inl hi)
   refine Rp (pu_move rfl) <| Rp (pu_extract rfl rfl) <| Rp (pu_extract rfl rfl) <| Rp (pu_indexAddrP (m := j) (s := 1) (o' := j) Tryz.underlying22 (by kernel_rfl) rfl rfl rfl (by omega) (by omega)) ?_
   have f42 := (f_o_7.on k11 ne_o_b)
   refine R_lo0 (lo_store f42 (by kernel_rfl) rfl rfl rfl (by rw [u8s_length, (thP_by _ _ _ _).1]; omega)) ?_
   rintro _ w12 kf12
   obtain ⟨k12, f_o_12⟩ := kf12
   replace f_o_12 := Bk.eq f_o_12 (u8s_set _ _ (ipN (ixs M) ((ysL M j).take i ++ yy.drop i) x (ixs M).length))
   replace f_o_12 : Bk w12 o (u8s ((arr N (thP M x j)).set j (ipN (ixs M) ((ysL M j).take i ++ yy.drop i) x (ixs M).length))) 5 := f_o_12
   have kk12 := kk11.trans k12 (fun i hi => .inr (hi ▸ (Nat.le_trans kk3.size N4.le)))
   refine Rp (pu_assign rfl) <| R_nil <| X_then hK41 <| C_seq fun K43 hK43 => C_region <| Rp (pu_move rfl) <| Rp (pu_neqnn (by kernel_rfl) rfl) <| R_nil <| X_then hK43 <| C_false rfl <| C_skip <| X_in_normal <| X_then hK28 <| C_region <| Rp (pu_add (z := ((j + 1 : Nat) : Int)) rfl rfl (by rw [IntKind.wrap_i64]; omega)) <| Rp (pu_move rfl) <| R_nil ?_
   have f44 := ((f_p0_0_7.on k11 ne_p0_0_b).on k12 (Ne.symm ne_o_p0_0))
   have f45 := ((f_y_7.on k11 ne_y_b).on k12 ne_y_o)
   have ob46 := ((xs_7.1.on k11 (by have := o9.lt; omega)).onN k12 Q3 N4.le)
   have o47 := (T11.on k12 (Ne.symm ne_o_b))
   refine X_round (N - (j + 1)) [(0, .pointer (some ⟨b, 0, none⟩)), (1, .slice A (q + 1) (c)), (3, .int .u8 ((x : Nat) : Int)), (10, .slice A_xs ((ixs M).length) (c_xs)), (12, .slice (some ⟨o, 0, none⟩) (N) (N)), (13, .slice (some ⟨y, 0, none⟩) (q + 1) (q + 1)), (56, .int .i64 ((N : Nat) : Int)), (57, .int .i64 (((j + 1) : Nat) : Int))] (by omega) (Sub.cons rfl (Sub.cons rfl (Sub.cons rfl (Sub.cons rfl (Sub.cons rfl (Sub.cons rfl (Sub.cons rfl (Sub.cons rfl (Sub.nil _))))))))) ⟨j + 1, (ysL M j).take i ++ yy.drop i, rfl, rfl, by omega, (mix_by (ysL_bl HSM j) (by rw [ysL_length]; exact hML) hyy i), kk12, f44, Bk.eq f_o_12 (congrArg u8s (thP_step (by unfold thv; rw [mix_end (by rw [ysL_length]; omega) (by rw [hyy.1]; omega)]))), Bk.eq f45 (congrArg u8s rfl), ⟨ob46, (Nat.le_trans (Nat.le_trans xs_7.2 k11.size) k12.size)⟩, o47⟩
 ·
  refine C_exit <| X_then_exit (X_then_exit (X_in_eq ?_))
  exact X_then hK20 <| C_seq fun K48 hK48 => C_region <| Rp (pu_move rfl) <| Rp (pu_assign rfl) <| Rp (pu_assign rfl) <| R_nil <| X_then hK48 <| C_ret <| X_ret2 (.inl rfl) rfl rfl rfl (by have hE : arr N (thP M x j) = thX (L.take (q + 1)) N x := (by rw [← hM]; exact thP_end (by omega)); rw [← hE]; exact ⟨some ⟨o, 0, none⟩, N, by rw [arr_length], by rw [arr_length]; exact Ob.made f_o_6 (Nat.le_trans kk3.size N4.le) (arr_length _ _) (by unfold maxLen; omega) (thP_by _ _ _ _).2, T_6, kk6⟩)
theorem shamir_through_short (b : Nat) (A : Option Addr) (L : List Shr) (c q nn ge : Nat) (x : Nat) (w : World) (HS : Ss w A L) (hm : (2 ≤ q + 1 ∧ q + 1 ≤ nn ∧ nn ≤ 255) ∧ L.length < q + 1 ∧ ge < 4294967296 ∧ L.length < 9223372036854775808) : Ret Tryz.prog 38 #[.pointer (some ⟨b, 0, none⟩), .slice A (L.length) (c), .agg ([.int .i64 ((q + 1 : Nat) : Int), .int .i64 ((nn : Nat) : Int), .int .u32 ((ge : Nat) : Int)] : List Value).toArray, .int .u8 ((x : Nat) : Int)] w (fun v w' => v = .tuple #[.slice none 0 0, errE 2] ∧ Kp No w w') := by
 have kk0 := Kp.refl No w
 refine enter (n := 92) [.pointer (some ⟨b, 0, none⟩), .slice A (L.length) (c), .agg ([.int .i64 ((q + 1 : Nat) : Int), .int .i64 ((nn : Nat) : Int), .int .u32 ((ge : Nat) : Int)] : List Value).toArray, .int .u8 ((x : Nat) : Int)] Tryz.func38 rfl rfl rfl ?_
 show Cw _ _ _ _ [(0, .pointer (some ⟨b, 0, none⟩)), (1, .slice A (L.length) (c)), (2, .agg ([.int .i64 ((q + 1 : Nat) : Int), .int .i64 ((nn : Nat) : Int), .int .u32 ((ge : Nat) : Int)] : List Value).toArray), (3, .int .u8 ((x : Nat) : Int))] _
 refine C_seq fun K1 hK1 => C_region <| R_lo (lo_box (L := [.int .i64 ((q + 1 : Nat) : Int), .int .i64 ((nn : Nat) : Int), .int .u32 ((ge : Nat) : Int)]) rfl rfl) rfl ?_
 rintro _ w1 ⟨p0_0, rfl, N1⟩
 have k1 := N1.kp
 have kk1 := kk0.then_ k1
 have f_p0_0_1 := N1.bk
 refine Rp (pu_assign rfl) <| Rp (pu_assign rfl) <| R_nil <| X_then hK1 <| C_seq fun K2 hK2 => C_block <| C_seq fun K3 hK3 => C_region <| Rp (pu_move rfl) <| Rp (pu_eqlpn (by kernel_rfl) rfl rfl) <| Rp (pu_move rfl) <| Rg (pu_loadRow (len := 3) f_p0_0_1 (by kernel_rfl) (by kernel_rfl) rfl rfl) <| R_glo rfl rfl (lo_call (by kernel_rfl) rfl (shamir_check_yes q nn ge _ hm.1)) rfl ?_
 rintro _ w2 ⟨rfl, k2⟩
 have kk2 := kk1.then_ k2
 refine Rg (pu_neqnn (by kernel_rfl) rfl) <| Rp (pu_pickf rfl rfl) <| Rp (pu_assign rfl) <| R_nil <| X_then hK3 <| C_false rfl <| C_seq fun K4 hK4 => C_region <| Rp (pu_move rfl) <| Rp (pu_len Tryz.underlying37 rfl) <| Rp (pu_fieldAddr (off := 0) (o' := 0) (by kernel_rfl) rfl rfl) ?_
 have f5 := (f_p0_0_1.no k2)
 refine Rp (pu_loadK f5 (by kernel_rfl) rfl rfl) <| Rp (pu_true (pu_lss (p := L.length < (q + 1)) rfl rfl (by omega)) hm.2.1) <| Rp (pu_assign rfl) <| R_nil <| X_then hK4 <| C_true rfl <| C_seq fun K6 hK6 => C_region <| Rp (pu_makeInterface Tryz.underlying76 rfl rfl) <| Rp (pu_assign rfl) <| Rp (pu_assign rfl) <| R_nil <| X_then hK6 <| C_ret <| X_in_ret (X_then_ret ?_)
 exact X_ret2 (.inl rfl) rfl rfl rfl ⟨rfl, kk2⟩
theorem shamir_combine_short (b : Nat) (A : Option Addr) (L : List Shr) (c q nn ge : Nat) (w : World) (HS : Ss w A L) (hm : (2 ≤ q + 1 ∧ q + 1 ≤ nn ∧ nn ≤ 255) ∧ L.length < q + 1 ∧ ge < 4294967296 ∧ L.length < 9223372036854775808) : Ret Tryz.prog 21 #[.pointer (some ⟨b, 0, none⟩), .slice A (L.length) (c), .agg ([.int .i64 ((q + 1 : Nat) : Int), .int .i64 ((nn : Nat) : Int), .int .u32 ((ge : Nat) : Int)] : List Value).toArray] w (fun v w' => v = .tuple #[.slice none 0 0, errE 2] ∧ Kp No w w') := by
 have kk0 := Kp.refl No w
 refine enter (n := 14) [.pointer (some ⟨b, 0, none⟩), .slice A (L.length) (c), .agg ([.int .i64 ((q + 1 : Nat) : Int), .int .i64 ((nn : Nat) : Int), .int .u32 ((ge : Nat) : Int)] : List Value).toArray] Tryz.func21 rfl rfl rfl ?_
 show Cw _ _ _ _ [(0, .pointer (some ⟨b, 0, none⟩)), (1, .slice A (L.length) (c)), (2, .agg ([.int .i64 ((q + 1 : Nat) : Int), .int .i64 ((nn : Nat) : Int), .int .u32 ((ge : Nat) : Int)] : List Value).toArray)] _
 refine C_seq fun K1 hK1 => C_region <| R_lo (lo_box (L := [.int .i64 ((q + 1 : Nat) : Int), .int .i64 ((nn : Nat) : Int), .int .u32 ((ge : Nat) : Int)]) rfl rfl) rfl ?_
 rintro _ w1 ⟨p0_0, rfl, N1⟩
 have k1 := N1.kp
 have kk1 := kk0.then_ k1
 have f_p0_0_1 := N1.bk
 refine Rp (pu_assign rfl) <| Rp (pu_assign rfl) <| R_nil <| X_then hK1 <| C_seq fun K2 hK2 => C_region <| Rp (pu_move rfl) <| Rp (pu_move rfl) <| Rp (pu_loadRow (len := 3) f_p0_0_1 (by kernel_rfl) (by kernel_rfl) rfl rfl) <| R_lo (lo_call (by kernel_rfl) rfl (shamir_through_short b A L c q nn ge 0 _ (HS.keptNo kk1) hm)) rfl ?_
 rintro _ w2 ⟨rfl, k2⟩
 have kk2 := kk1.then_ k2
 exact Rp (pu_extract rfl rfl) <| Rp (pu_extract rfl rfl) <| Rp (pu_assign rfl) <| Rp (pu_assign rfl) <| R_nil <| X_then hK2 <| C_ret <| X_ret2 (.inl rfl) rfl rfl rfl ⟨rfl, kk2⟩
theorem shamir_combine (b : Nat) (A : Option Addr) (L : List Shr) (c q nn ge : Nat) (N : Nat) (w : World) (HS : Ss w A L) (hm : (2 ≤ q + 1 ∧ q + 1 ≤ nn ∧ nn ≤ 255) ∧ (q + 1 ≤ L.length ∧ L.length ≤ c ∧ L.length < 9223372036854775808) ∧ ge < 4294967296 ∧ Good (L.take (q + 1)) ge N) (aw_HS : Aws (On b) A L) (hT : Tb w b) : Ret Tryz.prog 21 #[.pointer (some ⟨b, 0, none⟩), .slice A (L.length) (c), .agg ([.int .i64 ((q + 1 : Nat) : Int), .int .i64 ((nn : Nat) : Int), .int .u32 ((ge : Nat) : Int)] : List Value).toArray] w (fun v w' => ∃ A c, v = .tuple #[.slice A (thX (L.take (q + 1)) N 0).length c, .nilIface] ∧ Ob w' w.heap.size (.slice A (thX (L.take (q + 1)) N 0).length c) (thX (L.take (q + 1)) N 0) ∧ Tb w' b ∧ Kp (On b) w w') := by
 have hge := hm.2.2.1
 have kk0 := Kp.refl (On b) w
 refine enter (n := 14) [.pointer (some ⟨b, 0, none⟩), .slice A (L.length) (c), .agg ([.int .i64 ((q + 1 : Nat) : Int), .int .i64 ((nn : Nat) : Int), .int .u32 ((ge : Nat) : Int)] : List Value).toArray] Tryz.func21 rfl rfl rfl ?_
 show Cw _ _ _ _ [(0, .pointer (some ⟨b, 0, none⟩)), (1, .slice A (L.length) (c)), (2, .agg ([.int .i64 ((q + 1 : Nat) : Int), .int .i64 ((nn : Nat) : Int), .int .u32 ((ge : Nat) : Int)] : List Value).toArray)] _
 refine C_seq fun K1 hK1 => C_region <| R_lo (lo_box (L := [.int .i64 ((q + 1 : Nat) : Int), .int .i64 ((nn : Nat) : Int), .int .u32 ((ge : Nat) : Int)]) rfl rfl) rfl ?_
 rintro _ w1 ⟨p0_0, rfl, N1⟩
 have k1 := N1.kp
 have kk1 := kk0.thenNo k1
 have f_p0_0_1 := N1.bk
 refine Rp (pu_assign rfl) <| Rp (pu_assign rfl) <| R_nil <| X_then hK1 <| C_seq fun K2 hK2 => C_region <| Rp (pu_move rfl) <| Rp (pu_move rfl) <| Rp (pu_loadRow (len := 3) f_p0_0_1 (by kernel_rfl) (by kernel_rfl) rfl rfl) ?_
 have o3 := (hT.no k1)
 refine R_lo (lo_call (by kernel_rfl) rfl (shamir_through b A L c q nn ge 0 N _ (HS.keptS kk1 aw_HS) hm (by decide) aw_HS o3)) rfl ?_
 rintro _ w2 ⟨A_th1, c_th1, rfl, Q2, T2, k2⟩
 have kk2 := kk1.trans k2 (fun i hi => .inl hi)
 exact Rp (pu_extract rfl rfl) <| Rp (pu_extract rfl rfl) <| Rp (pu_assign rfl) <| Rp (pu_assign rfl) <| R_nil <| X_then hK2 <| C_ret <| X_ret2 (.inl rfl) rfl rfl rfl ⟨_, _, rfl, Q2.low (by first | exact Nat.le_refl _ | exact (kk1).size), T2, kk2⟩
end Go.Proofs.YtlkbkgghfhoggaaGreatDoor
