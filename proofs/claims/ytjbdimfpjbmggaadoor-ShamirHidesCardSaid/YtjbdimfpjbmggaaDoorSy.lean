/- The body of ShamirHides. -/
import Derived.Test.YtjbdimfpjbmggaaDoorHf
set_option linter.unusedVariables false
set_option linter.unusedSimpArgs false
namespace Go.Proofs.YtjbdimfpjbmggaaDoor
open Go.RowKit Gm
set_option maxRecDepth 100000 in
set_option maxHeartbeats 2000000 in
theorem shamirHides_ (A : Option Addr) (l : List Nat) (c : Nat) (ka : Int) (hka : (Lit.int .i64 ka).wf = true) (na : Int) (hna : (Lit.int .i64 na).wf = true) (A2 : Option Addr) (d2 : List Nat) (c2 : Nat) (A5 : Option Addr) (l5 : List Nat) (c5 : Nat) (fr : Nat) (hfr : fr < 256) (w : World) (HB : Bs w A l) (hc : l.length ≤ c) (HB2 : Bs w A2 d2) (hc2 : d2.length ≤ c2) (HB5 : Bs w A5 l5) (hc5 : l5.length ≤ c5) (hG : Gt w) : Ret Tryd.prog 4 #[.agg ([.slice A (l.length) (c), .int .i64 (ka), .int .i64 (na), .slice A2 (d2.length) (c2)] : List Value).toArray, .slice A5 (l5.length) (c5), .int .u8 ((fr : Nat) : Int)] w (fun v w' => v = .bool true ∧ Kp No w w') := by
  have kk0 := Kp.refl No w
  refine enter (n := 190) [.agg ([.slice A (l.length) (c), .int .i64 (ka), .int .i64 (na), .slice A2 (d2.length) (c2)] : List Value).toArray, .slice A5 (l5.length) (c5), .int .u8 ((fr : Nat) : Int)] Tryd.func4 rfl rfl rfl ?_
  show Cw _ _ _ _ [(0, .agg ([.slice A (l.length) (c), .int .i64 (ka), .int .i64 (na), .slice A2 (d2.length) (c2)] : List Value).toArray), (1, .slice A5 (l5.length) (c5)), (2, .int .u8 ((fr : Nat) : Int))] _
  refine C_seq (fun K1 hK1 => ?_)
  refine C_region ?_
  refine R_lo (lo_box (L := [.slice A (l.length) (c), .int .i64 (ka), .int .i64 (na), .slice A2 (d2.length) (c2)]) rfl rfl) rfl ?_
  rintro _ w1 ⟨p0_0, rfl, N1⟩
  have k1 := N1.kp
  have kk1 := kk0.then_ k1
  have ne_p0_0_0 : p0_0 ≠ 0 := Nat.ne_of_gt (Nat.lt_of_lt_of_le hG.lt N1.le)
  have f_p0_0_1 : Bk w1 p0_0 ([.slice A (l.length) (c), .int .i64 (ka), .int .i64 (na), .slice A2 (d2.length) (c2)]) 46 := N1.bk
  refine R_pu (pu_assign rfl) rfl ?_
  refine R_nil ?_
  refine X_then hK1 ?_
  refine C_seq (fun K2 hK2 => ?_)
  refine C_region ?_
  refine R_pu (pu_loadRow (len := 4) f_p0_0_1 (by kernel_rfl) (by kernel_rfl) rfl rfl) rfl ?_
  refine R_lo (lo_call (by kernel_rfl) rfl (laid_ A l c ka na A2 d2 c2 _ (HB.keptNo kk1) hc (HB2.keptNo kk1) hc2)) rfl ?_
  rintro _ w2 ⟨A_S1, c_S1, A_D1, c_D1, S1, D1, q1, n1, rfl, QS2, QD2, hq1, hS1, hD1, k2⟩
  have kk2 := kk1.then_ k2
  refine R_pu (pu_move rfl) rfl ?_
  refine R_pu (pu_extract rfl rfl) rfl ?_
  refine R_pu (pu_extract rfl rfl) rfl ?_
  refine R_pu (pu_extract rfl rfl) rfl ?_
  have f3 : Bk w2 p0_0 ([.slice A (l.length) (c), .int .i64 (ka), .int .i64 (na), .slice A2 (d2.length) (c2)]) 46 := (f_p0_0_1.no k2)
  have o4 : Gt w2 := ((hG.no k1).no k2)
  refine R_lo (lo_alloc (L := [.int .i64 0, .int .i64 0, .int .u32 0]) (by kernel_rfl)) rfl ?_
  rintro _ w3 ⟨pb, rfl, N3⟩
  have k3 := N3.kp
  have kk3 := kk2.then_ k3
  have ne_pb_p0_0 : pb ≠ p0_0 := Nat.ne_of_gt (Nat.lt_of_lt_of_le f3.lt N3.le)
  have ne_pb_0 : pb ≠ 0 := Nat.ne_of_gt (Nat.lt_of_lt_of_le o4.lt N3.le)
  have f_pb_3 : Bk w3 pb ([.int .i64 0, .int .i64 0, .int .u32 0]) 28 := N3.bk
  refine R_pu (pu_assign rfl) rfl ?_
  refine R_lo0 (lo_storeRow (C := [.int .i64 ((q1 + 1 : Nat) : Int), .int .i64 ((n1 : Nat) : Int), .int .u32 5]) f_pb_3 (by kernel_rfl) rfl rfl (by intro u hu; simp at hu; rcases hu with rfl | rfl | rfl <;> rfl) rfl) ?_
  rintro _ w4 kf4
  obtain ⟨k4, f_pb_4⟩ := kf4
  replace f_pb_4 : Bk w4 pb ([.int .i64 ((q1 + 1 : Nat) : Int), .int .i64 ((n1 : Nat) : Int), .int .u32 5]) 28 := f_pb_4
  have kk4 := kk3.trans k4 (fun i hi => .inr (hi ▸ (Nat.le_trans kk2.size N3.le)))
  refine R_pu (pu_assign rfl) rfl ?_
  refine R_nil ?_
  refine X_then hK2 ?_
  refine C_seq (fun K5 hK5 => ?_)
  refine C_region ?_
  have f6 : Bk w4 p0_0 ([.slice A (l.length) (c), .int .i64 (ka), .int .i64 (na), .slice A2 (d2.length) (c2)]) 46 := ((f3.no k3).on k4 (Ne.symm ne_pb_p0_0))
  have o7 : Gt w4 := ((o4.no k3).on k4 (Ne.symm ne_pb_0))
  have ob8 := ((QS2.keptNo k3).onN k4 QS2 N3.le)
  have ob9 := ((QD2.keptNo k3).onN k4 QD2 N3.le)
  refine R_lo (lo_call (by kernel_rfl) rfl (gf_new _)) rfl ?_
  rintro _ w5 ⟨b2_0, rfl, le5, T5, k5⟩
  have kk5 := kk4.then_ k5
  have ne_b2_0_p0_0 : b2_0 ≠ p0_0 := Nat.ne_of_gt (Nat.lt_of_lt_of_le f6.lt le5)
  have ne_b2_0_pb : b2_0 ≠ pb := Nat.ne_of_gt (Nat.lt_of_lt_of_le f_pb_4.lt le5)
  have ne_b2_0_0 : b2_0 ≠ 0 := Nat.ne_of_gt (Nat.lt_of_lt_of_le o7.lt le5)
  refine R_pu (pu_assign rfl) rfl ?_
  refine R_nil ?_
  refine X_then hK5 ?_
  refine C_seq (fun K10 hK10 => ?_)
  refine C_region ?_
  have f11 : Bk w5 p0_0 ([.slice A (l.length) (c), .int .i64 (ka), .int .i64 (na), .slice A2 (d2.length) (c2)]) 46 := (f6.no k5)
  have f12 : Bk w5 pb ([.int .i64 ((q1 + 1 : Nat) : Int), .int .i64 ((n1 : Nat) : Int), .int .u32 5]) 28 := (f_pb_4.no k5)
  have o13 : Gt w5 := (o7.no k5)
  have ob14 := (ob8.keptNo k5)
  have ob15 := (ob9.keptNo k5)
  refine R_lo (lo_buildSlice0 (sz := 1) Tryd.underlying22 (by kernel_rfl)) rfl ?_
  rintro _ w6 ⟨e0, rfl, N6⟩
  have k6 := N6.kp
  have kk6 := kk5.then_ k6
  have ne_e0_p0_0 : e0 ≠ p0_0 := Nat.ne_of_gt (Nat.lt_of_lt_of_le f11.lt N6.le)
  have ne_e0_pb : e0 ≠ pb := Nat.ne_of_gt (Nat.lt_of_lt_of_le f12.lt N6.le)
  have ne_e0_0 : e0 ≠ 0 := Nat.ne_of_gt (Nat.lt_of_lt_of_le o13.lt N6.le)
  have ne_e0_b2_0 : e0 ≠ b2_0 := Nat.ne_of_gt (Nat.lt_of_lt_of_le T5.lt N6.le)
  have f_e0_6 : Bk w6 e0 (u8s ([] : List Nat)) 5 := N6.bk
  refine R_pu (pu_move rfl) rfl ?_
  have ob16 : Ob w6 w5.heap.size (.slice (some ⟨e0, 0, none⟩) ([] : List Nat).length 0) [] := Ob.low0 (t := 0) f_e0_6 N6.le
  have lm17 := ob14.top
  have lm18 := ob15.top
  have z19 := N6.kp.size
  have ob20 := (ob14.keptNo k6)
  refine R_lo (lo_app (X := ([] : List Nat)) (Y := S1) ob16 ob16.le.1 rfl rfl rfl ob20.bs (by simp; omega) z19) rfl ?_
  rintro _ w7 ⟨A_7, c_7, rfl, p7⟩
  have k7 := p7.kp
  have kk7 := kk6.trans k7 (fun i hi => .inr (Nat.le_trans (kk5).size hi))
  refine R_pu (pu_assign rfl) rfl ?_
  refine R_nil ?_
  refine X_then hK10 ?_
  refine C_seq (fun K21 hK21 => ?_)
  refine C_seq (fun K22 hK22 => ?_)
  obtain ⟨g, hA_g, hgb_g, hgl_g⟩ := p7.ob.blk (by simp; omega)
  subst hA_g
  have obf23 : Ob w7 w5.heap.size (.slice (some ⟨g, 0, none⟩) (S1.length) (c_7)) S1 := by exact p7.ob
  have ne_g_p0_0 : g ≠ p0_0 := by have := f11.lt; omega
  have ne_g_pb : g ≠ pb := by have := f12.lt; omega
  have ne_g_0 : g ≠ 0 := by have := o13.lt; omega
  have ne_g_b2_0 : g ≠ b2_0 := by have := T5.lt; omega
  have hDm := mul_most hD1 (by omega) (by omega)
  refine C_region ?_
  refine R_pu (pu_assign rfl) rfl ?_
  refine R_nil ?_
  refine X_then hK22 ?_
  refine C_block ?_
  have f24 : Bk w7 p0_0 ([.slice A (l.length) (c), .int .i64 (ka), .int .i64 (na), .slice A2 (d2.length) (c2)]) 46 := ((f11.no k6).kept k7 (by have := f11.lt; omega))
  have f25 : Bk w7 pb ([.int .i64 ((q1 + 1 : Nat) : Int), .int .i64 ((n1 : Nat) : Int), .int .u32 5]) 28 := ((f12.no k6).kept k7 (by have := f12.lt; omega))
  have ob26 := (ob20.past lm17 k7)
  have ob27 := ((ob15.keptNo k6).past lm18 k7)
  have o28 : Gt w7 := ((o13.no k6).kept k7 (by have := o13.lt; omega))
  have o29 : Tb w7 b2_0 := ((T5.no k6).kept k7 (by have := T5.lt; omega))
  refine C_loop (fun m_ l_ wr => ∃ i : Nat, ∃ ov : List Nat, (m_ = S1.length - i) ∧ (l_ = [(1, .slice A5 (l5.length) (c5)), (2, .int .u8 ((fr : Nat) : Int)), (6, .bool false), (7, .slice A_S1 ((S1).length) (c_S1)), (8, .pointer (some ⟨pb, 0, none⟩)), (9, .slice A_D1 ((D1).length) (c_D1)), (10, .pointer (some ⟨b2_0, 0, none⟩)), (11, .slice (some ⟨g, 0, none⟩) ((ov).length) (c_7)), (12, .int .i64 ((i : Nat) : Int))]) ∧ (i ≤ S1.length) ∧ (ov.length = S1.length) ∧ (Kp No w wr) ∧ (Bk wr p0_0 ([.slice A (l.length) (c), .int .i64 (ka), .int .i64 (na), .slice A2 (d2.length) (c2)]) 46) ∧ (Bk wr pb ([.int .i64 ((q1 + 1 : Nat) : Int), .int .i64 ((n1 : Nat) : Int), .int .u32 5]) 28) ∧ (Od wr 0 (.slice A_S1 ((S1).length) (c_S1)) (S1) ∧ 0 ≤ (wr).heap.size) ∧ (Od wr 0 (.slice A_D1 ((D1).length) (c_D1)) (D1) ∧ 0 ≤ (wr).heap.size) ∧ (Ob wr w5.heap.size (.slice (some ⟨g, 0, none⟩) ((ov).length) (c_7)) (ov) ∧ w5.heap.size ≤ (wr).heap.size) ∧ (Gt wr) ∧ (Tb wr b2_0)) (S1.length - 0) [(1, .slice A5 (l5.length) (c5)), (2, .int .u8 ((fr : Nat) : Int)), (6, .bool false), (7, .slice A_S1 ((S1).length) (c_S1)), (8, .pointer (some ⟨pb, 0, none⟩)), (9, .slice A_D1 ((D1).length) (c_D1)), (10, .pointer (some ⟨b2_0, 0, none⟩)), (11, .slice (some ⟨g, 0, none⟩) ((S1).length) (c_7)), (12, .int .i64 0)] (Sub.cons rfl (Sub.cons rfl (Sub.cons rfl (Sub.cons rfl (Sub.cons rfl (Sub.cons rfl (Sub.cons rfl (Sub.cons rfl (Sub.cons rfl (Sub.nil _)))))))))) ⟨0, S1, rfl, rfl, by omega, rfl, kk7, f24, f25, ⟨ob26, (Nat.zero_le _)⟩, ⟨ob27, (Nat.zero_le _)⟩, ⟨by exact obf23, (Nat.le_trans z19 k7.size)⟩, o28, o29⟩ ?_
  rintro _ _ w8 ⟨i, ov, rfl, rfl, hi, ho, kk8, f_p0_0_8, f_pb_8, S1_8, D1_8, o_8, G_8, T_b2_0_8⟩
  refine C_seq (fun K30 hK30 => ?_)
  refine C_seq (fun K31 hK31 => ?_)
  refine C_region ?_
  refine R_pu (pu_move rfl) rfl ?_
  refine R_pu (pu_move rfl) rfl ?_
  refine R_pu (pu_len Tryd.underlying22 rfl) rfl ?_
  refine R_pu (pu_lss (p := i < ((ov).length)) rfl rfl (by omega)) rfl ?_
  by_cases g5_4 : i < ((ov).length)
  · refine R_pu (pu_true (pu_move rfl) g5_4) rfl ?_
    refine R_gpu rfl rfl (pu_move rfl) rfl ?_
    refine R_gpu rfl rfl (pu_move rfl) rfl ?_
    refine R_gpu rfl rfl (pu_len Tryd.underlying22 rfl) rfl ?_
    refine R_gpu rfl rfl (pu_lss (p := i < l5.length) rfl rfl (by omega)) rfl ?_
    refine R_pu (pu_pickt rfl rfl) rfl ?_
    refine R_nil ?_
    refine X_then hK31 ?_
    refine C_dec rfl (fun h44 => ?_) (fun h44 => ?_)
    · refine C_skip ?_
      refine X_then hK30 ?_
      refine C_seq (fun K32 hK32 => ?_)
      refine C_block ?_
      refine C_region ?_
      refine R_pu (pu_move rfl) rfl ?_
      refine R_pu (pu_move rfl) rfl ?_
      refine R_pu (pu_move rfl) rfl ?_
      refine R_pu (pu_move rfl) rfl ?_
      refine R_pu (pu_indexAddrB (m := i) (HB5.keptNo kk8) Tryd.underlying22 (by kernel_rfl) rfl rfl rfl rfl (by omega)) rfl ?_
      obtain ⟨nb, e_nb⟩ : ∃ q_, (l5)[i]? = some q_ := ⟨_, List.getElem?_eq_getElem (by omega)⟩
      have b_nb : nb < 256 := ((HB5.keptNo kk8)).lt e_nb
      refine R_pu (pu_loadB (HB5.keptNo kk8) (by kernel_rfl) rfl e_nb) rfl ?_
      refine R_pu (pu_indexAddrP (m := i) (s := 1) (o' := i) Tryd.underlying22 (by kernel_rfl) rfl rfl rfl (by omega) (by omega)) rfl ?_
      refine R_lo0 (lo_storeFix o_8.1 (by kernel_rfl) rfl rfl (by omega) b_nb) ?_
      rintro _ w9 kf9
      obtain ⟨q9, k9⟩ := kf9
      have kk9 := kk8.trans k9 (fun i hi => .inr (hi ▸ (Nat.le_trans (kk5).size hgb_g)))
      refine R_nil ?_
      refine X_in_normal ?_
      refine X_then hK32 ?_
      refine C_region ?_
      refine R_pu (pu_move rfl) rfl ?_
      refine R_pu (pu_add (z := ((i + 1 : Nat) : Int)) rfl rfl (by rw [IntKind.wrap_i64]; omega)) rfl ?_
      refine R_pu (pu_assign rfl) rfl ?_
      refine R_nil ?_
      have f33 : Bk w9 p0_0 ([.slice A (l.length) (c), .int .i64 (ka), .int .i64 (na), .slice A2 (d2.length) (c2)]) 46 := (f_p0_0_8.on k9 (Ne.symm ne_g_p0_0))
      have f34 : Bk w9 pb ([.int .i64 ((q1 + 1 : Nat) : Int), .int .i64 ((n1 : Nat) : Int), .int .u32 5]) 28 := (f_pb_8.on k9 (Ne.symm ne_g_pb))
      have ob35 := (S1_8.1.onT k9 lm17 hgb_g)
      have ob36 := (D1_8.1.onT k9 lm18 hgb_g)
      have o37 : Gt w9 := (G_8.on k9 (Ne.symm ne_g_0))
      have o38 : Tb w9 b2_0 := (T_b2_0_8.on k9 (Ne.symm ne_g_b2_0))
      refine X_round (S1.length - (i + 1)) [(1, .slice A5 (l5.length) (c5)), (2, .int .u8 ((fr : Nat) : Int)), (6, .bool false), (7, .slice A_S1 ((S1).length) (c_S1)), (8, .pointer (some ⟨pb, 0, none⟩)), (9, .slice A_D1 ((D1).length) (c_D1)), (10, .pointer (some ⟨b2_0, 0, none⟩)), (11, .slice (some ⟨g, 0, none⟩) (((ov.set i nb)).length) (c_7)), (12, .int .i64 (((i + 1) : Nat) : Int))] (by omega) (Sub.cons rfl (Sub.cons rfl (Sub.cons rfl (Sub.cons rfl (Sub.cons rfl (Sub.cons rfl (Sub.cons rfl (Sub.consE rfl (by rw [List.length_set]) (Sub.cons rfl (Sub.nil _)))))))))) ⟨i + 1, ov.set i nb, rfl, rfl, by omega, (by rw [List.length_set]; exact ho), kk9, f33, f34, ⟨ob35, (Nat.zero_le _)⟩, ⟨ob36, (Nat.zero_le _)⟩, ⟨by rw [List.length_set]; exact q9, (Nat.le_trans o_8.2 k9.size)⟩, o37, o38⟩
    · refine C_exit ?_
      refine X_then_exit (X_then_exit (X_in_eq ?_))
      refine X_then hK21 ?_
      refine C_seq (fun K39 hK39 => ?_)
      refine C_region ?_
      refine R_pu (pu_move rfl) rfl ?_
      refine R_pu (pu_move rfl) rfl ?_
      refine R_pu (pu_loadRow (len := 3) f_pb_8 (by kernel_rfl) (by kernel_rfl) rfl rfl) rfl ?_
      refine R_pu (pu_move rfl) rfl ?_
      have lm40 := S1_8.1.top
      have lm41 := D1_8.1.top
      have lm42 := o_8.1.top
      refine R_lo (lo_call (by kernel_rfl) rfl (shamir_split b2_0 A_S1 S1 c_S1 q1 n1 5 A_D1 D1 c_D1 _ S1_8.1.bs S1_8.1.le.2 D1_8.1.bs D1_8.1.le.2 (by decide) (by omega) (by omega) hD1 (Od.awN ob8 le5) (Od.awN ob9 le5) T_b2_0_8)) rfl ?_
      rintro _ w10 ⟨A_x, c_x, L_x, rfl, Q10, hK_x, T10, k10⟩
      have kk10 := kk8.trans k10 (fun i hi => .inr (hi ▸ (Nat.le_trans kk4.size le5)))
      have z43 : w8.heap.size ≤ w10.heap.size := k10.size
      have hl_x := (key_len hK_x).trans (ptK_length ..)
      refine R_pu (pu_move rfl) rfl ?_
      refine R_pu (pu_extract rfl rfl) rfl ?_
      refine R_pu (pu_extract rfl rfl) rfl ?_
      refine R_pu (pu_assign rfl) rfl ?_
      refine R_pu (pu_assign rfl) rfl ?_
      refine R_nil ?_
      refine X_then hK39 ?_
      refine C_seq (fun K44 hK44 => ?_)
      refine C_seq (fun K45 hK45 => ?_)
      refine C_region ?_
      refine R_pu (pu_move rfl) rfl ?_
      refine R_pu (pu_neqnn (by kernel_rfl) rfl) rfl ?_
      refine R_pu (pu_move rfl) rfl ?_
      refine R_gpu rfl rfl (pu_move rfl) rfl ?_
      refine R_gpu rfl rfl (pu_len Tryd.underlying29 rfl) rfl ?_
      refine R_gpu rfl rfl (pu_fieldAddr (off := 1) (o' := 1) (by kernel_rfl) rfl rfl) rfl ?_
      have f46 : Bk w10 pb ([.int .i64 ((q1 + 1 : Nat) : Int), .int .i64 ((n1 : Nat) : Int), .int .u32 5]) 28 := (f_pb_8.on k10 (Ne.symm ne_b2_0_pb))
      refine R_gpu rfl rfl (pu_loadK f46 (by kernel_rfl) rfl rfl) rfl ?_
      refine R_gpu rfl rfl (pu_false (pu_neq (p := ((L_x).length) = n1) rfl rfl (by omega)) (fun h => h hl_x)) rfl ?_
      refine R_pu (pu_pickf rfl rfl) rfl ?_
      refine R_nil ?_
      refine X_then hK45 ?_
      refine C_false rfl ?_
      refine C_skip ?_
      refine X_then hK44 ?_
      refine C_seq (fun K47 hK47 => ?_)
      refine C_seq (fun K48 hK48 => ?_)
      refine C_region ?_
      refine R_pu (pu_assign rfl) rfl ?_
      refine R_nil ?_
      refine X_then hK48 ?_
      refine C_block ?_
      have f49 : Bk w10 p0_0 ([.slice A (l.length) (c), .int .i64 (ka), .int .i64 (na), .slice A2 (d2.length) (c2)]) 46 := (f_p0_0_8.on k10 (Ne.symm ne_b2_0_p0_0))
      have ob50 := (S1_8.1.onN k10 ob8 le5)
      have ob51 := (D1_8.1.onN k10 ob9 le5)
      have ob52 := (o_8.1.onF k10 ne_g_b2_0)
      have o53 : Gt w10 := (G_8.on k10 (Ne.symm ne_b2_0_0))
      refine C_loop (fun m_ l_ wr => ∃ j : Nat, (m_ = n1 - j) ∧ (l_ = [(2, .int .u8 ((fr : Nat) : Int)), (7, .slice A_S1 ((S1).length) (c_S1)), (8, .pointer (some ⟨pb, 0, none⟩)), (9, .slice A_D1 ((D1).length) (c_D1)), (10, .pointer (some ⟨b2_0, 0, none⟩)), (11, .slice (some ⟨g, 0, none⟩) ((ov).length) (c_7)), (13, .slice A_x ((L_x).length) (c_x)), (15, .int .i64 ((j : Nat) : Int))]) ∧ (j ≤ n1) ∧ (Kp No w wr) ∧ (Bk wr p0_0 ([.slice A (l.length) (c), .int .i64 (ka), .int .i64 (na), .slice A2 (d2.length) (c2)]) 46) ∧ (Bk wr pb ([.int .i64 ((q1 + 1 : Nat) : Int), .int .i64 ((n1 : Nat) : Int), .int .u32 5]) 28) ∧ (Od wr 0 (.slice A_S1 ((S1).length) (c_S1)) (S1) ∧ 0 ≤ (wr).heap.size) ∧ (Od wr 0 (.slice A_D1 ((D1).length) (c_D1)) (D1) ∧ 0 ≤ (wr).heap.size) ∧ (Ob wr w5.heap.size (.slice (some ⟨g, 0, none⟩) ((ov).length) (c_7)) (ov) ∧ w5.heap.size ≤ (wr).heap.size) ∧ (Sw 50 w8.heap.size wr w8.heap.size (.slice A_x ((L_x).length) (c_x)) (L_x) ∧ w8.heap.size ≤ (wr).heap.size) ∧ (Gt wr) ∧ (Tb wr b2_0)) (n1 - 0) [(2, .int .u8 ((fr : Nat) : Int)), (7, .slice A_S1 ((S1).length) (c_S1)), (8, .pointer (some ⟨pb, 0, none⟩)), (9, .slice A_D1 ((D1).length) (c_D1)), (10, .pointer (some ⟨b2_0, 0, none⟩)), (11, .slice (some ⟨g, 0, none⟩) ((ov).length) (c_7)), (13, .slice A_x ((L_x).length) (c_x)), (15, .int .i64 0)] (Sub.cons rfl (Sub.cons rfl (Sub.cons rfl (Sub.cons rfl (Sub.cons rfl (Sub.cons rfl (Sub.cons rfl (Sub.cons rfl (Sub.nil _))))))))) ⟨0, rfl, rfl, by omega, kk10, f49, f46, ⟨ob50, (Nat.zero_le _)⟩, ⟨ob51, (Nat.zero_le _)⟩, ⟨ob52, (Nat.le_trans o_8.2 k10.size)⟩, ⟨Q10, z43⟩, o53, T10⟩ ?_
      rintro _ _ w11 ⟨j, rfl, rfl, hj, kk11, f_p0_0_11, f_pb_11, S1_11, D1_11, o_11, x_11, G_11, T_b2_0_11⟩
      refine C_seq (fun K54 hK54 => ?_)
      refine C_seq (fun K55 hK55 => ?_)
      refine C_region ?_
      refine R_pu (pu_move rfl) rfl ?_
      refine R_pu (pu_move rfl) rfl ?_
      refine R_pu (pu_len Tryd.underlying29 rfl) rfl ?_
      refine R_pu (pu_lss (p := j < ((L_x).length)) rfl rfl (by omega)) rfl ?_
      refine R_nil ?_
      refine X_then hK55 ?_
      refine C_dec rfl (fun h74 => ?_) (fun h74 => ?_)
      · refine C_skip ?_
        refine X_then hK54 ?_
        refine C_seq (fun K56 hK56 => ?_)
        refine C_block ?_
        refine C_seq (fun K57 hK57 => ?_)
        refine C_region ?_
        refine R_pu (pu_move rfl) rfl ?_
        refine R_pu (pu_move rfl) rfl ?_
        obtain ⟨s1, e_s1⟩ : ∃ q_, (L_x)[j]? = some q_ := ⟨_, List.getElem?_eq_getElem (by first | omega | (simp; done) | (simp; omega))⟩
        have ok_s1 := x_11.1.ss.get e_s1
        have od_s1 := x_11.1.od e_s1
        have bi_s1 : s1.ix < 256 := ok_s1.ix
        refine R_pu (pu_indexAddrH x_11.1.ss Tryd.underlying29 (by kernel_rfl) rfl rfl rfl rfl e_s1) rfl ?_
        refine R_pu (pu_fieldAddrH (off := 0) x_11.1.ss e_s1 (by kernel_rfl) rfl) rfl ?_
        refine R_pu (pu_loadH x_11.1.ss e_s1 (by kernel_rfl) rfl rfl) rfl ?_
        refine R_pu (pu_conv (z := ((s1.ix : Nat) : Int)) Tryd.underlying5 Tryd.underlying3 rfl (by have : s1.ix < 256 := ok_s1.ix; rw [IntKind.wrap_i64]; omega)) rfl ?_
        refine R_pu (pu_move rfl) rfl ?_
        refine R_pu (pu_add (z := ((j + 1 : Nat) : Int)) rfl rfl (by rw [IntKind.wrap_i64]; omega)) rfl ?_
        refine R_pu (pu_false (pu_neq (p := s1.ix = (j + 1)) rfl rfl (by omega)) (fun h => h (key_at hK_x e_s1 (ptK_get (show j < n1 by omega))).1)) rfl ?_
        refine R_pu (pu_move rfl) rfl ?_
        refine R_gpu rfl rfl (pu_move rfl) rfl ?_
        refine R_gpu rfl rfl (pu_move rfl) rfl ?_
        refine R_gpu rfl rfl (pu_indexAddrH x_11.1.ss Tryd.underlying29 (by kernel_rfl) rfl rfl rfl rfl e_s1) rfl ?_
        refine R_gpu rfl rfl (pu_fieldAddrH (off := 2) x_11.1.ss e_s1 (by kernel_rfl) rfl) rfl ?_
        refine R_gpu rfl rfl (pu_loadH x_11.1.ss e_s1 (by kernel_rfl) rfl rfl) rfl ?_
        refine R_gpu rfl rfl (pu_len Tryd.underlying22 rfl) rfl ?_
        refine R_gpu rfl rfl (pu_move rfl) rfl ?_
        refine R_gpu rfl rfl (pu_len Tryd.underlying22 rfl) rfl ?_
        refine R_gpu rfl rfl (pu_false (pu_neq (p := ((s1.X).length) = ((S1).length)) rfl rfl (by omega)) (fun h => h (by rw [(key_at hK_x e_s1 (ptK_get (show j < n1 by omega))).2.2]; exact ptX_length _ _ _ _))) rfl ?_
        refine R_pu (pu_pickf rfl rfl) rfl ?_
        refine R_nil ?_
        refine X_then hK57 ?_
        refine C_false rfl ?_
        refine C_skip ?_
        refine X_in_normal ?_
        refine X_then hK56 ?_
        refine C_region ?_
        refine R_pu (pu_move rfl) rfl ?_
        refine R_pu (pu_add (z := ((j + 1 : Nat) : Int)) rfl rfl (by rw [IntKind.wrap_i64]; omega)) rfl ?_
        refine R_pu (pu_assign rfl) rfl ?_
        refine R_nil ?_
        refine X_round (n1 - (j + 1)) [(2, .int .u8 ((fr : Nat) : Int)), (7, .slice A_S1 ((S1).length) (c_S1)), (8, .pointer (some ⟨pb, 0, none⟩)), (9, .slice A_D1 ((D1).length) (c_D1)), (10, .pointer (some ⟨b2_0, 0, none⟩)), (11, .slice (some ⟨g, 0, none⟩) ((ov).length) (c_7)), (13, .slice A_x ((L_x).length) (c_x)), (15, .int .i64 (((j + 1) : Nat) : Int))] (by omega) (Sub.cons rfl (Sub.cons rfl (Sub.cons rfl (Sub.cons rfl (Sub.cons rfl (Sub.cons rfl (Sub.cons rfl (Sub.cons rfl (Sub.nil _))))))))) ⟨j + 1, rfl, rfl, by omega, kk11, f_p0_0_11, f_pb_11, ⟨S1_11.1, (Nat.zero_le _)⟩, ⟨D1_11.1, (Nat.zero_le _)⟩, ⟨o_11.1, o_11.2⟩, ⟨x_11.1, x_11.2⟩, G_11, T_b2_0_11⟩
      · refine C_exit ?_
        refine X_then_exit (X_then_exit (X_in_eq ?_))
        refine X_then hK47 ?_
        refine C_seq (fun K58 hK58 => ?_)
        refine C_region ?_
        refine R_pu (pu_assign rfl) rfl ?_
        refine R_nil ?_
        refine X_then hK58 ?_
        refine C_seq (fun K59 hK59 => ?_)
        refine C_seq (fun K60 hK60 => ?_)
        refine C_region ?_
        refine R_pu (pu_assign rfl) rfl ?_
        refine R_nil ?_
        refine X_then hK60 ?_
        refine C_block ?_
        have sw61 := Sw.nil 50 w8.heap.size w11 w11.heap.size
        have z62 := Nat.le_refl w11.heap.size
        have lm63 := S1_11.1.top
        have lm64 := D1_11.1.top
        have lm65 := o_11.1.top
        have lm66 := x_11.1.top
        refine C_loop (fun m_ l_ wr => ∃ k : Nat, ∃ Ak : Option Addr, ∃ ck : Nat, ∃ KN : List Shr, (m_ = q1 - k) ∧ (l_ = [(2, .int .u8 ((fr : Nat) : Int)), (7, .slice A_S1 ((S1).length) (c_S1)), (8, .pointer (some ⟨pb, 0, none⟩)), (9, .slice A_D1 ((D1).length) (c_D1)), (10, .pointer (some ⟨b2_0, 0, none⟩)), (11, .slice (some ⟨g, 0, none⟩) ((ov).length) (c_7)), (13, .slice A_x ((L_x).length) (c_x)), (16, .slice Ak ((KN).length) (ck)), (17, .int .i64 ((k : Nat) : Int))]) ∧ (k ≤ q1) ∧ (KN.length = k) ∧ (∀ s ∈ KN, s ∈ L_x) ∧ (∀ a, a < k → (ixs KN).getD a 0 = (fr + a) % n1 + 1) ∧ (Kp No w wr) ∧ (Bk wr p0_0 ([.slice A (l.length) (c), .int .i64 (ka), .int .i64 (na), .slice A2 (d2.length) (c2)]) 46) ∧ (Bk wr pb ([.int .i64 ((q1 + 1 : Nat) : Int), .int .i64 ((n1 : Nat) : Int), .int .u32 5]) 28) ∧ (Od wr 0 (.slice A_S1 ((S1).length) (c_S1)) (S1) ∧ 0 ≤ (wr).heap.size) ∧ (Od wr 0 (.slice A_D1 ((D1).length) (c_D1)) (D1) ∧ 0 ≤ (wr).heap.size) ∧ (Ob wr w5.heap.size (.slice (some ⟨g, 0, none⟩) ((ov).length) (c_7)) (ov) ∧ w5.heap.size ≤ (wr).heap.size) ∧ (Sw 50 w8.heap.size wr w8.heap.size (.slice A_x ((L_x).length) (c_x)) (L_x) ∧ w8.heap.size ≤ (wr).heap.size) ∧ (Sw 50 w8.heap.size wr w11.heap.size (.slice Ak ((KN).length) (ck)) (KN) ∧ w11.heap.size ≤ (wr).heap.size) ∧ (Gt wr) ∧ (Tb wr b2_0)) (q1 - 0) [(2, .int .u8 ((fr : Nat) : Int)), (7, .slice A_S1 ((S1).length) (c_S1)), (8, .pointer (some ⟨pb, 0, none⟩)), (9, .slice A_D1 ((D1).length) (c_D1)), (10, .pointer (some ⟨b2_0, 0, none⟩)), (11, .slice (some ⟨g, 0, none⟩) ((ov).length) (c_7)), (13, .slice A_x ((L_x).length) (c_x)), (16, .slice none ((([])).length) (0)), (17, .int .i64 0)] (Sub.cons rfl (Sub.cons rfl (Sub.cons rfl (Sub.cons rfl (Sub.cons rfl (Sub.cons rfl (Sub.cons rfl (Sub.cons rfl (Sub.cons rfl (Sub.nil _)))))))))) ⟨0, none, 0, [], rfl, rfl, by omega, rfl, (fun s h => by cases h), (fun a h => absurd h (Nat.not_lt_zero _)), kk11, f_p0_0_11, f_pb_11, ⟨S1_11.1, (Nat.zero_le _)⟩, ⟨D1_11.1, (Nat.zero_le _)⟩, ⟨o_11.1, o_11.2⟩, ⟨x_11.1, x_11.2⟩, ⟨by exact sw61, z62⟩, G_11, T_b2_0_11⟩ ?_
        rintro _ _ w12 ⟨k, Ak, ck, KN, rfl, rfl, hk, hKl, hKs, hKx, kk12, f_p0_0_12, f_pb_12, S1_12, D1_12, o_12, x_12, kn_12, G_12, T_b2_0_12⟩
        refine C_seq (fun K67 hK67 => ?_)
        refine C_seq (fun K68 hK68 => ?_)
        refine C_region ?_
        refine R_pu (pu_move rfl) rfl ?_
        refine R_pu (pu_fieldAddr (off := 0) (o' := 0) (by kernel_rfl) rfl rfl) rfl ?_
        refine R_pu (pu_loadK f_pb_12 (by kernel_rfl) rfl rfl) rfl ?_
        refine R_pu (pu_sub (z := ((q1 : Nat) : Int)) rfl rfl (by rw [IntKind.wrap_i64]; omega)) rfl ?_
        refine R_pu (pu_lss (p := k < q1) rfl rfl (by omega)) rfl ?_
        refine R_nil ?_
        refine X_then hK68 ?_
        refine C_dec rfl (fun h101 => ?_) (fun h101 => ?_)
        · refine C_skip ?_
          refine X_then hK67 ?_
          refine C_seq (fun K69 hK69 => ?_)
          refine C_block ?_
          have hr20 := Nat.mod_lt (fr + k) (show 0 < n1 by omega)
          refine C_region ?_
          refine R_pu (pu_move rfl) rfl ?_
          refine R_pu (pu_move rfl) rfl ?_
          refine R_pu (pu_move rfl) rfl ?_
          refine R_pu (pu_conv (z := ((fr : Nat) : Int)) Tryd.underlying5 Tryd.underlying3 rfl (by have : fr < 256 := hfr; rw [IntKind.wrap_i64]; omega)) rfl ?_
          refine R_pu (pu_move rfl) rfl ?_
          refine R_pu (pu_add (z := ((fr + k : Nat) : Int)) rfl rfl (by rw [IntKind.wrap_i64]; omega)) rfl ?_
          refine R_pu (pu_fieldAddr (off := 1) (o' := 1) (by kernel_rfl) rfl rfl) rfl ?_
          refine R_pu (pu_loadK f_pb_12 (by kernel_rfl) rfl rfl) rfl ?_
          refine R_pu (pu_rem (z := (((fr + k) % n1 : Nat) : Int)) rfl rfl (by omega) (by rfl)) rfl ?_
          obtain ⟨s2, e_s2⟩ : ∃ q_, (L_x)[(fr + k) % n1]? = some q_ := ⟨_, List.getElem?_eq_getElem (by first | omega | (simp; done) | (simp; omega))⟩
          have ok_s2 := x_12.1.ss.get e_s2
          have od_s2 := x_12.1.od e_s2
          have bi_s2 : s2.ix < 256 := ok_s2.ix
          refine R_pu (pu_indexAddrH x_12.1.ss Tryd.underlying29 (by kernel_rfl) rfl rfl rfl rfl e_s2) rfl ?_
          refine R_pu (pu_loadHr x_12.1.ss e_s2 (by kernel_rfl) (by kernel_rfl) rfl) rfl ?_
          refine R_lo (lo_buildSlice (L := [.int .u8 ((s2.ix : Nat) : Int), .int .u32 ((s2.gen : Nat) : Int), .slice s2.A ((s2.X).length) (s2.c)]) Tryd.underlying29 rfl (by kernel_rfl)) rfl ?_
          rintro _ w13 ⟨lit, rfl, N13⟩
          have k13 := N13.kp
          have kk13 := kk12.then_ k13
          have ne_lit_p0_0 : lit ≠ p0_0 := Nat.ne_of_gt (Nat.lt_of_lt_of_le f_p0_0_12.lt N13.le)
          have ne_lit_pb : lit ≠ pb := Nat.ne_of_gt (Nat.lt_of_lt_of_le f_pb_12.lt N13.le)
          have ne_lit_0 : lit ≠ 0 := Nat.ne_of_gt (Nat.lt_of_lt_of_le G_12.lt N13.le)
          have ne_lit_b2_0 : lit ≠ b2_0 := Nat.ne_of_gt (Nat.lt_of_lt_of_le T_b2_0_12.lt N13.le)
          have ne_lit_g : lit ≠ g := o_12.1.ne N13.le
          have f_lit_13 : Bk w13 lit ([.int .u8 ((s2.ix : Nat) : Int), .int .u32 ((s2.gen : Nat) : Int), .slice s2.A ((s2.X).length) (s2.c)]) 50 := N13.bk
          have ob70 := (kn_12.1.keptNo k13)
          have ob71 := (od_s2.keptNo k13)
          have ob72 := (x_12.1.keptNo k13)
          refine R_lo (lo_apps (L := KN) (M := [s2]) Tryd.underlying29 (by kernel_rfl) ob70 ob70.le.1 rfl rfl rfl (Ss.lit [s2] f_lit_13 (by simp only [List.mem_cons, List.not_mem_nil, or_false, forall_eq_or_imp, forall_eq]; exact ok_s2.okOd ob71)) (Sw.datU ob72 lm66 ob70 (List.mem_of_getElem? e_s2)) (by simp) (by rw [hKl]; simp; omega) (Nat.le_trans kn_12.2 k13.size)) rfl ?_
          rintro _ w14 ⟨A_14, c_14, rfl, p14⟩
          have k14 := p14.kp
          have kk14 := kk13.trans k14 (fun i hi => .inr (Nat.le_trans (kk11).size hi))
          refine R_pu (pu_assign rfl) rfl ?_
          refine R_nil ?_
          refine X_in_normal ?_
          refine X_then hK69 ?_
          refine C_region ?_
          refine R_pu (pu_move rfl) rfl ?_
          refine R_pu (pu_add (z := ((k + 1 : Nat) : Int)) rfl rfl (by rw [IntKind.wrap_i64]; omega)) rfl ?_
          refine R_pu (pu_assign rfl) rfl ?_
          refine R_nil ?_
          have f73 : Bk w14 p0_0 ([.slice A (l.length) (c), .int .i64 (ka), .int .i64 (na), .slice A2 (d2.length) (c2)]) 46 := ((f_p0_0_12.no k13).kept k14 (by have := f_p0_0_11.lt; omega))
          have f74 : Bk w14 pb ([.int .i64 ((q1 + 1 : Nat) : Int), .int .i64 ((n1 : Nat) : Int), .int .u32 5]) 28 := ((f_pb_12.no k13).kept k14 (by have := f_pb_11.lt; omega))
          have ob75 := ((S1_12.1.keptNo k13).past lm63 k14)
          have ob76 := ((D1_12.1.keptNo k13).past lm64 k14)
          have ob77 := ((o_12.1.keptNo k13).past lm65 k14)
          have ob78 := (ob72.past lm66 k14)
          have o79 : Gt w14 := ((G_12.no k13).kept k14 (by have := G_11.lt; omega))
          have o80 : Tb w14 b2_0 := ((T_b2_0_12.no k13).kept k14 (by have := T_b2_0_11.lt; omega))
          refine X_round (q1 - (k + 1)) [(2, .int .u8 ((fr : Nat) : Int)), (7, .slice A_S1 ((S1).length) (c_S1)), (8, .pointer (some ⟨pb, 0, none⟩)), (9, .slice A_D1 ((D1).length) (c_D1)), (10, .pointer (some ⟨b2_0, 0, none⟩)), (11, .slice (some ⟨g, 0, none⟩) ((ov).length) (c_7)), (13, .slice A_x ((L_x).length) (c_x)), (16, .slice A_14 (((KN ++ ([s2]))).length) (c_14)), (17, .int .i64 (((k + 1) : Nat) : Int))] (by omega) (Sub.cons rfl (Sub.cons rfl (Sub.cons rfl (Sub.cons rfl (Sub.cons rfl (Sub.cons rfl (Sub.cons rfl (Sub.cons rfl (Sub.cons rfl (Sub.nil _)))))))))) ⟨k + 1, A_14, c_14, KN ++ ([s2]), rfl, rfl, by omega, (by rw [List.length_append, hKl]; rfl), (fun s hs => (List.mem_append.1 hs).elim (hKs s) (fun h => by rw [List.mem_singleton.1 h]; exact List.mem_of_getElem? e_s2)), (row_step hKl hKx (key_at hK_x e_s2 (ptK_get hr20)).1), kk14, f73, f74, ⟨ob75, (Nat.zero_le _)⟩, ⟨ob76, (Nat.zero_le _)⟩, ⟨ob77, (Nat.le_trans (Nat.le_trans o_12.2 k13.size) k14.size)⟩, ⟨ob78, (Nat.le_trans (Nat.le_trans x_12.2 k13.size) k14.size)⟩, ⟨by exact p14.ob, (Nat.le_trans (Nat.le_trans kn_12.2 k13.size) k14.size)⟩, o79, o80⟩
        · refine C_exit ?_
          refine X_then_exit (X_then_exit (X_in_eq ?_))
          refine X_then hK59 ?_
          refine C_seq (fun K81 hK81 => ?_)
          have hKq : KN.length = q1 := by omega
          have hKd : Di (ixs KN) := row_di hKq (show q1 ≤ n1 by omega) (fun a ha => hKx a (by omega))
          have bS1 := S1_12.1.bs.byte; have bD1 := D1_12.1.bs.byte; have bo := o_12.1.byte
          have hKp : ∀ s ∈ KN, s.ix < 256 ∧ s.ix ≠ 0 ∧ s.X = ptX S1 D1 q1 s.ix ∧ s.ix ≤ n1 := fun s hs => by have h := part_of hK_x (hKs s hs); exact ⟨by omega, by omega, h.2.2, h.2.1.2⟩
          refine C_region ?_
          refine R_pu (pu_move rfl) rfl ?_
          refine R_pu (pu_move rfl) rfl ?_
          refine R_pu (pu_move rfl) rfl ?_
          refine R_pu (pu_loadRow (len := 3) f_pb_12 (by kernel_rfl) (by kernel_rfl) rfl rfl) rfl ?_
          have lm82 := S1_12.1.top
          have lm83 := D1_12.1.top
          have lm84 := o_12.1.top
          have lm85 := x_12.1.top
          have lm86 := kn_12.1.top
          refine R_lo (lo_call (by kernel_rfl) rfl (drawn_ b2_0 (some ⟨g, 0, none⟩) ov c_7 Ak KN ck q1 n1 5 _ o_12.1.bs o_12.1.le.2 kn_12.1.ss ⟨⟨hKq, by omega, by omega, by omega, by decide⟩, (fun s hs => ⟨(hKp s hs).2.1, by rw [(hKp s hs).2.2.1, ptX_length]; exact ho.symm⟩), hKd⟩ (Aw.ofOb o_12.1 (by have := T5.lt; omega)) (kn_12.1.aw (by have := (And.intro T_b2_0_11.lt T_b2_0_8.lt); omega)) T_b2_0_12)) rfl ?_
          rintro _ w15 ⟨A_th, c_th, rfl, Q15, T15, k15⟩
          have kk15 := kk12.trans k15 (fun i hi => .inr (hi ▸ (Nat.le_trans kk4.size le5)))
          have z87 : w12.heap.size ≤ w15.heap.size := k15.size
          refine R_pu (pu_move rfl) rfl ?_
          refine R_pu (pu_extract rfl rfl) rfl ?_
          refine R_pu (pu_extract rfl rfl) rfl ?_
          refine R_pu (pu_assign rfl) rfl ?_
          refine R_pu (pu_assign rfl) rfl ?_
          refine R_nil ?_
          refine X_then hK81 ?_
          refine C_seq (fun K88 hK88 => ?_)
          refine C_region ?_
          refine R_pu (pu_move rfl) rfl ?_
          refine R_pu (pu_move rfl) rfl ?_
          have f89 : Bk w15 pb ([.int .i64 ((q1 + 1 : Nat) : Int), .int .i64 ((n1 : Nat) : Int), .int .u32 5]) 28 := (f_pb_12.on k15 (Ne.symm ne_b2_0_pb))
          refine R_pu (pu_loadRow (len := 3) f89 (by kernel_rfl) (by kernel_rfl) rfl rfl) rfl ?_
          refine R_pu (pu_move rfl) rfl ?_
          have ob90 := (o_12.1.onF k15 ne_g_b2_0)
          have f91 : Bk w15 p0_0 ([.slice A (l.length) (c), .int .i64 (ka), .int .i64 (na), .slice A2 (d2.length) (c2)]) 46 := (f_p0_0_12.on k15 (Ne.symm ne_b2_0_p0_0))
          have o92 : Gt w15 := (G_12.on k15 (Ne.symm ne_b2_0_0))
          have ob94 := (S1_12.1.onN k15 ob8 le5)
          have lm93 := ob94.top
          have ob96 := (D1_12.1.onN k15 ob9 le5)
          have lm95 := ob96.top
          have lm97 := ob90.top
          have ob99 := (x_12.1.on k15 (by have := T_b2_0_8.lt; omega))
          have lm98 := ob99.top
          have ob101 := (kn_12.1.on k15 (by have := (And.intro T_b2_0_11.lt T_b2_0_8.lt); omega))
          have lm100 := ob101.top
          have lm102 := Q15.top
          refine R_lo (lo_call (by kernel_rfl) rfl (shamir_split b2_0 (some ⟨g, 0, none⟩) ov c_7 q1 n1 5 A_th (drL ov KN q1 ov.length) c_th _ ob90.bs ob90.le.2 Q15.bs Q15.le.2 (by decide) (by omega) (by omega) (by rw [drL_length, Nat.mul_comm]) (Aw.ofOb ob90 (by have := T5.lt; omega)) (Aw.ofOb Q15 (by have := T_b2_0_12.lt; omega)) T15)) rfl ?_
          rintro _ w16 ⟨A_m, c_m, L_m, rfl, Q16, hK_m, T16, k16⟩
          have kk16 := kk15.trans k16 (fun i hi => .inr (hi ▸ (Nat.le_trans kk4.size le5)))
          have z103 : w15.heap.size ≤ w16.heap.size := k16.size
          have hl_m := (key_len hK_m).trans (ptK_length ..)
          refine R_pu (pu_move rfl) rfl ?_
          refine R_pu (pu_extract rfl rfl) rfl ?_
          refine R_pu (pu_extract rfl rfl) rfl ?_
          refine R_pu (pu_assign rfl) rfl ?_
          refine R_pu (pu_assign rfl) rfl ?_
          refine R_nil ?_
          refine X_then hK88 ?_
          refine C_seq (fun K104 hK104 => ?_)
          refine C_region ?_
          refine R_pu (pu_move rfl) rfl ?_
          refine R_pu (pu_move rfl) rfl ?_
          refine R_pu (pu_move rfl) rfl ?_
          have f105 : Bk w16 pb ([.int .i64 ((q1 + 1 : Nat) : Int), .int .i64 ((n1 : Nat) : Int), .int .u32 5]) 28 := (f89.on k16 (Ne.symm ne_b2_0_pb))
          refine R_pu (pu_loadRow (len := 3) f105 (by kernel_rfl) (by kernel_rfl) rfl rfl) rfl ?_
          have ob106 := (ob94.onN k16 ob8 le5)
          have ob107 := (ob101.on k16 (by have := (And.intro T_b2_0_11.lt T_b2_0_8.lt); omega))
          have f108 : Bk w16 p0_0 ([.slice A (l.length) (c), .int .i64 (ka), .int .i64 (na), .slice A2 (d2.length) (c2)]) 46 := (f91.on k16 (Ne.symm ne_b2_0_p0_0))
          have o109 : Gt w16 := (o92.on k16 (Ne.symm ne_b2_0_0))
          have lm110 := ob106.top
          have ob112 := (ob96.onN k16 ob9 le5)
          have lm111 := ob112.top
          have ob114 := (ob90.onF k16 ne_g_b2_0)
          have lm113 := ob114.top
          have ob116 := (ob99.on k16 (by have := T_b2_0_8.lt; omega))
          have lm115 := ob116.top
          have lm117 := ob107.top
          have ob119 := (Q15.on k16 (by have := T_b2_0_12.lt; omega))
          have lm118 := ob119.top
          have lm120 := Q16.top
          refine R_lo (lo_call (by kernel_rfl) rfl (drawn_ b2_0 A_S1 S1 c_S1 Ak KN ck q1 n1 5 _ ob106.bs ob106.le.2 ob107.ss ⟨⟨hKq, by omega, by omega, by omega, by decide⟩, (fun s hs => ⟨(hKp s hs).2.1, by rw [(hKp s hs).2.2.1, ptX_length]⟩), hKd⟩ (Od.awN ob8 le5) (ob107.aw (by have := (And.intro T_b2_0_11.lt T_b2_0_8.lt); omega)) T16)) rfl ?_
          rintro _ w17 ⟨A_bk, c_bk, rfl, Q17, T17, k17⟩
          have kk17 := kk16.trans k17 (fun i hi => .inr (hi ▸ (Nat.le_trans kk4.size le5)))
          have z121 : w16.heap.size ≤ w17.heap.size := k17.size
          refine R_pu (pu_move rfl) rfl ?_
          refine R_pu (pu_extract rfl rfl) rfl ?_
          refine R_pu (pu_extract rfl rfl) rfl ?_
          refine R_pu (pu_assign rfl) rfl ?_
          refine R_pu (pu_assign rfl) rfl ?_
          refine R_nil ?_
          refine X_then hK104 ?_
          refine C_seq (fun K122 hK122 => ?_)
          refine C_seq (fun K123 hK123 => ?_)
          have hback : drL S1 KN q1 S1.length = D1 := hides_back hKq (fun s hs => ⟨(hKp s hs).1, (hKp s hs).2.1, (hKp s hs).2.2.1⟩) hKd bS1 bD1 hD1
          refine C_region ?_
          refine R_pu (pu_move rfl) rfl ?_
          refine R_pu (pu_not rfl) rfl ?_
          refine R_pu (pu_move rfl) rfl ?_
          refine R_gpu rfl rfl (pu_move rfl) rfl ?_
          refine R_gpu rfl rfl (pu_not rfl) rfl ?_
          refine R_pu (pu_pickf rfl rfl) rfl ?_
          refine R_pu (pu_move rfl) rfl ?_
          refine R_gpu rfl rfl (pu_move rfl) rfl ?_
          refine R_gpu rfl rfl (pu_neqnn (by kernel_rfl) rfl) rfl ?_
          refine R_pu (pu_pickf rfl rfl) rfl ?_
          refine R_pu (pu_move rfl) rfl ?_
          refine R_gpu rfl rfl (pu_move rfl) rfl ?_
          refine R_gpu rfl rfl (pu_len Tryd.underlying29 rfl) rfl ?_
          refine R_gpu rfl rfl (pu_fieldAddr (off := 1) (o' := 1) (by kernel_rfl) rfl rfl) rfl ?_
          have f124 : Bk w17 pb ([.int .i64 ((q1 + 1 : Nat) : Int), .int .i64 ((n1 : Nat) : Int), .int .u32 5]) 28 := (f105.on k17 (Ne.symm ne_b2_0_pb))
          refine R_gpu rfl rfl (pu_loadK f124 (by kernel_rfl) rfl rfl) rfl ?_
          refine R_gpu rfl rfl (pu_false (pu_neq (p := ((L_m).length) = n1) rfl rfl (by omega)) (fun h => h hl_m)) rfl ?_
          refine R_pu (pu_pickf rfl rfl) rfl ?_
          refine R_pu (pu_move rfl) rfl ?_
          refine R_gpu rfl rfl (pu_move rfl) rfl ?_
          refine R_gpu rfl rfl (pu_bstr Q17.bs Tryd.underlying22 Tryd.underlying5 Tryd.underlying9 rfl rfl) rfl ?_
          refine R_gpu rfl rfl (pu_move rfl) rfl ?_
          have ob125 := (ob112.onN k17 ob9 le5)
          refine R_gpu rfl rfl (pu_bstr ob125.bs Tryd.underlying22 Tryd.underlying5 Tryd.underlying9 rfl rfl) rfl ?_
          refine R_gpu rfl rfl (pu_false (pu_neqs (p := (drL S1 KN q1 S1.length) = D1) rfl rfl (bstr_inj (Q17.bs).byte (ob125.bs).byte)) (fun h => h hback)) rfl ?_
          refine R_pu (pu_pickf rfl rfl) rfl ?_
          refine R_nil ?_
          refine X_then hK123 ?_
          refine C_false rfl ?_
          refine C_skip ?_
          refine X_then hK122 ?_
          refine C_seq (fun K126 hK126 => ?_)
          refine C_seq (fun K127 hK127 => ?_)
          refine C_region ?_
          refine R_pu (pu_assign rfl) rfl ?_
          refine R_nil ?_
          refine X_then hK127 ?_
          refine C_block ?_
          have f128 : Bk w17 p0_0 ([.slice A (l.length) (c), .int .i64 (ka), .int .i64 (na), .slice A2 (d2.length) (c2)]) 46 := (f108.on k17 (Ne.symm ne_b2_0_p0_0))
          have ob129 := (ob106.onN k17 ob8 le5)
          have ob130 := (ob114.onF k17 ne_g_b2_0)
          have ob131 := (ob116.on k17 (by have := T_b2_0_8.lt; omega))
          have ob132 := (ob107.on k17 (by have := (And.intro T_b2_0_11.lt T_b2_0_8.lt); omega))
          have ob133 := (ob119.on k17 (by have := T_b2_0_12.lt; omega))
          have ob134 := (Q16.on k17 (by have := T15.lt; omega))
          have o135 : Gt w17 := (o109.on k17 (Ne.symm ne_b2_0_0))
          refine C_loop (fun m_ l_ wr => ∃ i4 : Nat, (m_ = KN.length - i4) ∧ (l_ = [(16, .slice Ak ((KN).length) (ck)), (20, .slice A_m ((L_m).length) (c_m)), (24, .int .i64 ((i4 : Nat) : Int))]) ∧ (i4 ≤ KN.length) ∧ (Kp No w wr) ∧ (Bk wr p0_0 ([.slice A (l.length) (c), .int .i64 (ka), .int .i64 (na), .slice A2 (d2.length) (c2)]) 46) ∧ (Bk wr pb ([.int .i64 ((q1 + 1 : Nat) : Int), .int .i64 ((n1 : Nat) : Int), .int .u32 5]) 28) ∧ (Od wr 0 (.slice A_S1 ((S1).length) (c_S1)) (S1) ∧ 0 ≤ (wr).heap.size) ∧ (Od wr 0 (.slice A_D1 ((D1).length) (c_D1)) (D1) ∧ 0 ≤ (wr).heap.size) ∧ (Ob wr w5.heap.size (.slice (some ⟨g, 0, none⟩) ((ov).length) (c_7)) (ov) ∧ w5.heap.size ≤ (wr).heap.size) ∧ (Sw 50 w8.heap.size wr w8.heap.size (.slice A_x ((L_x).length) (c_x)) (L_x) ∧ w8.heap.size ≤ (wr).heap.size) ∧ (Sw 50 w8.heap.size wr w11.heap.size (.slice Ak ((KN).length) (ck)) (KN) ∧ w11.heap.size ≤ (wr).heap.size) ∧ (Ob wr w12.heap.size (.slice A_th ((drL ov KN q1 ov.length).length) (c_th)) (drL ov KN q1 ov.length) ∧ w12.heap.size ≤ (wr).heap.size) ∧ (Sw 50 w15.heap.size wr w15.heap.size (.slice A_m ((L_m).length) (c_m)) (L_m) ∧ w15.heap.size ≤ (wr).heap.size) ∧ (Ob wr w16.heap.size (.slice A_bk ((drL S1 KN q1 S1.length).length) (c_bk)) (drL S1 KN q1 S1.length) ∧ w16.heap.size ≤ (wr).heap.size) ∧ (Gt wr) ∧ (Tb wr b2_0)) (KN.length - 0) [(16, .slice Ak ((KN).length) (ck)), (20, .slice A_m ((L_m).length) (c_m)), (24, .int .i64 0)] (Sub.cons rfl (Sub.cons rfl (Sub.cons rfl (Sub.nil _)))) ⟨0, rfl, rfl, by omega, kk17, f128, f124, ⟨ob129, (Nat.zero_le _)⟩, ⟨ob125, (Nat.zero_le _)⟩, ⟨ob130, (Nat.le_trans (Nat.le_trans (Nat.le_trans o_12.2 k15.size) k16.size) k17.size)⟩, ⟨ob131, (Nat.le_trans (Nat.le_trans (Nat.le_trans x_12.2 k15.size) k16.size) k17.size)⟩, ⟨ob132, (Nat.le_trans (Nat.le_trans (Nat.le_trans kn_12.2 k15.size) k16.size) k17.size)⟩, ⟨ob133, (Nat.le_trans (Nat.le_trans z87 k16.size) k17.size)⟩, ⟨ob134, (Nat.le_trans z103 k17.size)⟩, ⟨Q17, z121⟩, o135, T17⟩ ?_
          rintro _ _ w18 ⟨i4, rfl, rfl, hi4, kk18, f_p0_0_18, f_pb_18, S1_18, D1_18, o_18, x_18, kn_18, th_18, m_18, bk_18, G_18, T_b2_0_18⟩
          refine C_seq (fun K136 hK136 => ?_)
          refine C_seq (fun K137 hK137 => ?_)
          refine C_region ?_
          refine R_pu (pu_move rfl) rfl ?_
          refine R_pu (pu_move rfl) rfl ?_
          refine R_pu (pu_len Tryd.underlying29 rfl) rfl ?_
          refine R_pu (pu_lss (p := i4 < ((KN).length)) rfl rfl (by omega)) rfl ?_
          refine R_nil ?_
          refine X_then hK137 ?_
          refine C_dec rfl (fun h168 => ?_) (fun h168 => ?_)
          · refine C_skip ?_
            refine X_then hK136 ?_
            refine C_seq (fun K138 hK138 => ?_)
            refine C_block ?_
            refine C_seq (fun K139 hK139 => ?_)
            refine D_begin (fun W => Kp No w W ∧ Bk W p0_0 ([.slice A (l.length) (c), .int .i64 (ka), .int .i64 (na), .slice A2 (d2.length) (c2)]) 46 ∧ Bk W pb ([.int .i64 ((q1 + 1 : Nat) : Int), .int .i64 ((n1 : Nat) : Int), .int .u32 5]) 28 ∧ Gt W ∧ Tb W b2_0 ∧ Sw 50 w8.heap.size W w11.heap.size (.slice Ak ((KN).length) (ck)) (KN) ∧ Sw 50 w15.heap.size W w15.heap.size (.slice A_m ((L_m).length) (c_m)) (L_m)) 18 rfl (by kernel_rfl) ⟨kk18.drew, f_p0_0_18.draw, f_pb_18.draw, G_18.draw, T_b2_0_18.draw, kn_18.1.draw, m_18.1.draw⟩ ?_
            intro w19 k19 _
            have kk19 := kk18.then_ k19
            refine D_take 0 rfl (by kernel_rfl) (by kernel_rfl) (by kernel_rfl) (fun _ _ _ h => h) rfl (fun W hS => pu_move rfl) ?_
            refine D_take 1 rfl (by kernel_rfl) (by kernel_rfl) (by kernel_rfl) (fun _ _ _ h => h) rfl (fun W hS => pu_move rfl) ?_
            refine D_take 2 rfl (by kernel_rfl) (by kernel_rfl) (by kernel_rfl) (fun _ _ _ h => h) rfl (fun W hS => pu_move rfl) ?_
            have ob140 := (kn_18.1.keptNo k19)
            obtain ⟨k1, e_k1⟩ : ∃ q_, (KN)[i4]? = some q_ := ⟨_, List.getElem?_eq_getElem (by first | omega | (simp; done) | (simp; omega))⟩
            have ok_k1 := ob140.ss.get e_k1
            have od_k1 := ob140.od e_k1
            have bi_k1 : k1.ix < 256 := ok_k1.ix
            refine D_take 3 rfl (by kernel_rfl) (by kernel_rfl) (by kernel_rfl) (fun _ _ _ h => h) rfl (fun W hS => pu_indexAddrH hS.2.2.2.2.2.1.ss Tryd.underlying29 (by kernel_rfl) rfl rfl rfl rfl e_k1) ?_
            refine D_take 4 rfl (by kernel_rfl) (by kernel_rfl) (by kernel_rfl) (fun _ _ _ h => h) rfl (fun W hS => pu_fieldAddrH (off := 0) hS.2.2.2.2.2.1.ss e_k1 (by kernel_rfl) rfl) ?_
            refine D_take 5 rfl (by kernel_rfl) (by kernel_rfl) (by kernel_rfl) (fun _ _ _ h => h) rfl (fun W hS => pu_loadH hS.2.2.2.2.2.1.ss e_k1 (by kernel_rfl) rfl rfl) ?_
            have hk1 := hKp k1 (List.mem_of_getElem? e_k1)
            have hk0 : 1 ≤ k1.ix := by omega
            refine D_take 6 rfl (by kernel_rfl) (by kernel_rfl) (by kernel_rfl) (fun _ _ _ h => h) rfl (fun W hS => pu_sub (z := ((k1.ix - 1 : Nat) : Int)) rfl rfl (by rw [IntKind.wrap_u8]; omega)) ?_
            have ob141 := (m_18.1.keptNo k19)
            obtain ⟨m1, e_m1⟩ : ∃ q_, (L_m)[k1.ix - 1]? = some q_ := ⟨_, List.getElem?_eq_getElem (by first | omega | (simp; done) | (simp; omega))⟩
            have ok_m1 := ob141.ss.get e_m1
            have od_m1 := ob141.od e_m1
            have bi_m1 : m1.ix < 256 := ok_m1.ix
            refine D_take 7 rfl (by kernel_rfl) (by kernel_rfl) (by kernel_rfl) (fun _ _ _ h => h) rfl (fun W hS => pu_indexAddrH hS.2.2.2.2.2.2.ss Tryd.underlying29 (by kernel_rfl) rfl rfl rfl rfl e_m1) ?_
            refine D_take 8 rfl (by kernel_rfl) (by kernel_rfl) (by kernel_rfl) (fun _ _ _ h => h) rfl (fun W hS => pu_fieldAddrH (off := 2) hS.2.2.2.2.2.2.ss e_m1 (by kernel_rfl) rfl) ?_
            refine D_take 9 rfl (by kernel_rfl) (by kernel_rfl) (by kernel_rfl) (fun _ _ _ h => h) rfl (fun W hS => pu_loadH hS.2.2.2.2.2.2.ss e_m1 (by kernel_rfl) rfl rfl) ?_
            refine D_take 10 rfl (by kernel_rfl) (by kernel_rfl) (by kernel_rfl) (fun _ _ _ h => h) rfl (fun W hS => pu_bstr (hS.2.2.2.2.2.2.ss.get e_m1).bs Tryd.underlying22 Tryd.underlying5 Tryd.underlying9 rfl rfl) ?_
            refine D_take 11 rfl (by kernel_rfl) (by kernel_rfl) (by kernel_rfl) (fun _ _ _ h => h) rfl (fun W hS => pu_move rfl) ?_
            refine D_take 12 rfl (by kernel_rfl) (by kernel_rfl) (by kernel_rfl) (fun _ _ _ h => h) rfl (fun W hS => pu_move rfl) ?_
            refine D_take 13 rfl (by kernel_rfl) (by kernel_rfl) (by kernel_rfl) (fun _ _ _ h => h) rfl (fun W hS => pu_indexAddrH hS.2.2.2.2.2.1.ss Tryd.underlying29 (by kernel_rfl) rfl rfl rfl rfl e_k1) ?_
            refine D_take 14 rfl (by kernel_rfl) (by kernel_rfl) (by kernel_rfl) (fun _ _ _ h => h) rfl (fun W hS => pu_fieldAddrH (off := 2) hS.2.2.2.2.2.1.ss e_k1 (by kernel_rfl) rfl) ?_
            refine D_take 15 rfl (by kernel_rfl) (by kernel_rfl) (by kernel_rfl) (fun _ _ _ h => h) rfl (fun W hS => pu_loadH hS.2.2.2.2.2.1.ss e_k1 (by kernel_rfl) rfl rfl) ?_
            refine D_take 16 rfl (by kernel_rfl) (by kernel_rfl) (by kernel_rfl) (fun _ _ _ h => h) rfl (fun W hS => pu_bstr (hS.2.2.2.2.2.1.ss.get e_k1).bs Tryd.underlying22 Tryd.underlying5 Tryd.underlying9 rfl rfl) ?_
            refine D_take 17 rfl (by kernel_rfl) (by kernel_rfl) (by kernel_rfl) (fun _ _ _ h => h) rfl (fun W hS => pu_false (pu_neqs (p := m1.X = k1.X) rfl rfl (bstr_inj ((hS.2.2.2.2.2.2.ss.get e_m1).bs).byte ((hS.2.2.2.2.2.1.ss.get e_k1).bs).byte)) (fun h => h (by rw [(key_at hK_m e_m1 (ptK_get (show k1.ix - 1 < n1 by omega))).2.2, show k1.ix - 1 + 1 = k1.ix by omega]; exact hides_there hKq (fun s hs => ⟨(hKp s hs).1, (hKp s hs).2.1, by rw [(hKp s hs).2.2.1, ptX_length, ho], by rw [(hKp s hs).2.2.1]; exact ptX_bl bS1 bD1 _ _⟩) hKd bo (List.mem_of_getElem? e_k1)))) ?_
            refine D_done (by kernel_rfl) ?_
            refine X_then hK139 ?_
            refine C_false rfl ?_
            refine C_skip ?_
            refine X_in_normal ?_
            refine X_then hK138 ?_
            refine C_region ?_
            refine R_pu (pu_move rfl) rfl ?_
            refine R_pu (pu_add (z := ((i4 + 1 : Nat) : Int)) rfl rfl (by rw [IntKind.wrap_i64]; omega)) rfl ?_
            refine R_pu (pu_assign rfl) rfl ?_
            refine R_nil ?_
            have f142 : Bk w19 p0_0 ([.slice A (l.length) (c), .int .i64 (ka), .int .i64 (na), .slice A2 (d2.length) (c2)]) 46 := (f_p0_0_18.no k19)
            have f143 : Bk w19 pb ([.int .i64 ((q1 + 1 : Nat) : Int), .int .i64 ((n1 : Nat) : Int), .int .u32 5]) 28 := (f_pb_18.no k19)
            have ob144 := (S1_18.1.keptNo k19)
            have ob145 := (D1_18.1.keptNo k19)
            have ob146 := (o_18.1.keptNo k19)
            have ob147 := (x_18.1.keptNo k19)
            have ob148 := (th_18.1.keptNo k19)
            have ob149 := (bk_18.1.keptNo k19)
            have o150 : Gt w19 := (G_18.no k19)
            have o151 : Tb w19 b2_0 := (T_b2_0_18.no k19)
            refine X_round (KN.length - (i4 + 1)) [(16, .slice Ak ((KN).length) (ck)), (20, .slice A_m ((L_m).length) (c_m)), (24, .int .i64 (((i4 + 1) : Nat) : Int))] (by omega) (Sub.cons rfl (Sub.cons rfl (Sub.cons rfl (Sub.nil _)))) ⟨i4 + 1, rfl, rfl, by omega, kk19, f142, f143, ⟨ob144, (Nat.zero_le _)⟩, ⟨ob145, (Nat.zero_le _)⟩, ⟨ob146, (Nat.le_trans o_18.2 k19.size)⟩, ⟨ob147, (Nat.le_trans x_18.2 k19.size)⟩, ⟨ob140, (Nat.le_trans kn_18.2 k19.size)⟩, ⟨ob148, (Nat.le_trans th_18.2 k19.size)⟩, ⟨ob141, (Nat.le_trans m_18.2 k19.size)⟩, ⟨ob149, (Nat.le_trans bk_18.2 k19.size)⟩, o150, o151⟩
          · refine C_exit ?_
            refine X_then_exit (X_then_exit (X_in_eq ?_))
            refine X_then hK126 ?_
            refine C_seq (fun K152 hK152 => ?_)
            refine C_region ?_
            refine R_lo (lo_call (by kernel_rfl) rfl (sure03 _ G_18)) rfl ?_
            rintro _ w20 ⟨rfl, k20⟩
            have kk20 := kk18.then_ k20
            refine R_pu (pu_assign rfl) rfl ?_
            refine R_nil ?_
            refine X_then hK152 ?_
            refine C_ret ?_
            exact X_ret1 (.inl rfl) rfl rfl ⟨rfl, kk20⟩
  · refine R_pu (pu_false (pu_move rfl) g5_4) rfl ?_
    refine R_gno rfl rfl rfl rfl ?_
    refine R_gno rfl rfl rfl rfl ?_
    refine R_gno rfl rfl rfl rfl ?_
    refine R_gno rfl rfl rfl rfl ?_
    refine R_pu (pu_pickf rfl rfl) rfl ?_
    refine R_nil ?_
    refine X_then hK31 ?_
    refine C_false rfl ?_
    refine C_exit ?_
    refine X_then_exit (X_then_exit (X_in_eq ?_))
    refine X_then hK21 ?_
    refine C_seq (fun K153 hK153 => ?_)
    refine C_region ?_
    refine R_pu (pu_move rfl) rfl ?_
    refine R_pu (pu_move rfl) rfl ?_
    refine R_pu (pu_loadRow (len := 3) f_pb_8 (by kernel_rfl) (by kernel_rfl) rfl rfl) rfl ?_
    refine R_pu (pu_move rfl) rfl ?_
    have lm154 := S1_8.1.top
    have lm155 := D1_8.1.top
    have lm156 := o_8.1.top
    refine R_lo (lo_call (by kernel_rfl) rfl (shamir_split b2_0 A_S1 S1 c_S1 q1 n1 5 A_D1 D1 c_D1 _ S1_8.1.bs S1_8.1.le.2 D1_8.1.bs D1_8.1.le.2 (by decide) (by omega) (by omega) hD1 (Od.awN ob8 le5) (Od.awN ob9 le5) T_b2_0_8)) rfl ?_
    rintro _ w21 ⟨A_x, c_x, L_x, rfl, Q21, hK_x, T21, k21⟩
    have kk21 := kk8.trans k21 (fun i hi => .inr (hi ▸ (Nat.le_trans kk4.size le5)))
    have z157 : w8.heap.size ≤ w21.heap.size := k21.size
    have hl_x := (key_len hK_x).trans (ptK_length ..)
    refine R_pu (pu_move rfl) rfl ?_
    refine R_pu (pu_extract rfl rfl) rfl ?_
    refine R_pu (pu_extract rfl rfl) rfl ?_
    refine R_pu (pu_assign rfl) rfl ?_
    refine R_pu (pu_assign rfl) rfl ?_
    refine R_nil ?_
    refine X_then hK153 ?_
    refine C_seq (fun K158 hK158 => ?_)
    refine C_seq (fun K159 hK159 => ?_)
    refine C_region ?_
    refine R_pu (pu_move rfl) rfl ?_
    refine R_pu (pu_neqnn (by kernel_rfl) rfl) rfl ?_
    refine R_pu (pu_move rfl) rfl ?_
    refine R_gpu rfl rfl (pu_move rfl) rfl ?_
    refine R_gpu rfl rfl (pu_len Tryd.underlying29 rfl) rfl ?_
    refine R_gpu rfl rfl (pu_fieldAddr (off := 1) (o' := 1) (by kernel_rfl) rfl rfl) rfl ?_
    have f160 : Bk w21 pb ([.int .i64 ((q1 + 1 : Nat) : Int), .int .i64 ((n1 : Nat) : Int), .int .u32 5]) 28 := (f_pb_8.on k21 (Ne.symm ne_b2_0_pb))
    refine R_gpu rfl rfl (pu_loadK f160 (by kernel_rfl) rfl rfl) rfl ?_
    refine R_gpu rfl rfl (pu_false (pu_neq (p := ((L_x).length) = n1) rfl rfl (by omega)) (fun h => h hl_x)) rfl ?_
    refine R_pu (pu_pickf rfl rfl) rfl ?_
    refine R_nil ?_
    refine X_then hK159 ?_
    refine C_false rfl ?_
    refine C_skip ?_
    refine X_then hK158 ?_
    refine C_seq (fun K161 hK161 => ?_)
    refine C_seq (fun K162 hK162 => ?_)
    refine C_region ?_
    refine R_pu (pu_assign rfl) rfl ?_
    refine R_nil ?_
    refine X_then hK162 ?_
    refine C_block ?_
    have f163 : Bk w21 p0_0 ([.slice A (l.length) (c), .int .i64 (ka), .int .i64 (na), .slice A2 (d2.length) (c2)]) 46 := (f_p0_0_8.on k21 (Ne.symm ne_b2_0_p0_0))
    have ob164 := (S1_8.1.onN k21 ob8 le5)
    have ob165 := (D1_8.1.onN k21 ob9 le5)
    have ob166 := (o_8.1.onF k21 ne_g_b2_0)
    have o167 : Gt w21 := (G_8.on k21 (Ne.symm ne_b2_0_0))
    refine C_loop (fun m_ l_ wr => ∃ j : Nat, (m_ = n1 - j) ∧ (l_ = [(2, .int .u8 ((fr : Nat) : Int)), (7, .slice A_S1 ((S1).length) (c_S1)), (8, .pointer (some ⟨pb, 0, none⟩)), (9, .slice A_D1 ((D1).length) (c_D1)), (10, .pointer (some ⟨b2_0, 0, none⟩)), (11, .slice (some ⟨g, 0, none⟩) ((ov).length) (c_7)), (13, .slice A_x ((L_x).length) (c_x)), (15, .int .i64 ((j : Nat) : Int))]) ∧ (j ≤ n1) ∧ (Kp No w wr) ∧ (Bk wr p0_0 ([.slice A (l.length) (c), .int .i64 (ka), .int .i64 (na), .slice A2 (d2.length) (c2)]) 46) ∧ (Bk wr pb ([.int .i64 ((q1 + 1 : Nat) : Int), .int .i64 ((n1 : Nat) : Int), .int .u32 5]) 28) ∧ (Od wr 0 (.slice A_S1 ((S1).length) (c_S1)) (S1) ∧ 0 ≤ (wr).heap.size) ∧ (Od wr 0 (.slice A_D1 ((D1).length) (c_D1)) (D1) ∧ 0 ≤ (wr).heap.size) ∧ (Ob wr w5.heap.size (.slice (some ⟨g, 0, none⟩) ((ov).length) (c_7)) (ov) ∧ w5.heap.size ≤ (wr).heap.size) ∧ (Sw 50 w8.heap.size wr w8.heap.size (.slice A_x ((L_x).length) (c_x)) (L_x) ∧ w8.heap.size ≤ (wr).heap.size) ∧ (Gt wr) ∧ (Tb wr b2_0)) (n1 - 0) [(2, .int .u8 ((fr : Nat) : Int)), (7, .slice A_S1 ((S1).length) (c_S1)), (8, .pointer (some ⟨pb, 0, none⟩)), (9, .slice A_D1 ((D1).length) (c_D1)), (10, .pointer (some ⟨b2_0, 0, none⟩)), (11, .slice (some ⟨g, 0, none⟩) ((ov).length) (c_7)), (13, .slice A_x ((L_x).length) (c_x)), (15, .int .i64 0)] (Sub.cons rfl (Sub.cons rfl (Sub.cons rfl (Sub.cons rfl (Sub.cons rfl (Sub.cons rfl (Sub.cons rfl (Sub.cons rfl (Sub.nil _))))))))) ⟨0, rfl, rfl, by omega, kk21, f163, f160, ⟨ob164, (Nat.zero_le _)⟩, ⟨ob165, (Nat.zero_le _)⟩, ⟨ob166, (Nat.le_trans o_8.2 k21.size)⟩, ⟨Q21, z157⟩, o167, T21⟩ ?_
    rintro _ _ w22 ⟨j, rfl, rfl, hj, kk22, f_p0_0_22, f_pb_22, S1_22, D1_22, o_22, x_22, G_22, T_b2_0_22⟩
    refine C_seq (fun K168 hK168 => ?_)
    refine C_seq (fun K169 hK169 => ?_)
    refine C_region ?_
    refine R_pu (pu_move rfl) rfl ?_
    refine R_pu (pu_move rfl) rfl ?_
    refine R_pu (pu_len Tryd.underlying29 rfl) rfl ?_
    refine R_pu (pu_lss (p := j < ((L_x).length)) rfl rfl (by omega)) rfl ?_
    refine R_nil ?_
    refine X_then hK169 ?_
    refine C_dec rfl (fun h74 => ?_) (fun h74 => ?_)
    · refine C_skip ?_
      refine X_then hK168 ?_
      refine C_seq (fun K170 hK170 => ?_)
      refine C_block ?_
      refine C_seq (fun K171 hK171 => ?_)
      refine C_region ?_
      refine R_pu (pu_move rfl) rfl ?_
      refine R_pu (pu_move rfl) rfl ?_
      obtain ⟨s1, e_s1⟩ : ∃ q_, (L_x)[j]? = some q_ := ⟨_, List.getElem?_eq_getElem (by first | omega | (simp; done) | (simp; omega))⟩
      have ok_s1 := x_22.1.ss.get e_s1
      have od_s1 := x_22.1.od e_s1
      have bi_s1 : s1.ix < 256 := ok_s1.ix
      refine R_pu (pu_indexAddrH x_22.1.ss Tryd.underlying29 (by kernel_rfl) rfl rfl rfl rfl e_s1) rfl ?_
      refine R_pu (pu_fieldAddrH (off := 0) x_22.1.ss e_s1 (by kernel_rfl) rfl) rfl ?_
      refine R_pu (pu_loadH x_22.1.ss e_s1 (by kernel_rfl) rfl rfl) rfl ?_
      refine R_pu (pu_conv (z := ((s1.ix : Nat) : Int)) Tryd.underlying5 Tryd.underlying3 rfl (by have : s1.ix < 256 := ok_s1.ix; rw [IntKind.wrap_i64]; omega)) rfl ?_
      refine R_pu (pu_move rfl) rfl ?_
      refine R_pu (pu_add (z := ((j + 1 : Nat) : Int)) rfl rfl (by rw [IntKind.wrap_i64]; omega)) rfl ?_
      refine R_pu (pu_false (pu_neq (p := s1.ix = (j + 1)) rfl rfl (by omega)) (fun h => h (key_at hK_x e_s1 (ptK_get (show j < n1 by omega))).1)) rfl ?_
      refine R_pu (pu_move rfl) rfl ?_
      refine R_gpu rfl rfl (pu_move rfl) rfl ?_
      refine R_gpu rfl rfl (pu_move rfl) rfl ?_
      refine R_gpu rfl rfl (pu_indexAddrH x_22.1.ss Tryd.underlying29 (by kernel_rfl) rfl rfl rfl rfl e_s1) rfl ?_
      refine R_gpu rfl rfl (pu_fieldAddrH (off := 2) x_22.1.ss e_s1 (by kernel_rfl) rfl) rfl ?_
      refine R_gpu rfl rfl (pu_loadH x_22.1.ss e_s1 (by kernel_rfl) rfl rfl) rfl ?_
      refine R_gpu rfl rfl (pu_len Tryd.underlying22 rfl) rfl ?_
      refine R_gpu rfl rfl (pu_move rfl) rfl ?_
      refine R_gpu rfl rfl (pu_len Tryd.underlying22 rfl) rfl ?_
      refine R_gpu rfl rfl (pu_false (pu_neq (p := ((s1.X).length) = ((S1).length)) rfl rfl (by omega)) (fun h => h (by rw [(key_at hK_x e_s1 (ptK_get (show j < n1 by omega))).2.2]; exact ptX_length _ _ _ _))) rfl ?_
      refine R_pu (pu_pickf rfl rfl) rfl ?_
      refine R_nil ?_
      refine X_then hK171 ?_
      refine C_false rfl ?_
      refine C_skip ?_
      refine X_in_normal ?_
      refine X_then hK170 ?_
      refine C_region ?_
      refine R_pu (pu_move rfl) rfl ?_
      refine R_pu (pu_add (z := ((j + 1 : Nat) : Int)) rfl rfl (by rw [IntKind.wrap_i64]; omega)) rfl ?_
      refine R_pu (pu_assign rfl) rfl ?_
      refine R_nil ?_
      refine X_round (n1 - (j + 1)) [(2, .int .u8 ((fr : Nat) : Int)), (7, .slice A_S1 ((S1).length) (c_S1)), (8, .pointer (some ⟨pb, 0, none⟩)), (9, .slice A_D1 ((D1).length) (c_D1)), (10, .pointer (some ⟨b2_0, 0, none⟩)), (11, .slice (some ⟨g, 0, none⟩) ((ov).length) (c_7)), (13, .slice A_x ((L_x).length) (c_x)), (15, .int .i64 (((j + 1) : Nat) : Int))] (by omega) (Sub.cons rfl (Sub.cons rfl (Sub.cons rfl (Sub.cons rfl (Sub.cons rfl (Sub.cons rfl (Sub.cons rfl (Sub.cons rfl (Sub.nil _))))))))) ⟨j + 1, rfl, rfl, by omega, kk22, f_p0_0_22, f_pb_22, ⟨S1_22.1, (Nat.zero_le _)⟩, ⟨D1_22.1, (Nat.zero_le _)⟩, ⟨o_22.1, o_22.2⟩, ⟨x_22.1, x_22.2⟩, G_22, T_b2_0_22⟩
    · refine C_exit ?_
      refine X_then_exit (X_then_exit (X_in_eq ?_))
      refine X_then hK161 ?_
      refine C_seq (fun K172 hK172 => ?_)
      refine C_region ?_
      refine R_pu (pu_assign rfl) rfl ?_
      refine R_nil ?_
      refine X_then hK172 ?_
      refine C_seq (fun K173 hK173 => ?_)
      refine C_seq (fun K174 hK174 => ?_)
      refine C_region ?_
      refine R_pu (pu_assign rfl) rfl ?_
      refine R_nil ?_
      refine X_then hK174 ?_
      refine C_block ?_
      have sw175 := Sw.nil 50 w8.heap.size w22 w22.heap.size
      have z176 := Nat.le_refl w22.heap.size
      have lm177 := S1_22.1.top
      have lm178 := D1_22.1.top
      have lm179 := o_22.1.top
      have lm180 := x_22.1.top
      refine C_loop (fun m_ l_ wr => ∃ k : Nat, ∃ Ak : Option Addr, ∃ ck : Nat, ∃ KN : List Shr, (m_ = q1 - k) ∧ (l_ = [(2, .int .u8 ((fr : Nat) : Int)), (7, .slice A_S1 ((S1).length) (c_S1)), (8, .pointer (some ⟨pb, 0, none⟩)), (9, .slice A_D1 ((D1).length) (c_D1)), (10, .pointer (some ⟨b2_0, 0, none⟩)), (11, .slice (some ⟨g, 0, none⟩) ((ov).length) (c_7)), (13, .slice A_x ((L_x).length) (c_x)), (16, .slice Ak ((KN).length) (ck)), (17, .int .i64 ((k : Nat) : Int))]) ∧ (k ≤ q1) ∧ (KN.length = k) ∧ (∀ s ∈ KN, s ∈ L_x) ∧ (∀ a, a < k → (ixs KN).getD a 0 = (fr + a) % n1 + 1) ∧ (Kp No w wr) ∧ (Bk wr p0_0 ([.slice A (l.length) (c), .int .i64 (ka), .int .i64 (na), .slice A2 (d2.length) (c2)]) 46) ∧ (Bk wr pb ([.int .i64 ((q1 + 1 : Nat) : Int), .int .i64 ((n1 : Nat) : Int), .int .u32 5]) 28) ∧ (Od wr 0 (.slice A_S1 ((S1).length) (c_S1)) (S1) ∧ 0 ≤ (wr).heap.size) ∧ (Od wr 0 (.slice A_D1 ((D1).length) (c_D1)) (D1) ∧ 0 ≤ (wr).heap.size) ∧ (Ob wr w5.heap.size (.slice (some ⟨g, 0, none⟩) ((ov).length) (c_7)) (ov) ∧ w5.heap.size ≤ (wr).heap.size) ∧ (Sw 50 w8.heap.size wr w8.heap.size (.slice A_x ((L_x).length) (c_x)) (L_x) ∧ w8.heap.size ≤ (wr).heap.size) ∧ (Sw 50 w8.heap.size wr w22.heap.size (.slice Ak ((KN).length) (ck)) (KN) ∧ w22.heap.size ≤ (wr).heap.size) ∧ (Gt wr) ∧ (Tb wr b2_0)) (q1 - 0) [(2, .int .u8 ((fr : Nat) : Int)), (7, .slice A_S1 ((S1).length) (c_S1)), (8, .pointer (some ⟨pb, 0, none⟩)), (9, .slice A_D1 ((D1).length) (c_D1)), (10, .pointer (some ⟨b2_0, 0, none⟩)), (11, .slice (some ⟨g, 0, none⟩) ((ov).length) (c_7)), (13, .slice A_x ((L_x).length) (c_x)), (16, .slice none ((([])).length) (0)), (17, .int .i64 0)] (Sub.cons rfl (Sub.cons rfl (Sub.cons rfl (Sub.cons rfl (Sub.cons rfl (Sub.cons rfl (Sub.cons rfl (Sub.cons rfl (Sub.cons rfl (Sub.nil _)))))))))) ⟨0, none, 0, [], rfl, rfl, by omega, rfl, (fun s h => by cases h), (fun a h => absurd h (Nat.not_lt_zero _)), kk22, f_p0_0_22, f_pb_22, ⟨S1_22.1, (Nat.zero_le _)⟩, ⟨D1_22.1, (Nat.zero_le _)⟩, ⟨o_22.1, o_22.2⟩, ⟨x_22.1, x_22.2⟩, ⟨by exact sw175, z176⟩, G_22, T_b2_0_22⟩ ?_
      rintro _ _ w23 ⟨k, Ak, ck, KN, rfl, rfl, hk, hKl, hKs, hKx, kk23, f_p0_0_23, f_pb_23, S1_23, D1_23, o_23, x_23, kn_23, G_23, T_b2_0_23⟩
      refine C_seq (fun K181 hK181 => ?_)
      refine C_seq (fun K182 hK182 => ?_)
      refine C_region ?_
      refine R_pu (pu_move rfl) rfl ?_
      refine R_pu (pu_fieldAddr (off := 0) (o' := 0) (by kernel_rfl) rfl rfl) rfl ?_
      refine R_pu (pu_loadK f_pb_23 (by kernel_rfl) rfl rfl) rfl ?_
      refine R_pu (pu_sub (z := ((q1 : Nat) : Int)) rfl rfl (by rw [IntKind.wrap_i64]; omega)) rfl ?_
      refine R_pu (pu_lss (p := k < q1) rfl rfl (by omega)) rfl ?_
      refine R_nil ?_
      refine X_then hK182 ?_
      refine C_dec rfl (fun h101 => ?_) (fun h101 => ?_)
      · refine C_skip ?_
        refine X_then hK181 ?_
        refine C_seq (fun K183 hK183 => ?_)
        refine C_block ?_
        have hr20 := Nat.mod_lt (fr + k) (show 0 < n1 by omega)
        refine C_region ?_
        refine R_pu (pu_move rfl) rfl ?_
        refine R_pu (pu_move rfl) rfl ?_
        refine R_pu (pu_move rfl) rfl ?_
        refine R_pu (pu_conv (z := ((fr : Nat) : Int)) Tryd.underlying5 Tryd.underlying3 rfl (by have : fr < 256 := hfr; rw [IntKind.wrap_i64]; omega)) rfl ?_
        refine R_pu (pu_move rfl) rfl ?_
        refine R_pu (pu_add (z := ((fr + k : Nat) : Int)) rfl rfl (by rw [IntKind.wrap_i64]; omega)) rfl ?_
        refine R_pu (pu_fieldAddr (off := 1) (o' := 1) (by kernel_rfl) rfl rfl) rfl ?_
        refine R_pu (pu_loadK f_pb_23 (by kernel_rfl) rfl rfl) rfl ?_
        refine R_pu (pu_rem (z := (((fr + k) % n1 : Nat) : Int)) rfl rfl (by omega) (by rfl)) rfl ?_
        obtain ⟨s2, e_s2⟩ : ∃ q_, (L_x)[(fr + k) % n1]? = some q_ := ⟨_, List.getElem?_eq_getElem (by first | omega | (simp; done) | (simp; omega))⟩
        have ok_s2 := x_23.1.ss.get e_s2
        have od_s2 := x_23.1.od e_s2
        have bi_s2 : s2.ix < 256 := ok_s2.ix
        refine R_pu (pu_indexAddrH x_23.1.ss Tryd.underlying29 (by kernel_rfl) rfl rfl rfl rfl e_s2) rfl ?_
        refine R_pu (pu_loadHr x_23.1.ss e_s2 (by kernel_rfl) (by kernel_rfl) rfl) rfl ?_
        refine R_lo (lo_buildSlice (L := [.int .u8 ((s2.ix : Nat) : Int), .int .u32 ((s2.gen : Nat) : Int), .slice s2.A ((s2.X).length) (s2.c)]) Tryd.underlying29 rfl (by kernel_rfl)) rfl ?_
        rintro _ w24 ⟨lit, rfl, N24⟩
        have k24 := N24.kp
        have kk24 := kk23.then_ k24
        have ne_lit_p0_0 : lit ≠ p0_0 := Nat.ne_of_gt (Nat.lt_of_lt_of_le f_p0_0_23.lt N24.le)
        have ne_lit_pb : lit ≠ pb := Nat.ne_of_gt (Nat.lt_of_lt_of_le f_pb_23.lt N24.le)
        have ne_lit_0 : lit ≠ 0 := Nat.ne_of_gt (Nat.lt_of_lt_of_le G_23.lt N24.le)
        have ne_lit_b2_0 : lit ≠ b2_0 := Nat.ne_of_gt (Nat.lt_of_lt_of_le T_b2_0_23.lt N24.le)
        have ne_lit_g : lit ≠ g := o_23.1.ne N24.le
        have f_lit_24 : Bk w24 lit ([.int .u8 ((s2.ix : Nat) : Int), .int .u32 ((s2.gen : Nat) : Int), .slice s2.A ((s2.X).length) (s2.c)]) 50 := N24.bk
        have ob184 := (kn_23.1.keptNo k24)
        have ob185 := (od_s2.keptNo k24)
        have ob186 := (x_23.1.keptNo k24)
        refine R_lo (lo_apps (L := KN) (M := [s2]) Tryd.underlying29 (by kernel_rfl) ob184 ob184.le.1 rfl rfl rfl (Ss.lit [s2] f_lit_24 (by simp only [List.mem_cons, List.not_mem_nil, or_false, forall_eq_or_imp, forall_eq]; exact ok_s2.okOd ob185)) (Sw.datU ob186 lm180 ob184 (List.mem_of_getElem? e_s2)) (by simp) (by rw [hKl]; simp; omega) (Nat.le_trans kn_23.2 k24.size)) rfl ?_
        rintro _ w25 ⟨A_25, c_25, rfl, p25⟩
        have k25 := p25.kp
        have kk25 := kk24.trans k25 (fun i hi => .inr (Nat.le_trans (kk22).size hi))
        refine R_pu (pu_assign rfl) rfl ?_
        refine R_nil ?_
        refine X_in_normal ?_
        refine X_then hK183 ?_
        refine C_region ?_
        refine R_pu (pu_move rfl) rfl ?_
        refine R_pu (pu_add (z := ((k + 1 : Nat) : Int)) rfl rfl (by rw [IntKind.wrap_i64]; omega)) rfl ?_
        refine R_pu (pu_assign rfl) rfl ?_
        refine R_nil ?_
        have f187 : Bk w25 p0_0 ([.slice A (l.length) (c), .int .i64 (ka), .int .i64 (na), .slice A2 (d2.length) (c2)]) 46 := ((f_p0_0_23.no k24).kept k25 (by have := f_p0_0_22.lt; omega))
        have f188 : Bk w25 pb ([.int .i64 ((q1 + 1 : Nat) : Int), .int .i64 ((n1 : Nat) : Int), .int .u32 5]) 28 := ((f_pb_23.no k24).kept k25 (by have := f_pb_22.lt; omega))
        have ob189 := ((S1_23.1.keptNo k24).past lm177 k25)
        have ob190 := ((D1_23.1.keptNo k24).past lm178 k25)
        have ob191 := ((o_23.1.keptNo k24).past lm179 k25)
        have ob192 := (ob186.past lm180 k25)
        have o193 : Gt w25 := ((G_23.no k24).kept k25 (by have := G_22.lt; omega))
        have o194 : Tb w25 b2_0 := ((T_b2_0_23.no k24).kept k25 (by have := T_b2_0_22.lt; omega))
        refine X_round (q1 - (k + 1)) [(2, .int .u8 ((fr : Nat) : Int)), (7, .slice A_S1 ((S1).length) (c_S1)), (8, .pointer (some ⟨pb, 0, none⟩)), (9, .slice A_D1 ((D1).length) (c_D1)), (10, .pointer (some ⟨b2_0, 0, none⟩)), (11, .slice (some ⟨g, 0, none⟩) ((ov).length) (c_7)), (13, .slice A_x ((L_x).length) (c_x)), (16, .slice A_25 (((KN ++ ([s2]))).length) (c_25)), (17, .int .i64 (((k + 1) : Nat) : Int))] (by omega) (Sub.cons rfl (Sub.cons rfl (Sub.cons rfl (Sub.cons rfl (Sub.cons rfl (Sub.cons rfl (Sub.cons rfl (Sub.cons rfl (Sub.cons rfl (Sub.nil _)))))))))) ⟨k + 1, A_25, c_25, KN ++ ([s2]), rfl, rfl, by omega, (by rw [List.length_append, hKl]; rfl), (fun s hs => (List.mem_append.1 hs).elim (hKs s) (fun h => by rw [List.mem_singleton.1 h]; exact List.mem_of_getElem? e_s2)), (row_step hKl hKx (key_at hK_x e_s2 (ptK_get hr20)).1), kk25, f187, f188, ⟨ob189, (Nat.zero_le _)⟩, ⟨ob190, (Nat.zero_le _)⟩, ⟨ob191, (Nat.le_trans (Nat.le_trans o_23.2 k24.size) k25.size)⟩, ⟨ob192, (Nat.le_trans (Nat.le_trans x_23.2 k24.size) k25.size)⟩, ⟨by exact p25.ob, (Nat.le_trans (Nat.le_trans kn_23.2 k24.size) k25.size)⟩, o193, o194⟩
      · refine C_exit ?_
        refine X_then_exit (X_then_exit (X_in_eq ?_))
        refine X_then hK173 ?_
        refine C_seq (fun K195 hK195 => ?_)
        have hKq : KN.length = q1 := by omega
        have hKd : Di (ixs KN) := row_di hKq (show q1 ≤ n1 by omega) (fun a ha => hKx a (by omega))
        have bS1 := S1_23.1.bs.byte; have bD1 := D1_23.1.bs.byte; have bo := o_23.1.byte
        have hKp : ∀ s ∈ KN, s.ix < 256 ∧ s.ix ≠ 0 ∧ s.X = ptX S1 D1 q1 s.ix ∧ s.ix ≤ n1 := fun s hs => by have h := part_of hK_x (hKs s hs); exact ⟨by omega, by omega, h.2.2, h.2.1.2⟩
        refine C_region ?_
        refine R_pu (pu_move rfl) rfl ?_
        refine R_pu (pu_move rfl) rfl ?_
        refine R_pu (pu_move rfl) rfl ?_
        refine R_pu (pu_loadRow (len := 3) f_pb_23 (by kernel_rfl) (by kernel_rfl) rfl rfl) rfl ?_
        have lm196 := S1_23.1.top
        have lm197 := D1_23.1.top
        have lm198 := o_23.1.top
        have lm199 := x_23.1.top
        have lm200 := kn_23.1.top
        refine R_lo (lo_call (by kernel_rfl) rfl (drawn_ b2_0 (some ⟨g, 0, none⟩) ov c_7 Ak KN ck q1 n1 5 _ o_23.1.bs o_23.1.le.2 kn_23.1.ss ⟨⟨hKq, by omega, by omega, by omega, by decide⟩, (fun s hs => ⟨(hKp s hs).2.1, by rw [(hKp s hs).2.2.1, ptX_length]; exact ho.symm⟩), hKd⟩ (Aw.ofOb o_23.1 (by have := T5.lt; omega)) (kn_23.1.aw (by have := (And.intro T_b2_0_22.lt T_b2_0_8.lt); omega)) T_b2_0_23)) rfl ?_
        rintro _ w26 ⟨A_th, c_th, rfl, Q26, T26, k26⟩
        have kk26 := kk23.trans k26 (fun i hi => .inr (hi ▸ (Nat.le_trans kk4.size le5)))
        have z201 : w23.heap.size ≤ w26.heap.size := k26.size
        refine R_pu (pu_move rfl) rfl ?_
        refine R_pu (pu_extract rfl rfl) rfl ?_
        refine R_pu (pu_extract rfl rfl) rfl ?_
        refine R_pu (pu_assign rfl) rfl ?_
        refine R_pu (pu_assign rfl) rfl ?_
        refine R_nil ?_
        refine X_then hK195 ?_
        refine C_seq (fun K202 hK202 => ?_)
        refine C_region ?_
        refine R_pu (pu_move rfl) rfl ?_
        refine R_pu (pu_move rfl) rfl ?_
        have f203 : Bk w26 pb ([.int .i64 ((q1 + 1 : Nat) : Int), .int .i64 ((n1 : Nat) : Int), .int .u32 5]) 28 := (f_pb_23.on k26 (Ne.symm ne_b2_0_pb))
        refine R_pu (pu_loadRow (len := 3) f203 (by kernel_rfl) (by kernel_rfl) rfl rfl) rfl ?_
        refine R_pu (pu_move rfl) rfl ?_
        have ob204 := (o_23.1.onF k26 ne_g_b2_0)
        have f205 : Bk w26 p0_0 ([.slice A (l.length) (c), .int .i64 (ka), .int .i64 (na), .slice A2 (d2.length) (c2)]) 46 := (f_p0_0_23.on k26 (Ne.symm ne_b2_0_p0_0))
        have o206 : Gt w26 := (G_23.on k26 (Ne.symm ne_b2_0_0))
        have ob208 := (S1_23.1.onN k26 ob8 le5)
        have lm207 := ob208.top
        have ob210 := (D1_23.1.onN k26 ob9 le5)
        have lm209 := ob210.top
        have lm211 := ob204.top
        have ob213 := (x_23.1.on k26 (by have := T_b2_0_8.lt; omega))
        have lm212 := ob213.top
        have ob215 := (kn_23.1.on k26 (by have := (And.intro T_b2_0_22.lt T_b2_0_8.lt); omega))
        have lm214 := ob215.top
        have lm216 := Q26.top
        refine R_lo (lo_call (by kernel_rfl) rfl (shamir_split b2_0 (some ⟨g, 0, none⟩) ov c_7 q1 n1 5 A_th (drL ov KN q1 ov.length) c_th _ ob204.bs ob204.le.2 Q26.bs Q26.le.2 (by decide) (by omega) (by omega) (by rw [drL_length, Nat.mul_comm]) (Aw.ofOb ob204 (by have := T5.lt; omega)) (Aw.ofOb Q26 (by have := T_b2_0_23.lt; omega)) T26)) rfl ?_
        rintro _ w27 ⟨A_m, c_m, L_m, rfl, Q27, hK_m, T27, k27⟩
        have kk27 := kk26.trans k27 (fun i hi => .inr (hi ▸ (Nat.le_trans kk4.size le5)))
        have z217 : w26.heap.size ≤ w27.heap.size := k27.size
        have hl_m := (key_len hK_m).trans (ptK_length ..)
        refine R_pu (pu_move rfl) rfl ?_
        refine R_pu (pu_extract rfl rfl) rfl ?_
        refine R_pu (pu_extract rfl rfl) rfl ?_
        refine R_pu (pu_assign rfl) rfl ?_
        refine R_pu (pu_assign rfl) rfl ?_
        refine R_nil ?_
        refine X_then hK202 ?_
        refine C_seq (fun K218 hK218 => ?_)
        refine C_region ?_
        refine R_pu (pu_move rfl) rfl ?_
        refine R_pu (pu_move rfl) rfl ?_
        refine R_pu (pu_move rfl) rfl ?_
        have f219 : Bk w27 pb ([.int .i64 ((q1 + 1 : Nat) : Int), .int .i64 ((n1 : Nat) : Int), .int .u32 5]) 28 := (f203.on k27 (Ne.symm ne_b2_0_pb))
        refine R_pu (pu_loadRow (len := 3) f219 (by kernel_rfl) (by kernel_rfl) rfl rfl) rfl ?_
        have ob220 := (ob208.onN k27 ob8 le5)
        have ob221 := (ob215.on k27 (by have := (And.intro T_b2_0_22.lt T_b2_0_8.lt); omega))
        have f222 : Bk w27 p0_0 ([.slice A (l.length) (c), .int .i64 (ka), .int .i64 (na), .slice A2 (d2.length) (c2)]) 46 := (f205.on k27 (Ne.symm ne_b2_0_p0_0))
        have o223 : Gt w27 := (o206.on k27 (Ne.symm ne_b2_0_0))
        have lm224 := ob220.top
        have ob226 := (ob210.onN k27 ob9 le5)
        have lm225 := ob226.top
        have ob228 := (ob204.onF k27 ne_g_b2_0)
        have lm227 := ob228.top
        have ob230 := (ob213.on k27 (by have := T_b2_0_8.lt; omega))
        have lm229 := ob230.top
        have lm231 := ob221.top
        have ob233 := (Q26.on k27 (by have := T_b2_0_23.lt; omega))
        have lm232 := ob233.top
        have lm234 := Q27.top
        refine R_lo (lo_call (by kernel_rfl) rfl (drawn_ b2_0 A_S1 S1 c_S1 Ak KN ck q1 n1 5 _ ob220.bs ob220.le.2 ob221.ss ⟨⟨hKq, by omega, by omega, by omega, by decide⟩, (fun s hs => ⟨(hKp s hs).2.1, by rw [(hKp s hs).2.2.1, ptX_length]⟩), hKd⟩ (Od.awN ob8 le5) (ob221.aw (by have := (And.intro T_b2_0_22.lt T_b2_0_8.lt); omega)) T27)) rfl ?_
        rintro _ w28 ⟨A_bk, c_bk, rfl, Q28, T28, k28⟩
        have kk28 := kk27.trans k28 (fun i hi => .inr (hi ▸ (Nat.le_trans kk4.size le5)))
        have z235 : w27.heap.size ≤ w28.heap.size := k28.size
        refine R_pu (pu_move rfl) rfl ?_
        refine R_pu (pu_extract rfl rfl) rfl ?_
        refine R_pu (pu_extract rfl rfl) rfl ?_
        refine R_pu (pu_assign rfl) rfl ?_
        refine R_pu (pu_assign rfl) rfl ?_
        refine R_nil ?_
        refine X_then hK218 ?_
        refine C_seq (fun K236 hK236 => ?_)
        refine C_seq (fun K237 hK237 => ?_)
        have hback : drL S1 KN q1 S1.length = D1 := hides_back hKq (fun s hs => ⟨(hKp s hs).1, (hKp s hs).2.1, (hKp s hs).2.2.1⟩) hKd bS1 bD1 hD1
        refine C_region ?_
        refine R_pu (pu_move rfl) rfl ?_
        refine R_pu (pu_not rfl) rfl ?_
        refine R_pu (pu_move rfl) rfl ?_
        refine R_gpu rfl rfl (pu_move rfl) rfl ?_
        refine R_gpu rfl rfl (pu_not rfl) rfl ?_
        refine R_pu (pu_pickf rfl rfl) rfl ?_
        refine R_pu (pu_move rfl) rfl ?_
        refine R_gpu rfl rfl (pu_move rfl) rfl ?_
        refine R_gpu rfl rfl (pu_neqnn (by kernel_rfl) rfl) rfl ?_
        refine R_pu (pu_pickf rfl rfl) rfl ?_
        refine R_pu (pu_move rfl) rfl ?_
        refine R_gpu rfl rfl (pu_move rfl) rfl ?_
        refine R_gpu rfl rfl (pu_len Tryd.underlying29 rfl) rfl ?_
        refine R_gpu rfl rfl (pu_fieldAddr (off := 1) (o' := 1) (by kernel_rfl) rfl rfl) rfl ?_
        have f238 : Bk w28 pb ([.int .i64 ((q1 + 1 : Nat) : Int), .int .i64 ((n1 : Nat) : Int), .int .u32 5]) 28 := (f219.on k28 (Ne.symm ne_b2_0_pb))
        refine R_gpu rfl rfl (pu_loadK f238 (by kernel_rfl) rfl rfl) rfl ?_
        refine R_gpu rfl rfl (pu_false (pu_neq (p := ((L_m).length) = n1) rfl rfl (by omega)) (fun h => h hl_m)) rfl ?_
        refine R_pu (pu_pickf rfl rfl) rfl ?_
        refine R_pu (pu_move rfl) rfl ?_
        refine R_gpu rfl rfl (pu_move rfl) rfl ?_
        refine R_gpu rfl rfl (pu_bstr Q28.bs Tryd.underlying22 Tryd.underlying5 Tryd.underlying9 rfl rfl) rfl ?_
        refine R_gpu rfl rfl (pu_move rfl) rfl ?_
        have ob239 := (ob226.onN k28 ob9 le5)
        refine R_gpu rfl rfl (pu_bstr ob239.bs Tryd.underlying22 Tryd.underlying5 Tryd.underlying9 rfl rfl) rfl ?_
        refine R_gpu rfl rfl (pu_false (pu_neqs (p := (drL S1 KN q1 S1.length) = D1) rfl rfl (bstr_inj (Q28.bs).byte (ob239.bs).byte)) (fun h => h hback)) rfl ?_
        refine R_pu (pu_pickf rfl rfl) rfl ?_
        refine R_nil ?_
        refine X_then hK237 ?_
        refine C_false rfl ?_
        refine C_skip ?_
        refine X_then hK236 ?_
        refine C_seq (fun K240 hK240 => ?_)
        refine C_seq (fun K241 hK241 => ?_)
        refine C_region ?_
        refine R_pu (pu_assign rfl) rfl ?_
        refine R_nil ?_
        refine X_then hK241 ?_
        refine C_block ?_
        have f242 : Bk w28 p0_0 ([.slice A (l.length) (c), .int .i64 (ka), .int .i64 (na), .slice A2 (d2.length) (c2)]) 46 := (f222.on k28 (Ne.symm ne_b2_0_p0_0))
        have ob243 := (ob220.onN k28 ob8 le5)
        have ob244 := (ob228.onF k28 ne_g_b2_0)
        have ob245 := (ob230.on k28 (by have := T_b2_0_8.lt; omega))
        have ob246 := (ob221.on k28 (by have := (And.intro T_b2_0_22.lt T_b2_0_8.lt); omega))
        have ob247 := (ob233.on k28 (by have := T_b2_0_23.lt; omega))
        have ob248 := (Q27.on k28 (by have := T26.lt; omega))
        have o249 : Gt w28 := (o223.on k28 (Ne.symm ne_b2_0_0))
        refine C_loop (fun m_ l_ wr => ∃ i4 : Nat, (m_ = KN.length - i4) ∧ (l_ = [(16, .slice Ak ((KN).length) (ck)), (20, .slice A_m ((L_m).length) (c_m)), (24, .int .i64 ((i4 : Nat) : Int))]) ∧ (i4 ≤ KN.length) ∧ (Kp No w wr) ∧ (Bk wr p0_0 ([.slice A (l.length) (c), .int .i64 (ka), .int .i64 (na), .slice A2 (d2.length) (c2)]) 46) ∧ (Bk wr pb ([.int .i64 ((q1 + 1 : Nat) : Int), .int .i64 ((n1 : Nat) : Int), .int .u32 5]) 28) ∧ (Od wr 0 (.slice A_S1 ((S1).length) (c_S1)) (S1) ∧ 0 ≤ (wr).heap.size) ∧ (Od wr 0 (.slice A_D1 ((D1).length) (c_D1)) (D1) ∧ 0 ≤ (wr).heap.size) ∧ (Ob wr w5.heap.size (.slice (some ⟨g, 0, none⟩) ((ov).length) (c_7)) (ov) ∧ w5.heap.size ≤ (wr).heap.size) ∧ (Sw 50 w8.heap.size wr w8.heap.size (.slice A_x ((L_x).length) (c_x)) (L_x) ∧ w8.heap.size ≤ (wr).heap.size) ∧ (Sw 50 w8.heap.size wr w22.heap.size (.slice Ak ((KN).length) (ck)) (KN) ∧ w22.heap.size ≤ (wr).heap.size) ∧ (Ob wr w23.heap.size (.slice A_th ((drL ov KN q1 ov.length).length) (c_th)) (drL ov KN q1 ov.length) ∧ w23.heap.size ≤ (wr).heap.size) ∧ (Sw 50 w26.heap.size wr w26.heap.size (.slice A_m ((L_m).length) (c_m)) (L_m) ∧ w26.heap.size ≤ (wr).heap.size) ∧ (Ob wr w27.heap.size (.slice A_bk ((drL S1 KN q1 S1.length).length) (c_bk)) (drL S1 KN q1 S1.length) ∧ w27.heap.size ≤ (wr).heap.size) ∧ (Gt wr) ∧ (Tb wr b2_0)) (KN.length - 0) [(16, .slice Ak ((KN).length) (ck)), (20, .slice A_m ((L_m).length) (c_m)), (24, .int .i64 0)] (Sub.cons rfl (Sub.cons rfl (Sub.cons rfl (Sub.nil _)))) ⟨0, rfl, rfl, by omega, kk28, f242, f238, ⟨ob243, (Nat.zero_le _)⟩, ⟨ob239, (Nat.zero_le _)⟩, ⟨ob244, (Nat.le_trans (Nat.le_trans (Nat.le_trans o_23.2 k26.size) k27.size) k28.size)⟩, ⟨ob245, (Nat.le_trans (Nat.le_trans (Nat.le_trans x_23.2 k26.size) k27.size) k28.size)⟩, ⟨ob246, (Nat.le_trans (Nat.le_trans (Nat.le_trans kn_23.2 k26.size) k27.size) k28.size)⟩, ⟨ob247, (Nat.le_trans (Nat.le_trans z201 k27.size) k28.size)⟩, ⟨ob248, (Nat.le_trans z217 k28.size)⟩, ⟨Q28, z235⟩, o249, T28⟩ ?_
        rintro _ _ w29 ⟨i4, rfl, rfl, hi4, kk29, f_p0_0_29, f_pb_29, S1_29, D1_29, o_29, x_29, kn_29, th_29, m_29, bk_29, G_29, T_b2_0_29⟩
        refine C_seq (fun K250 hK250 => ?_)
        refine C_seq (fun K251 hK251 => ?_)
        refine C_region ?_
        refine R_pu (pu_move rfl) rfl ?_
        refine R_pu (pu_move rfl) rfl ?_
        refine R_pu (pu_len Tryd.underlying29 rfl) rfl ?_
        refine R_pu (pu_lss (p := i4 < ((KN).length)) rfl rfl (by omega)) rfl ?_
        refine R_nil ?_
        refine X_then hK251 ?_
        refine C_dec rfl (fun h168 => ?_) (fun h168 => ?_)
        · refine C_skip ?_
          refine X_then hK250 ?_
          refine C_seq (fun K252 hK252 => ?_)
          refine C_block ?_
          refine C_seq (fun K253 hK253 => ?_)
          refine D_begin (fun W => Kp No w W ∧ Bk W p0_0 ([.slice A (l.length) (c), .int .i64 (ka), .int .i64 (na), .slice A2 (d2.length) (c2)]) 46 ∧ Bk W pb ([.int .i64 ((q1 + 1 : Nat) : Int), .int .i64 ((n1 : Nat) : Int), .int .u32 5]) 28 ∧ Gt W ∧ Tb W b2_0 ∧ Sw 50 w8.heap.size W w22.heap.size (.slice Ak ((KN).length) (ck)) (KN) ∧ Sw 50 w26.heap.size W w26.heap.size (.slice A_m ((L_m).length) (c_m)) (L_m)) 18 rfl (by kernel_rfl) ⟨kk29.drew, f_p0_0_29.draw, f_pb_29.draw, G_29.draw, T_b2_0_29.draw, kn_29.1.draw, m_29.1.draw⟩ ?_
          intro w30 k30 _
          have kk30 := kk29.then_ k30
          refine D_take 0 rfl (by kernel_rfl) (by kernel_rfl) (by kernel_rfl) (fun _ _ _ h => h) rfl (fun W hS => pu_move rfl) ?_
          refine D_take 1 rfl (by kernel_rfl) (by kernel_rfl) (by kernel_rfl) (fun _ _ _ h => h) rfl (fun W hS => pu_move rfl) ?_
          refine D_take 2 rfl (by kernel_rfl) (by kernel_rfl) (by kernel_rfl) (fun _ _ _ h => h) rfl (fun W hS => pu_move rfl) ?_
          have ob254 := (kn_29.1.keptNo k30)
          obtain ⟨k1, e_k1⟩ : ∃ q_, (KN)[i4]? = some q_ := ⟨_, List.getElem?_eq_getElem (by first | omega | (simp; done) | (simp; omega))⟩
          have ok_k1 := ob254.ss.get e_k1
          have od_k1 := ob254.od e_k1
          have bi_k1 : k1.ix < 256 := ok_k1.ix
          refine D_take 3 rfl (by kernel_rfl) (by kernel_rfl) (by kernel_rfl) (fun _ _ _ h => h) rfl (fun W hS => pu_indexAddrH hS.2.2.2.2.2.1.ss Tryd.underlying29 (by kernel_rfl) rfl rfl rfl rfl e_k1) ?_
          refine D_take 4 rfl (by kernel_rfl) (by kernel_rfl) (by kernel_rfl) (fun _ _ _ h => h) rfl (fun W hS => pu_fieldAddrH (off := 0) hS.2.2.2.2.2.1.ss e_k1 (by kernel_rfl) rfl) ?_
          refine D_take 5 rfl (by kernel_rfl) (by kernel_rfl) (by kernel_rfl) (fun _ _ _ h => h) rfl (fun W hS => pu_loadH hS.2.2.2.2.2.1.ss e_k1 (by kernel_rfl) rfl rfl) ?_
          have hk1 := hKp k1 (List.mem_of_getElem? e_k1)
          have hk0 : 1 ≤ k1.ix := by omega
          refine D_take 6 rfl (by kernel_rfl) (by kernel_rfl) (by kernel_rfl) (fun _ _ _ h => h) rfl (fun W hS => pu_sub (z := ((k1.ix - 1 : Nat) : Int)) rfl rfl (by rw [IntKind.wrap_u8]; omega)) ?_
          have ob255 := (m_29.1.keptNo k30)
          obtain ⟨m1, e_m1⟩ : ∃ q_, (L_m)[k1.ix - 1]? = some q_ := ⟨_, List.getElem?_eq_getElem (by first | omega | (simp; done) | (simp; omega))⟩
          have ok_m1 := ob255.ss.get e_m1
          have od_m1 := ob255.od e_m1
          have bi_m1 : m1.ix < 256 := ok_m1.ix
          refine D_take 7 rfl (by kernel_rfl) (by kernel_rfl) (by kernel_rfl) (fun _ _ _ h => h) rfl (fun W hS => pu_indexAddrH hS.2.2.2.2.2.2.ss Tryd.underlying29 (by kernel_rfl) rfl rfl rfl rfl e_m1) ?_
          refine D_take 8 rfl (by kernel_rfl) (by kernel_rfl) (by kernel_rfl) (fun _ _ _ h => h) rfl (fun W hS => pu_fieldAddrH (off := 2) hS.2.2.2.2.2.2.ss e_m1 (by kernel_rfl) rfl) ?_
          refine D_take 9 rfl (by kernel_rfl) (by kernel_rfl) (by kernel_rfl) (fun _ _ _ h => h) rfl (fun W hS => pu_loadH hS.2.2.2.2.2.2.ss e_m1 (by kernel_rfl) rfl rfl) ?_
          refine D_take 10 rfl (by kernel_rfl) (by kernel_rfl) (by kernel_rfl) (fun _ _ _ h => h) rfl (fun W hS => pu_bstr (hS.2.2.2.2.2.2.ss.get e_m1).bs Tryd.underlying22 Tryd.underlying5 Tryd.underlying9 rfl rfl) ?_
          refine D_take 11 rfl (by kernel_rfl) (by kernel_rfl) (by kernel_rfl) (fun _ _ _ h => h) rfl (fun W hS => pu_move rfl) ?_
          refine D_take 12 rfl (by kernel_rfl) (by kernel_rfl) (by kernel_rfl) (fun _ _ _ h => h) rfl (fun W hS => pu_move rfl) ?_
          refine D_take 13 rfl (by kernel_rfl) (by kernel_rfl) (by kernel_rfl) (fun _ _ _ h => h) rfl (fun W hS => pu_indexAddrH hS.2.2.2.2.2.1.ss Tryd.underlying29 (by kernel_rfl) rfl rfl rfl rfl e_k1) ?_
          refine D_take 14 rfl (by kernel_rfl) (by kernel_rfl) (by kernel_rfl) (fun _ _ _ h => h) rfl (fun W hS => pu_fieldAddrH (off := 2) hS.2.2.2.2.2.1.ss e_k1 (by kernel_rfl) rfl) ?_
          refine D_take 15 rfl (by kernel_rfl) (by kernel_rfl) (by kernel_rfl) (fun _ _ _ h => h) rfl (fun W hS => pu_loadH hS.2.2.2.2.2.1.ss e_k1 (by kernel_rfl) rfl rfl) ?_
          refine D_take 16 rfl (by kernel_rfl) (by kernel_rfl) (by kernel_rfl) (fun _ _ _ h => h) rfl (fun W hS => pu_bstr (hS.2.2.2.2.2.1.ss.get e_k1).bs Tryd.underlying22 Tryd.underlying5 Tryd.underlying9 rfl rfl) ?_
          refine D_take 17 rfl (by kernel_rfl) (by kernel_rfl) (by kernel_rfl) (fun _ _ _ h => h) rfl (fun W hS => pu_false (pu_neqs (p := m1.X = k1.X) rfl rfl (bstr_inj ((hS.2.2.2.2.2.2.ss.get e_m1).bs).byte ((hS.2.2.2.2.2.1.ss.get e_k1).bs).byte)) (fun h => h (by rw [(key_at hK_m e_m1 (ptK_get (show k1.ix - 1 < n1 by omega))).2.2, show k1.ix - 1 + 1 = k1.ix by omega]; exact hides_there hKq (fun s hs => ⟨(hKp s hs).1, (hKp s hs).2.1, by rw [(hKp s hs).2.2.1, ptX_length, ho], by rw [(hKp s hs).2.2.1]; exact ptX_bl bS1 bD1 _ _⟩) hKd bo (List.mem_of_getElem? e_k1)))) ?_
          refine D_done (by kernel_rfl) ?_
          refine X_then hK253 ?_
          refine C_false rfl ?_
          refine C_skip ?_
          refine X_in_normal ?_
          refine X_then hK252 ?_
          refine C_region ?_
          refine R_pu (pu_move rfl) rfl ?_
          refine R_pu (pu_add (z := ((i4 + 1 : Nat) : Int)) rfl rfl (by rw [IntKind.wrap_i64]; omega)) rfl ?_
          refine R_pu (pu_assign rfl) rfl ?_
          refine R_nil ?_
          have f256 : Bk w30 p0_0 ([.slice A (l.length) (c), .int .i64 (ka), .int .i64 (na), .slice A2 (d2.length) (c2)]) 46 := (f_p0_0_29.no k30)
          have f257 : Bk w30 pb ([.int .i64 ((q1 + 1 : Nat) : Int), .int .i64 ((n1 : Nat) : Int), .int .u32 5]) 28 := (f_pb_29.no k30)
          have ob258 := (S1_29.1.keptNo k30)
          have ob259 := (D1_29.1.keptNo k30)
          have ob260 := (o_29.1.keptNo k30)
          have ob261 := (x_29.1.keptNo k30)
          have ob262 := (th_29.1.keptNo k30)
          have ob263 := (bk_29.1.keptNo k30)
          have o264 : Gt w30 := (G_29.no k30)
          have o265 : Tb w30 b2_0 := (T_b2_0_29.no k30)
          refine X_round (KN.length - (i4 + 1)) [(16, .slice Ak ((KN).length) (ck)), (20, .slice A_m ((L_m).length) (c_m)), (24, .int .i64 (((i4 + 1) : Nat) : Int))] (by omega) (Sub.cons rfl (Sub.cons rfl (Sub.cons rfl (Sub.nil _)))) ⟨i4 + 1, rfl, rfl, by omega, kk30, f256, f257, ⟨ob258, (Nat.zero_le _)⟩, ⟨ob259, (Nat.zero_le _)⟩, ⟨ob260, (Nat.le_trans o_29.2 k30.size)⟩, ⟨ob261, (Nat.le_trans x_29.2 k30.size)⟩, ⟨ob254, (Nat.le_trans kn_29.2 k30.size)⟩, ⟨ob262, (Nat.le_trans th_29.2 k30.size)⟩, ⟨ob255, (Nat.le_trans m_29.2 k30.size)⟩, ⟨ob263, (Nat.le_trans bk_29.2 k30.size)⟩, o264, o265⟩
        · refine C_exit ?_
          refine X_then_exit (X_then_exit (X_in_eq ?_))
          refine X_then hK240 ?_
          refine C_seq (fun K266 hK266 => ?_)
          refine C_region ?_
          refine R_lo (lo_call (by kernel_rfl) rfl (sure03 _ G_29)) rfl ?_
          rintro _ w31 ⟨rfl, k31⟩
          have kk31 := kk29.then_ k31
          refine R_pu (pu_assign rfl) rfl ?_
          refine R_nil ?_
          refine X_then hK266 ?_
          refine C_ret ?_
          exact X_ret1 (.inl rfl) rfl rfl ⟨rfl, kk31⟩
end Go.Proofs.YtjbdimfpjbmggaaDoor
