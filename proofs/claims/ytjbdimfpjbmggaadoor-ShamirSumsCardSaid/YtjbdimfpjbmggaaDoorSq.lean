/- The body of ShamirSums. -/
import Derived.Test.YtjbdimfpjbmggaaDoorSp
set_option linter.unusedVariables false
set_option linter.unusedSimpArgs false
namespace Go.Proofs.YtjbdimfpjbmggaaDoor
open Go.RowKit Gm
set_option maxRecDepth 100000 in
set_option maxHeartbeats 2000000 in
theorem shamirSums_ (A : Option Addr) (l : List Nat) (c : Nat) (ka : Int) (hka : (Lit.int .i64 ka).wf = true) (na : Int) (hna : (Lit.int .i64 na).wf = true) (A2 : Option Addr) (d2 : List Nat) (c2 : Nat) (A3 : Option Addr) (l3 : List Nat) (c3 : Nat) (kb : Int) (hkb : (Lit.int .i64 kb).wf = true) (nb : Int) (hnb : (Lit.int .i64 nb).wf = true) (A4 : Option Addr) (d4 : List Nat) (c4 : Nat) (w : World) (HB : Bs w A l) (hc : l.length ≤ c) (HB2 : Bs w A2 d2) (hc2 : d2.length ≤ c2) (HB3 : Bs w A3 l3) (hc3 : l3.length ≤ c3) (HB4 : Bs w A4 d4) (hc4 : d4.length ≤ c4) (hG : Gt w) : Ret Tryd.prog 5 #[.agg ([.slice A (l.length) (c), .int .i64 (ka), .int .i64 (na), .slice A2 (d2.length) (c2)] : List Value).toArray, .agg ([.slice A3 (l3.length) (c3), .int .i64 (kb), .int .i64 (nb), .slice A4 (d4.length) (c4)] : List Value).toArray] w (fun v w' => v = .bool true ∧ Kp No w w') := by
  have kk0 := Kp.refl No w
  refine enter (n := 182) [.agg ([.slice A (l.length) (c), .int .i64 (ka), .int .i64 (na), .slice A2 (d2.length) (c2)] : List Value).toArray, .agg ([.slice A3 (l3.length) (c3), .int .i64 (kb), .int .i64 (nb), .slice A4 (d4.length) (c4)] : List Value).toArray] Tryd.func5 rfl rfl rfl ?_
  show Cw _ _ _ _ [(0, .agg ([.slice A (l.length) (c), .int .i64 (ka), .int .i64 (na), .slice A2 (d2.length) (c2)] : List Value).toArray), (1, .agg ([.slice A3 (l3.length) (c3), .int .i64 (kb), .int .i64 (nb), .slice A4 (d4.length) (c4)] : List Value).toArray)] _
  refine C_seq (fun K1 hK1 => ?_)
  refine C_region ?_
  refine R_lo (lo_box (L := [.slice A (l.length) (c), .int .i64 (ka), .int .i64 (na), .slice A2 (d2.length) (c2)]) rfl rfl) rfl ?_
  rintro _ w1 ⟨p0_0, rfl, N1⟩
  have k1 := N1.kp
  have kk1 := kk0.then_ k1
  have ne_p0_0_0 : p0_0 ≠ 0 := Nat.ne_of_gt (Nat.lt_of_lt_of_le hG.lt N1.le)
  have f_p0_0_1 : Bk w1 p0_0 ([.slice A (l.length) (c), .int .i64 (ka), .int .i64 (na), .slice A2 (d2.length) (c2)]) 46 := N1.bk
  have o2 : Gt w1 := (hG.no k1)
  refine R_lo (lo_box (L := [.slice A3 (l3.length) (c3), .int .i64 (kb), .int .i64 (nb), .slice A4 (d4.length) (c4)]) rfl rfl) rfl ?_
  rintro _ w2 ⟨p0_1, rfl, N2⟩
  have k2 := N2.kp
  have kk2 := kk1.then_ k2
  have ne_p0_1_p0_0 : p0_1 ≠ p0_0 := Nat.ne_of_gt (Nat.lt_of_lt_of_le f_p0_0_1.lt N2.le)
  have ne_p0_1_0 : p0_1 ≠ 0 := Nat.ne_of_gt (Nat.lt_of_lt_of_le o2.lt N2.le)
  have f_p0_1_2 : Bk w2 p0_1 ([.slice A3 (l3.length) (c3), .int .i64 (kb), .int .i64 (nb), .slice A4 (d4.length) (c4)]) 46 := N2.bk
  refine R_pu (pu_assign rfl) rfl ?_
  refine R_nil ?_
  refine X_then hK1 ?_
  refine C_seq (fun K3 hK3 => ?_)
  refine C_region ?_
  have f4 : Bk w2 p0_0 ([.slice A (l.length) (c), .int .i64 (ka), .int .i64 (na), .slice A2 (d2.length) (c2)]) 46 := (f_p0_0_1.no k2)
  refine R_pu (pu_loadRow (len := 4) f4 (by kernel_rfl) (by kernel_rfl) rfl rfl) rfl ?_
  refine R_lo (lo_call (by kernel_rfl) rfl (laid_ A l c ka na A2 d2 c2 _ (HB.keptNo kk2) hc (HB2.keptNo kk2) hc2)) rfl ?_
  rintro _ w3 ⟨A_S1, c_S1, A_D1, c_D1, S1, D1, q1, n1, rfl, QS3, QD3, hq1, hS1, hD1, k3⟩
  have kk3 := kk2.then_ k3
  refine R_pu (pu_move rfl) rfl ?_
  refine R_pu (pu_extract rfl rfl) rfl ?_
  refine R_pu (pu_extract rfl rfl) rfl ?_
  refine R_pu (pu_extract rfl rfl) rfl ?_
  have f5 : Bk w3 p0_0 ([.slice A (l.length) (c), .int .i64 (ka), .int .i64 (na), .slice A2 (d2.length) (c2)]) 46 := (f4.no k3)
  have f6 : Bk w3 p0_1 ([.slice A3 (l3.length) (c3), .int .i64 (kb), .int .i64 (nb), .slice A4 (d4.length) (c4)]) 46 := (f_p0_1_2.no k3)
  have o7 : Gt w3 := ((o2.no k2).no k3)
  refine R_lo (lo_alloc (L := [.int .i64 0, .int .i64 0, .int .u32 0]) (by kernel_rfl)) rfl ?_
  rintro _ w4 ⟨pb, rfl, N4⟩
  have k4 := N4.kp
  have kk4 := kk3.then_ k4
  have ne_pb_p0_0 : pb ≠ p0_0 := Nat.ne_of_gt (Nat.lt_of_lt_of_le f5.lt N4.le)
  have ne_pb_p0_1 : pb ≠ p0_1 := Nat.ne_of_gt (Nat.lt_of_lt_of_le f6.lt N4.le)
  have ne_pb_0 : pb ≠ 0 := Nat.ne_of_gt (Nat.lt_of_lt_of_le o7.lt N4.le)
  have f_pb_4 : Bk w4 pb ([.int .i64 0, .int .i64 0, .int .u32 0]) 28 := N4.bk
  refine R_pu (pu_assign rfl) rfl ?_
  refine R_lo0 (lo_storeRow (C := [.int .i64 ((q1 + 1 : Nat) : Int), .int .i64 ((n1 : Nat) : Int), .int .u32 5]) f_pb_4 (by kernel_rfl) rfl rfl (by intro u hu; simp at hu; rcases hu with rfl | rfl | rfl <;> rfl) rfl) ?_
  rintro _ w5 kf5
  obtain ⟨k5, f_pb_5⟩ := kf5
  replace f_pb_5 : Bk w5 pb ([.int .i64 ((q1 + 1 : Nat) : Int), .int .i64 ((n1 : Nat) : Int), .int .u32 5]) 28 := f_pb_5
  have kk5 := kk4.trans k5 (fun i hi => .inr (hi ▸ (Nat.le_trans kk3.size N4.le)))
  refine R_pu (pu_assign rfl) rfl ?_
  refine R_nil ?_
  refine X_then hK3 ?_
  refine C_seq (fun K8 hK8 => ?_)
  refine C_region ?_
  have f9 : Bk w5 p0_0 ([.slice A (l.length) (c), .int .i64 (ka), .int .i64 (na), .slice A2 (d2.length) (c2)]) 46 := ((f5.no k4).on k5 (Ne.symm ne_pb_p0_0))
  have f10 : Bk w5 p0_1 ([.slice A3 (l3.length) (c3), .int .i64 (kb), .int .i64 (nb), .slice A4 (d4.length) (c4)]) 46 := ((f6.no k4).on k5 (Ne.symm ne_pb_p0_1))
  have o11 : Gt w5 := ((o7.no k4).on k5 (Ne.symm ne_pb_0))
  have ob12 := ((QS3.keptNo k4).onN k5 QS3 N4.le)
  have ob13 := ((QD3.keptNo k4).onN k5 QD3 N4.le)
  refine R_lo (lo_buildSlice0 (sz := 1) Tryd.underlying22 (by kernel_rfl)) rfl ?_
  rintro _ w6 ⟨e0, rfl, N6⟩
  have k6 := N6.kp
  have kk6 := kk5.then_ k6
  have ne_e0_p0_0 : e0 ≠ p0_0 := Nat.ne_of_gt (Nat.lt_of_lt_of_le f9.lt N6.le)
  have ne_e0_p0_1 : e0 ≠ p0_1 := Nat.ne_of_gt (Nat.lt_of_lt_of_le f10.lt N6.le)
  have ne_e0_pb : e0 ≠ pb := Nat.ne_of_gt (Nat.lt_of_lt_of_le f_pb_5.lt N6.le)
  have ne_e0_0 : e0 ≠ 0 := Nat.ne_of_gt (Nat.lt_of_lt_of_le o11.lt N6.le)
  have f_e0_6 : Bk w6 e0 (u8s ([] : List Nat)) 5 := N6.bk
  refine R_pu (pu_move rfl) rfl ?_
  have ob14 : Ob w6 w5.heap.size (.slice (some ⟨e0, 0, none⟩) ([] : List Nat).length 0) [] := Ob.low0 (t := 0) f_e0_6 N6.le
  have lm15 := ob12.top
  have lm16 := ob13.top
  have z17 := N6.kp.size
  have ob18 := (ob12.keptNo k6)
  refine R_lo (lo_app (X := ([] : List Nat)) (Y := S1) ob14 ob14.le.1 rfl rfl rfl ob18.bs (by simp; omega) z17) rfl ?_
  rintro _ w7 ⟨A_7, c_7, rfl, p7⟩
  have k7 := p7.kp
  have kk7 := kk6.trans k7 (fun i hi => .inr (Nat.le_trans (kk5).size hi))
  refine R_pu (pu_assign rfl) rfl ?_
  refine R_nil ?_
  refine X_then hK8 ?_
  refine C_seq (fun K19 hK19 => ?_)
  obtain ⟨g, hA_g, hgb_g, hgl_g⟩ := p7.ob.blk (by simp; omega)
  subst hA_g
  have obf20 : Ob w7 w5.heap.size (.slice (some ⟨g, 0, none⟩) (S1.length) (c_7)) S1 := by exact p7.ob
  have ne_g_p0_0 : g ≠ p0_0 := by have := f9.lt; omega
  have ne_g_p0_1 : g ≠ p0_1 := by have := f10.lt; omega
  have ne_g_pb : g ≠ pb := by have := f_pb_5.lt; omega
  have ne_g_0 : g ≠ 0 := by have := o11.lt; omega
  have hDm := mul_most hD1 (by omega) (by omega)
  refine C_region ?_
  refine R_pu (pu_move rfl) rfl ?_
  refine R_pu (pu_len Tryd.underlying22 rfl) rfl ?_
  have f21 : Bk w7 p0_0 ([.slice A (l.length) (c), .int .i64 (ka), .int .i64 (na), .slice A2 (d2.length) (c2)]) 46 := ((f9.no k6).kept k7 (by have := f9.lt; omega))
  have f22 : Bk w7 p0_1 ([.slice A3 (l3.length) (c3), .int .i64 (kb), .int .i64 (nb), .slice A4 (d4.length) (c4)]) 46 := ((f10.no k6).kept k7 (by have := f10.lt; omega))
  have f23 : Bk w7 pb ([.int .i64 ((q1 + 1 : Nat) : Int), .int .i64 ((n1 : Nat) : Int), .int .u32 5]) 28 := ((f_pb_5.no k6).kept k7 (by have := f_pb_5.lt; omega))
  have o24 : Gt w7 := ((o11.no k6).kept k7 (by have := o11.lt; omega))
  have ob25 := (ob18.past lm15 k7)
  have ob26 := ((ob13.keptNo k6).past lm16 k7)
  refine R_lo (lo_make (z := .int .u8 0) (bytes := 1) (ln := (D1).length) (cp := (D1).length) Tryd.underlying22 (by kernel_rfl) rfl rfl rfl rfl rfl (by omega) (by omega) (by omega)) rfl ?_
  rintro _ w8 ⟨f, rfl, N8⟩
  have k8 := N8.kp
  have kk8 := kk7.then_ k8
  have ne_f_p0_0 : f ≠ p0_0 := Nat.ne_of_gt (Nat.lt_of_lt_of_le f21.lt N8.le)
  have ne_f_p0_1 : f ≠ p0_1 := Nat.ne_of_gt (Nat.lt_of_lt_of_le f22.lt N8.le)
  have ne_f_pb : f ≠ pb := Nat.ne_of_gt (Nat.lt_of_lt_of_le f23.lt N8.le)
  have ne_f_0 : f ≠ 0 := Nat.ne_of_gt (Nat.lt_of_lt_of_le o24.lt N8.le)
  have ne_f_g : f ≠ g := obf20.ne N8.le
  have f_f_8 : Bk w8 f (u8s (List.replicate ((D1).length) 0)) 5 := by rw [u8s_rep]; exact N8.bk
  refine R_pu (pu_assign rfl) rfl ?_
  refine R_nil ?_
  refine X_then hK19 ?_
  refine C_seq (fun K27 hK27 => ?_)
  refine C_seq (fun K28 hK28 => ?_)
  refine C_region ?_
  refine R_pu (pu_assign rfl) rfl ?_
  refine R_nil ?_
  refine X_then hK28 ?_
  refine C_block ?_
  have f29 : Bk w8 p0_0 ([.slice A (l.length) (c), .int .i64 (ka), .int .i64 (na), .slice A2 (d2.length) (c2)]) 46 := (f21.no k8)
  have f30 : Bk w8 p0_1 ([.slice A3 (l3.length) (c3), .int .i64 (kb), .int .i64 (nb), .slice A4 (d4.length) (c4)]) 46 := (f22.no k8)
  have f31 : Bk w8 pb ([.int .i64 ((q1 + 1 : Nat) : Int), .int .i64 ((n1 : Nat) : Int), .int .u32 5]) 28 := (f23.no k8)
  have ob32 := (ob25.keptNo k8)
  have ob33 := (ob26.keptNo k8)
  have ob34 := (obf20.keptNo k8)
  have o35 : Gt w8 := (o24.no k8)
  refine C_loop (fun m_ l_ wr => ∃ i : Nat, ∃ ov : List Nat, (m_ = S1.length - i) ∧ (l_ = [(3, .pointer (some ⟨p0_1, 0, none⟩)), (4, .bool false), (5, .slice A_S1 ((S1).length) (c_S1)), (6, .pointer (some ⟨pb, 0, none⟩)), (7, .slice A_D1 ((D1).length) (c_D1)), (8, .slice (some ⟨g, 0, none⟩) ((ov).length) (c_7)), (9, .slice (some ⟨f, 0, none⟩) ((D1).length) ((D1).length)), (10, .int .i64 ((i : Nat) : Int))]) ∧ (i ≤ S1.length) ∧ (ov.length = S1.length) ∧ (Kp No w wr) ∧ (Bk wr p0_0 ([.slice A (l.length) (c), .int .i64 (ka), .int .i64 (na), .slice A2 (d2.length) (c2)]) 46) ∧ (Bk wr p0_1 ([.slice A3 (l3.length) (c3), .int .i64 (kb), .int .i64 (nb), .slice A4 (d4.length) (c4)]) 46) ∧ (Bk wr pb ([.int .i64 ((q1 + 1 : Nat) : Int), .int .i64 ((n1 : Nat) : Int), .int .u32 5]) 28) ∧ (Bk wr f (u8s (List.replicate ((D1).length) 0)) 5) ∧ (Od wr 0 (.slice A_S1 ((S1).length) (c_S1)) (S1) ∧ 0 ≤ (wr).heap.size) ∧ (Od wr 0 (.slice A_D1 ((D1).length) (c_D1)) (D1) ∧ 0 ≤ (wr).heap.size) ∧ (Ob wr w5.heap.size (.slice (some ⟨g, 0, none⟩) ((ov).length) (c_7)) (ov) ∧ w5.heap.size ≤ (wr).heap.size) ∧ (Gt wr)) (S1.length - 0) [(3, .pointer (some ⟨p0_1, 0, none⟩)), (4, .bool false), (5, .slice A_S1 ((S1).length) (c_S1)), (6, .pointer (some ⟨pb, 0, none⟩)), (7, .slice A_D1 ((D1).length) (c_D1)), (8, .slice (some ⟨g, 0, none⟩) ((S1).length) (c_7)), (9, .slice (some ⟨f, 0, none⟩) ((D1).length) ((D1).length)), (10, .int .i64 0)] (Sub.cons rfl (Sub.cons rfl (Sub.cons rfl (Sub.cons rfl (Sub.cons rfl (Sub.cons rfl (Sub.cons rfl (Sub.cons rfl (Sub.nil _))))))))) ⟨0, S1, rfl, rfl, by omega, rfl, kk8, f29, f30, f31, f_f_8, ⟨ob32, (Nat.zero_le _)⟩, ⟨ob33, (Nat.zero_le _)⟩, ⟨by exact ob34, (Nat.le_trans (Nat.le_trans z17 k7.size) k8.size)⟩, o35⟩ ?_
  rintro _ _ w9 ⟨i, ov, rfl, rfl, hi, ho, kk9, f_p0_0_9, f_p0_1_9, f_pb_9, f_f_9, S1_9, D1_9, o_9, G_9⟩
  refine C_seq (fun K36 hK36 => ?_)
  refine C_seq (fun K37 hK37 => ?_)
  refine C_region ?_
  refine R_pu (pu_move rfl) rfl ?_
  refine R_pu (pu_move rfl) rfl ?_
  refine R_pu (pu_len Tryd.underlying22 rfl) rfl ?_
  refine R_pu (pu_lss (p := i < ((ov).length)) rfl rfl (by omega)) rfl ?_
  by_cases g5_4 : i < ((ov).length)
  · refine R_pu (pu_true (pu_move rfl) g5_4) rfl ?_
    refine R_gpu rfl rfl (pu_move rfl) rfl ?_
    refine R_gpu rfl rfl (pu_fieldAddr (off := 0) (o' := 0) (by kernel_rfl) rfl rfl) rfl ?_
    refine R_gpu rfl rfl (pu_loadK f_p0_1_9 (by kernel_rfl) rfl rfl) rfl ?_
    refine R_gpu rfl rfl (pu_len Tryd.underlying22 rfl) rfl ?_
    refine R_gpu rfl rfl (pu_lss (p := i < l3.length) rfl rfl (by omega)) rfl ?_
    refine R_pu (pu_pickt rfl rfl) rfl ?_
    refine R_nil ?_
    refine X_then hK37 ?_
    refine C_dec rfl (fun h42 => ?_) (fun h42 => ?_)
    · refine C_skip ?_
      refine X_then hK36 ?_
      refine C_seq (fun K38 hK38 => ?_)
      refine C_block ?_
      refine C_region ?_
      refine R_pu (pu_move rfl) rfl ?_
      refine R_pu (pu_move rfl) rfl ?_
      refine R_pu (pu_fieldAddr (off := 0) (o' := 0) (by kernel_rfl) rfl rfl) rfl ?_
      refine R_pu (pu_loadK f_p0_1_9 (by kernel_rfl) rfl rfl) rfl ?_
      refine R_pu (pu_move rfl) rfl ?_
      refine R_pu (pu_indexAddrB (m := i) (HB3.keptNo kk9) Tryd.underlying22 (by kernel_rfl) rfl rfl rfl rfl (by omega)) rfl ?_
      obtain ⟨n, e_n⟩ : ∃ q_, (l3)[i]? = some q_ := ⟨_, List.getElem?_eq_getElem (by omega)⟩
      have b_n : n < 256 := ((HB3.keptNo kk9)).lt e_n
      refine R_pu (pu_loadB (HB3.keptNo kk9) (by kernel_rfl) rfl e_n) rfl ?_
      refine R_pu (pu_indexAddrP (m := i) (s := 1) (o' := i) Tryd.underlying22 (by kernel_rfl) rfl rfl rfl (by omega) (by omega)) rfl ?_
      refine R_lo0 (lo_storeFix o_9.1 (by kernel_rfl) rfl rfl (by omega) b_n) ?_
      rintro _ w10 kf10
      obtain ⟨q10, k10⟩ := kf10
      have kk10 := kk9.trans k10 (fun i hi => .inr (hi ▸ (Nat.le_trans (kk5).size hgb_g)))
      refine R_nil ?_
      refine X_in_normal ?_
      refine X_then hK38 ?_
      refine C_region ?_
      refine R_pu (pu_move rfl) rfl ?_
      refine R_pu (pu_add (z := ((i + 1 : Nat) : Int)) rfl rfl (by rw [IntKind.wrap_i64]; omega)) rfl ?_
      refine R_pu (pu_assign rfl) rfl ?_
      refine R_nil ?_
      have f39 : Bk w10 p0_0 ([.slice A (l.length) (c), .int .i64 (ka), .int .i64 (na), .slice A2 (d2.length) (c2)]) 46 := (f_p0_0_9.on k10 (Ne.symm ne_g_p0_0))
      have f40 : Bk w10 p0_1 ([.slice A3 (l3.length) (c3), .int .i64 (kb), .int .i64 (nb), .slice A4 (d4.length) (c4)]) 46 := (f_p0_1_9.on k10 (Ne.symm ne_g_p0_1))
      have f41 : Bk w10 pb ([.int .i64 ((q1 + 1 : Nat) : Int), .int .i64 ((n1 : Nat) : Int), .int .u32 5]) 28 := (f_pb_9.on k10 (Ne.symm ne_g_pb))
      have f42 : Bk w10 f (u8s (List.replicate ((D1).length) 0)) 5 := (f_f_9.on k10 ne_f_g)
      have ob43 := (S1_9.1.onT k10 lm15 hgb_g)
      have ob44 := (D1_9.1.onT k10 lm16 hgb_g)
      have o45 : Gt w10 := (G_9.on k10 (Ne.symm ne_g_0))
      refine X_round (S1.length - (i + 1)) [(3, .pointer (some ⟨p0_1, 0, none⟩)), (4, .bool false), (5, .slice A_S1 ((S1).length) (c_S1)), (6, .pointer (some ⟨pb, 0, none⟩)), (7, .slice A_D1 ((D1).length) (c_D1)), (8, .slice (some ⟨g, 0, none⟩) (((ov.set i n)).length) (c_7)), (9, .slice (some ⟨f, 0, none⟩) ((D1).length) ((D1).length)), (10, .int .i64 (((i + 1) : Nat) : Int))] (by omega) (Sub.cons rfl (Sub.cons rfl (Sub.cons rfl (Sub.cons rfl (Sub.cons rfl (Sub.consE rfl (by rw [List.length_set]) (Sub.cons rfl (Sub.cons rfl (Sub.nil _))))))))) ⟨i + 1, ov.set i n, rfl, rfl, by omega, (by rw [List.length_set]; exact ho), kk10, f39, f40, f41, f42, ⟨ob43, (Nat.zero_le _)⟩, ⟨ob44, (Nat.zero_le _)⟩, ⟨by rw [List.length_set]; exact q10, (Nat.le_trans o_9.2 k10.size)⟩, o45⟩
    · refine C_exit ?_
      refine X_then_exit (X_then_exit (X_in_eq ?_))
      refine X_then hK27 ?_
      refine C_seq (fun K46 hK46 => ?_)
      refine C_seq (fun K47 hK47 => ?_)
      refine C_region ?_
      refine R_pu (pu_assign rfl) rfl ?_
      refine R_nil ?_
      refine X_then hK47 ?_
      refine C_block ?_
      refine C_loop (fun m_ l_ wr => ∃ k : Nat, ∃ fv : List Nat, (m_ = D1.length - k) ∧ (l_ = [(3, .pointer (some ⟨p0_1, 0, none⟩)), (4, .bool false), (5, .slice A_S1 ((S1).length) (c_S1)), (6, .pointer (some ⟨pb, 0, none⟩)), (7, .slice A_D1 ((D1).length) (c_D1)), (8, .slice (some ⟨g, 0, none⟩) ((ov).length) (c_7)), (9, .slice (some ⟨f, 0, none⟩) ((D1).length) ((D1).length)), (11, .int .i64 ((k : Nat) : Int))]) ∧ (k ≤ D1.length) ∧ (By D1.length fv) ∧ (Kp No w wr) ∧ (Bk wr p0_0 ([.slice A (l.length) (c), .int .i64 (ka), .int .i64 (na), .slice A2 (d2.length) (c2)]) 46) ∧ (Bk wr p0_1 ([.slice A3 (l3.length) (c3), .int .i64 (kb), .int .i64 (nb), .slice A4 (d4.length) (c4)]) 46) ∧ (Bk wr pb ([.int .i64 ((q1 + 1 : Nat) : Int), .int .i64 ((n1 : Nat) : Int), .int .u32 5]) 28) ∧ (Bk wr f (u8s fv) 5) ∧ (Od wr 0 (.slice A_S1 ((S1).length) (c_S1)) (S1) ∧ 0 ≤ (wr).heap.size) ∧ (Od wr 0 (.slice A_D1 ((D1).length) (c_D1)) (D1) ∧ 0 ≤ (wr).heap.size) ∧ (Ob wr w5.heap.size (.slice (some ⟨g, 0, none⟩) ((ov).length) (c_7)) (ov) ∧ w5.heap.size ≤ (wr).heap.size) ∧ (Gt wr)) (D1.length - 0) [(3, .pointer (some ⟨p0_1, 0, none⟩)), (4, .bool false), (5, .slice A_S1 ((S1).length) (c_S1)), (6, .pointer (some ⟨pb, 0, none⟩)), (7, .slice A_D1 ((D1).length) (c_D1)), (8, .slice (some ⟨g, 0, none⟩) ((ov).length) (c_7)), (9, .slice (some ⟨f, 0, none⟩) ((D1).length) ((D1).length)), (11, .int .i64 0)] (Sub.cons rfl (Sub.cons rfl (Sub.cons rfl (Sub.cons rfl (Sub.cons rfl (Sub.cons rfl (Sub.cons rfl (Sub.cons rfl (Sub.nil _))))))))) ⟨0, List.replicate D1.length 0, rfl, rfl, by omega, (rep_by D1.length), kk9, f_p0_0_9, f_p0_1_9, f_pb_9, Bk.eq f_f_9 (congrArg u8s rfl), ⟨S1_9.1, (Nat.zero_le _)⟩, ⟨D1_9.1, (Nat.zero_le _)⟩, ⟨o_9.1, o_9.2⟩, G_9⟩ ?_
      rintro _ _ w11 ⟨k, fv, rfl, rfl, hk, hfv, kk11, f_p0_0_11, f_p0_1_11, f_pb_11, f_f_11, S1_11, D1_11, o_11, G_11⟩
      refine C_seq (fun K48 hK48 => ?_)
      refine C_seq (fun K49 hK49 => ?_)
      refine C_region ?_
      refine R_pu (pu_move rfl) rfl ?_
      refine R_pu (pu_move rfl) rfl ?_
      refine R_pu (pu_len Tryd.underlying22 rfl) rfl ?_
      refine R_pu (pu_lss (p := k < ((D1).length)) rfl rfl (by omega)) rfl ?_
      by_cases g9_4 : k < ((D1).length)
      · refine R_pu (pu_true (pu_move rfl) g9_4) rfl ?_
        refine R_gpu rfl rfl (pu_move rfl) rfl ?_
        refine R_gpu rfl rfl (pu_fieldAddr (off := 3) (o' := 3) (by kernel_rfl) rfl rfl) rfl ?_
        refine R_gpu rfl rfl (pu_loadK f_p0_1_11 (by kernel_rfl) rfl rfl) rfl ?_
        refine R_gpu rfl rfl (pu_len Tryd.underlying22 rfl) rfl ?_
        refine R_gpu rfl rfl (pu_lss (p := k < d4.length) rfl rfl (by omega)) rfl ?_
        refine R_pu (pu_pickt rfl rfl) rfl ?_
        refine R_nil ?_
        refine X_then hK49 ?_
        refine C_dec rfl (fun h63 => ?_) (fun h63 => ?_)
        · refine C_skip ?_
          refine X_then hK48 ?_
          refine C_seq (fun K50 hK50 => ?_)
          refine C_block ?_
          refine C_region ?_
          refine R_pu (pu_move rfl) rfl ?_
          refine R_pu (pu_move rfl) rfl ?_
          refine R_pu (pu_fieldAddr (off := 3) (o' := 3) (by kernel_rfl) rfl rfl) rfl ?_
          refine R_pu (pu_loadK f_p0_1_11 (by kernel_rfl) rfl rfl) rfl ?_
          refine R_pu (pu_move rfl) rfl ?_
          refine R_pu (pu_indexAddrB (m := k) (HB4.keptNo kk11) Tryd.underlying22 (by kernel_rfl) rfl rfl rfl rfl (by omega)) rfl ?_
          obtain ⟨m, e_m⟩ : ∃ q_, (d4)[k]? = some q_ := ⟨_, List.getElem?_eq_getElem (by omega)⟩
          have b_m : m < 256 := ((HB4.keptNo kk11)).lt e_m
          refine R_pu (pu_loadB (HB4.keptNo kk11) (by kernel_rfl) rfl e_m) rfl ?_
          refine R_pu (pu_indexAddrP (m := k) (s := 1) (o' := k) Tryd.underlying22 (by kernel_rfl) rfl rfl rfl (by omega) (by omega)) rfl ?_
          refine R_lo0 (lo_store f_f_11 (by kernel_rfl) rfl rfl rfl (by rw [u8s_length, hfv.1]; omega)) ?_
          rintro _ w12 kf12
          obtain ⟨k12, f_f_12⟩ := kf12
          replace f_f_12 := Bk.eq f_f_12 (u8s_set _ _ m)
          replace f_f_12 : Bk w12 f (u8s (fv.set k m)) 5 := f_f_12
          have kk12 := kk11.trans k12 (fun i hi => .inr (hi ▸ (Nat.le_trans kk7.size N8.le)))
          refine R_nil ?_
          refine X_in_normal ?_
          refine X_then hK50 ?_
          refine C_region ?_
          refine R_pu (pu_move rfl) rfl ?_
          refine R_pu (pu_add (z := ((k + 1 : Nat) : Int)) rfl rfl (by rw [IntKind.wrap_i64]; omega)) rfl ?_
          refine R_pu (pu_assign rfl) rfl ?_
          refine R_nil ?_
          have f51 : Bk w12 p0_0 ([.slice A (l.length) (c), .int .i64 (ka), .int .i64 (na), .slice A2 (d2.length) (c2)]) 46 := (f_p0_0_11.on k12 (Ne.symm ne_f_p0_0))
          have f52 : Bk w12 p0_1 ([.slice A3 (l3.length) (c3), .int .i64 (kb), .int .i64 (nb), .slice A4 (d4.length) (c4)]) 46 := (f_p0_1_11.on k12 (Ne.symm ne_f_p0_1))
          have f53 : Bk w12 pb ([.int .i64 ((q1 + 1 : Nat) : Int), .int .i64 ((n1 : Nat) : Int), .int .u32 5]) 28 := (f_pb_11.on k12 (Ne.symm ne_f_pb))
          have ob54 := (S1_11.1.onN k12 ob25 N8.le)
          have ob55 := (D1_11.1.onN k12 ob26 N8.le)
          have ob56 := (o_11.1.onF k12 (Ne.symm ne_f_g))
          have o57 : Gt w12 := (G_11.on k12 (Ne.symm ne_f_0))
          refine X_round (D1.length - (k + 1)) [(3, .pointer (some ⟨p0_1, 0, none⟩)), (4, .bool false), (5, .slice A_S1 ((S1).length) (c_S1)), (6, .pointer (some ⟨pb, 0, none⟩)), (7, .slice A_D1 ((D1).length) (c_D1)), (8, .slice (some ⟨g, 0, none⟩) ((ov).length) (c_7)), (9, .slice (some ⟨f, 0, none⟩) ((D1).length) ((D1).length)), (11, .int .i64 (((k + 1) : Nat) : Int))] (by omega) (Sub.cons rfl (Sub.cons rfl (Sub.cons rfl (Sub.cons rfl (Sub.cons rfl (Sub.cons rfl (Sub.cons rfl (Sub.cons rfl (Sub.nil _))))))))) ⟨k + 1, fv.set k m, rfl, rfl, by omega, (by_set hfv b_m), kk12, f51, f52, f53, f_f_12, ⟨ob54, (Nat.zero_le _)⟩, ⟨ob55, (Nat.zero_le _)⟩, ⟨ob56, (Nat.le_trans o_11.2 k12.size)⟩, o57⟩
        · refine C_exit ?_
          refine X_then_exit (X_then_exit (X_in_eq ?_))
          refine X_then hK46 ?_
          refine C_seq (fun K58 hK58 => ?_)
          refine C_region ?_
          refine R_lo (lo_call (by kernel_rfl) rfl (gf_new _)) rfl ?_
          rintro _ w13 ⟨b12_0, rfl, le13, T13, k13⟩
          have kk13 := kk11.then_ k13
          have ne_b12_0_p0_0 : b12_0 ≠ p0_0 := Nat.ne_of_gt (Nat.lt_of_lt_of_le f_p0_0_11.lt le13)
          have ne_b12_0_p0_1 : b12_0 ≠ p0_1 := Nat.ne_of_gt (Nat.lt_of_lt_of_le f_p0_1_11.lt le13)
          have ne_b12_0_pb : b12_0 ≠ pb := Nat.ne_of_gt (Nat.lt_of_lt_of_le f_pb_11.lt le13)
          have ne_b12_0_f : b12_0 ≠ f := Nat.ne_of_gt (Nat.lt_of_lt_of_le f_f_11.lt le13)
          have ne_b12_0_0 : b12_0 ≠ 0 := Nat.ne_of_gt (Nat.lt_of_lt_of_le G_11.lt le13)
          refine R_pu (pu_assign rfl) rfl ?_
          refine R_nil ?_
          refine X_then hK58 ?_
          refine C_seq (fun K59 hK59 => ?_)
          refine C_region ?_
          refine R_pu (pu_move rfl) rfl ?_
          refine R_pu (pu_move rfl) rfl ?_
          have f60 : Bk w13 pb ([.int .i64 ((q1 + 1 : Nat) : Int), .int .i64 ((n1 : Nat) : Int), .int .u32 5]) 28 := (f_pb_11.no k13)
          refine R_pu (pu_loadRow (len := 3) f60 (by kernel_rfl) (by kernel_rfl) rfl rfl) rfl ?_
          refine R_pu (pu_move rfl) rfl ?_
          have ob61 := (S1_11.1.keptNo k13)
          have ob62 := (D1_11.1.keptNo k13)
          have f63 : Bk w13 p0_0 ([.slice A (l.length) (c), .int .i64 (ka), .int .i64 (na), .slice A2 (d2.length) (c2)]) 46 := (f_p0_0_11.no k13)
          have f64 : Bk w13 p0_1 ([.slice A3 (l3.length) (c3), .int .i64 (kb), .int .i64 (nb), .slice A4 (d4.length) (c4)]) 46 := (f_p0_1_11.no k13)
          have f65 : Bk w13 f (u8s fv) 5 := (f_f_11.no k13)
          have o66 : Gt w13 := (G_11.no k13)
          have lm67 := ob61.top
          have lm68 := ob62.top
          have ob70 := (o_11.1.keptNo k13)
          have lm69 := ob70.top
          refine R_lo (lo_call (by kernel_rfl) rfl (shamir_split b12_0 A_S1 S1 c_S1 q1 n1 5 A_D1 D1 c_D1 _ ob61.bs ob61.le.2 ob62.bs ob62.le.2 (by decide) (by omega) (by omega) hD1 (Od.awN S1_11.1 le13) (Od.awN D1_11.1 le13) T13)) rfl ?_
          rintro _ w14 ⟨A_x, c_x, L_x, rfl, Q14, hK_x, T14, k14⟩
          have kk14 := kk13.trans k14 (fun i hi => .inr (hi ▸ (Nat.le_trans kk11.size le13)))
          have z71 : w13.heap.size ≤ w14.heap.size := k14.size
          have hl_x := (key_len hK_x).trans (ptK_length ..)
          refine R_pu (pu_move rfl) rfl ?_
          refine R_pu (pu_extract rfl rfl) rfl ?_
          refine R_pu (pu_extract rfl rfl) rfl ?_
          refine R_pu (pu_assign rfl) rfl ?_
          refine R_pu (pu_assign rfl) rfl ?_
          refine R_nil ?_
          refine X_then hK59 ?_
          refine C_seq (fun K72 hK72 => ?_)
          refine C_region ?_
          refine R_pu (pu_move rfl) rfl ?_
          refine R_pu (pu_move rfl) rfl ?_
          have f73 : Bk w14 pb ([.int .i64 ((q1 + 1 : Nat) : Int), .int .i64 ((n1 : Nat) : Int), .int .u32 5]) 28 := (f60.on k14 (Ne.symm ne_b12_0_pb))
          refine R_pu (pu_loadRow (len := 3) f73 (by kernel_rfl) (by kernel_rfl) rfl rfl) rfl ?_
          refine R_pu (pu_move rfl) rfl ?_
          have ob74 := (ob70.onN k14 o_11.1 le13)
          have f75 : Bk w14 f (u8s fv) 5 := (f65.on k14 (Ne.symm ne_b12_0_f))
          have f76 : Bk w14 p0_0 ([.slice A (l.length) (c), .int .i64 (ka), .int .i64 (na), .slice A2 (d2.length) (c2)]) 46 := (f63.on k14 (Ne.symm ne_b12_0_p0_0))
          have f77 : Bk w14 p0_1 ([.slice A3 (l3.length) (c3), .int .i64 (kb), .int .i64 (nb), .slice A4 (d4.length) (c4)]) 46 := (f64.on k14 (Ne.symm ne_b12_0_p0_1))
          have o78 : Gt w14 := (o66.on k14 (Ne.symm ne_b12_0_0))
          have ob80 := (ob61.onN k14 S1_11.1 le13)
          have lm79 := ob80.top
          have ob82 := (ob62.onN k14 D1_11.1 le13)
          have lm81 := ob82.top
          have lm83 := ob74.top
          have lm84 := Q14.top
          refine R_lo (lo_callE (by kernel_rfl) rfl (by rw [hfv.1] <;> rfl) (shamir_split b12_0 (some ⟨g, 0, none⟩) ov c_7 q1 n1 5 (some ⟨f, 0, none⟩) fv ((D1).length) _ ob74.bs ob74.le.2 (Bs.ofBk f75 hfv) (Nat.le_of_eq hfv.1) (by decide) (by omega) (by omega) (by rw [hfv.1, ho]; exact hD1) (Ob.awN o_11.1 le13) (Aw.ofBk (Ne.symm ne_b12_0_f)) T14)) rfl ?_
          rintro _ w15 ⟨A_y, c_y, L_y, rfl, Q15, hK_y, T15, k15⟩
          have kk15 := kk14.trans k15 (fun i hi => .inr (hi ▸ (Nat.le_trans kk11.size le13)))
          have z85 : w14.heap.size ≤ w15.heap.size := k15.size
          have hl_y := (key_len hK_y).trans (ptK_length ..)
          refine R_pu (pu_move rfl) rfl ?_
          refine R_pu (pu_extract rfl rfl) rfl ?_
          refine R_pu (pu_extract rfl rfl) rfl ?_
          refine R_pu (pu_assign rfl) rfl ?_
          refine R_pu (pu_assign rfl) rfl ?_
          refine R_nil ?_
          refine X_then hK72 ?_
          refine C_seq (fun K86 hK86 => ?_)
          have f87 : Bk w15 p0_0 ([.slice A (l.length) (c), .int .i64 (ka), .int .i64 (na), .slice A2 (d2.length) (c2)]) 46 := (f76.on k15 (Ne.symm ne_b12_0_p0_0))
          have f88 : Bk w15 p0_1 ([.slice A3 (l3.length) (c3), .int .i64 (kb), .int .i64 (nb), .slice A4 (d4.length) (c4)]) 46 := (f77.on k15 (Ne.symm ne_b12_0_p0_1))
          have f89 : Bk w15 pb ([.int .i64 ((q1 + 1 : Nat) : Int), .int .i64 ((n1 : Nat) : Int), .int .u32 5]) 28 := (f73.on k15 (Ne.symm ne_b12_0_pb))
          have f90 : Bk w15 f (u8s fv) 5 := (f75.on k15 (Ne.symm ne_b12_0_f))
          have o91 : Gt w15 := (o78.on k15 (Ne.symm ne_b12_0_0))
          have ob92 := (ob80.onN k15 S1_11.1 le13)
          have ob93 := (ob82.onN k15 D1_11.1 le13)
          have ob94 := (ob74.onN k15 o_11.1 le13)
          refine D_begin (fun W => Kp No w W ∧ Bk W p0_0 ([.slice A (l.length) (c), .int .i64 (ka), .int .i64 (na), .slice A2 (d2.length) (c2)]) 46 ∧ Bk W p0_1 ([.slice A3 (l3.length) (c3), .int .i64 (kb), .int .i64 (nb), .slice A4 (d4.length) (c4)]) 46 ∧ Bk W pb ([.int .i64 ((q1 + 1 : Nat) : Int), .int .i64 ((n1 : Nat) : Int), .int .u32 5]) 28 ∧ Bk W f (u8s fv) 5 ∧ Gt W ∧ Tb W b12_0 ∧ Od W 0 (.slice A_S1 ((S1).length) (c_S1)) (S1) ∧ Od W 0 (.slice A_D1 ((D1).length) (c_D1)) (D1) ∧ Ob W w5.heap.size (.slice (some ⟨g, 0, none⟩) ((ov).length) (c_7)) (ov)) 14 rfl (by kernel_rfl) ⟨kk15.drew, f87.draw, f88.draw, f89.draw, f90.draw, o91.draw, T15.draw, ob92.draw, ob93.draw, ob94.draw⟩ ?_
          intro w16 k16 _
          have kk16 := kk15.then_ k16
          refine D_take 0 rfl (by kernel_rfl) (by kernel_rfl) (by kernel_rfl) (fun _ _ _ h => h) rfl (fun W hS => pu_move rfl) ?_
          refine D_take 1 rfl (by kernel_rfl) (by kernel_rfl) (by kernel_rfl) (fun _ _ _ h => h) rfl (fun W hS => pu_move rfl) ?_
          refine D_take 2 rfl (by kernel_rfl) (by kernel_rfl) (by kernel_rfl) (fun _ _ _ h => h) rfl (fun W hS => pu_move rfl) ?_
          refine D_take 4 rfl (by kernel_rfl) (by kernel_rfl) (by kernel_rfl) (fun _ _ _ h => h) rfl (fun W hS => pu_loadRow (len := 3) hS.2.2.2.1 (by kernel_rfl) (by kernel_rfl) rfl rfl) ?_
          refine D_take 5 rfl (by kernel_rfl) (by kernel_rfl) (by kernel_rfl) (fun _ _ _ h => h) rfl (fun W hS => pu_move rfl) ?_
          refine D_take 6 rfl (by kernel_rfl) (by kernel_rfl) (by kernel_rfl) (fun _ _ _ h => h) rfl (fun W hS => pu_move rfl) ?_
          have ob95 := (ob92.keptNo k16)
          have ob96 := (ob94.keptNo k16)
          have f97 : Bk w16 p0_0 ([.slice A (l.length) (c), .int .i64 (ka), .int .i64 (na), .slice A2 (d2.length) (c2)]) 46 := (f87.no k16)
          have f98 : Bk w16 p0_1 ([.slice A3 (l3.length) (c3), .int .i64 (kb), .int .i64 (nb), .slice A4 (d4.length) (c4)]) 46 := (f88.no k16)
          have f99 : Bk w16 pb ([.int .i64 ((q1 + 1 : Nat) : Int), .int .i64 ((n1 : Nat) : Int), .int .u32 5]) 28 := (f89.no k16)
          have f100 : Bk w16 f (u8s fv) 5 := (f90.no k16)
          have o101 : Gt w16 := (o91.no k16)
          have o102 : Tb w16 b12_0 := (T15.no k16)
          have lm103 := ob95.top
          have ob105 := (ob93.keptNo k16)
          have lm104 := ob105.top
          have lm106 := ob96.top
          have ob108 := ((Q14.on k15 (by have := T13.lt; omega)).keptNo k16)
          have lm107 := ob108.top
          have ob110 := (Q15.keptNo k16)
          have lm109 := ob110.top
          refine D_one 3 (by kernel_rfl) (Nx_lo rfl (lo_call (by kernel_rfl) rfl (sum_ A_S1 S1 c_S1 (some ⟨g, 0, none⟩) ov c_7 _ ob95.bs ob95.le.2 ob96.bs ob96.le.2 ⟨by omega, by omega⟩)) rfl ?_)
          rintro _ w17 ⟨A_sa, c_sa, rfl, Q17, k17⟩
          have kk17 := kk16.then_ k17
          have z111 : w16.heap.size ≤ w17.heap.size := k17.size
          have f112 : Bk w17 p0_0 ([.slice A (l.length) (c), .int .i64 (ka), .int .i64 (na), .slice A2 (d2.length) (c2)]) 46 := (f97.no k17)
          have f113 : Bk w17 p0_1 ([.slice A3 (l3.length) (c3), .int .i64 (kb), .int .i64 (nb), .slice A4 (d4.length) (c4)]) 46 := (f98.no k17)
          have f114 : Bk w17 pb ([.int .i64 ((q1 + 1 : Nat) : Int), .int .i64 ((n1 : Nat) : Int), .int .u32 5]) 28 := (f99.no k17)
          have f115 : Bk w17 f (u8s fv) 5 := (f100.no k17)
          have o116 : Gt w17 := (o101.no k17)
          have o117 : Tb w17 b12_0 := (o102.no k17)
          have ob118 := (ob95.keptNo k17)
          have ob119 := (ob105.keptNo k17)
          have ob120 := (ob96.keptNo k17)
          refine ⟨⟨kk17, f112, f113, f114, f115, o116, o117, ob118, ob119, ob120⟩, ?_⟩
          have lm121 := ob118.top
          have lm122 := ob119.top
          have lm123 := ob120.top
          have ob125 := (ob108.keptNo k17)
          have lm124 := ob125.top
          have ob127 := (ob110.keptNo k17)
          have lm126 := ob127.top
          have lm128 := Q17.top
          refine D_one 7 (by kernel_rfl) (Nx_lo rfl (lo_callE (by kernel_rfl) rfl (by rw [hfv.1] <;> rfl) (sum_ A_D1 D1 c_D1 (some ⟨f, 0, none⟩) fv ((D1).length) _ ob119.bs ob119.le.2 (Bs.ofBk f115 hfv) (Nat.le_of_eq hfv.1) ⟨hfv.1, by omega⟩)) rfl ?_)
          rintro _ w18 ⟨A_sb, c_sb, rfl, Q18, k18⟩
          have kk18 := kk17.then_ k18
          have z129 : w17.heap.size ≤ w18.heap.size := k18.size
          have f130 : Bk w18 p0_0 ([.slice A (l.length) (c), .int .i64 (ka), .int .i64 (na), .slice A2 (d2.length) (c2)]) 46 := (f112.no k18)
          have f131 : Bk w18 p0_1 ([.slice A3 (l3.length) (c3), .int .i64 (kb), .int .i64 (nb), .slice A4 (d4.length) (c4)]) 46 := (f113.no k18)
          have f132 : Bk w18 pb ([.int .i64 ((q1 + 1 : Nat) : Int), .int .i64 ((n1 : Nat) : Int), .int .u32 5]) 28 := (f114.no k18)
          have f133 : Bk w18 f (u8s fv) 5 := (f115.no k18)
          have o134 : Gt w18 := (o116.no k18)
          have o135 : Tb w18 b12_0 := (o117.no k18)
          have ob136 := (ob118.keptNo k18)
          have ob137 := (ob119.keptNo k18)
          have ob138 := (ob120.keptNo k18)
          refine ⟨⟨kk18, f130, f131, f132, f133, o134, o135, ob136, ob137, ob138⟩, ?_⟩
          have ob139 := (Q17.keptNo k18)
          have lm140 := ob136.top
          have lm141 := ob137.top
          have lm142 := ob138.top
          have ob144 := (ob125.keptNo k18)
          have lm143 := ob144.top
          have ob146 := (ob127.keptNo k18)
          have lm145 := ob146.top
          have lm147 := ob139.top
          have lm148 := Q18.top
          refine D_one 8 (by kernel_rfl) (Nx_lo rfl (lo_call (by kernel_rfl) rfl (shamir_split b12_0 A_sa (sumL S1 ov) c_sa q1 n1 5 A_sb (sumL D1 fv) c_sb _ ob139.bs ob139.le.2 Q18.bs Q18.le.2 (by decide) (by omega) (by rw [sumL_length]; omega) (by rw [sumL_length, sumL_length]; exact hD1) (Aw.ofOb ob139 (by have := o102.lt; omega)) (Aw.ofOb Q18 (by have := o117.lt; omega)) o135)) rfl ?_)
          rintro _ w19 ⟨A_z, c_z, L_z, rfl, Q19, hK_z, T19, k19⟩
          have kk19 := kk18.trans k19 (fun i hi => .inr (hi ▸ (Nat.le_trans kk11.size le13)))
          have z149 : w18.heap.size ≤ w19.heap.size := k19.size
          have hl_z := (key_len hK_z).trans (ptK_length ..)
          have f150 : Bk w19 p0_0 ([.slice A (l.length) (c), .int .i64 (ka), .int .i64 (na), .slice A2 (d2.length) (c2)]) 46 := (f130.on k19 (Ne.symm ne_b12_0_p0_0))
          have f151 : Bk w19 p0_1 ([.slice A3 (l3.length) (c3), .int .i64 (kb), .int .i64 (nb), .slice A4 (d4.length) (c4)]) 46 := (f131.on k19 (Ne.symm ne_b12_0_p0_1))
          have f152 : Bk w19 pb ([.int .i64 ((q1 + 1 : Nat) : Int), .int .i64 ((n1 : Nat) : Int), .int .u32 5]) 28 := (f132.on k19 (Ne.symm ne_b12_0_pb))
          have f153 : Bk w19 f (u8s fv) 5 := (f133.on k19 (Ne.symm ne_b12_0_f))
          have o154 : Gt w19 := (o134.on k19 (Ne.symm ne_b12_0_0))
          have ob155 := (ob136.onN k19 S1_11.1 le13)
          have ob156 := (ob137.onN k19 D1_11.1 le13)
          have ob157 := (ob138.onN k19 o_11.1 le13)
          refine ⟨⟨kk19, f150, f151, f152, f153, o154, T19, ob155, ob156, ob157⟩, ?_⟩
          refine D_take 9 rfl (by kernel_rfl) (by kernel_rfl) (by kernel_rfl) (fun _ _ _ h => h) rfl (fun W hS => pu_move rfl) ?_
          refine D_take 10 rfl (by kernel_rfl) (by kernel_rfl) (by kernel_rfl) (fun _ _ _ h => h) rfl (fun W hS => pu_extract rfl rfl) ?_
          refine D_take 11 rfl (by kernel_rfl) (by kernel_rfl) (by kernel_rfl) (fun _ _ _ h => h) rfl (fun W hS => pu_extract rfl rfl) ?_
          refine D_take 12 rfl (by kernel_rfl) (by kernel_rfl) (by kernel_rfl) (fun _ _ _ h => h) rfl (fun W hS => pu_assign rfl) ?_
          refine D_take 13 rfl (by kernel_rfl) (by kernel_rfl) (by kernel_rfl) (fun _ _ _ h => h) rfl (fun W hS => pu_assign rfl) ?_
          refine D_done (by kernel_rfl) ?_
          refine X_then hK86 ?_
          refine C_seq (fun K158 hK158 => ?_)
          refine C_seq (fun K159 hK159 => ?_)
          refine C_region ?_
          refine R_pu (pu_move rfl) rfl ?_
          refine R_pu (pu_neqnn (by kernel_rfl) rfl) rfl ?_
          refine R_pu (pu_move rfl) rfl ?_
          refine R_gpu rfl rfl (pu_move rfl) rfl ?_
          refine R_gpu rfl rfl (pu_neqnn (by kernel_rfl) rfl) rfl ?_
          refine R_pu (pu_pickf rfl rfl) rfl ?_
          refine R_pu (pu_move rfl) rfl ?_
          refine R_gpu rfl rfl (pu_move rfl) rfl ?_
          refine R_gpu rfl rfl (pu_neqnn (by kernel_rfl) rfl) rfl ?_
          refine R_pu (pu_pickf rfl rfl) rfl ?_
          refine R_pu (pu_move rfl) rfl ?_
          refine R_gpu rfl rfl (pu_move rfl) rfl ?_
          refine R_gpu rfl rfl (pu_len Tryd.underlying29 rfl) rfl ?_
          refine R_gpu rfl rfl (pu_fieldAddr (off := 1) (o' := 1) (by kernel_rfl) rfl rfl) rfl ?_
          refine R_gpu rfl rfl (pu_loadK f152 (by kernel_rfl) rfl rfl) rfl ?_
          refine R_gpu rfl rfl (pu_false (pu_neq (p := ((L_x).length) = n1) rfl rfl (by omega)) (fun h => h hl_x)) rfl ?_
          refine R_pu (pu_pickf rfl rfl) rfl ?_
          refine R_pu (pu_move rfl) rfl ?_
          refine R_gpu rfl rfl (pu_move rfl) rfl ?_
          refine R_gpu rfl rfl (pu_len Tryd.underlying29 rfl) rfl ?_
          refine R_gpu rfl rfl (pu_fieldAddr (off := 1) (o' := 1) (by kernel_rfl) rfl rfl) rfl ?_
          refine R_gpu rfl rfl (pu_loadK f152 (by kernel_rfl) rfl rfl) rfl ?_
          refine R_gpu rfl rfl (pu_false (pu_neq (p := ((L_y).length) = n1) rfl rfl (by omega)) (fun h => h hl_y)) rfl ?_
          refine R_pu (pu_pickf rfl rfl) rfl ?_
          refine R_pu (pu_move rfl) rfl ?_
          refine R_gpu rfl rfl (pu_move rfl) rfl ?_
          refine R_gpu rfl rfl (pu_len Tryd.underlying29 rfl) rfl ?_
          refine R_gpu rfl rfl (pu_fieldAddr (off := 1) (o' := 1) (by kernel_rfl) rfl rfl) rfl ?_
          refine R_gpu rfl rfl (pu_loadK f152 (by kernel_rfl) rfl rfl) rfl ?_
          refine R_gpu rfl rfl (pu_false (pu_neq (p := ((L_z).length) = n1) rfl rfl (by omega)) (fun h => h hl_z)) rfl ?_
          refine R_pu (pu_pickf rfl rfl) rfl ?_
          refine R_nil ?_
          refine X_then hK159 ?_
          refine C_false rfl ?_
          refine C_skip ?_
          refine X_then hK158 ?_
          refine C_seq (fun K160 hK160 => ?_)
          refine C_seq (fun K161 hK161 => ?_)
          refine C_region ?_
          refine R_pu (pu_assign rfl) rfl ?_
          refine R_nil ?_
          refine X_then hK161 ?_
          refine C_block ?_
          have bS1 := ob155.bs.byte; have bD1 := ob156.bs.byte; have bo := ob157.byte
          have ob162 := (ob144.on k19 (by have := T13.lt; omega))
          have ob163 := (ob146.on k19 (by have := T14.lt; omega))
          have ob164 := (ob139.on k19 (by have := o102.lt; omega))
          have ob165 := (Q18.on k19 (by have := o117.lt; omega))
          refine C_loop (fun m_ l_ wr => ∃ j : Nat, (m_ = n1 - j) ∧ (l_ = [(5, .slice A_S1 ((S1).length) (c_S1)), (6, .pointer (some ⟨pb, 0, none⟩)), (13, .slice A_x ((L_x).length) (c_x)), (15, .slice A_y ((L_y).length) (c_y)), (17, .slice A_z ((L_z).length) (c_z)), (19, .int .i64 ((j : Nat) : Int))]) ∧ (j ≤ n1) ∧ (Kp No w wr) ∧ (Bk wr p0_0 ([.slice A (l.length) (c), .int .i64 (ka), .int .i64 (na), .slice A2 (d2.length) (c2)]) 46) ∧ (Bk wr p0_1 ([.slice A3 (l3.length) (c3), .int .i64 (kb), .int .i64 (nb), .slice A4 (d4.length) (c4)]) 46) ∧ (Bk wr pb ([.int .i64 ((q1 + 1 : Nat) : Int), .int .i64 ((n1 : Nat) : Int), .int .u32 5]) 28) ∧ (Bk wr f (u8s fv) 5) ∧ (Od wr 0 (.slice A_S1 ((S1).length) (c_S1)) (S1) ∧ 0 ≤ (wr).heap.size) ∧ (Od wr 0 (.slice A_D1 ((D1).length) (c_D1)) (D1) ∧ 0 ≤ (wr).heap.size) ∧ (Ob wr w5.heap.size (.slice (some ⟨g, 0, none⟩) ((ov).length) (c_7)) (ov) ∧ w5.heap.size ≤ (wr).heap.size) ∧ (Sw 50 w13.heap.size wr w13.heap.size (.slice A_x ((L_x).length) (c_x)) (L_x) ∧ w13.heap.size ≤ (wr).heap.size) ∧ (Sw 50 w14.heap.size wr w14.heap.size (.slice A_y ((L_y).length) (c_y)) (L_y) ∧ w14.heap.size ≤ (wr).heap.size) ∧ (Sw 50 w18.heap.size wr w18.heap.size (.slice A_z ((L_z).length) (c_z)) (L_z) ∧ w18.heap.size ≤ (wr).heap.size) ∧ (Ob wr w16.heap.size (.slice A_sa ((sumL S1 ov).length) (c_sa)) (sumL S1 ov) ∧ w16.heap.size ≤ (wr).heap.size) ∧ (Ob wr w17.heap.size (.slice A_sb ((sumL D1 fv).length) (c_sb)) (sumL D1 fv) ∧ w17.heap.size ≤ (wr).heap.size) ∧ (Gt wr) ∧ (Tb wr b12_0)) (n1 - 0) [(5, .slice A_S1 ((S1).length) (c_S1)), (6, .pointer (some ⟨pb, 0, none⟩)), (13, .slice A_x ((L_x).length) (c_x)), (15, .slice A_y ((L_y).length) (c_y)), (17, .slice A_z ((L_z).length) (c_z)), (19, .int .i64 0)] (Sub.cons rfl (Sub.cons rfl (Sub.cons rfl (Sub.cons rfl (Sub.cons rfl (Sub.cons rfl (Sub.nil _))))))) ⟨0, rfl, rfl, by omega, kk19, f150, f151, f152, f153, ⟨ob155, (Nat.zero_le _)⟩, ⟨ob156, (Nat.zero_le _)⟩, ⟨ob157, (Nat.le_trans (Nat.le_trans (Nat.le_trans (Nat.le_trans (Nat.le_trans (Nat.le_trans (Nat.le_trans o_11.2 k13.size) k14.size) k15.size) k16.size) k17.size) k18.size) k19.size)⟩, ⟨ob162, (Nat.le_trans (Nat.le_trans (Nat.le_trans (Nat.le_trans (Nat.le_trans z71 k15.size) k16.size) k17.size) k18.size) k19.size)⟩, ⟨ob163, (Nat.le_trans (Nat.le_trans (Nat.le_trans (Nat.le_trans z85 k16.size) k17.size) k18.size) k19.size)⟩, ⟨Q19, z149⟩, ⟨ob164, (Nat.le_trans (Nat.le_trans z111 k18.size) k19.size)⟩, ⟨ob165, (Nat.le_trans z129 k19.size)⟩, o154, T19⟩ ?_
          rintro _ _ w20 ⟨j, rfl, rfl, hj, kk20, f_p0_0_20, f_p0_1_20, f_pb_20, f_f_20, S1_20, D1_20, o_20, x_20, y_20, z_20, sa_20, sb_20, G_20, T_b12_0_20⟩
          refine C_seq (fun K166 hK166 => ?_)
          refine C_seq (fun K167 hK167 => ?_)
          refine C_region ?_
          refine R_pu (pu_move rfl) rfl ?_
          refine R_pu (pu_fieldAddr (off := 1) (o' := 1) (by kernel_rfl) rfl rfl) rfl ?_
          refine R_pu (pu_loadK f_pb_20 (by kernel_rfl) rfl rfl) rfl ?_
          refine R_pu (pu_lss (p := j < n1) rfl rfl (by omega)) rfl ?_
          refine R_nil ?_
          refine X_then hK167 ?_
          refine C_dec rfl (fun h137 => ?_) (fun h137 => ?_)
          · refine C_skip ?_
            refine X_then hK166 ?_
            refine C_seq (fun K168 hK168 => ?_)
            refine C_block ?_
            refine C_seq (fun K169 hK169 => ?_)
            refine D_begin (fun W => Kp No w W ∧ Bk W p0_0 ([.slice A (l.length) (c), .int .i64 (ka), .int .i64 (na), .slice A2 (d2.length) (c2)]) 46 ∧ Bk W p0_1 ([.slice A3 (l3.length) (c3), .int .i64 (kb), .int .i64 (nb), .slice A4 (d4.length) (c4)]) 46 ∧ Bk W pb ([.int .i64 ((q1 + 1 : Nat) : Int), .int .i64 ((n1 : Nat) : Int), .int .u32 5]) 28 ∧ Bk W f (u8s fv) 5 ∧ Gt W ∧ Tb W b12_0 ∧ Od W 0 (.slice A_S1 ((S1).length) (c_S1)) (S1) ∧ Sw 50 w13.heap.size W w13.heap.size (.slice A_x ((L_x).length) (c_x)) (L_x) ∧ Sw 50 w14.heap.size W w14.heap.size (.slice A_y ((L_y).length) (c_y)) (L_y) ∧ Sw 50 w18.heap.size W w18.heap.size (.slice A_z ((L_z).length) (c_z)) (L_z)) 41 rfl (by kernel_rfl) ⟨kk20.drew, f_p0_0_20.draw, f_p0_1_20.draw, f_pb_20.draw, f_f_20.draw, G_20.draw, T_b12_0_20.draw, S1_20.1.draw, x_20.1.draw, y_20.1.draw, z_20.1.draw⟩ ?_
            intro w21 k21 _
            have kk21 := kk20.then_ k21
            refine D_take 0 rfl (by kernel_rfl) (by kernel_rfl) (by kernel_rfl) (fun _ _ _ h => h) rfl (fun W hS => pu_move rfl) ?_
            refine D_take 1 rfl (by kernel_rfl) (by kernel_rfl) (by kernel_rfl) (fun _ _ _ h => h) rfl (fun W hS => pu_move rfl) ?_
            have ob170 := (x_20.1.keptNo k21)
            obtain ⟨x1, e_x1⟩ : ∃ q_, (L_x)[j]? = some q_ := ⟨_, List.getElem?_eq_getElem (by first | omega | (simp; done) | (simp; omega))⟩
            have ok_x1 := ob170.ss.get e_x1
            have od_x1 := ob170.od e_x1
            have bi_x1 : x1.ix < 256 := ok_x1.ix
            refine D_take 2 rfl (by kernel_rfl) (by kernel_rfl) (by kernel_rfl) (fun _ _ _ h => h) rfl (fun W hS => pu_indexAddrH hS.2.2.2.2.2.2.2.2.1.ss Tryd.underlying29 (by kernel_rfl) rfl rfl rfl rfl e_x1) ?_
            refine D_take 3 rfl (by kernel_rfl) (by kernel_rfl) (by kernel_rfl) (fun _ _ _ h => h) rfl (fun W hS => pu_fieldAddrH (off := 2) hS.2.2.2.2.2.2.2.2.1.ss e_x1 (by kernel_rfl) rfl) ?_
            refine D_take 4 rfl (by kernel_rfl) (by kernel_rfl) (by kernel_rfl) (fun _ _ _ h => h) rfl (fun W hS => pu_loadH hS.2.2.2.2.2.2.2.2.1.ss e_x1 (by kernel_rfl) rfl rfl) ?_
            refine D_take 5 rfl (by kernel_rfl) (by kernel_rfl) (by kernel_rfl) (fun _ _ _ h => h) rfl (fun W hS => pu_len Tryd.underlying22 rfl) ?_
            refine D_take 6 rfl (by kernel_rfl) (by kernel_rfl) (by kernel_rfl) (fun _ _ _ h => h) rfl (fun W hS => pu_move rfl) ?_
            refine D_take 7 rfl (by kernel_rfl) (by kernel_rfl) (by kernel_rfl) (fun _ _ _ h => h) rfl (fun W hS => pu_len Tryd.underlying22 rfl) ?_
            refine D_take 8 rfl (by kernel_rfl) (by kernel_rfl) (by kernel_rfl) (fun _ _ _ h => h) rfl (fun W hS => pu_false (pu_neq (p := ((x1.X).length) = ((S1).length)) rfl rfl (by omega)) (fun h => h (by rw [(key_at hK_x e_x1 (ptK_get (show j < n1 by omega))).2.2]; exact ptX_length _ _ _ _))) ?_
            refine D_take 9 rfl (by kernel_rfl) (by kernel_rfl) (by kernel_rfl) (fun _ _ _ h => h) rfl (fun W hS => pu_move rfl) ?_
            refine D_gtake 10 rfl rfl rfl (by kernel_rfl) (by kernel_rfl) (by kernel_rfl) (fun _ _ _ h => h) rfl (fun W hS => pu_move rfl) ?_
            refine D_gtake 11 rfl rfl rfl (by kernel_rfl) (by kernel_rfl) (by kernel_rfl) (fun _ _ _ h => h) rfl (fun W hS => pu_move rfl) ?_
            have ob171 := (y_20.1.keptNo k21)
            obtain ⟨y1, e_y1⟩ : ∃ q_, (L_y)[j]? = some q_ := ⟨_, List.getElem?_eq_getElem (by first | omega | (simp; done) | (simp; omega))⟩
            have ok_y1 := ob171.ss.get e_y1
            have od_y1 := ob171.od e_y1
            have bi_y1 : y1.ix < 256 := ok_y1.ix
            refine D_gtake 12 rfl rfl rfl (by kernel_rfl) (by kernel_rfl) (by kernel_rfl) (fun _ _ _ h => h) rfl (fun W hS => pu_indexAddrH hS.2.2.2.2.2.2.2.2.2.1.ss Tryd.underlying29 (by kernel_rfl) rfl rfl rfl rfl e_y1) ?_
            refine D_gtake 13 rfl rfl rfl (by kernel_rfl) (by kernel_rfl) (by kernel_rfl) (fun _ _ _ h => h) rfl (fun W hS => pu_fieldAddrH (off := 2) hS.2.2.2.2.2.2.2.2.2.1.ss e_y1 (by kernel_rfl) rfl) ?_
            refine D_gtake 14 rfl rfl rfl (by kernel_rfl) (by kernel_rfl) (by kernel_rfl) (fun _ _ _ h => h) rfl (fun W hS => pu_loadH hS.2.2.2.2.2.2.2.2.2.1.ss e_y1 (by kernel_rfl) rfl rfl) ?_
            refine D_gtake 15 rfl rfl rfl (by kernel_rfl) (by kernel_rfl) (by kernel_rfl) (fun _ _ _ h => h) rfl (fun W hS => pu_len Tryd.underlying22 rfl) ?_
            refine D_gtake 16 rfl rfl rfl (by kernel_rfl) (by kernel_rfl) (by kernel_rfl) (fun _ _ _ h => h) rfl (fun W hS => pu_move rfl) ?_
            refine D_gtake 17 rfl rfl rfl (by kernel_rfl) (by kernel_rfl) (by kernel_rfl) (fun _ _ _ h => h) rfl (fun W hS => pu_len Tryd.underlying22 rfl) ?_
            refine D_gtake 18 rfl rfl rfl (by kernel_rfl) (by kernel_rfl) (by kernel_rfl) (fun _ _ _ h => h) rfl (fun W hS => pu_false (pu_neq (p := ((y1.X).length) = ((S1).length)) rfl rfl (by omega)) (fun h => h (by rw [(key_at hK_y e_y1 (ptK_get (show j < n1 by omega))).2.2]; exact (ptX_length _ _ _ _).trans ho))) ?_
            refine D_take 19 rfl (by kernel_rfl) (by kernel_rfl) (by kernel_rfl) (fun _ _ _ h => h) rfl (fun W hS => pu_pickf rfl rfl) ?_
            refine D_take 20 rfl (by kernel_rfl) (by kernel_rfl) (by kernel_rfl) (fun _ _ _ h => h) rfl (fun W hS => pu_move rfl) ?_
            refine D_gtake 21 rfl rfl rfl (by kernel_rfl) (by kernel_rfl) (by kernel_rfl) (fun _ _ _ h => h) rfl (fun W hS => pu_move rfl) ?_
            refine D_gtake 22 rfl rfl rfl (by kernel_rfl) (by kernel_rfl) (by kernel_rfl) (fun _ _ _ h => h) rfl (fun W hS => pu_move rfl) ?_
            have ob172 := (z_20.1.keptNo k21)
            obtain ⟨z1, e_z1⟩ : ∃ q_, (L_z)[j]? = some q_ := ⟨_, List.getElem?_eq_getElem (by first | omega | (simp; done) | (simp; omega))⟩
            have ok_z1 := ob172.ss.get e_z1
            have od_z1 := ob172.od e_z1
            have bi_z1 : z1.ix < 256 := ok_z1.ix
            refine D_gtake 23 rfl rfl rfl (by kernel_rfl) (by kernel_rfl) (by kernel_rfl) (fun _ _ _ h => h) rfl (fun W hS => pu_indexAddrH hS.2.2.2.2.2.2.2.2.2.2.ss Tryd.underlying29 (by kernel_rfl) rfl rfl rfl rfl e_z1) ?_
            refine D_gtake 24 rfl rfl rfl (by kernel_rfl) (by kernel_rfl) (by kernel_rfl) (fun _ _ _ h => h) rfl (fun W hS => pu_fieldAddrH (off := 2) hS.2.2.2.2.2.2.2.2.2.2.ss e_z1 (by kernel_rfl) rfl) ?_
            refine D_gtake 25 rfl rfl rfl (by kernel_rfl) (by kernel_rfl) (by kernel_rfl) (fun _ _ _ h => h) rfl (fun W hS => pu_loadH hS.2.2.2.2.2.2.2.2.2.2.ss e_z1 (by kernel_rfl) rfl rfl) ?_
            refine D_gtake 26 rfl rfl rfl (by kernel_rfl) (by kernel_rfl) (by kernel_rfl) (fun _ _ _ h => h) rfl (fun W hS => pu_bstr (hS.2.2.2.2.2.2.2.2.2.2.ss.get e_z1).bs Tryd.underlying22 Tryd.underlying5 Tryd.underlying9 rfl rfl) ?_
            refine D_gtake 27 rfl rfl rfl (by kernel_rfl) (by kernel_rfl) (by kernel_rfl) (fun _ _ _ h => h) rfl (fun W hS => pu_move rfl) ?_
            refine D_gtake 28 rfl rfl rfl (by kernel_rfl) (by kernel_rfl) (by kernel_rfl) (fun _ _ _ h => h) rfl (fun W hS => pu_move rfl) ?_
            refine D_gtake 29 rfl rfl rfl (by kernel_rfl) (by kernel_rfl) (by kernel_rfl) (fun _ _ _ h => h) rfl (fun W hS => pu_indexAddrH hS.2.2.2.2.2.2.2.2.1.ss Tryd.underlying29 (by kernel_rfl) rfl rfl rfl rfl e_x1) ?_
            refine D_gtake 30 rfl rfl rfl (by kernel_rfl) (by kernel_rfl) (by kernel_rfl) (fun _ _ _ h => h) rfl (fun W hS => pu_fieldAddrH (off := 2) hS.2.2.2.2.2.2.2.2.1.ss e_x1 (by kernel_rfl) rfl) ?_
            refine D_gtake 31 rfl rfl rfl (by kernel_rfl) (by kernel_rfl) (by kernel_rfl) (fun _ _ _ h => h) rfl (fun W hS => pu_loadH hS.2.2.2.2.2.2.2.2.1.ss e_x1 (by kernel_rfl) rfl rfl) ?_
            refine D_gtake 32 rfl rfl rfl (by kernel_rfl) (by kernel_rfl) (by kernel_rfl) (fun _ _ _ h => h) rfl (fun W hS => pu_move rfl) ?_
            refine D_gtake 33 rfl rfl rfl (by kernel_rfl) (by kernel_rfl) (by kernel_rfl) (fun _ _ _ h => h) rfl (fun W hS => pu_move rfl) ?_
            refine D_gtake 34 rfl rfl rfl (by kernel_rfl) (by kernel_rfl) (by kernel_rfl) (fun _ _ _ h => h) rfl (fun W hS => pu_indexAddrH hS.2.2.2.2.2.2.2.2.2.1.ss Tryd.underlying29 (by kernel_rfl) rfl rfl rfl rfl e_y1) ?_
            refine D_gtake 35 rfl rfl rfl (by kernel_rfl) (by kernel_rfl) (by kernel_rfl) (fun _ _ _ h => h) rfl (fun W hS => pu_fieldAddrH (off := 2) hS.2.2.2.2.2.2.2.2.2.1.ss e_y1 (by kernel_rfl) rfl) ?_
            refine D_gtake 36 rfl rfl rfl (by kernel_rfl) (by kernel_rfl) (by kernel_rfl) (fun _ _ _ h => h) rfl (fun W hS => pu_loadH hS.2.2.2.2.2.2.2.2.2.1.ss e_y1 (by kernel_rfl) rfl rfl) ?_
            have f173 : Bk w21 p0_0 ([.slice A (l.length) (c), .int .i64 (ka), .int .i64 (na), .slice A2 (d2.length) (c2)]) 46 := (f_p0_0_20.no k21)
            have f174 : Bk w21 p0_1 ([.slice A3 (l3.length) (c3), .int .i64 (kb), .int .i64 (nb), .slice A4 (d4.length) (c4)]) 46 := (f_p0_1_20.no k21)
            have f175 : Bk w21 pb ([.int .i64 ((q1 + 1 : Nat) : Int), .int .i64 ((n1 : Nat) : Int), .int .u32 5]) 28 := (f_pb_20.no k21)
            have f176 : Bk w21 f (u8s fv) 5 := (f_f_20.no k21)
            have o177 : Gt w21 := (G_20.no k21)
            have o178 : Tb w21 b12_0 := (T_b12_0_20.no k21)
            have ob180 := (S1_20.1.keptNo k21)
            have lm179 := ob180.top
            have ob182 := (D1_20.1.keptNo k21)
            have lm181 := ob182.top
            have ob184 := (o_20.1.keptNo k21)
            have lm183 := ob184.top
            have lm185 := ob170.top
            have lm186 := ob171.top
            have lm187 := ob172.top
            have ob189 := (sa_20.1.keptNo k21)
            have lm188 := ob189.top
            have ob191 := (sb_20.1.keptNo k21)
            have lm190 := ob191.top
            have lm192 := od_x1.top
            have lm193 := od_y1.top
            have lm194 := od_z1.top
            refine D_one 37 (by kernel_rfl) (Nx_glo rfl rfl rfl (lo_call (by kernel_rfl) rfl (sum_ x1.A x1.X x1.c y1.A y1.X y1.c _ od_x1.bs od_x1.le.2 od_y1.bs od_y1.le.2 ⟨by rw [(key_at hK_y e_y1 (ptK_get (show j < n1 by omega))).2.2, (key_at hK_x e_x1 (ptK_get (show j < n1 by omega))).2.2, ptX_length, ptX_length]; exact ho, by rw [(key_at hK_x e_x1 (ptK_get (show j < n1 by omega))).2.2, ptX_length]; omega⟩)) rfl ?_)
            rintro _ w22 ⟨A_sc, c_sc, rfl, Q22, k22⟩
            have kk22 := kk21.then_ k22
            have z195 : w21.heap.size ≤ w22.heap.size := k22.size
            have f196 : Bk w22 p0_0 ([.slice A (l.length) (c), .int .i64 (ka), .int .i64 (na), .slice A2 (d2.length) (c2)]) 46 := (f173.no k22)
            have f197 : Bk w22 p0_1 ([.slice A3 (l3.length) (c3), .int .i64 (kb), .int .i64 (nb), .slice A4 (d4.length) (c4)]) 46 := (f174.no k22)
            have f198 : Bk w22 pb ([.int .i64 ((q1 + 1 : Nat) : Int), .int .i64 ((n1 : Nat) : Int), .int .u32 5]) 28 := (f175.no k22)
            have f199 : Bk w22 f (u8s fv) 5 := (f176.no k22)
            have o200 : Gt w22 := (o177.no k22)
            have o201 : Tb w22 b12_0 := (o178.no k22)
            have ob202 := (ob180.keptNo k22)
            have ob203 := (ob170.keptNo k22)
            have ob204 := (ob171.keptNo k22)
            have ob205 := (ob172.keptNo k22)
            refine ⟨⟨kk22, f196, f197, f198, f199, o200, o201, ob202, ob203, ob204, ob205⟩, ?_⟩
            refine D_one 38 (by kernel_rfl) (Nx_gpu rfl rfl rfl (pu_bstr Q22.bs Tryd.underlying22 Tryd.underlying5 Tryd.underlying9 rfl rfl) rfl ⟨⟨kk22, f196, f197, f198, f199, o200, o201, ob202, ob203, ob204, ob205⟩, ?_⟩)
            refine D_gtake 39 rfl rfl rfl (by kernel_rfl) (by kernel_rfl) (by kernel_rfl) (fun _ _ _ h => h) rfl (fun W hS => pu_false (pu_neqs (p := z1.X = (sumL x1.X y1.X)) rfl rfl (bstr_inj ((hS.2.2.2.2.2.2.2.2.2.2.ss.get e_z1).bs).byte (Q22.bs).byte)) (fun h => h (by rw [(key_at hK_z e_z1 (ptK_get (show j < n1 by omega))).2.2, (key_at hK_x e_x1 (ptK_get (show j < n1 by omega))).2.2, (key_at hK_y e_y1 (ptK_get (show j < n1 by omega))).2.2]; exact ptX_sum bS1 bo bD1 hfv.2 ho hD1 hfv.1))) ?_
            refine D_take 40 rfl (by kernel_rfl) (by kernel_rfl) (by kernel_rfl) (fun _ _ _ h => h) rfl (fun W hS => pu_pickf rfl rfl) ?_
            refine D_done (by kernel_rfl) ?_
            refine X_then hK169 ?_
            refine C_false rfl ?_
            refine C_skip ?_
            refine X_in_normal ?_
            refine X_then hK168 ?_
            refine C_region ?_
            refine R_pu (pu_move rfl) rfl ?_
            refine R_pu (pu_add (z := ((j + 1 : Nat) : Int)) rfl rfl (by rw [IntKind.wrap_i64]; omega)) rfl ?_
            refine R_pu (pu_assign rfl) rfl ?_
            refine R_nil ?_
            have ob206 := (ob182.keptNo k22)
            have ob207 := (ob184.keptNo k22)
            have ob208 := (ob189.keptNo k22)
            have ob209 := (ob191.keptNo k22)
            refine X_round (n1 - (j + 1)) [(5, .slice A_S1 ((S1).length) (c_S1)), (6, .pointer (some ⟨pb, 0, none⟩)), (13, .slice A_x ((L_x).length) (c_x)), (15, .slice A_y ((L_y).length) (c_y)), (17, .slice A_z ((L_z).length) (c_z)), (19, .int .i64 (((j + 1) : Nat) : Int))] (by omega) (Sub.cons rfl (Sub.cons rfl (Sub.cons rfl (Sub.cons rfl (Sub.cons rfl (Sub.cons rfl (Sub.nil _))))))) ⟨j + 1, rfl, rfl, by omega, kk22, f196, f197, f198, f199, ⟨ob202, (Nat.zero_le _)⟩, ⟨ob206, (Nat.zero_le _)⟩, ⟨ob207, (Nat.le_trans (Nat.le_trans o_20.2 k21.size) k22.size)⟩, ⟨ob203, (Nat.le_trans (Nat.le_trans x_20.2 k21.size) k22.size)⟩, ⟨ob204, (Nat.le_trans (Nat.le_trans y_20.2 k21.size) k22.size)⟩, ⟨ob205, (Nat.le_trans (Nat.le_trans z_20.2 k21.size) k22.size)⟩, ⟨ob208, (Nat.le_trans (Nat.le_trans sa_20.2 k21.size) k22.size)⟩, ⟨ob209, (Nat.le_trans (Nat.le_trans sb_20.2 k21.size) k22.size)⟩, o200, o201⟩
          · refine C_exit ?_
            refine X_then_exit (X_then_exit (X_in_eq ?_))
            refine X_then hK160 ?_
            refine C_seq (fun K210 hK210 => ?_)
            refine C_region ?_
            refine R_lo (lo_call (by kernel_rfl) rfl (sure03 _ G_20)) rfl ?_
            rintro _ w23 ⟨rfl, k23⟩
            have kk23 := kk20.then_ k23
            refine R_pu (pu_assign rfl) rfl ?_
            refine R_nil ?_
            refine X_then hK210 ?_
            refine C_ret ?_
            exact X_ret1 (.inl rfl) rfl rfl ⟨rfl, kk23⟩
      · refine R_pu (pu_false (pu_move rfl) g9_4) rfl ?_
        refine R_gno rfl rfl rfl rfl ?_
        refine R_gno rfl rfl rfl rfl ?_
        refine R_gno rfl rfl rfl rfl ?_
        refine R_gno rfl rfl rfl rfl ?_
        refine R_gno rfl rfl rfl rfl ?_
        refine R_pu (pu_pickf rfl rfl) rfl ?_
        refine R_nil ?_
        refine X_then hK49 ?_
        refine C_false rfl ?_
        refine C_exit ?_
        refine X_then_exit (X_then_exit (X_in_eq ?_))
        refine X_then hK46 ?_
        refine C_seq (fun K211 hK211 => ?_)
        refine C_region ?_
        refine R_lo (lo_call (by kernel_rfl) rfl (gf_new _)) rfl ?_
        rintro _ w24 ⟨b12_0, rfl, le24, T24, k24⟩
        have kk24 := kk11.then_ k24
        have ne_b12_0_p0_0 : b12_0 ≠ p0_0 := Nat.ne_of_gt (Nat.lt_of_lt_of_le f_p0_0_11.lt le24)
        have ne_b12_0_p0_1 : b12_0 ≠ p0_1 := Nat.ne_of_gt (Nat.lt_of_lt_of_le f_p0_1_11.lt le24)
        have ne_b12_0_pb : b12_0 ≠ pb := Nat.ne_of_gt (Nat.lt_of_lt_of_le f_pb_11.lt le24)
        have ne_b12_0_f : b12_0 ≠ f := Nat.ne_of_gt (Nat.lt_of_lt_of_le f_f_11.lt le24)
        have ne_b12_0_0 : b12_0 ≠ 0 := Nat.ne_of_gt (Nat.lt_of_lt_of_le G_11.lt le24)
        refine R_pu (pu_assign rfl) rfl ?_
        refine R_nil ?_
        refine X_then hK211 ?_
        refine C_seq (fun K212 hK212 => ?_)
        refine C_region ?_
        refine R_pu (pu_move rfl) rfl ?_
        refine R_pu (pu_move rfl) rfl ?_
        have f213 : Bk w24 pb ([.int .i64 ((q1 + 1 : Nat) : Int), .int .i64 ((n1 : Nat) : Int), .int .u32 5]) 28 := (f_pb_11.no k24)
        refine R_pu (pu_loadRow (len := 3) f213 (by kernel_rfl) (by kernel_rfl) rfl rfl) rfl ?_
        refine R_pu (pu_move rfl) rfl ?_
        have ob214 := (S1_11.1.keptNo k24)
        have ob215 := (D1_11.1.keptNo k24)
        have f216 : Bk w24 p0_0 ([.slice A (l.length) (c), .int .i64 (ka), .int .i64 (na), .slice A2 (d2.length) (c2)]) 46 := (f_p0_0_11.no k24)
        have f217 : Bk w24 p0_1 ([.slice A3 (l3.length) (c3), .int .i64 (kb), .int .i64 (nb), .slice A4 (d4.length) (c4)]) 46 := (f_p0_1_11.no k24)
        have f218 : Bk w24 f (u8s fv) 5 := (f_f_11.no k24)
        have o219 : Gt w24 := (G_11.no k24)
        have lm220 := ob214.top
        have lm221 := ob215.top
        have ob223 := (o_11.1.keptNo k24)
        have lm222 := ob223.top
        refine R_lo (lo_call (by kernel_rfl) rfl (shamir_split b12_0 A_S1 S1 c_S1 q1 n1 5 A_D1 D1 c_D1 _ ob214.bs ob214.le.2 ob215.bs ob215.le.2 (by decide) (by omega) (by omega) hD1 (Od.awN S1_11.1 le24) (Od.awN D1_11.1 le24) T24)) rfl ?_
        rintro _ w25 ⟨A_x, c_x, L_x, rfl, Q25, hK_x, T25, k25⟩
        have kk25 := kk24.trans k25 (fun i hi => .inr (hi ▸ (Nat.le_trans kk11.size le24)))
        have z224 : w24.heap.size ≤ w25.heap.size := k25.size
        have hl_x := (key_len hK_x).trans (ptK_length ..)
        refine R_pu (pu_move rfl) rfl ?_
        refine R_pu (pu_extract rfl rfl) rfl ?_
        refine R_pu (pu_extract rfl rfl) rfl ?_
        refine R_pu (pu_assign rfl) rfl ?_
        refine R_pu (pu_assign rfl) rfl ?_
        refine R_nil ?_
        refine X_then hK212 ?_
        refine C_seq (fun K225 hK225 => ?_)
        refine C_region ?_
        refine R_pu (pu_move rfl) rfl ?_
        refine R_pu (pu_move rfl) rfl ?_
        have f226 : Bk w25 pb ([.int .i64 ((q1 + 1 : Nat) : Int), .int .i64 ((n1 : Nat) : Int), .int .u32 5]) 28 := (f213.on k25 (Ne.symm ne_b12_0_pb))
        refine R_pu (pu_loadRow (len := 3) f226 (by kernel_rfl) (by kernel_rfl) rfl rfl) rfl ?_
        refine R_pu (pu_move rfl) rfl ?_
        have ob227 := (ob223.onN k25 o_11.1 le24)
        have f228 : Bk w25 f (u8s fv) 5 := (f218.on k25 (Ne.symm ne_b12_0_f))
        have f229 : Bk w25 p0_0 ([.slice A (l.length) (c), .int .i64 (ka), .int .i64 (na), .slice A2 (d2.length) (c2)]) 46 := (f216.on k25 (Ne.symm ne_b12_0_p0_0))
        have f230 : Bk w25 p0_1 ([.slice A3 (l3.length) (c3), .int .i64 (kb), .int .i64 (nb), .slice A4 (d4.length) (c4)]) 46 := (f217.on k25 (Ne.symm ne_b12_0_p0_1))
        have o231 : Gt w25 := (o219.on k25 (Ne.symm ne_b12_0_0))
        have ob233 := (ob214.onN k25 S1_11.1 le24)
        have lm232 := ob233.top
        have ob235 := (ob215.onN k25 D1_11.1 le24)
        have lm234 := ob235.top
        have lm236 := ob227.top
        have lm237 := Q25.top
        refine R_lo (lo_callE (by kernel_rfl) rfl (by rw [hfv.1] <;> rfl) (shamir_split b12_0 (some ⟨g, 0, none⟩) ov c_7 q1 n1 5 (some ⟨f, 0, none⟩) fv ((D1).length) _ ob227.bs ob227.le.2 (Bs.ofBk f228 hfv) (Nat.le_of_eq hfv.1) (by decide) (by omega) (by omega) (by rw [hfv.1, ho]; exact hD1) (Ob.awN o_11.1 le24) (Aw.ofBk (Ne.symm ne_b12_0_f)) T25)) rfl ?_
        rintro _ w26 ⟨A_y, c_y, L_y, rfl, Q26, hK_y, T26, k26⟩
        have kk26 := kk25.trans k26 (fun i hi => .inr (hi ▸ (Nat.le_trans kk11.size le24)))
        have z238 : w25.heap.size ≤ w26.heap.size := k26.size
        have hl_y := (key_len hK_y).trans (ptK_length ..)
        refine R_pu (pu_move rfl) rfl ?_
        refine R_pu (pu_extract rfl rfl) rfl ?_
        refine R_pu (pu_extract rfl rfl) rfl ?_
        refine R_pu (pu_assign rfl) rfl ?_
        refine R_pu (pu_assign rfl) rfl ?_
        refine R_nil ?_
        refine X_then hK225 ?_
        refine C_seq (fun K239 hK239 => ?_)
        have f240 : Bk w26 p0_0 ([.slice A (l.length) (c), .int .i64 (ka), .int .i64 (na), .slice A2 (d2.length) (c2)]) 46 := (f229.on k26 (Ne.symm ne_b12_0_p0_0))
        have f241 : Bk w26 p0_1 ([.slice A3 (l3.length) (c3), .int .i64 (kb), .int .i64 (nb), .slice A4 (d4.length) (c4)]) 46 := (f230.on k26 (Ne.symm ne_b12_0_p0_1))
        have f242 : Bk w26 pb ([.int .i64 ((q1 + 1 : Nat) : Int), .int .i64 ((n1 : Nat) : Int), .int .u32 5]) 28 := (f226.on k26 (Ne.symm ne_b12_0_pb))
        have f243 : Bk w26 f (u8s fv) 5 := (f228.on k26 (Ne.symm ne_b12_0_f))
        have o244 : Gt w26 := (o231.on k26 (Ne.symm ne_b12_0_0))
        have ob245 := (ob233.onN k26 S1_11.1 le24)
        have ob246 := (ob235.onN k26 D1_11.1 le24)
        have ob247 := (ob227.onN k26 o_11.1 le24)
        refine D_begin (fun W => Kp No w W ∧ Bk W p0_0 ([.slice A (l.length) (c), .int .i64 (ka), .int .i64 (na), .slice A2 (d2.length) (c2)]) 46 ∧ Bk W p0_1 ([.slice A3 (l3.length) (c3), .int .i64 (kb), .int .i64 (nb), .slice A4 (d4.length) (c4)]) 46 ∧ Bk W pb ([.int .i64 ((q1 + 1 : Nat) : Int), .int .i64 ((n1 : Nat) : Int), .int .u32 5]) 28 ∧ Bk W f (u8s fv) 5 ∧ Gt W ∧ Tb W b12_0 ∧ Od W 0 (.slice A_S1 ((S1).length) (c_S1)) (S1) ∧ Od W 0 (.slice A_D1 ((D1).length) (c_D1)) (D1) ∧ Ob W w5.heap.size (.slice (some ⟨g, 0, none⟩) ((ov).length) (c_7)) (ov)) 14 rfl (by kernel_rfl) ⟨kk26.drew, f240.draw, f241.draw, f242.draw, f243.draw, o244.draw, T26.draw, ob245.draw, ob246.draw, ob247.draw⟩ ?_
        intro w27 k27 _
        have kk27 := kk26.then_ k27
        refine D_take 0 rfl (by kernel_rfl) (by kernel_rfl) (by kernel_rfl) (fun _ _ _ h => h) rfl (fun W hS => pu_move rfl) ?_
        refine D_take 1 rfl (by kernel_rfl) (by kernel_rfl) (by kernel_rfl) (fun _ _ _ h => h) rfl (fun W hS => pu_move rfl) ?_
        refine D_take 2 rfl (by kernel_rfl) (by kernel_rfl) (by kernel_rfl) (fun _ _ _ h => h) rfl (fun W hS => pu_move rfl) ?_
        refine D_take 4 rfl (by kernel_rfl) (by kernel_rfl) (by kernel_rfl) (fun _ _ _ h => h) rfl (fun W hS => pu_loadRow (len := 3) hS.2.2.2.1 (by kernel_rfl) (by kernel_rfl) rfl rfl) ?_
        refine D_take 5 rfl (by kernel_rfl) (by kernel_rfl) (by kernel_rfl) (fun _ _ _ h => h) rfl (fun W hS => pu_move rfl) ?_
        refine D_take 6 rfl (by kernel_rfl) (by kernel_rfl) (by kernel_rfl) (fun _ _ _ h => h) rfl (fun W hS => pu_move rfl) ?_
        have ob248 := (ob245.keptNo k27)
        have ob249 := (ob247.keptNo k27)
        have f250 : Bk w27 p0_0 ([.slice A (l.length) (c), .int .i64 (ka), .int .i64 (na), .slice A2 (d2.length) (c2)]) 46 := (f240.no k27)
        have f251 : Bk w27 p0_1 ([.slice A3 (l3.length) (c3), .int .i64 (kb), .int .i64 (nb), .slice A4 (d4.length) (c4)]) 46 := (f241.no k27)
        have f252 : Bk w27 pb ([.int .i64 ((q1 + 1 : Nat) : Int), .int .i64 ((n1 : Nat) : Int), .int .u32 5]) 28 := (f242.no k27)
        have f253 : Bk w27 f (u8s fv) 5 := (f243.no k27)
        have o254 : Gt w27 := (o244.no k27)
        have o255 : Tb w27 b12_0 := (T26.no k27)
        have lm256 := ob248.top
        have ob258 := (ob246.keptNo k27)
        have lm257 := ob258.top
        have lm259 := ob249.top
        have ob261 := ((Q25.on k26 (by have := T24.lt; omega)).keptNo k27)
        have lm260 := ob261.top
        have ob263 := (Q26.keptNo k27)
        have lm262 := ob263.top
        refine D_one 3 (by kernel_rfl) (Nx_lo rfl (lo_call (by kernel_rfl) rfl (sum_ A_S1 S1 c_S1 (some ⟨g, 0, none⟩) ov c_7 _ ob248.bs ob248.le.2 ob249.bs ob249.le.2 ⟨by omega, by omega⟩)) rfl ?_)
        rintro _ w28 ⟨A_sa, c_sa, rfl, Q28, k28⟩
        have kk28 := kk27.then_ k28
        have z264 : w27.heap.size ≤ w28.heap.size := k28.size
        have f265 : Bk w28 p0_0 ([.slice A (l.length) (c), .int .i64 (ka), .int .i64 (na), .slice A2 (d2.length) (c2)]) 46 := (f250.no k28)
        have f266 : Bk w28 p0_1 ([.slice A3 (l3.length) (c3), .int .i64 (kb), .int .i64 (nb), .slice A4 (d4.length) (c4)]) 46 := (f251.no k28)
        have f267 : Bk w28 pb ([.int .i64 ((q1 + 1 : Nat) : Int), .int .i64 ((n1 : Nat) : Int), .int .u32 5]) 28 := (f252.no k28)
        have f268 : Bk w28 f (u8s fv) 5 := (f253.no k28)
        have o269 : Gt w28 := (o254.no k28)
        have o270 : Tb w28 b12_0 := (o255.no k28)
        have ob271 := (ob248.keptNo k28)
        have ob272 := (ob258.keptNo k28)
        have ob273 := (ob249.keptNo k28)
        refine ⟨⟨kk28, f265, f266, f267, f268, o269, o270, ob271, ob272, ob273⟩, ?_⟩
        have lm274 := ob271.top
        have lm275 := ob272.top
        have lm276 := ob273.top
        have ob278 := (ob261.keptNo k28)
        have lm277 := ob278.top
        have ob280 := (ob263.keptNo k28)
        have lm279 := ob280.top
        have lm281 := Q28.top
        refine D_one 7 (by kernel_rfl) (Nx_lo rfl (lo_callE (by kernel_rfl) rfl (by rw [hfv.1] <;> rfl) (sum_ A_D1 D1 c_D1 (some ⟨f, 0, none⟩) fv ((D1).length) _ ob272.bs ob272.le.2 (Bs.ofBk f268 hfv) (Nat.le_of_eq hfv.1) ⟨hfv.1, by omega⟩)) rfl ?_)
        rintro _ w29 ⟨A_sb, c_sb, rfl, Q29, k29⟩
        have kk29 := kk28.then_ k29
        have z282 : w28.heap.size ≤ w29.heap.size := k29.size
        have f283 : Bk w29 p0_0 ([.slice A (l.length) (c), .int .i64 (ka), .int .i64 (na), .slice A2 (d2.length) (c2)]) 46 := (f265.no k29)
        have f284 : Bk w29 p0_1 ([.slice A3 (l3.length) (c3), .int .i64 (kb), .int .i64 (nb), .slice A4 (d4.length) (c4)]) 46 := (f266.no k29)
        have f285 : Bk w29 pb ([.int .i64 ((q1 + 1 : Nat) : Int), .int .i64 ((n1 : Nat) : Int), .int .u32 5]) 28 := (f267.no k29)
        have f286 : Bk w29 f (u8s fv) 5 := (f268.no k29)
        have o287 : Gt w29 := (o269.no k29)
        have o288 : Tb w29 b12_0 := (o270.no k29)
        have ob289 := (ob271.keptNo k29)
        have ob290 := (ob272.keptNo k29)
        have ob291 := (ob273.keptNo k29)
        refine ⟨⟨kk29, f283, f284, f285, f286, o287, o288, ob289, ob290, ob291⟩, ?_⟩
        have ob292 := (Q28.keptNo k29)
        have lm293 := ob289.top
        have lm294 := ob290.top
        have lm295 := ob291.top
        have ob297 := (ob278.keptNo k29)
        have lm296 := ob297.top
        have ob299 := (ob280.keptNo k29)
        have lm298 := ob299.top
        have lm300 := ob292.top
        have lm301 := Q29.top
        refine D_one 8 (by kernel_rfl) (Nx_lo rfl (lo_call (by kernel_rfl) rfl (shamir_split b12_0 A_sa (sumL S1 ov) c_sa q1 n1 5 A_sb (sumL D1 fv) c_sb _ ob292.bs ob292.le.2 Q29.bs Q29.le.2 (by decide) (by omega) (by rw [sumL_length]; omega) (by rw [sumL_length, sumL_length]; exact hD1) (Aw.ofOb ob292 (by have := o255.lt; omega)) (Aw.ofOb Q29 (by have := o270.lt; omega)) o288)) rfl ?_)
        rintro _ w30 ⟨A_z, c_z, L_z, rfl, Q30, hK_z, T30, k30⟩
        have kk30 := kk29.trans k30 (fun i hi => .inr (hi ▸ (Nat.le_trans kk11.size le24)))
        have z302 : w29.heap.size ≤ w30.heap.size := k30.size
        have hl_z := (key_len hK_z).trans (ptK_length ..)
        have f303 : Bk w30 p0_0 ([.slice A (l.length) (c), .int .i64 (ka), .int .i64 (na), .slice A2 (d2.length) (c2)]) 46 := (f283.on k30 (Ne.symm ne_b12_0_p0_0))
        have f304 : Bk w30 p0_1 ([.slice A3 (l3.length) (c3), .int .i64 (kb), .int .i64 (nb), .slice A4 (d4.length) (c4)]) 46 := (f284.on k30 (Ne.symm ne_b12_0_p0_1))
        have f305 : Bk w30 pb ([.int .i64 ((q1 + 1 : Nat) : Int), .int .i64 ((n1 : Nat) : Int), .int .u32 5]) 28 := (f285.on k30 (Ne.symm ne_b12_0_pb))
        have f306 : Bk w30 f (u8s fv) 5 := (f286.on k30 (Ne.symm ne_b12_0_f))
        have o307 : Gt w30 := (o287.on k30 (Ne.symm ne_b12_0_0))
        have ob308 := (ob289.onN k30 S1_11.1 le24)
        have ob309 := (ob290.onN k30 D1_11.1 le24)
        have ob310 := (ob291.onN k30 o_11.1 le24)
        refine ⟨⟨kk30, f303, f304, f305, f306, o307, T30, ob308, ob309, ob310⟩, ?_⟩
        refine D_take 9 rfl (by kernel_rfl) (by kernel_rfl) (by kernel_rfl) (fun _ _ _ h => h) rfl (fun W hS => pu_move rfl) ?_
        refine D_take 10 rfl (by kernel_rfl) (by kernel_rfl) (by kernel_rfl) (fun _ _ _ h => h) rfl (fun W hS => pu_extract rfl rfl) ?_
        refine D_take 11 rfl (by kernel_rfl) (by kernel_rfl) (by kernel_rfl) (fun _ _ _ h => h) rfl (fun W hS => pu_extract rfl rfl) ?_
        refine D_take 12 rfl (by kernel_rfl) (by kernel_rfl) (by kernel_rfl) (fun _ _ _ h => h) rfl (fun W hS => pu_assign rfl) ?_
        refine D_take 13 rfl (by kernel_rfl) (by kernel_rfl) (by kernel_rfl) (fun _ _ _ h => h) rfl (fun W hS => pu_assign rfl) ?_
        refine D_done (by kernel_rfl) ?_
        refine X_then hK239 ?_
        refine C_seq (fun K311 hK311 => ?_)
        refine C_seq (fun K312 hK312 => ?_)
        refine C_region ?_
        refine R_pu (pu_move rfl) rfl ?_
        refine R_pu (pu_neqnn (by kernel_rfl) rfl) rfl ?_
        refine R_pu (pu_move rfl) rfl ?_
        refine R_gpu rfl rfl (pu_move rfl) rfl ?_
        refine R_gpu rfl rfl (pu_neqnn (by kernel_rfl) rfl) rfl ?_
        refine R_pu (pu_pickf rfl rfl) rfl ?_
        refine R_pu (pu_move rfl) rfl ?_
        refine R_gpu rfl rfl (pu_move rfl) rfl ?_
        refine R_gpu rfl rfl (pu_neqnn (by kernel_rfl) rfl) rfl ?_
        refine R_pu (pu_pickf rfl rfl) rfl ?_
        refine R_pu (pu_move rfl) rfl ?_
        refine R_gpu rfl rfl (pu_move rfl) rfl ?_
        refine R_gpu rfl rfl (pu_len Tryd.underlying29 rfl) rfl ?_
        refine R_gpu rfl rfl (pu_fieldAddr (off := 1) (o' := 1) (by kernel_rfl) rfl rfl) rfl ?_
        refine R_gpu rfl rfl (pu_loadK f305 (by kernel_rfl) rfl rfl) rfl ?_
        refine R_gpu rfl rfl (pu_false (pu_neq (p := ((L_x).length) = n1) rfl rfl (by omega)) (fun h => h hl_x)) rfl ?_
        refine R_pu (pu_pickf rfl rfl) rfl ?_
        refine R_pu (pu_move rfl) rfl ?_
        refine R_gpu rfl rfl (pu_move rfl) rfl ?_
        refine R_gpu rfl rfl (pu_len Tryd.underlying29 rfl) rfl ?_
        refine R_gpu rfl rfl (pu_fieldAddr (off := 1) (o' := 1) (by kernel_rfl) rfl rfl) rfl ?_
        refine R_gpu rfl rfl (pu_loadK f305 (by kernel_rfl) rfl rfl) rfl ?_
        refine R_gpu rfl rfl (pu_false (pu_neq (p := ((L_y).length) = n1) rfl rfl (by omega)) (fun h => h hl_y)) rfl ?_
        refine R_pu (pu_pickf rfl rfl) rfl ?_
        refine R_pu (pu_move rfl) rfl ?_
        refine R_gpu rfl rfl (pu_move rfl) rfl ?_
        refine R_gpu rfl rfl (pu_len Tryd.underlying29 rfl) rfl ?_
        refine R_gpu rfl rfl (pu_fieldAddr (off := 1) (o' := 1) (by kernel_rfl) rfl rfl) rfl ?_
        refine R_gpu rfl rfl (pu_loadK f305 (by kernel_rfl) rfl rfl) rfl ?_
        refine R_gpu rfl rfl (pu_false (pu_neq (p := ((L_z).length) = n1) rfl rfl (by omega)) (fun h => h hl_z)) rfl ?_
        refine R_pu (pu_pickf rfl rfl) rfl ?_
        refine R_nil ?_
        refine X_then hK312 ?_
        refine C_false rfl ?_
        refine C_skip ?_
        refine X_then hK311 ?_
        refine C_seq (fun K313 hK313 => ?_)
        refine C_seq (fun K314 hK314 => ?_)
        refine C_region ?_
        refine R_pu (pu_assign rfl) rfl ?_
        refine R_nil ?_
        refine X_then hK314 ?_
        refine C_block ?_
        have bS1 := ob308.bs.byte; have bD1 := ob309.bs.byte; have bo := ob310.byte
        have ob315 := (ob297.on k30 (by have := T24.lt; omega))
        have ob316 := (ob299.on k30 (by have := T25.lt; omega))
        have ob317 := (ob292.on k30 (by have := o255.lt; omega))
        have ob318 := (Q29.on k30 (by have := o270.lt; omega))
        refine C_loop (fun m_ l_ wr => ∃ j : Nat, (m_ = n1 - j) ∧ (l_ = [(5, .slice A_S1 ((S1).length) (c_S1)), (6, .pointer (some ⟨pb, 0, none⟩)), (13, .slice A_x ((L_x).length) (c_x)), (15, .slice A_y ((L_y).length) (c_y)), (17, .slice A_z ((L_z).length) (c_z)), (19, .int .i64 ((j : Nat) : Int))]) ∧ (j ≤ n1) ∧ (Kp No w wr) ∧ (Bk wr p0_0 ([.slice A (l.length) (c), .int .i64 (ka), .int .i64 (na), .slice A2 (d2.length) (c2)]) 46) ∧ (Bk wr p0_1 ([.slice A3 (l3.length) (c3), .int .i64 (kb), .int .i64 (nb), .slice A4 (d4.length) (c4)]) 46) ∧ (Bk wr pb ([.int .i64 ((q1 + 1 : Nat) : Int), .int .i64 ((n1 : Nat) : Int), .int .u32 5]) 28) ∧ (Bk wr f (u8s fv) 5) ∧ (Od wr 0 (.slice A_S1 ((S1).length) (c_S1)) (S1) ∧ 0 ≤ (wr).heap.size) ∧ (Od wr 0 (.slice A_D1 ((D1).length) (c_D1)) (D1) ∧ 0 ≤ (wr).heap.size) ∧ (Ob wr w5.heap.size (.slice (some ⟨g, 0, none⟩) ((ov).length) (c_7)) (ov) ∧ w5.heap.size ≤ (wr).heap.size) ∧ (Sw 50 w24.heap.size wr w24.heap.size (.slice A_x ((L_x).length) (c_x)) (L_x) ∧ w24.heap.size ≤ (wr).heap.size) ∧ (Sw 50 w25.heap.size wr w25.heap.size (.slice A_y ((L_y).length) (c_y)) (L_y) ∧ w25.heap.size ≤ (wr).heap.size) ∧ (Sw 50 w29.heap.size wr w29.heap.size (.slice A_z ((L_z).length) (c_z)) (L_z) ∧ w29.heap.size ≤ (wr).heap.size) ∧ (Ob wr w27.heap.size (.slice A_sa ((sumL S1 ov).length) (c_sa)) (sumL S1 ov) ∧ w27.heap.size ≤ (wr).heap.size) ∧ (Ob wr w28.heap.size (.slice A_sb ((sumL D1 fv).length) (c_sb)) (sumL D1 fv) ∧ w28.heap.size ≤ (wr).heap.size) ∧ (Gt wr) ∧ (Tb wr b12_0)) (n1 - 0) [(5, .slice A_S1 ((S1).length) (c_S1)), (6, .pointer (some ⟨pb, 0, none⟩)), (13, .slice A_x ((L_x).length) (c_x)), (15, .slice A_y ((L_y).length) (c_y)), (17, .slice A_z ((L_z).length) (c_z)), (19, .int .i64 0)] (Sub.cons rfl (Sub.cons rfl (Sub.cons rfl (Sub.cons rfl (Sub.cons rfl (Sub.cons rfl (Sub.nil _))))))) ⟨0, rfl, rfl, by omega, kk30, f303, f304, f305, f306, ⟨ob308, (Nat.zero_le _)⟩, ⟨ob309, (Nat.zero_le _)⟩, ⟨ob310, (Nat.le_trans (Nat.le_trans (Nat.le_trans (Nat.le_trans (Nat.le_trans (Nat.le_trans (Nat.le_trans o_11.2 k24.size) k25.size) k26.size) k27.size) k28.size) k29.size) k30.size)⟩, ⟨ob315, (Nat.le_trans (Nat.le_trans (Nat.le_trans (Nat.le_trans (Nat.le_trans z224 k26.size) k27.size) k28.size) k29.size) k30.size)⟩, ⟨ob316, (Nat.le_trans (Nat.le_trans (Nat.le_trans (Nat.le_trans z238 k27.size) k28.size) k29.size) k30.size)⟩, ⟨Q30, z302⟩, ⟨ob317, (Nat.le_trans (Nat.le_trans z264 k29.size) k30.size)⟩, ⟨ob318, (Nat.le_trans z282 k30.size)⟩, o307, T30⟩ ?_
        rintro _ _ w31 ⟨j, rfl, rfl, hj, kk31, f_p0_0_31, f_p0_1_31, f_pb_31, f_f_31, S1_31, D1_31, o_31, x_31, y_31, z_31, sa_31, sb_31, G_31, T_b12_0_31⟩
        refine C_seq (fun K319 hK319 => ?_)
        refine C_seq (fun K320 hK320 => ?_)
        refine C_region ?_
        refine R_pu (pu_move rfl) rfl ?_
        refine R_pu (pu_fieldAddr (off := 1) (o' := 1) (by kernel_rfl) rfl rfl) rfl ?_
        refine R_pu (pu_loadK f_pb_31 (by kernel_rfl) rfl rfl) rfl ?_
        refine R_pu (pu_lss (p := j < n1) rfl rfl (by omega)) rfl ?_
        refine R_nil ?_
        refine X_then hK320 ?_
        refine C_dec rfl (fun h137 => ?_) (fun h137 => ?_)
        · refine C_skip ?_
          refine X_then hK319 ?_
          refine C_seq (fun K321 hK321 => ?_)
          refine C_block ?_
          refine C_seq (fun K322 hK322 => ?_)
          refine D_begin (fun W => Kp No w W ∧ Bk W p0_0 ([.slice A (l.length) (c), .int .i64 (ka), .int .i64 (na), .slice A2 (d2.length) (c2)]) 46 ∧ Bk W p0_1 ([.slice A3 (l3.length) (c3), .int .i64 (kb), .int .i64 (nb), .slice A4 (d4.length) (c4)]) 46 ∧ Bk W pb ([.int .i64 ((q1 + 1 : Nat) : Int), .int .i64 ((n1 : Nat) : Int), .int .u32 5]) 28 ∧ Bk W f (u8s fv) 5 ∧ Gt W ∧ Tb W b12_0 ∧ Od W 0 (.slice A_S1 ((S1).length) (c_S1)) (S1) ∧ Sw 50 w24.heap.size W w24.heap.size (.slice A_x ((L_x).length) (c_x)) (L_x) ∧ Sw 50 w25.heap.size W w25.heap.size (.slice A_y ((L_y).length) (c_y)) (L_y) ∧ Sw 50 w29.heap.size W w29.heap.size (.slice A_z ((L_z).length) (c_z)) (L_z)) 41 rfl (by kernel_rfl) ⟨kk31.drew, f_p0_0_31.draw, f_p0_1_31.draw, f_pb_31.draw, f_f_31.draw, G_31.draw, T_b12_0_31.draw, S1_31.1.draw, x_31.1.draw, y_31.1.draw, z_31.1.draw⟩ ?_
          intro w32 k32 _
          have kk32 := kk31.then_ k32
          refine D_take 0 rfl (by kernel_rfl) (by kernel_rfl) (by kernel_rfl) (fun _ _ _ h => h) rfl (fun W hS => pu_move rfl) ?_
          refine D_take 1 rfl (by kernel_rfl) (by kernel_rfl) (by kernel_rfl) (fun _ _ _ h => h) rfl (fun W hS => pu_move rfl) ?_
          have ob323 := (x_31.1.keptNo k32)
          obtain ⟨x1, e_x1⟩ : ∃ q_, (L_x)[j]? = some q_ := ⟨_, List.getElem?_eq_getElem (by first | omega | (simp; done) | (simp; omega))⟩
          have ok_x1 := ob323.ss.get e_x1
          have od_x1 := ob323.od e_x1
          have bi_x1 : x1.ix < 256 := ok_x1.ix
          refine D_take 2 rfl (by kernel_rfl) (by kernel_rfl) (by kernel_rfl) (fun _ _ _ h => h) rfl (fun W hS => pu_indexAddrH hS.2.2.2.2.2.2.2.2.1.ss Tryd.underlying29 (by kernel_rfl) rfl rfl rfl rfl e_x1) ?_
          refine D_take 3 rfl (by kernel_rfl) (by kernel_rfl) (by kernel_rfl) (fun _ _ _ h => h) rfl (fun W hS => pu_fieldAddrH (off := 2) hS.2.2.2.2.2.2.2.2.1.ss e_x1 (by kernel_rfl) rfl) ?_
          refine D_take 4 rfl (by kernel_rfl) (by kernel_rfl) (by kernel_rfl) (fun _ _ _ h => h) rfl (fun W hS => pu_loadH hS.2.2.2.2.2.2.2.2.1.ss e_x1 (by kernel_rfl) rfl rfl) ?_
          refine D_take 5 rfl (by kernel_rfl) (by kernel_rfl) (by kernel_rfl) (fun _ _ _ h => h) rfl (fun W hS => pu_len Tryd.underlying22 rfl) ?_
          refine D_take 6 rfl (by kernel_rfl) (by kernel_rfl) (by kernel_rfl) (fun _ _ _ h => h) rfl (fun W hS => pu_move rfl) ?_
          refine D_take 7 rfl (by kernel_rfl) (by kernel_rfl) (by kernel_rfl) (fun _ _ _ h => h) rfl (fun W hS => pu_len Tryd.underlying22 rfl) ?_
          refine D_take 8 rfl (by kernel_rfl) (by kernel_rfl) (by kernel_rfl) (fun _ _ _ h => h) rfl (fun W hS => pu_false (pu_neq (p := ((x1.X).length) = ((S1).length)) rfl rfl (by omega)) (fun h => h (by rw [(key_at hK_x e_x1 (ptK_get (show j < n1 by omega))).2.2]; exact ptX_length _ _ _ _))) ?_
          refine D_take 9 rfl (by kernel_rfl) (by kernel_rfl) (by kernel_rfl) (fun _ _ _ h => h) rfl (fun W hS => pu_move rfl) ?_
          refine D_gtake 10 rfl rfl rfl (by kernel_rfl) (by kernel_rfl) (by kernel_rfl) (fun _ _ _ h => h) rfl (fun W hS => pu_move rfl) ?_
          refine D_gtake 11 rfl rfl rfl (by kernel_rfl) (by kernel_rfl) (by kernel_rfl) (fun _ _ _ h => h) rfl (fun W hS => pu_move rfl) ?_
          have ob324 := (y_31.1.keptNo k32)
          obtain ⟨y1, e_y1⟩ : ∃ q_, (L_y)[j]? = some q_ := ⟨_, List.getElem?_eq_getElem (by first | omega | (simp; done) | (simp; omega))⟩
          have ok_y1 := ob324.ss.get e_y1
          have od_y1 := ob324.od e_y1
          have bi_y1 : y1.ix < 256 := ok_y1.ix
          refine D_gtake 12 rfl rfl rfl (by kernel_rfl) (by kernel_rfl) (by kernel_rfl) (fun _ _ _ h => h) rfl (fun W hS => pu_indexAddrH hS.2.2.2.2.2.2.2.2.2.1.ss Tryd.underlying29 (by kernel_rfl) rfl rfl rfl rfl e_y1) ?_
          refine D_gtake 13 rfl rfl rfl (by kernel_rfl) (by kernel_rfl) (by kernel_rfl) (fun _ _ _ h => h) rfl (fun W hS => pu_fieldAddrH (off := 2) hS.2.2.2.2.2.2.2.2.2.1.ss e_y1 (by kernel_rfl) rfl) ?_
          refine D_gtake 14 rfl rfl rfl (by kernel_rfl) (by kernel_rfl) (by kernel_rfl) (fun _ _ _ h => h) rfl (fun W hS => pu_loadH hS.2.2.2.2.2.2.2.2.2.1.ss e_y1 (by kernel_rfl) rfl rfl) ?_
          refine D_gtake 15 rfl rfl rfl (by kernel_rfl) (by kernel_rfl) (by kernel_rfl) (fun _ _ _ h => h) rfl (fun W hS => pu_len Tryd.underlying22 rfl) ?_
          refine D_gtake 16 rfl rfl rfl (by kernel_rfl) (by kernel_rfl) (by kernel_rfl) (fun _ _ _ h => h) rfl (fun W hS => pu_move rfl) ?_
          refine D_gtake 17 rfl rfl rfl (by kernel_rfl) (by kernel_rfl) (by kernel_rfl) (fun _ _ _ h => h) rfl (fun W hS => pu_len Tryd.underlying22 rfl) ?_
          refine D_gtake 18 rfl rfl rfl (by kernel_rfl) (by kernel_rfl) (by kernel_rfl) (fun _ _ _ h => h) rfl (fun W hS => pu_false (pu_neq (p := ((y1.X).length) = ((S1).length)) rfl rfl (by omega)) (fun h => h (by rw [(key_at hK_y e_y1 (ptK_get (show j < n1 by omega))).2.2]; exact (ptX_length _ _ _ _).trans ho))) ?_
          refine D_take 19 rfl (by kernel_rfl) (by kernel_rfl) (by kernel_rfl) (fun _ _ _ h => h) rfl (fun W hS => pu_pickf rfl rfl) ?_
          refine D_take 20 rfl (by kernel_rfl) (by kernel_rfl) (by kernel_rfl) (fun _ _ _ h => h) rfl (fun W hS => pu_move rfl) ?_
          refine D_gtake 21 rfl rfl rfl (by kernel_rfl) (by kernel_rfl) (by kernel_rfl) (fun _ _ _ h => h) rfl (fun W hS => pu_move rfl) ?_
          refine D_gtake 22 rfl rfl rfl (by kernel_rfl) (by kernel_rfl) (by kernel_rfl) (fun _ _ _ h => h) rfl (fun W hS => pu_move rfl) ?_
          have ob325 := (z_31.1.keptNo k32)
          obtain ⟨z1, e_z1⟩ : ∃ q_, (L_z)[j]? = some q_ := ⟨_, List.getElem?_eq_getElem (by first | omega | (simp; done) | (simp; omega))⟩
          have ok_z1 := ob325.ss.get e_z1
          have od_z1 := ob325.od e_z1
          have bi_z1 : z1.ix < 256 := ok_z1.ix
          refine D_gtake 23 rfl rfl rfl (by kernel_rfl) (by kernel_rfl) (by kernel_rfl) (fun _ _ _ h => h) rfl (fun W hS => pu_indexAddrH hS.2.2.2.2.2.2.2.2.2.2.ss Tryd.underlying29 (by kernel_rfl) rfl rfl rfl rfl e_z1) ?_
          refine D_gtake 24 rfl rfl rfl (by kernel_rfl) (by kernel_rfl) (by kernel_rfl) (fun _ _ _ h => h) rfl (fun W hS => pu_fieldAddrH (off := 2) hS.2.2.2.2.2.2.2.2.2.2.ss e_z1 (by kernel_rfl) rfl) ?_
          refine D_gtake 25 rfl rfl rfl (by kernel_rfl) (by kernel_rfl) (by kernel_rfl) (fun _ _ _ h => h) rfl (fun W hS => pu_loadH hS.2.2.2.2.2.2.2.2.2.2.ss e_z1 (by kernel_rfl) rfl rfl) ?_
          refine D_gtake 26 rfl rfl rfl (by kernel_rfl) (by kernel_rfl) (by kernel_rfl) (fun _ _ _ h => h) rfl (fun W hS => pu_bstr (hS.2.2.2.2.2.2.2.2.2.2.ss.get e_z1).bs Tryd.underlying22 Tryd.underlying5 Tryd.underlying9 rfl rfl) ?_
          refine D_gtake 27 rfl rfl rfl (by kernel_rfl) (by kernel_rfl) (by kernel_rfl) (fun _ _ _ h => h) rfl (fun W hS => pu_move rfl) ?_
          refine D_gtake 28 rfl rfl rfl (by kernel_rfl) (by kernel_rfl) (by kernel_rfl) (fun _ _ _ h => h) rfl (fun W hS => pu_move rfl) ?_
          refine D_gtake 29 rfl rfl rfl (by kernel_rfl) (by kernel_rfl) (by kernel_rfl) (fun _ _ _ h => h) rfl (fun W hS => pu_indexAddrH hS.2.2.2.2.2.2.2.2.1.ss Tryd.underlying29 (by kernel_rfl) rfl rfl rfl rfl e_x1) ?_
          refine D_gtake 30 rfl rfl rfl (by kernel_rfl) (by kernel_rfl) (by kernel_rfl) (fun _ _ _ h => h) rfl (fun W hS => pu_fieldAddrH (off := 2) hS.2.2.2.2.2.2.2.2.1.ss e_x1 (by kernel_rfl) rfl) ?_
          refine D_gtake 31 rfl rfl rfl (by kernel_rfl) (by kernel_rfl) (by kernel_rfl) (fun _ _ _ h => h) rfl (fun W hS => pu_loadH hS.2.2.2.2.2.2.2.2.1.ss e_x1 (by kernel_rfl) rfl rfl) ?_
          refine D_gtake 32 rfl rfl rfl (by kernel_rfl) (by kernel_rfl) (by kernel_rfl) (fun _ _ _ h => h) rfl (fun W hS => pu_move rfl) ?_
          refine D_gtake 33 rfl rfl rfl (by kernel_rfl) (by kernel_rfl) (by kernel_rfl) (fun _ _ _ h => h) rfl (fun W hS => pu_move rfl) ?_
          refine D_gtake 34 rfl rfl rfl (by kernel_rfl) (by kernel_rfl) (by kernel_rfl) (fun _ _ _ h => h) rfl (fun W hS => pu_indexAddrH hS.2.2.2.2.2.2.2.2.2.1.ss Tryd.underlying29 (by kernel_rfl) rfl rfl rfl rfl e_y1) ?_
          refine D_gtake 35 rfl rfl rfl (by kernel_rfl) (by kernel_rfl) (by kernel_rfl) (fun _ _ _ h => h) rfl (fun W hS => pu_fieldAddrH (off := 2) hS.2.2.2.2.2.2.2.2.2.1.ss e_y1 (by kernel_rfl) rfl) ?_
          refine D_gtake 36 rfl rfl rfl (by kernel_rfl) (by kernel_rfl) (by kernel_rfl) (fun _ _ _ h => h) rfl (fun W hS => pu_loadH hS.2.2.2.2.2.2.2.2.2.1.ss e_y1 (by kernel_rfl) rfl rfl) ?_
          have f326 : Bk w32 p0_0 ([.slice A (l.length) (c), .int .i64 (ka), .int .i64 (na), .slice A2 (d2.length) (c2)]) 46 := (f_p0_0_31.no k32)
          have f327 : Bk w32 p0_1 ([.slice A3 (l3.length) (c3), .int .i64 (kb), .int .i64 (nb), .slice A4 (d4.length) (c4)]) 46 := (f_p0_1_31.no k32)
          have f328 : Bk w32 pb ([.int .i64 ((q1 + 1 : Nat) : Int), .int .i64 ((n1 : Nat) : Int), .int .u32 5]) 28 := (f_pb_31.no k32)
          have f329 : Bk w32 f (u8s fv) 5 := (f_f_31.no k32)
          have o330 : Gt w32 := (G_31.no k32)
          have o331 : Tb w32 b12_0 := (T_b12_0_31.no k32)
          have ob333 := (S1_31.1.keptNo k32)
          have lm332 := ob333.top
          have ob335 := (D1_31.1.keptNo k32)
          have lm334 := ob335.top
          have ob337 := (o_31.1.keptNo k32)
          have lm336 := ob337.top
          have lm338 := ob323.top
          have lm339 := ob324.top
          have lm340 := ob325.top
          have ob342 := (sa_31.1.keptNo k32)
          have lm341 := ob342.top
          have ob344 := (sb_31.1.keptNo k32)
          have lm343 := ob344.top
          have lm345 := od_x1.top
          have lm346 := od_y1.top
          have lm347 := od_z1.top
          refine D_one 37 (by kernel_rfl) (Nx_glo rfl rfl rfl (lo_call (by kernel_rfl) rfl (sum_ x1.A x1.X x1.c y1.A y1.X y1.c _ od_x1.bs od_x1.le.2 od_y1.bs od_y1.le.2 ⟨by rw [(key_at hK_y e_y1 (ptK_get (show j < n1 by omega))).2.2, (key_at hK_x e_x1 (ptK_get (show j < n1 by omega))).2.2, ptX_length, ptX_length]; exact ho, by rw [(key_at hK_x e_x1 (ptK_get (show j < n1 by omega))).2.2, ptX_length]; omega⟩)) rfl ?_)
          rintro _ w33 ⟨A_sc, c_sc, rfl, Q33, k33⟩
          have kk33 := kk32.then_ k33
          have z348 : w32.heap.size ≤ w33.heap.size := k33.size
          have f349 : Bk w33 p0_0 ([.slice A (l.length) (c), .int .i64 (ka), .int .i64 (na), .slice A2 (d2.length) (c2)]) 46 := (f326.no k33)
          have f350 : Bk w33 p0_1 ([.slice A3 (l3.length) (c3), .int .i64 (kb), .int .i64 (nb), .slice A4 (d4.length) (c4)]) 46 := (f327.no k33)
          have f351 : Bk w33 pb ([.int .i64 ((q1 + 1 : Nat) : Int), .int .i64 ((n1 : Nat) : Int), .int .u32 5]) 28 := (f328.no k33)
          have f352 : Bk w33 f (u8s fv) 5 := (f329.no k33)
          have o353 : Gt w33 := (o330.no k33)
          have o354 : Tb w33 b12_0 := (o331.no k33)
          have ob355 := (ob333.keptNo k33)
          have ob356 := (ob323.keptNo k33)
          have ob357 := (ob324.keptNo k33)
          have ob358 := (ob325.keptNo k33)
          refine ⟨⟨kk33, f349, f350, f351, f352, o353, o354, ob355, ob356, ob357, ob358⟩, ?_⟩
          refine D_one 38 (by kernel_rfl) (Nx_gpu rfl rfl rfl (pu_bstr Q33.bs Tryd.underlying22 Tryd.underlying5 Tryd.underlying9 rfl rfl) rfl ⟨⟨kk33, f349, f350, f351, f352, o353, o354, ob355, ob356, ob357, ob358⟩, ?_⟩)
          refine D_gtake 39 rfl rfl rfl (by kernel_rfl) (by kernel_rfl) (by kernel_rfl) (fun _ _ _ h => h) rfl (fun W hS => pu_false (pu_neqs (p := z1.X = (sumL x1.X y1.X)) rfl rfl (bstr_inj ((hS.2.2.2.2.2.2.2.2.2.2.ss.get e_z1).bs).byte (Q33.bs).byte)) (fun h => h (by rw [(key_at hK_z e_z1 (ptK_get (show j < n1 by omega))).2.2, (key_at hK_x e_x1 (ptK_get (show j < n1 by omega))).2.2, (key_at hK_y e_y1 (ptK_get (show j < n1 by omega))).2.2]; exact ptX_sum bS1 bo bD1 hfv.2 ho hD1 hfv.1))) ?_
          refine D_take 40 rfl (by kernel_rfl) (by kernel_rfl) (by kernel_rfl) (fun _ _ _ h => h) rfl (fun W hS => pu_pickf rfl rfl) ?_
          refine D_done (by kernel_rfl) ?_
          refine X_then hK322 ?_
          refine C_false rfl ?_
          refine C_skip ?_
          refine X_in_normal ?_
          refine X_then hK321 ?_
          refine C_region ?_
          refine R_pu (pu_move rfl) rfl ?_
          refine R_pu (pu_add (z := ((j + 1 : Nat) : Int)) rfl rfl (by rw [IntKind.wrap_i64]; omega)) rfl ?_
          refine R_pu (pu_assign rfl) rfl ?_
          refine R_nil ?_
          have ob359 := (ob335.keptNo k33)
          have ob360 := (ob337.keptNo k33)
          have ob361 := (ob342.keptNo k33)
          have ob362 := (ob344.keptNo k33)
          refine X_round (n1 - (j + 1)) [(5, .slice A_S1 ((S1).length) (c_S1)), (6, .pointer (some ⟨pb, 0, none⟩)), (13, .slice A_x ((L_x).length) (c_x)), (15, .slice A_y ((L_y).length) (c_y)), (17, .slice A_z ((L_z).length) (c_z)), (19, .int .i64 (((j + 1) : Nat) : Int))] (by omega) (Sub.cons rfl (Sub.cons rfl (Sub.cons rfl (Sub.cons rfl (Sub.cons rfl (Sub.cons rfl (Sub.nil _))))))) ⟨j + 1, rfl, rfl, by omega, kk33, f349, f350, f351, f352, ⟨ob355, (Nat.zero_le _)⟩, ⟨ob359, (Nat.zero_le _)⟩, ⟨ob360, (Nat.le_trans (Nat.le_trans o_31.2 k32.size) k33.size)⟩, ⟨ob356, (Nat.le_trans (Nat.le_trans x_31.2 k32.size) k33.size)⟩, ⟨ob357, (Nat.le_trans (Nat.le_trans y_31.2 k32.size) k33.size)⟩, ⟨ob358, (Nat.le_trans (Nat.le_trans z_31.2 k32.size) k33.size)⟩, ⟨ob361, (Nat.le_trans (Nat.le_trans sa_31.2 k32.size) k33.size)⟩, ⟨ob362, (Nat.le_trans (Nat.le_trans sb_31.2 k32.size) k33.size)⟩, o353, o354⟩
        · refine C_exit ?_
          refine X_then_exit (X_then_exit (X_in_eq ?_))
          refine X_then hK313 ?_
          refine C_seq (fun K363 hK363 => ?_)
          refine C_region ?_
          refine R_lo (lo_call (by kernel_rfl) rfl (sure03 _ G_31)) rfl ?_
          rintro _ w34 ⟨rfl, k34⟩
          have kk34 := kk31.then_ k34
          refine R_pu (pu_assign rfl) rfl ?_
          refine R_nil ?_
          refine X_then hK363 ?_
          refine C_ret ?_
          exact X_ret1 (.inl rfl) rfl rfl ⟨rfl, kk34⟩
  · refine R_pu (pu_false (pu_move rfl) g5_4) rfl ?_
    refine R_gno rfl rfl rfl rfl ?_
    refine R_gno rfl rfl rfl rfl ?_
    refine R_gno rfl rfl rfl rfl ?_
    refine R_gno rfl rfl rfl rfl ?_
    refine R_gno rfl rfl rfl rfl ?_
    refine R_pu (pu_pickf rfl rfl) rfl ?_
    refine R_nil ?_
    refine X_then hK37 ?_
    refine C_false rfl ?_
    refine C_exit ?_
    refine X_then_exit (X_then_exit (X_in_eq ?_))
    refine X_then hK27 ?_
    refine C_seq (fun K364 hK364 => ?_)
    refine C_seq (fun K365 hK365 => ?_)
    refine C_region ?_
    refine R_pu (pu_assign rfl) rfl ?_
    refine R_nil ?_
    refine X_then hK365 ?_
    refine C_block ?_
    refine C_loop (fun m_ l_ wr => ∃ k : Nat, ∃ fv : List Nat, (m_ = D1.length - k) ∧ (l_ = [(3, .pointer (some ⟨p0_1, 0, none⟩)), (4, .bool false), (5, .slice A_S1 ((S1).length) (c_S1)), (6, .pointer (some ⟨pb, 0, none⟩)), (7, .slice A_D1 ((D1).length) (c_D1)), (8, .slice (some ⟨g, 0, none⟩) ((ov).length) (c_7)), (9, .slice (some ⟨f, 0, none⟩) ((D1).length) ((D1).length)), (11, .int .i64 ((k : Nat) : Int))]) ∧ (k ≤ D1.length) ∧ (By D1.length fv) ∧ (Kp No w wr) ∧ (Bk wr p0_0 ([.slice A (l.length) (c), .int .i64 (ka), .int .i64 (na), .slice A2 (d2.length) (c2)]) 46) ∧ (Bk wr p0_1 ([.slice A3 (l3.length) (c3), .int .i64 (kb), .int .i64 (nb), .slice A4 (d4.length) (c4)]) 46) ∧ (Bk wr pb ([.int .i64 ((q1 + 1 : Nat) : Int), .int .i64 ((n1 : Nat) : Int), .int .u32 5]) 28) ∧ (Bk wr f (u8s fv) 5) ∧ (Od wr 0 (.slice A_S1 ((S1).length) (c_S1)) (S1) ∧ 0 ≤ (wr).heap.size) ∧ (Od wr 0 (.slice A_D1 ((D1).length) (c_D1)) (D1) ∧ 0 ≤ (wr).heap.size) ∧ (Ob wr w5.heap.size (.slice (some ⟨g, 0, none⟩) ((ov).length) (c_7)) (ov) ∧ w5.heap.size ≤ (wr).heap.size) ∧ (Gt wr)) (D1.length - 0) [(3, .pointer (some ⟨p0_1, 0, none⟩)), (4, .bool false), (5, .slice A_S1 ((S1).length) (c_S1)), (6, .pointer (some ⟨pb, 0, none⟩)), (7, .slice A_D1 ((D1).length) (c_D1)), (8, .slice (some ⟨g, 0, none⟩) ((ov).length) (c_7)), (9, .slice (some ⟨f, 0, none⟩) ((D1).length) ((D1).length)), (11, .int .i64 0)] (Sub.cons rfl (Sub.cons rfl (Sub.cons rfl (Sub.cons rfl (Sub.cons rfl (Sub.cons rfl (Sub.cons rfl (Sub.cons rfl (Sub.nil _))))))))) ⟨0, List.replicate D1.length 0, rfl, rfl, by omega, (rep_by D1.length), kk9, f_p0_0_9, f_p0_1_9, f_pb_9, Bk.eq f_f_9 (congrArg u8s rfl), ⟨S1_9.1, (Nat.zero_le _)⟩, ⟨D1_9.1, (Nat.zero_le _)⟩, ⟨o_9.1, o_9.2⟩, G_9⟩ ?_
    rintro _ _ w35 ⟨k, fv, rfl, rfl, hk, hfv, kk35, f_p0_0_35, f_p0_1_35, f_pb_35, f_f_35, S1_35, D1_35, o_35, G_35⟩
    refine C_seq (fun K366 hK366 => ?_)
    refine C_seq (fun K367 hK367 => ?_)
    refine C_region ?_
    refine R_pu (pu_move rfl) rfl ?_
    refine R_pu (pu_move rfl) rfl ?_
    refine R_pu (pu_len Tryd.underlying22 rfl) rfl ?_
    refine R_pu (pu_lss (p := k < ((D1).length)) rfl rfl (by omega)) rfl ?_
    by_cases g9_4 : k < ((D1).length)
    · refine R_pu (pu_true (pu_move rfl) g9_4) rfl ?_
      refine R_gpu rfl rfl (pu_move rfl) rfl ?_
      refine R_gpu rfl rfl (pu_fieldAddr (off := 3) (o' := 3) (by kernel_rfl) rfl rfl) rfl ?_
      refine R_gpu rfl rfl (pu_loadK f_p0_1_35 (by kernel_rfl) rfl rfl) rfl ?_
      refine R_gpu rfl rfl (pu_len Tryd.underlying22 rfl) rfl ?_
      refine R_gpu rfl rfl (pu_lss (p := k < d4.length) rfl rfl (by omega)) rfl ?_
      refine R_pu (pu_pickt rfl rfl) rfl ?_
      refine R_nil ?_
      refine X_then hK367 ?_
      refine C_dec rfl (fun h63 => ?_) (fun h63 => ?_)
      · refine C_skip ?_
        refine X_then hK366 ?_
        refine C_seq (fun K368 hK368 => ?_)
        refine C_block ?_
        refine C_region ?_
        refine R_pu (pu_move rfl) rfl ?_
        refine R_pu (pu_move rfl) rfl ?_
        refine R_pu (pu_fieldAddr (off := 3) (o' := 3) (by kernel_rfl) rfl rfl) rfl ?_
        refine R_pu (pu_loadK f_p0_1_35 (by kernel_rfl) rfl rfl) rfl ?_
        refine R_pu (pu_move rfl) rfl ?_
        refine R_pu (pu_indexAddrB (m := k) (HB4.keptNo kk35) Tryd.underlying22 (by kernel_rfl) rfl rfl rfl rfl (by omega)) rfl ?_
        obtain ⟨m, e_m⟩ : ∃ q_, (d4)[k]? = some q_ := ⟨_, List.getElem?_eq_getElem (by omega)⟩
        have b_m : m < 256 := ((HB4.keptNo kk35)).lt e_m
        refine R_pu (pu_loadB (HB4.keptNo kk35) (by kernel_rfl) rfl e_m) rfl ?_
        refine R_pu (pu_indexAddrP (m := k) (s := 1) (o' := k) Tryd.underlying22 (by kernel_rfl) rfl rfl rfl (by omega) (by omega)) rfl ?_
        refine R_lo0 (lo_store f_f_35 (by kernel_rfl) rfl rfl rfl (by rw [u8s_length, hfv.1]; omega)) ?_
        rintro _ w36 kf36
        obtain ⟨k36, f_f_36⟩ := kf36
        replace f_f_36 := Bk.eq f_f_36 (u8s_set _ _ m)
        replace f_f_36 : Bk w36 f (u8s (fv.set k m)) 5 := f_f_36
        have kk36 := kk35.trans k36 (fun i hi => .inr (hi ▸ (Nat.le_trans kk7.size N8.le)))
        refine R_nil ?_
        refine X_in_normal ?_
        refine X_then hK368 ?_
        refine C_region ?_
        refine R_pu (pu_move rfl) rfl ?_
        refine R_pu (pu_add (z := ((k + 1 : Nat) : Int)) rfl rfl (by rw [IntKind.wrap_i64]; omega)) rfl ?_
        refine R_pu (pu_assign rfl) rfl ?_
        refine R_nil ?_
        have f369 : Bk w36 p0_0 ([.slice A (l.length) (c), .int .i64 (ka), .int .i64 (na), .slice A2 (d2.length) (c2)]) 46 := (f_p0_0_35.on k36 (Ne.symm ne_f_p0_0))
        have f370 : Bk w36 p0_1 ([.slice A3 (l3.length) (c3), .int .i64 (kb), .int .i64 (nb), .slice A4 (d4.length) (c4)]) 46 := (f_p0_1_35.on k36 (Ne.symm ne_f_p0_1))
        have f371 : Bk w36 pb ([.int .i64 ((q1 + 1 : Nat) : Int), .int .i64 ((n1 : Nat) : Int), .int .u32 5]) 28 := (f_pb_35.on k36 (Ne.symm ne_f_pb))
        have ob372 := (S1_35.1.onN k36 ob25 N8.le)
        have ob373 := (D1_35.1.onN k36 ob26 N8.le)
        have ob374 := (o_35.1.onF k36 (Ne.symm ne_f_g))
        have o375 : Gt w36 := (G_35.on k36 (Ne.symm ne_f_0))
        refine X_round (D1.length - (k + 1)) [(3, .pointer (some ⟨p0_1, 0, none⟩)), (4, .bool false), (5, .slice A_S1 ((S1).length) (c_S1)), (6, .pointer (some ⟨pb, 0, none⟩)), (7, .slice A_D1 ((D1).length) (c_D1)), (8, .slice (some ⟨g, 0, none⟩) ((ov).length) (c_7)), (9, .slice (some ⟨f, 0, none⟩) ((D1).length) ((D1).length)), (11, .int .i64 (((k + 1) : Nat) : Int))] (by omega) (Sub.cons rfl (Sub.cons rfl (Sub.cons rfl (Sub.cons rfl (Sub.cons rfl (Sub.cons rfl (Sub.cons rfl (Sub.cons rfl (Sub.nil _))))))))) ⟨k + 1, fv.set k m, rfl, rfl, by omega, (by_set hfv b_m), kk36, f369, f370, f371, f_f_36, ⟨ob372, (Nat.zero_le _)⟩, ⟨ob373, (Nat.zero_le _)⟩, ⟨ob374, (Nat.le_trans o_35.2 k36.size)⟩, o375⟩
      · refine C_exit ?_
        refine X_then_exit (X_then_exit (X_in_eq ?_))
        refine X_then hK364 ?_
        refine C_seq (fun K376 hK376 => ?_)
        refine C_region ?_
        refine R_lo (lo_call (by kernel_rfl) rfl (gf_new _)) rfl ?_
        rintro _ w37 ⟨b12_0, rfl, le37, T37, k37⟩
        have kk37 := kk35.then_ k37
        have ne_b12_0_p0_0 : b12_0 ≠ p0_0 := Nat.ne_of_gt (Nat.lt_of_lt_of_le f_p0_0_35.lt le37)
        have ne_b12_0_p0_1 : b12_0 ≠ p0_1 := Nat.ne_of_gt (Nat.lt_of_lt_of_le f_p0_1_35.lt le37)
        have ne_b12_0_pb : b12_0 ≠ pb := Nat.ne_of_gt (Nat.lt_of_lt_of_le f_pb_35.lt le37)
        have ne_b12_0_f : b12_0 ≠ f := Nat.ne_of_gt (Nat.lt_of_lt_of_le f_f_35.lt le37)
        have ne_b12_0_0 : b12_0 ≠ 0 := Nat.ne_of_gt (Nat.lt_of_lt_of_le G_35.lt le37)
        refine R_pu (pu_assign rfl) rfl ?_
        refine R_nil ?_
        refine X_then hK376 ?_
        refine C_seq (fun K377 hK377 => ?_)
        refine C_region ?_
        refine R_pu (pu_move rfl) rfl ?_
        refine R_pu (pu_move rfl) rfl ?_
        have f378 : Bk w37 pb ([.int .i64 ((q1 + 1 : Nat) : Int), .int .i64 ((n1 : Nat) : Int), .int .u32 5]) 28 := (f_pb_35.no k37)
        refine R_pu (pu_loadRow (len := 3) f378 (by kernel_rfl) (by kernel_rfl) rfl rfl) rfl ?_
        refine R_pu (pu_move rfl) rfl ?_
        have ob379 := (S1_35.1.keptNo k37)
        have ob380 := (D1_35.1.keptNo k37)
        have f381 : Bk w37 p0_0 ([.slice A (l.length) (c), .int .i64 (ka), .int .i64 (na), .slice A2 (d2.length) (c2)]) 46 := (f_p0_0_35.no k37)
        have f382 : Bk w37 p0_1 ([.slice A3 (l3.length) (c3), .int .i64 (kb), .int .i64 (nb), .slice A4 (d4.length) (c4)]) 46 := (f_p0_1_35.no k37)
        have f383 : Bk w37 f (u8s fv) 5 := (f_f_35.no k37)
        have o384 : Gt w37 := (G_35.no k37)
        have lm385 := ob379.top
        have lm386 := ob380.top
        have ob388 := (o_35.1.keptNo k37)
        have lm387 := ob388.top
        refine R_lo (lo_call (by kernel_rfl) rfl (shamir_split b12_0 A_S1 S1 c_S1 q1 n1 5 A_D1 D1 c_D1 _ ob379.bs ob379.le.2 ob380.bs ob380.le.2 (by decide) (by omega) (by omega) hD1 (Od.awN S1_35.1 le37) (Od.awN D1_35.1 le37) T37)) rfl ?_
        rintro _ w38 ⟨A_x, c_x, L_x, rfl, Q38, hK_x, T38, k38⟩
        have kk38 := kk37.trans k38 (fun i hi => .inr (hi ▸ (Nat.le_trans kk35.size le37)))
        have z389 : w37.heap.size ≤ w38.heap.size := k38.size
        have hl_x := (key_len hK_x).trans (ptK_length ..)
        refine R_pu (pu_move rfl) rfl ?_
        refine R_pu (pu_extract rfl rfl) rfl ?_
        refine R_pu (pu_extract rfl rfl) rfl ?_
        refine R_pu (pu_assign rfl) rfl ?_
        refine R_pu (pu_assign rfl) rfl ?_
        refine R_nil ?_
        refine X_then hK377 ?_
        refine C_seq (fun K390 hK390 => ?_)
        refine C_region ?_
        refine R_pu (pu_move rfl) rfl ?_
        refine R_pu (pu_move rfl) rfl ?_
        have f391 : Bk w38 pb ([.int .i64 ((q1 + 1 : Nat) : Int), .int .i64 ((n1 : Nat) : Int), .int .u32 5]) 28 := (f378.on k38 (Ne.symm ne_b12_0_pb))
        refine R_pu (pu_loadRow (len := 3) f391 (by kernel_rfl) (by kernel_rfl) rfl rfl) rfl ?_
        refine R_pu (pu_move rfl) rfl ?_
        have ob392 := (ob388.onN k38 o_35.1 le37)
        have f393 : Bk w38 f (u8s fv) 5 := (f383.on k38 (Ne.symm ne_b12_0_f))
        have f394 : Bk w38 p0_0 ([.slice A (l.length) (c), .int .i64 (ka), .int .i64 (na), .slice A2 (d2.length) (c2)]) 46 := (f381.on k38 (Ne.symm ne_b12_0_p0_0))
        have f395 : Bk w38 p0_1 ([.slice A3 (l3.length) (c3), .int .i64 (kb), .int .i64 (nb), .slice A4 (d4.length) (c4)]) 46 := (f382.on k38 (Ne.symm ne_b12_0_p0_1))
        have o396 : Gt w38 := (o384.on k38 (Ne.symm ne_b12_0_0))
        have ob398 := (ob379.onN k38 S1_35.1 le37)
        have lm397 := ob398.top
        have ob400 := (ob380.onN k38 D1_35.1 le37)
        have lm399 := ob400.top
        have lm401 := ob392.top
        have lm402 := Q38.top
        refine R_lo (lo_callE (by kernel_rfl) rfl (by rw [hfv.1] <;> rfl) (shamir_split b12_0 (some ⟨g, 0, none⟩) ov c_7 q1 n1 5 (some ⟨f, 0, none⟩) fv ((D1).length) _ ob392.bs ob392.le.2 (Bs.ofBk f393 hfv) (Nat.le_of_eq hfv.1) (by decide) (by omega) (by omega) (by rw [hfv.1, ho]; exact hD1) (Ob.awN o_35.1 le37) (Aw.ofBk (Ne.symm ne_b12_0_f)) T38)) rfl ?_
        rintro _ w39 ⟨A_y, c_y, L_y, rfl, Q39, hK_y, T39, k39⟩
        have kk39 := kk38.trans k39 (fun i hi => .inr (hi ▸ (Nat.le_trans kk35.size le37)))
        have z403 : w38.heap.size ≤ w39.heap.size := k39.size
        have hl_y := (key_len hK_y).trans (ptK_length ..)
        refine R_pu (pu_move rfl) rfl ?_
        refine R_pu (pu_extract rfl rfl) rfl ?_
        refine R_pu (pu_extract rfl rfl) rfl ?_
        refine R_pu (pu_assign rfl) rfl ?_
        refine R_pu (pu_assign rfl) rfl ?_
        refine R_nil ?_
        refine X_then hK390 ?_
        refine C_seq (fun K404 hK404 => ?_)
        have f405 : Bk w39 p0_0 ([.slice A (l.length) (c), .int .i64 (ka), .int .i64 (na), .slice A2 (d2.length) (c2)]) 46 := (f394.on k39 (Ne.symm ne_b12_0_p0_0))
        have f406 : Bk w39 p0_1 ([.slice A3 (l3.length) (c3), .int .i64 (kb), .int .i64 (nb), .slice A4 (d4.length) (c4)]) 46 := (f395.on k39 (Ne.symm ne_b12_0_p0_1))
        have f407 : Bk w39 pb ([.int .i64 ((q1 + 1 : Nat) : Int), .int .i64 ((n1 : Nat) : Int), .int .u32 5]) 28 := (f391.on k39 (Ne.symm ne_b12_0_pb))
        have f408 : Bk w39 f (u8s fv) 5 := (f393.on k39 (Ne.symm ne_b12_0_f))
        have o409 : Gt w39 := (o396.on k39 (Ne.symm ne_b12_0_0))
        have ob410 := (ob398.onN k39 S1_35.1 le37)
        have ob411 := (ob400.onN k39 D1_35.1 le37)
        have ob412 := (ob392.onN k39 o_35.1 le37)
        refine D_begin (fun W => Kp No w W ∧ Bk W p0_0 ([.slice A (l.length) (c), .int .i64 (ka), .int .i64 (na), .slice A2 (d2.length) (c2)]) 46 ∧ Bk W p0_1 ([.slice A3 (l3.length) (c3), .int .i64 (kb), .int .i64 (nb), .slice A4 (d4.length) (c4)]) 46 ∧ Bk W pb ([.int .i64 ((q1 + 1 : Nat) : Int), .int .i64 ((n1 : Nat) : Int), .int .u32 5]) 28 ∧ Bk W f (u8s fv) 5 ∧ Gt W ∧ Tb W b12_0 ∧ Od W 0 (.slice A_S1 ((S1).length) (c_S1)) (S1) ∧ Od W 0 (.slice A_D1 ((D1).length) (c_D1)) (D1) ∧ Ob W w5.heap.size (.slice (some ⟨g, 0, none⟩) ((ov).length) (c_7)) (ov)) 14 rfl (by kernel_rfl) ⟨kk39.drew, f405.draw, f406.draw, f407.draw, f408.draw, o409.draw, T39.draw, ob410.draw, ob411.draw, ob412.draw⟩ ?_
        intro w40 k40 _
        have kk40 := kk39.then_ k40
        refine D_take 0 rfl (by kernel_rfl) (by kernel_rfl) (by kernel_rfl) (fun _ _ _ h => h) rfl (fun W hS => pu_move rfl) ?_
        refine D_take 1 rfl (by kernel_rfl) (by kernel_rfl) (by kernel_rfl) (fun _ _ _ h => h) rfl (fun W hS => pu_move rfl) ?_
        refine D_take 2 rfl (by kernel_rfl) (by kernel_rfl) (by kernel_rfl) (fun _ _ _ h => h) rfl (fun W hS => pu_move rfl) ?_
        refine D_take 4 rfl (by kernel_rfl) (by kernel_rfl) (by kernel_rfl) (fun _ _ _ h => h) rfl (fun W hS => pu_loadRow (len := 3) hS.2.2.2.1 (by kernel_rfl) (by kernel_rfl) rfl rfl) ?_
        refine D_take 5 rfl (by kernel_rfl) (by kernel_rfl) (by kernel_rfl) (fun _ _ _ h => h) rfl (fun W hS => pu_move rfl) ?_
        refine D_take 6 rfl (by kernel_rfl) (by kernel_rfl) (by kernel_rfl) (fun _ _ _ h => h) rfl (fun W hS => pu_move rfl) ?_
        have ob413 := (ob410.keptNo k40)
        have ob414 := (ob412.keptNo k40)
        have f415 : Bk w40 p0_0 ([.slice A (l.length) (c), .int .i64 (ka), .int .i64 (na), .slice A2 (d2.length) (c2)]) 46 := (f405.no k40)
        have f416 : Bk w40 p0_1 ([.slice A3 (l3.length) (c3), .int .i64 (kb), .int .i64 (nb), .slice A4 (d4.length) (c4)]) 46 := (f406.no k40)
        have f417 : Bk w40 pb ([.int .i64 ((q1 + 1 : Nat) : Int), .int .i64 ((n1 : Nat) : Int), .int .u32 5]) 28 := (f407.no k40)
        have f418 : Bk w40 f (u8s fv) 5 := (f408.no k40)
        have o419 : Gt w40 := (o409.no k40)
        have o420 : Tb w40 b12_0 := (T39.no k40)
        have lm421 := ob413.top
        have ob423 := (ob411.keptNo k40)
        have lm422 := ob423.top
        have lm424 := ob414.top
        have ob426 := ((Q38.on k39 (by have := T37.lt; omega)).keptNo k40)
        have lm425 := ob426.top
        have ob428 := (Q39.keptNo k40)
        have lm427 := ob428.top
        refine D_one 3 (by kernel_rfl) (Nx_lo rfl (lo_call (by kernel_rfl) rfl (sum_ A_S1 S1 c_S1 (some ⟨g, 0, none⟩) ov c_7 _ ob413.bs ob413.le.2 ob414.bs ob414.le.2 ⟨by omega, by omega⟩)) rfl ?_)
        rintro _ w41 ⟨A_sa, c_sa, rfl, Q41, k41⟩
        have kk41 := kk40.then_ k41
        have z429 : w40.heap.size ≤ w41.heap.size := k41.size
        have f430 : Bk w41 p0_0 ([.slice A (l.length) (c), .int .i64 (ka), .int .i64 (na), .slice A2 (d2.length) (c2)]) 46 := (f415.no k41)
        have f431 : Bk w41 p0_1 ([.slice A3 (l3.length) (c3), .int .i64 (kb), .int .i64 (nb), .slice A4 (d4.length) (c4)]) 46 := (f416.no k41)
        have f432 : Bk w41 pb ([.int .i64 ((q1 + 1 : Nat) : Int), .int .i64 ((n1 : Nat) : Int), .int .u32 5]) 28 := (f417.no k41)
        have f433 : Bk w41 f (u8s fv) 5 := (f418.no k41)
        have o434 : Gt w41 := (o419.no k41)
        have o435 : Tb w41 b12_0 := (o420.no k41)
        have ob436 := (ob413.keptNo k41)
        have ob437 := (ob423.keptNo k41)
        have ob438 := (ob414.keptNo k41)
        refine ⟨⟨kk41, f430, f431, f432, f433, o434, o435, ob436, ob437, ob438⟩, ?_⟩
        have lm439 := ob436.top
        have lm440 := ob437.top
        have lm441 := ob438.top
        have ob443 := (ob426.keptNo k41)
        have lm442 := ob443.top
        have ob445 := (ob428.keptNo k41)
        have lm444 := ob445.top
        have lm446 := Q41.top
        refine D_one 7 (by kernel_rfl) (Nx_lo rfl (lo_callE (by kernel_rfl) rfl (by rw [hfv.1] <;> rfl) (sum_ A_D1 D1 c_D1 (some ⟨f, 0, none⟩) fv ((D1).length) _ ob437.bs ob437.le.2 (Bs.ofBk f433 hfv) (Nat.le_of_eq hfv.1) ⟨hfv.1, by omega⟩)) rfl ?_)
        rintro _ w42 ⟨A_sb, c_sb, rfl, Q42, k42⟩
        have kk42 := kk41.then_ k42
        have z447 : w41.heap.size ≤ w42.heap.size := k42.size
        have f448 : Bk w42 p0_0 ([.slice A (l.length) (c), .int .i64 (ka), .int .i64 (na), .slice A2 (d2.length) (c2)]) 46 := (f430.no k42)
        have f449 : Bk w42 p0_1 ([.slice A3 (l3.length) (c3), .int .i64 (kb), .int .i64 (nb), .slice A4 (d4.length) (c4)]) 46 := (f431.no k42)
        have f450 : Bk w42 pb ([.int .i64 ((q1 + 1 : Nat) : Int), .int .i64 ((n1 : Nat) : Int), .int .u32 5]) 28 := (f432.no k42)
        have f451 : Bk w42 f (u8s fv) 5 := (f433.no k42)
        have o452 : Gt w42 := (o434.no k42)
        have o453 : Tb w42 b12_0 := (o435.no k42)
        have ob454 := (ob436.keptNo k42)
        have ob455 := (ob437.keptNo k42)
        have ob456 := (ob438.keptNo k42)
        refine ⟨⟨kk42, f448, f449, f450, f451, o452, o453, ob454, ob455, ob456⟩, ?_⟩
        have ob457 := (Q41.keptNo k42)
        have lm458 := ob454.top
        have lm459 := ob455.top
        have lm460 := ob456.top
        have ob462 := (ob443.keptNo k42)
        have lm461 := ob462.top
        have ob464 := (ob445.keptNo k42)
        have lm463 := ob464.top
        have lm465 := ob457.top
        have lm466 := Q42.top
        refine D_one 8 (by kernel_rfl) (Nx_lo rfl (lo_call (by kernel_rfl) rfl (shamir_split b12_0 A_sa (sumL S1 ov) c_sa q1 n1 5 A_sb (sumL D1 fv) c_sb _ ob457.bs ob457.le.2 Q42.bs Q42.le.2 (by decide) (by omega) (by rw [sumL_length]; omega) (by rw [sumL_length, sumL_length]; exact hD1) (Aw.ofOb ob457 (by have := o420.lt; omega)) (Aw.ofOb Q42 (by have := o435.lt; omega)) o453)) rfl ?_)
        rintro _ w43 ⟨A_z, c_z, L_z, rfl, Q43, hK_z, T43, k43⟩
        have kk43 := kk42.trans k43 (fun i hi => .inr (hi ▸ (Nat.le_trans kk35.size le37)))
        have z467 : w42.heap.size ≤ w43.heap.size := k43.size
        have hl_z := (key_len hK_z).trans (ptK_length ..)
        have f468 : Bk w43 p0_0 ([.slice A (l.length) (c), .int .i64 (ka), .int .i64 (na), .slice A2 (d2.length) (c2)]) 46 := (f448.on k43 (Ne.symm ne_b12_0_p0_0))
        have f469 : Bk w43 p0_1 ([.slice A3 (l3.length) (c3), .int .i64 (kb), .int .i64 (nb), .slice A4 (d4.length) (c4)]) 46 := (f449.on k43 (Ne.symm ne_b12_0_p0_1))
        have f470 : Bk w43 pb ([.int .i64 ((q1 + 1 : Nat) : Int), .int .i64 ((n1 : Nat) : Int), .int .u32 5]) 28 := (f450.on k43 (Ne.symm ne_b12_0_pb))
        have f471 : Bk w43 f (u8s fv) 5 := (f451.on k43 (Ne.symm ne_b12_0_f))
        have o472 : Gt w43 := (o452.on k43 (Ne.symm ne_b12_0_0))
        have ob473 := (ob454.onN k43 S1_35.1 le37)
        have ob474 := (ob455.onN k43 D1_35.1 le37)
        have ob475 := (ob456.onN k43 o_35.1 le37)
        refine ⟨⟨kk43, f468, f469, f470, f471, o472, T43, ob473, ob474, ob475⟩, ?_⟩
        refine D_take 9 rfl (by kernel_rfl) (by kernel_rfl) (by kernel_rfl) (fun _ _ _ h => h) rfl (fun W hS => pu_move rfl) ?_
        refine D_take 10 rfl (by kernel_rfl) (by kernel_rfl) (by kernel_rfl) (fun _ _ _ h => h) rfl (fun W hS => pu_extract rfl rfl) ?_
        refine D_take 11 rfl (by kernel_rfl) (by kernel_rfl) (by kernel_rfl) (fun _ _ _ h => h) rfl (fun W hS => pu_extract rfl rfl) ?_
        refine D_take 12 rfl (by kernel_rfl) (by kernel_rfl) (by kernel_rfl) (fun _ _ _ h => h) rfl (fun W hS => pu_assign rfl) ?_
        refine D_take 13 rfl (by kernel_rfl) (by kernel_rfl) (by kernel_rfl) (fun _ _ _ h => h) rfl (fun W hS => pu_assign rfl) ?_
        refine D_done (by kernel_rfl) ?_
        refine X_then hK404 ?_
        refine C_seq (fun K476 hK476 => ?_)
        refine C_seq (fun K477 hK477 => ?_)
        refine C_region ?_
        refine R_pu (pu_move rfl) rfl ?_
        refine R_pu (pu_neqnn (by kernel_rfl) rfl) rfl ?_
        refine R_pu (pu_move rfl) rfl ?_
        refine R_gpu rfl rfl (pu_move rfl) rfl ?_
        refine R_gpu rfl rfl (pu_neqnn (by kernel_rfl) rfl) rfl ?_
        refine R_pu (pu_pickf rfl rfl) rfl ?_
        refine R_pu (pu_move rfl) rfl ?_
        refine R_gpu rfl rfl (pu_move rfl) rfl ?_
        refine R_gpu rfl rfl (pu_neqnn (by kernel_rfl) rfl) rfl ?_
        refine R_pu (pu_pickf rfl rfl) rfl ?_
        refine R_pu (pu_move rfl) rfl ?_
        refine R_gpu rfl rfl (pu_move rfl) rfl ?_
        refine R_gpu rfl rfl (pu_len Tryd.underlying29 rfl) rfl ?_
        refine R_gpu rfl rfl (pu_fieldAddr (off := 1) (o' := 1) (by kernel_rfl) rfl rfl) rfl ?_
        refine R_gpu rfl rfl (pu_loadK f470 (by kernel_rfl) rfl rfl) rfl ?_
        refine R_gpu rfl rfl (pu_false (pu_neq (p := ((L_x).length) = n1) rfl rfl (by omega)) (fun h => h hl_x)) rfl ?_
        refine R_pu (pu_pickf rfl rfl) rfl ?_
        refine R_pu (pu_move rfl) rfl ?_
        refine R_gpu rfl rfl (pu_move rfl) rfl ?_
        refine R_gpu rfl rfl (pu_len Tryd.underlying29 rfl) rfl ?_
        refine R_gpu rfl rfl (pu_fieldAddr (off := 1) (o' := 1) (by kernel_rfl) rfl rfl) rfl ?_
        refine R_gpu rfl rfl (pu_loadK f470 (by kernel_rfl) rfl rfl) rfl ?_
        refine R_gpu rfl rfl (pu_false (pu_neq (p := ((L_y).length) = n1) rfl rfl (by omega)) (fun h => h hl_y)) rfl ?_
        refine R_pu (pu_pickf rfl rfl) rfl ?_
        refine R_pu (pu_move rfl) rfl ?_
        refine R_gpu rfl rfl (pu_move rfl) rfl ?_
        refine R_gpu rfl rfl (pu_len Tryd.underlying29 rfl) rfl ?_
        refine R_gpu rfl rfl (pu_fieldAddr (off := 1) (o' := 1) (by kernel_rfl) rfl rfl) rfl ?_
        refine R_gpu rfl rfl (pu_loadK f470 (by kernel_rfl) rfl rfl) rfl ?_
        refine R_gpu rfl rfl (pu_false (pu_neq (p := ((L_z).length) = n1) rfl rfl (by omega)) (fun h => h hl_z)) rfl ?_
        refine R_pu (pu_pickf rfl rfl) rfl ?_
        refine R_nil ?_
        refine X_then hK477 ?_
        refine C_false rfl ?_
        refine C_skip ?_
        refine X_then hK476 ?_
        refine C_seq (fun K478 hK478 => ?_)
        refine C_seq (fun K479 hK479 => ?_)
        refine C_region ?_
        refine R_pu (pu_assign rfl) rfl ?_
        refine R_nil ?_
        refine X_then hK479 ?_
        refine C_block ?_
        have bS1 := ob473.bs.byte; have bD1 := ob474.bs.byte; have bo := ob475.byte
        have ob480 := (ob462.on k43 (by have := T37.lt; omega))
        have ob481 := (ob464.on k43 (by have := T38.lt; omega))
        have ob482 := (ob457.on k43 (by have := o420.lt; omega))
        have ob483 := (Q42.on k43 (by have := o435.lt; omega))
        refine C_loop (fun m_ l_ wr => ∃ j : Nat, (m_ = n1 - j) ∧ (l_ = [(5, .slice A_S1 ((S1).length) (c_S1)), (6, .pointer (some ⟨pb, 0, none⟩)), (13, .slice A_x ((L_x).length) (c_x)), (15, .slice A_y ((L_y).length) (c_y)), (17, .slice A_z ((L_z).length) (c_z)), (19, .int .i64 ((j : Nat) : Int))]) ∧ (j ≤ n1) ∧ (Kp No w wr) ∧ (Bk wr p0_0 ([.slice A (l.length) (c), .int .i64 (ka), .int .i64 (na), .slice A2 (d2.length) (c2)]) 46) ∧ (Bk wr p0_1 ([.slice A3 (l3.length) (c3), .int .i64 (kb), .int .i64 (nb), .slice A4 (d4.length) (c4)]) 46) ∧ (Bk wr pb ([.int .i64 ((q1 + 1 : Nat) : Int), .int .i64 ((n1 : Nat) : Int), .int .u32 5]) 28) ∧ (Bk wr f (u8s fv) 5) ∧ (Od wr 0 (.slice A_S1 ((S1).length) (c_S1)) (S1) ∧ 0 ≤ (wr).heap.size) ∧ (Od wr 0 (.slice A_D1 ((D1).length) (c_D1)) (D1) ∧ 0 ≤ (wr).heap.size) ∧ (Ob wr w5.heap.size (.slice (some ⟨g, 0, none⟩) ((ov).length) (c_7)) (ov) ∧ w5.heap.size ≤ (wr).heap.size) ∧ (Sw 50 w37.heap.size wr w37.heap.size (.slice A_x ((L_x).length) (c_x)) (L_x) ∧ w37.heap.size ≤ (wr).heap.size) ∧ (Sw 50 w38.heap.size wr w38.heap.size (.slice A_y ((L_y).length) (c_y)) (L_y) ∧ w38.heap.size ≤ (wr).heap.size) ∧ (Sw 50 w42.heap.size wr w42.heap.size (.slice A_z ((L_z).length) (c_z)) (L_z) ∧ w42.heap.size ≤ (wr).heap.size) ∧ (Ob wr w40.heap.size (.slice A_sa ((sumL S1 ov).length) (c_sa)) (sumL S1 ov) ∧ w40.heap.size ≤ (wr).heap.size) ∧ (Ob wr w41.heap.size (.slice A_sb ((sumL D1 fv).length) (c_sb)) (sumL D1 fv) ∧ w41.heap.size ≤ (wr).heap.size) ∧ (Gt wr) ∧ (Tb wr b12_0)) (n1 - 0) [(5, .slice A_S1 ((S1).length) (c_S1)), (6, .pointer (some ⟨pb, 0, none⟩)), (13, .slice A_x ((L_x).length) (c_x)), (15, .slice A_y ((L_y).length) (c_y)), (17, .slice A_z ((L_z).length) (c_z)), (19, .int .i64 0)] (Sub.cons rfl (Sub.cons rfl (Sub.cons rfl (Sub.cons rfl (Sub.cons rfl (Sub.cons rfl (Sub.nil _))))))) ⟨0, rfl, rfl, by omega, kk43, f468, f469, f470, f471, ⟨ob473, (Nat.zero_le _)⟩, ⟨ob474, (Nat.zero_le _)⟩, ⟨ob475, (Nat.le_trans (Nat.le_trans (Nat.le_trans (Nat.le_trans (Nat.le_trans (Nat.le_trans (Nat.le_trans o_35.2 k37.size) k38.size) k39.size) k40.size) k41.size) k42.size) k43.size)⟩, ⟨ob480, (Nat.le_trans (Nat.le_trans (Nat.le_trans (Nat.le_trans (Nat.le_trans z389 k39.size) k40.size) k41.size) k42.size) k43.size)⟩, ⟨ob481, (Nat.le_trans (Nat.le_trans (Nat.le_trans (Nat.le_trans z403 k40.size) k41.size) k42.size) k43.size)⟩, ⟨Q43, z467⟩, ⟨ob482, (Nat.le_trans (Nat.le_trans z429 k42.size) k43.size)⟩, ⟨ob483, (Nat.le_trans z447 k43.size)⟩, o472, T43⟩ ?_
        rintro _ _ w44 ⟨j, rfl, rfl, hj, kk44, f_p0_0_44, f_p0_1_44, f_pb_44, f_f_44, S1_44, D1_44, o_44, x_44, y_44, z_44, sa_44, sb_44, G_44, T_b12_0_44⟩
        refine C_seq (fun K484 hK484 => ?_)
        refine C_seq (fun K485 hK485 => ?_)
        refine C_region ?_
        refine R_pu (pu_move rfl) rfl ?_
        refine R_pu (pu_fieldAddr (off := 1) (o' := 1) (by kernel_rfl) rfl rfl) rfl ?_
        refine R_pu (pu_loadK f_pb_44 (by kernel_rfl) rfl rfl) rfl ?_
        refine R_pu (pu_lss (p := j < n1) rfl rfl (by omega)) rfl ?_
        refine R_nil ?_
        refine X_then hK485 ?_
        refine C_dec rfl (fun h137 => ?_) (fun h137 => ?_)
        · refine C_skip ?_
          refine X_then hK484 ?_
          refine C_seq (fun K486 hK486 => ?_)
          refine C_block ?_
          refine C_seq (fun K487 hK487 => ?_)
          refine D_begin (fun W => Kp No w W ∧ Bk W p0_0 ([.slice A (l.length) (c), .int .i64 (ka), .int .i64 (na), .slice A2 (d2.length) (c2)]) 46 ∧ Bk W p0_1 ([.slice A3 (l3.length) (c3), .int .i64 (kb), .int .i64 (nb), .slice A4 (d4.length) (c4)]) 46 ∧ Bk W pb ([.int .i64 ((q1 + 1 : Nat) : Int), .int .i64 ((n1 : Nat) : Int), .int .u32 5]) 28 ∧ Bk W f (u8s fv) 5 ∧ Gt W ∧ Tb W b12_0 ∧ Od W 0 (.slice A_S1 ((S1).length) (c_S1)) (S1) ∧ Sw 50 w37.heap.size W w37.heap.size (.slice A_x ((L_x).length) (c_x)) (L_x) ∧ Sw 50 w38.heap.size W w38.heap.size (.slice A_y ((L_y).length) (c_y)) (L_y) ∧ Sw 50 w42.heap.size W w42.heap.size (.slice A_z ((L_z).length) (c_z)) (L_z)) 41 rfl (by kernel_rfl) ⟨kk44.drew, f_p0_0_44.draw, f_p0_1_44.draw, f_pb_44.draw, f_f_44.draw, G_44.draw, T_b12_0_44.draw, S1_44.1.draw, x_44.1.draw, y_44.1.draw, z_44.1.draw⟩ ?_
          intro w45 k45 _
          have kk45 := kk44.then_ k45
          refine D_take 0 rfl (by kernel_rfl) (by kernel_rfl) (by kernel_rfl) (fun _ _ _ h => h) rfl (fun W hS => pu_move rfl) ?_
          refine D_take 1 rfl (by kernel_rfl) (by kernel_rfl) (by kernel_rfl) (fun _ _ _ h => h) rfl (fun W hS => pu_move rfl) ?_
          have ob488 := (x_44.1.keptNo k45)
          obtain ⟨x1, e_x1⟩ : ∃ q_, (L_x)[j]? = some q_ := ⟨_, List.getElem?_eq_getElem (by first | omega | (simp; done) | (simp; omega))⟩
          have ok_x1 := ob488.ss.get e_x1
          have od_x1 := ob488.od e_x1
          have bi_x1 : x1.ix < 256 := ok_x1.ix
          refine D_take 2 rfl (by kernel_rfl) (by kernel_rfl) (by kernel_rfl) (fun _ _ _ h => h) rfl (fun W hS => pu_indexAddrH hS.2.2.2.2.2.2.2.2.1.ss Tryd.underlying29 (by kernel_rfl) rfl rfl rfl rfl e_x1) ?_
          refine D_take 3 rfl (by kernel_rfl) (by kernel_rfl) (by kernel_rfl) (fun _ _ _ h => h) rfl (fun W hS => pu_fieldAddrH (off := 2) hS.2.2.2.2.2.2.2.2.1.ss e_x1 (by kernel_rfl) rfl) ?_
          refine D_take 4 rfl (by kernel_rfl) (by kernel_rfl) (by kernel_rfl) (fun _ _ _ h => h) rfl (fun W hS => pu_loadH hS.2.2.2.2.2.2.2.2.1.ss e_x1 (by kernel_rfl) rfl rfl) ?_
          refine D_take 5 rfl (by kernel_rfl) (by kernel_rfl) (by kernel_rfl) (fun _ _ _ h => h) rfl (fun W hS => pu_len Tryd.underlying22 rfl) ?_
          refine D_take 6 rfl (by kernel_rfl) (by kernel_rfl) (by kernel_rfl) (fun _ _ _ h => h) rfl (fun W hS => pu_move rfl) ?_
          refine D_take 7 rfl (by kernel_rfl) (by kernel_rfl) (by kernel_rfl) (fun _ _ _ h => h) rfl (fun W hS => pu_len Tryd.underlying22 rfl) ?_
          refine D_take 8 rfl (by kernel_rfl) (by kernel_rfl) (by kernel_rfl) (fun _ _ _ h => h) rfl (fun W hS => pu_false (pu_neq (p := ((x1.X).length) = ((S1).length)) rfl rfl (by omega)) (fun h => h (by rw [(key_at hK_x e_x1 (ptK_get (show j < n1 by omega))).2.2]; exact ptX_length _ _ _ _))) ?_
          refine D_take 9 rfl (by kernel_rfl) (by kernel_rfl) (by kernel_rfl) (fun _ _ _ h => h) rfl (fun W hS => pu_move rfl) ?_
          refine D_gtake 10 rfl rfl rfl (by kernel_rfl) (by kernel_rfl) (by kernel_rfl) (fun _ _ _ h => h) rfl (fun W hS => pu_move rfl) ?_
          refine D_gtake 11 rfl rfl rfl (by kernel_rfl) (by kernel_rfl) (by kernel_rfl) (fun _ _ _ h => h) rfl (fun W hS => pu_move rfl) ?_
          have ob489 := (y_44.1.keptNo k45)
          obtain ⟨y1, e_y1⟩ : ∃ q_, (L_y)[j]? = some q_ := ⟨_, List.getElem?_eq_getElem (by first | omega | (simp; done) | (simp; omega))⟩
          have ok_y1 := ob489.ss.get e_y1
          have od_y1 := ob489.od e_y1
          have bi_y1 : y1.ix < 256 := ok_y1.ix
          refine D_gtake 12 rfl rfl rfl (by kernel_rfl) (by kernel_rfl) (by kernel_rfl) (fun _ _ _ h => h) rfl (fun W hS => pu_indexAddrH hS.2.2.2.2.2.2.2.2.2.1.ss Tryd.underlying29 (by kernel_rfl) rfl rfl rfl rfl e_y1) ?_
          refine D_gtake 13 rfl rfl rfl (by kernel_rfl) (by kernel_rfl) (by kernel_rfl) (fun _ _ _ h => h) rfl (fun W hS => pu_fieldAddrH (off := 2) hS.2.2.2.2.2.2.2.2.2.1.ss e_y1 (by kernel_rfl) rfl) ?_
          refine D_gtake 14 rfl rfl rfl (by kernel_rfl) (by kernel_rfl) (by kernel_rfl) (fun _ _ _ h => h) rfl (fun W hS => pu_loadH hS.2.2.2.2.2.2.2.2.2.1.ss e_y1 (by kernel_rfl) rfl rfl) ?_
          refine D_gtake 15 rfl rfl rfl (by kernel_rfl) (by kernel_rfl) (by kernel_rfl) (fun _ _ _ h => h) rfl (fun W hS => pu_len Tryd.underlying22 rfl) ?_
          refine D_gtake 16 rfl rfl rfl (by kernel_rfl) (by kernel_rfl) (by kernel_rfl) (fun _ _ _ h => h) rfl (fun W hS => pu_move rfl) ?_
          refine D_gtake 17 rfl rfl rfl (by kernel_rfl) (by kernel_rfl) (by kernel_rfl) (fun _ _ _ h => h) rfl (fun W hS => pu_len Tryd.underlying22 rfl) ?_
          refine D_gtake 18 rfl rfl rfl (by kernel_rfl) (by kernel_rfl) (by kernel_rfl) (fun _ _ _ h => h) rfl (fun W hS => pu_false (pu_neq (p := ((y1.X).length) = ((S1).length)) rfl rfl (by omega)) (fun h => h (by rw [(key_at hK_y e_y1 (ptK_get (show j < n1 by omega))).2.2]; exact (ptX_length _ _ _ _).trans ho))) ?_
          refine D_take 19 rfl (by kernel_rfl) (by kernel_rfl) (by kernel_rfl) (fun _ _ _ h => h) rfl (fun W hS => pu_pickf rfl rfl) ?_
          refine D_take 20 rfl (by kernel_rfl) (by kernel_rfl) (by kernel_rfl) (fun _ _ _ h => h) rfl (fun W hS => pu_move rfl) ?_
          refine D_gtake 21 rfl rfl rfl (by kernel_rfl) (by kernel_rfl) (by kernel_rfl) (fun _ _ _ h => h) rfl (fun W hS => pu_move rfl) ?_
          refine D_gtake 22 rfl rfl rfl (by kernel_rfl) (by kernel_rfl) (by kernel_rfl) (fun _ _ _ h => h) rfl (fun W hS => pu_move rfl) ?_
          have ob490 := (z_44.1.keptNo k45)
          obtain ⟨z1, e_z1⟩ : ∃ q_, (L_z)[j]? = some q_ := ⟨_, List.getElem?_eq_getElem (by first | omega | (simp; done) | (simp; omega))⟩
          have ok_z1 := ob490.ss.get e_z1
          have od_z1 := ob490.od e_z1
          have bi_z1 : z1.ix < 256 := ok_z1.ix
          refine D_gtake 23 rfl rfl rfl (by kernel_rfl) (by kernel_rfl) (by kernel_rfl) (fun _ _ _ h => h) rfl (fun W hS => pu_indexAddrH hS.2.2.2.2.2.2.2.2.2.2.ss Tryd.underlying29 (by kernel_rfl) rfl rfl rfl rfl e_z1) ?_
          refine D_gtake 24 rfl rfl rfl (by kernel_rfl) (by kernel_rfl) (by kernel_rfl) (fun _ _ _ h => h) rfl (fun W hS => pu_fieldAddrH (off := 2) hS.2.2.2.2.2.2.2.2.2.2.ss e_z1 (by kernel_rfl) rfl) ?_
          refine D_gtake 25 rfl rfl rfl (by kernel_rfl) (by kernel_rfl) (by kernel_rfl) (fun _ _ _ h => h) rfl (fun W hS => pu_loadH hS.2.2.2.2.2.2.2.2.2.2.ss e_z1 (by kernel_rfl) rfl rfl) ?_
          refine D_gtake 26 rfl rfl rfl (by kernel_rfl) (by kernel_rfl) (by kernel_rfl) (fun _ _ _ h => h) rfl (fun W hS => pu_bstr (hS.2.2.2.2.2.2.2.2.2.2.ss.get e_z1).bs Tryd.underlying22 Tryd.underlying5 Tryd.underlying9 rfl rfl) ?_
          refine D_gtake 27 rfl rfl rfl (by kernel_rfl) (by kernel_rfl) (by kernel_rfl) (fun _ _ _ h => h) rfl (fun W hS => pu_move rfl) ?_
          refine D_gtake 28 rfl rfl rfl (by kernel_rfl) (by kernel_rfl) (by kernel_rfl) (fun _ _ _ h => h) rfl (fun W hS => pu_move rfl) ?_
          refine D_gtake 29 rfl rfl rfl (by kernel_rfl) (by kernel_rfl) (by kernel_rfl) (fun _ _ _ h => h) rfl (fun W hS => pu_indexAddrH hS.2.2.2.2.2.2.2.2.1.ss Tryd.underlying29 (by kernel_rfl) rfl rfl rfl rfl e_x1) ?_
          refine D_gtake 30 rfl rfl rfl (by kernel_rfl) (by kernel_rfl) (by kernel_rfl) (fun _ _ _ h => h) rfl (fun W hS => pu_fieldAddrH (off := 2) hS.2.2.2.2.2.2.2.2.1.ss e_x1 (by kernel_rfl) rfl) ?_
          refine D_gtake 31 rfl rfl rfl (by kernel_rfl) (by kernel_rfl) (by kernel_rfl) (fun _ _ _ h => h) rfl (fun W hS => pu_loadH hS.2.2.2.2.2.2.2.2.1.ss e_x1 (by kernel_rfl) rfl rfl) ?_
          refine D_gtake 32 rfl rfl rfl (by kernel_rfl) (by kernel_rfl) (by kernel_rfl) (fun _ _ _ h => h) rfl (fun W hS => pu_move rfl) ?_
          refine D_gtake 33 rfl rfl rfl (by kernel_rfl) (by kernel_rfl) (by kernel_rfl) (fun _ _ _ h => h) rfl (fun W hS => pu_move rfl) ?_
          refine D_gtake 34 rfl rfl rfl (by kernel_rfl) (by kernel_rfl) (by kernel_rfl) (fun _ _ _ h => h) rfl (fun W hS => pu_indexAddrH hS.2.2.2.2.2.2.2.2.2.1.ss Tryd.underlying29 (by kernel_rfl) rfl rfl rfl rfl e_y1) ?_
          refine D_gtake 35 rfl rfl rfl (by kernel_rfl) (by kernel_rfl) (by kernel_rfl) (fun _ _ _ h => h) rfl (fun W hS => pu_fieldAddrH (off := 2) hS.2.2.2.2.2.2.2.2.2.1.ss e_y1 (by kernel_rfl) rfl) ?_
          refine D_gtake 36 rfl rfl rfl (by kernel_rfl) (by kernel_rfl) (by kernel_rfl) (fun _ _ _ h => h) rfl (fun W hS => pu_loadH hS.2.2.2.2.2.2.2.2.2.1.ss e_y1 (by kernel_rfl) rfl rfl) ?_
          have f491 : Bk w45 p0_0 ([.slice A (l.length) (c), .int .i64 (ka), .int .i64 (na), .slice A2 (d2.length) (c2)]) 46 := (f_p0_0_44.no k45)
          have f492 : Bk w45 p0_1 ([.slice A3 (l3.length) (c3), .int .i64 (kb), .int .i64 (nb), .slice A4 (d4.length) (c4)]) 46 := (f_p0_1_44.no k45)
          have f493 : Bk w45 pb ([.int .i64 ((q1 + 1 : Nat) : Int), .int .i64 ((n1 : Nat) : Int), .int .u32 5]) 28 := (f_pb_44.no k45)
          have f494 : Bk w45 f (u8s fv) 5 := (f_f_44.no k45)
          have o495 : Gt w45 := (G_44.no k45)
          have o496 : Tb w45 b12_0 := (T_b12_0_44.no k45)
          have ob498 := (S1_44.1.keptNo k45)
          have lm497 := ob498.top
          have ob500 := (D1_44.1.keptNo k45)
          have lm499 := ob500.top
          have ob502 := (o_44.1.keptNo k45)
          have lm501 := ob502.top
          have lm503 := ob488.top
          have lm504 := ob489.top
          have lm505 := ob490.top
          have ob507 := (sa_44.1.keptNo k45)
          have lm506 := ob507.top
          have ob509 := (sb_44.1.keptNo k45)
          have lm508 := ob509.top
          have lm510 := od_x1.top
          have lm511 := od_y1.top
          have lm512 := od_z1.top
          refine D_one 37 (by kernel_rfl) (Nx_glo rfl rfl rfl (lo_call (by kernel_rfl) rfl (sum_ x1.A x1.X x1.c y1.A y1.X y1.c _ od_x1.bs od_x1.le.2 od_y1.bs od_y1.le.2 ⟨by rw [(key_at hK_y e_y1 (ptK_get (show j < n1 by omega))).2.2, (key_at hK_x e_x1 (ptK_get (show j < n1 by omega))).2.2, ptX_length, ptX_length]; exact ho, by rw [(key_at hK_x e_x1 (ptK_get (show j < n1 by omega))).2.2, ptX_length]; omega⟩)) rfl ?_)
          rintro _ w46 ⟨A_sc, c_sc, rfl, Q46, k46⟩
          have kk46 := kk45.then_ k46
          have z513 : w45.heap.size ≤ w46.heap.size := k46.size
          have f514 : Bk w46 p0_0 ([.slice A (l.length) (c), .int .i64 (ka), .int .i64 (na), .slice A2 (d2.length) (c2)]) 46 := (f491.no k46)
          have f515 : Bk w46 p0_1 ([.slice A3 (l3.length) (c3), .int .i64 (kb), .int .i64 (nb), .slice A4 (d4.length) (c4)]) 46 := (f492.no k46)
          have f516 : Bk w46 pb ([.int .i64 ((q1 + 1 : Nat) : Int), .int .i64 ((n1 : Nat) : Int), .int .u32 5]) 28 := (f493.no k46)
          have f517 : Bk w46 f (u8s fv) 5 := (f494.no k46)
          have o518 : Gt w46 := (o495.no k46)
          have o519 : Tb w46 b12_0 := (o496.no k46)
          have ob520 := (ob498.keptNo k46)
          have ob521 := (ob488.keptNo k46)
          have ob522 := (ob489.keptNo k46)
          have ob523 := (ob490.keptNo k46)
          refine ⟨⟨kk46, f514, f515, f516, f517, o518, o519, ob520, ob521, ob522, ob523⟩, ?_⟩
          refine D_one 38 (by kernel_rfl) (Nx_gpu rfl rfl rfl (pu_bstr Q46.bs Tryd.underlying22 Tryd.underlying5 Tryd.underlying9 rfl rfl) rfl ⟨⟨kk46, f514, f515, f516, f517, o518, o519, ob520, ob521, ob522, ob523⟩, ?_⟩)
          refine D_gtake 39 rfl rfl rfl (by kernel_rfl) (by kernel_rfl) (by kernel_rfl) (fun _ _ _ h => h) rfl (fun W hS => pu_false (pu_neqs (p := z1.X = (sumL x1.X y1.X)) rfl rfl (bstr_inj ((hS.2.2.2.2.2.2.2.2.2.2.ss.get e_z1).bs).byte (Q46.bs).byte)) (fun h => h (by rw [(key_at hK_z e_z1 (ptK_get (show j < n1 by omega))).2.2, (key_at hK_x e_x1 (ptK_get (show j < n1 by omega))).2.2, (key_at hK_y e_y1 (ptK_get (show j < n1 by omega))).2.2]; exact ptX_sum bS1 bo bD1 hfv.2 ho hD1 hfv.1))) ?_
          refine D_take 40 rfl (by kernel_rfl) (by kernel_rfl) (by kernel_rfl) (fun _ _ _ h => h) rfl (fun W hS => pu_pickf rfl rfl) ?_
          refine D_done (by kernel_rfl) ?_
          refine X_then hK487 ?_
          refine C_false rfl ?_
          refine C_skip ?_
          refine X_in_normal ?_
          refine X_then hK486 ?_
          refine C_region ?_
          refine R_pu (pu_move rfl) rfl ?_
          refine R_pu (pu_add (z := ((j + 1 : Nat) : Int)) rfl rfl (by rw [IntKind.wrap_i64]; omega)) rfl ?_
          refine R_pu (pu_assign rfl) rfl ?_
          refine R_nil ?_
          have ob524 := (ob500.keptNo k46)
          have ob525 := (ob502.keptNo k46)
          have ob526 := (ob507.keptNo k46)
          have ob527 := (ob509.keptNo k46)
          refine X_round (n1 - (j + 1)) [(5, .slice A_S1 ((S1).length) (c_S1)), (6, .pointer (some ⟨pb, 0, none⟩)), (13, .slice A_x ((L_x).length) (c_x)), (15, .slice A_y ((L_y).length) (c_y)), (17, .slice A_z ((L_z).length) (c_z)), (19, .int .i64 (((j + 1) : Nat) : Int))] (by omega) (Sub.cons rfl (Sub.cons rfl (Sub.cons rfl (Sub.cons rfl (Sub.cons rfl (Sub.cons rfl (Sub.nil _))))))) ⟨j + 1, rfl, rfl, by omega, kk46, f514, f515, f516, f517, ⟨ob520, (Nat.zero_le _)⟩, ⟨ob524, (Nat.zero_le _)⟩, ⟨ob525, (Nat.le_trans (Nat.le_trans o_44.2 k45.size) k46.size)⟩, ⟨ob521, (Nat.le_trans (Nat.le_trans x_44.2 k45.size) k46.size)⟩, ⟨ob522, (Nat.le_trans (Nat.le_trans y_44.2 k45.size) k46.size)⟩, ⟨ob523, (Nat.le_trans (Nat.le_trans z_44.2 k45.size) k46.size)⟩, ⟨ob526, (Nat.le_trans (Nat.le_trans sa_44.2 k45.size) k46.size)⟩, ⟨ob527, (Nat.le_trans (Nat.le_trans sb_44.2 k45.size) k46.size)⟩, o518, o519⟩
        · refine C_exit ?_
          refine X_then_exit (X_then_exit (X_in_eq ?_))
          refine X_then hK478 ?_
          refine C_seq (fun K528 hK528 => ?_)
          refine C_region ?_
          refine R_lo (lo_call (by kernel_rfl) rfl (sure03 _ G_44)) rfl ?_
          rintro _ w47 ⟨rfl, k47⟩
          have kk47 := kk44.then_ k47
          refine R_pu (pu_assign rfl) rfl ?_
          refine R_nil ?_
          refine X_then hK528 ?_
          refine C_ret ?_
          exact X_ret1 (.inl rfl) rfl rfl ⟨rfl, kk47⟩
    · refine R_pu (pu_false (pu_move rfl) g9_4) rfl ?_
      refine R_gno rfl rfl rfl rfl ?_
      refine R_gno rfl rfl rfl rfl ?_
      refine R_gno rfl rfl rfl rfl ?_
      refine R_gno rfl rfl rfl rfl ?_
      refine R_gno rfl rfl rfl rfl ?_
      refine R_pu (pu_pickf rfl rfl) rfl ?_
      refine R_nil ?_
      refine X_then hK367 ?_
      refine C_false rfl ?_
      refine C_exit ?_
      refine X_then_exit (X_then_exit (X_in_eq ?_))
      refine X_then hK364 ?_
      refine C_seq (fun K529 hK529 => ?_)
      refine C_region ?_
      refine R_lo (lo_call (by kernel_rfl) rfl (gf_new _)) rfl ?_
      rintro _ w48 ⟨b12_0, rfl, le48, T48, k48⟩
      have kk48 := kk35.then_ k48
      have ne_b12_0_p0_0 : b12_0 ≠ p0_0 := Nat.ne_of_gt (Nat.lt_of_lt_of_le f_p0_0_35.lt le48)
      have ne_b12_0_p0_1 : b12_0 ≠ p0_1 := Nat.ne_of_gt (Nat.lt_of_lt_of_le f_p0_1_35.lt le48)
      have ne_b12_0_pb : b12_0 ≠ pb := Nat.ne_of_gt (Nat.lt_of_lt_of_le f_pb_35.lt le48)
      have ne_b12_0_f : b12_0 ≠ f := Nat.ne_of_gt (Nat.lt_of_lt_of_le f_f_35.lt le48)
      have ne_b12_0_0 : b12_0 ≠ 0 := Nat.ne_of_gt (Nat.lt_of_lt_of_le G_35.lt le48)
      refine R_pu (pu_assign rfl) rfl ?_
      refine R_nil ?_
      refine X_then hK529 ?_
      refine C_seq (fun K530 hK530 => ?_)
      refine C_region ?_
      refine R_pu (pu_move rfl) rfl ?_
      refine R_pu (pu_move rfl) rfl ?_
      have f531 : Bk w48 pb ([.int .i64 ((q1 + 1 : Nat) : Int), .int .i64 ((n1 : Nat) : Int), .int .u32 5]) 28 := (f_pb_35.no k48)
      refine R_pu (pu_loadRow (len := 3) f531 (by kernel_rfl) (by kernel_rfl) rfl rfl) rfl ?_
      refine R_pu (pu_move rfl) rfl ?_
      have ob532 := (S1_35.1.keptNo k48)
      have ob533 := (D1_35.1.keptNo k48)
      have f534 : Bk w48 p0_0 ([.slice A (l.length) (c), .int .i64 (ka), .int .i64 (na), .slice A2 (d2.length) (c2)]) 46 := (f_p0_0_35.no k48)
      have f535 : Bk w48 p0_1 ([.slice A3 (l3.length) (c3), .int .i64 (kb), .int .i64 (nb), .slice A4 (d4.length) (c4)]) 46 := (f_p0_1_35.no k48)
      have f536 : Bk w48 f (u8s fv) 5 := (f_f_35.no k48)
      have o537 : Gt w48 := (G_35.no k48)
      have lm538 := ob532.top
      have lm539 := ob533.top
      have ob541 := (o_35.1.keptNo k48)
      have lm540 := ob541.top
      refine R_lo (lo_call (by kernel_rfl) rfl (shamir_split b12_0 A_S1 S1 c_S1 q1 n1 5 A_D1 D1 c_D1 _ ob532.bs ob532.le.2 ob533.bs ob533.le.2 (by decide) (by omega) (by omega) hD1 (Od.awN S1_35.1 le48) (Od.awN D1_35.1 le48) T48)) rfl ?_
      rintro _ w49 ⟨A_x, c_x, L_x, rfl, Q49, hK_x, T49, k49⟩
      have kk49 := kk48.trans k49 (fun i hi => .inr (hi ▸ (Nat.le_trans kk35.size le48)))
      have z542 : w48.heap.size ≤ w49.heap.size := k49.size
      have hl_x := (key_len hK_x).trans (ptK_length ..)
      refine R_pu (pu_move rfl) rfl ?_
      refine R_pu (pu_extract rfl rfl) rfl ?_
      refine R_pu (pu_extract rfl rfl) rfl ?_
      refine R_pu (pu_assign rfl) rfl ?_
      refine R_pu (pu_assign rfl) rfl ?_
      refine R_nil ?_
      refine X_then hK530 ?_
      refine C_seq (fun K543 hK543 => ?_)
      refine C_region ?_
      refine R_pu (pu_move rfl) rfl ?_
      refine R_pu (pu_move rfl) rfl ?_
      have f544 : Bk w49 pb ([.int .i64 ((q1 + 1 : Nat) : Int), .int .i64 ((n1 : Nat) : Int), .int .u32 5]) 28 := (f531.on k49 (Ne.symm ne_b12_0_pb))
      refine R_pu (pu_loadRow (len := 3) f544 (by kernel_rfl) (by kernel_rfl) rfl rfl) rfl ?_
      refine R_pu (pu_move rfl) rfl ?_
      have ob545 := (ob541.onN k49 o_35.1 le48)
      have f546 : Bk w49 f (u8s fv) 5 := (f536.on k49 (Ne.symm ne_b12_0_f))
      have f547 : Bk w49 p0_0 ([.slice A (l.length) (c), .int .i64 (ka), .int .i64 (na), .slice A2 (d2.length) (c2)]) 46 := (f534.on k49 (Ne.symm ne_b12_0_p0_0))
      have f548 : Bk w49 p0_1 ([.slice A3 (l3.length) (c3), .int .i64 (kb), .int .i64 (nb), .slice A4 (d4.length) (c4)]) 46 := (f535.on k49 (Ne.symm ne_b12_0_p0_1))
      have o549 : Gt w49 := (o537.on k49 (Ne.symm ne_b12_0_0))
      have ob551 := (ob532.onN k49 S1_35.1 le48)
      have lm550 := ob551.top
      have ob553 := (ob533.onN k49 D1_35.1 le48)
      have lm552 := ob553.top
      have lm554 := ob545.top
      have lm555 := Q49.top
      refine R_lo (lo_callE (by kernel_rfl) rfl (by rw [hfv.1] <;> rfl) (shamir_split b12_0 (some ⟨g, 0, none⟩) ov c_7 q1 n1 5 (some ⟨f, 0, none⟩) fv ((D1).length) _ ob545.bs ob545.le.2 (Bs.ofBk f546 hfv) (Nat.le_of_eq hfv.1) (by decide) (by omega) (by omega) (by rw [hfv.1, ho]; exact hD1) (Ob.awN o_35.1 le48) (Aw.ofBk (Ne.symm ne_b12_0_f)) T49)) rfl ?_
      rintro _ w50 ⟨A_y, c_y, L_y, rfl, Q50, hK_y, T50, k50⟩
      have kk50 := kk49.trans k50 (fun i hi => .inr (hi ▸ (Nat.le_trans kk35.size le48)))
      have z556 : w49.heap.size ≤ w50.heap.size := k50.size
      have hl_y := (key_len hK_y).trans (ptK_length ..)
      refine R_pu (pu_move rfl) rfl ?_
      refine R_pu (pu_extract rfl rfl) rfl ?_
      refine R_pu (pu_extract rfl rfl) rfl ?_
      refine R_pu (pu_assign rfl) rfl ?_
      refine R_pu (pu_assign rfl) rfl ?_
      refine R_nil ?_
      refine X_then hK543 ?_
      refine C_seq (fun K557 hK557 => ?_)
      have f558 : Bk w50 p0_0 ([.slice A (l.length) (c), .int .i64 (ka), .int .i64 (na), .slice A2 (d2.length) (c2)]) 46 := (f547.on k50 (Ne.symm ne_b12_0_p0_0))
      have f559 : Bk w50 p0_1 ([.slice A3 (l3.length) (c3), .int .i64 (kb), .int .i64 (nb), .slice A4 (d4.length) (c4)]) 46 := (f548.on k50 (Ne.symm ne_b12_0_p0_1))
      have f560 : Bk w50 pb ([.int .i64 ((q1 + 1 : Nat) : Int), .int .i64 ((n1 : Nat) : Int), .int .u32 5]) 28 := (f544.on k50 (Ne.symm ne_b12_0_pb))
      have f561 : Bk w50 f (u8s fv) 5 := (f546.on k50 (Ne.symm ne_b12_0_f))
      have o562 : Gt w50 := (o549.on k50 (Ne.symm ne_b12_0_0))
      have ob563 := (ob551.onN k50 S1_35.1 le48)
      have ob564 := (ob553.onN k50 D1_35.1 le48)
      have ob565 := (ob545.onN k50 o_35.1 le48)
      refine D_begin (fun W => Kp No w W ∧ Bk W p0_0 ([.slice A (l.length) (c), .int .i64 (ka), .int .i64 (na), .slice A2 (d2.length) (c2)]) 46 ∧ Bk W p0_1 ([.slice A3 (l3.length) (c3), .int .i64 (kb), .int .i64 (nb), .slice A4 (d4.length) (c4)]) 46 ∧ Bk W pb ([.int .i64 ((q1 + 1 : Nat) : Int), .int .i64 ((n1 : Nat) : Int), .int .u32 5]) 28 ∧ Bk W f (u8s fv) 5 ∧ Gt W ∧ Tb W b12_0 ∧ Od W 0 (.slice A_S1 ((S1).length) (c_S1)) (S1) ∧ Od W 0 (.slice A_D1 ((D1).length) (c_D1)) (D1) ∧ Ob W w5.heap.size (.slice (some ⟨g, 0, none⟩) ((ov).length) (c_7)) (ov)) 14 rfl (by kernel_rfl) ⟨kk50.drew, f558.draw, f559.draw, f560.draw, f561.draw, o562.draw, T50.draw, ob563.draw, ob564.draw, ob565.draw⟩ ?_
      intro w51 k51 _
      have kk51 := kk50.then_ k51
      refine D_take 0 rfl (by kernel_rfl) (by kernel_rfl) (by kernel_rfl) (fun _ _ _ h => h) rfl (fun W hS => pu_move rfl) ?_
      refine D_take 1 rfl (by kernel_rfl) (by kernel_rfl) (by kernel_rfl) (fun _ _ _ h => h) rfl (fun W hS => pu_move rfl) ?_
      refine D_take 2 rfl (by kernel_rfl) (by kernel_rfl) (by kernel_rfl) (fun _ _ _ h => h) rfl (fun W hS => pu_move rfl) ?_
      refine D_take 4 rfl (by kernel_rfl) (by kernel_rfl) (by kernel_rfl) (fun _ _ _ h => h) rfl (fun W hS => pu_loadRow (len := 3) hS.2.2.2.1 (by kernel_rfl) (by kernel_rfl) rfl rfl) ?_
      refine D_take 5 rfl (by kernel_rfl) (by kernel_rfl) (by kernel_rfl) (fun _ _ _ h => h) rfl (fun W hS => pu_move rfl) ?_
      refine D_take 6 rfl (by kernel_rfl) (by kernel_rfl) (by kernel_rfl) (fun _ _ _ h => h) rfl (fun W hS => pu_move rfl) ?_
      have ob566 := (ob563.keptNo k51)
      have ob567 := (ob565.keptNo k51)
      have f568 : Bk w51 p0_0 ([.slice A (l.length) (c), .int .i64 (ka), .int .i64 (na), .slice A2 (d2.length) (c2)]) 46 := (f558.no k51)
      have f569 : Bk w51 p0_1 ([.slice A3 (l3.length) (c3), .int .i64 (kb), .int .i64 (nb), .slice A4 (d4.length) (c4)]) 46 := (f559.no k51)
      have f570 : Bk w51 pb ([.int .i64 ((q1 + 1 : Nat) : Int), .int .i64 ((n1 : Nat) : Int), .int .u32 5]) 28 := (f560.no k51)
      have f571 : Bk w51 f (u8s fv) 5 := (f561.no k51)
      have o572 : Gt w51 := (o562.no k51)
      have o573 : Tb w51 b12_0 := (T50.no k51)
      have lm574 := ob566.top
      have ob576 := (ob564.keptNo k51)
      have lm575 := ob576.top
      have lm577 := ob567.top
      have ob579 := ((Q49.on k50 (by have := T48.lt; omega)).keptNo k51)
      have lm578 := ob579.top
      have ob581 := (Q50.keptNo k51)
      have lm580 := ob581.top
      refine D_one 3 (by kernel_rfl) (Nx_lo rfl (lo_call (by kernel_rfl) rfl (sum_ A_S1 S1 c_S1 (some ⟨g, 0, none⟩) ov c_7 _ ob566.bs ob566.le.2 ob567.bs ob567.le.2 ⟨by omega, by omega⟩)) rfl ?_)
      rintro _ w52 ⟨A_sa, c_sa, rfl, Q52, k52⟩
      have kk52 := kk51.then_ k52
      have z582 : w51.heap.size ≤ w52.heap.size := k52.size
      have f583 : Bk w52 p0_0 ([.slice A (l.length) (c), .int .i64 (ka), .int .i64 (na), .slice A2 (d2.length) (c2)]) 46 := (f568.no k52)
      have f584 : Bk w52 p0_1 ([.slice A3 (l3.length) (c3), .int .i64 (kb), .int .i64 (nb), .slice A4 (d4.length) (c4)]) 46 := (f569.no k52)
      have f585 : Bk w52 pb ([.int .i64 ((q1 + 1 : Nat) : Int), .int .i64 ((n1 : Nat) : Int), .int .u32 5]) 28 := (f570.no k52)
      have f586 : Bk w52 f (u8s fv) 5 := (f571.no k52)
      have o587 : Gt w52 := (o572.no k52)
      have o588 : Tb w52 b12_0 := (o573.no k52)
      have ob589 := (ob566.keptNo k52)
      have ob590 := (ob576.keptNo k52)
      have ob591 := (ob567.keptNo k52)
      refine ⟨⟨kk52, f583, f584, f585, f586, o587, o588, ob589, ob590, ob591⟩, ?_⟩
      have lm592 := ob589.top
      have lm593 := ob590.top
      have lm594 := ob591.top
      have ob596 := (ob579.keptNo k52)
      have lm595 := ob596.top
      have ob598 := (ob581.keptNo k52)
      have lm597 := ob598.top
      have lm599 := Q52.top
      refine D_one 7 (by kernel_rfl) (Nx_lo rfl (lo_callE (by kernel_rfl) rfl (by rw [hfv.1] <;> rfl) (sum_ A_D1 D1 c_D1 (some ⟨f, 0, none⟩) fv ((D1).length) _ ob590.bs ob590.le.2 (Bs.ofBk f586 hfv) (Nat.le_of_eq hfv.1) ⟨hfv.1, by omega⟩)) rfl ?_)
      rintro _ w53 ⟨A_sb, c_sb, rfl, Q53, k53⟩
      have kk53 := kk52.then_ k53
      have z600 : w52.heap.size ≤ w53.heap.size := k53.size
      have f601 : Bk w53 p0_0 ([.slice A (l.length) (c), .int .i64 (ka), .int .i64 (na), .slice A2 (d2.length) (c2)]) 46 := (f583.no k53)
      have f602 : Bk w53 p0_1 ([.slice A3 (l3.length) (c3), .int .i64 (kb), .int .i64 (nb), .slice A4 (d4.length) (c4)]) 46 := (f584.no k53)
      have f603 : Bk w53 pb ([.int .i64 ((q1 + 1 : Nat) : Int), .int .i64 ((n1 : Nat) : Int), .int .u32 5]) 28 := (f585.no k53)
      have f604 : Bk w53 f (u8s fv) 5 := (f586.no k53)
      have o605 : Gt w53 := (o587.no k53)
      have o606 : Tb w53 b12_0 := (o588.no k53)
      have ob607 := (ob589.keptNo k53)
      have ob608 := (ob590.keptNo k53)
      have ob609 := (ob591.keptNo k53)
      refine ⟨⟨kk53, f601, f602, f603, f604, o605, o606, ob607, ob608, ob609⟩, ?_⟩
      have ob610 := (Q52.keptNo k53)
      have lm611 := ob607.top
      have lm612 := ob608.top
      have lm613 := ob609.top
      have ob615 := (ob596.keptNo k53)
      have lm614 := ob615.top
      have ob617 := (ob598.keptNo k53)
      have lm616 := ob617.top
      have lm618 := ob610.top
      have lm619 := Q53.top
      refine D_one 8 (by kernel_rfl) (Nx_lo rfl (lo_call (by kernel_rfl) rfl (shamir_split b12_0 A_sa (sumL S1 ov) c_sa q1 n1 5 A_sb (sumL D1 fv) c_sb _ ob610.bs ob610.le.2 Q53.bs Q53.le.2 (by decide) (by omega) (by rw [sumL_length]; omega) (by rw [sumL_length, sumL_length]; exact hD1) (Aw.ofOb ob610 (by have := o573.lt; omega)) (Aw.ofOb Q53 (by have := o588.lt; omega)) o606)) rfl ?_)
      rintro _ w54 ⟨A_z, c_z, L_z, rfl, Q54, hK_z, T54, k54⟩
      have kk54 := kk53.trans k54 (fun i hi => .inr (hi ▸ (Nat.le_trans kk35.size le48)))
      have z620 : w53.heap.size ≤ w54.heap.size := k54.size
      have hl_z := (key_len hK_z).trans (ptK_length ..)
      have f621 : Bk w54 p0_0 ([.slice A (l.length) (c), .int .i64 (ka), .int .i64 (na), .slice A2 (d2.length) (c2)]) 46 := (f601.on k54 (Ne.symm ne_b12_0_p0_0))
      have f622 : Bk w54 p0_1 ([.slice A3 (l3.length) (c3), .int .i64 (kb), .int .i64 (nb), .slice A4 (d4.length) (c4)]) 46 := (f602.on k54 (Ne.symm ne_b12_0_p0_1))
      have f623 : Bk w54 pb ([.int .i64 ((q1 + 1 : Nat) : Int), .int .i64 ((n1 : Nat) : Int), .int .u32 5]) 28 := (f603.on k54 (Ne.symm ne_b12_0_pb))
      have f624 : Bk w54 f (u8s fv) 5 := (f604.on k54 (Ne.symm ne_b12_0_f))
      have o625 : Gt w54 := (o605.on k54 (Ne.symm ne_b12_0_0))
      have ob626 := (ob607.onN k54 S1_35.1 le48)
      have ob627 := (ob608.onN k54 D1_35.1 le48)
      have ob628 := (ob609.onN k54 o_35.1 le48)
      refine ⟨⟨kk54, f621, f622, f623, f624, o625, T54, ob626, ob627, ob628⟩, ?_⟩
      refine D_take 9 rfl (by kernel_rfl) (by kernel_rfl) (by kernel_rfl) (fun _ _ _ h => h) rfl (fun W hS => pu_move rfl) ?_
      refine D_take 10 rfl (by kernel_rfl) (by kernel_rfl) (by kernel_rfl) (fun _ _ _ h => h) rfl (fun W hS => pu_extract rfl rfl) ?_
      refine D_take 11 rfl (by kernel_rfl) (by kernel_rfl) (by kernel_rfl) (fun _ _ _ h => h) rfl (fun W hS => pu_extract rfl rfl) ?_
      refine D_take 12 rfl (by kernel_rfl) (by kernel_rfl) (by kernel_rfl) (fun _ _ _ h => h) rfl (fun W hS => pu_assign rfl) ?_
      refine D_take 13 rfl (by kernel_rfl) (by kernel_rfl) (by kernel_rfl) (fun _ _ _ h => h) rfl (fun W hS => pu_assign rfl) ?_
      refine D_done (by kernel_rfl) ?_
      refine X_then hK557 ?_
      refine C_seq (fun K629 hK629 => ?_)
      refine C_seq (fun K630 hK630 => ?_)
      refine C_region ?_
      refine R_pu (pu_move rfl) rfl ?_
      refine R_pu (pu_neqnn (by kernel_rfl) rfl) rfl ?_
      refine R_pu (pu_move rfl) rfl ?_
      refine R_gpu rfl rfl (pu_move rfl) rfl ?_
      refine R_gpu rfl rfl (pu_neqnn (by kernel_rfl) rfl) rfl ?_
      refine R_pu (pu_pickf rfl rfl) rfl ?_
      refine R_pu (pu_move rfl) rfl ?_
      refine R_gpu rfl rfl (pu_move rfl) rfl ?_
      refine R_gpu rfl rfl (pu_neqnn (by kernel_rfl) rfl) rfl ?_
      refine R_pu (pu_pickf rfl rfl) rfl ?_
      refine R_pu (pu_move rfl) rfl ?_
      refine R_gpu rfl rfl (pu_move rfl) rfl ?_
      refine R_gpu rfl rfl (pu_len Tryd.underlying29 rfl) rfl ?_
      refine R_gpu rfl rfl (pu_fieldAddr (off := 1) (o' := 1) (by kernel_rfl) rfl rfl) rfl ?_
      refine R_gpu rfl rfl (pu_loadK f623 (by kernel_rfl) rfl rfl) rfl ?_
      refine R_gpu rfl rfl (pu_false (pu_neq (p := ((L_x).length) = n1) rfl rfl (by omega)) (fun h => h hl_x)) rfl ?_
      refine R_pu (pu_pickf rfl rfl) rfl ?_
      refine R_pu (pu_move rfl) rfl ?_
      refine R_gpu rfl rfl (pu_move rfl) rfl ?_
      refine R_gpu rfl rfl (pu_len Tryd.underlying29 rfl) rfl ?_
      refine R_gpu rfl rfl (pu_fieldAddr (off := 1) (o' := 1) (by kernel_rfl) rfl rfl) rfl ?_
      refine R_gpu rfl rfl (pu_loadK f623 (by kernel_rfl) rfl rfl) rfl ?_
      refine R_gpu rfl rfl (pu_false (pu_neq (p := ((L_y).length) = n1) rfl rfl (by omega)) (fun h => h hl_y)) rfl ?_
      refine R_pu (pu_pickf rfl rfl) rfl ?_
      refine R_pu (pu_move rfl) rfl ?_
      refine R_gpu rfl rfl (pu_move rfl) rfl ?_
      refine R_gpu rfl rfl (pu_len Tryd.underlying29 rfl) rfl ?_
      refine R_gpu rfl rfl (pu_fieldAddr (off := 1) (o' := 1) (by kernel_rfl) rfl rfl) rfl ?_
      refine R_gpu rfl rfl (pu_loadK f623 (by kernel_rfl) rfl rfl) rfl ?_
      refine R_gpu rfl rfl (pu_false (pu_neq (p := ((L_z).length) = n1) rfl rfl (by omega)) (fun h => h hl_z)) rfl ?_
      refine R_pu (pu_pickf rfl rfl) rfl ?_
      refine R_nil ?_
      refine X_then hK630 ?_
      refine C_false rfl ?_
      refine C_skip ?_
      refine X_then hK629 ?_
      refine C_seq (fun K631 hK631 => ?_)
      refine C_seq (fun K632 hK632 => ?_)
      refine C_region ?_
      refine R_pu (pu_assign rfl) rfl ?_
      refine R_nil ?_
      refine X_then hK632 ?_
      refine C_block ?_
      have bS1 := ob626.bs.byte; have bD1 := ob627.bs.byte; have bo := ob628.byte
      have ob633 := (ob615.on k54 (by have := T48.lt; omega))
      have ob634 := (ob617.on k54 (by have := T49.lt; omega))
      have ob635 := (ob610.on k54 (by have := o573.lt; omega))
      have ob636 := (Q53.on k54 (by have := o588.lt; omega))
      refine C_loop (fun m_ l_ wr => ∃ j : Nat, (m_ = n1 - j) ∧ (l_ = [(5, .slice A_S1 ((S1).length) (c_S1)), (6, .pointer (some ⟨pb, 0, none⟩)), (13, .slice A_x ((L_x).length) (c_x)), (15, .slice A_y ((L_y).length) (c_y)), (17, .slice A_z ((L_z).length) (c_z)), (19, .int .i64 ((j : Nat) : Int))]) ∧ (j ≤ n1) ∧ (Kp No w wr) ∧ (Bk wr p0_0 ([.slice A (l.length) (c), .int .i64 (ka), .int .i64 (na), .slice A2 (d2.length) (c2)]) 46) ∧ (Bk wr p0_1 ([.slice A3 (l3.length) (c3), .int .i64 (kb), .int .i64 (nb), .slice A4 (d4.length) (c4)]) 46) ∧ (Bk wr pb ([.int .i64 ((q1 + 1 : Nat) : Int), .int .i64 ((n1 : Nat) : Int), .int .u32 5]) 28) ∧ (Bk wr f (u8s fv) 5) ∧ (Od wr 0 (.slice A_S1 ((S1).length) (c_S1)) (S1) ∧ 0 ≤ (wr).heap.size) ∧ (Od wr 0 (.slice A_D1 ((D1).length) (c_D1)) (D1) ∧ 0 ≤ (wr).heap.size) ∧ (Ob wr w5.heap.size (.slice (some ⟨g, 0, none⟩) ((ov).length) (c_7)) (ov) ∧ w5.heap.size ≤ (wr).heap.size) ∧ (Sw 50 w48.heap.size wr w48.heap.size (.slice A_x ((L_x).length) (c_x)) (L_x) ∧ w48.heap.size ≤ (wr).heap.size) ∧ (Sw 50 w49.heap.size wr w49.heap.size (.slice A_y ((L_y).length) (c_y)) (L_y) ∧ w49.heap.size ≤ (wr).heap.size) ∧ (Sw 50 w53.heap.size wr w53.heap.size (.slice A_z ((L_z).length) (c_z)) (L_z) ∧ w53.heap.size ≤ (wr).heap.size) ∧ (Ob wr w51.heap.size (.slice A_sa ((sumL S1 ov).length) (c_sa)) (sumL S1 ov) ∧ w51.heap.size ≤ (wr).heap.size) ∧ (Ob wr w52.heap.size (.slice A_sb ((sumL D1 fv).length) (c_sb)) (sumL D1 fv) ∧ w52.heap.size ≤ (wr).heap.size) ∧ (Gt wr) ∧ (Tb wr b12_0)) (n1 - 0) [(5, .slice A_S1 ((S1).length) (c_S1)), (6, .pointer (some ⟨pb, 0, none⟩)), (13, .slice A_x ((L_x).length) (c_x)), (15, .slice A_y ((L_y).length) (c_y)), (17, .slice A_z ((L_z).length) (c_z)), (19, .int .i64 0)] (Sub.cons rfl (Sub.cons rfl (Sub.cons rfl (Sub.cons rfl (Sub.cons rfl (Sub.cons rfl (Sub.nil _))))))) ⟨0, rfl, rfl, by omega, kk54, f621, f622, f623, f624, ⟨ob626, (Nat.zero_le _)⟩, ⟨ob627, (Nat.zero_le _)⟩, ⟨ob628, (Nat.le_trans (Nat.le_trans (Nat.le_trans (Nat.le_trans (Nat.le_trans (Nat.le_trans (Nat.le_trans o_35.2 k48.size) k49.size) k50.size) k51.size) k52.size) k53.size) k54.size)⟩, ⟨ob633, (Nat.le_trans (Nat.le_trans (Nat.le_trans (Nat.le_trans (Nat.le_trans z542 k50.size) k51.size) k52.size) k53.size) k54.size)⟩, ⟨ob634, (Nat.le_trans (Nat.le_trans (Nat.le_trans (Nat.le_trans z556 k51.size) k52.size) k53.size) k54.size)⟩, ⟨Q54, z620⟩, ⟨ob635, (Nat.le_trans (Nat.le_trans z582 k53.size) k54.size)⟩, ⟨ob636, (Nat.le_trans z600 k54.size)⟩, o625, T54⟩ ?_
      rintro _ _ w55 ⟨j, rfl, rfl, hj, kk55, f_p0_0_55, f_p0_1_55, f_pb_55, f_f_55, S1_55, D1_55, o_55, x_55, y_55, z_55, sa_55, sb_55, G_55, T_b12_0_55⟩
      refine C_seq (fun K637 hK637 => ?_)
      refine C_seq (fun K638 hK638 => ?_)
      refine C_region ?_
      refine R_pu (pu_move rfl) rfl ?_
      refine R_pu (pu_fieldAddr (off := 1) (o' := 1) (by kernel_rfl) rfl rfl) rfl ?_
      refine R_pu (pu_loadK f_pb_55 (by kernel_rfl) rfl rfl) rfl ?_
      refine R_pu (pu_lss (p := j < n1) rfl rfl (by omega)) rfl ?_
      refine R_nil ?_
      refine X_then hK638 ?_
      refine C_dec rfl (fun h137 => ?_) (fun h137 => ?_)
      · refine C_skip ?_
        refine X_then hK637 ?_
        refine C_seq (fun K639 hK639 => ?_)
        refine C_block ?_
        refine C_seq (fun K640 hK640 => ?_)
        refine D_begin (fun W => Kp No w W ∧ Bk W p0_0 ([.slice A (l.length) (c), .int .i64 (ka), .int .i64 (na), .slice A2 (d2.length) (c2)]) 46 ∧ Bk W p0_1 ([.slice A3 (l3.length) (c3), .int .i64 (kb), .int .i64 (nb), .slice A4 (d4.length) (c4)]) 46 ∧ Bk W pb ([.int .i64 ((q1 + 1 : Nat) : Int), .int .i64 ((n1 : Nat) : Int), .int .u32 5]) 28 ∧ Bk W f (u8s fv) 5 ∧ Gt W ∧ Tb W b12_0 ∧ Od W 0 (.slice A_S1 ((S1).length) (c_S1)) (S1) ∧ Sw 50 w48.heap.size W w48.heap.size (.slice A_x ((L_x).length) (c_x)) (L_x) ∧ Sw 50 w49.heap.size W w49.heap.size (.slice A_y ((L_y).length) (c_y)) (L_y) ∧ Sw 50 w53.heap.size W w53.heap.size (.slice A_z ((L_z).length) (c_z)) (L_z)) 41 rfl (by kernel_rfl) ⟨kk55.drew, f_p0_0_55.draw, f_p0_1_55.draw, f_pb_55.draw, f_f_55.draw, G_55.draw, T_b12_0_55.draw, S1_55.1.draw, x_55.1.draw, y_55.1.draw, z_55.1.draw⟩ ?_
        intro w56 k56 _
        have kk56 := kk55.then_ k56
        refine D_take 0 rfl (by kernel_rfl) (by kernel_rfl) (by kernel_rfl) (fun _ _ _ h => h) rfl (fun W hS => pu_move rfl) ?_
        refine D_take 1 rfl (by kernel_rfl) (by kernel_rfl) (by kernel_rfl) (fun _ _ _ h => h) rfl (fun W hS => pu_move rfl) ?_
        have ob641 := (x_55.1.keptNo k56)
        obtain ⟨x1, e_x1⟩ : ∃ q_, (L_x)[j]? = some q_ := ⟨_, List.getElem?_eq_getElem (by first | omega | (simp; done) | (simp; omega))⟩
        have ok_x1 := ob641.ss.get e_x1
        have od_x1 := ob641.od e_x1
        have bi_x1 : x1.ix < 256 := ok_x1.ix
        refine D_take 2 rfl (by kernel_rfl) (by kernel_rfl) (by kernel_rfl) (fun _ _ _ h => h) rfl (fun W hS => pu_indexAddrH hS.2.2.2.2.2.2.2.2.1.ss Tryd.underlying29 (by kernel_rfl) rfl rfl rfl rfl e_x1) ?_
        refine D_take 3 rfl (by kernel_rfl) (by kernel_rfl) (by kernel_rfl) (fun _ _ _ h => h) rfl (fun W hS => pu_fieldAddrH (off := 2) hS.2.2.2.2.2.2.2.2.1.ss e_x1 (by kernel_rfl) rfl) ?_
        refine D_take 4 rfl (by kernel_rfl) (by kernel_rfl) (by kernel_rfl) (fun _ _ _ h => h) rfl (fun W hS => pu_loadH hS.2.2.2.2.2.2.2.2.1.ss e_x1 (by kernel_rfl) rfl rfl) ?_
        refine D_take 5 rfl (by kernel_rfl) (by kernel_rfl) (by kernel_rfl) (fun _ _ _ h => h) rfl (fun W hS => pu_len Tryd.underlying22 rfl) ?_
        refine D_take 6 rfl (by kernel_rfl) (by kernel_rfl) (by kernel_rfl) (fun _ _ _ h => h) rfl (fun W hS => pu_move rfl) ?_
        refine D_take 7 rfl (by kernel_rfl) (by kernel_rfl) (by kernel_rfl) (fun _ _ _ h => h) rfl (fun W hS => pu_len Tryd.underlying22 rfl) ?_
        refine D_take 8 rfl (by kernel_rfl) (by kernel_rfl) (by kernel_rfl) (fun _ _ _ h => h) rfl (fun W hS => pu_false (pu_neq (p := ((x1.X).length) = ((S1).length)) rfl rfl (by omega)) (fun h => h (by rw [(key_at hK_x e_x1 (ptK_get (show j < n1 by omega))).2.2]; exact ptX_length _ _ _ _))) ?_
        refine D_take 9 rfl (by kernel_rfl) (by kernel_rfl) (by kernel_rfl) (fun _ _ _ h => h) rfl (fun W hS => pu_move rfl) ?_
        refine D_gtake 10 rfl rfl rfl (by kernel_rfl) (by kernel_rfl) (by kernel_rfl) (fun _ _ _ h => h) rfl (fun W hS => pu_move rfl) ?_
        refine D_gtake 11 rfl rfl rfl (by kernel_rfl) (by kernel_rfl) (by kernel_rfl) (fun _ _ _ h => h) rfl (fun W hS => pu_move rfl) ?_
        have ob642 := (y_55.1.keptNo k56)
        obtain ⟨y1, e_y1⟩ : ∃ q_, (L_y)[j]? = some q_ := ⟨_, List.getElem?_eq_getElem (by first | omega | (simp; done) | (simp; omega))⟩
        have ok_y1 := ob642.ss.get e_y1
        have od_y1 := ob642.od e_y1
        have bi_y1 : y1.ix < 256 := ok_y1.ix
        refine D_gtake 12 rfl rfl rfl (by kernel_rfl) (by kernel_rfl) (by kernel_rfl) (fun _ _ _ h => h) rfl (fun W hS => pu_indexAddrH hS.2.2.2.2.2.2.2.2.2.1.ss Tryd.underlying29 (by kernel_rfl) rfl rfl rfl rfl e_y1) ?_
        refine D_gtake 13 rfl rfl rfl (by kernel_rfl) (by kernel_rfl) (by kernel_rfl) (fun _ _ _ h => h) rfl (fun W hS => pu_fieldAddrH (off := 2) hS.2.2.2.2.2.2.2.2.2.1.ss e_y1 (by kernel_rfl) rfl) ?_
        refine D_gtake 14 rfl rfl rfl (by kernel_rfl) (by kernel_rfl) (by kernel_rfl) (fun _ _ _ h => h) rfl (fun W hS => pu_loadH hS.2.2.2.2.2.2.2.2.2.1.ss e_y1 (by kernel_rfl) rfl rfl) ?_
        refine D_gtake 15 rfl rfl rfl (by kernel_rfl) (by kernel_rfl) (by kernel_rfl) (fun _ _ _ h => h) rfl (fun W hS => pu_len Tryd.underlying22 rfl) ?_
        refine D_gtake 16 rfl rfl rfl (by kernel_rfl) (by kernel_rfl) (by kernel_rfl) (fun _ _ _ h => h) rfl (fun W hS => pu_move rfl) ?_
        refine D_gtake 17 rfl rfl rfl (by kernel_rfl) (by kernel_rfl) (by kernel_rfl) (fun _ _ _ h => h) rfl (fun W hS => pu_len Tryd.underlying22 rfl) ?_
        refine D_gtake 18 rfl rfl rfl (by kernel_rfl) (by kernel_rfl) (by kernel_rfl) (fun _ _ _ h => h) rfl (fun W hS => pu_false (pu_neq (p := ((y1.X).length) = ((S1).length)) rfl rfl (by omega)) (fun h => h (by rw [(key_at hK_y e_y1 (ptK_get (show j < n1 by omega))).2.2]; exact (ptX_length _ _ _ _).trans ho))) ?_
        refine D_take 19 rfl (by kernel_rfl) (by kernel_rfl) (by kernel_rfl) (fun _ _ _ h => h) rfl (fun W hS => pu_pickf rfl rfl) ?_
        refine D_take 20 rfl (by kernel_rfl) (by kernel_rfl) (by kernel_rfl) (fun _ _ _ h => h) rfl (fun W hS => pu_move rfl) ?_
        refine D_gtake 21 rfl rfl rfl (by kernel_rfl) (by kernel_rfl) (by kernel_rfl) (fun _ _ _ h => h) rfl (fun W hS => pu_move rfl) ?_
        refine D_gtake 22 rfl rfl rfl (by kernel_rfl) (by kernel_rfl) (by kernel_rfl) (fun _ _ _ h => h) rfl (fun W hS => pu_move rfl) ?_
        have ob643 := (z_55.1.keptNo k56)
        obtain ⟨z1, e_z1⟩ : ∃ q_, (L_z)[j]? = some q_ := ⟨_, List.getElem?_eq_getElem (by first | omega | (simp; done) | (simp; omega))⟩
        have ok_z1 := ob643.ss.get e_z1
        have od_z1 := ob643.od e_z1
        have bi_z1 : z1.ix < 256 := ok_z1.ix
        refine D_gtake 23 rfl rfl rfl (by kernel_rfl) (by kernel_rfl) (by kernel_rfl) (fun _ _ _ h => h) rfl (fun W hS => pu_indexAddrH hS.2.2.2.2.2.2.2.2.2.2.ss Tryd.underlying29 (by kernel_rfl) rfl rfl rfl rfl e_z1) ?_
        refine D_gtake 24 rfl rfl rfl (by kernel_rfl) (by kernel_rfl) (by kernel_rfl) (fun _ _ _ h => h) rfl (fun W hS => pu_fieldAddrH (off := 2) hS.2.2.2.2.2.2.2.2.2.2.ss e_z1 (by kernel_rfl) rfl) ?_
        refine D_gtake 25 rfl rfl rfl (by kernel_rfl) (by kernel_rfl) (by kernel_rfl) (fun _ _ _ h => h) rfl (fun W hS => pu_loadH hS.2.2.2.2.2.2.2.2.2.2.ss e_z1 (by kernel_rfl) rfl rfl) ?_
        refine D_gtake 26 rfl rfl rfl (by kernel_rfl) (by kernel_rfl) (by kernel_rfl) (fun _ _ _ h => h) rfl (fun W hS => pu_bstr (hS.2.2.2.2.2.2.2.2.2.2.ss.get e_z1).bs Tryd.underlying22 Tryd.underlying5 Tryd.underlying9 rfl rfl) ?_
        refine D_gtake 27 rfl rfl rfl (by kernel_rfl) (by kernel_rfl) (by kernel_rfl) (fun _ _ _ h => h) rfl (fun W hS => pu_move rfl) ?_
        refine D_gtake 28 rfl rfl rfl (by kernel_rfl) (by kernel_rfl) (by kernel_rfl) (fun _ _ _ h => h) rfl (fun W hS => pu_move rfl) ?_
        refine D_gtake 29 rfl rfl rfl (by kernel_rfl) (by kernel_rfl) (by kernel_rfl) (fun _ _ _ h => h) rfl (fun W hS => pu_indexAddrH hS.2.2.2.2.2.2.2.2.1.ss Tryd.underlying29 (by kernel_rfl) rfl rfl rfl rfl e_x1) ?_
        refine D_gtake 30 rfl rfl rfl (by kernel_rfl) (by kernel_rfl) (by kernel_rfl) (fun _ _ _ h => h) rfl (fun W hS => pu_fieldAddrH (off := 2) hS.2.2.2.2.2.2.2.2.1.ss e_x1 (by kernel_rfl) rfl) ?_
        refine D_gtake 31 rfl rfl rfl (by kernel_rfl) (by kernel_rfl) (by kernel_rfl) (fun _ _ _ h => h) rfl (fun W hS => pu_loadH hS.2.2.2.2.2.2.2.2.1.ss e_x1 (by kernel_rfl) rfl rfl) ?_
        refine D_gtake 32 rfl rfl rfl (by kernel_rfl) (by kernel_rfl) (by kernel_rfl) (fun _ _ _ h => h) rfl (fun W hS => pu_move rfl) ?_
        refine D_gtake 33 rfl rfl rfl (by kernel_rfl) (by kernel_rfl) (by kernel_rfl) (fun _ _ _ h => h) rfl (fun W hS => pu_move rfl) ?_
        refine D_gtake 34 rfl rfl rfl (by kernel_rfl) (by kernel_rfl) (by kernel_rfl) (fun _ _ _ h => h) rfl (fun W hS => pu_indexAddrH hS.2.2.2.2.2.2.2.2.2.1.ss Tryd.underlying29 (by kernel_rfl) rfl rfl rfl rfl e_y1) ?_
        refine D_gtake 35 rfl rfl rfl (by kernel_rfl) (by kernel_rfl) (by kernel_rfl) (fun _ _ _ h => h) rfl (fun W hS => pu_fieldAddrH (off := 2) hS.2.2.2.2.2.2.2.2.2.1.ss e_y1 (by kernel_rfl) rfl) ?_
        refine D_gtake 36 rfl rfl rfl (by kernel_rfl) (by kernel_rfl) (by kernel_rfl) (fun _ _ _ h => h) rfl (fun W hS => pu_loadH hS.2.2.2.2.2.2.2.2.2.1.ss e_y1 (by kernel_rfl) rfl rfl) ?_
        have f644 : Bk w56 p0_0 ([.slice A (l.length) (c), .int .i64 (ka), .int .i64 (na), .slice A2 (d2.length) (c2)]) 46 := (f_p0_0_55.no k56)
        have f645 : Bk w56 p0_1 ([.slice A3 (l3.length) (c3), .int .i64 (kb), .int .i64 (nb), .slice A4 (d4.length) (c4)]) 46 := (f_p0_1_55.no k56)
        have f646 : Bk w56 pb ([.int .i64 ((q1 + 1 : Nat) : Int), .int .i64 ((n1 : Nat) : Int), .int .u32 5]) 28 := (f_pb_55.no k56)
        have f647 : Bk w56 f (u8s fv) 5 := (f_f_55.no k56)
        have o648 : Gt w56 := (G_55.no k56)
        have o649 : Tb w56 b12_0 := (T_b12_0_55.no k56)
        have ob651 := (S1_55.1.keptNo k56)
        have lm650 := ob651.top
        have ob653 := (D1_55.1.keptNo k56)
        have lm652 := ob653.top
        have ob655 := (o_55.1.keptNo k56)
        have lm654 := ob655.top
        have lm656 := ob641.top
        have lm657 := ob642.top
        have lm658 := ob643.top
        have ob660 := (sa_55.1.keptNo k56)
        have lm659 := ob660.top
        have ob662 := (sb_55.1.keptNo k56)
        have lm661 := ob662.top
        have lm663 := od_x1.top
        have lm664 := od_y1.top
        have lm665 := od_z1.top
        refine D_one 37 (by kernel_rfl) (Nx_glo rfl rfl rfl (lo_call (by kernel_rfl) rfl (sum_ x1.A x1.X x1.c y1.A y1.X y1.c _ od_x1.bs od_x1.le.2 od_y1.bs od_y1.le.2 ⟨by rw [(key_at hK_y e_y1 (ptK_get (show j < n1 by omega))).2.2, (key_at hK_x e_x1 (ptK_get (show j < n1 by omega))).2.2, ptX_length, ptX_length]; exact ho, by rw [(key_at hK_x e_x1 (ptK_get (show j < n1 by omega))).2.2, ptX_length]; omega⟩)) rfl ?_)
        rintro _ w57 ⟨A_sc, c_sc, rfl, Q57, k57⟩
        have kk57 := kk56.then_ k57
        have z666 : w56.heap.size ≤ w57.heap.size := k57.size
        have f667 : Bk w57 p0_0 ([.slice A (l.length) (c), .int .i64 (ka), .int .i64 (na), .slice A2 (d2.length) (c2)]) 46 := (f644.no k57)
        have f668 : Bk w57 p0_1 ([.slice A3 (l3.length) (c3), .int .i64 (kb), .int .i64 (nb), .slice A4 (d4.length) (c4)]) 46 := (f645.no k57)
        have f669 : Bk w57 pb ([.int .i64 ((q1 + 1 : Nat) : Int), .int .i64 ((n1 : Nat) : Int), .int .u32 5]) 28 := (f646.no k57)
        have f670 : Bk w57 f (u8s fv) 5 := (f647.no k57)
        have o671 : Gt w57 := (o648.no k57)
        have o672 : Tb w57 b12_0 := (o649.no k57)
        have ob673 := (ob651.keptNo k57)
        have ob674 := (ob641.keptNo k57)
        have ob675 := (ob642.keptNo k57)
        have ob676 := (ob643.keptNo k57)
        refine ⟨⟨kk57, f667, f668, f669, f670, o671, o672, ob673, ob674, ob675, ob676⟩, ?_⟩
        refine D_one 38 (by kernel_rfl) (Nx_gpu rfl rfl rfl (pu_bstr Q57.bs Tryd.underlying22 Tryd.underlying5 Tryd.underlying9 rfl rfl) rfl ⟨⟨kk57, f667, f668, f669, f670, o671, o672, ob673, ob674, ob675, ob676⟩, ?_⟩)
        refine D_gtake 39 rfl rfl rfl (by kernel_rfl) (by kernel_rfl) (by kernel_rfl) (fun _ _ _ h => h) rfl (fun W hS => pu_false (pu_neqs (p := z1.X = (sumL x1.X y1.X)) rfl rfl (bstr_inj ((hS.2.2.2.2.2.2.2.2.2.2.ss.get e_z1).bs).byte (Q57.bs).byte)) (fun h => h (by rw [(key_at hK_z e_z1 (ptK_get (show j < n1 by omega))).2.2, (key_at hK_x e_x1 (ptK_get (show j < n1 by omega))).2.2, (key_at hK_y e_y1 (ptK_get (show j < n1 by omega))).2.2]; exact ptX_sum bS1 bo bD1 hfv.2 ho hD1 hfv.1))) ?_
        refine D_take 40 rfl (by kernel_rfl) (by kernel_rfl) (by kernel_rfl) (fun _ _ _ h => h) rfl (fun W hS => pu_pickf rfl rfl) ?_
        refine D_done (by kernel_rfl) ?_
        refine X_then hK640 ?_
        refine C_false rfl ?_
        refine C_skip ?_
        refine X_in_normal ?_
        refine X_then hK639 ?_
        refine C_region ?_
        refine R_pu (pu_move rfl) rfl ?_
        refine R_pu (pu_add (z := ((j + 1 : Nat) : Int)) rfl rfl (by rw [IntKind.wrap_i64]; omega)) rfl ?_
        refine R_pu (pu_assign rfl) rfl ?_
        refine R_nil ?_
        have ob677 := (ob653.keptNo k57)
        have ob678 := (ob655.keptNo k57)
        have ob679 := (ob660.keptNo k57)
        have ob680 := (ob662.keptNo k57)
        refine X_round (n1 - (j + 1)) [(5, .slice A_S1 ((S1).length) (c_S1)), (6, .pointer (some ⟨pb, 0, none⟩)), (13, .slice A_x ((L_x).length) (c_x)), (15, .slice A_y ((L_y).length) (c_y)), (17, .slice A_z ((L_z).length) (c_z)), (19, .int .i64 (((j + 1) : Nat) : Int))] (by omega) (Sub.cons rfl (Sub.cons rfl (Sub.cons rfl (Sub.cons rfl (Sub.cons rfl (Sub.cons rfl (Sub.nil _))))))) ⟨j + 1, rfl, rfl, by omega, kk57, f667, f668, f669, f670, ⟨ob673, (Nat.zero_le _)⟩, ⟨ob677, (Nat.zero_le _)⟩, ⟨ob678, (Nat.le_trans (Nat.le_trans o_55.2 k56.size) k57.size)⟩, ⟨ob674, (Nat.le_trans (Nat.le_trans x_55.2 k56.size) k57.size)⟩, ⟨ob675, (Nat.le_trans (Nat.le_trans y_55.2 k56.size) k57.size)⟩, ⟨ob676, (Nat.le_trans (Nat.le_trans z_55.2 k56.size) k57.size)⟩, ⟨ob679, (Nat.le_trans (Nat.le_trans sa_55.2 k56.size) k57.size)⟩, ⟨ob680, (Nat.le_trans (Nat.le_trans sb_55.2 k56.size) k57.size)⟩, o671, o672⟩
      · refine C_exit ?_
        refine X_then_exit (X_then_exit (X_in_eq ?_))
        refine X_then hK631 ?_
        refine C_seq (fun K681 hK681 => ?_)
        refine C_region ?_
        refine R_lo (lo_call (by kernel_rfl) rfl (sure03 _ G_55)) rfl ?_
        rintro _ w58 ⟨rfl, k58⟩
        have kk58 := kk55.then_ k58
        refine R_pu (pu_assign rfl) rfl ?_
        refine R_nil ?_
        refine X_then hK681 ?_
        refine C_ret ?_
        exact X_ret1 (.inl rfl) rfl rfl ⟨rfl, kk58⟩
end Go.Proofs.YtjbdimfpjbmggaaDoor
