/- The walk of shamir.At; the body of ShamirAny. -/
import Derived.Test.YtjbdimfpjbmggaaDoorSi
set_option linter.unusedVariables false
set_option linter.unusedSimpArgs false
namespace Go.Proofs.YtjbdimfpjbmggaaDoor
open Go.RowKit Gm
set_option maxRecDepth 100000 in
set_option maxHeartbeats 2000000 in
theorem shamir_at (b : Nat) (A : Option Addr) (L : List Shr) (c q nn ge x N : Nat) (w : World) (HS : Ss w A L) (hm : (2 ≤ q + 1 ∧ q + 1 ≤ nn ∧ nn ≤ 255) ∧ (q + 1 ≤ L.length ∧ L.length ≤ c ∧ L.length < 9223372036854775808) ∧ ge < 4294967296 ∧ Good (L.take (q + 1)) ge N) (hx : x < 256) (hx0 : x ≠ 0 ∧ x ≤ nn) (aw_HS : Aws (On b) A L) (hT : Tb w b) : Ret Tryd.prog 27 #[.pointer (some ⟨b, 0, none⟩), .slice A (L.length) (c), .agg ([.int .i64 ((q + 1 : Nat) : Int), .int .i64 ((nn : Nat) : Int), .int .u32 ((ge : Nat) : Int)] : List Value).toArray, .int .u8 ((x : Nat) : Int)] w (fun v w' => ∃ A c, v = .tuple #[.agg (shC ⟨x, ge, A, thX (L.take (q + 1)) N x, c⟩).toArray, .nilIface] ∧ Ob w' w.heap.size (.slice A (thX (L.take (q + 1)) N x).length c) (thX (L.take (q + 1)) N x) ∧ Tb w' b ∧ Kp (On b) w w') := by
  have hge := hm.2.2.1
  have kk0 := Kp.refl (On b) w
  refine enter (n := 40) [.pointer (some ⟨b, 0, none⟩), .slice A (L.length) (c), .agg ([.int .i64 ((q + 1 : Nat) : Int), .int .i64 ((nn : Nat) : Int), .int .u32 ((ge : Nat) : Int)] : List Value).toArray, .int .u8 ((x : Nat) : Int)] Tryd.func27 rfl rfl rfl ?_
  show Cw _ _ _ _ [(0, .pointer (some ⟨b, 0, none⟩)), (1, .slice A (L.length) (c)), (2, .agg ([.int .i64 ((q + 1 : Nat) : Int), .int .i64 ((nn : Nat) : Int), .int .u32 ((ge : Nat) : Int)] : List Value).toArray), (3, .int .u8 ((x : Nat) : Int))] _
  refine C_seq (fun K1 hK1 => ?_)
  refine C_region ?_
  refine R_lo (lo_box (L := [.int .i64 ((q + 1 : Nat) : Int), .int .i64 ((nn : Nat) : Int), .int .u32 ((ge : Nat) : Int)]) rfl rfl) rfl ?_
  rintro _ w1 ⟨p0_0, rfl, N1⟩
  have k1 := N1.kp
  have kk1 := kk0.thenNo k1
  have ne_p0_0_b : p0_0 ≠ b := Nat.ne_of_gt (Nat.lt_of_lt_of_le hT.lt N1.le)
  have f_p0_0_1 : Bk w1 p0_0 ([.int .i64 ((q + 1 : Nat) : Int), .int .i64 ((nn : Nat) : Int), .int .u32 ((ge : Nat) : Int)]) 28 := N1.bk
  have o2 : Tb w1 b := (hT.no k1)
  refine R_lo (lo_alloc (L := [.int .u8 0, .int .u32 0, .slice none (0) (0)]) (by kernel_rfl)) rfl ?_
  rintro _ w2 ⟨rs, rfl, N2⟩
  have k2 := N2.kp
  have kk2 := kk1.thenNo k2
  have ne_rs_p0_0 : rs ≠ p0_0 := Nat.ne_of_gt (Nat.lt_of_lt_of_le f_p0_0_1.lt N2.le)
  have ne_rs_b : rs ≠ b := Nat.ne_of_gt (Nat.lt_of_lt_of_le o2.lt N2.le)
  have f_rs_2 : Bk w2 rs ([.int .u8 0, .int .u32 0, .slice none (0) (0)]) 50 := N2.bk
  refine R_pu (pu_assign rfl) rfl ?_
  refine R_nil ?_
  refine X_then hK1 ?_
  refine C_seq (fun K3 hK3 => ?_)
  refine C_seq (fun K4 hK4 => ?_)
  refine C_region ?_
  refine R_pu (pu_move rfl) rfl ?_
  refine R_pu (pu_false (pu_eql (p := x = 0) rfl rfl (by omega)) hx0.1) rfl ?_
  refine R_pu (pu_move rfl) rfl ?_
  refine R_gpu rfl rfl (pu_move rfl) rfl ?_
  refine R_gpu rfl rfl (pu_conv (z := ((x : Nat) : Int)) Tryd.underlying5 Tryd.underlying3 rfl (by have : x < 256 := hx; rw [IntKind.wrap_i64]; omega)) rfl ?_
  refine R_gpu rfl rfl (pu_fieldAddr (off := 1) (o' := 1) (by kernel_rfl) rfl rfl) rfl ?_
  have f5 : Bk w2 p0_0 ([.int .i64 ((q + 1 : Nat) : Int), .int .i64 ((nn : Nat) : Int), .int .u32 ((ge : Nat) : Int)]) 28 := (f_p0_0_1.no k2)
  refine R_gpu rfl rfl (pu_loadK f5 (by kernel_rfl) rfl rfl) rfl ?_
  refine R_gpu rfl rfl (pu_false (pu_gtr (p := x > nn) rfl rfl (by omega)) (by omega)) rfl ?_
  refine R_pu (pu_pickf rfl rfl) rfl ?_
  refine R_nil ?_
  refine X_then hK4 ?_
  refine C_false rfl ?_
  refine C_skip ?_
  refine X_then hK3 ?_
  refine C_seq (fun K6 hK6 => ?_)
  refine C_region ?_
  refine R_pu (pu_move rfl) rfl ?_
  refine R_pu (pu_move rfl) rfl ?_
  refine R_pu (pu_loadRow (len := 3) f5 (by kernel_rfl) (by kernel_rfl) rfl rfl) rfl ?_
  refine R_pu (pu_move rfl) rfl ?_
  have o7 : Tb w2 b := (o2.no k2)
  refine R_lo (lo_call (by kernel_rfl) rfl (shamir_through b A L c q nn ge x N _ (HS.keptS kk2 aw_HS) hm hx aw_HS o7)) rfl ?_
  rintro _ w3 ⟨A_th, c_th, rfl, Q3, T3, k3⟩
  have kk3 := kk2.trans k3 (fun i hi => .inl hi)
  have z8 : w2.heap.size ≤ w3.heap.size := k3.size
  refine R_pu (pu_move rfl) rfl ?_
  refine R_pu (pu_extract rfl rfl) rfl ?_
  refine R_pu (pu_extract rfl rfl) rfl ?_
  refine R_pu (pu_assign rfl) rfl ?_
  refine R_pu (pu_assign rfl) rfl ?_
  refine R_nil ?_
  refine X_then hK6 ?_
  refine C_seq (fun K9 hK9 => ?_)
  refine C_seq (fun K10 hK10 => ?_)
  refine C_region ?_
  refine R_pu (pu_move rfl) rfl ?_
  refine R_pu (pu_neqnn (by kernel_rfl) rfl) rfl ?_
  refine R_nil ?_
  refine X_then hK10 ?_
  refine C_false rfl ?_
  refine C_skip ?_
  refine X_then hK9 ?_
  refine C_seq (fun K11 hK11 => ?_)
  refine C_region ?_
  refine R_pu (pu_move rfl) rfl ?_
  refine R_pu (pu_fieldAddr (off := 2) (o' := 2) (by kernel_rfl) rfl rfl) rfl ?_
  have f12 : Bk w3 p0_0 ([.int .i64 ((q + 1 : Nat) : Int), .int .i64 ((nn : Nat) : Int), .int .u32 ((ge : Nat) : Int)]) 28 := (f5.on k3 ne_p0_0_b)
  refine R_pu (pu_loadK f12 (by kernel_rfl) rfl rfl) rfl ?_
  refine R_pu (pu_move rfl) rfl ?_
  refine R_pu (pu_build (L := [.int .u8 ((x : Nat) : Int), .int .u32 ((ge : Nat) : Int), .slice A_th ((thX (L.take (q + 1)) N x).length) (c_th)]) rfl (by kernel_rfl)) rfl ?_
  have f13 : Bk w3 rs ([.int .u8 0, .int .u32 0, .slice none (0) (0)]) 50 := (f_rs_2.on k3 ne_rs_b)
  refine R_lo0 (lo_storeRow (C := [.int .u8 ((x : Nat) : Int), .int .u32 ((ge : Nat) : Int), .slice A_th ((thX (L.take (q + 1)) N x).length) (c_th)]) f13 (by kernel_rfl) rfl rfl (by intro u hu; simp at hu; rcases hu with rfl | rfl | rfl <;> rfl) rfl) ?_
  rintro _ w4 kf4
  obtain ⟨k4, f_rs_4⟩ := kf4
  replace f_rs_4 : Bk w4 rs ([.int .u8 ((x : Nat) : Int), .int .u32 ((ge : Nat) : Int), .slice A_th ((thX (L.take (q + 1)) N x).length) (c_th)]) 50 := f_rs_4
  have kk4 := kk3.trans k4 (fun i hi => .inr (hi ▸ (Nat.le_trans kk1.size N2.le)))
  refine R_pu (pu_assign rfl) rfl ?_
  refine R_nil ?_
  refine X_then hK11 ?_
  refine C_ret ?_
  have ob14 := (Q3.on k4 (by have := f_rs_2.lt; omega))
  have o15 : Tb w4 b := (T3.on k4 (Ne.symm ne_rs_b))
  exact X_retCT (len := 3) (.inl rfl) rfl rfl f_rs_4 (by kernel_rfl) (by kernel_rfl) rfl rfl ⟨_, _, rfl, ob14.low (kk2).size, o15, kk4⟩
set_option maxRecDepth 100000 in
set_option maxHeartbeats 2000000 in
theorem shamirAny_ (A : Option Addr) (l : List Nat) (c : Nat) (ka : Int) (hka : (Lit.int .i64 ka).wf = true) (na : Int) (hna : (Lit.int .i64 na).wf = true) (A2 : Option Addr) (d2 : List Nat) (c2 : Nat) (A5 : Option Addr) (l5 : List Nat) (c5 : Nat) (w : World) (HB : Bs w A l) (hc : l.length ≤ c) (HB2 : Bs w A2 d2) (hc2 : d2.length ≤ c2) (HB5 : Bs w A5 l5) (hc5 : l5.length ≤ c5) (hG : Gt w) : Ret Tryd.prog 7 #[.agg ([.slice A (l.length) (c), .int .i64 (ka), .int .i64 (na), .slice A2 (d2.length) (c2)] : List Value).toArray, .slice A5 (l5.length) (c5)] w (fun v w' => v = .bool true ∧ Kp No w w') := by
  have hu1 := uz_lt ka
  have kk0 := Kp.refl No w
  refine enter (n := 155) [.agg ([.slice A (l.length) (c), .int .i64 (ka), .int .i64 (na), .slice A2 (d2.length) (c2)] : List Value).toArray, .slice A5 (l5.length) (c5)] Tryd.func7 rfl rfl rfl ?_
  show Cw _ _ _ _ [(0, .agg ([.slice A (l.length) (c), .int .i64 (ka), .int .i64 (na), .slice A2 (d2.length) (c2)] : List Value).toArray), (1, .slice A5 (l5.length) (c5))] _
  refine C_seq (fun K1 hK1 => ?_)
  refine C_region ?_
  refine R_lo (lo_box (L := [.slice A (l.length) (c), .int .i64 (ka), .int .i64 (na), .slice A2 (d2.length) (c2)]) rfl rfl) rfl ?_
  rintro _ w1 ⟨p0_0, rfl, N1⟩
  have k1 := N1.kp
  have kk1 := kk0.then_ k1
  have ne_p0_0_0 : p0_0 ≠ 0 := Nat.ne_of_gt (Nat.lt_of_lt_of_le hG.lt N1.le)
  have f_p0_0_1 : Bk w1 p0_0 ([.slice A (l.length) (c), .int .i64 (ka), .int .i64 (na), .slice A2 (d2.length) (c2)]) 46 := N1.bk
  refine R_pu (pu_assign rfl) rfl ?_
  refine R_nil ?_
  refine X_then hK1 ?_
  refine C_seq (fun K2 hK2 => ?_)
  refine C_region ?_
  refine R_pu (pu_loadRow (len := 4) f_p0_0_1 (by kernel_rfl) (by kernel_rfl) rfl rfl) rfl ?_
  refine R_lo (lo_call (by kernel_rfl) rfl (laid_ A l c ka na A2 d2 c2 _ (HB.keptNo kk1) hc (HB2.keptNo kk1) hc2)) rfl ?_
  rintro _ w2 ⟨A_S1, c_S1, A_D1, c_D1, S1, D1, q1, n1, rfl, QS2, QD2, hq1, hS1, hD1, k2⟩
  have kk2 := kk1.then_ k2
  refine R_pu (pu_move rfl) rfl ?_
  refine R_pu (pu_extract rfl rfl) rfl ?_
  refine R_pu (pu_extract rfl rfl) rfl ?_
  refine R_pu (pu_extract rfl rfl) rfl ?_
  have f3 : Bk w2 p0_0 ([.slice A (l.length) (c), .int .i64 (ka), .int .i64 (na), .slice A2 (d2.length) (c2)]) 46 := (f_p0_0_1.no k2)
  have o4 : Gt w2 := ((hG.no k1).no k2)
  refine R_lo (lo_alloc (L := [.int .i64 0, .int .i64 0, .int .u32 0]) (by kernel_rfl)) rfl ?_
  rintro _ w3 ⟨pb, rfl, N3⟩
  have k3 := N3.kp
  have kk3 := kk2.then_ k3
  have ne_pb_p0_0 : pb ≠ p0_0 := Nat.ne_of_gt (Nat.lt_of_lt_of_le f3.lt N3.le)
  have ne_pb_0 : pb ≠ 0 := Nat.ne_of_gt (Nat.lt_of_lt_of_le o4.lt N3.le)
  have f_pb_3 : Bk w3 pb ([.int .i64 0, .int .i64 0, .int .u32 0]) 28 := N3.bk
  refine R_pu (pu_assign rfl) rfl ?_
  refine R_lo0 (lo_storeRow (C := [.int .i64 ((q1 + 1 : Nat) : Int), .int .i64 ((n1 : Nat) : Int), .int .u32 5]) f_pb_3 (by kernel_rfl) rfl rfl (by intro u hu; simp at hu; rcases hu with rfl | rfl | rfl <;> rfl) rfl) ?_
  rintro _ w4 kf4
  obtain ⟨k4, f_pb_4⟩ := kf4
  replace f_pb_4 : Bk w4 pb ([.int .i64 ((q1 + 1 : Nat) : Int), .int .i64 ((n1 : Nat) : Int), .int .u32 5]) 28 := f_pb_4
  have kk4 := kk3.trans k4 (fun i hi => .inr (hi ▸ (Nat.le_trans kk2.size N3.le)))
  refine R_pu (pu_assign rfl) rfl ?_
  refine R_nil ?_
  refine X_then hK2 ?_
  refine C_seq (fun K5 hK5 => ?_)
  refine C_region ?_
  have f6 : Bk w4 p0_0 ([.slice A (l.length) (c), .int .i64 (ka), .int .i64 (na), .slice A2 (d2.length) (c2)]) 46 := ((f3.no k3).on k4 (Ne.symm ne_pb_p0_0))
  have o7 : Gt w4 := ((o4.no k3).on k4 (Ne.symm ne_pb_0))
  have ob8 := ((QS2.keptNo k3).onN k4 QS2 N3.le)
  have ob9 := ((QD2.keptNo k3).onN k4 QD2 N3.le)
  refine R_lo (lo_call (by kernel_rfl) rfl (gf_new _)) rfl ?_
  rintro _ w5 ⟨b2_0, rfl, le5, T5, k5⟩
  have kk5 := kk4.then_ k5
  have ne_b2_0_p0_0 : b2_0 ≠ p0_0 := Nat.ne_of_gt (Nat.lt_of_lt_of_le f6.lt le5)
  have ne_b2_0_pb : b2_0 ≠ pb := Nat.ne_of_gt (Nat.lt_of_lt_of_le f_pb_4.lt le5)
  have ne_b2_0_0 : b2_0 ≠ 0 := Nat.ne_of_gt (Nat.lt_of_lt_of_le o7.lt le5)
  refine R_pu (pu_assign rfl) rfl ?_
  refine R_nil ?_
  refine X_then hK5 ?_
  refine C_seq (fun K10 hK10 => ?_)
  refine C_region ?_
  refine R_pu (pu_move rfl) rfl ?_
  refine R_pu (pu_move rfl) rfl ?_
  have f11 : Bk w5 pb ([.int .i64 ((q1 + 1 : Nat) : Int), .int .i64 ((n1 : Nat) : Int), .int .u32 5]) 28 := (f_pb_4.no k5)
  refine R_pu (pu_loadRow (len := 3) f11 (by kernel_rfl) (by kernel_rfl) rfl rfl) rfl ?_
  refine R_pu (pu_move rfl) rfl ?_
  have ob12 := (ob8.keptNo k5)
  have ob13 := (ob9.keptNo k5)
  have f14 : Bk w5 p0_0 ([.slice A (l.length) (c), .int .i64 (ka), .int .i64 (na), .slice A2 (d2.length) (c2)]) 46 := (f6.no k5)
  have o15 : Gt w5 := (o7.no k5)
  have lm16 := ob12.top
  have lm17 := ob13.top
  refine R_lo (lo_call (by kernel_rfl) rfl (shamir_split b2_0 A_S1 S1 c_S1 q1 n1 5 A_D1 D1 c_D1 _ ob12.bs ob12.le.2 ob13.bs ob13.le.2 (by decide) (by omega) (by omega) hD1 (Od.awN ob8 le5) (Od.awN ob9 le5) T5)) rfl ?_
  rintro _ w6 ⟨A_x, c_x, L_x, rfl, Q6, hK_x, T6, k6⟩
  have kk6 := kk5.trans k6 (fun i hi => .inr (hi ▸ (Nat.le_trans kk4.size le5)))
  have z18 : w5.heap.size ≤ w6.heap.size := k6.size
  have hl_x := (key_len hK_x).trans (ptK_length ..)
  refine R_pu (pu_move rfl) rfl ?_
  refine R_pu (pu_extract rfl rfl) rfl ?_
  refine R_pu (pu_extract rfl rfl) rfl ?_
  refine R_pu (pu_assign rfl) rfl ?_
  refine R_pu (pu_assign rfl) rfl ?_
  refine R_nil ?_
  refine X_then hK10 ?_
  refine C_seq (fun K19 hK19 => ?_)
  refine C_seq (fun K20 hK20 => ?_)
  refine C_region ?_
  refine R_pu (pu_move rfl) rfl ?_
  refine R_pu (pu_neqnn (by kernel_rfl) rfl) rfl ?_
  refine R_pu (pu_move rfl) rfl ?_
  refine R_gpu rfl rfl (pu_move rfl) rfl ?_
  refine R_gpu rfl rfl (pu_len Tryd.underlying29 rfl) rfl ?_
  refine R_gpu rfl rfl (pu_fieldAddr (off := 1) (o' := 1) (by kernel_rfl) rfl rfl) rfl ?_
  have f21 : Bk w6 pb ([.int .i64 ((q1 + 1 : Nat) : Int), .int .i64 ((n1 : Nat) : Int), .int .u32 5]) 28 := (f11.on k6 (Ne.symm ne_b2_0_pb))
  refine R_gpu rfl rfl (pu_loadK f21 (by kernel_rfl) rfl rfl) rfl ?_
  refine R_gpu rfl rfl (pu_false (pu_neq (p := ((L_x).length) = n1) rfl rfl (by omega)) (fun h => h hl_x)) rfl ?_
  refine R_pu (pu_pickf rfl rfl) rfl ?_
  refine R_pu (pu_move rfl) rfl ?_
  refine R_gpu rfl rfl (pu_move rfl) rfl ?_
  refine R_gpu rfl rfl (pu_len Tryd.underlying22 rfl) rfl ?_
  refine R_gpu rfl rfl (pu_gtr (p := l5.length > 60) rfl rfl (by omega)) rfl ?_
  refine R_pu (pu_pickf rfl rfl) rfl ?_
  refine R_nil ?_
  refine X_then hK20 ?_
  refine C_dec rfl (fun h48 => ?_) (fun h48 => ?_)
  · refine C_seq (fun K22 hK22 => ?_)
    refine C_region ?_
    refine R_pu (pu_move rfl) rfl ?_
    refine R_pu (pu_eqlnn (by kernel_rfl) rfl) rfl ?_
    refine R_pu (pu_move rfl) rfl ?_
    refine R_gpu rfl rfl (pu_move rfl) rfl ?_
    refine R_gpu rfl rfl (pu_len Tryd.underlying29 rfl) rfl ?_
    refine R_gpu rfl rfl (pu_fieldAddr (off := 1) (o' := 1) (by kernel_rfl) rfl rfl) rfl ?_
    refine R_gpu rfl rfl (pu_loadK f21 (by kernel_rfl) rfl rfl) rfl ?_
    refine R_gpu rfl rfl (pu_true (pu_eql (p := ((L_x).length) = n1) rfl rfl (by omega)) hl_x) rfl ?_
    refine R_pu (pu_pickt rfl rfl) rfl ?_
    refine R_pu (pu_move rfl) rfl ?_
    have o23 : Gt w6 := (o15.on k6 (Ne.symm ne_b2_0_0))
    refine R_glo rfl rfl (lo_call (by kernel_rfl) rfl (sure03 _ o23)) rfl ?_
    rintro _ w7 ⟨rfl, k7⟩
    have kk7 := kk6.then_ k7
    refine R_pu (pu_pickt rfl rfl) rfl ?_
    refine R_pu (pu_assign rfl) rfl ?_
    refine R_nil ?_
    refine X_then hK22 ?_
    refine C_ret ?_
    refine X_then_ret ?_
    exact X_ret1 (.inl rfl) rfl rfl ⟨rfl, kk7⟩
  · refine C_skip ?_
    refine X_then hK19 ?_
    refine C_seq (fun K24 hK24 => ?_)
    refine C_region ?_
    have f25 : Bk w6 p0_0 ([.slice A (l.length) (c), .int .i64 (ka), .int .i64 (na), .slice A2 (d2.length) (c2)]) 46 := (f14.on k6 (Ne.symm ne_b2_0_p0_0))
    have o26 : Gt w6 := (o15.on k6 (Ne.symm ne_b2_0_0))
    have ob27 := (ob12.onN k6 ob8 le5)
    have ob28 := (ob13.onN k6 ob9 le5)
    refine R_lo (lo_buildSlice0 (sz := 3) Tryd.underlying29 (by kernel_rfl)) rfl ?_
    rintro _ w8 ⟨e0, rfl, N8⟩
    have k8 := N8.kp
    have kk8 := kk6.then_ k8
    have ne_e0_p0_0 : e0 ≠ p0_0 := Nat.ne_of_gt (Nat.lt_of_lt_of_le f25.lt N8.le)
    have ne_e0_pb : e0 ≠ pb := Nat.ne_of_gt (Nat.lt_of_lt_of_le f21.lt N8.le)
    have ne_e0_0 : e0 ≠ 0 := Nat.ne_of_gt (Nat.lt_of_lt_of_le o26.lt N8.le)
    have ne_e0_b2_0 : e0 ≠ b2_0 := Nat.ne_of_gt (Nat.lt_of_lt_of_le T6.lt N8.le)
    have f_e0_8 : Bk w8 e0 ([]) 50 := N8.bk
    refine R_pu (pu_move rfl) rfl ?_
    have sw29 : Sw 50 w5.heap.size w8 w6.heap.size (.slice (some ⟨e0, 0, none⟩) ([] : List Shr).length 0) [] := Sw.ofEmpty f_e0_8 N8.le
    have lm30 := ob27.top
    have lm31 := ob28.top
    have lm32 := Q6.top
    have z33 := N8.kp.size
    have ob34 := (Q6.keptNo k8)
    refine R_lo (lo_apps (L := ([] : List Shr)) (M := L_x) Tryd.underlying29 (by kernel_rfl) sw29 sw29.le.1 rfl rfl rfl ob34.ss (Sw.datNew Q6 N8.le N8.kp.size) (by omega) (by simp; omega) z33) rfl ?_
    rintro _ w9 ⟨A_9, c_9, rfl, p9⟩
    have k9 := p9.kp
    have kk9 := kk8.trans k9 (fun i hi => .inr (Nat.le_trans (kk6).size hi))
    refine R_pu (pu_assign rfl) rfl ?_
    refine R_nil ?_
    refine X_then hK24 ?_
    refine C_seq (fun K35 hK35 => ?_)
    refine C_seq (fun K36 hK36 => ?_)
    obtain ⟨g, hA_g, hgb_g, hgl_g⟩ := p9.ob.blk (by first | (simp; omega) | omega)
    subst hA_g
    have swf37 : Sw 50 w5.heap.size w9 w6.heap.size (.slice (some ⟨g, 0, none⟩) ((L_x).length) (c_9)) (L_x) := by exact p9.ob
    have ne_g_p0_0 : g ≠ p0_0 := by have := (And.intro f25.lt f14.lt); omega
    have ne_g_pb : g ≠ pb := by have := (And.intro f21.lt f11.lt); omega
    have ne_g_0 : g ≠ 0 := by have := (And.intro o26.lt o15.lt); omega
    have ne_g_b2_0 : g ≠ b2_0 := by have := (And.intro T6.lt T5.lt); omega
    refine C_region ?_
    refine R_pu (pu_assign rfl) rfl ?_
    refine R_nil ?_
    refine X_then hK36 ?_
    refine C_block ?_
    have f38 : Bk w9 p0_0 ([.slice A (l.length) (c), .int .i64 (ka), .int .i64 (na), .slice A2 (d2.length) (c2)]) 46 := ((f25.no k8).kept k9 (by have := f25.lt; omega))
    have f39 : Bk w9 pb ([.int .i64 ((q1 + 1 : Nat) : Int), .int .i64 ((n1 : Nat) : Int), .int .u32 5]) 28 := ((f21.no k8).kept k9 (by have := f21.lt; omega))
    have ob40 := ((ob27.keptNo k8).past lm30 k9)
    have ob41 := ((ob28.keptNo k8).past lm31 k9)
    have ob42 := (ob34.past lm32 k9)
    have o43 : Gt w9 := ((o26.no k8).kept k9 (by have := o26.lt; omega))
    have o44 : Tb w9 b2_0 := ((T6.no k8).kept k9 (by have := T6.lt; omega))
    refine C_loop (fun m_ l_ wr => ∃ i : Nat, ∃ M : List Shr, (m_ = l5.length - i) ∧ (l_ = [(1, .slice A5 (l5.length) (c5)), (2, .pointer (some ⟨p0_0, 0, none⟩)), (4, .bool false), (5, .slice A_S1 ((S1).length) (c_S1)), (6, .pointer (some ⟨pb, 0, none⟩)), (8, .pointer (some ⟨b2_0, 0, none⟩)), (9, .slice A_x ((L_x).length) (c_x)), (11, .slice (some ⟨g, 0, none⟩) ((M).length) (c_9)), (12, .int .i64 ((i : Nat) : Int))]) ∧ (i ≤ l5.length) ∧ (M.length = n1) ∧ (∀ s ∈ M, s ∈ L_x) ∧ (Di (ixs M)) ∧ (Kp No w wr) ∧ (Bk wr p0_0 ([.slice A (l.length) (c), .int .i64 (ka), .int .i64 (na), .slice A2 (d2.length) (c2)]) 46) ∧ (Bk wr pb ([.int .i64 ((q1 + 1 : Nat) : Int), .int .i64 ((n1 : Nat) : Int), .int .u32 5]) 28) ∧ (Od wr 0 (.slice A_S1 ((S1).length) (c_S1)) (S1) ∧ 0 ≤ (wr).heap.size) ∧ (Od wr 0 (.slice A_D1 ((D1).length) (c_D1)) (D1) ∧ 0 ≤ (wr).heap.size) ∧ (Sw 50 w5.heap.size wr w5.heap.size (.slice A_x ((L_x).length) (c_x)) (L_x) ∧ w5.heap.size ≤ (wr).heap.size) ∧ (Sw 50 w5.heap.size wr w6.heap.size (.slice (some ⟨g, 0, none⟩) ((M).length) (c_9)) (M) ∧ w6.heap.size ≤ (wr).heap.size) ∧ (Gt wr) ∧ (Tb wr b2_0)) (l5.length - 0) [(1, .slice A5 (l5.length) (c5)), (2, .pointer (some ⟨p0_0, 0, none⟩)), (4, .bool false), (5, .slice A_S1 ((S1).length) (c_S1)), (6, .pointer (some ⟨pb, 0, none⟩)), (8, .pointer (some ⟨b2_0, 0, none⟩)), (9, .slice A_x ((L_x).length) (c_x)), (11, .slice (some ⟨g, 0, none⟩) ((L_x).length) (c_9)), (12, .int .i64 0)] (Sub.cons rfl (Sub.cons rfl (Sub.cons rfl (Sub.cons rfl (Sub.cons rfl (Sub.cons rfl (Sub.cons rfl (Sub.cons rfl (Sub.cons rfl (Sub.nil _)))))))))) ⟨0, L_x, rfl, rfl, by omega, hl_x, (fun s h => h), (di_of hK_x), kk9, f38, f39, ⟨ob40, (Nat.zero_le _)⟩, ⟨ob41, (Nat.zero_le _)⟩, ⟨ob42, (Nat.le_trans (Nat.le_trans z18 k8.size) k9.size)⟩, ⟨swf37, (Nat.le_trans z33 k9.size)⟩, o43, o44⟩ ?_
    rintro _ _ w10 ⟨i, M, rfl, rfl, hi, hM, hsub, hdi, kk10, f_p0_0_10, f_pb_10, S1_10, D1_10, x_10, m_10, G_10, T_b2_0_10⟩
    refine C_seq (fun K45 hK45 => ?_)
    refine C_seq (fun K46 hK46 => ?_)
    refine C_region ?_
    refine R_pu (pu_move rfl) rfl ?_
    refine R_pu (pu_move rfl) rfl ?_
    refine R_pu (pu_len Tryd.underlying22 rfl) rfl ?_
    refine R_pu (pu_lss (p := i < l5.length) rfl rfl (by omega)) rfl ?_
    refine R_nil ?_
    refine X_then hK46 ?_
    refine C_dec rfl (fun h67 => ?_) (fun h67 => ?_)
    · refine C_skip ?_
      refine X_then hK45 ?_
      refine C_seq (fun K47 hK47 => ?_)
      refine C_block ?_
      refine C_seq (fun K48 hK48 => ?_)
      refine D_begin (fun W => Kp No w W ∧ Bk W p0_0 ([.slice A (l.length) (c), .int .i64 (ka), .int .i64 (na), .slice A2 (d2.length) (c2)]) 46 ∧ Bk W pb ([.int .i64 ((q1 + 1 : Nat) : Int), .int .i64 ((n1 : Nat) : Int), .int .u32 5]) 28 ∧ Gt W ∧ Tb W b2_0) 14 rfl (by kernel_rfl) ⟨kk10.drew, f_p0_0_10.draw, f_pb_10.draw, G_10.draw, T_b2_0_10.draw⟩ ?_
      intro w11 k11 _
      have kk11 := kk10.then_ k11
      refine D_take 0 rfl (by kernel_rfl) (by kernel_rfl) (by kernel_rfl) (fun _ _ _ h => h) rfl (fun W hS => pu_move rfl) ?_
      refine D_take 1 rfl (by kernel_rfl) (by kernel_rfl) (by kernel_rfl) (fun _ _ _ h => h) rfl (fun W hS => pu_fieldAddr (off := 1) (o' := 1) (by kernel_rfl) rfl rfl) ?_
      refine D_take 2 rfl (by kernel_rfl) (by kernel_rfl) (by kernel_rfl) (fun _ _ _ h => h) rfl (fun W hS => pu_loadK hS.2.2.1 (by kernel_rfl) rfl rfl) ?_
      refine D_take 3 rfl (by kernel_rfl) (by kernel_rfl) (by kernel_rfl) (fun _ _ _ h => h) rfl (fun W hS => pu_rem (z := ((i % n1 : Nat) : Int)) rfl rfl (by omega) (by rfl)) ?_
      refine D_take 4 rfl (by kernel_rfl) (by kernel_rfl) (by kernel_rfl) (fun _ _ _ h => h) rfl (fun W hS => pu_move rfl) ?_
      refine D_take 5 rfl (by kernel_rfl) (by kernel_rfl) (by kernel_rfl) (fun _ _ _ h => h) rfl (fun W hS => pu_move rfl) ?_
      refine D_take 6 rfl (by kernel_rfl) (by kernel_rfl) (by kernel_rfl) (fun _ _ _ h => h) rfl (fun W hS => pu_indexAddrB (m := i) (HB5.keptNo hS.1) Tryd.underlying22 (by kernel_rfl) rfl rfl rfl rfl (by omega)) ?_
      obtain ⟨nb, e_nb⟩ : ∃ q_, (l5)[i]? = some q_ := ⟨_, List.getElem?_eq_getElem (by omega)⟩
      have b_nb : nb < 256 := ((HB5.keptNo kk11)).lt e_nb
      refine D_take 7 rfl (by kernel_rfl) (by kernel_rfl) (by kernel_rfl) (fun _ _ _ h => h) rfl (fun W hS => pu_loadB (HB5.keptNo hS.1) (by kernel_rfl) rfl e_nb) ?_
      refine D_take 8 rfl (by kernel_rfl) (by kernel_rfl) (by kernel_rfl) (fun _ _ _ h => h) rfl (fun W hS => pu_conv (z := ((nb : Nat) : Int)) Tryd.underlying5 Tryd.underlying3 rfl (by have : nb < 256 := b_nb; rw [IntKind.wrap_i64]; omega)) ?_
      refine D_take 9 rfl (by kernel_rfl) (by kernel_rfl) (by kernel_rfl) (fun _ _ _ h => h) rfl (fun W hS => pu_fieldAddr (off := 1) (o' := 1) (by kernel_rfl) rfl rfl) ?_
      refine D_take 10 rfl (by kernel_rfl) (by kernel_rfl) (by kernel_rfl) (fun _ _ _ h => h) rfl (fun W hS => pu_loadK hS.2.2.1 (by kernel_rfl) rfl rfl) ?_
      refine D_take 11 rfl (by kernel_rfl) (by kernel_rfl) (by kernel_rfl) (fun _ _ _ h => h) rfl (fun W hS => pu_rem (z := ((nb % n1 : Nat) : Int)) rfl rfl (by omega) (by rfl)) ?_
      refine D_take 12 rfl (by kernel_rfl) (by kernel_rfl) (by kernel_rfl) (fun _ _ _ h => h) rfl (fun W hS => pu_assign rfl) ?_
      refine D_take 13 rfl (by kernel_rfl) (by kernel_rfl) (by kernel_rfl) (fun _ _ _ h => h) rfl (fun W hS => pu_assign rfl) ?_
      refine D_done (by kernel_rfl) ?_
      refine X_then hK48 ?_
      have hra := Nat.mod_lt i (show 0 < n1 by omega); have hrb := Nat.mod_lt nb (show 0 < n1 by omega)
      have f49 : Bk w11 p0_0 ([.slice A (l.length) (c), .int .i64 (ka), .int .i64 (na), .slice A2 (d2.length) (c2)]) 46 := (f_p0_0_10.no k11)
      have f50 : Bk w11 pb ([.int .i64 ((q1 + 1 : Nat) : Int), .int .i64 ((n1 : Nat) : Int), .int .u32 5]) 28 := (f_pb_10.no k11)
      have o51 : Gt w11 := (G_10.no k11)
      have o52 : Tb w11 b2_0 := (T_b2_0_10.no k11)
      refine D_begin (fun W => Kp No w W ∧ Bk W p0_0 ([.slice A (l.length) (c), .int .i64 (ka), .int .i64 (na), .slice A2 (d2.length) (c2)]) 46 ∧ Bk W pb ([.int .i64 ((q1 + 1 : Nat) : Int), .int .i64 ((n1 : Nat) : Int), .int .u32 5]) 28 ∧ Gt W ∧ Tb W b2_0) 16 rfl (by kernel_rfl) ⟨kk11.drew, f49.draw, f50.draw, o51.draw, o52.draw⟩ ?_
      intro w12 k12 _
      have kk12 := kk11.then_ k12
      refine D_take 0 rfl (by kernel_rfl) (by kernel_rfl) (by kernel_rfl) (fun _ _ _ h => h) rfl (fun W hS => pu_move rfl) ?_
      refine D_take 1 rfl (by kernel_rfl) (by kernel_rfl) (by kernel_rfl) (fun _ _ _ h => h) rfl (fun W hS => pu_move rfl) ?_
      refine D_take 2 rfl (by kernel_rfl) (by kernel_rfl) (by kernel_rfl) (fun _ _ _ h => h) rfl (fun W hS => pu_move rfl) ?_
      refine D_take 3 rfl (by kernel_rfl) (by kernel_rfl) (by kernel_rfl) (fun _ _ _ h => h) rfl (fun W hS => pu_move rfl) ?_
      refine D_take 4 rfl (by kernel_rfl) (by kernel_rfl) (by kernel_rfl) (fun _ _ _ h => h) rfl (fun W hS => pu_move rfl) ?_
      refine D_take 5 rfl (by kernel_rfl) (by kernel_rfl) (by kernel_rfl) (fun _ _ _ h => h) rfl (fun W hS => pu_move rfl) ?_
      refine D_take 6 rfl (by kernel_rfl) (by kernel_rfl) (by kernel_rfl) (fun _ _ _ h => h) rfl (fun W hS => pu_indexAddrG Tryd.underlying29 (by kernel_rfl) rfl rfl rfl (by omega)) ?_
      refine D_take 8 rfl (by kernel_rfl) (by kernel_rfl) (by kernel_rfl) (fun _ _ _ h => h) rfl (fun W hS => pu_move rfl) ?_
      refine D_take 9 rfl (by kernel_rfl) (by kernel_rfl) (by kernel_rfl) (fun _ _ _ h => h) rfl (fun W hS => pu_move rfl) ?_
      refine D_take 10 rfl (by kernel_rfl) (by kernel_rfl) (by kernel_rfl) (fun _ _ _ h => h) rfl (fun W hS => pu_indexAddrG Tryd.underlying29 (by kernel_rfl) rfl rfl rfl (by omega)) ?_
      refine D_two 7 11 (by kernel_rfl) ?_ ?_
      · have ob53 := ((m_10.1.keptNo k11).keptNo k12)
        obtain ⟨sb, e_sb⟩ : ∃ q_, (M)[nb % n1]? = some q_ := ⟨_, List.getElem?_eq_getElem (by first | omega | (simp; done) | (simp; omega))⟩
        have ok_sb := ob53.ss.get e_sb
        have od_sb := ob53.od e_sb
        have bi_sb : sb.ix < 256 := ok_sb.ix
        have f54 : Bk w12 p0_0 ([.slice A (l.length) (c), .int .i64 (ka), .int .i64 (na), .slice A2 (d2.length) (c2)]) 46 := (f49.no k12)
        have f55 : Bk w12 pb ([.int .i64 ((q1 + 1 : Nat) : Int), .int .i64 ((n1 : Nat) : Int), .int .u32 5]) 28 := (f50.no k12)
        have o56 : Gt w12 := (o51.no k12)
        have o57 : Tb w12 b2_0 := (o52.no k12)
        refine Nx_pu rfl (pu_loadHr ob53.ss e_sb (by kernel_rfl) (by kernel_rfl) rfl) rfl ⟨⟨kk12, f54, f55, o56, o57⟩, ?_⟩
        obtain ⟨sa, e_sa⟩ : ∃ q_, (M)[i % n1]? = some q_ := ⟨_, List.getElem?_eq_getElem (by first | omega | (simp; done) | (simp; omega))⟩
        have ok_sa := ob53.ss.get e_sa
        have od_sa := ob53.od e_sa
        have bi_sa : sa.ix < 256 := ok_sa.ix
        refine D_one 11 (by kernel_rfl) (Nx_pu rfl (pu_loadHr ob53.ss e_sa (by kernel_rfl) (by kernel_rfl) rfl) rfl ⟨⟨kk12, f54, f55, o56, o57⟩, ?_⟩)
        refine D_take 12 rfl (by kernel_rfl) (by kernel_rfl) (by kernel_rfl) (fun _ _ _ h => h) rfl (fun W hS => pu_indexAddrG Tryd.underlying29 (by kernel_rfl) rfl rfl rfl (by omega)) ?_
        have ob58 := ((x_10.1.keptNo k11).keptNo k12)
        refine D_one 13 (by kernel_rfl) (Nx_lo0 rfl (lo_storeSw (s := sb) ob53 (by kernel_rfl) rfl rfl (by first | omega | (rw [List.length_set]; omega)) (ob58.ok _ (hsub _ (List.mem_of_getElem? e_sb))) (Sw.datT ob58 lm32 hgb_g (hsub _ (List.mem_of_getElem? e_sb)))) ?_)
        rintro _ w13 kf13
        obtain ⟨q13, k13⟩ := kf13
        have kk13 := kk12.trans k13 (fun i hi => .inr (hi ▸ (Nat.le_trans (kk6).size hgb_g)))
        have f59 : Bk w13 p0_0 ([.slice A (l.length) (c), .int .i64 (ka), .int .i64 (na), .slice A2 (d2.length) (c2)]) 46 := (f54.on k13 (Ne.symm ne_g_p0_0))
        have f60 : Bk w13 pb ([.int .i64 ((q1 + 1 : Nat) : Int), .int .i64 ((n1 : Nat) : Int), .int .u32 5]) 28 := (f55.on k13 (Ne.symm ne_g_pb))
        have o61 : Gt w13 := (o56.on k13 (Ne.symm ne_g_0))
        have o62 : Tb w13 b2_0 := (o57.on k13 (Ne.symm ne_g_b2_0))
        refine ⟨⟨kk13, f59, f60, o61, o62⟩, ?_⟩
        refine D_take 14 rfl (by kernel_rfl) (by kernel_rfl) (by kernel_rfl) (fun _ _ _ h => h) rfl (fun W hS => pu_indexAddrG Tryd.underlying29 (by kernel_rfl) rfl rfl rfl (by omega)) ?_
        have ob63 := (ob58.onT k13 lm32 hgb_g)
        refine D_one 15 (by kernel_rfl) (Nx_lo0 rfl (lo_storeSw (s := sa) q13 (by kernel_rfl) rfl rfl (by first | omega | (rw [List.length_set]; omega)) (ob63.ok _ (hsub _ (List.mem_of_getElem? e_sa))) (Sw.datT ob63 lm32 hgb_g (hsub _ (List.mem_of_getElem? e_sa)))) ?_)
        rintro _ w14 kf14
        obtain ⟨q14, k14⟩ := kf14
        have kk14 := kk13.trans k14 (fun i hi => .inr (hi ▸ (Nat.le_trans (kk6).size hgb_g)))
        have f64 : Bk w14 p0_0 ([.slice A (l.length) (c), .int .i64 (ka), .int .i64 (na), .slice A2 (d2.length) (c2)]) 46 := (f59.on k14 (Ne.symm ne_g_p0_0))
        have f65 : Bk w14 pb ([.int .i64 ((q1 + 1 : Nat) : Int), .int .i64 ((n1 : Nat) : Int), .int .u32 5]) 28 := (f60.on k14 (Ne.symm ne_g_pb))
        have o66 : Gt w14 := (o61.on k14 (Ne.symm ne_g_0))
        have o67 : Tb w14 b2_0 := (o62.on k14 (Ne.symm ne_g_b2_0))
        refine ⟨⟨kk14, f64, f65, o66, o67⟩, ?_⟩
        refine D_done (by kernel_rfl) ?_
        refine X_in_normal ?_
        refine X_then hK47 ?_
        refine C_region ?_
        refine R_pu (pu_move rfl) rfl ?_
        refine R_pu (pu_add (z := ((i + 1 : Nat) : Int)) rfl rfl (by rw [IntKind.wrap_i64]; omega)) rfl ?_
        refine R_pu (pu_assign rfl) rfl ?_
        refine R_nil ?_
        have ob68 := ((((S1_10.1.keptNo k11).keptNo k12).onT k13 lm30 hgb_g).onT k14 lm30 hgb_g)
        have ob69 := ((((D1_10.1.keptNo k11).keptNo k12).onT k13 lm31 hgb_g).onT k14 lm31 hgb_g)
        have ob70 := (ob63.onT k14 lm32 hgb_g)
        refine X_round (l5.length - (i + 1)) [(1, .slice A5 (l5.length) (c5)), (2, .pointer (some ⟨p0_0, 0, none⟩)), (4, .bool false), (5, .slice A_S1 ((S1).length) (c_S1)), (6, .pointer (some ⟨pb, 0, none⟩)), (8, .pointer (some ⟨b2_0, 0, none⟩)), (9, .slice A_x ((L_x).length) (c_x)), (11, .slice (some ⟨g, 0, none⟩) ((((M.set (i % n1) sb).set (nb % n1) sa)).length) (c_9)), (12, .int .i64 (((i + 1) : Nat) : Int))] (by omega) (Sub.cons rfl (Sub.cons rfl (Sub.cons rfl (Sub.cons rfl (Sub.cons rfl (Sub.cons rfl (Sub.cons rfl (Sub.consE rfl (by rw [List.length_set, List.length_set]) (Sub.cons rfl (Sub.nil _)))))))))) ⟨i + 1, (M.set (i % n1) sb).set (nb % n1) sa, rfl, rfl, by omega, (by rw [List.length_set, List.length_set]; exact hM), (mem_set2 hsub (hsub _ (List.mem_of_getElem? e_sb)) (hsub _ (List.mem_of_getElem? e_sa))), (by rw [ixs_set, ixs_set]; exact swap_di hdi (ixs_get e_sa) (ixs_get e_sb)), kk14, f64, f65, ⟨ob68, (Nat.zero_le _)⟩, ⟨ob69, (Nat.zero_le _)⟩, ⟨ob70, (Nat.le_trans (Nat.le_trans (Nat.le_trans (Nat.le_trans x_10.2 k11.size) k12.size) k13.size) k14.size)⟩, ⟨by rw [List.length_set, List.length_set]; exact q14, (Nat.le_trans (Nat.le_trans (Nat.le_trans (Nat.le_trans m_10.2 k11.size) k12.size) k13.size) k14.size)⟩, o66, o67⟩
      · have ob71 := ((m_10.1.keptNo k11).keptNo k12)
        obtain ⟨sa, e_sa⟩ : ∃ q_, (M)[i % n1]? = some q_ := ⟨_, List.getElem?_eq_getElem (by first | omega | (simp; done) | (simp; omega))⟩
        have ok_sa := ob71.ss.get e_sa
        have od_sa := ob71.od e_sa
        have bi_sa : sa.ix < 256 := ok_sa.ix
        have f72 : Bk w12 p0_0 ([.slice A (l.length) (c), .int .i64 (ka), .int .i64 (na), .slice A2 (d2.length) (c2)]) 46 := (f49.no k12)
        have f73 : Bk w12 pb ([.int .i64 ((q1 + 1 : Nat) : Int), .int .i64 ((n1 : Nat) : Int), .int .u32 5]) 28 := (f50.no k12)
        have o74 : Gt w12 := (o51.no k12)
        have o75 : Tb w12 b2_0 := (o52.no k12)
        refine Nx_pu rfl (pu_loadHr ob71.ss e_sa (by kernel_rfl) (by kernel_rfl) rfl) rfl ⟨⟨kk12, f72, f73, o74, o75⟩, ?_⟩
        obtain ⟨sb, e_sb⟩ : ∃ q_, (M)[nb % n1]? = some q_ := ⟨_, List.getElem?_eq_getElem (by first | omega | (simp; done) | (simp; omega))⟩
        have ok_sb := ob71.ss.get e_sb
        have od_sb := ob71.od e_sb
        have bi_sb : sb.ix < 256 := ok_sb.ix
        refine D_one 7 (by kernel_rfl) (Nx_pu rfl (pu_loadHr ob71.ss e_sb (by kernel_rfl) (by kernel_rfl) rfl) rfl ⟨⟨kk12, f72, f73, o74, o75⟩, ?_⟩)
        refine D_take 12 rfl (by kernel_rfl) (by kernel_rfl) (by kernel_rfl) (fun _ _ _ h => h) rfl (fun W hS => pu_indexAddrG Tryd.underlying29 (by kernel_rfl) rfl rfl rfl (by omega)) ?_
        have ob76 := ((x_10.1.keptNo k11).keptNo k12)
        refine D_one 13 (by kernel_rfl) (Nx_lo0 rfl (lo_storeSw (s := sb) ob71 (by kernel_rfl) rfl rfl (by first | omega | (rw [List.length_set]; omega)) (ob76.ok _ (hsub _ (List.mem_of_getElem? e_sb))) (Sw.datT ob76 lm32 hgb_g (hsub _ (List.mem_of_getElem? e_sb)))) ?_)
        rintro _ w15 kf15
        obtain ⟨q15, k15⟩ := kf15
        have kk15 := kk12.trans k15 (fun i hi => .inr (hi ▸ (Nat.le_trans (kk6).size hgb_g)))
        have f77 : Bk w15 p0_0 ([.slice A (l.length) (c), .int .i64 (ka), .int .i64 (na), .slice A2 (d2.length) (c2)]) 46 := (f72.on k15 (Ne.symm ne_g_p0_0))
        have f78 : Bk w15 pb ([.int .i64 ((q1 + 1 : Nat) : Int), .int .i64 ((n1 : Nat) : Int), .int .u32 5]) 28 := (f73.on k15 (Ne.symm ne_g_pb))
        have o79 : Gt w15 := (o74.on k15 (Ne.symm ne_g_0))
        have o80 : Tb w15 b2_0 := (o75.on k15 (Ne.symm ne_g_b2_0))
        refine ⟨⟨kk15, f77, f78, o79, o80⟩, ?_⟩
        refine D_take 14 rfl (by kernel_rfl) (by kernel_rfl) (by kernel_rfl) (fun _ _ _ h => h) rfl (fun W hS => pu_indexAddrG Tryd.underlying29 (by kernel_rfl) rfl rfl rfl (by omega)) ?_
        have ob81 := (ob76.onT k15 lm32 hgb_g)
        refine D_one 15 (by kernel_rfl) (Nx_lo0 rfl (lo_storeSw (s := sa) q15 (by kernel_rfl) rfl rfl (by first | omega | (rw [List.length_set]; omega)) (ob81.ok _ (hsub _ (List.mem_of_getElem? e_sa))) (Sw.datT ob81 lm32 hgb_g (hsub _ (List.mem_of_getElem? e_sa)))) ?_)
        rintro _ w16 kf16
        obtain ⟨q16, k16⟩ := kf16
        have kk16 := kk15.trans k16 (fun i hi => .inr (hi ▸ (Nat.le_trans (kk6).size hgb_g)))
        have f82 : Bk w16 p0_0 ([.slice A (l.length) (c), .int .i64 (ka), .int .i64 (na), .slice A2 (d2.length) (c2)]) 46 := (f77.on k16 (Ne.symm ne_g_p0_0))
        have f83 : Bk w16 pb ([.int .i64 ((q1 + 1 : Nat) : Int), .int .i64 ((n1 : Nat) : Int), .int .u32 5]) 28 := (f78.on k16 (Ne.symm ne_g_pb))
        have o84 : Gt w16 := (o79.on k16 (Ne.symm ne_g_0))
        have o85 : Tb w16 b2_0 := (o80.on k16 (Ne.symm ne_g_b2_0))
        refine ⟨⟨kk16, f82, f83, o84, o85⟩, ?_⟩
        refine D_done (by kernel_rfl) ?_
        refine X_in_normal ?_
        refine X_then hK47 ?_
        refine C_region ?_
        refine R_pu (pu_move rfl) rfl ?_
        refine R_pu (pu_add (z := ((i + 1 : Nat) : Int)) rfl rfl (by rw [IntKind.wrap_i64]; omega)) rfl ?_
        refine R_pu (pu_assign rfl) rfl ?_
        refine R_nil ?_
        have ob86 := ((((S1_10.1.keptNo k11).keptNo k12).onT k15 lm30 hgb_g).onT k16 lm30 hgb_g)
        have ob87 := ((((D1_10.1.keptNo k11).keptNo k12).onT k15 lm31 hgb_g).onT k16 lm31 hgb_g)
        have ob88 := (ob81.onT k16 lm32 hgb_g)
        refine X_round (l5.length - (i + 1)) [(1, .slice A5 (l5.length) (c5)), (2, .pointer (some ⟨p0_0, 0, none⟩)), (4, .bool false), (5, .slice A_S1 ((S1).length) (c_S1)), (6, .pointer (some ⟨pb, 0, none⟩)), (8, .pointer (some ⟨b2_0, 0, none⟩)), (9, .slice A_x ((L_x).length) (c_x)), (11, .slice (some ⟨g, 0, none⟩) ((((M.set (i % n1) sb).set (nb % n1) sa)).length) (c_9)), (12, .int .i64 (((i + 1) : Nat) : Int))] (by omega) (Sub.cons rfl (Sub.cons rfl (Sub.cons rfl (Sub.cons rfl (Sub.cons rfl (Sub.cons rfl (Sub.cons rfl (Sub.consE rfl (by rw [List.length_set, List.length_set]) (Sub.cons rfl (Sub.nil _)))))))))) ⟨i + 1, (M.set (i % n1) sb).set (nb % n1) sa, rfl, rfl, by omega, (by rw [List.length_set, List.length_set]; exact hM), (mem_set2 hsub (hsub _ (List.mem_of_getElem? e_sb)) (hsub _ (List.mem_of_getElem? e_sa))), (by rw [ixs_set, ixs_set]; exact swap_di hdi (ixs_get e_sa) (ixs_get e_sb)), kk16, f82, f83, ⟨ob86, (Nat.zero_le _)⟩, ⟨ob87, (Nat.zero_le _)⟩, ⟨ob88, (Nat.le_trans (Nat.le_trans (Nat.le_trans (Nat.le_trans x_10.2 k11.size) k12.size) k15.size) k16.size)⟩, ⟨by rw [List.length_set, List.length_set]; exact q16, (Nat.le_trans (Nat.le_trans (Nat.le_trans (Nat.le_trans m_10.2 k11.size) k12.size) k15.size) k16.size)⟩, o84, o85⟩
    · refine C_exit ?_
      refine X_then_exit (X_then_exit (X_in_eq ?_))
      refine X_then hK35 ?_
      refine C_seq (fun K89 hK89 => ?_)
      refine C_region ?_
      refine R_pu (pu_move rfl) rfl ?_
      refine R_pu (pu_move rfl) rfl ?_
      refine R_pu (pu_loadRow (len := 3) f_pb_10 (by kernel_rfl) (by kernel_rfl) rfl rfl) rfl ?_
      have hlm := (m_10.1).le
      have lm90 := S1_10.1.top
      have lm91 := D1_10.1.top
      have lm92 := x_10.1.top
      have lm93 := m_10.1.top
      refine R_lo (lo_call (by kernel_rfl) rfl (shamir_combine b2_0 (some ⟨g, 0, none⟩) M c_9 q1 n1 5 S1.length _ m_10.1.ss ⟨by omega, ⟨by omega, by omega, by omega⟩, by decide, good_sub hK_x hsub hdi (by omega) (by omega) _⟩ (m_10.1.aw (by have := (And.intro T6.lt T5.lt); omega)) T_b2_0_10)) rfl ?_
      rintro _ w17 ⟨A_oo, c_oo, rfl, Q17, T17, k17⟩
      have kk17 := kk10.trans k17 (fun i hi => .inr (hi ▸ (Nat.le_trans kk4.size le5)))
      have z94 : w10.heap.size ≤ w17.heap.size := k17.size
      refine R_pu (pu_move rfl) rfl ?_
      refine R_pu (pu_extract rfl rfl) rfl ?_
      refine R_pu (pu_extract rfl rfl) rfl ?_
      refine R_pu (pu_assign rfl) rfl ?_
      refine R_pu (pu_assign rfl) rfl ?_
      refine R_nil ?_
      refine X_then hK89 ?_
      refine C_seq (fun K95 hK95 => ?_)
      have hr13 := Nat.mod_lt (uz ka) (show 0 < n1 by omega)
      refine C_region ?_
      refine R_pu (pu_move rfl) rfl ?_
      refine R_pu (pu_fieldAddr (off := 1) (o' := 1) (by kernel_rfl) rfl rfl) rfl ?_
      have f96 : Bk w17 p0_0 ([.slice A (l.length) (c), .int .i64 (ka), .int .i64 (na), .slice A2 (d2.length) (c2)]) 46 := (f_p0_0_10.on k17 (Ne.symm ne_b2_0_p0_0))
      refine R_pu (pu_loadK f96 (by kernel_rfl) rfl rfl) rfl ?_
      refine R_pu (pu_conv (z := ((uz ka : Nat) : Int)) Tryd.underlying3 Tryd.underlying65 rfl (wrap_uz ka)) rfl ?_
      refine R_pu (pu_fieldAddr (off := 1) (o' := 1) (by kernel_rfl) rfl rfl) rfl ?_
      have f97 : Bk w17 pb ([.int .i64 ((q1 + 1 : Nat) : Int), .int .i64 ((n1 : Nat) : Int), .int .u32 5]) 28 := (f_pb_10.on k17 (Ne.symm ne_b2_0_pb))
      refine R_pu (pu_loadK f97 (by kernel_rfl) rfl rfl) rfl ?_
      refine R_pu (pu_conv (z := ((n1 : Nat) : Int)) Tryd.underlying3 Tryd.underlying65 rfl (by rw [IntKind.wrap_u64]; omega)) rfl ?_
      refine R_pu (pu_rem (z := (((uz ka) % n1 : Nat) : Int)) rfl rfl (by omega) (by rfl)) rfl ?_
      refine R_pu (pu_conv (z := (((uz ka) % n1 : Nat) : Int)) Tryd.underlying65 Tryd.underlying3 rfl (by rw [IntKind.wrap_i64]; omega)) rfl ?_
      have ob98 := (x_10.1.on k17 (by have := T5.lt; omega))
      obtain ⟨s9, e_s9⟩ : ∃ q_, (L_x)[(uz ka) % n1]? = some q_ := ⟨_, List.getElem?_eq_getElem (by first | omega | (simp; done) | (simp; omega))⟩
      have ok_s9 := ob98.ss.get e_s9
      have od_s9 := ob98.od e_s9
      have bi_s9 : s9.ix < 256 := ok_s9.ix
      refine R_pu (pu_indexAddrH ob98.ss Tryd.underlying29 (by kernel_rfl) rfl rfl rfl rfl e_s9) rfl ?_
      refine R_pu (pu_loadHr ob98.ss e_s9 (by kernel_rfl) (by kernel_rfl) rfl) rfl ?_
      have o99 : Gt w17 := (G_10.on k17 (Ne.symm ne_b2_0_0))
      have ob100 := (S1_10.1.onN k17 ob8 le5)
      have ob101 := (D1_10.1.onN k17 ob9 le5)
      have ob102 := (m_10.1.on k17 (by have := (And.intro T6.lt T5.lt); omega))
      refine R_lo (lo_alloc (L := [.int .u8 0, .int .u32 0, .slice none (0) (0)]) (by kernel_rfl)) rfl ?_
      rintro _ w18 ⟨xb, rfl, N18⟩
      have k18 := N18.kp
      have kk18 := kk17.then_ k18
      have ne_xb_p0_0 : xb ≠ p0_0 := Nat.ne_of_gt (Nat.lt_of_lt_of_le f96.lt N18.le)
      have ne_xb_pb : xb ≠ pb := Nat.ne_of_gt (Nat.lt_of_lt_of_le f97.lt N18.le)
      have ne_xb_0 : xb ≠ 0 := Nat.ne_of_gt (Nat.lt_of_lt_of_le o99.lt N18.le)
      have ne_xb_b2_0 : xb ≠ b2_0 := Nat.ne_of_gt (Nat.lt_of_lt_of_le T17.lt N18.le)
      have f_xb_18 : Bk w18 xb ([.int .u8 0, .int .u32 0, .slice none (0) (0)]) 50 := N18.bk
      refine R_lo0 (lo_storeRow (C := [.int .u8 ((s9.ix : Nat) : Int), .int .u32 ((s9.gen : Nat) : Int), .slice s9.A ((s9.X).length) (s9.c)]) f_xb_18 (by kernel_rfl) rfl rfl (by intro u hu; simp at hu; rcases hu with rfl | rfl | rfl <;> rfl) rfl) ?_
      rintro _ w19 kf19
      obtain ⟨k19, f_xb_19⟩ := kf19
      replace f_xb_19 : Bk w19 xb ([.int .u8 ((s9.ix : Nat) : Int), .int .u32 ((s9.gen : Nat) : Int), .slice s9.A ((s9.X).length) (s9.c)]) 50 := f_xb_19
      have kk19 := kk18.trans k19 (fun i hi => .inr (hi ▸ (Nat.le_trans kk17.size N18.le)))
      refine R_nil ?_
      refine X_then hK95 ?_
      refine C_seq (fun K103 hK103 => ?_)
      have hp9 := part_of hK_x (List.mem_of_getElem? e_s9)
      refine C_region ?_
      refine R_pu (pu_move rfl) rfl ?_
      refine R_pu (pu_move rfl) rfl ?_
      have f104 : Bk w19 pb ([.int .i64 ((q1 + 1 : Nat) : Int), .int .i64 ((n1 : Nat) : Int), .int .u32 5]) 28 := ((f97.no k18).on k19 (Ne.symm ne_xb_pb))
      refine R_pu (pu_loadRow (len := 3) f104 (by kernel_rfl) (by kernel_rfl) rfl rfl) rfl ?_
      refine R_pu (pu_fieldAddr (off := 0) (o' := 0) (by kernel_rfl) rfl rfl) rfl ?_
      refine R_pu (pu_loadK f_xb_19 (by kernel_rfl) rfl rfl) rfl ?_
      have ob105 := ((ob102.keptNo k18).onN k19 ob102 N18.le)
      have o106 : Tb w19 b2_0 := ((T17.no k18).on k19 (Ne.symm ne_xb_b2_0))
      have f107 : Bk w19 p0_0 ([.slice A (l.length) (c), .int .i64 (ka), .int .i64 (na), .slice A2 (d2.length) (c2)]) 46 := ((f96.no k18).on k19 (Ne.symm ne_xb_p0_0))
      have o108 : Gt w19 := ((o99.no k18).on k19 (Ne.symm ne_xb_0))
      have ob110 := ((ob100.keptNo k18).onN k19 ob100 N18.le)
      have lm109 := ob110.top
      have ob112 := ((ob101.keptNo k18).onN k19 ob101 N18.le)
      have lm111 := ob112.top
      have ob114 := ((ob98.keptNo k18).onN k19 ob98 N18.le)
      have lm113 := ob114.top
      have lm115 := ob105.top
      have ob117 := ((Q17.keptNo k18).onN k19 Q17 N18.le)
      have lm116 := ob117.top
      have ob119 := ((od_s9.keptNo k18).onN k19 od_s9 N18.le)
      have lm118 := ob119.top
      refine R_lo (lo_call (by kernel_rfl) rfl (shamir_at b2_0 (some ⟨g, 0, none⟩) M c_9 q1 n1 5 s9.ix S1.length _ ob105.ss ⟨by omega, ⟨by omega, by omega, by omega⟩, by decide, good_sub hK_x hsub hdi (by omega) (by omega) _⟩ ok_s9.ix ⟨by omega, by omega⟩ (ob105.aw (by have := (And.intro T6.lt T5.lt); omega)) o106)) rfl ?_
      rintro _ w20 ⟨A_yy, c_yy, rfl, Q20, T20, k20⟩
      have kk20 := kk19.trans k20 (fun i hi => .inr (hi ▸ (Nat.le_trans kk4.size le5)))
      have z120 : w19.heap.size ≤ w20.heap.size := k20.size
      refine R_pu (pu_move rfl) rfl ?_
      refine R_pu (pu_extract rfl rfl) rfl ?_
      refine R_pu (pu_extract rfl rfl) rfl ?_
      have f121 : Bk w20 p0_0 ([.slice A (l.length) (c), .int .i64 (ka), .int .i64 (na), .slice A2 (d2.length) (c2)]) 46 := (f107.on k20 (Ne.symm ne_b2_0_p0_0))
      have f122 : Bk w20 pb ([.int .i64 ((q1 + 1 : Nat) : Int), .int .i64 ((n1 : Nat) : Int), .int .u32 5]) 28 := (f104.on k20 (Ne.symm ne_b2_0_pb))
      have f123 : Bk w20 xb ([.int .u8 ((s9.ix : Nat) : Int), .int .u32 ((s9.gen : Nat) : Int), .slice s9.A ((s9.X).length) (s9.c)]) 50 := (f_xb_19.on k20 ne_xb_b2_0)
      have o124 : Gt w20 := (o108.on k20 (Ne.symm ne_b2_0_0))
      have ob125 := (ob110.onN k20 ob8 le5)
      have ob126 := (ob112.onN k20 ob9 le5)
      have ob127 := (ob114.on k20 (by have := T5.lt; omega))
      have ob128 := (ob105.on k20 (by have := (And.intro T6.lt T5.lt); omega))
      have ob129 := (ob117.on k20 (by have := T_b2_0_10.lt; omega))
      have ob130 := (ob119.on k20 (by have := T5.lt; omega))
      refine R_lo (lo_alloc (L := [.int .u8 0, .int .u32 0, .slice none (0) (0)]) (by kernel_rfl)) rfl ?_
      rintro _ w21 ⟨yb, rfl, N21⟩
      have k21 := N21.kp
      have kk21 := kk20.then_ k21
      have ne_yb_p0_0 : yb ≠ p0_0 := Nat.ne_of_gt (Nat.lt_of_lt_of_le f121.lt N21.le)
      have ne_yb_pb : yb ≠ pb := Nat.ne_of_gt (Nat.lt_of_lt_of_le f122.lt N21.le)
      have ne_yb_xb : yb ≠ xb := Nat.ne_of_gt (Nat.lt_of_lt_of_le f123.lt N21.le)
      have ne_yb_0 : yb ≠ 0 := Nat.ne_of_gt (Nat.lt_of_lt_of_le o124.lt N21.le)
      have ne_yb_b2_0 : yb ≠ b2_0 := Nat.ne_of_gt (Nat.lt_of_lt_of_le T20.lt N21.le)
      have f_yb_21 : Bk w21 yb ([.int .u8 0, .int .u32 0, .slice none (0) (0)]) 50 := N21.bk
      refine R_lo0 (lo_storeRow (C := [.int .u8 ((s9.ix : Nat) : Int), .int .u32 5, .slice A_yy ((thX (M.take (q1 + 1)) S1.length s9.ix).length) (c_yy)]) f_yb_21 (by kernel_rfl) rfl rfl (by intro u hu; simp at hu; rcases hu with rfl | rfl | rfl <;> rfl) rfl) ?_
      rintro _ w22 kf22
      obtain ⟨k22, f_yb_22⟩ := kf22
      replace f_yb_22 : Bk w22 yb ([.int .u8 ((s9.ix : Nat) : Int), .int .u32 5, .slice A_yy ((thX (M.take (q1 + 1)) S1.length s9.ix).length) (c_yy)]) 50 := f_yb_22
      have kk22 := kk21.trans k22 (fun i hi => .inr (hi ▸ (Nat.le_trans kk20.size N21.le)))
      refine R_pu (pu_assign rfl) rfl ?_
      refine R_nil ?_
      refine X_then hK103 ?_
      refine C_seq (fun K131 hK131 => ?_)
      have ob132 := ((ob125.keptNo k21).onN k22 ob125 N21.le)
      have ob133 := ((ob126.keptNo k21).onN k22 ob126 N21.le)
      have bS1 := ob132.bs.byte; have bD1 := ob133.bs.byte
      have hall : ∀ x, x < 256 → thX (M.take (q1 + 1)) S1.length x = ptX S1 D1 q1 x := fun x hx => thX_all (fun s hs => by have h := part_of hK_x (hsub s (List.mem_of_mem_take hs)); exact ⟨by omega, h.2.2⟩) (by rw [ixs_take]; exact di_take hdi _) (by rw [List.length_take]; omega) hD1 bS1 bD1 hx
      refine C_region ?_
      refine R_pu (pu_move rfl) rfl ?_
      refine R_pu (pu_eqlnn (by kernel_rfl) rfl) rfl ?_
      refine R_pu (pu_move rfl) rfl ?_
      refine R_gpu rfl rfl (pu_move rfl) rfl ?_
      refine R_gpu rfl rfl (pu_eqlnn (by kernel_rfl) rfl) rfl ?_
      refine R_pu (pu_pickt rfl rfl) rfl ?_
      refine R_pu (pu_move rfl) rfl ?_
      refine R_gpu rfl rfl (pu_move rfl) rfl ?_
      have ob134 := ((ob129.keptNo k21).onN k22 ob129 N21.le)
      refine R_gpu rfl rfl (pu_bstr ob134.bs Tryd.underlying22 Tryd.underlying5 Tryd.underlying9 rfl rfl) rfl ?_
      refine R_gpu rfl rfl (pu_move rfl) rfl ?_
      refine R_gpu rfl rfl (pu_bstr ob132.bs Tryd.underlying22 Tryd.underlying5 Tryd.underlying9 rfl rfl) rfl ?_
      refine R_gpu rfl rfl (pu_true (pu_eqls (p := (thX (M.take (q1 + 1)) S1.length 0) = S1) rfl rfl (bstr_inj (ob134.bs).byte (ob132.bs).byte)) ((hall 0 (by decide)).trans ptX_zero)) rfl ?_
      refine R_pu (pu_pickt rfl rfl) rfl ?_
      refine R_pu (pu_move rfl) rfl ?_
      refine R_gpu rfl rfl (pu_fieldAddr (off := 0) (o' := 0) (by kernel_rfl) rfl rfl) rfl ?_
      refine R_gpu rfl rfl (pu_loadK f_yb_22 (by kernel_rfl) rfl rfl) rfl ?_
      refine R_gpu rfl rfl (pu_fieldAddr (off := 0) (o' := 0) (by kernel_rfl) rfl rfl) rfl ?_
      have f135 : Bk w22 xb ([.int .u8 ((s9.ix : Nat) : Int), .int .u32 ((s9.gen : Nat) : Int), .slice s9.A ((s9.X).length) (s9.c)]) 50 := ((f123.no k21).on k22 (Ne.symm ne_yb_xb))
      refine R_gpu rfl rfl (pu_loadK f135 (by kernel_rfl) rfl rfl) rfl ?_
      refine R_gpu rfl rfl (pu_true (pu_eql (p := s9.ix = s9.ix) rfl rfl (by omega)) rfl) rfl ?_
      refine R_pu (pu_pickt rfl rfl) rfl ?_
      refine R_pu (pu_move rfl) rfl ?_
      refine R_gpu rfl rfl (pu_fieldAddr (off := 2) (o' := 2) (by kernel_rfl) rfl rfl) rfl ?_
      refine R_gpu rfl rfl (pu_loadK f_yb_22 (by kernel_rfl) rfl rfl) rfl ?_
      have ob136 := ((Q20.keptNo k21).onN k22 Q20 N21.le)
      refine R_gpu rfl rfl (pu_bstr ob136.bs Tryd.underlying22 Tryd.underlying5 Tryd.underlying9 rfl rfl) rfl ?_
      refine R_gpu rfl rfl (pu_fieldAddr (off := 2) (o' := 2) (by kernel_rfl) rfl rfl) rfl ?_
      refine R_gpu rfl rfl (pu_loadK f135 (by kernel_rfl) rfl rfl) rfl ?_
      have ob137 := ((ob130.keptNo k21).onN k22 ob130 N21.le)
      refine R_gpu rfl rfl (pu_bstr ob137.bs Tryd.underlying22 Tryd.underlying5 Tryd.underlying9 rfl rfl) rfl ?_
      refine R_gpu rfl rfl (pu_true (pu_eqls (p := (thX (M.take (q1 + 1)) S1.length s9.ix) = s9.X) rfl rfl (bstr_inj (ob136.bs).byte (ob137.bs).byte)) ((hall _ ok_s9.ix).trans hp9.2.2.symm)) rfl ?_
      refine R_pu (pu_pickt rfl rfl) rfl ?_
      refine R_pu (pu_move rfl) rfl ?_
      have o138 : Gt w22 := ((o124.no k21).on k22 (Ne.symm ne_yb_0))
      refine R_glo rfl rfl (lo_call (by kernel_rfl) rfl (sure03 _ o138)) rfl ?_
      rintro _ w23 ⟨rfl, k23⟩
      have kk23 := kk22.then_ k23
      refine R_pu (pu_pickt rfl rfl) rfl ?_
      refine R_pu (pu_assign rfl) rfl ?_
      refine R_nil ?_
      refine X_then hK131 ?_
      refine C_ret ?_
      exact X_ret1 (.inl rfl) rfl rfl ⟨rfl, kk23⟩
end Go.Proofs.YtjbdimfpjbmggaaDoor
