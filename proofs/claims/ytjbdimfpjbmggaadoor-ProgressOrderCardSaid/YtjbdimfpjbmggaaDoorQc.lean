/- The body of ProgressOrder. -/
import Derived.Test.YtjbdimfpjbmggaaDoorQa
set_option linter.unusedVariables false
set_option linter.unusedSimpArgs false
namespace Go.Proofs.YtjbdimfpjbmggaaDoor
open Go.RowKit Gm
set_option maxRecDepth 100000 in
set_option maxHeartbeats 2000000 in
theorem progressOrder_ (X : List Nat) (bX : By 32 X) (O : List Nat) (bO : By 2 O) (A : Option Addr) (l : List Nat) (c : Nat) (w : World) (HB : Bs w A l) (hc : l.length ≤ c) (hG : Gt w) : Ret Tryd.prog 9 #[.agg (u8s X : List Value).toArray, .agg (u8s O : List Value).toArray, .slice A (l.length) (c)] w (fun v w' => v = .bool true ∧ Kp No w w') := by
  have kk0 := Kp.refl No w
  refine enter (n := 220) [.agg (u8s X : List Value).toArray, .agg (u8s O : List Value).toArray, .slice A (l.length) (c)] Tryd.func9 rfl rfl rfl ?_
  show Cw _ _ _ _ [(0, .agg (u8s X : List Value).toArray), (1, .agg (u8s O : List Value).toArray), (2, .slice A (l.length) (c))] _
  refine C_seq (fun K1 hK1 => ?_)
  refine C_region ?_
  refine R_lo (lo_box (L := u8s X) rfl rfl) rfl ?_
  rintro _ w1 ⟨px, rfl, N1⟩
  have k1 := N1.kp
  have kk1 := kk0.then_ k1
  have ne_px_0 : px ≠ 0 := Nat.ne_of_gt (Nat.lt_of_lt_of_le hG.lt N1.le)
  have f_px_1 : Bk w1 px (u8s X) 85 := N1.bk
  have o2 : Gt w1 := (hG.no k1)
  refine R_lo (lo_box (L := u8s O) rfl rfl) rfl ?_
  rintro _ w2 ⟨po, rfl, N2⟩
  have k2 := N2.kp
  have kk2 := kk1.then_ k2
  have ne_po_px : po ≠ px := Nat.ne_of_gt (Nat.lt_of_lt_of_le f_px_1.lt N2.le)
  have ne_po_0 : po ≠ 0 := Nat.ne_of_gt (Nat.lt_of_lt_of_le o2.lt N2.le)
  have f_po_2 : Bk w2 po (u8s O) 86 := N2.bk
  refine R_pu (pu_assign rfl) rfl ?_
  refine R_nil ?_
  refine X_then hK1 ?_
  refine C_seq (fun K3 hK3 => ?_)
  have f4 : Bk w2 px (u8s X) 85 := (f_px_1.no k2)
  have o5 : Gt w2 := (o2.no k2)
  refine D_begin (fun W => Kp No w W ∧ Bk W px (u8s X) 85 ∧ Bk W po (u8s O) 86 ∧ Gt W) 6 rfl (by kernel_rfl) ⟨kk2.drew, f4.draw, f_po_2.draw, o5.draw⟩ ?_
  intro w3 k3 _
  have kk3 := kk2.then_ k3
  refine D_take 0 rfl (by kernel_rfl) (by kernel_rfl) (by kernel_rfl) (fun _ _ _ h => h) rfl (fun W hS => pu_indexAddrA (m := 0) (s := 1) (o' := 0) Tryd.underlying86 (by kernel_rfl) rfl rfl rfl (by omega) (by omega)) ?_
  obtain ⟨na, e_na⟩ : ∃ q_, (O)[0]? = some q_ := ⟨_, List.getElem?_eq_getElem (by rw [(bO).1]; omega)⟩
  have b_na : na < 256 := (bO).2 _ (List.mem_of_getElem? e_na)
  refine D_take 1 rfl (by kernel_rfl) (by kernel_rfl) (by kernel_rfl) (fun _ _ _ h => h) rfl (fun W hS => pu_loadK hS.2.2.1 (by kernel_rfl) rfl (u8s_get e_na)) ?_
  refine D_take 2 rfl (by kernel_rfl) (by kernel_rfl) (by kernel_rfl) (fun _ _ _ h => h) rfl (fun W hS => pu_indexAddrA (m := 1) (s := 1) (o' := 1) Tryd.underlying86 (by kernel_rfl) rfl rfl rfl (by omega) (by omega)) ?_
  obtain ⟨nb, e_nb⟩ : ∃ q_, (O)[1]? = some q_ := ⟨_, List.getElem?_eq_getElem (by rw [(bO).1]; omega)⟩
  have b_nb : nb < 256 := (bO).2 _ (List.mem_of_getElem? e_nb)
  refine D_take 3 rfl (by kernel_rfl) (by kernel_rfl) (by kernel_rfl) (fun _ _ _ h => h) rfl (fun W hS => pu_loadK hS.2.2.1 (by kernel_rfl) rfl (u8s_get e_nb)) ?_
  refine D_take 4 rfl (by kernel_rfl) (by kernel_rfl) (by kernel_rfl) (fun _ _ _ h => h) rfl (fun W hS => pu_assign rfl) ?_
  refine D_take 5 rfl (by kernel_rfl) (by kernel_rfl) (by kernel_rfl) (fun _ _ _ h => h) rfl (fun W hS => pu_assign rfl) ?_
  refine D_done (by kernel_rfl) ?_
  refine X_then hK3 ?_
  refine C_seq (fun K6 hK6 => ?_)
  refine C_region ?_
  refine R_pu (pu_move rfl) rfl ?_
  refine R_pu (pu_conv (z := ((na : Nat) : Int)) Tryd.underlying5 Tryd.underlying3 rfl (by have : na < 256 := b_na; rw [IntKind.wrap_i64]; omega)) rfl ?_
  refine R_pu (pu_rem (z := ((na % 4 : Nat) : Int)) rfl rfl (by omega) (by rfl)) rfl ?_
  obtain ⟨q, hq⟩ : ∃ q, 2 + na % 4 = q + 1 := ⟨1 + na % 4, by omega⟩
  have hql : 1 ≤ q ∧ q ≤ 4 := by omega
  refine R_pu (pu_add (z := ((q + 1 : Nat) : Int)) rfl rfl (by rw [IntKind.wrap_i64]; omega)) rfl ?_
  refine R_pu (pu_build (L := [.int .i64 ((q + 1 : Nat) : Int), .int .i64 0, .int .u32 3]) rfl (by kernel_rfl)) rfl ?_
  have f7 : Bk w3 px (u8s X) 85 := (f4.no k3)
  have f8 : Bk w3 po (u8s O) 86 := (f_po_2.no k3)
  have o9 : Gt w3 := (o5.no k3)
  refine R_lo (lo_alloc (L := [.int .i64 0, .int .i64 0, .int .u32 0]) (by kernel_rfl)) rfl ?_
  rintro _ w4 ⟨pb, rfl, N4⟩
  have k4 := N4.kp
  have kk4 := kk3.then_ k4
  have ne_pb_px : pb ≠ px := Nat.ne_of_gt (Nat.lt_of_lt_of_le f7.lt N4.le)
  have ne_pb_po : pb ≠ po := Nat.ne_of_gt (Nat.lt_of_lt_of_le f8.lt N4.le)
  have ne_pb_0 : pb ≠ 0 := Nat.ne_of_gt (Nat.lt_of_lt_of_le o9.lt N4.le)
  have f_pb_4 : Bk w4 pb ([.int .i64 0, .int .i64 0, .int .u32 0]) 28 := N4.bk
  refine R_lo0 (lo_storeRow (C := [.int .i64 ((q + 1 : Nat) : Int), .int .i64 0, .int .u32 3]) f_pb_4 (by kernel_rfl) rfl rfl (by intro u hu; simp at hu; rcases hu with rfl | rfl | rfl <;> rfl) rfl) ?_
  rintro _ w5 kf5
  obtain ⟨k5, f_pb_5⟩ := kf5
  replace f_pb_5 : Bk w5 pb ([.int .i64 ((q + 1 : Nat) : Int), .int .i64 0, .int .u32 3]) 28 := f_pb_5
  have kk5 := kk4.trans k5 (fun i hi => .inr (hi ▸ (Nat.le_trans kk3.size N4.le)))
  refine R_nil ?_
  refine X_then hK6 ?_
  refine C_seq (fun K10 hK10 => ?_)
  refine C_region ?_
  refine R_pu (pu_fieldAddr (off := 0) (o' := 0) (by kernel_rfl) rfl rfl) rfl ?_
  refine R_pu (pu_loadK f_pb_5 (by kernel_rfl) rfl rfl) rfl ?_
  refine R_pu (pu_move rfl) rfl ?_
  refine R_pu (pu_conv (z := ((nb : Nat) : Int)) Tryd.underlying5 Tryd.underlying3 rfl (by have : nb < 256 := b_nb; rw [IntKind.wrap_i64]; omega)) rfl ?_
  refine R_pu (pu_rem (z := ((nb % 5 : Nat) : Int)) rfl rfl (by omega) (by rfl)) rfl ?_
  obtain ⟨n, hn⟩ : ∃ n, q + 1 + nb % 5 = n := ⟨_, rfl⟩
  refine R_pu (pu_add (z := ((n : Nat) : Int)) rfl rfl (by rw [IntKind.wrap_i64]; omega)) rfl ?_
  refine R_pu (pu_fieldAddr (off := 1) (o' := 1) (by kernel_rfl) rfl rfl) rfl ?_
  refine R_lo0 (lo_store f_pb_5 (by kernel_rfl) rfl rfl rfl (show 1 < 3 by decide)) ?_
  rintro _ w6 kf6
  obtain ⟨k6, f_pb_6⟩ := kf6
  replace f_pb_6 : Bk w6 pb ([.int .i64 ((q + 1 : Nat) : Int), .int .i64 ((n : Nat) : Int), .int .u32 3]) 28 := f_pb_6
  have kk6 := kk5.trans k6 (fun i hi => .inr (hi ▸ (Nat.le_trans kk3.size N4.le)))
  refine R_nil ?_
  refine X_then hK10 ?_
  refine C_seq (fun K11 hK11 => ?_)
  refine C_region ?_
  have f12 : Bk w6 px (u8s X) 85 := (((f7.no k4).on k5 (Ne.symm ne_pb_px)).on k6 (Ne.symm ne_pb_px))
  have f13 : Bk w6 po (u8s O) 86 := (((f8.no k4).on k5 (Ne.symm ne_pb_po)).on k6 (Ne.symm ne_pb_po))
  have o14 : Gt w6 := (((o9.no k4).on k5 (Ne.symm ne_pb_0)).on k6 (Ne.symm ne_pb_0))
  refine R_lo (lo_call (by kernel_rfl) rfl (gf_new _)) rfl ?_
  rintro _ w7 ⟨b4_0, rfl, le7, T7, k7⟩
  have kk7 := kk6.then_ k7
  have ne_b4_0_px : b4_0 ≠ px := Nat.ne_of_gt (Nat.lt_of_lt_of_le f12.lt le7)
  have ne_b4_0_po : b4_0 ≠ po := Nat.ne_of_gt (Nat.lt_of_lt_of_le f13.lt le7)
  have ne_b4_0_pb : b4_0 ≠ pb := Nat.ne_of_gt (Nat.lt_of_lt_of_le f_pb_6.lt le7)
  have ne_b4_0_0 : b4_0 ≠ 0 := Nat.ne_of_gt (Nat.lt_of_lt_of_le o14.lt le7)
  refine R_pu (pu_assign rfl) rfl ?_
  refine R_nil ?_
  refine X_then hK11 ?_
  refine C_seq (fun K15 hK15 => ?_)
  refine C_region ?_
  refine R_pu (pu_fieldAddr (off := 0) (o' := 0) (by kernel_rfl) rfl rfl) rfl ?_
  have f16 : Bk w7 pb ([.int .i64 ((q + 1 : Nat) : Int), .int .i64 ((n : Nat) : Int), .int .u32 3]) 28 := (f_pb_6.no k7)
  refine R_pu (pu_loadK f16 (by kernel_rfl) rfl rfl) rfl ?_
  refine R_pu (pu_sub (z := ((q : Nat) : Int)) rfl rfl (by rw [IntKind.wrap_i64]; omega)) rfl ?_
  refine R_pu (pu_mul (z := ((32 * q : Nat) : Int)) rfl rfl (by rw [IntKind.wrap_i64]; omega)) rfl ?_
  have f17 : Bk w7 px (u8s X) 85 := (f12.no k7)
  have f18 : Bk w7 po (u8s O) 86 := (f13.no k7)
  have o19 : Gt w7 := (o14.no k7)
  refine R_lo (lo_make (z := .int .u8 0) (bytes := 1) (ln := 32 * q) (cp := 32 * q) Tryd.underlying22 (by kernel_rfl) rfl rfl rfl rfl rfl (by omega) (by omega) (by omega)) rfl ?_
  rintro _ w8 ⟨dd, rfl, N8⟩
  have k8 := N8.kp
  have kk8 := kk7.then_ k8
  have ne_dd_px : dd ≠ px := Nat.ne_of_gt (Nat.lt_of_lt_of_le f17.lt N8.le)
  have ne_dd_po : dd ≠ po := Nat.ne_of_gt (Nat.lt_of_lt_of_le f18.lt N8.le)
  have ne_dd_pb : dd ≠ pb := Nat.ne_of_gt (Nat.lt_of_lt_of_le f16.lt N8.le)
  have ne_dd_0 : dd ≠ 0 := Nat.ne_of_gt (Nat.lt_of_lt_of_le o19.lt N8.le)
  have ne_dd_b4_0 : dd ≠ b4_0 := Nat.ne_of_gt (Nat.lt_of_lt_of_le T7.lt N8.le)
  have f_dd_8 : Bk w8 dd (u8s (List.replicate (32 * q) 0)) 5 := by rw [u8s_rep]; exact N8.bk
  refine R_pu (pu_assign rfl) rfl ?_
  refine R_nil ?_
  refine X_then hK15 ?_
  refine C_seq (fun K20 hK20 => ?_)
  refine C_seq (fun K21 hK21 => ?_)
  refine C_region ?_
  refine R_pu (pu_assign rfl) rfl ?_
  refine R_nil ?_
  refine X_then hK21 ?_
  refine C_block ?_
  have f22 : Bk w8 px (u8s X) 85 := (f17.no k8)
  have f23 : Bk w8 po (u8s O) 86 := (f18.no k8)
  have f24 : Bk w8 pb ([.int .i64 ((q + 1 : Nat) : Int), .int .i64 ((n : Nat) : Int), .int .u32 3]) 28 := (f16.no k8)
  have o25 : Gt w8 := (o19.no k8)
  have o26 : Tb w8 b4_0 := (T7.no k8)
  refine C_loop (fun m_ l_ wr => ∃ i : Nat, ∃ dv : List Nat, (m_ = 32 * q - i) ∧ (l_ = [(2, .slice A (l.length) (c)), (3, .pointer (some ⟨px, 0, none⟩)), (6, .bool false), (8, .int .u8 ((nb : Nat) : Int)), (9, .pointer (some ⟨pb, 0, none⟩)), (10, .pointer (some ⟨b4_0, 0, none⟩)), (11, .slice (some ⟨dd, 0, none⟩) (32 * q) (32 * q)), (12, .int .i64 ((i : Nat) : Int))]) ∧ (i ≤ 32 * q) ∧ (By (32 * q) dv) ∧ (Kp No w wr) ∧ (Bk wr px (u8s X) 85) ∧ (Bk wr po (u8s O) 86) ∧ (Bk wr pb ([.int .i64 ((q + 1 : Nat) : Int), .int .i64 ((n : Nat) : Int), .int .u32 3]) 28) ∧ (Bk wr dd (u8s dv) 5) ∧ (Gt wr) ∧ (Tb wr b4_0)) (32 * q - 0) [(2, .slice A (l.length) (c)), (3, .pointer (some ⟨px, 0, none⟩)), (6, .bool false), (8, .int .u8 ((nb : Nat) : Int)), (9, .pointer (some ⟨pb, 0, none⟩)), (10, .pointer (some ⟨b4_0, 0, none⟩)), (11, .slice (some ⟨dd, 0, none⟩) (32 * q) (32 * q)), (12, .int .i64 0)] (Sub.cons rfl (Sub.cons rfl (Sub.cons rfl (Sub.cons rfl (Sub.cons rfl (Sub.cons rfl (Sub.cons rfl (Sub.cons rfl (Sub.nil _))))))))) ⟨0, List.replicate (32 * q) 0, rfl, rfl, by omega, (rep_by (32 * q)), kk8, f22, f23, f24, Bk.eq f_dd_8 (congrArg u8s rfl), o25, o26⟩ ?_
  rintro _ _ w9 ⟨i, dv, rfl, rfl, hi, hdv, kk9, f_px_9, f_po_9, f_pb_9, f_dd_9, G_9, T_b4_0_9⟩
  refine C_seq (fun K27 hK27 => ?_)
  refine C_seq (fun K28 hK28 => ?_)
  refine C_region ?_
  refine R_pu (pu_move rfl) rfl ?_
  refine R_pu (pu_move rfl) rfl ?_
  refine R_pu (pu_len Tryd.underlying22 rfl) rfl ?_
  refine R_pu (pu_lss (p := i < (32 * q)) rfl rfl (by omega)) rfl ?_
  refine R_nil ?_
  refine X_then hK28 ?_
  refine C_dec rfl (fun h54 => ?_) (fun h54 => ?_)
  · refine C_skip ?_
    refine X_then hK27 ?_
    refine C_seq (fun K29 hK29 => ?_)
    refine C_block ?_
    refine C_region ?_
    refine R_pu (pu_move rfl) rfl ?_
    refine R_pu (pu_move rfl) rfl ?_
    refine R_pu (pu_move rfl) rfl ?_
    refine R_pu (pu_mul (z := ((7 * i : Nat) : Int)) rfl rfl (by rw [IntKind.wrap_i64]; omega)) rfl ?_
    refine R_pu (pu_conv (z := (((7 * i) % 256 : Nat) : Int)) Tryd.underlying3 Tryd.underlying5 rfl (by rw [IntKind.wrap_u8]; omega)) rfl ?_
    refine R_pu (pu_move rfl) rfl ?_
    refine R_pu (pu_add (z := ((((7 * i) % 256 + nb) % 256 : Nat) : Int)) rfl rfl (by rw [IntKind.wrap_u8]; omega)) rfl ?_
    refine R_pu (pu_indexAddrP (m := i) (s := 1) (o' := i) Tryd.underlying22 (by kernel_rfl) rfl rfl rfl (by omega) (by omega)) rfl ?_
    refine R_lo0 (lo_store f_dd_9 (by kernel_rfl) rfl rfl rfl (by rw [u8s_length, hdv.1]; omega)) ?_
    rintro _ w10 kf10
    obtain ⟨k10, f_dd_10⟩ := kf10
    replace f_dd_10 := Bk.eq f_dd_10 (u8s_set _ _ (((7 * i) % 256 + nb) % 256))
    replace f_dd_10 : Bk w10 dd (u8s (dv.set i (((7 * i) % 256 + nb) % 256))) 5 := f_dd_10
    have kk10 := kk9.trans k10 (fun i hi => .inr (hi ▸ (Nat.le_trans kk7.size N8.le)))
    refine R_nil ?_
    refine X_in_normal ?_
    refine X_then hK29 ?_
    refine C_region ?_
    refine R_pu (pu_move rfl) rfl ?_
    refine R_pu (pu_add (z := ((i + 1 : Nat) : Int)) rfl rfl (by rw [IntKind.wrap_i64]; omega)) rfl ?_
    refine R_pu (pu_assign rfl) rfl ?_
    refine R_nil ?_
    have f30 : Bk w10 px (u8s X) 85 := (f_px_9.on k10 (Ne.symm ne_dd_px))
    have f31 : Bk w10 po (u8s O) 86 := (f_po_9.on k10 (Ne.symm ne_dd_po))
    have f32 : Bk w10 pb ([.int .i64 ((q + 1 : Nat) : Int), .int .i64 ((n : Nat) : Int), .int .u32 3]) 28 := (f_pb_9.on k10 (Ne.symm ne_dd_pb))
    have o33 : Gt w10 := (G_9.on k10 (Ne.symm ne_dd_0))
    have o34 : Tb w10 b4_0 := (T_b4_0_9.on k10 (Ne.symm ne_dd_b4_0))
    refine X_round (32 * q - (i + 1)) [(2, .slice A (l.length) (c)), (3, .pointer (some ⟨px, 0, none⟩)), (6, .bool false), (8, .int .u8 ((nb : Nat) : Int)), (9, .pointer (some ⟨pb, 0, none⟩)), (10, .pointer (some ⟨b4_0, 0, none⟩)), (11, .slice (some ⟨dd, 0, none⟩) (32 * q) (32 * q)), (12, .int .i64 (((i + 1) : Nat) : Int))] (by omega) (Sub.cons rfl (Sub.cons rfl (Sub.cons rfl (Sub.cons rfl (Sub.cons rfl (Sub.cons rfl (Sub.cons rfl (Sub.cons rfl (Sub.nil _))))))))) ⟨i + 1, dv.set i (((7 * i) % 256 + nb) % 256), rfl, rfl, by omega, (by_set hdv (by omega)), kk10, f30, f31, f32, f_dd_10, o33, o34⟩
  · refine C_exit ?_
    refine X_then_exit (X_then_exit (X_in_eq ?_))
    refine X_then hK20 ?_
    refine C_seq (fun K35 hK35 => ?_)
    refine D_begin (fun W => Kp No w W ∧ Bk W px (u8s X) 85 ∧ Bk W po (u8s O) 86 ∧ Bk W pb ([.int .i64 ((q + 1 : Nat) : Int), .int .i64 ((n : Nat) : Int), .int .u32 3]) 28 ∧ Bk W dd (u8s dv) 5 ∧ Gt W ∧ Tb W b4_0) 10 rfl (by kernel_rfl) ⟨kk9.drew, f_px_9.draw, f_po_9.draw, f_pb_9.draw, f_dd_9.draw, G_9.draw, T_b4_0_9.draw⟩ ?_
    intro w11 k11 _
    have kk11 := kk9.then_ k11
    refine D_take 0 rfl (by kernel_rfl) (by kernel_rfl) (by kernel_rfl) (fun _ _ _ h => h) rfl (fun W hS => pu_move rfl) ?_
    refine D_take 1 rfl (by kernel_rfl) (by kernel_rfl) (by kernel_rfl) (fun _ _ _ h => h) rfl (fun W hS => pu_sliceArr Tryd.underlying85 (by kernel_rfl) rfl) ?_
    refine D_take 2 rfl (by kernel_rfl) (by kernel_rfl) (by kernel_rfl) (fun _ _ _ h => h) rfl (fun W hS => pu_loadRow (len := 3) hS.2.2.2.1 (by kernel_rfl) (by kernel_rfl) rfl rfl) ?_
    refine D_take 3 rfl (by kernel_rfl) (by kernel_rfl) (by kernel_rfl) (fun _ _ _ h => h) rfl (fun W hS => pu_move rfl) ?_
    have f36 : Bk w11 px (u8s X) 85 := (f_px_9.no k11)
    have f37 : Bk w11 dd (u8s dv) 5 := (f_dd_9.no k11)
    have f38 : Bk w11 po (u8s O) 86 := (f_po_9.no k11)
    have f39 : Bk w11 pb ([.int .i64 ((q + 1 : Nat) : Int), .int .i64 ((n : Nat) : Int), .int .u32 3]) 28 := (f_pb_9.no k11)
    have o40 : Gt w11 := (G_9.no k11)
    have o41 : Tb w11 b4_0 := (T_b4_0_9.no k11)
    refine D_one 4 (by kernel_rfl) (Nx_lo rfl (lo_callE (by kernel_rfl) rfl (by rw [bX.1, hdv.1] <;> rfl) (shamir_split b4_0 (some ⟨px, 0, none⟩) X 32 q n 3 (some ⟨dd, 0, none⟩) dv (32 * q) _ (Bs.ofBk f36 bX) (Nat.le_of_eq bX.1) (Bs.ofBk f37 hdv) (Nat.le_of_eq hdv.1) (by decide) ⟨by omega, by omega, by omega⟩ ⟨by rw [bX.1]; omega, by rw [bX.1]; omega⟩ (by rw [hdv.1, bX.1]; omega) (Aw.ofBk (Ne.symm ne_b4_0_px)) (Aw.ofBk ne_dd_b4_0) o41)) rfl ?_)
    rintro _ w12 ⟨A_x, c_x, L_x, rfl, Q12, hK_x, T12, k12⟩
    have kk12 := kk11.trans k12 (fun i hi => .inr (hi ▸ (Nat.le_trans kk6.size le7)))
    have z42 : w11.heap.size ≤ w12.heap.size := k12.size
    have hl_x := (key_len hK_x).trans (ptK_length ..)
    have f43 : Bk w12 px (u8s X) 85 := (f36.on k12 (Ne.symm ne_b4_0_px))
    have f44 : Bk w12 po (u8s O) 86 := (f38.on k12 (Ne.symm ne_b4_0_po))
    have f45 : Bk w12 pb ([.int .i64 ((q + 1 : Nat) : Int), .int .i64 ((n : Nat) : Int), .int .u32 3]) 28 := (f39.on k12 (Ne.symm ne_b4_0_pb))
    have f46 : Bk w12 dd (u8s dv) 5 := (f37.on k12 ne_dd_b4_0)
    have o47 : Gt w12 := (o40.on k12 (Ne.symm ne_b4_0_0))
    refine ⟨⟨kk12, f43, f44, f45, f46, o47, T12⟩, ?_⟩
    refine D_take 5 rfl (by kernel_rfl) (by kernel_rfl) (by kernel_rfl) (fun _ _ _ h => h) rfl (fun W hS => pu_move rfl) ?_
    refine D_take 6 rfl (by kernel_rfl) (by kernel_rfl) (by kernel_rfl) (fun _ _ _ h => h) rfl (fun W hS => pu_extract rfl rfl) ?_
    refine D_take 7 rfl (by kernel_rfl) (by kernel_rfl) (by kernel_rfl) (fun _ _ _ h => h) rfl (fun W hS => pu_extract rfl rfl) ?_
    refine D_take 8 rfl (by kernel_rfl) (by kernel_rfl) (by kernel_rfl) (fun _ _ _ h => h) rfl (fun W hS => pu_assign rfl) ?_
    refine D_take 9 rfl (by kernel_rfl) (by kernel_rfl) (by kernel_rfl) (fun _ _ _ h => h) rfl (fun W hS => pu_assign rfl) ?_
    refine D_done (by kernel_rfl) ?_
    refine X_then hK35 ?_
    refine C_seq (fun K48 hK48 => ?_)
    refine C_region ?_
    refine R_pu (pu_loadRow (len := 3) f45 (by kernel_rfl) (by kernel_rfl) rfl rfl) rfl ?_
    refine R_lo (lo_call (by kernel_rfl) rfl (start_ok q n 3 ({ data := #[109] }) _ ⟨⟨by omega, by omega, by omega⟩, by decide⟩)) rfl ?_
    rintro _ w13 ⟨rfl, k13⟩
    have kk13 := kk12.then_ k13
    refine R_pu (pu_move rfl) rfl ?_
    refine R_pu (pu_extract rfl rfl) rfl ?_
    refine R_pu (pu_extract rfl rfl) rfl ?_
    have f49 : Bk w13 px (u8s X) 85 := (f43.no k13)
    have f50 : Bk w13 po (u8s O) 86 := (f44.no k13)
    have f51 : Bk w13 pb ([.int .i64 ((q + 1 : Nat) : Int), .int .i64 ((n : Nat) : Int), .int .u32 3]) 28 := (f45.no k13)
    have f52 : Bk w13 dd (u8s dv) 5 := (f46.no k13)
    have o53 : Gt w13 := (o47.no k13)
    have o54 : Tb w13 b4_0 := (T12.no k13)
    have ob55 := (Q12.keptNo k13)
    refine R_lo (lo_alloc (L := [.int .i64 0, .int .i64 0, .int .u32 0, .string ByteArray.empty, .slice none (0) (0)]) (by kernel_rfl)) rfl ?_
    rintro _ w14 ⟨pp, rfl, N14⟩
    have k14 := N14.kp
    have kk14 := kk13.then_ k14
    have ne_pp_px : pp ≠ px := Nat.ne_of_gt (Nat.lt_of_lt_of_le f49.lt N14.le)
    have ne_pp_po : pp ≠ po := Nat.ne_of_gt (Nat.lt_of_lt_of_le f50.lt N14.le)
    have ne_pp_pb : pp ≠ pb := Nat.ne_of_gt (Nat.lt_of_lt_of_le f51.lt N14.le)
    have ne_pp_dd : pp ≠ dd := Nat.ne_of_gt (Nat.lt_of_lt_of_le f52.lt N14.le)
    have ne_pp_0 : pp ≠ 0 := Nat.ne_of_gt (Nat.lt_of_lt_of_le o53.lt N14.le)
    have ne_pp_b4_0 : pp ≠ b4_0 := Nat.ne_of_gt (Nat.lt_of_lt_of_le o54.lt N14.le)
    have f_pp_14 : Bk w14 pp ([.int .i64 0, .int .i64 0, .int .u32 0, .string ByteArray.empty, .slice none (0) (0)]) 70 := N14.bk
    refine R_lo0 (lo_storeRow (C := [.int .i64 ((q + 1 : Nat) : Int), .int .i64 ((n : Nat) : Int), .int .u32 3, .string ({ data := #[109] }), .slice none (0) (0)]) f_pp_14 (by kernel_rfl) rfl rfl (by intro u hu; simp at hu; rcases hu with rfl | rfl | rfl | rfl | rfl <;> rfl) rfl) ?_
    rintro _ w15 kf15
    obtain ⟨k15, f_pp_15⟩ := kf15
    replace f_pp_15 : Bk w15 pp ([.int .i64 ((q + 1 : Nat) : Int), .int .i64 ((n : Nat) : Int), .int .u32 3, .string ({ data := #[109] }), .slice none (0) (0)]) 70 := f_pp_15
    have kk15 := kk14.trans k15 (fun i hi => .inr (hi ▸ (Nat.le_trans kk13.size N14.le)))
    refine R_pu (pu_assign rfl) rfl ?_
    refine R_nil ?_
    refine X_then hK48 ?_
    refine C_seq (fun K56 hK56 => ?_)
    refine C_seq (fun K57 hK57 => ?_)
    refine C_region ?_
    refine R_pu (pu_move rfl) rfl ?_
    refine R_pu (pu_neqnn (by kernel_rfl) rfl) rfl ?_
    refine R_pu (pu_move rfl) rfl ?_
    refine R_gpu rfl rfl (pu_move rfl) rfl ?_
    refine R_gpu rfl rfl (pu_neqnn (by kernel_rfl) rfl) rfl ?_
    refine R_pu (pu_pickf rfl rfl) rfl ?_
    refine R_pu (pu_move rfl) rfl ?_
    refine R_gpu rfl rfl (pu_move rfl) rfl ?_
    refine R_gpu rfl rfl (pu_len Tryd.underlying29 rfl) rfl ?_
    refine R_gpu rfl rfl (pu_fieldAddr (off := 1) (o' := 1) (by kernel_rfl) rfl rfl) rfl ?_
    have f58 : Bk w15 pb ([.int .i64 ((q + 1 : Nat) : Int), .int .i64 ((n : Nat) : Int), .int .u32 3]) 28 := ((f51.no k14).on k15 (Ne.symm ne_pp_pb))
    refine R_gpu rfl rfl (pu_loadK f58 (by kernel_rfl) rfl rfl) rfl ?_
    refine R_gpu rfl rfl (pu_false (pu_neq (p := ((L_x).length) = n) rfl rfl (by omega)) (fun h => h hl_x)) rfl ?_
    refine R_pu (pu_pickf rfl rfl) rfl ?_
    refine R_pu (pu_move rfl) rfl ?_
    refine R_gpu rfl rfl (pu_move rfl) rfl ?_
    refine R_gpu rfl rfl (pu_len Tryd.underlying22 rfl) rfl ?_
    refine R_gpu rfl rfl (pu_gtr (p := l.length > 60) rfl rfl (by omega)) rfl ?_
    refine R_pu (pu_pickf rfl rfl) rfl ?_
    refine R_nil ?_
    refine X_then hK57 ?_
    refine C_dec rfl (fun h95 => ?_) (fun h95 => ?_)
    · refine C_seq (fun K59 hK59 => ?_)
      refine C_region ?_
      refine R_pu (pu_move rfl) rfl ?_
      refine R_pu (pu_eqlnn (by kernel_rfl) rfl) rfl ?_
      refine R_pu (pu_move rfl) rfl ?_
      refine R_gpu rfl rfl (pu_move rfl) rfl ?_
      refine R_gpu rfl rfl (pu_eqlnn (by kernel_rfl) rfl) rfl ?_
      refine R_pu (pu_pickt rfl rfl) rfl ?_
      refine R_pu (pu_move rfl) rfl ?_
      refine R_gpu rfl rfl (pu_move rfl) rfl ?_
      refine R_gpu rfl rfl (pu_len Tryd.underlying29 rfl) rfl ?_
      refine R_gpu rfl rfl (pu_fieldAddr (off := 1) (o' := 1) (by kernel_rfl) rfl rfl) rfl ?_
      refine R_gpu rfl rfl (pu_loadK f58 (by kernel_rfl) rfl rfl) rfl ?_
      refine R_gpu rfl rfl (pu_true (pu_eql (p := ((L_x).length) = n) rfl rfl (by omega)) hl_x) rfl ?_
      refine R_pu (pu_pickt rfl rfl) rfl ?_
      refine R_pu (pu_move rfl) rfl ?_
      have o60 : Gt w15 := ((o53.no k14).on k15 (Ne.symm ne_pp_0))
      refine R_glo rfl rfl (lo_call (by kernel_rfl) rfl (sure23 _ o60)) rfl ?_
      rintro _ w16 ⟨rfl, k16⟩
      have kk16 := kk15.then_ k16
      refine R_pu (pu_pickt rfl rfl) rfl ?_
      refine R_pu (pu_assign rfl) rfl ?_
      refine R_nil ?_
      refine X_then hK59 ?_
      refine C_ret ?_
      refine X_then_ret ?_
      exact X_ret1 (.inl rfl) rfl rfl ⟨rfl, kk16⟩
    · refine C_skip ?_
      refine X_then hK56 ?_
      refine C_seq (fun K61 hK61 => ?_)
      refine C_region ?_
      have f62 : Bk w15 px (u8s X) 85 := ((f49.no k14).on k15 (Ne.symm ne_pp_px))
      have f63 : Bk w15 po (u8s O) 86 := ((f50.no k14).on k15 (Ne.symm ne_pp_po))
      have f64 : Bk w15 dd (u8s dv) 5 := ((f52.no k14).on k15 (Ne.symm ne_pp_dd))
      have o65 : Gt w15 := ((o53.no k14).on k15 (Ne.symm ne_pp_0))
      have o66 : Tb w15 b4_0 := ((o54.no k14).on k15 (Ne.symm ne_pp_b4_0))
      have ob67 := ((ob55.keptNo k14).onN k15 ob55 N14.le)
      refine R_lo (lo_make (z := .bool false) (bytes := 1) (ln := 256) (cp := 256) Tryd.underlying87 (by kernel_rfl) rfl rfl rfl rfl rfl (by omega) (by omega) (by omega)) rfl ?_
      rintro _ w17 ⟨cm, rfl, N17⟩
      have k17 := N17.kp
      have kk17 := kk15.then_ k17
      have ne_cm_px : cm ≠ px := Nat.ne_of_gt (Nat.lt_of_lt_of_le f62.lt N17.le)
      have ne_cm_po : cm ≠ po := Nat.ne_of_gt (Nat.lt_of_lt_of_le f63.lt N17.le)
      have ne_cm_pb : cm ≠ pb := Nat.ne_of_gt (Nat.lt_of_lt_of_le f58.lt N17.le)
      have ne_cm_dd : cm ≠ dd := Nat.ne_of_gt (Nat.lt_of_lt_of_le f64.lt N17.le)
      have ne_cm_pp : cm ≠ pp := Nat.ne_of_gt (Nat.lt_of_lt_of_le f_pp_15.lt N17.le)
      have ne_cm_0 : cm ≠ 0 := Nat.ne_of_gt (Nat.lt_of_lt_of_le o65.lt N17.le)
      have ne_cm_b4_0 : cm ≠ b4_0 := Nat.ne_of_gt (Nat.lt_of_lt_of_le o66.lt N17.le)
      have f_cm_17 : Bk w17 cm (List.replicate 256 (.bool false)) 4 := N17.bk
      refine R_pu (pu_assign rfl) rfl ?_
      refine R_nil ?_
      refine X_then hK61 ?_
      refine C_seq (fun K68 hK68 => ?_)
      refine C_region ?_
      refine R_pu (pu_assign rfl) rfl ?_
      refine R_nil ?_
      refine X_then hK68 ?_
      refine C_seq (fun K69 hK69 => ?_)
      refine C_seq (fun K70 hK70 => ?_)
      refine C_region ?_
      refine R_pu (pu_assign rfl) rfl ?_
      refine R_nil ?_
      refine X_then hK70 ?_
      refine C_block ?_
      have f71 : Bk w17 px (u8s X) 85 := (f62.no k17)
      have f72 : Bk w17 po (u8s O) 86 := (f63.no k17)
      have f73 : Bk w17 pb ([.int .i64 ((q + 1 : Nat) : Int), .int .i64 ((n : Nat) : Int), .int .u32 3]) 28 := (f58.no k17)
      have f74 : Bk w17 dd (u8s dv) 5 := (f64.no k17)
      have f75 : Bk w17 pp ([.int .i64 ((q + 1 : Nat) : Int), .int .i64 ((n : Nat) : Int), .int .u32 3, .string ({ data := #[109] }), .slice none (0) (0)]) 70 := (f_pp_15.no k17)
      have o76 : Gt w17 := (o65.no k17)
      have o77 : Tb w17 b4_0 := (o66.no k17)
      have sw78 := Sw.nil 50 w17.heap.size w17 w17.heap.size
      have z79 := Nat.le_refl w17.heap.size
      have ob81 := (ob67.keptNo k17)
      have lm80 := ob81.top
      refine C_loop (fun m_ l_ wr => ∃ i : Nat, ∃ An : Option Addr, ∃ cn : Nat, ∃ LV : List Shr, (m_ = l.length - i) ∧ (l_ = [(2, .slice A (l.length) (c)), (3, .pointer (some ⟨px, 0, none⟩)), (9, .pointer (some ⟨pb, 0, none⟩)), (10, .pointer (some ⟨b4_0, 0, none⟩)), (13, .slice A_x ((L_x).length) (c_x)), (15, .pointer (some ⟨pp, 0, none⟩)), (17, .slice (some ⟨cm, 0, none⟩) (256) (256)), (18, .int .i64 ((LV.length : Nat) : Int)), (19, .int .i64 ((i : Nat) : Int))]) ∧ (i ≤ l.length) ∧ (LV.length ≤ q + 1) ∧ (Came n 3 LV) ∧ (Offs X dv q LV) ∧ (Kp No w wr) ∧ (Bk wr px (u8s X) 85) ∧ (Bk wr po (u8s O) 86) ∧ (Bk wr pb ([.int .i64 ((q + 1 : Nat) : Int), .int .i64 ((n : Nat) : Int), .int .u32 3]) 28) ∧ (Bk wr dd (u8s dv) 5) ∧ (Bk wr pp ([.int .i64 ((q + 1 : Nat) : Int), .int .i64 ((n : Nat) : Int), .int .u32 3, .string ({ data := #[109] }), .slice An ((LV).length) (cn)]) 70) ∧ (Bk wr cm (bL (cameF LV)) 4) ∧ (Sw 50 w11.heap.size wr w11.heap.size (.slice A_x ((L_x).length) (c_x)) (L_x) ∧ w11.heap.size ≤ (wr).heap.size) ∧ (Sw 50 w17.heap.size wr w17.heap.size (.slice An ((LV).length) (cn)) (LV) ∧ w17.heap.size ≤ (wr).heap.size) ∧ (Gt wr) ∧ (Tb wr b4_0)) (l.length - 0) [(2, .slice A (l.length) (c)), (3, .pointer (some ⟨px, 0, none⟩)), (9, .pointer (some ⟨pb, 0, none⟩)), (10, .pointer (some ⟨b4_0, 0, none⟩)), (13, .slice A_x ((L_x).length) (c_x)), (15, .pointer (some ⟨pp, 0, none⟩)), (17, .slice (some ⟨cm, 0, none⟩) (256) (256)), (18, .int .i64 ((([]).length : Nat) : Int)), (19, .int .i64 0)] (Sub.cons rfl (Sub.cons rfl (Sub.cons rfl (Sub.cons rfl (Sub.cons rfl (Sub.cons rfl (Sub.cons rfl (Sub.cons rfl (Sub.cons rfl (Sub.nil _)))))))))) ⟨0, none, 0, [], rfl, rfl, by omega, (Nat.zero_le _), (Came.nil _ _), (Offs.nil _ _ _), kk17, f71, f72, f73, f74, Bk.eq f75 rfl, Bk.eq f_cm_17 cameF_zero, ⟨ob81, (Nat.le_trans (Nat.le_trans (Nat.le_trans (Nat.le_trans z42 k13.size) k14.size) k15.size) k17.size)⟩, ⟨by exact sw78, z79⟩, o76, o77⟩ ?_
      rintro _ _ w18 ⟨i, An, cn, LV, rfl, rfl, hi, hq1, hcv, hof, kk18, f_px_18, f_po_18, f_pb_18, f_dd_18, f_pp_18, f_cm_18, x_18, v_18, G_18, T_b4_0_18⟩
      have hlv := v_18.1.le
      refine C_seq (fun K82 hK82 => ?_)
      refine C_seq (fun K83 hK83 => ?_)
      refine C_region ?_
      refine R_pu (pu_move rfl) rfl ?_
      refine R_pu (pu_move rfl) rfl ?_
      refine R_pu (pu_len Tryd.underlying22 rfl) rfl ?_
      refine R_pu (pu_lss (p := i < l.length) rfl rfl (by omega)) rfl ?_
      by_cases g17_4 : i < l.length
      · refine R_pu (pu_true (pu_move rfl) g17_4) rfl ?_
        refine R_gpu rfl rfl (pu_move rfl) rfl ?_
        refine R_gpu rfl rfl (pu_fieldAddr (off := 0) (o' := 0) (by kernel_rfl) rfl rfl) rfl ?_
        refine R_gpu rfl rfl (pu_loadK f_pb_18 (by kernel_rfl) rfl rfl) rfl ?_
        refine R_gpu rfl rfl (pu_lss (p := LV.length < (q + 1)) rfl rfl (by omega)) rfl ?_
        refine R_pu (pu_pickt rfl rfl) rfl ?_
        refine R_nil ?_
        refine X_then hK83 ?_
        refine C_dec rfl (fun h122 => ?_) (fun h122 => ?_)
        · refine C_skip ?_
          refine X_then hK82 ?_
          refine C_seq (fun K84 hK84 => ?_)
          refine C_block ?_
          refine C_seq (fun K85 hK85 => ?_)
          refine D_begin (fun W => Kp No w W ∧ Bk W px (u8s X) 85 ∧ Bk W po (u8s O) 86 ∧ Bk W pb ([.int .i64 ((q + 1 : Nat) : Int), .int .i64 ((n : Nat) : Int), .int .u32 3]) 28 ∧ Bk W dd (u8s dv) 5 ∧ Bk W pp ([.int .i64 ((q + 1 : Nat) : Int), .int .i64 ((n : Nat) : Int), .int .u32 3, .string ({ data := #[109] }), .slice An ((LV).length) (cn)]) 70 ∧ Bk W cm (bL (cameF LV)) 4 ∧ Gt W ∧ Tb W b4_0) 9 rfl (by kernel_rfl) ⟨kk18.drew, f_px_18.draw, f_po_18.draw, f_pb_18.draw, f_dd_18.draw, f_pp_18.draw, f_cm_18.draw, G_18.draw, T_b4_0_18.draw⟩ ?_
          intro w19 k19 _
          have kk19 := kk18.then_ k19
          refine D_take 0 rfl (by kernel_rfl) (by kernel_rfl) (by kernel_rfl) (fun _ _ _ h => h) rfl (fun W hS => pu_move rfl) ?_
          refine D_take 1 rfl (by kernel_rfl) (by kernel_rfl) (by kernel_rfl) (fun _ _ _ h => h) rfl (fun W hS => pu_move rfl) ?_
          refine D_take 2 rfl (by kernel_rfl) (by kernel_rfl) (by kernel_rfl) (fun _ _ _ h => h) rfl (fun W hS => pu_indexAddrB (m := i) (HB.keptNo hS.1) Tryd.underlying22 (by kernel_rfl) rfl rfl rfl rfl (by omega)) ?_
          obtain ⟨on, e_on⟩ : ∃ q_, (l)[i]? = some q_ := ⟨_, List.getElem?_eq_getElem (by omega)⟩
          have b_on : on < 256 := ((HB.keptNo kk19)).lt e_on
          refine D_take 3 rfl (by kernel_rfl) (by kernel_rfl) (by kernel_rfl) (fun _ _ _ h => h) rfl (fun W hS => pu_loadB (HB.keptNo hS.1) (by kernel_rfl) rfl e_on) ?_
          refine D_take 4 rfl (by kernel_rfl) (by kernel_rfl) (by kernel_rfl) (fun _ _ _ h => h) rfl (fun W hS => pu_conv (z := ((on : Nat) : Int)) Tryd.underlying5 Tryd.underlying3 rfl (by have : on < 256 := b_on; rw [IntKind.wrap_i64]; omega)) ?_
          refine D_take 5 rfl (by kernel_rfl) (by kernel_rfl) (by kernel_rfl) (fun _ _ _ h => h) rfl (fun W hS => pu_fieldAddr (off := 1) (o' := 1) (by kernel_rfl) rfl rfl) ?_
          refine D_take 6 rfl (by kernel_rfl) (by kernel_rfl) (by kernel_rfl) (fun _ _ _ h => h) rfl (fun W hS => pu_loadK hS.2.2.2.1 (by kernel_rfl) rfl rfl) ?_
          refine D_take 7 rfl (by kernel_rfl) (by kernel_rfl) (by kernel_rfl) (fun _ _ _ h => h) rfl (fun W hS => pu_rem (z := ((on % n : Nat) : Int)) rfl rfl (by omega) (by rfl)) ?_
          refine D_take 8 rfl (by kernel_rfl) (by kernel_rfl) (by kernel_rfl) (fun _ _ _ h => h) rfl (fun W hS => pu_assign rfl) ?_
          refine D_done (by kernel_rfl) ?_
          refine X_then hK85 ?_
          by_cases hin : on % n + 1 ∈ ixs LV
          · refine C_cut (fun l_ wr => (l_ = [(2, .slice A (l.length) (c)), (3, .pointer (some ⟨px, 0, none⟩)), (9, .pointer (some ⟨pb, 0, none⟩)), (10, .pointer (some ⟨b4_0, 0, none⟩)), (13, .slice A_x ((L_x).length) (c_x)), (15, .pointer (some ⟨pp, 0, none⟩)), (17, .slice (some ⟨cm, 0, none⟩) (256) (256)), (18, .int .i64 ((LV.length : Nat) : Int)), (19, .int .i64 ((i : Nat) : Int)), (20, .int .i64 ((on % n : Nat) : Int)), (23, .iface 91 (.int .i64 12))]) ∧ (Kp No w wr) ∧ (Bk wr px (u8s X) 85) ∧ (Bk wr po (u8s O) 86) ∧ (Bk wr pb ([.int .i64 ((q + 1 : Nat) : Int), .int .i64 ((n : Nat) : Int), .int .u32 3]) 28) ∧ (Bk wr dd (u8s dv) 5) ∧ (Bk wr pp ([.int .i64 ((q + 1 : Nat) : Int), .int .i64 ((n : Nat) : Int), .int .u32 3, .string ({ data := #[109] }), .slice An ((LV).length) (cn)]) 70) ∧ (Bk wr cm (bL (cameF LV)) 4) ∧ (Sw 50 w11.heap.size wr w11.heap.size (.slice A_x ((L_x).length) (c_x)) (L_x) ∧ w11.heap.size ≤ (wr).heap.size) ∧ (Sw 50 w17.heap.size wr w17.heap.size (.slice An ((LV).length) (cn)) (LV) ∧ w17.heap.size ≤ (wr).heap.size) ∧ (Gt wr) ∧ (Tb wr b4_0)) (fun K_ hK_ => ?_) ?_
            · have hat : on % n < n := Nat.mod_lt _ (by omega)
              have f86 : Bk w19 px (u8s X) 85 := (f_px_18.no k19)
              have f87 : Bk w19 po (u8s O) 86 := (f_po_18.no k19)
              have f88 : Bk w19 pb ([.int .i64 ((q + 1 : Nat) : Int), .int .i64 ((n : Nat) : Int), .int .u32 3]) 28 := (f_pb_18.no k19)
              have f89 : Bk w19 dd (u8s dv) 5 := (f_dd_18.no k19)
              have f90 : Bk w19 pp ([.int .i64 ((q + 1 : Nat) : Int), .int .i64 ((n : Nat) : Int), .int .u32 3, .string ({ data := #[109] }), .slice An ((LV).length) (cn)]) 70 := (f_pp_18.no k19)
              have f91 : Bk w19 cm (bL (cameF LV)) 4 := (f_cm_18.no k19)
              have o92 : Gt w19 := (G_18.no k19)
              have o93 : Tb w19 b4_0 := (T_b4_0_18.no k19)
              have ob94 := (x_18.1.keptNo k19)
              refine D_begin (fun W => Kp No w W ∧ Bk W px (u8s X) 85 ∧ Bk W po (u8s O) 86 ∧ Bk W pb ([.int .i64 ((q + 1 : Nat) : Int), .int .i64 ((n : Nat) : Int), .int .u32 3]) 28 ∧ Bk W dd (u8s dv) 5 ∧ Bk W pp ([.int .i64 ((q + 1 : Nat) : Int), .int .i64 ((n : Nat) : Int), .int .u32 3, .string ({ data := #[109] }), .slice An ((LV).length) (cn)]) 70 ∧ Bk W cm (bL (cameF LV)) 4 ∧ Gt W ∧ Tb W b4_0 ∧ Sw 50 w11.heap.size W w11.heap.size (.slice A_x ((L_x).length) (c_x)) (L_x)) 14 rfl (by kernel_rfl) ⟨kk19.drew, f86.draw, f87.draw, f88.draw, f89.draw, f90.draw, f91.draw, o92.draw, o93.draw, ob94.draw⟩ ?_
              intro w20 k20 _
              have kk20 := kk19.then_ k20
              refine D_take 0 rfl (by kernel_rfl) (by kernel_rfl) (by kernel_rfl) (fun _ _ _ h => h) rfl (fun W hS => pu_loadRow (len := 5) hS.2.2.2.2.2.1 (by kernel_rfl) (by kernel_rfl) rfl rfl) ?_
              refine D_take 1 rfl (by kernel_rfl) (by kernel_rfl) (by kernel_rfl) (fun _ _ _ h => h) rfl (fun W hS => pu_move rfl) ?_
              refine D_take 2 rfl (by kernel_rfl) (by kernel_rfl) (by kernel_rfl) (fun _ _ _ h => h) rfl (fun W hS => pu_move rfl) ?_
              have ob95 := (ob94.keptNo k20)
              obtain ⟨s1, e_s1⟩ : ∃ q_, (L_x)[on % n]? = some q_ := ⟨_, List.getElem?_eq_getElem (by first | omega | (simp; done) | (simp; omega))⟩
              have ok_s1 := ob95.ss.get e_s1
              have od_s1 := ob95.od e_s1
              have bi_s1 : s1.ix < 256 := ok_s1.ix
              refine D_take 3 rfl (by kernel_rfl) (by kernel_rfl) (by kernel_rfl) (fun _ _ _ h => h) rfl (fun W hS => pu_indexAddrH hS.2.2.2.2.2.2.2.2.2.ss Tryd.underlying29 (by kernel_rfl) rfl rfl rfl rfl e_s1) ?_
              refine D_take 4 rfl (by kernel_rfl) (by kernel_rfl) (by kernel_rfl) (fun _ _ _ h => h) rfl (fun W hS => pu_loadHr hS.2.2.2.2.2.2.2.2.2.ss e_s1 (by kernel_rfl) (by kernel_rfl) rfl) ?_
              refine D_two 5 10 (by kernel_rfl) ?_ ?_
              · have ob96 := ((v_18.1.keptNo k19).keptNo k20)
                have k_s1 := key_at hK_x e_s1 (ptK_get (show on % n < n by omega)); have lx_s1 : s1.X.length = 32 := by rw [k_s1.2.2, ptX_length]; exact bX.1
                refine Nx_lo rfl (lo_call (by kernel_rfl) rfl (submit_share q n 3 ({ data := #[109] }) An LV cn ({ data := #[109] }) s1.ix s1.gen s1.A s1.X s1.c _ ob96.ss ⟨⟨⟨⟨by omega, by omega, by omega⟩, by decide, by omega, by omega⟩, hcv⟩, rfl, ⟨by omega, k_s1.2.1, fun h => h.1 (by rw [k_s1.1]; exact hin)⟩, ok_s1.ix, by omega, by decide⟩)) rfl ?_
                rintro _ w21 ⟨rfl, k21⟩
                have kk21 := kk20.then_ k21
                have f97 : Bk w21 px (u8s X) 85 := ((f86.no k20).no k21)
                have f98 : Bk w21 po (u8s O) 86 := ((f87.no k20).no k21)
                have f99 : Bk w21 pb ([.int .i64 ((q + 1 : Nat) : Int), .int .i64 ((n : Nat) : Int), .int .u32 3]) 28 := ((f88.no k20).no k21)
                have f100 : Bk w21 dd (u8s dv) 5 := ((f89.no k20).no k21)
                have f101 : Bk w21 pp ([.int .i64 ((q + 1 : Nat) : Int), .int .i64 ((n : Nat) : Int), .int .u32 3, .string ({ data := #[109] }), .slice An ((LV).length) (cn)]) 70 := ((f90.no k20).no k21)
                have f102 : Bk w21 cm (bL (cameF LV)) 4 := ((f91.no k20).no k21)
                have o103 : Gt w21 := ((o92.no k20).no k21)
                have o104 : Tb w21 b4_0 := ((o93.no k20).no k21)
                have ob105 := (ob95.keptNo k21)
                refine ⟨⟨kk21, f97, f98, f99, f100, f101, f102, o103, o104, ob105⟩, ?_⟩
                refine D_take 6 rfl (by kernel_rfl) (by kernel_rfl) (by kernel_rfl) (fun _ _ _ h => h) rfl (fun W hS => pu_move rfl) ?_
                refine D_take 7 rfl (by kernel_rfl) (by kernel_rfl) (by kernel_rfl) (fun _ _ _ h => h) rfl (fun W hS => pu_extract rfl rfl) ?_
                refine D_take 8 rfl (by kernel_rfl) (by kernel_rfl) (by kernel_rfl) (fun _ _ _ h => h) rfl (fun W hS => pu_extract rfl rfl) ?_
                refine D_take 9 rfl (by kernel_rfl) (by kernel_rfl) (by kernel_rfl) (fun _ _ _ h => h) rfl (fun W hS => pu_extract rfl rfl) ?_
                have ob106 := (ob96.keptNo k21)
                have ob107 := (od_s1.keptNo k21)
                refine D_one 10 (by kernel_rfl) (Nx_lo rfl (lo_alloc (L := [.int .i64 0, .int .i64 0, .int .u32 0, .string ByteArray.empty, .slice none (0) (0)]) (by kernel_rfl)) rfl ?_)
                rintro _ w22 ⟨yb1, rfl, N22⟩
                have k22 := N22.kp
                have kk22 := kk21.then_ k22
                have ne_yb1_px : yb1 ≠ px := Nat.ne_of_gt (Nat.lt_of_lt_of_le f97.lt N22.le)
                have ne_yb1_po : yb1 ≠ po := Nat.ne_of_gt (Nat.lt_of_lt_of_le f98.lt N22.le)
                have ne_yb1_pb : yb1 ≠ pb := Nat.ne_of_gt (Nat.lt_of_lt_of_le f99.lt N22.le)
                have ne_yb1_dd : yb1 ≠ dd := Nat.ne_of_gt (Nat.lt_of_lt_of_le f100.lt N22.le)
                have ne_yb1_pp : yb1 ≠ pp := Nat.ne_of_gt (Nat.lt_of_lt_of_le f101.lt N22.le)
                have ne_yb1_cm : yb1 ≠ cm := Nat.ne_of_gt (Nat.lt_of_lt_of_le f102.lt N22.le)
                have ne_yb1_0 : yb1 ≠ 0 := Nat.ne_of_gt (Nat.lt_of_lt_of_le o103.lt N22.le)
                have ne_yb1_b4_0 : yb1 ≠ b4_0 := Nat.ne_of_gt (Nat.lt_of_lt_of_le o104.lt N22.le)
                have f_yb1_22 : Bk w22 yb1 ([.int .i64 0, .int .i64 0, .int .u32 0, .string ByteArray.empty, .slice none (0) (0)]) 70 := N22.bk
                have f108 : Bk w22 px (u8s X) 85 := (f97.no k22)
                have f109 : Bk w22 po (u8s O) 86 := (f98.no k22)
                have f110 : Bk w22 pb ([.int .i64 ((q + 1 : Nat) : Int), .int .i64 ((n : Nat) : Int), .int .u32 3]) 28 := (f99.no k22)
                have f111 : Bk w22 dd (u8s dv) 5 := (f100.no k22)
                have f112 : Bk w22 pp ([.int .i64 ((q + 1 : Nat) : Int), .int .i64 ((n : Nat) : Int), .int .u32 3, .string ({ data := #[109] }), .slice An ((LV).length) (cn)]) 70 := (f101.no k22)
                have f113 : Bk w22 cm (bL (cameF LV)) 4 := (f102.no k22)
                have o114 : Gt w22 := (o103.no k22)
                have o115 : Tb w22 b4_0 := (o104.no k22)
                have ob116 := (ob105.keptNo k22)
                refine ⟨⟨kk22, f108, f109, f110, f111, f112, f113, o114, o115, ob116⟩, ?_⟩
                refine D_one 11 (by kernel_rfl) (Nx_lo0 rfl (lo_storeRow (C := [.int .i64 0, .int .i64 0, .int .u32 0, .string ByteArray.empty, .slice none (0) (0)]) f_yb1_22 (by kernel_rfl) rfl rfl (by intro u hu; simp at hu; rcases hu with rfl | rfl | rfl | rfl | rfl <;> rfl) rfl) ?_)
                rintro _ w23 kf23
                obtain ⟨k23, f_yb1_23⟩ := kf23
                replace f_yb1_23 : Bk w23 yb1 ([.int .i64 0, .int .i64 0, .int .u32 0, .string ByteArray.empty, .slice none (0) (0)]) 70 := f_yb1_23
                have kk23 := kk22.trans k23 (fun i hi => .inr (hi ▸ (Nat.le_trans kk21.size N22.le)))
                have f117 : Bk w23 px (u8s X) 85 := (f108.on k23 (Ne.symm ne_yb1_px))
                have f118 : Bk w23 po (u8s O) 86 := (f109.on k23 (Ne.symm ne_yb1_po))
                have f119 : Bk w23 pb ([.int .i64 ((q + 1 : Nat) : Int), .int .i64 ((n : Nat) : Int), .int .u32 3]) 28 := (f110.on k23 (Ne.symm ne_yb1_pb))
                have f120 : Bk w23 dd (u8s dv) 5 := (f111.on k23 (Ne.symm ne_yb1_dd))
                have f121 : Bk w23 pp ([.int .i64 ((q + 1 : Nat) : Int), .int .i64 ((n : Nat) : Int), .int .u32 3, .string ({ data := #[109] }), .slice An ((LV).length) (cn)]) 70 := (f112.on k23 (Ne.symm ne_yb1_pp))
                have f122 : Bk w23 cm (bL (cameF LV)) 4 := (f113.on k23 (Ne.symm ne_yb1_cm))
                have o123 : Gt w23 := (o114.on k23 (Ne.symm ne_yb1_0))
                have o124 : Tb w23 b4_0 := (o115.on k23 (Ne.symm ne_yb1_b4_0))
                have ob125 := (ob116.onN k23 ob105 N22.le)
                refine ⟨⟨kk23, f117, f118, f119, f120, f121, f122, o123, o124, ob125⟩, ?_⟩
                refine D_take 12 rfl (by kernel_rfl) (by kernel_rfl) (by kernel_rfl) (fun _ _ _ h => h) rfl (fun W hS => pu_assign rfl) ?_
                refine D_take 13 rfl (by kernel_rfl) (by kernel_rfl) (by kernel_rfl) (fun _ _ _ h => h) rfl (fun W hS => pu_assign rfl) ?_
                refine D_done (by kernel_rfl) ?_
                have ob126 := ((ob106.keptNo k22).onN k23 ob106 N22.le)
                refine X_cut hK_ [(2, .slice A (l.length) (c)), (3, .pointer (some ⟨px, 0, none⟩)), (9, .pointer (some ⟨pb, 0, none⟩)), (10, .pointer (some ⟨b4_0, 0, none⟩)), (13, .slice A_x ((L_x).length) (c_x)), (15, .pointer (some ⟨pp, 0, none⟩)), (17, .slice (some ⟨cm, 0, none⟩) (256) (256)), (18, .int .i64 ((LV.length : Nat) : Int)), (19, .int .i64 ((i : Nat) : Int)), (20, .int .i64 ((on % n : Nat) : Int)), (23, .iface 91 (.int .i64 12))] (Sub.cons rfl (Sub.cons rfl (Sub.cons rfl (Sub.cons rfl (Sub.cons rfl (Sub.cons rfl (Sub.cons rfl (Sub.cons rfl (Sub.cons rfl (Sub.cons rfl (Sub.cons rfl (Sub.nil _)))))))))))) ⟨rfl, kk23, f117, f118, f119, f120, f121, f122, ⟨ob125, (Nat.le_trans (Nat.le_trans (Nat.le_trans (Nat.le_trans (Nat.le_trans x_18.2 k19.size) k20.size) k21.size) k22.size) k23.size)⟩, ⟨ob126, (Nat.le_trans (Nat.le_trans (Nat.le_trans (Nat.le_trans (Nat.le_trans v_18.2 k19.size) k20.size) k21.size) k22.size) k23.size)⟩, o123, o124⟩
              · have f127 : Bk w20 px (u8s X) 85 := (f86.no k20)
                have f128 : Bk w20 po (u8s O) 86 := (f87.no k20)
                have f129 : Bk w20 pb ([.int .i64 ((q + 1 : Nat) : Int), .int .i64 ((n : Nat) : Int), .int .u32 3]) 28 := (f88.no k20)
                have f130 : Bk w20 dd (u8s dv) 5 := (f89.no k20)
                have f131 : Bk w20 pp ([.int .i64 ((q + 1 : Nat) : Int), .int .i64 ((n : Nat) : Int), .int .u32 3, .string ({ data := #[109] }), .slice An ((LV).length) (cn)]) 70 := (f90.no k20)
                have f132 : Bk w20 cm (bL (cameF LV)) 4 := (f91.no k20)
                have o133 : Gt w20 := (o92.no k20)
                have o134 : Tb w20 b4_0 := (o93.no k20)
                have ob135 := ((v_18.1.keptNo k19).keptNo k20)
                refine Nx_lo rfl (lo_alloc (L := [.int .i64 0, .int .i64 0, .int .u32 0, .string ByteArray.empty, .slice none (0) (0)]) (by kernel_rfl)) rfl ?_
                rintro _ w24 ⟨yb1, rfl, N24⟩
                have k24 := N24.kp
                have kk24 := kk20.then_ k24
                have ne_yb1_px : yb1 ≠ px := Nat.ne_of_gt (Nat.lt_of_lt_of_le f127.lt N24.le)
                have ne_yb1_po : yb1 ≠ po := Nat.ne_of_gt (Nat.lt_of_lt_of_le f128.lt N24.le)
                have ne_yb1_pb : yb1 ≠ pb := Nat.ne_of_gt (Nat.lt_of_lt_of_le f129.lt N24.le)
                have ne_yb1_dd : yb1 ≠ dd := Nat.ne_of_gt (Nat.lt_of_lt_of_le f130.lt N24.le)
                have ne_yb1_pp : yb1 ≠ pp := Nat.ne_of_gt (Nat.lt_of_lt_of_le f131.lt N24.le)
                have ne_yb1_cm : yb1 ≠ cm := Nat.ne_of_gt (Nat.lt_of_lt_of_le f132.lt N24.le)
                have ne_yb1_0 : yb1 ≠ 0 := Nat.ne_of_gt (Nat.lt_of_lt_of_le o133.lt N24.le)
                have ne_yb1_b4_0 : yb1 ≠ b4_0 := Nat.ne_of_gt (Nat.lt_of_lt_of_le o134.lt N24.le)
                have f_yb1_24 : Bk w24 yb1 ([.int .i64 0, .int .i64 0, .int .u32 0, .string ByteArray.empty, .slice none (0) (0)]) 70 := N24.bk
                have f136 : Bk w24 px (u8s X) 85 := (f127.no k24)
                have f137 : Bk w24 po (u8s O) 86 := (f128.no k24)
                have f138 : Bk w24 pb ([.int .i64 ((q + 1 : Nat) : Int), .int .i64 ((n : Nat) : Int), .int .u32 3]) 28 := (f129.no k24)
                have f139 : Bk w24 dd (u8s dv) 5 := (f130.no k24)
                have f140 : Bk w24 pp ([.int .i64 ((q + 1 : Nat) : Int), .int .i64 ((n : Nat) : Int), .int .u32 3, .string ({ data := #[109] }), .slice An ((LV).length) (cn)]) 70 := (f131.no k24)
                have f141 : Bk w24 cm (bL (cameF LV)) 4 := (f132.no k24)
                have o142 : Gt w24 := (o133.no k24)
                have o143 : Tb w24 b4_0 := (o134.no k24)
                have ob144 := (ob95.keptNo k24)
                refine ⟨⟨kk24, f136, f137, f138, f139, f140, f141, o142, o143, ob144⟩, ?_⟩
                have ob145 := (ob135.keptNo k24)
                have ob146 := (od_s1.keptNo k24)
                have k_s1 := key_at hK_x e_s1 (ptK_get (show on % n < n by omega)); have lx_s1 : s1.X.length = 32 := by rw [k_s1.2.2, ptX_length]; exact bX.1
                refine D_one 5 (by kernel_rfl) (Nx_lo rfl (lo_call (by kernel_rfl) rfl (submit_share q n 3 ({ data := #[109] }) An LV cn ({ data := #[109] }) s1.ix s1.gen s1.A s1.X s1.c _ ob145.ss ⟨⟨⟨⟨by omega, by omega, by omega⟩, by decide, by omega, by omega⟩, hcv⟩, rfl, ⟨by omega, k_s1.2.1, fun h => h.1 (by rw [k_s1.1]; exact hin)⟩, ok_s1.ix, by omega, by decide⟩)) rfl ?_)
                rintro _ w25 ⟨rfl, k25⟩
                have kk25 := kk24.then_ k25
                have f147 : Bk w25 px (u8s X) 85 := (f136.no k25)
                have f148 : Bk w25 po (u8s O) 86 := (f137.no k25)
                have f149 : Bk w25 pb ([.int .i64 ((q + 1 : Nat) : Int), .int .i64 ((n : Nat) : Int), .int .u32 3]) 28 := (f138.no k25)
                have f150 : Bk w25 dd (u8s dv) 5 := (f139.no k25)
                have f151 : Bk w25 pp ([.int .i64 ((q + 1 : Nat) : Int), .int .i64 ((n : Nat) : Int), .int .u32 3, .string ({ data := #[109] }), .slice An ((LV).length) (cn)]) 70 := (f140.no k25)
                have f152 : Bk w25 cm (bL (cameF LV)) 4 := (f141.no k25)
                have o153 : Gt w25 := (o142.no k25)
                have o154 : Tb w25 b4_0 := (o143.no k25)
                have ob155 := (ob144.keptNo k25)
                refine ⟨⟨kk25, f147, f148, f149, f150, f151, f152, o153, o154, ob155⟩, ?_⟩
                refine D_take 6 rfl (by kernel_rfl) (by kernel_rfl) (by kernel_rfl) (fun _ _ _ h => h) rfl (fun W hS => pu_move rfl) ?_
                refine D_take 7 rfl (by kernel_rfl) (by kernel_rfl) (by kernel_rfl) (fun _ _ _ h => h) rfl (fun W hS => pu_extract rfl rfl) ?_
                refine D_take 8 rfl (by kernel_rfl) (by kernel_rfl) (by kernel_rfl) (fun _ _ _ h => h) rfl (fun W hS => pu_extract rfl rfl) ?_
                refine D_take 9 rfl (by kernel_rfl) (by kernel_rfl) (by kernel_rfl) (fun _ _ _ h => h) rfl (fun W hS => pu_extract rfl rfl) ?_
                have f156 : Bk w25 yb1 ([.int .i64 0, .int .i64 0, .int .u32 0, .string ByteArray.empty, .slice none (0) (0)]) 70 := (f_yb1_24.no k25)
                refine D_one 11 (by kernel_rfl) (Nx_lo0 rfl (lo_storeRow (C := [.int .i64 0, .int .i64 0, .int .u32 0, .string ByteArray.empty, .slice none (0) (0)]) f156 (by kernel_rfl) rfl rfl (by intro u hu; simp at hu; rcases hu with rfl | rfl | rfl | rfl | rfl <;> rfl) rfl) ?_)
                rintro _ w26 kf26
                obtain ⟨k26, f_yb1_26⟩ := kf26
                replace f_yb1_26 : Bk w26 yb1 ([.int .i64 0, .int .i64 0, .int .u32 0, .string ByteArray.empty, .slice none (0) (0)]) 70 := f_yb1_26
                have kk26 := kk25.trans k26 (fun i hi => .inr (hi ▸ (Nat.le_trans kk20.size N24.le)))
                have f157 : Bk w26 px (u8s X) 85 := (f147.on k26 (Ne.symm ne_yb1_px))
                have f158 : Bk w26 po (u8s O) 86 := (f148.on k26 (Ne.symm ne_yb1_po))
                have f159 : Bk w26 pb ([.int .i64 ((q + 1 : Nat) : Int), .int .i64 ((n : Nat) : Int), .int .u32 3]) 28 := (f149.on k26 (Ne.symm ne_yb1_pb))
                have f160 : Bk w26 dd (u8s dv) 5 := (f150.on k26 (Ne.symm ne_yb1_dd))
                have f161 : Bk w26 pp ([.int .i64 ((q + 1 : Nat) : Int), .int .i64 ((n : Nat) : Int), .int .u32 3, .string ({ data := #[109] }), .slice An ((LV).length) (cn)]) 70 := (f151.on k26 (Ne.symm ne_yb1_pp))
                have f162 : Bk w26 cm (bL (cameF LV)) 4 := (f152.on k26 (Ne.symm ne_yb1_cm))
                have o163 : Gt w26 := (o153.on k26 (Ne.symm ne_yb1_0))
                have o164 : Tb w26 b4_0 := (o154.on k26 (Ne.symm ne_yb1_b4_0))
                have ob165 := (ob155.onN k26 ob95 N24.le)
                refine ⟨⟨kk26, f157, f158, f159, f160, f161, f162, o163, o164, ob165⟩, ?_⟩
                refine D_take 12 rfl (by kernel_rfl) (by kernel_rfl) (by kernel_rfl) (fun _ _ _ h => h) rfl (fun W hS => pu_assign rfl) ?_
                refine D_take 13 rfl (by kernel_rfl) (by kernel_rfl) (by kernel_rfl) (fun _ _ _ h => h) rfl (fun W hS => pu_assign rfl) ?_
                refine D_done (by kernel_rfl) ?_
                have ob166 := ((ob145.keptNo k25).onN k26 ob135 N24.le)
                refine X_cut hK_ [(2, .slice A (l.length) (c)), (3, .pointer (some ⟨px, 0, none⟩)), (9, .pointer (some ⟨pb, 0, none⟩)), (10, .pointer (some ⟨b4_0, 0, none⟩)), (13, .slice A_x ((L_x).length) (c_x)), (15, .pointer (some ⟨pp, 0, none⟩)), (17, .slice (some ⟨cm, 0, none⟩) (256) (256)), (18, .int .i64 ((LV.length : Nat) : Int)), (19, .int .i64 ((i : Nat) : Int)), (20, .int .i64 ((on % n : Nat) : Int)), (23, .iface 91 (.int .i64 12))] (Sub.cons rfl (Sub.cons rfl (Sub.cons rfl (Sub.cons rfl (Sub.cons rfl (Sub.cons rfl (Sub.cons rfl (Sub.cons rfl (Sub.cons rfl (Sub.cons rfl (Sub.cons rfl (Sub.nil _)))))))))))) ⟨rfl, kk26, f157, f158, f159, f160, f161, f162, ⟨ob165, (Nat.le_trans (Nat.le_trans (Nat.le_trans (Nat.le_trans (Nat.le_trans x_18.2 k19.size) k20.size) k24.size) k25.size) k26.size)⟩, ⟨ob166, (Nat.le_trans (Nat.le_trans (Nat.le_trans (Nat.le_trans (Nat.le_trans v_18.2 k19.size) k20.size) k24.size) k25.size) k26.size)⟩, o163, o164⟩
            · rintro _ w27 ⟨rfl, kk27, f_px_27, f_po_27, f_pb_27, f_dd_27, f_pp_27, f_cm_27, x_27, v_27, G_27, T_b4_0_27⟩
              refine C_seq (fun K167 hK167 => ?_)
              refine C_seq (fun K168 hK168 => ?_)
              have hat : on % n < n := Nat.mod_lt _ (by omega)
              refine C_region ?_
              refine R_pu (pu_move rfl) rfl ?_
              refine R_pu (pu_move rfl) rfl ?_
              refine R_pu (pu_indexAddrP (m := on % n) (s := 1) (o' := on % n) Tryd.underlying87 (by kernel_rfl) rfl rfl rfl (by omega) (by omega)) rfl ?_
              refine R_pu (pu_b (pu_loadK f_cm_27 (by kernel_rfl) rfl (bL_get (by omega))) (cameF_t hin)) rfl ?_
              refine R_nil ?_
              refine X_then hK168 ?_
              refine C_true rfl ?_
              refine C_seq (fun K169 hK169 => ?_)
              refine C_seq (fun K170 hK170 => ?_)
              refine C_region ?_
              refine R_pu (pu_move rfl) rfl ?_
              refine R_lo (lo_call (by kernel_rfl) rfl (num23_err 12 _ G_27)) rfl ?_
              rintro _ w28 ⟨rfl, k28⟩
              have kk28 := kk27.then_ k28
              refine R_pu (pu_false (pu_neq (p := (12 : Nat) = 12) rfl rfl (by omega)) (by decide)) rfl ?_
              refine R_nil ?_
              refine X_then hK170 ?_
              refine C_false rfl ?_
              refine C_skip ?_
              refine X_then hK169 ?_
              refine C_exit ?_
              refine X_then_exit (X_in_eq ?_)
              refine X_then hK84 ?_
              refine C_region ?_
              refine R_pu (pu_move rfl) rfl ?_
              refine R_pu (pu_add (z := ((i + 1 : Nat) : Int)) rfl rfl (by rw [IntKind.wrap_i64]; omega)) rfl ?_
              refine R_pu (pu_assign rfl) rfl ?_
              refine R_nil ?_
              have f171 : Bk w28 px (u8s X) 85 := (f_px_27.no k28)
              have f172 : Bk w28 po (u8s O) 86 := (f_po_27.no k28)
              have f173 : Bk w28 pb ([.int .i64 ((q + 1 : Nat) : Int), .int .i64 ((n : Nat) : Int), .int .u32 3]) 28 := (f_pb_27.no k28)
              have f174 : Bk w28 dd (u8s dv) 5 := (f_dd_27.no k28)
              have f175 : Bk w28 pp ([.int .i64 ((q + 1 : Nat) : Int), .int .i64 ((n : Nat) : Int), .int .u32 3, .string ({ data := #[109] }), .slice An ((LV).length) (cn)]) 70 := (f_pp_27.no k28)
              have f176 : Bk w28 cm (bL (cameF LV)) 4 := (f_cm_27.no k28)
              have ob177 := (x_27.1.keptNo k28)
              have ob178 := (v_27.1.keptNo k28)
              have o179 : Gt w28 := (G_27.no k28)
              have o180 : Tb w28 b4_0 := (T_b4_0_27.no k28)
              refine X_round (l.length - (i + 1)) [(2, .slice A (l.length) (c)), (3, .pointer (some ⟨px, 0, none⟩)), (9, .pointer (some ⟨pb, 0, none⟩)), (10, .pointer (some ⟨b4_0, 0, none⟩)), (13, .slice A_x ((L_x).length) (c_x)), (15, .pointer (some ⟨pp, 0, none⟩)), (17, .slice (some ⟨cm, 0, none⟩) (256) (256)), (18, .int .i64 ((LV.length : Nat) : Int)), (19, .int .i64 (((i + 1) : Nat) : Int))] (by omega) (Sub.cons rfl (Sub.cons rfl (Sub.cons rfl (Sub.cons rfl (Sub.cons rfl (Sub.cons rfl (Sub.cons rfl (Sub.cons rfl (Sub.cons rfl (Sub.nil _)))))))))) ⟨i + 1, An, cn, LV, rfl, rfl, by omega, hq1, hcv, hof, kk28, f171, f172, f173, f174, f175, f176, ⟨ob177, (Nat.le_trans x_27.2 k28.size)⟩, ⟨by exact ob178, (Nat.le_trans v_27.2 k28.size)⟩, o179, o180⟩
          · have f181 : Bk w19 px (u8s X) 85 := (f_px_18.no k19)
            have f182 : Bk w19 po (u8s O) 86 := (f_po_18.no k19)
            have f183 : Bk w19 pb ([.int .i64 ((q + 1 : Nat) : Int), .int .i64 ((n : Nat) : Int), .int .u32 3]) 28 := (f_pb_18.no k19)
            have f184 : Bk w19 dd (u8s dv) 5 := (f_dd_18.no k19)
            have f185 : Bk w19 pp ([.int .i64 ((q + 1 : Nat) : Int), .int .i64 ((n : Nat) : Int), .int .u32 3, .string ({ data := #[109] }), .slice An ((LV).length) (cn)]) 70 := (f_pp_18.no k19)
            have f186 : Bk w19 cm (bL (cameF LV)) 4 := (f_cm_18.no k19)
            have o187 : Gt w19 := (G_18.no k19)
            have o188 : Tb w19 b4_0 := (T_b4_0_18.no k19)
            have sw189 := Sw.nil 50 w19.heap.size w19 w19.heap.size
            have z190 := Nat.le_refl w19.heap.size
            have ob192 := (x_18.1.keptNo k19)
            have lm191 := ob192.top
            have ob194 := (v_18.1.keptNo k19)
            have lm193 := ob194.top
            refine C_cut (fun l_ wr => ∃ yb : Nat, ∃ A_y : Option Addr, ∃ c_y : Nat, ∃ L_y : List Shr, (l_ = [(2, .slice A (l.length) (c)), (3, .pointer (some ⟨px, 0, none⟩)), (9, .pointer (some ⟨pb, 0, none⟩)), (10, .pointer (some ⟨b4_0, 0, none⟩)), (13, .slice A_x ((L_x).length) (c_x)), (15, .pointer (some ⟨pp, 0, none⟩)), (17, .slice (some ⟨cm, 0, none⟩) (256) (256)), (18, .int .i64 ((LV.length : Nat) : Int)), (19, .int .i64 ((i : Nat) : Int)), (20, .int .i64 ((on % n : Nat) : Int)), (21, .pointer (some ⟨yb, 0, none⟩)), (22, .bool (decide (LV.length + 1 = q + 1))), (23, .nilIface)]) ∧ (Came n 3 L_y) ∧ (ixs L_y = ixs LV ++ [on % n + 1]) ∧ (Offs X dv q L_y) ∧ (L_y.length = LV.length + 1) ∧ (yb ≠ 0) ∧ (yb ≠ b4_0) ∧ (yb ≠ cm) ∧ (yb ≠ dd) ∧ (yb ≠ pb) ∧ (yb ≠ po) ∧ (yb ≠ pp) ∧ (yb ≠ px) ∧ (Kp No w wr) ∧ (Bk wr px (u8s X) 85) ∧ (Bk wr po (u8s O) 86) ∧ (Bk wr pb ([.int .i64 ((q + 1 : Nat) : Int), .int .i64 ((n : Nat) : Int), .int .u32 3]) 28) ∧ (Bk wr dd (u8s dv) 5) ∧ (Bk wr pp ([.int .i64 ((q + 1 : Nat) : Int), .int .i64 ((n : Nat) : Int), .int .u32 3, .string ({ data := #[109] }), .slice An ((LV).length) (cn)]) 70) ∧ (Bk wr cm (bL (cameF LV)) 4) ∧ (Bk wr yb ([.int .i64 ((q + 1 : Nat) : Int), .int .i64 ((n : Nat) : Int), .int .u32 3, .string ({ data := #[109] }), .slice A_y ((L_y).length) (c_y)]) 70) ∧ (Sw 50 w11.heap.size wr w11.heap.size (.slice A_x ((L_x).length) (c_x)) (L_x) ∧ w11.heap.size ≤ (wr).heap.size) ∧ (Sw 50 w17.heap.size wr w17.heap.size (.slice An ((LV).length) (cn)) (LV) ∧ w17.heap.size ≤ (wr).heap.size) ∧ (Sw 50 w19.heap.size wr w19.heap.size (.slice A_y ((L_y).length) (c_y)) (L_y) ∧ w19.heap.size ≤ (wr).heap.size) ∧ (Gt wr) ∧ (Tb wr b4_0)) (fun K_ hK_ => ?_) ?_
            · have hat : on % n < n := Nat.mod_lt _ (by omega)
              refine D_begin (fun W => Kp No w W ∧ Bk W px (u8s X) 85 ∧ Bk W po (u8s O) 86 ∧ Bk W pb ([.int .i64 ((q + 1 : Nat) : Int), .int .i64 ((n : Nat) : Int), .int .u32 3]) 28 ∧ Bk W dd (u8s dv) 5 ∧ Bk W pp ([.int .i64 ((q + 1 : Nat) : Int), .int .i64 ((n : Nat) : Int), .int .u32 3, .string ({ data := #[109] }), .slice An ((LV).length) (cn)]) 70 ∧ Bk W cm (bL (cameF LV)) 4 ∧ Gt W ∧ Tb W b4_0 ∧ Sw 50 w11.heap.size W w11.heap.size (.slice A_x ((L_x).length) (c_x)) (L_x)) 14 rfl (by kernel_rfl) ⟨kk19.drew, f181.draw, f182.draw, f183.draw, f184.draw, f185.draw, f186.draw, o187.draw, o188.draw, ob192.draw⟩ ?_
              intro w29 k29 _
              have kk29 := kk19.then_ k29
              refine D_take 0 rfl (by kernel_rfl) (by kernel_rfl) (by kernel_rfl) (fun _ _ _ h => h) rfl (fun W hS => pu_loadRow (len := 5) hS.2.2.2.2.2.1 (by kernel_rfl) (by kernel_rfl) rfl rfl) ?_
              refine D_take 1 rfl (by kernel_rfl) (by kernel_rfl) (by kernel_rfl) (fun _ _ _ h => h) rfl (fun W hS => pu_move rfl) ?_
              refine D_take 2 rfl (by kernel_rfl) (by kernel_rfl) (by kernel_rfl) (fun _ _ _ h => h) rfl (fun W hS => pu_move rfl) ?_
              have ob195 := (ob192.keptNo k29)
              obtain ⟨s1, e_s1⟩ : ∃ q_, (L_x)[on % n]? = some q_ := ⟨_, List.getElem?_eq_getElem (by first | omega | (simp; done) | (simp; omega))⟩
              have ok_s1 := ob195.ss.get e_s1
              have od_s1 := ob195.od e_s1
              have bi_s1 : s1.ix < 256 := ok_s1.ix
              refine D_take 3 rfl (by kernel_rfl) (by kernel_rfl) (by kernel_rfl) (fun _ _ _ h => h) rfl (fun W hS => pu_indexAddrH hS.2.2.2.2.2.2.2.2.2.ss Tryd.underlying29 (by kernel_rfl) rfl rfl rfl rfl e_s1) ?_
              refine D_take 4 rfl (by kernel_rfl) (by kernel_rfl) (by kernel_rfl) (fun _ _ _ h => h) rfl (fun W hS => pu_loadHr hS.2.2.2.2.2.2.2.2.2.ss e_s1 (by kernel_rfl) (by kernel_rfl) rfl) ?_
              refine D_two 5 10 (by kernel_rfl) ?_ ?_
              · have ob196 := (ob194.keptNo k29)
                have k_s1 := key_at hK_x e_s1 (ptK_get (show on % n < n by omega)); have lx_s1 : s1.X.length = 32 := by rw [k_s1.2.2, ptX_length]; exact bX.1
                have f197 : Bk w29 px (u8s X) 85 := (f181.no k29)
                have f198 : Bk w29 po (u8s O) 86 := (f182.no k29)
                have f199 : Bk w29 pb ([.int .i64 ((q + 1 : Nat) : Int), .int .i64 ((n : Nat) : Int), .int .u32 3]) 28 := (f183.no k29)
                have f200 : Bk w29 dd (u8s dv) 5 := (f184.no k29)
                have f201 : Bk w29 pp ([.int .i64 ((q + 1 : Nat) : Int), .int .i64 ((n : Nat) : Int), .int .u32 3, .string ({ data := #[109] }), .slice An ((LV).length) (cn)]) 70 := (f185.no k29)
                have f202 : Bk w29 cm (bL (cameF LV)) 4 := (f186.no k29)
                have o203 : Gt w29 := (o187.no k29)
                have o204 : Tb w29 b4_0 := (o188.no k29)
                have lm205 := ob195.top
                have lm206 := ob196.top
                have ob208 := (sw189.keptNo k29)
                have lm207 := ob208.top
                have lm209 := od_s1.top
                refine Nx_lo rfl (lo_call (by kernel_rfl) rfl (submit_ok q n 3 ({ data := #[109] }) An LV cn s1.ix s1.gen s1.A s1.X s1.c _ ob196.ss od_s1.bs od_s1.le.2 ⟨⟨⟨⟨by omega, by omega, by omega⟩, by decide, by omega, by omega⟩, hcv⟩, ⟨by omega, k_s1.2.1, ⟨by rw [k_s1.1]; exact hin, by rw [k_s1.1]; omega, by rw [k_s1.1]; omega, lx_s1⟩⟩, ok_s1.ix, by decide⟩)) rfl ?_
                rintro _ w30 ⟨A_y1, c_y1, L_y1, rfl, Q30, hK_y1, k30⟩
                have kk30 := kk29.then_ k30
                have z210 : w29.heap.size ≤ w30.heap.size := k30.size
                have hl_y1 : L_y1.length = LV.length + 1 := by have := congrArg List.length hK_y1; simpa using this
                have f211 : Bk w30 px (u8s X) 85 := (f197.no k30)
                have f212 : Bk w30 po (u8s O) 86 := (f198.no k30)
                have f213 : Bk w30 pb ([.int .i64 ((q + 1 : Nat) : Int), .int .i64 ((n : Nat) : Int), .int .u32 3]) 28 := (f199.no k30)
                have f214 : Bk w30 dd (u8s dv) 5 := (f200.no k30)
                have f215 : Bk w30 pp ([.int .i64 ((q + 1 : Nat) : Int), .int .i64 ((n : Nat) : Int), .int .u32 3, .string ({ data := #[109] }), .slice An ((LV).length) (cn)]) 70 := (f201.no k30)
                have f216 : Bk w30 cm (bL (cameF LV)) 4 := (f202.no k30)
                have o217 : Gt w30 := (o203.no k30)
                have o218 : Tb w30 b4_0 := (o204.no k30)
                have ob219 := (ob195.keptNo k30)
                refine ⟨⟨kk30, f211, f212, f213, f214, f215, f216, o217, o218, ob219⟩, ?_⟩
                refine D_take 6 rfl (by kernel_rfl) (by kernel_rfl) (by kernel_rfl) (fun _ _ _ h => h) rfl (fun W hS => pu_move rfl) ?_
                refine D_take 7 rfl (by kernel_rfl) (by kernel_rfl) (by kernel_rfl) (fun _ _ _ h => h) rfl (fun W hS => pu_extract rfl rfl) ?_
                refine D_take 8 rfl (by kernel_rfl) (by kernel_rfl) (by kernel_rfl) (fun _ _ _ h => h) rfl (fun W hS => pu_extract rfl rfl) ?_
                refine D_take 9 rfl (by kernel_rfl) (by kernel_rfl) (by kernel_rfl) (fun _ _ _ h => h) rfl (fun W hS => pu_extract rfl rfl) ?_
                have ob220 := (ob196.keptNo k30)
                have ob221 := (ob208.keptNo k30)
                have ob222 := (od_s1.keptNo k30)
                refine D_one 10 (by kernel_rfl) (Nx_lo rfl (lo_alloc (L := [.int .i64 0, .int .i64 0, .int .u32 0, .string ByteArray.empty, .slice none (0) (0)]) (by kernel_rfl)) rfl ?_)
                rintro _ w31 ⟨yb1, rfl, N31⟩
                have k31 := N31.kp
                have kk31 := kk30.then_ k31
                have ne_yb1_px : yb1 ≠ px := Nat.ne_of_gt (Nat.lt_of_lt_of_le f211.lt N31.le)
                have ne_yb1_po : yb1 ≠ po := Nat.ne_of_gt (Nat.lt_of_lt_of_le f212.lt N31.le)
                have ne_yb1_pb : yb1 ≠ pb := Nat.ne_of_gt (Nat.lt_of_lt_of_le f213.lt N31.le)
                have ne_yb1_dd : yb1 ≠ dd := Nat.ne_of_gt (Nat.lt_of_lt_of_le f214.lt N31.le)
                have ne_yb1_pp : yb1 ≠ pp := Nat.ne_of_gt (Nat.lt_of_lt_of_le f215.lt N31.le)
                have ne_yb1_cm : yb1 ≠ cm := Nat.ne_of_gt (Nat.lt_of_lt_of_le f216.lt N31.le)
                have ne_yb1_0 : yb1 ≠ 0 := Nat.ne_of_gt (Nat.lt_of_lt_of_le o217.lt N31.le)
                have ne_yb1_b4_0 : yb1 ≠ b4_0 := Nat.ne_of_gt (Nat.lt_of_lt_of_le o218.lt N31.le)
                have f_yb1_31 : Bk w31 yb1 ([.int .i64 0, .int .i64 0, .int .u32 0, .string ByteArray.empty, .slice none (0) (0)]) 70 := N31.bk
                have f223 : Bk w31 px (u8s X) 85 := (f211.no k31)
                have f224 : Bk w31 po (u8s O) 86 := (f212.no k31)
                have f225 : Bk w31 pb ([.int .i64 ((q + 1 : Nat) : Int), .int .i64 ((n : Nat) : Int), .int .u32 3]) 28 := (f213.no k31)
                have f226 : Bk w31 dd (u8s dv) 5 := (f214.no k31)
                have f227 : Bk w31 pp ([.int .i64 ((q + 1 : Nat) : Int), .int .i64 ((n : Nat) : Int), .int .u32 3, .string ({ data := #[109] }), .slice An ((LV).length) (cn)]) 70 := (f215.no k31)
                have f228 : Bk w31 cm (bL (cameF LV)) 4 := (f216.no k31)
                have o229 : Gt w31 := (o217.no k31)
                have o230 : Tb w31 b4_0 := (o218.no k31)
                have ob231 := (ob219.keptNo k31)
                refine ⟨⟨kk31, f223, f224, f225, f226, f227, f228, o229, o230, ob231⟩, ?_⟩
                refine D_one 11 (by kernel_rfl) (Nx_lo0 rfl (lo_storeRow (C := [.int .i64 ((q + 1 : Nat) : Int), .int .i64 ((n : Nat) : Int), .int .u32 3, .string ({ data := #[109] }), .slice A_y1 ((L_y1).length) (c_y1)]) f_yb1_31 (by kernel_rfl) rfl rfl (by intro u hu; simp at hu; rcases hu with rfl | rfl | rfl | rfl | rfl <;> rfl) rfl) ?_)
                rintro _ w32 kf32
                obtain ⟨k32, f_yb1_32⟩ := kf32
                replace f_yb1_32 : Bk w32 yb1 ([.int .i64 ((q + 1 : Nat) : Int), .int .i64 ((n : Nat) : Int), .int .u32 3, .string ({ data := #[109] }), .slice A_y1 ((L_y1).length) (c_y1)]) 70 := f_yb1_32
                have kk32 := kk31.trans k32 (fun i hi => .inr (hi ▸ (Nat.le_trans kk30.size N31.le)))
                have f232 : Bk w32 px (u8s X) 85 := (f223.on k32 (Ne.symm ne_yb1_px))
                have f233 : Bk w32 po (u8s O) 86 := (f224.on k32 (Ne.symm ne_yb1_po))
                have f234 : Bk w32 pb ([.int .i64 ((q + 1 : Nat) : Int), .int .i64 ((n : Nat) : Int), .int .u32 3]) 28 := (f225.on k32 (Ne.symm ne_yb1_pb))
                have f235 : Bk w32 dd (u8s dv) 5 := (f226.on k32 (Ne.symm ne_yb1_dd))
                have f236 : Bk w32 pp ([.int .i64 ((q + 1 : Nat) : Int), .int .i64 ((n : Nat) : Int), .int .u32 3, .string ({ data := #[109] }), .slice An ((LV).length) (cn)]) 70 := (f227.on k32 (Ne.symm ne_yb1_pp))
                have f237 : Bk w32 cm (bL (cameF LV)) 4 := (f228.on k32 (Ne.symm ne_yb1_cm))
                have o238 : Gt w32 := (o229.on k32 (Ne.symm ne_yb1_0))
                have o239 : Tb w32 b4_0 := (o230.on k32 (Ne.symm ne_yb1_b4_0))
                have ob240 := (ob231.onN k32 ob219 N31.le)
                refine ⟨⟨kk32, f232, f233, f234, f235, f236, f237, o238, o239, ob240⟩, ?_⟩
                refine D_take 12 rfl (by kernel_rfl) (by kernel_rfl) (by kernel_rfl) (fun _ _ _ h => h) rfl (fun W hS => pu_assign rfl) ?_
                refine D_take 13 rfl (by kernel_rfl) (by kernel_rfl) (by kernel_rfl) (fun _ _ _ h => h) rfl (fun W hS => pu_assign rfl) ?_
                refine D_done (by kernel_rfl) ?_
                have ob241 := ((ob220.keptNo k31).onN k32 ob220 N31.le)
                have ob242 := ((Q30.keptNo k31).onN k32 Q30 N31.le)
                refine X_cut hK_ [(2, .slice A (l.length) (c)), (3, .pointer (some ⟨px, 0, none⟩)), (9, .pointer (some ⟨pb, 0, none⟩)), (10, .pointer (some ⟨b4_0, 0, none⟩)), (13, .slice A_x ((L_x).length) (c_x)), (15, .pointer (some ⟨pp, 0, none⟩)), (17, .slice (some ⟨cm, 0, none⟩) (256) (256)), (18, .int .i64 ((LV.length : Nat) : Int)), (19, .int .i64 ((i : Nat) : Int)), (20, .int .i64 ((on % n : Nat) : Int)), (21, .pointer (some ⟨yb1, 0, none⟩)), (22, .bool (decide (LV.length + 1 = q + 1))), (23, .nilIface)] (Sub.cons rfl (Sub.cons rfl (Sub.cons rfl (Sub.cons rfl (Sub.cons rfl (Sub.cons rfl (Sub.cons rfl (Sub.cons rfl (Sub.cons rfl (Sub.cons rfl (Sub.cons rfl (Sub.cons rfl (Sub.cons rfl (Sub.nil _)))))))))))))) ⟨yb1, A_y1, c_y1, L_y1, rfl, (came_snoc (s := ⟨s1.ix, s1.gen, none, s1.X, 0⟩) hcv hK_y1 ⟨k_s1.2.1, by rw [k_s1.1]; exact hin, by rw [k_s1.1]; omega, by rw [k_s1.1]; omega, lx_s1⟩), (by rw [ixs_snoc hK_y1, k_s1.1]), (offs_snoc hK_y1 hof ok_s1.ix (by rw [k_s1.2.2, k_s1.1])), hl_y1, ne_yb1_0, ne_yb1_b4_0, ne_yb1_cm, ne_yb1_dd, ne_yb1_pb, ne_yb1_po, ne_yb1_pp, ne_yb1_px, kk32, f232, f233, f234, f235, f236, f237, f_yb1_32, ⟨ob240, (Nat.le_trans (Nat.le_trans (Nat.le_trans (Nat.le_trans (Nat.le_trans x_18.2 k19.size) k29.size) k30.size) k31.size) k32.size)⟩, ⟨ob241, (Nat.le_trans (Nat.le_trans (Nat.le_trans (Nat.le_trans (Nat.le_trans v_18.2 k19.size) k29.size) k30.size) k31.size) k32.size)⟩, ⟨((ob242).lowb (Nat.le_trans z190 k29.size)).lowd (Nat.le_trans z190 k29.size), (Nat.le_trans (Nat.le_trans (Nat.le_trans (Nat.le_trans z190 k29.size) k30.size) k31.size) k32.size)⟩, o238, o239⟩
              · have f243 : Bk w29 px (u8s X) 85 := (f181.no k29)
                have f244 : Bk w29 po (u8s O) 86 := (f182.no k29)
                have f245 : Bk w29 pb ([.int .i64 ((q + 1 : Nat) : Int), .int .i64 ((n : Nat) : Int), .int .u32 3]) 28 := (f183.no k29)
                have f246 : Bk w29 dd (u8s dv) 5 := (f184.no k29)
                have f247 : Bk w29 pp ([.int .i64 ((q + 1 : Nat) : Int), .int .i64 ((n : Nat) : Int), .int .u32 3, .string ({ data := #[109] }), .slice An ((LV).length) (cn)]) 70 := (f185.no k29)
                have f248 : Bk w29 cm (bL (cameF LV)) 4 := (f186.no k29)
                have o249 : Gt w29 := (o187.no k29)
                have o250 : Tb w29 b4_0 := (o188.no k29)
                have ob251 := (ob194.keptNo k29)
                have ob252 := (sw189.keptNo k29)
                refine Nx_lo rfl (lo_alloc (L := [.int .i64 0, .int .i64 0, .int .u32 0, .string ByteArray.empty, .slice none (0) (0)]) (by kernel_rfl)) rfl ?_
                rintro _ w33 ⟨yb1, rfl, N33⟩
                have k33 := N33.kp
                have kk33 := kk29.then_ k33
                have ne_yb1_px : yb1 ≠ px := Nat.ne_of_gt (Nat.lt_of_lt_of_le f243.lt N33.le)
                have ne_yb1_po : yb1 ≠ po := Nat.ne_of_gt (Nat.lt_of_lt_of_le f244.lt N33.le)
                have ne_yb1_pb : yb1 ≠ pb := Nat.ne_of_gt (Nat.lt_of_lt_of_le f245.lt N33.le)
                have ne_yb1_dd : yb1 ≠ dd := Nat.ne_of_gt (Nat.lt_of_lt_of_le f246.lt N33.le)
                have ne_yb1_pp : yb1 ≠ pp := Nat.ne_of_gt (Nat.lt_of_lt_of_le f247.lt N33.le)
                have ne_yb1_cm : yb1 ≠ cm := Nat.ne_of_gt (Nat.lt_of_lt_of_le f248.lt N33.le)
                have ne_yb1_0 : yb1 ≠ 0 := Nat.ne_of_gt (Nat.lt_of_lt_of_le o249.lt N33.le)
                have ne_yb1_b4_0 : yb1 ≠ b4_0 := Nat.ne_of_gt (Nat.lt_of_lt_of_le o250.lt N33.le)
                have f_yb1_33 : Bk w33 yb1 ([.int .i64 0, .int .i64 0, .int .u32 0, .string ByteArray.empty, .slice none (0) (0)]) 70 := N33.bk
                have f253 : Bk w33 px (u8s X) 85 := (f243.no k33)
                have f254 : Bk w33 po (u8s O) 86 := (f244.no k33)
                have f255 : Bk w33 pb ([.int .i64 ((q + 1 : Nat) : Int), .int .i64 ((n : Nat) : Int), .int .u32 3]) 28 := (f245.no k33)
                have f256 : Bk w33 dd (u8s dv) 5 := (f246.no k33)
                have f257 : Bk w33 pp ([.int .i64 ((q + 1 : Nat) : Int), .int .i64 ((n : Nat) : Int), .int .u32 3, .string ({ data := #[109] }), .slice An ((LV).length) (cn)]) 70 := (f247.no k33)
                have f258 : Bk w33 cm (bL (cameF LV)) 4 := (f248.no k33)
                have o259 : Gt w33 := (o249.no k33)
                have o260 : Tb w33 b4_0 := (o250.no k33)
                have ob261 := (ob195.keptNo k33)
                refine ⟨⟨kk33, f253, f254, f255, f256, f257, f258, o259, o260, ob261⟩, ?_⟩
                have ob262 := (ob251.keptNo k33)
                have ob263 := (od_s1.keptNo k33)
                have k_s1 := key_at hK_x e_s1 (ptK_get (show on % n < n by omega)); have lx_s1 : s1.X.length = 32 := by rw [k_s1.2.2, ptX_length]; exact bX.1
                have lm264 := ob261.top
                have lm265 := ob262.top
                have ob267 := (ob252.keptNo k33)
                have lm266 := ob267.top
                have lm268 := ob263.top
                refine D_one 5 (by kernel_rfl) (Nx_lo rfl (lo_call (by kernel_rfl) rfl (submit_ok q n 3 ({ data := #[109] }) An LV cn s1.ix s1.gen s1.A s1.X s1.c _ ob262.ss ob263.bs ob263.le.2 ⟨⟨⟨⟨by omega, by omega, by omega⟩, by decide, by omega, by omega⟩, hcv⟩, ⟨by omega, k_s1.2.1, ⟨by rw [k_s1.1]; exact hin, by rw [k_s1.1]; omega, by rw [k_s1.1]; omega, lx_s1⟩⟩, ok_s1.ix, by decide⟩)) rfl ?_)
                rintro _ w34 ⟨A_y1, c_y1, L_y1, rfl, Q34, hK_y1, k34⟩
                have kk34 := kk33.then_ k34
                have z269 : w33.heap.size ≤ w34.heap.size := k34.size
                have hl_y1 : L_y1.length = LV.length + 1 := by have := congrArg List.length hK_y1; simpa using this
                have f270 : Bk w34 px (u8s X) 85 := (f253.no k34)
                have f271 : Bk w34 po (u8s O) 86 := (f254.no k34)
                have f272 : Bk w34 pb ([.int .i64 ((q + 1 : Nat) : Int), .int .i64 ((n : Nat) : Int), .int .u32 3]) 28 := (f255.no k34)
                have f273 : Bk w34 dd (u8s dv) 5 := (f256.no k34)
                have f274 : Bk w34 pp ([.int .i64 ((q + 1 : Nat) : Int), .int .i64 ((n : Nat) : Int), .int .u32 3, .string ({ data := #[109] }), .slice An ((LV).length) (cn)]) 70 := (f257.no k34)
                have f275 : Bk w34 cm (bL (cameF LV)) 4 := (f258.no k34)
                have o276 : Gt w34 := (o259.no k34)
                have o277 : Tb w34 b4_0 := (o260.no k34)
                have ob278 := (ob261.keptNo k34)
                refine ⟨⟨kk34, f270, f271, f272, f273, f274, f275, o276, o277, ob278⟩, ?_⟩
                refine D_take 6 rfl (by kernel_rfl) (by kernel_rfl) (by kernel_rfl) (fun _ _ _ h => h) rfl (fun W hS => pu_move rfl) ?_
                refine D_take 7 rfl (by kernel_rfl) (by kernel_rfl) (by kernel_rfl) (fun _ _ _ h => h) rfl (fun W hS => pu_extract rfl rfl) ?_
                refine D_take 8 rfl (by kernel_rfl) (by kernel_rfl) (by kernel_rfl) (fun _ _ _ h => h) rfl (fun W hS => pu_extract rfl rfl) ?_
                refine D_take 9 rfl (by kernel_rfl) (by kernel_rfl) (by kernel_rfl) (fun _ _ _ h => h) rfl (fun W hS => pu_extract rfl rfl) ?_
                have f279 : Bk w34 yb1 ([.int .i64 0, .int .i64 0, .int .u32 0, .string ByteArray.empty, .slice none (0) (0)]) 70 := (f_yb1_33.no k34)
                refine D_one 11 (by kernel_rfl) (Nx_lo0 rfl (lo_storeRow (C := [.int .i64 ((q + 1 : Nat) : Int), .int .i64 ((n : Nat) : Int), .int .u32 3, .string ({ data := #[109] }), .slice A_y1 ((L_y1).length) (c_y1)]) f279 (by kernel_rfl) rfl rfl (by intro u hu; simp at hu; rcases hu with rfl | rfl | rfl | rfl | rfl <;> rfl) rfl) ?_)
                rintro _ w35 kf35
                obtain ⟨k35, f_yb1_35⟩ := kf35
                replace f_yb1_35 : Bk w35 yb1 ([.int .i64 ((q + 1 : Nat) : Int), .int .i64 ((n : Nat) : Int), .int .u32 3, .string ({ data := #[109] }), .slice A_y1 ((L_y1).length) (c_y1)]) 70 := f_yb1_35
                have kk35 := kk34.trans k35 (fun i hi => .inr (hi ▸ (Nat.le_trans kk29.size N33.le)))
                have f280 : Bk w35 px (u8s X) 85 := (f270.on k35 (Ne.symm ne_yb1_px))
                have f281 : Bk w35 po (u8s O) 86 := (f271.on k35 (Ne.symm ne_yb1_po))
                have f282 : Bk w35 pb ([.int .i64 ((q + 1 : Nat) : Int), .int .i64 ((n : Nat) : Int), .int .u32 3]) 28 := (f272.on k35 (Ne.symm ne_yb1_pb))
                have f283 : Bk w35 dd (u8s dv) 5 := (f273.on k35 (Ne.symm ne_yb1_dd))
                have f284 : Bk w35 pp ([.int .i64 ((q + 1 : Nat) : Int), .int .i64 ((n : Nat) : Int), .int .u32 3, .string ({ data := #[109] }), .slice An ((LV).length) (cn)]) 70 := (f274.on k35 (Ne.symm ne_yb1_pp))
                have f285 : Bk w35 cm (bL (cameF LV)) 4 := (f275.on k35 (Ne.symm ne_yb1_cm))
                have o286 : Gt w35 := (o276.on k35 (Ne.symm ne_yb1_0))
                have o287 : Tb w35 b4_0 := (o277.on k35 (Ne.symm ne_yb1_b4_0))
                have ob288 := (ob278.onN k35 ob195 N33.le)
                refine ⟨⟨kk35, f280, f281, f282, f283, f284, f285, o286, o287, ob288⟩, ?_⟩
                refine D_take 12 rfl (by kernel_rfl) (by kernel_rfl) (by kernel_rfl) (fun _ _ _ h => h) rfl (fun W hS => pu_assign rfl) ?_
                refine D_take 13 rfl (by kernel_rfl) (by kernel_rfl) (by kernel_rfl) (fun _ _ _ h => h) rfl (fun W hS => pu_assign rfl) ?_
                refine D_done (by kernel_rfl) ?_
                have ob289 := ((ob262.keptNo k34).onN k35 ob251 N33.le)
                have ob290 := (Q34.on k35 (by have := f_yb1_33.lt; omega))
                refine X_cut hK_ [(2, .slice A (l.length) (c)), (3, .pointer (some ⟨px, 0, none⟩)), (9, .pointer (some ⟨pb, 0, none⟩)), (10, .pointer (some ⟨b4_0, 0, none⟩)), (13, .slice A_x ((L_x).length) (c_x)), (15, .pointer (some ⟨pp, 0, none⟩)), (17, .slice (some ⟨cm, 0, none⟩) (256) (256)), (18, .int .i64 ((LV.length : Nat) : Int)), (19, .int .i64 ((i : Nat) : Int)), (20, .int .i64 ((on % n : Nat) : Int)), (21, .pointer (some ⟨yb1, 0, none⟩)), (22, .bool (decide (LV.length + 1 = q + 1))), (23, .nilIface)] (Sub.cons rfl (Sub.cons rfl (Sub.cons rfl (Sub.cons rfl (Sub.cons rfl (Sub.cons rfl (Sub.cons rfl (Sub.cons rfl (Sub.cons rfl (Sub.cons rfl (Sub.cons rfl (Sub.cons rfl (Sub.cons rfl (Sub.nil _)))))))))))))) ⟨yb1, A_y1, c_y1, L_y1, rfl, (came_snoc (s := ⟨s1.ix, s1.gen, none, s1.X, 0⟩) hcv hK_y1 ⟨k_s1.2.1, by rw [k_s1.1]; exact hin, by rw [k_s1.1]; omega, by rw [k_s1.1]; omega, lx_s1⟩), (by rw [ixs_snoc hK_y1, k_s1.1]), (offs_snoc hK_y1 hof ok_s1.ix (by rw [k_s1.2.2, k_s1.1])), hl_y1, ne_yb1_0, ne_yb1_b4_0, ne_yb1_cm, ne_yb1_dd, ne_yb1_pb, ne_yb1_po, ne_yb1_pp, ne_yb1_px, kk35, f280, f281, f282, f283, f284, f285, f_yb1_35, ⟨ob288, (Nat.le_trans (Nat.le_trans (Nat.le_trans (Nat.le_trans (Nat.le_trans x_18.2 k19.size) k29.size) k33.size) k34.size) k35.size)⟩, ⟨ob289, (Nat.le_trans (Nat.le_trans (Nat.le_trans (Nat.le_trans (Nat.le_trans v_18.2 k19.size) k29.size) k33.size) k34.size) k35.size)⟩, ⟨((ob290).lowb (Nat.le_trans (Nat.le_trans z190 k29.size) k33.size)).lowd (Nat.le_trans (Nat.le_trans z190 k29.size) k33.size), (Nat.le_trans (Nat.le_trans (Nat.le_trans (Nat.le_trans z190 k29.size) k33.size) k34.size) k35.size)⟩, o286, o287⟩
            · rintro _ w36 ⟨yb, A_y, c_y, L_y, rfl, hcy, hiy, hoy, hl_y, ne_yb_0, ne_yb_b4_0, ne_yb_cm, ne_yb_dd, ne_yb_pb, ne_yb_po, ne_yb_pp, ne_yb_px, kk36, f_px_36, f_po_36, f_pb_36, f_dd_36, f_pp_36, f_cm_36, f_yb_36, x_36, v_36, y_36, G_36, T_b4_0_36⟩
              refine C_seq (fun K291 hK291 => ?_)
              refine C_seq (fun K292 hK292 => ?_)
              have hat : on % n < n := Nat.mod_lt _ (by omega)
              refine C_region ?_
              refine R_pu (pu_move rfl) rfl ?_
              refine R_pu (pu_move rfl) rfl ?_
              refine R_pu (pu_indexAddrP (m := on % n) (s := 1) (o' := on % n) Tryd.underlying87 (by kernel_rfl) rfl rfl rfl (by omega) (by omega)) rfl ?_
              refine R_pu (pu_b (pu_loadK f_cm_36 (by kernel_rfl) rfl (bL_get (by omega))) (cameF_f hin)) rfl ?_
              refine R_nil ?_
              refine X_then hK292 ?_
              refine C_false rfl ?_
              refine C_skip ?_
              refine X_then hK291 ?_
              refine C_seq (fun K293 hK293 => ?_)
              refine C_region ?_
              refine R_pu (pu_move rfl) rfl ?_
              refine R_pu (pu_move rfl) rfl ?_
              refine R_pu (pu_indexAddrP (m := on % n) (s := 1) (o' := on % n) Tryd.underlying87 (by kernel_rfl) rfl rfl rfl (by omega) (by omega)) rfl ?_
              refine R_lo0 (lo_store f_cm_36 (by kernel_rfl) rfl rfl rfl (by rw [bL_length]; omega)) ?_
              rintro _ w37 kf37
              obtain ⟨k37, f_cm_37⟩ := kf37
              replace f_cm_37 := Bk.eq f_cm_37 bL_set
              replace f_cm_37 : Bk w37 cm (bL (fun v => decide (v = on % n) || cameF LV v)) 4 := f_cm_37
              have kk37 := kk36.trans k37 (fun i hi => .inr (hi ▸ (Nat.le_trans kk15.size N17.le)))
              refine R_nil ?_
              refine X_then hK293 ?_
              refine C_seq (fun K294 hK294 => ?_)
              refine C_region ?_
              refine R_pu (pu_move rfl) rfl ?_
              refine R_pu (pu_add (z := ((LV.length + 1 : Nat) : Int)) rfl rfl (by rw [IntKind.wrap_i64]; omega)) rfl ?_
              refine R_pu (pu_assign rfl) rfl ?_
              refine R_nil ?_
              refine X_then hK294 ?_
              refine C_seq (fun K295 hK295 => ?_)
              refine C_seq (fun K296 hK296 => ?_)
              refine C_region ?_
              refine R_pu (pu_move rfl) rfl ?_
              refine R_pu (pu_neqnn (by kernel_rfl) rfl) rfl ?_
              refine R_pu (pu_move rfl) rfl ?_
              refine R_gpu rfl rfl (pu_move rfl) rfl ?_
              refine R_gpu rfl rfl (pu_move rfl) rfl ?_
              refine R_gpu rfl rfl (pu_fieldAddr (off := 0) (o' := 0) (by kernel_rfl) rfl rfl) rfl ?_
              have f297 : Bk w37 pb ([.int .i64 ((q + 1 : Nat) : Int), .int .i64 ((n : Nat) : Int), .int .u32 3]) 28 := (f_pb_36.on k37 (Ne.symm ne_cm_pb))
              refine R_gpu rfl rfl (pu_loadK f297 (by kernel_rfl) rfl rfl) rfl ?_
              refine R_gpu rfl rfl (pu_eql (p := (LV.length + 1) = (q + 1)) rfl rfl (by omega)) rfl ?_
              refine R_gpu rfl rfl (pu_b (pu_neqb Tryd.underlying4 rfl rfl) (bne_self_eq_false _)) rfl ?_
              refine R_pu (pu_pickf rfl rfl) rfl ?_
              refine R_pu (pu_move rfl) rfl ?_
              refine R_gpu rfl rfl (pu_fieldAddr (off := 4) (o' := 4) (by kernel_rfl) rfl rfl) rfl ?_
              have f298 : Bk w37 yb ([.int .i64 ((q + 1 : Nat) : Int), .int .i64 ((n : Nat) : Int), .int .u32 3, .string ({ data := #[109] }), .slice A_y ((L_y).length) (c_y)]) 70 := (f_yb_36.on k37 ne_yb_cm)
              refine R_gpu rfl rfl (pu_loadK f298 (by kernel_rfl) rfl rfl) rfl ?_
              refine R_gpu rfl rfl (pu_len Tryd.underlying29 rfl) rfl ?_
              refine R_gpu rfl rfl (pu_move rfl) rfl ?_
              refine R_gpu rfl rfl (pu_false (pu_neq (p := ((L_y).length) = (LV.length + 1)) rfl rfl (by omega)) (fun h => h hl_y)) rfl ?_
              refine R_pu (pu_pickf rfl rfl) rfl ?_
              refine R_nil ?_
              refine X_then hK296 ?_
              refine C_false rfl ?_
              refine C_skip ?_
              refine X_then hK295 ?_
              refine C_region ?_
              refine R_pu (pu_loadRow (len := 5) f298 (by kernel_rfl) (by kernel_rfl) rfl rfl) rfl ?_
              have f299 : Bk w37 pp ([.int .i64 ((q + 1 : Nat) : Int), .int .i64 ((n : Nat) : Int), .int .u32 3, .string ({ data := #[109] }), .slice An ((LV).length) (cn)]) 70 := (f_pp_36.on k37 (Ne.symm ne_cm_pp))
              refine R_lo0 (lo_storeRow (C := [.int .i64 ((q + 1 : Nat) : Int), .int .i64 ((n : Nat) : Int), .int .u32 3, .string ({ data := #[109] }), .slice A_y ((L_y).length) (c_y)]) f299 (by kernel_rfl) rfl rfl (by intro u hu; simp at hu; rcases hu with rfl | rfl | rfl | rfl | rfl <;> rfl) rfl) ?_
              rintro _ w38 kf38
              obtain ⟨k38, f_pp_38⟩ := kf38
              replace f_pp_38 : Bk w38 pp ([.int .i64 ((q + 1 : Nat) : Int), .int .i64 ((n : Nat) : Int), .int .u32 3, .string ({ data := #[109] }), .slice A_y ((L_y).length) (c_y)]) 70 := f_pp_38
              have kk38 := kk37.trans k38 (fun i hi => .inr (hi ▸ (Nat.le_trans kk13.size N14.le)))
              refine R_nil ?_
              refine X_in_normal ?_
              refine X_then hK84 ?_
              refine C_region ?_
              refine R_pu (pu_move rfl) rfl ?_
              refine R_pu (pu_add (z := ((i + 1 : Nat) : Int)) rfl rfl (by rw [IntKind.wrap_i64]; omega)) rfl ?_
              refine R_pu (pu_assign rfl) rfl ?_
              refine R_nil ?_
              have f300 : Bk w38 px (u8s X) 85 := ((f_px_36.on k37 (Ne.symm ne_cm_px)).on k38 (Ne.symm ne_pp_px))
              have f301 : Bk w38 po (u8s O) 86 := ((f_po_36.on k37 (Ne.symm ne_cm_po)).on k38 (Ne.symm ne_pp_po))
              have f302 : Bk w38 pb ([.int .i64 ((q + 1 : Nat) : Int), .int .i64 ((n : Nat) : Int), .int .u32 3]) 28 := (f297.on k38 (Ne.symm ne_pp_pb))
              have f303 : Bk w38 dd (u8s dv) 5 := ((f_dd_36.on k37 (Ne.symm ne_cm_dd)).on k38 (Ne.symm ne_pp_dd))
              have f304 : Bk w38 cm (bL (fun v => decide (v = on % n) || cameF LV v)) 4 := (f_cm_37.on k38 ne_cm_pp)
              have ob305 := ((x_36.1.onN k37 ob67 N17.le).onN k38 ob55 N14.le)
              have ob306 := ((y_36.1.on k37 (by have := f186.lt; omega)).on k38 (by have := f185.lt; omega))
              have o307 : Gt w38 := ((G_36.on k37 (Ne.symm ne_cm_0)).on k38 (Ne.symm ne_pp_0))
              have o308 : Tb w38 b4_0 := ((T_b4_0_36.on k37 (Ne.symm ne_cm_b4_0)).on k38 (Ne.symm ne_pp_b4_0))
              refine X_round (l.length - (i + 1)) [(2, .slice A (l.length) (c)), (3, .pointer (some ⟨px, 0, none⟩)), (9, .pointer (some ⟨pb, 0, none⟩)), (10, .pointer (some ⟨b4_0, 0, none⟩)), (13, .slice A_x ((L_x).length) (c_x)), (15, .pointer (some ⟨pp, 0, none⟩)), (17, .slice (some ⟨cm, 0, none⟩) (256) (256)), (18, .int .i64 ((L_y.length : Nat) : Int)), (19, .int .i64 (((i + 1) : Nat) : Int))] (by omega) (Sub.cons rfl (Sub.cons rfl (Sub.cons rfl (Sub.cons rfl (Sub.cons rfl (Sub.cons rfl (Sub.cons rfl (Sub.consE rfl (by rw [hl_y]) (Sub.cons rfl (Sub.nil _)))))))))) ⟨i + 1, A_y, c_y, L_y, rfl, rfl, by omega, (by omega), hcy, hoy, kk38, f300, f301, f302, f303, f_pp_38, Bk.eq f304 (cameF_step hiy), ⟨ob305, (Nat.le_trans (Nat.le_trans x_36.2 k37.size) k38.size)⟩, ⟨((ob306).lowb (Nat.le_trans v_18.2 k19.size)).lowd (Nat.le_trans v_18.2 k19.size), (Nat.le_trans (Nat.le_trans v_36.2 k37.size) k38.size)⟩, o307, o308⟩
        · refine C_exit ?_
          refine X_then_exit (X_then_exit (X_in_eq ?_))
          refine X_then hK69 ?_
          by_cases hk : LV.length < q + 1
          · refine C_seq (fun K309 hK309 => ?_)
            refine C_region ?_
            refine R_pu (pu_move rfl) rfl ?_
            refine R_pu (pu_loadRow (len := 5) f_pp_18 (by kernel_rfl) (by kernel_rfl) rfl rfl) rfl ?_
            refine R_lo (lo_call (by kernel_rfl) rfl (secret_short b4_0 q n 3 ({ data := #[109] }) An LV cn _ v_18.1.ss ⟨⟨⟨⟨by omega, by omega, by omega⟩, by decide, by omega, by omega⟩, hcv⟩, hk⟩)) rfl ?_
            rintro _ w39 ⟨rfl, k39⟩
            have kk39 := kk18.then_ k39
            refine R_pu (pu_move rfl) rfl ?_
            refine R_pu (pu_extract rfl rfl) rfl ?_
            refine R_pu (pu_extract rfl rfl) rfl ?_
            refine R_pu (pu_assign rfl) rfl ?_
            refine R_pu (pu_assign rfl) rfl ?_
            refine R_nil ?_
            refine X_then hK309 ?_
            refine C_seq (fun K310 hK310 => ?_)
            refine C_seq (fun K311 hK311 => ?_)
            refine C_region ?_
            refine R_pu (pu_move rfl) rfl ?_
            refine R_pu (pu_fieldAddr (off := 0) (o' := 0) (by kernel_rfl) rfl rfl) rfl ?_
            have f312 : Bk w39 pb ([.int .i64 ((q + 1 : Nat) : Int), .int .i64 ((n : Nat) : Int), .int .u32 3]) 28 := (f_pb_18.no k39)
            refine R_pu (pu_loadK f312 (by kernel_rfl) rfl rfl) rfl ?_
            refine R_pu (pu_true (pu_lss (p := LV.length < (q + 1)) rfl rfl (by omega)) hk) rfl ?_
            refine R_nil ?_
            refine X_then hK311 ?_
            refine C_true rfl ?_
            refine C_seq (fun K313 hK313 => ?_)
            refine C_region ?_
            refine R_pu (pu_move rfl) rfl ?_
            have o314 : Gt w39 := (G_18.no k39)
            refine R_lo (lo_call (by kernel_rfl) rfl (num23_err 2 _ o314)) rfl ?_
            rintro _ w40 ⟨rfl, k40⟩
            have kk40 := kk39.then_ k40
            refine R_pu (pu_true (pu_eql (p := (2 : Nat) = 2) rfl rfl (by omega)) (by decide)) rfl ?_
            refine R_pu (pu_move rfl) rfl ?_
            refine R_gpu rfl rfl (pu_move rfl) rfl ?_
            refine R_gpu rfl rfl (pu_len Tryd.underlying22 rfl) rfl ?_
            refine R_gpu rfl rfl (pu_true (pu_eql (p := (0 : Nat) = 0) rfl rfl (by omega)) (by decide)) rfl ?_
            refine R_pu (pu_pickt rfl rfl) rfl ?_
            refine R_pu (pu_move rfl) rfl ?_
            have o315 : Gt w40 := (o314.no k40)
            refine R_glo rfl rfl (lo_call (by kernel_rfl) rfl (sure23 _ o315)) rfl ?_
            rintro _ w41 ⟨rfl, k41⟩
            have kk41 := kk40.then_ k41
            refine R_pu (pu_pickt rfl rfl) rfl ?_
            refine R_pu (pu_assign rfl) rfl ?_
            refine R_nil ?_
            refine X_then hK313 ?_
            refine C_ret ?_
            refine X_then_ret ?_
            exact X_ret1 (.inl rfl) rfl rfl ⟨rfl, kk41⟩
          · refine C_seq (fun K316 hK316 => ?_)
            refine C_region ?_
            refine R_pu (pu_move rfl) rfl ?_
            refine R_pu (pu_loadRow (len := 5) f_pp_18 (by kernel_rfl) (by kernel_rfl) rfl rfl) rfl ?_
            have lm317 := x_18.1.top
            have lm318 := v_18.1.top
            refine R_lo (lo_call (by kernel_rfl) rfl (secret_ok b4_0 q n 3 ({ data := #[109] }) An LV cn _ v_18.1.ss ⟨⟨⟨⟨by omega, by omega, by omega⟩, by decide, by omega, by omega⟩, hcv⟩, by omega, by decide⟩ (v_18.1.aw (by have := o77.lt; omega)) T_b4_0_18)) rfl ?_
            rintro _ w42 ⟨A_se, c_se, rfl, Q42, T42, k42⟩
            have kk42 := kk18.trans k42 (fun i hi => .inr (hi ▸ (Nat.le_trans kk6.size le7)))
            have z319 : w18.heap.size ≤ w42.heap.size := k42.size
            refine R_pu (pu_move rfl) rfl ?_
            refine R_pu (pu_extract rfl rfl) rfl ?_
            refine R_pu (pu_extract rfl rfl) rfl ?_
            refine R_pu (pu_assign rfl) rfl ?_
            refine R_pu (pu_assign rfl) rfl ?_
            refine R_nil ?_
            refine X_then hK316 ?_
            refine C_seq (fun K320 hK320 => ?_)
            refine C_seq (fun K321 hK321 => ?_)
            refine C_region ?_
            refine R_pu (pu_move rfl) rfl ?_
            refine R_pu (pu_fieldAddr (off := 0) (o' := 0) (by kernel_rfl) rfl rfl) rfl ?_
            have f322 : Bk w42 pb ([.int .i64 ((q + 1 : Nat) : Int), .int .i64 ((n : Nat) : Int), .int .u32 3]) 28 := (f_pb_18.on k42 (Ne.symm ne_b4_0_pb))
            refine R_pu (pu_loadK f322 (by kernel_rfl) rfl rfl) rfl ?_
            refine R_pu (pu_false (pu_lss (p := LV.length < (q + 1)) rfl rfl (by omega)) hk) rfl ?_
            refine R_nil ?_
            refine X_then hK321 ?_
            refine C_false rfl ?_
            refine C_skip ?_
            refine X_then hK320 ?_
            refine C_seq (fun K323 hK323 => ?_)
            have f324 : Bk w42 px (u8s X) 85 := (f_px_18.on k42 (Ne.symm ne_b4_0_px))
            have f325 : Bk w42 po (u8s O) 86 := (f_po_18.on k42 (Ne.symm ne_b4_0_po))
            have f326 : Bk w42 dd (u8s dv) 5 := (f_dd_18.on k42 ne_dd_b4_0)
            have f327 : Bk w42 pp ([.int .i64 ((q + 1 : Nat) : Int), .int .i64 ((n : Nat) : Int), .int .u32 3, .string ({ data := #[109] }), .slice An ((LV).length) (cn)]) 70 := (f_pp_18.on k42 ne_pp_b4_0)
            have f328 : Bk w42 cm (bL (cameF LV)) 4 := (f_cm_18.on k42 ne_cm_b4_0)
            have o329 : Gt w42 := (G_18.on k42 (Ne.symm ne_b4_0_0))
            have ob330 := (x_18.1.on k42 (by have := o41.lt; omega))
            refine D_begin (fun W => Kp No w W ∧ Bk W px (u8s X) 85 ∧ Bk W po (u8s O) 86 ∧ Bk W pb ([.int .i64 ((q + 1 : Nat) : Int), .int .i64 ((n : Nat) : Int), .int .u32 3]) 28 ∧ Bk W dd (u8s dv) 5 ∧ Bk W pp ([.int .i64 ((q + 1 : Nat) : Int), .int .i64 ((n : Nat) : Int), .int .u32 3, .string ({ data := #[109] }), .slice An ((LV).length) (cn)]) 70 ∧ Bk W cm (bL (cameF LV)) 4 ∧ Gt W ∧ Tb W b4_0 ∧ Sw 50 w11.heap.size W w11.heap.size (.slice A_x ((L_x).length) (c_x)) (L_x)) 13 rfl (by kernel_rfl) ⟨kk42.drew, f324.draw, f325.draw, f322.draw, f326.draw, f327.draw, f328.draw, o329.draw, T42.draw, ob330.draw⟩ ?_
            intro w43 k43 _
            have kk43 := kk42.then_ k43
            refine D_take 0 rfl (by kernel_rfl) (by kernel_rfl) (by kernel_rfl) (fun _ _ _ h => h) rfl (fun W hS => pu_loadRow (len := 5) hS.2.2.2.2.2.1 (by kernel_rfl) (by kernel_rfl) rfl rfl) ?_
            refine D_take 1 rfl (by kernel_rfl) (by kernel_rfl) (by kernel_rfl) (fun _ _ _ h => h) rfl (fun W hS => pu_move rfl) ?_
            have ob331 := (ob330.keptNo k43)
            obtain ⟨s2, e_s2⟩ : ∃ q_, (L_x)[0]? = some q_ := ⟨_, List.getElem?_eq_getElem (by first | omega | (simp; done) | (simp; omega))⟩
            have ok_s2 := ob331.ss.get e_s2
            have od_s2 := ob331.od e_s2
            have bi_s2 : s2.ix < 256 := ok_s2.ix
            refine D_take 2 rfl (by kernel_rfl) (by kernel_rfl) (by kernel_rfl) (fun _ _ _ h => h) rfl (fun W hS => pu_indexAddrH hS.2.2.2.2.2.2.2.2.2.ss Tryd.underlying29 (by kernel_rfl) rfl rfl rfl rfl e_s2) ?_
            refine D_take 3 rfl (by kernel_rfl) (by kernel_rfl) (by kernel_rfl) (fun _ _ _ h => h) rfl (fun W hS => pu_loadHr hS.2.2.2.2.2.2.2.2.2.ss e_s2 (by kernel_rfl) (by kernel_rfl) rfl) ?_
            refine D_two 4 9 (by kernel_rfl) ?_ ?_
            · have ob332 := ((v_18.1.on k42 (by have := o77.lt; omega)).keptNo k43)
              refine Nx_lo rfl (lo_call (by kernel_rfl) rfl (submit_state q n 3 ({ data := #[109] }) An LV cn ({ data := #[109] }) s2.ix s2.gen s2.A s2.X s2.c _ ob332.ss ⟨⟨⟨⟨by omega, by omega, by omega⟩, by decide, by omega, by omega⟩, hcv⟩, .inr (by omega), by decide⟩)) rfl ?_
              rintro _ w44 ⟨rfl, k44⟩
              have kk44 := kk43.then_ k44
              have f333 : Bk w44 px (u8s X) 85 := ((f324.no k43).no k44)
              have f334 : Bk w44 po (u8s O) 86 := ((f325.no k43).no k44)
              have f335 : Bk w44 pb ([.int .i64 ((q + 1 : Nat) : Int), .int .i64 ((n : Nat) : Int), .int .u32 3]) 28 := ((f322.no k43).no k44)
              have f336 : Bk w44 dd (u8s dv) 5 := ((f326.no k43).no k44)
              have f337 : Bk w44 pp ([.int .i64 ((q + 1 : Nat) : Int), .int .i64 ((n : Nat) : Int), .int .u32 3, .string ({ data := #[109] }), .slice An ((LV).length) (cn)]) 70 := ((f327.no k43).no k44)
              have f338 : Bk w44 cm (bL (cameF LV)) 4 := ((f328.no k43).no k44)
              have o339 : Gt w44 := ((o329.no k43).no k44)
              have o340 : Tb w44 b4_0 := ((T42.no k43).no k44)
              have ob341 := (ob331.keptNo k44)
              refine ⟨⟨kk44, f333, f334, f335, f336, f337, f338, o339, o340, ob341⟩, ?_⟩
              refine D_take 5 rfl (by kernel_rfl) (by kernel_rfl) (by kernel_rfl) (fun _ _ _ h => h) rfl (fun W hS => pu_move rfl) ?_
              refine D_take 6 rfl (by kernel_rfl) (by kernel_rfl) (by kernel_rfl) (fun _ _ _ h => h) rfl (fun W hS => pu_extract rfl rfl) ?_
              refine D_take 7 rfl (by kernel_rfl) (by kernel_rfl) (by kernel_rfl) (fun _ _ _ h => h) rfl (fun W hS => pu_extract rfl rfl) ?_
              refine D_take 8 rfl (by kernel_rfl) (by kernel_rfl) (by kernel_rfl) (fun _ _ _ h => h) rfl (fun W hS => pu_extract rfl rfl) ?_
              have ob342 := (ob332.keptNo k44)
              have ob343 := ((Q42.keptNo k43).keptNo k44)
              have ob344 := (od_s2.keptNo k44)
              refine D_one 9 (by kernel_rfl) (Nx_lo rfl (lo_alloc (L := [.int .i64 0, .int .i64 0, .int .u32 0, .string ByteArray.empty, .slice none (0) (0)]) (by kernel_rfl)) rfl ?_)
              rintro _ w45 ⟨ub, rfl, N45⟩
              have k45 := N45.kp
              have kk45 := kk44.then_ k45
              have ne_ub_px : ub ≠ px := Nat.ne_of_gt (Nat.lt_of_lt_of_le f333.lt N45.le)
              have ne_ub_po : ub ≠ po := Nat.ne_of_gt (Nat.lt_of_lt_of_le f334.lt N45.le)
              have ne_ub_pb : ub ≠ pb := Nat.ne_of_gt (Nat.lt_of_lt_of_le f335.lt N45.le)
              have ne_ub_dd : ub ≠ dd := Nat.ne_of_gt (Nat.lt_of_lt_of_le f336.lt N45.le)
              have ne_ub_pp : ub ≠ pp := Nat.ne_of_gt (Nat.lt_of_lt_of_le f337.lt N45.le)
              have ne_ub_cm : ub ≠ cm := Nat.ne_of_gt (Nat.lt_of_lt_of_le f338.lt N45.le)
              have ne_ub_0 : ub ≠ 0 := Nat.ne_of_gt (Nat.lt_of_lt_of_le o339.lt N45.le)
              have ne_ub_b4_0 : ub ≠ b4_0 := Nat.ne_of_gt (Nat.lt_of_lt_of_le o340.lt N45.le)
              have f_ub_45 : Bk w45 ub ([.int .i64 0, .int .i64 0, .int .u32 0, .string ByteArray.empty, .slice none (0) (0)]) 70 := N45.bk
              have f345 : Bk w45 px (u8s X) 85 := (f333.no k45)
              have f346 : Bk w45 po (u8s O) 86 := (f334.no k45)
              have f347 : Bk w45 pb ([.int .i64 ((q + 1 : Nat) : Int), .int .i64 ((n : Nat) : Int), .int .u32 3]) 28 := (f335.no k45)
              have f348 : Bk w45 dd (u8s dv) 5 := (f336.no k45)
              have f349 : Bk w45 pp ([.int .i64 ((q + 1 : Nat) : Int), .int .i64 ((n : Nat) : Int), .int .u32 3, .string ({ data := #[109] }), .slice An ((LV).length) (cn)]) 70 := (f337.no k45)
              have f350 : Bk w45 cm (bL (cameF LV)) 4 := (f338.no k45)
              have o351 : Gt w45 := (o339.no k45)
              have o352 : Tb w45 b4_0 := (o340.no k45)
              have ob353 := (ob341.keptNo k45)
              refine ⟨⟨kk45, f345, f346, f347, f348, f349, f350, o351, o352, ob353⟩, ?_⟩
              refine D_one 10 (by kernel_rfl) (Nx_lo0 rfl (lo_storeRow (C := [.int .i64 0, .int .i64 0, .int .u32 0, .string ByteArray.empty, .slice none (0) (0)]) f_ub_45 (by kernel_rfl) rfl rfl (by intro u hu; simp at hu; rcases hu with rfl | rfl | rfl | rfl | rfl <;> rfl) rfl) ?_)
              rintro _ w46 kf46
              obtain ⟨k46, f_ub_46⟩ := kf46
              replace f_ub_46 : Bk w46 ub ([.int .i64 0, .int .i64 0, .int .u32 0, .string ByteArray.empty, .slice none (0) (0)]) 70 := f_ub_46
              have kk46 := kk45.trans k46 (fun i hi => .inr (hi ▸ (Nat.le_trans kk44.size N45.le)))
              have f354 : Bk w46 px (u8s X) 85 := (f345.on k46 (Ne.symm ne_ub_px))
              have f355 : Bk w46 po (u8s O) 86 := (f346.on k46 (Ne.symm ne_ub_po))
              have f356 : Bk w46 pb ([.int .i64 ((q + 1 : Nat) : Int), .int .i64 ((n : Nat) : Int), .int .u32 3]) 28 := (f347.on k46 (Ne.symm ne_ub_pb))
              have f357 : Bk w46 dd (u8s dv) 5 := (f348.on k46 (Ne.symm ne_ub_dd))
              have f358 : Bk w46 pp ([.int .i64 ((q + 1 : Nat) : Int), .int .i64 ((n : Nat) : Int), .int .u32 3, .string ({ data := #[109] }), .slice An ((LV).length) (cn)]) 70 := (f349.on k46 (Ne.symm ne_ub_pp))
              have f359 : Bk w46 cm (bL (cameF LV)) 4 := (f350.on k46 (Ne.symm ne_ub_cm))
              have o360 : Gt w46 := (o351.on k46 (Ne.symm ne_ub_0))
              have o361 : Tb w46 b4_0 := (o352.on k46 (Ne.symm ne_ub_b4_0))
              have ob362 := (ob353.onN k46 ob341 N45.le)
              refine ⟨⟨kk46, f354, f355, f356, f357, f358, f359, o360, o361, ob362⟩, ?_⟩
              refine D_take 11 rfl (by kernel_rfl) (by kernel_rfl) (by kernel_rfl) (fun _ _ _ h => h) rfl (fun W hS => pu_assign rfl) ?_
              refine D_take 12 rfl (by kernel_rfl) (by kernel_rfl) (by kernel_rfl) (fun _ _ _ h => h) rfl (fun W hS => pu_assign rfl) ?_
              refine D_done (by kernel_rfl) ?_
              refine X_then hK323 ?_
              refine C_seq (fun K363 hK363 => ?_)
              have ob364 := ((ob343.keptNo k45).onN k46 ob343 N45.le)
              refine D_begin (fun W => Kp No w W ∧ Bk W px (u8s X) 85 ∧ Bk W po (u8s O) 86 ∧ Bk W pb ([.int .i64 ((q + 1 : Nat) : Int), .int .i64 ((n : Nat) : Int), .int .u32 3]) 28 ∧ Bk W dd (u8s dv) 5 ∧ Bk W pp ([.int .i64 ((q + 1 : Nat) : Int), .int .i64 ((n : Nat) : Int), .int .u32 3, .string ({ data := #[109] }), .slice An ((LV).length) (cn)]) 70 ∧ Bk W cm (bL (cameF LV)) 4 ∧ Bk W ub ([.int .i64 0, .int .i64 0, .int .u32 0, .string ByteArray.empty, .slice none (0) (0)]) 70 ∧ Gt W ∧ Tb W b4_0 ∧ Ob W w18.heap.size (.slice A_se ((thX (LV.take (q + 1)) 32 0).length) (c_se)) (thX (LV.take (q + 1)) 32 0)) 18 rfl (by kernel_rfl) ⟨kk46.drew, f354.draw, f355.draw, f356.draw, f357.draw, f358.draw, f359.draw, f_ub_46.draw, o360.draw, o361.draw, ob364.draw⟩ ?_
              intro w47 k47 _
              have kk47 := kk46.then_ k47
              refine D_take 0 rfl (by kernel_rfl) (by kernel_rfl) (by kernel_rfl) (fun _ _ _ h => h) rfl (fun W hS => pu_move rfl) ?_
              refine D_take 1 rfl (by kernel_rfl) (by kernel_rfl) (by kernel_rfl) (fun _ _ _ h => h) rfl (fun W hS => pu_eqlnn (by kernel_rfl) rfl) ?_
              refine D_take 2 rfl (by kernel_rfl) (by kernel_rfl) (by kernel_rfl) (fun _ _ _ h => h) rfl (fun W hS => pu_move rfl) ?_
              refine D_gtake 3 rfl rfl rfl (by kernel_rfl) (by kernel_rfl) (by kernel_rfl) (fun _ _ _ h => h) rfl (fun W hS => pu_move rfl) ?_
              refine D_gtake 4 rfl rfl rfl (by kernel_rfl) (by kernel_rfl) (by kernel_rfl) (fun _ _ _ h => h) rfl (fun W hS => pu_bstr hS.2.2.2.2.2.2.2.2.2.2.bs Tryd.underlying22 Tryd.underlying5 Tryd.underlying9 rfl rfl) ?_
              refine D_gtake 5 rfl rfl rfl (by kernel_rfl) (by kernel_rfl) (by kernel_rfl) (fun _ _ _ h => h) rfl (fun W hS => pu_sliceArr Tryd.underlying85 (by kernel_rfl) rfl) ?_
              refine D_gtake 6 rfl rfl rfl (by kernel_rfl) (by kernel_rfl) (by kernel_rfl) (fun _ _ _ h => h) rfl (fun W hS => pu_bstr (Bs.ofBk hS.2.1 bX) Tryd.underlying22 Tryd.underlying5 Tryd.underlying9 rfl bX.1) ?_
              refine D_gtake 7 rfl rfl rfl (by kernel_rfl) (by kernel_rfl) (by kernel_rfl) (fun _ _ _ h => h) rfl (fun W hS => pu_true (pu_eqls (p := (thX (LV.take (q + 1)) 32 0) = X) rfl rfl (bstr_inj (hS.2.2.2.2.2.2.2.2.2.2.bs).byte ((Bs.ofBk hS.2.1 bX)).byte)) (offs_secret hof hcv (by omega) bX.1 (by rw [hdv.1, bX.1]; omega) bX.2 hdv.2)) ?_
              refine D_take 8 rfl (by kernel_rfl) (by kernel_rfl) (by kernel_rfl) (fun _ _ _ h => h) rfl (fun W hS => pu_pickt rfl rfl) ?_
              refine D_take 9 rfl (by kernel_rfl) (by kernel_rfl) (by kernel_rfl) (fun _ _ _ h => h) rfl (fun W hS => pu_move rfl) ?_
              refine D_gtake 10 rfl rfl rfl (by kernel_rfl) (by kernel_rfl) (by kernel_rfl) (fun _ _ _ h => h) rfl (fun W hS => pu_move rfl) ?_
              have o365 : Gt w47 := (o360.no k47)
              refine D_one 11 (by kernel_rfl) (Nx_glo rfl rfl rfl (lo_call (by kernel_rfl) rfl (num23_err 15 _ o365)) rfl ?_)
              rintro _ w48 ⟨rfl, k48⟩
              have kk48 := kk47.then_ k48
              have f366 : Bk w48 px (u8s X) 85 := ((f354.no k47).no k48)
              have f367 : Bk w48 po (u8s O) 86 := ((f355.no k47).no k48)
              have f368 : Bk w48 pb ([.int .i64 ((q + 1 : Nat) : Int), .int .i64 ((n : Nat) : Int), .int .u32 3]) 28 := ((f356.no k47).no k48)
              have f369 : Bk w48 dd (u8s dv) 5 := ((f357.no k47).no k48)
              have f370 : Bk w48 pp ([.int .i64 ((q + 1 : Nat) : Int), .int .i64 ((n : Nat) : Int), .int .u32 3, .string ({ data := #[109] }), .slice An ((LV).length) (cn)]) 70 := ((f358.no k47).no k48)
              have f371 : Bk w48 cm (bL (cameF LV)) 4 := ((f359.no k47).no k48)
              have f372 : Bk w48 ub ([.int .i64 0, .int .i64 0, .int .u32 0, .string ByteArray.empty, .slice none (0) (0)]) 70 := ((f_ub_46.no k47).no k48)
              have o373 : Gt w48 := (o365.no k48)
              have o374 : Tb w48 b4_0 := ((o361.no k47).no k48)
              have ob375 := ((ob364.keptNo k47).keptNo k48)
              refine ⟨⟨kk48, f366, f367, f368, f369, f370, f371, f372, o373, o374, ob375⟩, ?_⟩
              refine D_gtake 12 rfl rfl rfl (by kernel_rfl) (by kernel_rfl) (by kernel_rfl) (fun _ _ _ h => h) rfl (fun W hS => pu_true (pu_eql (p := (15 : Nat) = 15) rfl rfl (by omega)) (by decide)) ?_
              refine D_take 13 rfl (by kernel_rfl) (by kernel_rfl) (by kernel_rfl) (fun _ _ _ h => h) rfl (fun W hS => pu_pickt rfl rfl) ?_
              refine D_take 14 rfl (by kernel_rfl) (by kernel_rfl) (by kernel_rfl) (fun _ _ _ h => h) rfl (fun W hS => pu_move rfl) ?_
              refine D_one 15 (by kernel_rfl) (Nx_glo rfl rfl rfl (lo_call (by kernel_rfl) rfl (sure23 _ o373)) rfl ?_)
              rintro _ w49 ⟨rfl, k49⟩
              have kk49 := kk48.then_ k49
              have f376 : Bk w49 px (u8s X) 85 := (f366.no k49)
              have f377 : Bk w49 po (u8s O) 86 := (f367.no k49)
              have f378 : Bk w49 pb ([.int .i64 ((q + 1 : Nat) : Int), .int .i64 ((n : Nat) : Int), .int .u32 3]) 28 := (f368.no k49)
              have f379 : Bk w49 dd (u8s dv) 5 := (f369.no k49)
              have f380 : Bk w49 pp ([.int .i64 ((q + 1 : Nat) : Int), .int .i64 ((n : Nat) : Int), .int .u32 3, .string ({ data := #[109] }), .slice An ((LV).length) (cn)]) 70 := (f370.no k49)
              have f381 : Bk w49 cm (bL (cameF LV)) 4 := (f371.no k49)
              have f382 : Bk w49 ub ([.int .i64 0, .int .i64 0, .int .u32 0, .string ByteArray.empty, .slice none (0) (0)]) 70 := (f372.no k49)
              have o383 : Gt w49 := (o373.no k49)
              have o384 : Tb w49 b4_0 := (o374.no k49)
              have ob385 := (ob375.keptNo k49)
              refine ⟨⟨kk49, f376, f377, f378, f379, f380, f381, f382, o383, o384, ob385⟩, ?_⟩
              refine D_take 16 rfl (by kernel_rfl) (by kernel_rfl) (by kernel_rfl) (fun _ _ _ h => h) rfl (fun W hS => pu_pickt rfl rfl) ?_
              refine D_take 17 rfl (by kernel_rfl) (by kernel_rfl) (by kernel_rfl) (fun _ _ _ h => h) rfl (fun W hS => pu_assign rfl) ?_
              refine D_done (by kernel_rfl) ?_
              refine X_then hK363 ?_
              refine C_ret ?_
              exact X_ret1 (.inl rfl) rfl rfl ⟨rfl, kk49⟩
            · have f386 : Bk w43 px (u8s X) 85 := (f324.no k43)
              have f387 : Bk w43 po (u8s O) 86 := (f325.no k43)
              have f388 : Bk w43 pb ([.int .i64 ((q + 1 : Nat) : Int), .int .i64 ((n : Nat) : Int), .int .u32 3]) 28 := (f322.no k43)
              have f389 : Bk w43 dd (u8s dv) 5 := (f326.no k43)
              have f390 : Bk w43 pp ([.int .i64 ((q + 1 : Nat) : Int), .int .i64 ((n : Nat) : Int), .int .u32 3, .string ({ data := #[109] }), .slice An ((LV).length) (cn)]) 70 := (f327.no k43)
              have f391 : Bk w43 cm (bL (cameF LV)) 4 := (f328.no k43)
              have o392 : Gt w43 := (o329.no k43)
              have o393 : Tb w43 b4_0 := (T42.no k43)
              have ob394 := ((v_18.1.on k42 (by have := o77.lt; omega)).keptNo k43)
              have ob395 := (Q42.keptNo k43)
              refine Nx_lo rfl (lo_alloc (L := [.int .i64 0, .int .i64 0, .int .u32 0, .string ByteArray.empty, .slice none (0) (0)]) (by kernel_rfl)) rfl ?_
              rintro _ w50 ⟨ub, rfl, N50⟩
              have k50 := N50.kp
              have kk50 := kk43.then_ k50
              have ne_ub_px : ub ≠ px := Nat.ne_of_gt (Nat.lt_of_lt_of_le f386.lt N50.le)
              have ne_ub_po : ub ≠ po := Nat.ne_of_gt (Nat.lt_of_lt_of_le f387.lt N50.le)
              have ne_ub_pb : ub ≠ pb := Nat.ne_of_gt (Nat.lt_of_lt_of_le f388.lt N50.le)
              have ne_ub_dd : ub ≠ dd := Nat.ne_of_gt (Nat.lt_of_lt_of_le f389.lt N50.le)
              have ne_ub_pp : ub ≠ pp := Nat.ne_of_gt (Nat.lt_of_lt_of_le f390.lt N50.le)
              have ne_ub_cm : ub ≠ cm := Nat.ne_of_gt (Nat.lt_of_lt_of_le f391.lt N50.le)
              have ne_ub_0 : ub ≠ 0 := Nat.ne_of_gt (Nat.lt_of_lt_of_le o392.lt N50.le)
              have ne_ub_b4_0 : ub ≠ b4_0 := Nat.ne_of_gt (Nat.lt_of_lt_of_le o393.lt N50.le)
              have f_ub_50 : Bk w50 ub ([.int .i64 0, .int .i64 0, .int .u32 0, .string ByteArray.empty, .slice none (0) (0)]) 70 := N50.bk
              have f396 : Bk w50 px (u8s X) 85 := (f386.no k50)
              have f397 : Bk w50 po (u8s O) 86 := (f387.no k50)
              have f398 : Bk w50 pb ([.int .i64 ((q + 1 : Nat) : Int), .int .i64 ((n : Nat) : Int), .int .u32 3]) 28 := (f388.no k50)
              have f399 : Bk w50 dd (u8s dv) 5 := (f389.no k50)
              have f400 : Bk w50 pp ([.int .i64 ((q + 1 : Nat) : Int), .int .i64 ((n : Nat) : Int), .int .u32 3, .string ({ data := #[109] }), .slice An ((LV).length) (cn)]) 70 := (f390.no k50)
              have f401 : Bk w50 cm (bL (cameF LV)) 4 := (f391.no k50)
              have o402 : Gt w50 := (o392.no k50)
              have o403 : Tb w50 b4_0 := (o393.no k50)
              have ob404 := (ob331.keptNo k50)
              refine ⟨⟨kk50, f396, f397, f398, f399, f400, f401, o402, o403, ob404⟩, ?_⟩
              have ob405 := (ob394.keptNo k50)
              have ob406 := (od_s2.keptNo k50)
              refine D_one 4 (by kernel_rfl) (Nx_lo rfl (lo_call (by kernel_rfl) rfl (submit_state q n 3 ({ data := #[109] }) An LV cn ({ data := #[109] }) s2.ix s2.gen s2.A s2.X s2.c _ ob405.ss ⟨⟨⟨⟨by omega, by omega, by omega⟩, by decide, by omega, by omega⟩, hcv⟩, .inr (by omega), by decide⟩)) rfl ?_)
              rintro _ w51 ⟨rfl, k51⟩
              have kk51 := kk50.then_ k51
              have f407 : Bk w51 px (u8s X) 85 := (f396.no k51)
              have f408 : Bk w51 po (u8s O) 86 := (f397.no k51)
              have f409 : Bk w51 pb ([.int .i64 ((q + 1 : Nat) : Int), .int .i64 ((n : Nat) : Int), .int .u32 3]) 28 := (f398.no k51)
              have f410 : Bk w51 dd (u8s dv) 5 := (f399.no k51)
              have f411 : Bk w51 pp ([.int .i64 ((q + 1 : Nat) : Int), .int .i64 ((n : Nat) : Int), .int .u32 3, .string ({ data := #[109] }), .slice An ((LV).length) (cn)]) 70 := (f400.no k51)
              have f412 : Bk w51 cm (bL (cameF LV)) 4 := (f401.no k51)
              have o413 : Gt w51 := (o402.no k51)
              have o414 : Tb w51 b4_0 := (o403.no k51)
              have ob415 := (ob404.keptNo k51)
              refine ⟨⟨kk51, f407, f408, f409, f410, f411, f412, o413, o414, ob415⟩, ?_⟩
              refine D_take 5 rfl (by kernel_rfl) (by kernel_rfl) (by kernel_rfl) (fun _ _ _ h => h) rfl (fun W hS => pu_move rfl) ?_
              refine D_take 6 rfl (by kernel_rfl) (by kernel_rfl) (by kernel_rfl) (fun _ _ _ h => h) rfl (fun W hS => pu_extract rfl rfl) ?_
              refine D_take 7 rfl (by kernel_rfl) (by kernel_rfl) (by kernel_rfl) (fun _ _ _ h => h) rfl (fun W hS => pu_extract rfl rfl) ?_
              refine D_take 8 rfl (by kernel_rfl) (by kernel_rfl) (by kernel_rfl) (fun _ _ _ h => h) rfl (fun W hS => pu_extract rfl rfl) ?_
              have f416 : Bk w51 ub ([.int .i64 0, .int .i64 0, .int .u32 0, .string ByteArray.empty, .slice none (0) (0)]) 70 := (f_ub_50.no k51)
              refine D_one 10 (by kernel_rfl) (Nx_lo0 rfl (lo_storeRow (C := [.int .i64 0, .int .i64 0, .int .u32 0, .string ByteArray.empty, .slice none (0) (0)]) f416 (by kernel_rfl) rfl rfl (by intro u hu; simp at hu; rcases hu with rfl | rfl | rfl | rfl | rfl <;> rfl) rfl) ?_)
              rintro _ w52 kf52
              obtain ⟨k52, f_ub_52⟩ := kf52
              replace f_ub_52 : Bk w52 ub ([.int .i64 0, .int .i64 0, .int .u32 0, .string ByteArray.empty, .slice none (0) (0)]) 70 := f_ub_52
              have kk52 := kk51.trans k52 (fun i hi => .inr (hi ▸ (Nat.le_trans kk43.size N50.le)))
              have f417 : Bk w52 px (u8s X) 85 := (f407.on k52 (Ne.symm ne_ub_px))
              have f418 : Bk w52 po (u8s O) 86 := (f408.on k52 (Ne.symm ne_ub_po))
              have f419 : Bk w52 pb ([.int .i64 ((q + 1 : Nat) : Int), .int .i64 ((n : Nat) : Int), .int .u32 3]) 28 := (f409.on k52 (Ne.symm ne_ub_pb))
              have f420 : Bk w52 dd (u8s dv) 5 := (f410.on k52 (Ne.symm ne_ub_dd))
              have f421 : Bk w52 pp ([.int .i64 ((q + 1 : Nat) : Int), .int .i64 ((n : Nat) : Int), .int .u32 3, .string ({ data := #[109] }), .slice An ((LV).length) (cn)]) 70 := (f411.on k52 (Ne.symm ne_ub_pp))
              have f422 : Bk w52 cm (bL (cameF LV)) 4 := (f412.on k52 (Ne.symm ne_ub_cm))
              have o423 : Gt w52 := (o413.on k52 (Ne.symm ne_ub_0))
              have o424 : Tb w52 b4_0 := (o414.on k52 (Ne.symm ne_ub_b4_0))
              have ob425 := (ob415.onN k52 ob331 N50.le)
              refine ⟨⟨kk52, f417, f418, f419, f420, f421, f422, o423, o424, ob425⟩, ?_⟩
              refine D_take 11 rfl (by kernel_rfl) (by kernel_rfl) (by kernel_rfl) (fun _ _ _ h => h) rfl (fun W hS => pu_assign rfl) ?_
              refine D_take 12 rfl (by kernel_rfl) (by kernel_rfl) (by kernel_rfl) (fun _ _ _ h => h) rfl (fun W hS => pu_assign rfl) ?_
              refine D_done (by kernel_rfl) ?_
              refine X_then hK323 ?_
              refine C_seq (fun K426 hK426 => ?_)
              have ob427 := (((ob395.keptNo k50).keptNo k51).onN k52 ob395 N50.le)
              refine D_begin (fun W => Kp No w W ∧ Bk W px (u8s X) 85 ∧ Bk W po (u8s O) 86 ∧ Bk W pb ([.int .i64 ((q + 1 : Nat) : Int), .int .i64 ((n : Nat) : Int), .int .u32 3]) 28 ∧ Bk W dd (u8s dv) 5 ∧ Bk W pp ([.int .i64 ((q + 1 : Nat) : Int), .int .i64 ((n : Nat) : Int), .int .u32 3, .string ({ data := #[109] }), .slice An ((LV).length) (cn)]) 70 ∧ Bk W cm (bL (cameF LV)) 4 ∧ Bk W ub ([.int .i64 0, .int .i64 0, .int .u32 0, .string ByteArray.empty, .slice none (0) (0)]) 70 ∧ Gt W ∧ Tb W b4_0 ∧ Ob W w18.heap.size (.slice A_se ((thX (LV.take (q + 1)) 32 0).length) (c_se)) (thX (LV.take (q + 1)) 32 0)) 18 rfl (by kernel_rfl) ⟨kk52.drew, f417.draw, f418.draw, f419.draw, f420.draw, f421.draw, f422.draw, f_ub_52.draw, o423.draw, o424.draw, ob427.draw⟩ ?_
              intro w53 k53 _
              have kk53 := kk52.then_ k53
              refine D_take 0 rfl (by kernel_rfl) (by kernel_rfl) (by kernel_rfl) (fun _ _ _ h => h) rfl (fun W hS => pu_move rfl) ?_
              refine D_take 1 rfl (by kernel_rfl) (by kernel_rfl) (by kernel_rfl) (fun _ _ _ h => h) rfl (fun W hS => pu_eqlnn (by kernel_rfl) rfl) ?_
              refine D_take 2 rfl (by kernel_rfl) (by kernel_rfl) (by kernel_rfl) (fun _ _ _ h => h) rfl (fun W hS => pu_move rfl) ?_
              refine D_gtake 3 rfl rfl rfl (by kernel_rfl) (by kernel_rfl) (by kernel_rfl) (fun _ _ _ h => h) rfl (fun W hS => pu_move rfl) ?_
              refine D_gtake 4 rfl rfl rfl (by kernel_rfl) (by kernel_rfl) (by kernel_rfl) (fun _ _ _ h => h) rfl (fun W hS => pu_bstr hS.2.2.2.2.2.2.2.2.2.2.bs Tryd.underlying22 Tryd.underlying5 Tryd.underlying9 rfl rfl) ?_
              refine D_gtake 5 rfl rfl rfl (by kernel_rfl) (by kernel_rfl) (by kernel_rfl) (fun _ _ _ h => h) rfl (fun W hS => pu_sliceArr Tryd.underlying85 (by kernel_rfl) rfl) ?_
              refine D_gtake 6 rfl rfl rfl (by kernel_rfl) (by kernel_rfl) (by kernel_rfl) (fun _ _ _ h => h) rfl (fun W hS => pu_bstr (Bs.ofBk hS.2.1 bX) Tryd.underlying22 Tryd.underlying5 Tryd.underlying9 rfl bX.1) ?_
              refine D_gtake 7 rfl rfl rfl (by kernel_rfl) (by kernel_rfl) (by kernel_rfl) (fun _ _ _ h => h) rfl (fun W hS => pu_true (pu_eqls (p := (thX (LV.take (q + 1)) 32 0) = X) rfl rfl (bstr_inj (hS.2.2.2.2.2.2.2.2.2.2.bs).byte ((Bs.ofBk hS.2.1 bX)).byte)) (offs_secret hof hcv (by omega) bX.1 (by rw [hdv.1, bX.1]; omega) bX.2 hdv.2)) ?_
              refine D_take 8 rfl (by kernel_rfl) (by kernel_rfl) (by kernel_rfl) (fun _ _ _ h => h) rfl (fun W hS => pu_pickt rfl rfl) ?_
              refine D_take 9 rfl (by kernel_rfl) (by kernel_rfl) (by kernel_rfl) (fun _ _ _ h => h) rfl (fun W hS => pu_move rfl) ?_
              refine D_gtake 10 rfl rfl rfl (by kernel_rfl) (by kernel_rfl) (by kernel_rfl) (fun _ _ _ h => h) rfl (fun W hS => pu_move rfl) ?_
              have o428 : Gt w53 := (o423.no k53)
              refine D_one 11 (by kernel_rfl) (Nx_glo rfl rfl rfl (lo_call (by kernel_rfl) rfl (num23_err 15 _ o428)) rfl ?_)
              rintro _ w54 ⟨rfl, k54⟩
              have kk54 := kk53.then_ k54
              have f429 : Bk w54 px (u8s X) 85 := ((f417.no k53).no k54)
              have f430 : Bk w54 po (u8s O) 86 := ((f418.no k53).no k54)
              have f431 : Bk w54 pb ([.int .i64 ((q + 1 : Nat) : Int), .int .i64 ((n : Nat) : Int), .int .u32 3]) 28 := ((f419.no k53).no k54)
              have f432 : Bk w54 dd (u8s dv) 5 := ((f420.no k53).no k54)
              have f433 : Bk w54 pp ([.int .i64 ((q + 1 : Nat) : Int), .int .i64 ((n : Nat) : Int), .int .u32 3, .string ({ data := #[109] }), .slice An ((LV).length) (cn)]) 70 := ((f421.no k53).no k54)
              have f434 : Bk w54 cm (bL (cameF LV)) 4 := ((f422.no k53).no k54)
              have f435 : Bk w54 ub ([.int .i64 0, .int .i64 0, .int .u32 0, .string ByteArray.empty, .slice none (0) (0)]) 70 := ((f_ub_52.no k53).no k54)
              have o436 : Gt w54 := (o428.no k54)
              have o437 : Tb w54 b4_0 := ((o424.no k53).no k54)
              have ob438 := ((ob427.keptNo k53).keptNo k54)
              refine ⟨⟨kk54, f429, f430, f431, f432, f433, f434, f435, o436, o437, ob438⟩, ?_⟩
              refine D_gtake 12 rfl rfl rfl (by kernel_rfl) (by kernel_rfl) (by kernel_rfl) (fun _ _ _ h => h) rfl (fun W hS => pu_true (pu_eql (p := (15 : Nat) = 15) rfl rfl (by omega)) (by decide)) ?_
              refine D_take 13 rfl (by kernel_rfl) (by kernel_rfl) (by kernel_rfl) (fun _ _ _ h => h) rfl (fun W hS => pu_pickt rfl rfl) ?_
              refine D_take 14 rfl (by kernel_rfl) (by kernel_rfl) (by kernel_rfl) (fun _ _ _ h => h) rfl (fun W hS => pu_move rfl) ?_
              refine D_one 15 (by kernel_rfl) (Nx_glo rfl rfl rfl (lo_call (by kernel_rfl) rfl (sure23 _ o436)) rfl ?_)
              rintro _ w55 ⟨rfl, k55⟩
              have kk55 := kk54.then_ k55
              have f439 : Bk w55 px (u8s X) 85 := (f429.no k55)
              have f440 : Bk w55 po (u8s O) 86 := (f430.no k55)
              have f441 : Bk w55 pb ([.int .i64 ((q + 1 : Nat) : Int), .int .i64 ((n : Nat) : Int), .int .u32 3]) 28 := (f431.no k55)
              have f442 : Bk w55 dd (u8s dv) 5 := (f432.no k55)
              have f443 : Bk w55 pp ([.int .i64 ((q + 1 : Nat) : Int), .int .i64 ((n : Nat) : Int), .int .u32 3, .string ({ data := #[109] }), .slice An ((LV).length) (cn)]) 70 := (f433.no k55)
              have f444 : Bk w55 cm (bL (cameF LV)) 4 := (f434.no k55)
              have f445 : Bk w55 ub ([.int .i64 0, .int .i64 0, .int .u32 0, .string ByteArray.empty, .slice none (0) (0)]) 70 := (f435.no k55)
              have o446 : Gt w55 := (o436.no k55)
              have o447 : Tb w55 b4_0 := (o437.no k55)
              have ob448 := (ob438.keptNo k55)
              refine ⟨⟨kk55, f439, f440, f441, f442, f443, f444, f445, o446, o447, ob448⟩, ?_⟩
              refine D_take 16 rfl (by kernel_rfl) (by kernel_rfl) (by kernel_rfl) (fun _ _ _ h => h) rfl (fun W hS => pu_pickt rfl rfl) ?_
              refine D_take 17 rfl (by kernel_rfl) (by kernel_rfl) (by kernel_rfl) (fun _ _ _ h => h) rfl (fun W hS => pu_assign rfl) ?_
              refine D_done (by kernel_rfl) ?_
              refine X_then hK426 ?_
              refine C_ret ?_
              exact X_ret1 (.inl rfl) rfl rfl ⟨rfl, kk55⟩
      · refine R_pu (pu_false (pu_move rfl) g17_4) rfl ?_
        refine R_gno rfl rfl rfl rfl ?_
        refine R_gno rfl rfl rfl rfl ?_
        refine R_gno rfl rfl rfl rfl ?_
        refine R_gno rfl rfl rfl rfl ?_
        refine R_pu (pu_pickf rfl rfl) rfl ?_
        refine R_nil ?_
        refine X_then hK83 ?_
        refine C_false rfl ?_
        refine C_exit ?_
        refine X_then_exit (X_then_exit (X_in_eq ?_))
        refine X_then hK69 ?_
        by_cases hk : LV.length < q + 1
        · refine C_seq (fun K449 hK449 => ?_)
          refine C_region ?_
          refine R_pu (pu_move rfl) rfl ?_
          refine R_pu (pu_loadRow (len := 5) f_pp_18 (by kernel_rfl) (by kernel_rfl) rfl rfl) rfl ?_
          refine R_lo (lo_call (by kernel_rfl) rfl (secret_short b4_0 q n 3 ({ data := #[109] }) An LV cn _ v_18.1.ss ⟨⟨⟨⟨by omega, by omega, by omega⟩, by decide, by omega, by omega⟩, hcv⟩, hk⟩)) rfl ?_
          rintro _ w56 ⟨rfl, k56⟩
          have kk56 := kk18.then_ k56
          refine R_pu (pu_move rfl) rfl ?_
          refine R_pu (pu_extract rfl rfl) rfl ?_
          refine R_pu (pu_extract rfl rfl) rfl ?_
          refine R_pu (pu_assign rfl) rfl ?_
          refine R_pu (pu_assign rfl) rfl ?_
          refine R_nil ?_
          refine X_then hK449 ?_
          refine C_seq (fun K450 hK450 => ?_)
          refine C_seq (fun K451 hK451 => ?_)
          refine C_region ?_
          refine R_pu (pu_move rfl) rfl ?_
          refine R_pu (pu_fieldAddr (off := 0) (o' := 0) (by kernel_rfl) rfl rfl) rfl ?_
          have f452 : Bk w56 pb ([.int .i64 ((q + 1 : Nat) : Int), .int .i64 ((n : Nat) : Int), .int .u32 3]) 28 := (f_pb_18.no k56)
          refine R_pu (pu_loadK f452 (by kernel_rfl) rfl rfl) rfl ?_
          refine R_pu (pu_true (pu_lss (p := LV.length < (q + 1)) rfl rfl (by omega)) hk) rfl ?_
          refine R_nil ?_
          refine X_then hK451 ?_
          refine C_true rfl ?_
          refine C_seq (fun K453 hK453 => ?_)
          refine C_region ?_
          refine R_pu (pu_move rfl) rfl ?_
          have o454 : Gt w56 := (G_18.no k56)
          refine R_lo (lo_call (by kernel_rfl) rfl (num23_err 2 _ o454)) rfl ?_
          rintro _ w57 ⟨rfl, k57⟩
          have kk57 := kk56.then_ k57
          refine R_pu (pu_true (pu_eql (p := (2 : Nat) = 2) rfl rfl (by omega)) (by decide)) rfl ?_
          refine R_pu (pu_move rfl) rfl ?_
          refine R_gpu rfl rfl (pu_move rfl) rfl ?_
          refine R_gpu rfl rfl (pu_len Tryd.underlying22 rfl) rfl ?_
          refine R_gpu rfl rfl (pu_true (pu_eql (p := (0 : Nat) = 0) rfl rfl (by omega)) (by decide)) rfl ?_
          refine R_pu (pu_pickt rfl rfl) rfl ?_
          refine R_pu (pu_move rfl) rfl ?_
          have o455 : Gt w57 := (o454.no k57)
          refine R_glo rfl rfl (lo_call (by kernel_rfl) rfl (sure23 _ o455)) rfl ?_
          rintro _ w58 ⟨rfl, k58⟩
          have kk58 := kk57.then_ k58
          refine R_pu (pu_pickt rfl rfl) rfl ?_
          refine R_pu (pu_assign rfl) rfl ?_
          refine R_nil ?_
          refine X_then hK453 ?_
          refine C_ret ?_
          refine X_then_ret ?_
          exact X_ret1 (.inl rfl) rfl rfl ⟨rfl, kk58⟩
        · refine C_seq (fun K456 hK456 => ?_)
          refine C_region ?_
          refine R_pu (pu_move rfl) rfl ?_
          refine R_pu (pu_loadRow (len := 5) f_pp_18 (by kernel_rfl) (by kernel_rfl) rfl rfl) rfl ?_
          have lm457 := x_18.1.top
          have lm458 := v_18.1.top
          refine R_lo (lo_call (by kernel_rfl) rfl (secret_ok b4_0 q n 3 ({ data := #[109] }) An LV cn _ v_18.1.ss ⟨⟨⟨⟨by omega, by omega, by omega⟩, by decide, by omega, by omega⟩, hcv⟩, by omega, by decide⟩ (v_18.1.aw (by have := o77.lt; omega)) T_b4_0_18)) rfl ?_
          rintro _ w59 ⟨A_se, c_se, rfl, Q59, T59, k59⟩
          have kk59 := kk18.trans k59 (fun i hi => .inr (hi ▸ (Nat.le_trans kk6.size le7)))
          have z459 : w18.heap.size ≤ w59.heap.size := k59.size
          refine R_pu (pu_move rfl) rfl ?_
          refine R_pu (pu_extract rfl rfl) rfl ?_
          refine R_pu (pu_extract rfl rfl) rfl ?_
          refine R_pu (pu_assign rfl) rfl ?_
          refine R_pu (pu_assign rfl) rfl ?_
          refine R_nil ?_
          refine X_then hK456 ?_
          refine C_seq (fun K460 hK460 => ?_)
          refine C_seq (fun K461 hK461 => ?_)
          refine C_region ?_
          refine R_pu (pu_move rfl) rfl ?_
          refine R_pu (pu_fieldAddr (off := 0) (o' := 0) (by kernel_rfl) rfl rfl) rfl ?_
          have f462 : Bk w59 pb ([.int .i64 ((q + 1 : Nat) : Int), .int .i64 ((n : Nat) : Int), .int .u32 3]) 28 := (f_pb_18.on k59 (Ne.symm ne_b4_0_pb))
          refine R_pu (pu_loadK f462 (by kernel_rfl) rfl rfl) rfl ?_
          refine R_pu (pu_false (pu_lss (p := LV.length < (q + 1)) rfl rfl (by omega)) hk) rfl ?_
          refine R_nil ?_
          refine X_then hK461 ?_
          refine C_false rfl ?_
          refine C_skip ?_
          refine X_then hK460 ?_
          refine C_seq (fun K463 hK463 => ?_)
          have f464 : Bk w59 px (u8s X) 85 := (f_px_18.on k59 (Ne.symm ne_b4_0_px))
          have f465 : Bk w59 po (u8s O) 86 := (f_po_18.on k59 (Ne.symm ne_b4_0_po))
          have f466 : Bk w59 dd (u8s dv) 5 := (f_dd_18.on k59 ne_dd_b4_0)
          have f467 : Bk w59 pp ([.int .i64 ((q + 1 : Nat) : Int), .int .i64 ((n : Nat) : Int), .int .u32 3, .string ({ data := #[109] }), .slice An ((LV).length) (cn)]) 70 := (f_pp_18.on k59 ne_pp_b4_0)
          have f468 : Bk w59 cm (bL (cameF LV)) 4 := (f_cm_18.on k59 ne_cm_b4_0)
          have o469 : Gt w59 := (G_18.on k59 (Ne.symm ne_b4_0_0))
          have ob470 := (x_18.1.on k59 (by have := o41.lt; omega))
          refine D_begin (fun W => Kp No w W ∧ Bk W px (u8s X) 85 ∧ Bk W po (u8s O) 86 ∧ Bk W pb ([.int .i64 ((q + 1 : Nat) : Int), .int .i64 ((n : Nat) : Int), .int .u32 3]) 28 ∧ Bk W dd (u8s dv) 5 ∧ Bk W pp ([.int .i64 ((q + 1 : Nat) : Int), .int .i64 ((n : Nat) : Int), .int .u32 3, .string ({ data := #[109] }), .slice An ((LV).length) (cn)]) 70 ∧ Bk W cm (bL (cameF LV)) 4 ∧ Gt W ∧ Tb W b4_0 ∧ Sw 50 w11.heap.size W w11.heap.size (.slice A_x ((L_x).length) (c_x)) (L_x)) 13 rfl (by kernel_rfl) ⟨kk59.drew, f464.draw, f465.draw, f462.draw, f466.draw, f467.draw, f468.draw, o469.draw, T59.draw, ob470.draw⟩ ?_
          intro w60 k60 _
          have kk60 := kk59.then_ k60
          refine D_take 0 rfl (by kernel_rfl) (by kernel_rfl) (by kernel_rfl) (fun _ _ _ h => h) rfl (fun W hS => pu_loadRow (len := 5) hS.2.2.2.2.2.1 (by kernel_rfl) (by kernel_rfl) rfl rfl) ?_
          refine D_take 1 rfl (by kernel_rfl) (by kernel_rfl) (by kernel_rfl) (fun _ _ _ h => h) rfl (fun W hS => pu_move rfl) ?_
          have ob471 := (ob470.keptNo k60)
          obtain ⟨s2, e_s2⟩ : ∃ q_, (L_x)[0]? = some q_ := ⟨_, List.getElem?_eq_getElem (by first | omega | (simp; done) | (simp; omega))⟩
          have ok_s2 := ob471.ss.get e_s2
          have od_s2 := ob471.od e_s2
          have bi_s2 : s2.ix < 256 := ok_s2.ix
          refine D_take 2 rfl (by kernel_rfl) (by kernel_rfl) (by kernel_rfl) (fun _ _ _ h => h) rfl (fun W hS => pu_indexAddrH hS.2.2.2.2.2.2.2.2.2.ss Tryd.underlying29 (by kernel_rfl) rfl rfl rfl rfl e_s2) ?_
          refine D_take 3 rfl (by kernel_rfl) (by kernel_rfl) (by kernel_rfl) (fun _ _ _ h => h) rfl (fun W hS => pu_loadHr hS.2.2.2.2.2.2.2.2.2.ss e_s2 (by kernel_rfl) (by kernel_rfl) rfl) ?_
          refine D_two 4 9 (by kernel_rfl) ?_ ?_
          · have ob472 := ((v_18.1.on k59 (by have := o77.lt; omega)).keptNo k60)
            refine Nx_lo rfl (lo_call (by kernel_rfl) rfl (submit_state q n 3 ({ data := #[109] }) An LV cn ({ data := #[109] }) s2.ix s2.gen s2.A s2.X s2.c _ ob472.ss ⟨⟨⟨⟨by omega, by omega, by omega⟩, by decide, by omega, by omega⟩, hcv⟩, .inr (by omega), by decide⟩)) rfl ?_
            rintro _ w61 ⟨rfl, k61⟩
            have kk61 := kk60.then_ k61
            have f473 : Bk w61 px (u8s X) 85 := ((f464.no k60).no k61)
            have f474 : Bk w61 po (u8s O) 86 := ((f465.no k60).no k61)
            have f475 : Bk w61 pb ([.int .i64 ((q + 1 : Nat) : Int), .int .i64 ((n : Nat) : Int), .int .u32 3]) 28 := ((f462.no k60).no k61)
            have f476 : Bk w61 dd (u8s dv) 5 := ((f466.no k60).no k61)
            have f477 : Bk w61 pp ([.int .i64 ((q + 1 : Nat) : Int), .int .i64 ((n : Nat) : Int), .int .u32 3, .string ({ data := #[109] }), .slice An ((LV).length) (cn)]) 70 := ((f467.no k60).no k61)
            have f478 : Bk w61 cm (bL (cameF LV)) 4 := ((f468.no k60).no k61)
            have o479 : Gt w61 := ((o469.no k60).no k61)
            have o480 : Tb w61 b4_0 := ((T59.no k60).no k61)
            have ob481 := (ob471.keptNo k61)
            refine ⟨⟨kk61, f473, f474, f475, f476, f477, f478, o479, o480, ob481⟩, ?_⟩
            refine D_take 5 rfl (by kernel_rfl) (by kernel_rfl) (by kernel_rfl) (fun _ _ _ h => h) rfl (fun W hS => pu_move rfl) ?_
            refine D_take 6 rfl (by kernel_rfl) (by kernel_rfl) (by kernel_rfl) (fun _ _ _ h => h) rfl (fun W hS => pu_extract rfl rfl) ?_
            refine D_take 7 rfl (by kernel_rfl) (by kernel_rfl) (by kernel_rfl) (fun _ _ _ h => h) rfl (fun W hS => pu_extract rfl rfl) ?_
            refine D_take 8 rfl (by kernel_rfl) (by kernel_rfl) (by kernel_rfl) (fun _ _ _ h => h) rfl (fun W hS => pu_extract rfl rfl) ?_
            have ob482 := (ob472.keptNo k61)
            have ob483 := ((Q59.keptNo k60).keptNo k61)
            have ob484 := (od_s2.keptNo k61)
            refine D_one 9 (by kernel_rfl) (Nx_lo rfl (lo_alloc (L := [.int .i64 0, .int .i64 0, .int .u32 0, .string ByteArray.empty, .slice none (0) (0)]) (by kernel_rfl)) rfl ?_)
            rintro _ w62 ⟨ub, rfl, N62⟩
            have k62 := N62.kp
            have kk62 := kk61.then_ k62
            have ne_ub_px : ub ≠ px := Nat.ne_of_gt (Nat.lt_of_lt_of_le f473.lt N62.le)
            have ne_ub_po : ub ≠ po := Nat.ne_of_gt (Nat.lt_of_lt_of_le f474.lt N62.le)
            have ne_ub_pb : ub ≠ pb := Nat.ne_of_gt (Nat.lt_of_lt_of_le f475.lt N62.le)
            have ne_ub_dd : ub ≠ dd := Nat.ne_of_gt (Nat.lt_of_lt_of_le f476.lt N62.le)
            have ne_ub_pp : ub ≠ pp := Nat.ne_of_gt (Nat.lt_of_lt_of_le f477.lt N62.le)
            have ne_ub_cm : ub ≠ cm := Nat.ne_of_gt (Nat.lt_of_lt_of_le f478.lt N62.le)
            have ne_ub_0 : ub ≠ 0 := Nat.ne_of_gt (Nat.lt_of_lt_of_le o479.lt N62.le)
            have ne_ub_b4_0 : ub ≠ b4_0 := Nat.ne_of_gt (Nat.lt_of_lt_of_le o480.lt N62.le)
            have f_ub_62 : Bk w62 ub ([.int .i64 0, .int .i64 0, .int .u32 0, .string ByteArray.empty, .slice none (0) (0)]) 70 := N62.bk
            have f485 : Bk w62 px (u8s X) 85 := (f473.no k62)
            have f486 : Bk w62 po (u8s O) 86 := (f474.no k62)
            have f487 : Bk w62 pb ([.int .i64 ((q + 1 : Nat) : Int), .int .i64 ((n : Nat) : Int), .int .u32 3]) 28 := (f475.no k62)
            have f488 : Bk w62 dd (u8s dv) 5 := (f476.no k62)
            have f489 : Bk w62 pp ([.int .i64 ((q + 1 : Nat) : Int), .int .i64 ((n : Nat) : Int), .int .u32 3, .string ({ data := #[109] }), .slice An ((LV).length) (cn)]) 70 := (f477.no k62)
            have f490 : Bk w62 cm (bL (cameF LV)) 4 := (f478.no k62)
            have o491 : Gt w62 := (o479.no k62)
            have o492 : Tb w62 b4_0 := (o480.no k62)
            have ob493 := (ob481.keptNo k62)
            refine ⟨⟨kk62, f485, f486, f487, f488, f489, f490, o491, o492, ob493⟩, ?_⟩
            refine D_one 10 (by kernel_rfl) (Nx_lo0 rfl (lo_storeRow (C := [.int .i64 0, .int .i64 0, .int .u32 0, .string ByteArray.empty, .slice none (0) (0)]) f_ub_62 (by kernel_rfl) rfl rfl (by intro u hu; simp at hu; rcases hu with rfl | rfl | rfl | rfl | rfl <;> rfl) rfl) ?_)
            rintro _ w63 kf63
            obtain ⟨k63, f_ub_63⟩ := kf63
            replace f_ub_63 : Bk w63 ub ([.int .i64 0, .int .i64 0, .int .u32 0, .string ByteArray.empty, .slice none (0) (0)]) 70 := f_ub_63
            have kk63 := kk62.trans k63 (fun i hi => .inr (hi ▸ (Nat.le_trans kk61.size N62.le)))
            have f494 : Bk w63 px (u8s X) 85 := (f485.on k63 (Ne.symm ne_ub_px))
            have f495 : Bk w63 po (u8s O) 86 := (f486.on k63 (Ne.symm ne_ub_po))
            have f496 : Bk w63 pb ([.int .i64 ((q + 1 : Nat) : Int), .int .i64 ((n : Nat) : Int), .int .u32 3]) 28 := (f487.on k63 (Ne.symm ne_ub_pb))
            have f497 : Bk w63 dd (u8s dv) 5 := (f488.on k63 (Ne.symm ne_ub_dd))
            have f498 : Bk w63 pp ([.int .i64 ((q + 1 : Nat) : Int), .int .i64 ((n : Nat) : Int), .int .u32 3, .string ({ data := #[109] }), .slice An ((LV).length) (cn)]) 70 := (f489.on k63 (Ne.symm ne_ub_pp))
            have f499 : Bk w63 cm (bL (cameF LV)) 4 := (f490.on k63 (Ne.symm ne_ub_cm))
            have o500 : Gt w63 := (o491.on k63 (Ne.symm ne_ub_0))
            have o501 : Tb w63 b4_0 := (o492.on k63 (Ne.symm ne_ub_b4_0))
            have ob502 := (ob493.onN k63 ob481 N62.le)
            refine ⟨⟨kk63, f494, f495, f496, f497, f498, f499, o500, o501, ob502⟩, ?_⟩
            refine D_take 11 rfl (by kernel_rfl) (by kernel_rfl) (by kernel_rfl) (fun _ _ _ h => h) rfl (fun W hS => pu_assign rfl) ?_
            refine D_take 12 rfl (by kernel_rfl) (by kernel_rfl) (by kernel_rfl) (fun _ _ _ h => h) rfl (fun W hS => pu_assign rfl) ?_
            refine D_done (by kernel_rfl) ?_
            refine X_then hK463 ?_
            refine C_seq (fun K503 hK503 => ?_)
            have ob504 := ((ob483.keptNo k62).onN k63 ob483 N62.le)
            refine D_begin (fun W => Kp No w W ∧ Bk W px (u8s X) 85 ∧ Bk W po (u8s O) 86 ∧ Bk W pb ([.int .i64 ((q + 1 : Nat) : Int), .int .i64 ((n : Nat) : Int), .int .u32 3]) 28 ∧ Bk W dd (u8s dv) 5 ∧ Bk W pp ([.int .i64 ((q + 1 : Nat) : Int), .int .i64 ((n : Nat) : Int), .int .u32 3, .string ({ data := #[109] }), .slice An ((LV).length) (cn)]) 70 ∧ Bk W cm (bL (cameF LV)) 4 ∧ Bk W ub ([.int .i64 0, .int .i64 0, .int .u32 0, .string ByteArray.empty, .slice none (0) (0)]) 70 ∧ Gt W ∧ Tb W b4_0 ∧ Ob W w18.heap.size (.slice A_se ((thX (LV.take (q + 1)) 32 0).length) (c_se)) (thX (LV.take (q + 1)) 32 0)) 18 rfl (by kernel_rfl) ⟨kk63.drew, f494.draw, f495.draw, f496.draw, f497.draw, f498.draw, f499.draw, f_ub_63.draw, o500.draw, o501.draw, ob504.draw⟩ ?_
            intro w64 k64 _
            have kk64 := kk63.then_ k64
            refine D_take 0 rfl (by kernel_rfl) (by kernel_rfl) (by kernel_rfl) (fun _ _ _ h => h) rfl (fun W hS => pu_move rfl) ?_
            refine D_take 1 rfl (by kernel_rfl) (by kernel_rfl) (by kernel_rfl) (fun _ _ _ h => h) rfl (fun W hS => pu_eqlnn (by kernel_rfl) rfl) ?_
            refine D_take 2 rfl (by kernel_rfl) (by kernel_rfl) (by kernel_rfl) (fun _ _ _ h => h) rfl (fun W hS => pu_move rfl) ?_
            refine D_gtake 3 rfl rfl rfl (by kernel_rfl) (by kernel_rfl) (by kernel_rfl) (fun _ _ _ h => h) rfl (fun W hS => pu_move rfl) ?_
            refine D_gtake 4 rfl rfl rfl (by kernel_rfl) (by kernel_rfl) (by kernel_rfl) (fun _ _ _ h => h) rfl (fun W hS => pu_bstr hS.2.2.2.2.2.2.2.2.2.2.bs Tryd.underlying22 Tryd.underlying5 Tryd.underlying9 rfl rfl) ?_
            refine D_gtake 5 rfl rfl rfl (by kernel_rfl) (by kernel_rfl) (by kernel_rfl) (fun _ _ _ h => h) rfl (fun W hS => pu_sliceArr Tryd.underlying85 (by kernel_rfl) rfl) ?_
            refine D_gtake 6 rfl rfl rfl (by kernel_rfl) (by kernel_rfl) (by kernel_rfl) (fun _ _ _ h => h) rfl (fun W hS => pu_bstr (Bs.ofBk hS.2.1 bX) Tryd.underlying22 Tryd.underlying5 Tryd.underlying9 rfl bX.1) ?_
            refine D_gtake 7 rfl rfl rfl (by kernel_rfl) (by kernel_rfl) (by kernel_rfl) (fun _ _ _ h => h) rfl (fun W hS => pu_true (pu_eqls (p := (thX (LV.take (q + 1)) 32 0) = X) rfl rfl (bstr_inj (hS.2.2.2.2.2.2.2.2.2.2.bs).byte ((Bs.ofBk hS.2.1 bX)).byte)) (offs_secret hof hcv (by omega) bX.1 (by rw [hdv.1, bX.1]; omega) bX.2 hdv.2)) ?_
            refine D_take 8 rfl (by kernel_rfl) (by kernel_rfl) (by kernel_rfl) (fun _ _ _ h => h) rfl (fun W hS => pu_pickt rfl rfl) ?_
            refine D_take 9 rfl (by kernel_rfl) (by kernel_rfl) (by kernel_rfl) (fun _ _ _ h => h) rfl (fun W hS => pu_move rfl) ?_
            refine D_gtake 10 rfl rfl rfl (by kernel_rfl) (by kernel_rfl) (by kernel_rfl) (fun _ _ _ h => h) rfl (fun W hS => pu_move rfl) ?_
            have o505 : Gt w64 := (o500.no k64)
            refine D_one 11 (by kernel_rfl) (Nx_glo rfl rfl rfl (lo_call (by kernel_rfl) rfl (num23_err 15 _ o505)) rfl ?_)
            rintro _ w65 ⟨rfl, k65⟩
            have kk65 := kk64.then_ k65
            have f506 : Bk w65 px (u8s X) 85 := ((f494.no k64).no k65)
            have f507 : Bk w65 po (u8s O) 86 := ((f495.no k64).no k65)
            have f508 : Bk w65 pb ([.int .i64 ((q + 1 : Nat) : Int), .int .i64 ((n : Nat) : Int), .int .u32 3]) 28 := ((f496.no k64).no k65)
            have f509 : Bk w65 dd (u8s dv) 5 := ((f497.no k64).no k65)
            have f510 : Bk w65 pp ([.int .i64 ((q + 1 : Nat) : Int), .int .i64 ((n : Nat) : Int), .int .u32 3, .string ({ data := #[109] }), .slice An ((LV).length) (cn)]) 70 := ((f498.no k64).no k65)
            have f511 : Bk w65 cm (bL (cameF LV)) 4 := ((f499.no k64).no k65)
            have f512 : Bk w65 ub ([.int .i64 0, .int .i64 0, .int .u32 0, .string ByteArray.empty, .slice none (0) (0)]) 70 := ((f_ub_63.no k64).no k65)
            have o513 : Gt w65 := (o505.no k65)
            have o514 : Tb w65 b4_0 := ((o501.no k64).no k65)
            have ob515 := ((ob504.keptNo k64).keptNo k65)
            refine ⟨⟨kk65, f506, f507, f508, f509, f510, f511, f512, o513, o514, ob515⟩, ?_⟩
            refine D_gtake 12 rfl rfl rfl (by kernel_rfl) (by kernel_rfl) (by kernel_rfl) (fun _ _ _ h => h) rfl (fun W hS => pu_true (pu_eql (p := (15 : Nat) = 15) rfl rfl (by omega)) (by decide)) ?_
            refine D_take 13 rfl (by kernel_rfl) (by kernel_rfl) (by kernel_rfl) (fun _ _ _ h => h) rfl (fun W hS => pu_pickt rfl rfl) ?_
            refine D_take 14 rfl (by kernel_rfl) (by kernel_rfl) (by kernel_rfl) (fun _ _ _ h => h) rfl (fun W hS => pu_move rfl) ?_
            refine D_one 15 (by kernel_rfl) (Nx_glo rfl rfl rfl (lo_call (by kernel_rfl) rfl (sure23 _ o513)) rfl ?_)
            rintro _ w66 ⟨rfl, k66⟩
            have kk66 := kk65.then_ k66
            have f516 : Bk w66 px (u8s X) 85 := (f506.no k66)
            have f517 : Bk w66 po (u8s O) 86 := (f507.no k66)
            have f518 : Bk w66 pb ([.int .i64 ((q + 1 : Nat) : Int), .int .i64 ((n : Nat) : Int), .int .u32 3]) 28 := (f508.no k66)
            have f519 : Bk w66 dd (u8s dv) 5 := (f509.no k66)
            have f520 : Bk w66 pp ([.int .i64 ((q + 1 : Nat) : Int), .int .i64 ((n : Nat) : Int), .int .u32 3, .string ({ data := #[109] }), .slice An ((LV).length) (cn)]) 70 := (f510.no k66)
            have f521 : Bk w66 cm (bL (cameF LV)) 4 := (f511.no k66)
            have f522 : Bk w66 ub ([.int .i64 0, .int .i64 0, .int .u32 0, .string ByteArray.empty, .slice none (0) (0)]) 70 := (f512.no k66)
            have o523 : Gt w66 := (o513.no k66)
            have o524 : Tb w66 b4_0 := (o514.no k66)
            have ob525 := (ob515.keptNo k66)
            refine ⟨⟨kk66, f516, f517, f518, f519, f520, f521, f522, o523, o524, ob525⟩, ?_⟩
            refine D_take 16 rfl (by kernel_rfl) (by kernel_rfl) (by kernel_rfl) (fun _ _ _ h => h) rfl (fun W hS => pu_pickt rfl rfl) ?_
            refine D_take 17 rfl (by kernel_rfl) (by kernel_rfl) (by kernel_rfl) (fun _ _ _ h => h) rfl (fun W hS => pu_assign rfl) ?_
            refine D_done (by kernel_rfl) ?_
            refine X_then hK503 ?_
            refine C_ret ?_
            exact X_ret1 (.inl rfl) rfl rfl ⟨rfl, kk66⟩
          · have f526 : Bk w60 px (u8s X) 85 := (f464.no k60)
            have f527 : Bk w60 po (u8s O) 86 := (f465.no k60)
            have f528 : Bk w60 pb ([.int .i64 ((q + 1 : Nat) : Int), .int .i64 ((n : Nat) : Int), .int .u32 3]) 28 := (f462.no k60)
            have f529 : Bk w60 dd (u8s dv) 5 := (f466.no k60)
            have f530 : Bk w60 pp ([.int .i64 ((q + 1 : Nat) : Int), .int .i64 ((n : Nat) : Int), .int .u32 3, .string ({ data := #[109] }), .slice An ((LV).length) (cn)]) 70 := (f467.no k60)
            have f531 : Bk w60 cm (bL (cameF LV)) 4 := (f468.no k60)
            have o532 : Gt w60 := (o469.no k60)
            have o533 : Tb w60 b4_0 := (T59.no k60)
            have ob534 := ((v_18.1.on k59 (by have := o77.lt; omega)).keptNo k60)
            have ob535 := (Q59.keptNo k60)
            refine Nx_lo rfl (lo_alloc (L := [.int .i64 0, .int .i64 0, .int .u32 0, .string ByteArray.empty, .slice none (0) (0)]) (by kernel_rfl)) rfl ?_
            rintro _ w67 ⟨ub, rfl, N67⟩
            have k67 := N67.kp
            have kk67 := kk60.then_ k67
            have ne_ub_px : ub ≠ px := Nat.ne_of_gt (Nat.lt_of_lt_of_le f526.lt N67.le)
            have ne_ub_po : ub ≠ po := Nat.ne_of_gt (Nat.lt_of_lt_of_le f527.lt N67.le)
            have ne_ub_pb : ub ≠ pb := Nat.ne_of_gt (Nat.lt_of_lt_of_le f528.lt N67.le)
            have ne_ub_dd : ub ≠ dd := Nat.ne_of_gt (Nat.lt_of_lt_of_le f529.lt N67.le)
            have ne_ub_pp : ub ≠ pp := Nat.ne_of_gt (Nat.lt_of_lt_of_le f530.lt N67.le)
            have ne_ub_cm : ub ≠ cm := Nat.ne_of_gt (Nat.lt_of_lt_of_le f531.lt N67.le)
            have ne_ub_0 : ub ≠ 0 := Nat.ne_of_gt (Nat.lt_of_lt_of_le o532.lt N67.le)
            have ne_ub_b4_0 : ub ≠ b4_0 := Nat.ne_of_gt (Nat.lt_of_lt_of_le o533.lt N67.le)
            have f_ub_67 : Bk w67 ub ([.int .i64 0, .int .i64 0, .int .u32 0, .string ByteArray.empty, .slice none (0) (0)]) 70 := N67.bk
            have f536 : Bk w67 px (u8s X) 85 := (f526.no k67)
            have f537 : Bk w67 po (u8s O) 86 := (f527.no k67)
            have f538 : Bk w67 pb ([.int .i64 ((q + 1 : Nat) : Int), .int .i64 ((n : Nat) : Int), .int .u32 3]) 28 := (f528.no k67)
            have f539 : Bk w67 dd (u8s dv) 5 := (f529.no k67)
            have f540 : Bk w67 pp ([.int .i64 ((q + 1 : Nat) : Int), .int .i64 ((n : Nat) : Int), .int .u32 3, .string ({ data := #[109] }), .slice An ((LV).length) (cn)]) 70 := (f530.no k67)
            have f541 : Bk w67 cm (bL (cameF LV)) 4 := (f531.no k67)
            have o542 : Gt w67 := (o532.no k67)
            have o543 : Tb w67 b4_0 := (o533.no k67)
            have ob544 := (ob471.keptNo k67)
            refine ⟨⟨kk67, f536, f537, f538, f539, f540, f541, o542, o543, ob544⟩, ?_⟩
            have ob545 := (ob534.keptNo k67)
            have ob546 := (od_s2.keptNo k67)
            refine D_one 4 (by kernel_rfl) (Nx_lo rfl (lo_call (by kernel_rfl) rfl (submit_state q n 3 ({ data := #[109] }) An LV cn ({ data := #[109] }) s2.ix s2.gen s2.A s2.X s2.c _ ob545.ss ⟨⟨⟨⟨by omega, by omega, by omega⟩, by decide, by omega, by omega⟩, hcv⟩, .inr (by omega), by decide⟩)) rfl ?_)
            rintro _ w68 ⟨rfl, k68⟩
            have kk68 := kk67.then_ k68
            have f547 : Bk w68 px (u8s X) 85 := (f536.no k68)
            have f548 : Bk w68 po (u8s O) 86 := (f537.no k68)
            have f549 : Bk w68 pb ([.int .i64 ((q + 1 : Nat) : Int), .int .i64 ((n : Nat) : Int), .int .u32 3]) 28 := (f538.no k68)
            have f550 : Bk w68 dd (u8s dv) 5 := (f539.no k68)
            have f551 : Bk w68 pp ([.int .i64 ((q + 1 : Nat) : Int), .int .i64 ((n : Nat) : Int), .int .u32 3, .string ({ data := #[109] }), .slice An ((LV).length) (cn)]) 70 := (f540.no k68)
            have f552 : Bk w68 cm (bL (cameF LV)) 4 := (f541.no k68)
            have o553 : Gt w68 := (o542.no k68)
            have o554 : Tb w68 b4_0 := (o543.no k68)
            have ob555 := (ob544.keptNo k68)
            refine ⟨⟨kk68, f547, f548, f549, f550, f551, f552, o553, o554, ob555⟩, ?_⟩
            refine D_take 5 rfl (by kernel_rfl) (by kernel_rfl) (by kernel_rfl) (fun _ _ _ h => h) rfl (fun W hS => pu_move rfl) ?_
            refine D_take 6 rfl (by kernel_rfl) (by kernel_rfl) (by kernel_rfl) (fun _ _ _ h => h) rfl (fun W hS => pu_extract rfl rfl) ?_
            refine D_take 7 rfl (by kernel_rfl) (by kernel_rfl) (by kernel_rfl) (fun _ _ _ h => h) rfl (fun W hS => pu_extract rfl rfl) ?_
            refine D_take 8 rfl (by kernel_rfl) (by kernel_rfl) (by kernel_rfl) (fun _ _ _ h => h) rfl (fun W hS => pu_extract rfl rfl) ?_
            have f556 : Bk w68 ub ([.int .i64 0, .int .i64 0, .int .u32 0, .string ByteArray.empty, .slice none (0) (0)]) 70 := (f_ub_67.no k68)
            refine D_one 10 (by kernel_rfl) (Nx_lo0 rfl (lo_storeRow (C := [.int .i64 0, .int .i64 0, .int .u32 0, .string ByteArray.empty, .slice none (0) (0)]) f556 (by kernel_rfl) rfl rfl (by intro u hu; simp at hu; rcases hu with rfl | rfl | rfl | rfl | rfl <;> rfl) rfl) ?_)
            rintro _ w69 kf69
            obtain ⟨k69, f_ub_69⟩ := kf69
            replace f_ub_69 : Bk w69 ub ([.int .i64 0, .int .i64 0, .int .u32 0, .string ByteArray.empty, .slice none (0) (0)]) 70 := f_ub_69
            have kk69 := kk68.trans k69 (fun i hi => .inr (hi ▸ (Nat.le_trans kk60.size N67.le)))
            have f557 : Bk w69 px (u8s X) 85 := (f547.on k69 (Ne.symm ne_ub_px))
            have f558 : Bk w69 po (u8s O) 86 := (f548.on k69 (Ne.symm ne_ub_po))
            have f559 : Bk w69 pb ([.int .i64 ((q + 1 : Nat) : Int), .int .i64 ((n : Nat) : Int), .int .u32 3]) 28 := (f549.on k69 (Ne.symm ne_ub_pb))
            have f560 : Bk w69 dd (u8s dv) 5 := (f550.on k69 (Ne.symm ne_ub_dd))
            have f561 : Bk w69 pp ([.int .i64 ((q + 1 : Nat) : Int), .int .i64 ((n : Nat) : Int), .int .u32 3, .string ({ data := #[109] }), .slice An ((LV).length) (cn)]) 70 := (f551.on k69 (Ne.symm ne_ub_pp))
            have f562 : Bk w69 cm (bL (cameF LV)) 4 := (f552.on k69 (Ne.symm ne_ub_cm))
            have o563 : Gt w69 := (o553.on k69 (Ne.symm ne_ub_0))
            have o564 : Tb w69 b4_0 := (o554.on k69 (Ne.symm ne_ub_b4_0))
            have ob565 := (ob555.onN k69 ob471 N67.le)
            refine ⟨⟨kk69, f557, f558, f559, f560, f561, f562, o563, o564, ob565⟩, ?_⟩
            refine D_take 11 rfl (by kernel_rfl) (by kernel_rfl) (by kernel_rfl) (fun _ _ _ h => h) rfl (fun W hS => pu_assign rfl) ?_
            refine D_take 12 rfl (by kernel_rfl) (by kernel_rfl) (by kernel_rfl) (fun _ _ _ h => h) rfl (fun W hS => pu_assign rfl) ?_
            refine D_done (by kernel_rfl) ?_
            refine X_then hK463 ?_
            refine C_seq (fun K566 hK566 => ?_)
            have ob567 := (((ob535.keptNo k67).keptNo k68).onN k69 ob535 N67.le)
            refine D_begin (fun W => Kp No w W ∧ Bk W px (u8s X) 85 ∧ Bk W po (u8s O) 86 ∧ Bk W pb ([.int .i64 ((q + 1 : Nat) : Int), .int .i64 ((n : Nat) : Int), .int .u32 3]) 28 ∧ Bk W dd (u8s dv) 5 ∧ Bk W pp ([.int .i64 ((q + 1 : Nat) : Int), .int .i64 ((n : Nat) : Int), .int .u32 3, .string ({ data := #[109] }), .slice An ((LV).length) (cn)]) 70 ∧ Bk W cm (bL (cameF LV)) 4 ∧ Bk W ub ([.int .i64 0, .int .i64 0, .int .u32 0, .string ByteArray.empty, .slice none (0) (0)]) 70 ∧ Gt W ∧ Tb W b4_0 ∧ Ob W w18.heap.size (.slice A_se ((thX (LV.take (q + 1)) 32 0).length) (c_se)) (thX (LV.take (q + 1)) 32 0)) 18 rfl (by kernel_rfl) ⟨kk69.drew, f557.draw, f558.draw, f559.draw, f560.draw, f561.draw, f562.draw, f_ub_69.draw, o563.draw, o564.draw, ob567.draw⟩ ?_
            intro w70 k70 _
            have kk70 := kk69.then_ k70
            refine D_take 0 rfl (by kernel_rfl) (by kernel_rfl) (by kernel_rfl) (fun _ _ _ h => h) rfl (fun W hS => pu_move rfl) ?_
            refine D_take 1 rfl (by kernel_rfl) (by kernel_rfl) (by kernel_rfl) (fun _ _ _ h => h) rfl (fun W hS => pu_eqlnn (by kernel_rfl) rfl) ?_
            refine D_take 2 rfl (by kernel_rfl) (by kernel_rfl) (by kernel_rfl) (fun _ _ _ h => h) rfl (fun W hS => pu_move rfl) ?_
            refine D_gtake 3 rfl rfl rfl (by kernel_rfl) (by kernel_rfl) (by kernel_rfl) (fun _ _ _ h => h) rfl (fun W hS => pu_move rfl) ?_
            refine D_gtake 4 rfl rfl rfl (by kernel_rfl) (by kernel_rfl) (by kernel_rfl) (fun _ _ _ h => h) rfl (fun W hS => pu_bstr hS.2.2.2.2.2.2.2.2.2.2.bs Tryd.underlying22 Tryd.underlying5 Tryd.underlying9 rfl rfl) ?_
            refine D_gtake 5 rfl rfl rfl (by kernel_rfl) (by kernel_rfl) (by kernel_rfl) (fun _ _ _ h => h) rfl (fun W hS => pu_sliceArr Tryd.underlying85 (by kernel_rfl) rfl) ?_
            refine D_gtake 6 rfl rfl rfl (by kernel_rfl) (by kernel_rfl) (by kernel_rfl) (fun _ _ _ h => h) rfl (fun W hS => pu_bstr (Bs.ofBk hS.2.1 bX) Tryd.underlying22 Tryd.underlying5 Tryd.underlying9 rfl bX.1) ?_
            refine D_gtake 7 rfl rfl rfl (by kernel_rfl) (by kernel_rfl) (by kernel_rfl) (fun _ _ _ h => h) rfl (fun W hS => pu_true (pu_eqls (p := (thX (LV.take (q + 1)) 32 0) = X) rfl rfl (bstr_inj (hS.2.2.2.2.2.2.2.2.2.2.bs).byte ((Bs.ofBk hS.2.1 bX)).byte)) (offs_secret hof hcv (by omega) bX.1 (by rw [hdv.1, bX.1]; omega) bX.2 hdv.2)) ?_
            refine D_take 8 rfl (by kernel_rfl) (by kernel_rfl) (by kernel_rfl) (fun _ _ _ h => h) rfl (fun W hS => pu_pickt rfl rfl) ?_
            refine D_take 9 rfl (by kernel_rfl) (by kernel_rfl) (by kernel_rfl) (fun _ _ _ h => h) rfl (fun W hS => pu_move rfl) ?_
            refine D_gtake 10 rfl rfl rfl (by kernel_rfl) (by kernel_rfl) (by kernel_rfl) (fun _ _ _ h => h) rfl (fun W hS => pu_move rfl) ?_
            have o568 : Gt w70 := (o563.no k70)
            refine D_one 11 (by kernel_rfl) (Nx_glo rfl rfl rfl (lo_call (by kernel_rfl) rfl (num23_err 15 _ o568)) rfl ?_)
            rintro _ w71 ⟨rfl, k71⟩
            have kk71 := kk70.then_ k71
            have f569 : Bk w71 px (u8s X) 85 := ((f557.no k70).no k71)
            have f570 : Bk w71 po (u8s O) 86 := ((f558.no k70).no k71)
            have f571 : Bk w71 pb ([.int .i64 ((q + 1 : Nat) : Int), .int .i64 ((n : Nat) : Int), .int .u32 3]) 28 := ((f559.no k70).no k71)
            have f572 : Bk w71 dd (u8s dv) 5 := ((f560.no k70).no k71)
            have f573 : Bk w71 pp ([.int .i64 ((q + 1 : Nat) : Int), .int .i64 ((n : Nat) : Int), .int .u32 3, .string ({ data := #[109] }), .slice An ((LV).length) (cn)]) 70 := ((f561.no k70).no k71)
            have f574 : Bk w71 cm (bL (cameF LV)) 4 := ((f562.no k70).no k71)
            have f575 : Bk w71 ub ([.int .i64 0, .int .i64 0, .int .u32 0, .string ByteArray.empty, .slice none (0) (0)]) 70 := ((f_ub_69.no k70).no k71)
            have o576 : Gt w71 := (o568.no k71)
            have o577 : Tb w71 b4_0 := ((o564.no k70).no k71)
            have ob578 := ((ob567.keptNo k70).keptNo k71)
            refine ⟨⟨kk71, f569, f570, f571, f572, f573, f574, f575, o576, o577, ob578⟩, ?_⟩
            refine D_gtake 12 rfl rfl rfl (by kernel_rfl) (by kernel_rfl) (by kernel_rfl) (fun _ _ _ h => h) rfl (fun W hS => pu_true (pu_eql (p := (15 : Nat) = 15) rfl rfl (by omega)) (by decide)) ?_
            refine D_take 13 rfl (by kernel_rfl) (by kernel_rfl) (by kernel_rfl) (fun _ _ _ h => h) rfl (fun W hS => pu_pickt rfl rfl) ?_
            refine D_take 14 rfl (by kernel_rfl) (by kernel_rfl) (by kernel_rfl) (fun _ _ _ h => h) rfl (fun W hS => pu_move rfl) ?_
            refine D_one 15 (by kernel_rfl) (Nx_glo rfl rfl rfl (lo_call (by kernel_rfl) rfl (sure23 _ o576)) rfl ?_)
            rintro _ w72 ⟨rfl, k72⟩
            have kk72 := kk71.then_ k72
            have f579 : Bk w72 px (u8s X) 85 := (f569.no k72)
            have f580 : Bk w72 po (u8s O) 86 := (f570.no k72)
            have f581 : Bk w72 pb ([.int .i64 ((q + 1 : Nat) : Int), .int .i64 ((n : Nat) : Int), .int .u32 3]) 28 := (f571.no k72)
            have f582 : Bk w72 dd (u8s dv) 5 := (f572.no k72)
            have f583 : Bk w72 pp ([.int .i64 ((q + 1 : Nat) : Int), .int .i64 ((n : Nat) : Int), .int .u32 3, .string ({ data := #[109] }), .slice An ((LV).length) (cn)]) 70 := (f573.no k72)
            have f584 : Bk w72 cm (bL (cameF LV)) 4 := (f574.no k72)
            have f585 : Bk w72 ub ([.int .i64 0, .int .i64 0, .int .u32 0, .string ByteArray.empty, .slice none (0) (0)]) 70 := (f575.no k72)
            have o586 : Gt w72 := (o576.no k72)
            have o587 : Tb w72 b4_0 := (o577.no k72)
            have ob588 := (ob578.keptNo k72)
            refine ⟨⟨kk72, f579, f580, f581, f582, f583, f584, f585, o586, o587, ob588⟩, ?_⟩
            refine D_take 16 rfl (by kernel_rfl) (by kernel_rfl) (by kernel_rfl) (fun _ _ _ h => h) rfl (fun W hS => pu_pickt rfl rfl) ?_
            refine D_take 17 rfl (by kernel_rfl) (by kernel_rfl) (by kernel_rfl) (fun _ _ _ h => h) rfl (fun W hS => pu_assign rfl) ?_
            refine D_done (by kernel_rfl) ?_
            refine X_then hK566 ?_
            refine C_ret ?_
            exact X_ret1 (.inl rfl) rfl rfl ⟨rfl, kk72⟩
end Go.Proofs.YtjbdimfpjbmggaaDoor
