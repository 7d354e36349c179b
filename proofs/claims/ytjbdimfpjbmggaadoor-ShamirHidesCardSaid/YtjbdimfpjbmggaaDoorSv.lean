/- Walks of bursarylaw03.zero and drawn. -/
import Derived.Test.YtjbdimfpjbmggaaDoorHe
import Derived.Test.YtjbdimfpjbmggaaDoorSr
set_option linter.unusedVariables false
set_option linter.unusedSimpArgs false
namespace Go.Proofs.YtjbdimfpjbmggaaDoor
open Go.RowKit Gm
set_option maxRecDepth 100000 in
set_option maxHeartbeats 2000000 in
theorem zero_ (b : Nat) (A : Option Addr) (l : List Nat) (c : Nat) (A2 : Option Addr) (m : List Nat) (c2 : Nat) (w : World) (HB : Bs w A l) (hc : l.length ≤ c) (HB2 : Bs w A2 m) (hc2 : m.length ≤ c2) (hd : Di l ∧ m.length = l.length ∧ l.length < 1000) (aw_HB : Aw (On b) A l) (aw_HB2 : Aw (On b) A2 m) (hT : Tb w b) : Ret Tryd.prog 46 #[.pointer (some ⟨b, 0, none⟩), .slice A (l.length) (c), .slice A2 (m.length) (c2)] w (fun v w' => v = .tuple #[.int .u8 ((ipN l m 0 l.length : Nat) : Int), .bool true] ∧ Tb w' b ∧ Kp (On b) w w') := by
  obtain ⟨hd, hml, hls⟩ := hd
  have kk0 := Kp.refl (On b) w
  refine enter (n := 61) [.pointer (some ⟨b, 0, none⟩), .slice A (l.length) (c), .slice A2 (m.length) (c2)] Tryd.func46 rfl rfl rfl ?_
  show Cw _ _ _ _ [(0, .pointer (some ⟨b, 0, none⟩)), (1, .slice A (l.length) (c)), (2, .slice A2 (m.length) (c2))] _
  refine C_seq (fun K1 hK1 => ?_)
  refine C_region ?_
  refine R_pu (pu_assign rfl) rfl ?_
  refine R_pu (pu_assign rfl) rfl ?_
  refine R_nil ?_
  refine X_then hK1 ?_
  refine C_seq (fun K2 hK2 => ?_)
  refine C_region ?_
  refine R_pu (pu_assign rfl) rfl ?_
  refine R_nil ?_
  refine X_then hK2 ?_
  refine C_seq (fun K3 hK3 => ?_)
  refine C_seq (fun K4 hK4 => ?_)
  refine C_region ?_
  refine R_pu (pu_assign rfl) rfl ?_
  refine R_nil ?_
  refine X_then hK4 ?_
  refine C_block ?_
  refine C_loop (fun m_ l_ wr => ∃ i : Nat, (m_ = l.length - i) ∧ (l_ = [(0, .pointer (some ⟨b, 0, none⟩)), (1, .slice A (l.length) (c)), (2, .slice A2 (m.length) (c2)), (8, .int .u8 ((zs l m i : Nat) : Int)), (9, .int .i64 ((i : Nat) : Int))]) ∧ (i ≤ l.length) ∧ (Kp (On b) w wr) ∧ (Tb wr b)) (l.length - 0) [(0, .pointer (some ⟨b, 0, none⟩)), (1, .slice A (l.length) (c)), (2, .slice A2 (m.length) (c2)), (8, .int .u8 ((zs l m 0 : Nat) : Int)), (9, .int .i64 0)] (Sub.cons rfl (Sub.cons rfl (Sub.cons rfl (Sub.cons rfl (Sub.cons rfl (Sub.nil _)))))) ⟨0, rfl, rfl, by omega, kk0, hT⟩ ?_
  rintro _ _ w1 ⟨i, rfl, rfl, hi, kk1, T_1⟩
  refine C_seq (fun K5 hK5 => ?_)
  refine C_seq (fun K6 hK6 => ?_)
  refine C_region ?_
  refine R_pu (pu_move rfl) rfl ?_
  refine R_pu (pu_move rfl) rfl ?_
  refine R_pu (pu_len Tryd.underlying22 rfl) rfl ?_
  refine R_pu (pu_lss (p := i < l.length) rfl rfl (by omega)) rfl ?_
  refine R_nil ?_
  refine X_then hK6 ?_
  refine C_dec rfl (fun h17 => ?_) (fun h17 => ?_)
  · refine C_skip ?_
    refine X_then hK5 ?_
    refine C_seq (fun K7 hK7 => ?_)
    refine C_block ?_
    refine C_seq (fun K8 hK8 => ?_)
    refine C_region ?_
    refine R_pu (pu_move rfl) rfl ?_
    refine R_pu (pu_move rfl) rfl ?_
    refine R_pu (pu_indexAddrB (m := i) (HB2.keptS kk1 aw_HB2) Tryd.underlying22 (by kernel_rfl) rfl rfl rfl rfl (by omega)) rfl ?_
    obtain ⟨y, e_y⟩ : ∃ q_, (m)[i]? = some q_ := ⟨_, List.getElem?_eq_getElem (by omega)⟩
    have b_y : y < 256 := ((HB2.keptS kk1 aw_HB2)).lt e_y
    refine R_pu (pu_loadB (HB2.keptS kk1 aw_HB2) (by kernel_rfl) rfl e_y) rfl ?_
    refine R_pu (pu_assign rfl) rfl ?_
    refine R_nil ?_
    refine X_then hK8 ?_
    refine C_seq (fun K9 hK9 => ?_)
    refine C_seq (fun K10 hK10 => ?_)
    refine C_region ?_
    refine R_pu (pu_assign rfl) rfl ?_
    refine R_nil ?_
    refine X_then hK10 ?_
    refine C_block ?_
    refine C_loop (fun m_ l_ wr => ∃ k : Nat, (m_ = l.length - k) ∧ (l_ = [(0, .pointer (some ⟨b, 0, none⟩)), (1, .slice A (l.length) (c)), (2, .slice A2 (m.length) (c2)), (8, .int .u8 ((zs l m i : Nat) : Int)), (9, .int .i64 ((i : Nat) : Int)), (10, .int .u8 ((zw l m i k : Nat) : Int)), (11, .int .i64 ((k : Nat) : Int))]) ∧ (k ≤ l.length) ∧ (Kp (On b) w wr) ∧ (Tb wr b)) (l.length - 0) [(0, .pointer (some ⟨b, 0, none⟩)), (1, .slice A (l.length) (c)), (2, .slice A2 (m.length) (c2)), (8, .int .u8 ((zs l m i : Nat) : Int)), (9, .int .i64 ((i : Nat) : Int)), (10, .int .u8 ((zw l m i 0 : Nat) : Int)), (11, .int .i64 0)] (Sub.cons rfl (Sub.cons rfl (Sub.cons rfl (Sub.cons rfl (Sub.cons rfl (Sub.consE rfl (by rw [← getD_some e_y]; rfl) (Sub.cons rfl (Sub.nil _)))))))) ⟨0, rfl, rfl, by omega, kk1, T_1⟩ ?_
    rintro _ _ w2 ⟨k, rfl, rfl, hk, kk2, T_2⟩
    refine C_seq (fun K11 hK11 => ?_)
    refine C_seq (fun K12 hK12 => ?_)
    refine C_region ?_
    refine R_pu (pu_move rfl) rfl ?_
    refine R_pu (pu_move rfl) rfl ?_
    refine R_pu (pu_len Tryd.underlying22 rfl) rfl ?_
    refine R_pu (pu_lss (p := k < l.length) rfl rfl (by omega)) rfl ?_
    refine R_nil ?_
    refine X_then hK12 ?_
    refine C_dec rfl (fun h27 => ?_) (fun h27 => ?_)
    · refine C_skip ?_
      refine X_then hK11 ?_
      refine C_seq (fun K13 hK13 => ?_)
      refine C_block ?_
      refine C_seq (fun K14 hK14 => ?_)
      refine C_seq (fun K15 hK15 => ?_)
      refine C_region ?_
      refine R_pu (pu_move rfl) rfl ?_
      refine R_pu (pu_move rfl) rfl ?_
      refine R_pu (pu_eql (p := k = i) rfl rfl (by omega)) rfl ?_
      refine R_nil ?_
      refine X_then hK15 ?_
      refine C_dec rfl (fun h32 => ?_) (fun h32 => ?_)
      · refine C_exit ?_
        refine X_then_exit (X_in_eq ?_)
        refine X_then hK13 ?_
        refine C_region ?_
        refine R_pu (pu_move rfl) rfl ?_
        refine R_pu (pu_add (z := ((k + 1 : Nat) : Int)) rfl rfl (by rw [IntKind.wrap_i64]; omega)) rfl ?_
        refine R_pu (pu_assign rfl) rfl ?_
        refine R_nil ?_
        refine X_round (l.length - (k + 1)) [(0, .pointer (some ⟨b, 0, none⟩)), (1, .slice A (l.length) (c)), (2, .slice A2 (m.length) (c2)), (8, .int .u8 ((zs l m i : Nat) : Int)), (9, .int .i64 ((i : Nat) : Int)), (10, .int .u8 ((zw l m i (k + 1) : Nat) : Int)), (11, .int .i64 (((k + 1) : Nat) : Int))] (by omega) (Sub.cons rfl (Sub.cons rfl (Sub.cons rfl (Sub.cons rfl (Sub.cons rfl (Sub.consE rfl (by rw [zw_skip (by omega)]) (Sub.cons rfl (Sub.nil _)))))))) ⟨k + 1, rfl, rfl, by omega, kk2, T_2⟩
      · refine C_skip ?_
        refine X_then hK14 ?_
        refine C_seq (fun K16 hK16 => ?_)
        refine D_begin (fun W => Kp (On b) w W ∧ Tb W b) 20 rfl (by kernel_rfl) ⟨kk2.drew, T_2.draw⟩ ?_
        intro w3 k3 _
        have kk3 := kk2.thenNo k3
        refine D_take 0 rfl (by kernel_rfl) (by kernel_rfl) (by kernel_rfl) (fun _ _ _ h => h) rfl (fun W hS => pu_move rfl) ?_
        refine D_take 1 rfl (by kernel_rfl) (by kernel_rfl) (by kernel_rfl) (fun _ _ _ h => h) rfl (fun W hS => pu_move rfl) ?_
        refine D_take 2 rfl (by kernel_rfl) (by kernel_rfl) (by kernel_rfl) (fun _ _ _ h => h) rfl (fun W hS => pu_move rfl) ?_
        refine D_take 3 rfl (by kernel_rfl) (by kernel_rfl) (by kernel_rfl) (fun _ _ _ h => h) rfl (fun W hS => pu_indexAddrB (m := k) (HB.keptS hS.1 aw_HB) Tryd.underlying22 (by kernel_rfl) rfl rfl rfl rfl (by omega)) ?_
        obtain ⟨a, e_a⟩ : ∃ q_, (l)[k]? = some q_ := ⟨_, List.getElem?_eq_getElem (by omega)⟩
        have b_a : a < 256 := ((HB.keptS kk3 aw_HB)).lt e_a
        refine D_take 4 rfl (by kernel_rfl) (by kernel_rfl) (by kernel_rfl) (fun _ _ _ h => h) rfl (fun W hS => pu_loadB (HB.keptS hS.1 aw_HB) (by kernel_rfl) rfl e_a) ?_
        refine D_take 5 rfl (by kernel_rfl) (by kernel_rfl) (by kernel_rfl) (fun _ _ _ h => h) rfl (fun W hS => pu_move rfl) ?_
        refine D_take 6 rfl (by kernel_rfl) (by kernel_rfl) (by kernel_rfl) (fun _ _ _ h => h) rfl (fun W hS => pu_move rfl) ?_
        refine D_take 7 rfl (by kernel_rfl) (by kernel_rfl) (by kernel_rfl) (fun _ _ _ h => h) rfl (fun W hS => pu_indexAddrB (m := i) (HB.keptS hS.1 aw_HB) Tryd.underlying22 (by kernel_rfl) rfl rfl rfl rfl (by omega)) ?_
        obtain ⟨p, e_p⟩ : ∃ q_, (l)[i]? = some q_ := ⟨_, List.getElem?_eq_getElem (by omega)⟩
        have b_p : p < 256 := ((HB.keptS kk3 aw_HB)).lt e_p
        refine D_take 8 rfl (by kernel_rfl) (by kernel_rfl) (by kernel_rfl) (fun _ _ _ h => h) rfl (fun W hS => pu_loadB (HB.keptS hS.1 aw_HB) (by kernel_rfl) rfl e_p) ?_
        refine D_take 9 rfl (by kernel_rfl) (by kernel_rfl) (by kernel_rfl) (fun _ _ _ h => h) rfl (fun W hS => pu_move rfl) ?_
        refine D_take 10 rfl (by kernel_rfl) (by kernel_rfl) (by kernel_rfl) (fun _ _ _ h => h) rfl (fun W hS => pu_move rfl) ?_
        refine D_take 11 rfl (by kernel_rfl) (by kernel_rfl) (by kernel_rfl) (fun _ _ _ h => h) rfl (fun W hS => pu_indexAddrB (m := k) (HB.keptS hS.1 aw_HB) Tryd.underlying22 (by kernel_rfl) rfl rfl rfl rfl (by omega)) ?_
        obtain ⟨a2, e_a2⟩ : ∃ q_, (l)[k]? = some q_ := ⟨_, List.getElem?_eq_getElem (by omega)⟩
        have b_a2 : a2 < 256 := ((HB.keptS kk3 aw_HB)).lt e_a2
        refine D_take 12 rfl (by kernel_rfl) (by kernel_rfl) (by kernel_rfl) (fun _ _ _ h => h) rfl (fun W hS => pu_loadB (HB.keptS hS.1 aw_HB) (by kernel_rfl) rfl e_a2) ?_
        refine D_one 13 (by kernel_rfl) (Nx_lo rfl (lo_call (by kernel_rfl) rfl (gf_add p a2 b_p b_a2 _)) rfl ?_)
        rintro _ w4 ⟨rfl, k4⟩
        have kk4 := kk3.thenNo k4
        have o17 : Tb w4 b := ((T_2.no k3).no k4)
        refine ⟨⟨kk4, o17⟩, ?_⟩
        refine D_one 14 (by kernel_rfl) (Nx_lo rfl (lo_call (by kernel_rfl) rfl (gf_div b a (p ^^^ a2) b_a (xor_lt8 b_p b_a2) (fun h => hd.ne (i := i) (j := k) (by omega) (by omega) (by omega) (by rw [getD_some e_p, getD_some e_a2]; exact x_zero h)) _ o17)) rfl ?_)
        rintro _ w5 ⟨rfl, T5, k5⟩
        have kk5 := kk4.trans k5 (fun i hi => .inl hi)
        refine ⟨⟨kk5, T5⟩, ?_⟩
        refine D_take 15 rfl (by kernel_rfl) (by kernel_rfl) (by kernel_rfl) (fun _ _ _ h => h) rfl (fun W hS => pu_move rfl) ?_
        refine D_take 16 rfl (by kernel_rfl) (by kernel_rfl) (by kernel_rfl) (fun _ _ _ h => h) rfl (fun W hS => pu_extract rfl rfl) ?_
        refine D_take 17 rfl (by kernel_rfl) (by kernel_rfl) (by kernel_rfl) (fun _ _ _ h => h) rfl (fun W hS => pu_extract rfl rfl) ?_
        refine D_take 18 rfl (by kernel_rfl) (by kernel_rfl) (by kernel_rfl) (fun _ _ _ h => h) rfl (fun W hS => pu_assign rfl) ?_
        refine D_take 19 rfl (by kernel_rfl) (by kernel_rfl) (by kernel_rfl) (fun _ _ _ h => h) rfl (fun W hS => pu_assign rfl) ?_
        refine D_done (by kernel_rfl) ?_
        refine X_then hK16 ?_
        refine C_seq (fun K18 hK18 => ?_)
        refine C_seq (fun K19 hK19 => ?_)
        refine C_region ?_
        refine R_pu (pu_move rfl) rfl ?_
        refine R_pu (pu_neqnn (by kernel_rfl) rfl) rfl ?_
        refine R_nil ?_
        refine X_then hK19 ?_
        refine C_false rfl ?_
        refine C_skip ?_
        refine X_then hK18 ?_
        refine C_region ?_
        refine R_pu (pu_move rfl) rfl ?_
        refine R_pu (pu_move rfl) rfl ?_
        refine R_pu (pu_move rfl) rfl ?_
        refine R_lo (lo_call (by kernel_rfl) rfl (gf_mul b (zw l m i k) (gdiv a (p ^^^ a2)) (zw_lt HB2.byte _ _) (gdiv_lt _ _) _ T5)) rfl ?_
        rintro _ w6 ⟨rfl, T6, k6⟩
        have kk6 := kk5.trans k6 (fun i hi => .inl hi)
        refine R_pu (pu_assign rfl) rfl ?_
        refine R_nil ?_
        refine X_in_normal ?_
        refine X_then hK13 ?_
        refine C_region ?_
        refine R_pu (pu_move rfl) rfl ?_
        refine R_pu (pu_add (z := ((k + 1 : Nat) : Int)) rfl rfl (by rw [IntKind.wrap_i64]; omega)) rfl ?_
        refine R_pu (pu_assign rfl) rfl ?_
        refine R_nil ?_
        refine X_round (l.length - (k + 1)) [(0, .pointer (some ⟨b, 0, none⟩)), (1, .slice A (l.length) (c)), (2, .slice A2 (m.length) (c2)), (8, .int .u8 ((zs l m i : Nat) : Int)), (9, .int .i64 ((i : Nat) : Int)), (10, .int .u8 ((zw l m i (k + 1) : Nat) : Int)), (11, .int .i64 (((k + 1) : Nat) : Int))] (by omega) (Sub.cons rfl (Sub.cons rfl (Sub.cons rfl (Sub.cons rfl (Sub.cons rfl (Sub.consE rfl (by rw [show gmul (zw l m i k) (gdiv a (p ^^^ a2)) = zw l m i (k + 1) by rw [← zw_step (by omega), getD_some e_a, getD_some e_p]; rw [← getD_some e_a2, getD_some e_a]]) (Sub.cons rfl (Sub.nil _)))))))) ⟨k + 1, rfl, rfl, by omega, kk6, T6⟩
    · refine C_exit ?_
      refine X_then_exit (X_then_exit (X_in_eq ?_))
      refine X_then hK9 ?_
      refine C_region ?_
      refine R_pu (pu_move rfl) rfl ?_
      refine R_pu (pu_move rfl) rfl ?_
      refine R_lo (lo_call (by kernel_rfl) rfl (gf_add (zs l m i) (zw l m i k) (zs_lt HB2.byte _) (zw_lt HB2.byte _ _) _)) rfl ?_
      rintro _ w7 ⟨rfl, k7⟩
      have kk7 := kk2.thenNo k7
      refine R_pu (pu_assign rfl) rfl ?_
      refine R_nil ?_
      refine X_in_normal ?_
      refine X_then hK7 ?_
      refine C_region ?_
      refine R_pu (pu_move rfl) rfl ?_
      refine R_pu (pu_add (z := ((i + 1 : Nat) : Int)) rfl rfl (by rw [IntKind.wrap_i64]; omega)) rfl ?_
      refine R_pu (pu_assign rfl) rfl ?_
      refine R_nil ?_
      have o20 : Tb w7 b := (T_2.no k7)
      refine X_round (l.length - (i + 1)) [(0, .pointer (some ⟨b, 0, none⟩)), (1, .slice A (l.length) (c)), (2, .slice A2 (m.length) (c2)), (8, .int .u8 ((zs l m (i + 1) : Nat) : Int)), (9, .int .i64 (((i + 1) : Nat) : Int))] (by omega) (Sub.cons rfl (Sub.cons rfl (Sub.cons rfl (Sub.consE rfl (by rw [show zs l m i ^^^ zw l m i k = zs l m (i + 1) by rw [show k = l.length by omega]; rfl]) (Sub.cons rfl (Sub.nil _)))))) ⟨i + 1, rfl, rfl, by omega, kk7, o20⟩
  · refine C_exit ?_
    refine X_then_exit (X_then_exit (X_in_eq ?_))
    refine X_then hK3 ?_
    refine C_seq (fun K21 hK21 => ?_)
    refine C_region ?_
    refine R_pu (pu_move rfl) rfl ?_
    refine R_pu (pu_assign rfl) rfl ?_
    refine R_pu (pu_assign rfl) rfl ?_
    refine R_nil ?_
    refine X_then hK21 ?_
    refine C_ret ?_
    exact X_ret2 (.inl rfl) rfl rfl rfl ⟨by rw [show i = l.length by omega, zs_eq HB.byte HB2.byte hd _ (Nat.le_refl _)], T_1, kk1⟩
set_option maxRecDepth 100000 in
set_option maxHeartbeats 2000000 in
theorem drawn_ (b : Nat) (A : Option Addr) (l : List Nat) (c : Nat) (A2 : Option Addr) (KN : List Shr) (c2 q nn ge : Nat) (w : World) (HB : Bs w A l) (hc : l.length ≤ c) (HS : Ss w A2 KN) (hm : (KN.length = q ∧ 1 ≤ q ∧ q ≤ 254 ∧ l.length ≤ 64 ∧ ge < 4294967296) ∧ (∀ s ∈ KN, s.ix ≠ 0 ∧ s.X.length = l.length) ∧ Di (ixs KN)) (aw_HB : Aw (On b) A l) (aw_HS : Aws (On b) A2 KN) (hT : Tb w b) : Ret Tryd.prog 22 #[.pointer (some ⟨b, 0, none⟩), .slice A (l.length) (c), .slice A2 (KN.length) (c2), .agg ([.int .i64 ((q + 1 : Nat) : Int), .int .i64 ((nn : Nat) : Int), .int .u32 ((ge : Nat) : Int)] : List Value).toArray] w (fun v w' => ∃ A c, v = .tuple #[.slice A (drL l KN q l.length).length c, .bool true] ∧ Ob w' w.heap.size (.slice A (drL l KN q l.length).length c) (drL l KN q l.length) ∧ Tb w' b ∧ Kp (On b) w w') := by
  obtain ⟨⟨hq, hq1, hq2, hl64, hge⟩, hal, hdi⟩ := hm
  have hjq : ∀ j, j ≤ l.length → j * q ≤ 16256 := fun j hj => Nat.le_trans (Nat.mul_le_mul (show j ≤ 64 by omega) hq2) (by decide)
  have kk0 := Kp.refl (On b) w
  refine enter (n := 120) [.pointer (some ⟨b, 0, none⟩), .slice A (l.length) (c), .slice A2 (KN.length) (c2), .agg ([.int .i64 ((q + 1 : Nat) : Int), .int .i64 ((nn : Nat) : Int), .int .u32 ((ge : Nat) : Int)] : List Value).toArray] Tryd.func22 rfl rfl rfl ?_
  show Cw _ _ _ _ [(0, .pointer (some ⟨b, 0, none⟩)), (1, .slice A (l.length) (c)), (2, .slice A2 (KN.length) (c2)), (3, .agg ([.int .i64 ((q + 1 : Nat) : Int), .int .i64 ((nn : Nat) : Int), .int .u32 ((ge : Nat) : Int)] : List Value).toArray)] _
  refine C_seq (fun K1 hK1 => ?_)
  refine C_region ?_
  refine R_lo (lo_box (L := [.int .i64 ((q + 1 : Nat) : Int), .int .i64 ((nn : Nat) : Int), .int .u32 ((ge : Nat) : Int)]) rfl rfl) rfl ?_
  rintro _ w1 ⟨p0_0, rfl, N1⟩
  have k1 := N1.kp
  have kk1 := kk0.thenNo k1
  have ne_p0_0_b : p0_0 ≠ b := Nat.ne_of_gt (Nat.lt_of_lt_of_le hT.lt N1.le)
  have f_p0_0_1 : Bk w1 p0_0 ([.int .i64 ((q + 1 : Nat) : Int), .int .i64 ((nn : Nat) : Int), .int .u32 ((ge : Nat) : Int)]) 28 := N1.bk
  refine R_pu (pu_assign rfl) rfl ?_
  refine R_pu (pu_assign rfl) rfl ?_
  refine R_nil ?_
  refine X_then hK1 ?_
  refine C_seq (fun K2 hK2 => ?_)
  refine C_region ?_
  refine R_pu (pu_assign rfl) rfl ?_
  refine R_nil ?_
  refine X_then hK2 ?_
  refine C_seq (fun K3 hK3 => ?_)
  refine C_seq (fun K4 hK4 => ?_)
  refine C_region ?_
  refine R_pu (pu_assign rfl) rfl ?_
  refine R_nil ?_
  refine X_then hK4 ?_
  refine C_block ?_
  have o5 : Tb w1 b := (hT.no k1)
  have oo := O3.nil w1 w1.heap.size
  have zz := Nat.le_refl w1.heap.size
  refine C_loop (fun m_ l_ wr => ∃ j : Nat, ∃ Ao : Option Addr, ∃ co : Nat, (m_ = l.length - j) ∧ (l_ = [(0, .pointer (some ⟨b, 0, none⟩)), (1, .slice A (l.length) (c)), (2, .slice A2 (KN.length) (c2)), (7, .pointer (some ⟨p0_0, 0, none⟩)), (10, .slice Ao ((drL l KN q j).length) (co)), (11, .int .i64 ((j : Nat) : Int))]) ∧ (j ≤ l.length) ∧ (Kp (On b) w wr) ∧ (Bk wr p0_0 ([.int .i64 ((q + 1 : Nat) : Int), .int .i64 ((nn : Nat) : Int), .int .u32 ((ge : Nat) : Int)]) 28) ∧ (O3 wr w1.heap.size (.slice Ao ((drL l KN q j).length) (co)) (drL l KN q j) (.slice none (0) (0)) (([] : List Nat)) (.slice none (0) (0)) (([] : List Nat)) ∧ w1.heap.size ≤ (wr).heap.size) ∧ (Tb wr b)) (l.length - 0) [(0, .pointer (some ⟨b, 0, none⟩)), (1, .slice A (l.length) (c)), (2, .slice A2 (KN.length) (c2)), (7, .pointer (some ⟨p0_0, 0, none⟩)), (10, .slice none ((drL l KN q 0).length) (0)), (11, .int .i64 0)] (Sub.cons rfl (Sub.cons rfl (Sub.cons rfl (Sub.cons rfl (Sub.cons rfl (Sub.cons rfl (Sub.nil _))))))) ⟨0, none, 0, rfl, rfl, by omega, kk1, f_p0_0_1, ⟨by exact oo, zz⟩, o5⟩ ?_
  rintro _ _ w2 ⟨j, Ao, co, rfl, rfl, hj, kk2, f_p0_0_2, o3_2, T_2⟩
  refine C_seq (fun K6 hK6 => ?_)
  refine C_seq (fun K7 hK7 => ?_)
  refine C_region ?_
  refine R_pu (pu_move rfl) rfl ?_
  refine R_pu (pu_move rfl) rfl ?_
  refine R_pu (pu_len Tryd.underlying22 rfl) rfl ?_
  refine R_pu (pu_lss (p := j < l.length) rfl rfl (by omega)) rfl ?_
  refine R_nil ?_
  refine X_then hK7 ?_
  refine C_dec rfl (fun h26 => ?_) (fun h26 => ?_)
  · refine C_skip ?_
    refine X_then hK6 ?_
    refine C_seq (fun K8 hK8 => ?_)
    refine C_block ?_
    refine C_seq (fun K9 hK9 => ?_)
    refine C_region ?_
    refine R_pu (pu_assign rfl) rfl ?_
    refine R_pu (pu_assign rfl) rfl ?_
    refine R_nil ?_
    refine X_then hK9 ?_
    refine C_seq (fun K10 hK10 => ?_)
    refine C_seq (fun K11 hK11 => ?_)
    refine C_region ?_
    refine R_pu (pu_assign rfl) rfl ?_
    refine R_nil ?_
    refine X_then hK11 ?_
    refine C_block ?_
    refine C_loop (fun m_ l_ wr => ∃ i : Nat, ∃ Ax : Option Addr, ∃ cx : Nat, ∃ Ay : Option Addr, ∃ cy : Nat, (m_ = KN.length - i) ∧ (l_ = [(0, .pointer (some ⟨b, 0, none⟩)), (1, .slice A (l.length) (c)), (2, .slice A2 (KN.length) (c2)), (7, .pointer (some ⟨p0_0, 0, none⟩)), (10, .slice Ao ((drL l KN q j).length) (co)), (11, .int .i64 ((j : Nat) : Int)), (12, .slice Ax (((ixs KN).take i).length) (cx)), (13, .slice Ay (((ysB (ixs KN) (ysL KN j) (l.getD j 0)).take i).length) (cy)), (14, .int .i64 ((i : Nat) : Int))]) ∧ (i ≤ KN.length) ∧ (Kp (On b) w wr) ∧ (Bk wr p0_0 ([.int .i64 ((q + 1 : Nat) : Int), .int .i64 ((nn : Nat) : Int), .int .u32 ((ge : Nat) : Int)]) 28) ∧ (O3 wr w1.heap.size (.slice Ao ((drL l KN q j).length) (co)) (drL l KN q j) (.slice Ax (((ixs KN).take i).length) (cx)) ((ixs KN).take i) (.slice Ay (((ysB (ixs KN) (ysL KN j) (l.getD j 0)).take i).length) (cy)) ((ysB (ixs KN) (ysL KN j) (l.getD j 0)).take i) ∧ w1.heap.size ≤ (wr).heap.size) ∧ (Tb wr b)) (KN.length - 0) [(0, .pointer (some ⟨b, 0, none⟩)), (1, .slice A (l.length) (c)), (2, .slice A2 (KN.length) (c2)), (7, .pointer (some ⟨p0_0, 0, none⟩)), (10, .slice Ao ((drL l KN q j).length) (co)), (11, .int .i64 ((j : Nat) : Int)), (12, .slice none (((ixs KN).take 0).length) (0)), (13, .slice none (((ysB (ixs KN) (ysL KN j) (l.getD j 0)).take 0).length) (0)), (14, .int .i64 0)] (Sub.cons rfl (Sub.cons rfl (Sub.cons rfl (Sub.cons rfl (Sub.cons rfl (Sub.cons rfl (Sub.cons rfl (Sub.cons rfl (Sub.cons rfl (Sub.nil _)))))))))) ⟨0, none, 0, none, 0, rfl, rfl, by omega, kk2, f_p0_0_2, ⟨by exact o3_2.1, o3_2.2⟩, T_2⟩ ?_
    rintro _ _ w3 ⟨i, Ax, cx, Ay, cy, rfl, rfl, hi, kk3, f_p0_0_3, o3_3, T_3⟩
    refine C_seq (fun K12 hK12 => ?_)
    refine C_seq (fun K13 hK13 => ?_)
    refine C_region ?_
    refine R_pu (pu_move rfl) rfl ?_
    refine R_pu (pu_move rfl) rfl ?_
    refine R_pu (pu_len Tryd.underlying29 rfl) rfl ?_
    refine R_pu (pu_lss (p := i < KN.length) rfl rfl (by omega)) rfl ?_
    refine R_nil ?_
    refine X_then hK13 ?_
    refine C_dec rfl (fun h32 => ?_) (fun h32 => ?_)
    · refine C_skip ?_
      refine X_then hK12 ?_
      refine C_seq (fun K14 hK14 => ?_)
      refine C_block ?_
      refine C_seq (fun K15 hK15 => ?_)
      refine D_begin (fun W => Kp (On b) w W ∧ Bk W p0_0 ([.int .i64 ((q + 1 : Nat) : Int), .int .i64 ((nn : Nat) : Int), .int .u32 ((ge : Nat) : Int)]) 28 ∧ Tb W b) 25 rfl (by kernel_rfl) ⟨kk3.drew, f_p0_0_3.draw, T_3.draw⟩ ?_
      intro w4 k4 _
      have kk4 := kk3.thenNo k4
      refine D_take 0 rfl (by kernel_rfl) (by kernel_rfl) (by kernel_rfl) (fun _ _ _ h => h) rfl (fun W hS => pu_move rfl) ?_
      refine D_take 1 rfl (by kernel_rfl) (by kernel_rfl) (by kernel_rfl) (fun _ _ _ h => h) rfl (fun W hS => pu_move rfl) ?_
      refine D_take 2 rfl (by kernel_rfl) (by kernel_rfl) (by kernel_rfl) (fun _ _ _ h => h) rfl (fun W hS => pu_move rfl) ?_
      obtain ⟨s1, e_s1⟩ : ∃ q_, (KN)[i]? = some q_ := ⟨_, List.getElem?_eq_getElem (by first | omega | (simp; done) | (simp; omega))⟩
      have ok_s1 := HS.get e_s1
      have okb_s1 := ok_s1.bs
      have aw_okb_s1 := aw_HS.get e_s1
      have bi_s1 : s1.ix < 256 := ok_s1.ix
      refine D_take 3 rfl (by kernel_rfl) (by kernel_rfl) (by kernel_rfl) (fun _ _ _ h => h) rfl (fun W hS => pu_indexAddrH (HS.keptS hS.1 aw_HS) Tryd.underlying29 (by kernel_rfl) rfl rfl rfl rfl e_s1) ?_
      refine D_take 4 rfl (by kernel_rfl) (by kernel_rfl) (by kernel_rfl) (fun _ _ _ h => h) rfl (fun W hS => pu_fieldAddrH (off := 2) (HS.keptS hS.1 aw_HS) e_s1 (by kernel_rfl) rfl) ?_
      refine D_take 5 rfl (by kernel_rfl) (by kernel_rfl) (by kernel_rfl) (fun _ _ _ h => h) rfl (fun W hS => pu_loadH (HS.keptS hS.1 aw_HS) e_s1 (by kernel_rfl) rfl rfl) ?_
      refine D_take 6 rfl (by kernel_rfl) (by kernel_rfl) (by kernel_rfl) (fun _ _ _ h => h) rfl (fun W hS => pu_move rfl) ?_
      have l1 := (hal _ (List.mem_of_getElem? e_s1)).2
      refine D_take 7 rfl (by kernel_rfl) (by kernel_rfl) (by kernel_rfl) (fun _ _ _ h => h) rfl (fun W hS => pu_indexAddrB (m := j) (okb_s1.keptS hS.1 aw_okb_s1) Tryd.underlying22 (by kernel_rfl) rfl rfl rfl rfl (by omega)) ?_
      obtain ⟨m, e_m⟩ : ∃ q_, (s1.X)[j]? = some q_ := ⟨_, List.getElem?_eq_getElem (by omega)⟩
      have b_m : m < 256 := ((okb_s1.keptS kk4 aw_okb_s1)).lt e_m
      refine D_take 8 rfl (by kernel_rfl) (by kernel_rfl) (by kernel_rfl) (fun _ _ _ h => h) rfl (fun W hS => pu_loadB (okb_s1.keptS hS.1 aw_okb_s1) (by kernel_rfl) rfl e_m) ?_
      refine D_take 9 rfl (by kernel_rfl) (by kernel_rfl) (by kernel_rfl) (fun _ _ _ h => h) rfl (fun W hS => pu_move rfl) ?_
      refine D_take 10 rfl (by kernel_rfl) (by kernel_rfl) (by kernel_rfl) (fun _ _ _ h => h) rfl (fun W hS => pu_move rfl) ?_
      refine D_take 11 rfl (by kernel_rfl) (by kernel_rfl) (by kernel_rfl) (fun _ _ _ h => h) rfl (fun W hS => pu_indexAddrB (m := j) (HB.keptS hS.1 aw_HB) Tryd.underlying22 (by kernel_rfl) rfl rfl rfl rfl (by omega)) ?_
      obtain ⟨n, e_n⟩ : ∃ q_, (l)[j]? = some q_ := ⟨_, List.getElem?_eq_getElem (by omega)⟩
      have b_n : n < 256 := ((HB.keptS kk4 aw_HB)).lt e_n
      refine D_take 12 rfl (by kernel_rfl) (by kernel_rfl) (by kernel_rfl) (fun _ _ _ h => h) rfl (fun W hS => pu_loadB (HB.keptS hS.1 aw_HB) (by kernel_rfl) rfl e_n) ?_
      refine D_take 14 rfl (by kernel_rfl) (by kernel_rfl) (by kernel_rfl) (fun _ _ _ h => h) rfl (fun W hS => pu_move rfl) ?_
      refine D_take 15 rfl (by kernel_rfl) (by kernel_rfl) (by kernel_rfl) (fun _ _ _ h => h) rfl (fun W hS => pu_move rfl) ?_
      refine D_take 16 rfl (by kernel_rfl) (by kernel_rfl) (by kernel_rfl) (fun _ _ _ h => h) rfl (fun W hS => pu_indexAddrH (HS.keptS hS.1 aw_HS) Tryd.underlying29 (by kernel_rfl) rfl rfl rfl rfl e_s1) ?_
      refine D_take 17 rfl (by kernel_rfl) (by kernel_rfl) (by kernel_rfl) (fun _ _ _ h => h) rfl (fun W hS => pu_fieldAddrH (off := 0) (HS.keptS hS.1 aw_HS) e_s1 (by kernel_rfl) rfl) ?_
      refine D_take 18 rfl (by kernel_rfl) (by kernel_rfl) (by kernel_rfl) (fun _ _ _ h => h) rfl (fun W hS => pu_loadH (HS.keptS hS.1 aw_HS) e_s1 (by kernel_rfl) rfl rfl) ?_
      refine D_one 13 (by kernel_rfl) (Nx_lo rfl (lo_call (by kernel_rfl) rfl (gf_add m n b_m b_n _)) rfl ?_)
      rintro _ w5 ⟨rfl, k5⟩
      have kk5 := kk4.thenNo k5
      have f16 : Bk w5 p0_0 ([.int .i64 ((q + 1 : Nat) : Int), .int .i64 ((nn : Nat) : Int), .int .u32 ((ge : Nat) : Int)]) 28 := ((f_p0_0_3.no k4).no k5)
      have o17 : Tb w5 b := ((T_3.no k4).no k5)
      refine ⟨⟨kk5, f16, o17⟩, ?_⟩
      refine D_one 19 (by kernel_rfl) (Nx_lo rfl (lo_call (by kernel_rfl) rfl (gf_div b (m ^^^ n) s1.ix (xor_lt8 b_m b_n) ok_s1.ix (hal _ (List.mem_of_getElem? e_s1)).1 _ o17)) rfl ?_)
      rintro _ w6 ⟨rfl, T6, k6⟩
      have kk6 := kk5.trans k6 (fun i hi => .inl hi)
      have f18 : Bk w6 p0_0 ([.int .i64 ((q + 1 : Nat) : Int), .int .i64 ((nn : Nat) : Int), .int .u32 ((ge : Nat) : Int)]) 28 := (f16.on k6 ne_p0_0_b)
      refine ⟨⟨kk6, f18, T6⟩, ?_⟩
      refine D_take 20 rfl (by kernel_rfl) (by kernel_rfl) (by kernel_rfl) (fun _ _ _ h => h) rfl (fun W hS => pu_move rfl) ?_
      refine D_take 21 rfl (by kernel_rfl) (by kernel_rfl) (by kernel_rfl) (fun _ _ _ h => h) rfl (fun W hS => pu_extract rfl rfl) ?_
      refine D_take 22 rfl (by kernel_rfl) (by kernel_rfl) (by kernel_rfl) (fun _ _ _ h => h) rfl (fun W hS => pu_extract rfl rfl) ?_
      refine D_take 23 rfl (by kernel_rfl) (by kernel_rfl) (by kernel_rfl) (fun _ _ _ h => h) rfl (fun W hS => pu_assign rfl) ?_
      refine D_take 24 rfl (by kernel_rfl) (by kernel_rfl) (by kernel_rfl) (fun _ _ _ h => h) rfl (fun W hS => pu_assign rfl) ?_
      refine D_done (by kernel_rfl) ?_
      refine X_then hK15 ?_
      refine C_seq (fun K19 hK19 => ?_)
      refine C_seq (fun K20 hK20 => ?_)
      refine C_region ?_
      refine R_pu (pu_move rfl) rfl ?_
      refine R_pu (pu_neqnn (by kernel_rfl) rfl) rfl ?_
      refine R_nil ?_
      refine X_then hK20 ?_
      refine C_false rfl ?_
      refine C_skip ?_
      refine X_then hK19 ?_
      refine C_region ?_
      refine R_pu (pu_move rfl) rfl ?_
      refine R_pu (pu_move rfl) rfl ?_
      refine R_pu (pu_move rfl) rfl ?_
      refine R_pu (pu_indexAddrH (HS.keptS kk6 aw_HS) Tryd.underlying29 (by kernel_rfl) rfl rfl rfl rfl e_s1) rfl ?_
      refine R_pu (pu_fieldAddrH (off := 0) (HS.keptS kk6 aw_HS) e_s1 (by kernel_rfl) rfl) rfl ?_
      refine R_pu (pu_loadH (HS.keptS kk6 aw_HS) e_s1 (by kernel_rfl) rfl rfl) rfl ?_
      have ob21 := (((o3_3.1.keptNo k4).keptNo k5).on k6 (by have := o5.lt; omega))
      refine R_lo (lo_buildSlice (L := u8s ([s1.ix])) Tryd.underlying22 rfl (by kernel_rfl)) rfl ?_
      rintro _ w7 ⟨p12_6, rfl, N7⟩
      have k7 := N7.kp
      have kk7 := kk6.thenNo k7
      have ne_p12_6_p0_0 : p12_6 ≠ p0_0 := Nat.ne_of_gt (Nat.lt_of_lt_of_le f18.lt N7.le)
      have ne_p12_6_b : p12_6 ≠ b := Nat.ne_of_gt (Nat.lt_of_lt_of_le T6.lt N7.le)
      have f_p12_6_7 : Bk w7 p12_6 (u8s ([s1.ix])) 5 := N7.bk
      have ob22 := (ob21.keptNo k7)
      refine R_lo (lo_o3b (X := (ixs KN).take i) (Y := [s1.ix]) ob22 ob22.b.le.1 rfl rfl (show By 1 [s1.ix] from ⟨rfl, fun n hn => by rw [List.mem_singleton.1 hn]; exact ok_s1.ix⟩).1 (Bs.ofBk f_p12_6_7 (show By 1 [s1.ix] from ⟨rfl, fun n hn => by rw [List.mem_singleton.1 hn]; exact ok_s1.ix⟩)) (by rw [List.length_take, ixs_length]; simp; omega) (Nat.le_trans (Nat.le_trans (Nat.le_trans (Nat.le_trans o3_3.2 k4.size) k5.size) k6.size) k7.size)) rfl ?_
      rintro _ w8 ⟨A_8, c_8, rfl, q8, k8⟩
      have kk8 := kk7.trans k8 (fun i hi => .inr (Nat.le_trans (kk1).size hi))
      refine R_pu (pu_move rfl) rfl ?_
      refine R_pu (pu_move rfl) rfl ?_
      have f23 : Bk w8 p0_0 ([.int .i64 ((q + 1 : Nat) : Int), .int .i64 ((nn : Nat) : Int), .int .u32 ((ge : Nat) : Int)]) 28 := ((f18.no k7).kept k8 (by have := f_p0_0_1.lt; omega))
      have o24 : Tb w8 b := ((T6.no k7).kept k8 (by have := o5.lt; omega))
      refine R_lo (lo_buildSlice (L := u8s ([gdiv (m ^^^ n) s1.ix])) Tryd.underlying22 rfl (by kernel_rfl)) rfl ?_
      rintro _ w9 ⟨p12_10, rfl, N9⟩
      have k9 := N9.kp
      have kk9 := kk8.thenNo k9
      have ne_p12_10_p0_0 : p12_10 ≠ p0_0 := Nat.ne_of_gt (Nat.lt_of_lt_of_le f23.lt N9.le)
      have ne_p12_10_b : p12_10 ≠ b := Nat.ne_of_gt (Nat.lt_of_lt_of_le o24.lt N9.le)
      have f_p12_10_9 : Bk w9 p12_10 (u8s ([gdiv (m ^^^ n) s1.ix])) 5 := N9.bk
      have ob25 := (q8.keptNo k9)
      refine R_lo (lo_o3c (X := (ysB (ixs KN) (ysL KN j) (l.getD j 0)).take i) (Y := [gdiv (m ^^^ n) s1.ix]) ob25 ob25.c.le.1 rfl rfl (show By 1 [gdiv (m ^^^ n) s1.ix] from ⟨rfl, fun n hn => by rw [List.mem_singleton.1 hn]; exact (gdiv_lt _ _)⟩).1 (Bs.ofBk f_p12_10_9 (show By 1 [gdiv (m ^^^ n) s1.ix] from ⟨rfl, fun n hn => by rw [List.mem_singleton.1 hn]; exact (gdiv_lt _ _)⟩)) (by rw [List.length_take, ysB_length, ixs_length]; simp; omega) (Nat.le_trans (Nat.le_trans (Nat.le_trans (Nat.le_trans (Nat.le_trans (Nat.le_trans o3_3.2 k4.size) k5.size) k6.size) k7.size) k8.size) k9.size)) rfl ?_
      rintro _ w10 ⟨A_10, c_10, rfl, q10, k10⟩
      have kk10 := kk9.trans k10 (fun i hi => .inr (Nat.le_trans (kk1).size hi))
      refine R_pu (pu_assign rfl) rfl ?_
      refine R_pu (pu_assign rfl) rfl ?_
      refine R_nil ?_
      refine X_in_normal ?_
      refine X_then hK14 ?_
      refine C_region ?_
      refine R_pu (pu_move rfl) rfl ?_
      refine R_pu (pu_add (z := ((i + 1 : Nat) : Int)) rfl rfl (by rw [IntKind.wrap_i64]; omega)) rfl ?_
      refine R_pu (pu_assign rfl) rfl ?_
      refine R_nil ?_
      have f26 : Bk w10 p0_0 ([.int .i64 ((q + 1 : Nat) : Int), .int .i64 ((nn : Nat) : Int), .int .u32 ((ge : Nat) : Int)]) 28 := ((f23.no k9).kept k10 (by have := f_p0_0_1.lt; omega))
      have o27 : Tb w10 b := ((o24.no k9).kept k10 (by have := o5.lt; omega))
      have hv : (ysB (ixs KN) (ysL KN j) (l.getD j 0))[i]? = some (gdiv (m ^^^ n) s1.ix) := by have h := ysB_get (s := l.getD j 0) (ysL_get e_s1 e_m) (ixs_get e_s1); rwa [show m ^^^ l.getD j 0 = m ^^^ n by rw [getD_some e_n]] at h
      refine X_round (KN.length - (i + 1)) [(0, .pointer (some ⟨b, 0, none⟩)), (1, .slice A (l.length) (c)), (2, .slice A2 (KN.length) (c2)), (7, .pointer (some ⟨p0_0, 0, none⟩)), (10, .slice Ao ((drL l KN q j).length) (co)), (11, .int .i64 ((j : Nat) : Int)), (12, .slice A_8 (((ixs KN).take (i + 1)).length) (c_8)), (13, .slice A_10 (((ysB (ixs KN) (ysL KN j) (l.getD j 0)).take (i + 1)).length) (c_10)), (14, .int .i64 (((i + 1) : Nat) : Int))] (by omega) (Sub.cons rfl (Sub.cons rfl (Sub.cons rfl (Sub.cons rfl (Sub.cons rfl (Sub.cons rfl (Sub.consE rfl (by rw [take_snoc (ixs_get e_s1)]) (Sub.consE rfl (by rw [take_snoc hv]) (Sub.cons rfl (Sub.nil _)))))))))) ⟨i + 1, A_8, c_8, A_10, c_10, rfl, rfl, by omega, kk10, f26, ⟨by rw [← take_snoc (ixs_get e_s1), ← take_snoc hv]; exact q10, (Nat.le_trans (Nat.le_trans (Nat.le_trans (Nat.le_trans (Nat.le_trans (Nat.le_trans (Nat.le_trans o3_3.2 k4.size) k5.size) k6.size) k7.size) k8.size) k9.size) k10.size)⟩, o27⟩
    · refine C_exit ?_
      refine X_then_exit (X_then_exit (X_in_eq ?_))
      refine X_then hK10 ?_
      refine C_seq (fun K28 hK28 => ?_)
      refine C_region ?_
      refine R_pu (pu_assign rfl) rfl ?_
      refine R_nil ?_
      refine X_then hK28 ?_
      refine C_block ?_
      have hxe : (ixs KN).take i = ixs KN := List.take_of_length_le (by rw [ixs_length]; omega)
      have hye : (ysB (ixs KN) (ysL KN j) (l.getD j 0)).take i = yN (ixs KN) (ysB (ixs KN) (ysL KN j) (l.getD j 0)) 0 := List.take_of_length_le (by rw [ysB_length, ixs_length]; omega)
      refine C_loop (fun m_ l_ wr => ∃ k : Nat, ∃ Aq : Option Addr, ∃ cq : Nat, (m_ = q - k) ∧ (l_ = [(0, .pointer (some ⟨b, 0, none⟩)), (1, .slice A (l.length) (c)), (2, .slice A2 (KN.length) (c2)), (7, .pointer (some ⟨p0_0, 0, none⟩)), (10, .slice Aq ((drL l KN q j ++ drB (ixs KN) (ysL KN j) (l.getD j 0) k).length) (cq)), (11, .int .i64 ((j : Nat) : Int)), (12, .slice Ax ((ixs KN).length) (cx)), (13, .slice Ay ((yN (ixs KN) (ysB (ixs KN) (ysL KN j) (l.getD j 0)) k).length) (cy)), (17, .int .i64 ((k : Nat) : Int))]) ∧ (k ≤ q) ∧ (Kp (On b) w wr) ∧ (Bk wr p0_0 ([.int .i64 ((q + 1 : Nat) : Int), .int .i64 ((nn : Nat) : Int), .int .u32 ((ge : Nat) : Int)]) 28) ∧ (O3 wr w1.heap.size (.slice Aq ((drL l KN q j ++ drB (ixs KN) (ysL KN j) (l.getD j 0) k).length) (cq)) (drL l KN q j ++ drB (ixs KN) (ysL KN j) (l.getD j 0) k) (.slice Ax ((ixs KN).length) (cx)) (ixs KN) (.slice Ay ((yN (ixs KN) (ysB (ixs KN) (ysL KN j) (l.getD j 0)) k).length) (cy)) (yN (ixs KN) (ysB (ixs KN) (ysL KN j) (l.getD j 0)) k) ∧ w1.heap.size ≤ (wr).heap.size) ∧ (Tb wr b)) (q - 0) [(0, .pointer (some ⟨b, 0, none⟩)), (1, .slice A (l.length) (c)), (2, .slice A2 (KN.length) (c2)), (7, .pointer (some ⟨p0_0, 0, none⟩)), (10, .slice Ao ((drL l KN q j ++ drB (ixs KN) (ysL KN j) (l.getD j 0) 0).length) (co)), (11, .int .i64 ((j : Nat) : Int)), (12, .slice Ax ((ixs KN).length) (cx)), (13, .slice Ay ((yN (ixs KN) (ysB (ixs KN) (ysL KN j) (l.getD j 0)) 0).length) (cy)), (17, .int .i64 0)] (Sub.cons rfl (Sub.cons rfl (Sub.cons rfl (Sub.cons rfl (Sub.consE rfl (by rw [show drL l KN q j ++ drB (ixs KN) (ysL KN j) (l.getD j 0) 0 = drL l KN q j from List.append_nil _]) (Sub.cons rfl (Sub.consE rfl (by rw [hxe]) (Sub.consE rfl (by rw [hye]) (Sub.cons rfl (Sub.nil _)))))))))) ⟨0, Ao, co, rfl, rfl, by omega, kk3, f_p0_0_3, ⟨by have h := o3_3.1; rw [hxe, hye] at h; rw [show drL l KN q j ++ drB (ixs KN) (ysL KN j) (l.getD j 0) 0 = drL l KN q j from List.append_nil _]; exact h, o3_3.2⟩, T_3⟩ ?_
      rintro _ _ w11 ⟨k, Aq, cq, rfl, rfl, hk, kk11, f_p0_0_11, o3_11, T_11⟩
      refine C_seq (fun K29 hK29 => ?_)
      refine C_seq (fun K30 hK30 => ?_)
      refine C_region ?_
      refine R_pu (pu_move rfl) rfl ?_
      refine R_pu (pu_fieldAddr (off := 0) (o' := 0) (by kernel_rfl) rfl rfl) rfl ?_
      refine R_pu (pu_loadK f_p0_0_11 (by kernel_rfl) rfl rfl) rfl ?_
      refine R_pu (pu_sub (z := ((q : Nat) : Int)) rfl rfl (by rw [IntKind.wrap_i64]; omega)) rfl ?_
      refine R_pu (pu_lss (p := k < q) rfl rfl (by omega)) rfl ?_
      refine R_nil ?_
      refine X_then hK30 ?_
      refine C_dec rfl (fun h76 => ?_) (fun h76 => ?_)
      · refine C_skip ?_
        refine X_then hK29 ?_
        refine C_seq (fun K31 hK31 => ?_)
        refine C_block ?_
        refine C_seq (fun K32 hK32 => ?_)
        refine C_region ?_
        refine R_pu (pu_move rfl) rfl ?_
        refine R_pu (pu_move rfl) rfl ?_
        refine R_pu (pu_move rfl) rfl ?_
        refine R_lo (lo_call (by kernel_rfl) rfl (zero_ b Ax (ixs KN) cx Ay (yN (ixs KN) (ysB (ixs KN) (ysL KN j) (l.getD j 0)) k) cy _ o3_11.1.b.bs o3_11.1.b.le.2 o3_11.1.c.bs o3_11.1.c.le.2 ⟨hdi, by rw [yN_length (ysB_length _ _ _)], by rw [ixs_length]; omega⟩ (Aw.ofOb o3_11.1.b (by have := o5.lt; omega)) (Aw.ofOb o3_11.1.c (by have := o5.lt; omega)) T_11)) rfl ?_
        rintro _ w12 ⟨rfl, T12, k12⟩
        have kk12 := kk11.trans k12 (fun i hi => .inl hi)
        refine R_pu (pu_move rfl) rfl ?_
        refine R_pu (pu_extract rfl rfl) rfl ?_
        refine R_pu (pu_extract rfl rfl) rfl ?_
        refine R_pu (pu_assign rfl) rfl ?_
        refine R_pu (pu_assign rfl) rfl ?_
        refine R_nil ?_
        refine X_then hK32 ?_
        refine C_seq (fun K33 hK33 => ?_)
        refine C_seq (fun K34 hK34 => ?_)
        refine C_region ?_
        refine R_pu (pu_move rfl) rfl ?_
        refine R_pu (pu_not rfl) rfl ?_
        refine R_nil ?_
        refine X_then hK34 ?_
        refine C_false rfl ?_
        refine C_skip ?_
        refine X_then hK33 ?_
        refine C_seq (fun K35 hK35 => ?_)
        have hj1 := hjq j (by omega)
        refine C_region ?_
        refine R_pu (pu_move rfl) rfl ?_
        refine R_pu (pu_move rfl) rfl ?_
        have f36 : Bk w12 p0_0 ([.int .i64 ((q + 1 : Nat) : Int), .int .i64 ((nn : Nat) : Int), .int .u32 ((ge : Nat) : Int)]) 28 := (f_p0_0_11.on k12 ne_p0_0_b)
        have ob37 := (o3_11.1.on k12 (by have := o5.lt; omega))
        refine R_lo (lo_buildSlice (L := u8s ([ipN (ixs KN) (yN (ixs KN) (ysB (ixs KN) (ysL KN j) (l.getD j 0)) k) 0 (ixs KN).length])) Tryd.underlying22 rfl (by kernel_rfl)) rfl ?_
        rintro _ w13 ⟨p19_2, rfl, N13⟩
        have k13 := N13.kp
        have kk13 := kk12.thenNo k13
        have ne_p19_2_p0_0 : p19_2 ≠ p0_0 := Nat.ne_of_gt (Nat.lt_of_lt_of_le f36.lt N13.le)
        have ne_p19_2_b : p19_2 ≠ b := Nat.ne_of_gt (Nat.lt_of_lt_of_le T12.lt N13.le)
        have f_p19_2_13 : Bk w13 p19_2 (u8s ([ipN (ixs KN) (yN (ixs KN) (ysB (ixs KN) (ysL KN j) (l.getD j 0)) k) 0 (ixs KN).length])) 5 := N13.bk
        have ob38 := (ob37.keptNo k13)
        refine R_lo (lo_o3a (X := drL l KN q j ++ drB (ixs KN) (ysL KN j) (l.getD j 0) k) (Y := [ipN (ixs KN) (yN (ixs KN) (ysB (ixs KN) (ysL KN j) (l.getD j 0)) k) 0 (ixs KN).length]) ob38 ob38.a.le.1 rfl rfl (show By 1 [ipN (ixs KN) (yN (ixs KN) (ysB (ixs KN) (ysL KN j) (l.getD j 0)) k) 0 (ixs KN).length] from ⟨rfl, fun n hn => by rw [List.mem_singleton.1 hn]; exact (ipN_lt _ _ _ _)⟩).1 (Bs.ofBk f_p19_2_13 (show By 1 [ipN (ixs KN) (yN (ixs KN) (ysB (ixs KN) (ysL KN j) (l.getD j 0)) k) 0 (ixs KN).length] from ⟨rfl, fun n hn => by rw [List.mem_singleton.1 hn]; exact (ipN_lt _ _ _ _)⟩)) (by rw [List.length_append, drL_length, drB_length]; simp; omega) (Nat.le_trans (Nat.le_trans o3_11.2 k12.size) k13.size)) rfl ?_
        rintro _ w14 ⟨A_14, c_14, rfl, q14, k14⟩
        have kk14 := kk13.trans k14 (fun i hi => .inr (Nat.le_trans (kk1).size hi))
        refine R_pu (pu_assign rfl) rfl ?_
        refine R_nil ?_
        refine X_then hK35 ?_
        refine C_seq (fun K39 hK39 => ?_)
        refine C_region ?_
        refine R_pu (pu_assign rfl) rfl ?_
        refine R_nil ?_
        refine X_then hK39 ?_
        refine C_block ?_
        have f40 : Bk w14 p0_0 ([.int .i64 ((q + 1 : Nat) : Int), .int .i64 ((nn : Nat) : Int), .int .u32 ((ge : Nat) : Int)]) 28 := ((f36.no k13).kept k14 (by have := f_p0_0_1.lt; omega))
        have o41 : Tb w14 b := ((T12.no k13).kept k14 (by have := o5.lt; omega))
        refine C_loop (fun m_ l_ wr => ∃ i2 : Nat, (m_ = (yN (ixs KN) (ysB (ixs KN) (ysL KN j) (l.getD j 0)) k).length - i2) ∧ (l_ = [(0, .pointer (some ⟨b, 0, none⟩)), (1, .slice A (l.length) (c)), (2, .slice A2 (KN.length) (c2)), (7, .pointer (some ⟨p0_0, 0, none⟩)), (10, .slice A_14 (((drL l KN q j ++ drB (ixs KN) (ysL KN j) (l.getD j 0) k) ++ ([ipN (ixs KN) (yN (ixs KN) (ysB (ixs KN) (ysL KN j) (l.getD j 0)) k) 0 (ixs KN).length])).length) (c_14)), (11, .int .i64 ((j : Nat) : Int)), (12, .slice Ax ((ixs KN).length) (cx)), (13, .slice Ay ((yN (ixs KN) (ysB (ixs KN) (ysL KN j) (l.getD j 0)) k).length) (cy)), (17, .int .i64 ((k : Nat) : Int)), (18, .int .u8 ((ipN (ixs KN) (yN (ixs KN) (ysB (ixs KN) (ysL KN j) (l.getD j 0)) k) 0 (ixs KN).length : Nat) : Int)), (20, .int .i64 ((i2 : Nat) : Int))]) ∧ (i2 ≤ (yN (ixs KN) (ysB (ixs KN) (ysL KN j) (l.getD j 0)) k).length) ∧ (Kp (On b) w wr) ∧ (Bk wr p0_0 ([.int .i64 ((q + 1 : Nat) : Int), .int .i64 ((nn : Nat) : Int), .int .u32 ((ge : Nat) : Int)]) 28) ∧ (O3 wr w1.heap.size (.slice A_14 (((drL l KN q j ++ drB (ixs KN) (ysL KN j) (l.getD j 0) k) ++ ([ipN (ixs KN) (yN (ixs KN) (ysB (ixs KN) (ysL KN j) (l.getD j 0)) k) 0 (ixs KN).length])).length) (c_14)) ((drL l KN q j ++ drB (ixs KN) (ysL KN j) (l.getD j 0) k) ++ ([ipN (ixs KN) (yN (ixs KN) (ysB (ixs KN) (ysL KN j) (l.getD j 0)) k) 0 (ixs KN).length])) (.slice Ax ((ixs KN).length) (cx)) (ixs KN) (.slice Ay ((yN (ixs KN) (ysB (ixs KN) (ysL KN j) (l.getD j 0)) k).length) (cy)) ((yN (ixs KN) (ysB (ixs KN) (ysL KN j) (l.getD j 0)) (k + 1)).take i2 ++ (yN (ixs KN) (ysB (ixs KN) (ysL KN j) (l.getD j 0)) k).drop i2) ∧ w1.heap.size ≤ (wr).heap.size) ∧ (Tb wr b)) ((yN (ixs KN) (ysB (ixs KN) (ysL KN j) (l.getD j 0)) k).length - 0) [(0, .pointer (some ⟨b, 0, none⟩)), (1, .slice A (l.length) (c)), (2, .slice A2 (KN.length) (c2)), (7, .pointer (some ⟨p0_0, 0, none⟩)), (10, .slice A_14 (((drL l KN q j ++ drB (ixs KN) (ysL KN j) (l.getD j 0) k) ++ ([ipN (ixs KN) (yN (ixs KN) (ysB (ixs KN) (ysL KN j) (l.getD j 0)) k) 0 (ixs KN).length])).length) (c_14)), (11, .int .i64 ((j : Nat) : Int)), (12, .slice Ax ((ixs KN).length) (cx)), (13, .slice Ay ((yN (ixs KN) (ysB (ixs KN) (ysL KN j) (l.getD j 0)) k).length) (cy)), (17, .int .i64 ((k : Nat) : Int)), (18, .int .u8 ((ipN (ixs KN) (yN (ixs KN) (ysB (ixs KN) (ysL KN j) (l.getD j 0)) k) 0 (ixs KN).length : Nat) : Int)), (20, .int .i64 0)] (Sub.cons rfl (Sub.cons rfl (Sub.cons rfl (Sub.cons rfl (Sub.cons rfl (Sub.cons rfl (Sub.cons rfl (Sub.cons rfl (Sub.cons rfl (Sub.cons rfl (Sub.cons rfl (Sub.nil _)))))))))))) ⟨0, rfl, rfl, by omega, kk14, f40, ⟨by exact q14, (Nat.le_trans (Nat.le_trans (Nat.le_trans o3_11.2 k12.size) k13.size) k14.size)⟩, o41⟩ ?_
        rintro _ _ w15 ⟨i2, rfl, rfl, hi2, kk15, f_p0_0_15, o3_15, T_15⟩
        have hyl := yN_length (m := k) (ysB_length (ixs KN) (ysL KN j) (l.getD j 0))
        have hyl1 := yN_length (m := k + 1) (ysB_length (ixs KN) (ysL KN j) (l.getD j 0))
        have hxl := ixs_length KN
        refine C_seq (fun K42 hK42 => ?_)
        refine C_seq (fun K43 hK43 => ?_)
        refine C_region ?_
        refine R_pu (pu_move rfl) rfl ?_
        refine R_pu (pu_move rfl) rfl ?_
        refine R_pu (pu_len Tryd.underlying22 rfl) rfl ?_
        refine R_pu (pu_lss (p := i2 < ((yN (ixs KN) (ysB (ixs KN) (ysL KN j) (l.getD j 0)) k).length)) rfl rfl (by omega)) rfl ?_
        refine R_nil ?_
        refine X_then hK43 ?_
        refine C_dec rfl (fun h95 => ?_) (fun h95 => ?_)
        · refine C_skip ?_
          refine X_then hK42 ?_
          refine C_seq (fun K44 hK44 => ?_)
          refine C_block ?_
          refine C_seq (fun K45 hK45 => ?_)
          obtain ⟨y, e_y⟩ : ∃ y, (yN (ixs KN) (ysB (ixs KN) (ysL KN j) (l.getD j 0)) k)[i2]? = some y := ⟨_, List.getElem?_eq_getElem (by omega)⟩
          obtain ⟨x, e_x⟩ : ∃ x, (ixs KN)[i2]? = some x := ⟨_, List.getElem?_eq_getElem (by omega)⟩
          have b_y : y < 256 := yN_bl (ysB_bl _ _ _) k _ (List.mem_of_getElem? e_y)
          have b_x : x < 256 := ixs_bl HS _ (List.mem_of_getElem? e_x)
          have hx0 : x ≠ 0 := ixs_ne (fun s hs => (hal s hs).1) e_x
          refine D_begin (fun W => Kp (On b) w W ∧ Bk W p0_0 ([.int .i64 ((q + 1 : Nat) : Int), .int .i64 ((nn : Nat) : Int), .int .u32 ((ge : Nat) : Int)]) 28 ∧ Tb W b ∧ O3 W w1.heap.size (.slice A_14 (((drL l KN q j ++ drB (ixs KN) (ysL KN j) (l.getD j 0) k) ++ ([ipN (ixs KN) (yN (ixs KN) (ysB (ixs KN) (ysL KN j) (l.getD j 0)) k) 0 (ixs KN).length])).length) (c_14)) ((drL l KN q j ++ drB (ixs KN) (ysL KN j) (l.getD j 0) k) ++ ([ipN (ixs KN) (yN (ixs KN) (ysB (ixs KN) (ysL KN j) (l.getD j 0)) k) 0 (ixs KN).length])) (.slice Ax ((ixs KN).length) (cx)) (ixs KN) (.slice Ay ((yN (ixs KN) (ysB (ixs KN) (ysL KN j) (l.getD j 0)) k).length) (cy)) ((yN (ixs KN) (ysB (ixs KN) (ysL KN j) (l.getD j 0)) (k + 1)).take i2 ++ (yN (ixs KN) (ysB (ixs KN) (ysL KN j) (l.getD j 0)) k).drop i2)) 17 rfl (by kernel_rfl) ⟨kk15.drew, f_p0_0_15.draw, T_15.draw, o3_15.1.draw⟩ ?_
          intro w16 k16 _
          have kk16 := kk15.thenNo k16
          refine D_take 0 rfl (by kernel_rfl) (by kernel_rfl) (by kernel_rfl) (fun _ _ _ h => h) rfl (fun W hS => pu_move rfl) ?_
          refine D_take 1 rfl (by kernel_rfl) (by kernel_rfl) (by kernel_rfl) (fun _ _ _ h => h) rfl (fun W hS => pu_move rfl) ?_
          refine D_take 2 rfl (by kernel_rfl) (by kernel_rfl) (by kernel_rfl) (fun _ _ _ h => h) rfl (fun W hS => pu_move rfl) ?_
          refine D_take 3 rfl (by kernel_rfl) (by kernel_rfl) (by kernel_rfl) (fun _ _ _ h => h) rfl (fun W hS => pu_indexAddrB (m := i2) hS.2.2.2.c.bs Tryd.underlying22 (by kernel_rfl) rfl hS.2.2.2.c.le.1 rfl rfl (by rw [List.length_append, List.length_take, List.length_drop]; omega)) ?_
          refine D_take 4 rfl (by kernel_rfl) (by kernel_rfl) (by kernel_rfl) (fun _ _ _ h => h) rfl (fun W hS => pu_loadB hS.2.2.2.c.bs (by kernel_rfl) rfl ((mix_get (yN_length (ysB_length _ _ _) _) (yN_length (ysB_length _ _ _) _) (by omega)).trans e_y)) ?_
          refine D_take 5 rfl (by kernel_rfl) (by kernel_rfl) (by kernel_rfl) (fun _ _ _ h => h) rfl (fun W hS => pu_move rfl) ?_
          refine D_take 7 rfl (by kernel_rfl) (by kernel_rfl) (by kernel_rfl) (fun _ _ _ h => h) rfl (fun W hS => pu_move rfl) ?_
          refine D_take 8 rfl (by kernel_rfl) (by kernel_rfl) (by kernel_rfl) (fun _ _ _ h => h) rfl (fun W hS => pu_move rfl) ?_
          refine D_take 9 rfl (by kernel_rfl) (by kernel_rfl) (by kernel_rfl) (fun _ _ _ h => h) rfl (fun W hS => pu_indexAddrB (m := i2) hS.2.2.2.b.bs Tryd.underlying22 (by kernel_rfl) rfl rfl rfl rfl (by omega)) ?_
          refine D_take 10 rfl (by kernel_rfl) (by kernel_rfl) (by kernel_rfl) (fun _ _ _ h => h) rfl (fun W hS => pu_loadB hS.2.2.2.b.bs (by kernel_rfl) rfl e_x) ?_
          refine D_one 6 (by kernel_rfl) (Nx_lo rfl (lo_call (by kernel_rfl) rfl (gf_add y (ipN (ixs KN) (yN (ixs KN) (ysB (ixs KN) (ysL KN j) (l.getD j 0)) k) 0 (ixs KN).length) b_y (ipN_lt _ _ _ _) _)) rfl ?_)
          rintro _ w17 ⟨rfl, k17⟩
          have kk17 := kk16.thenNo k17
          have f46 : Bk w17 p0_0 ([.int .i64 ((q + 1 : Nat) : Int), .int .i64 ((nn : Nat) : Int), .int .u32 ((ge : Nat) : Int)]) 28 := ((f_p0_0_15.no k16).no k17)
          have o47 : Tb w17 b := ((T_15.no k16).no k17)
          have ob48 := ((o3_15.1.keptNo k16).keptNo k17)
          refine ⟨⟨kk17, f46, o47, ob48⟩, ?_⟩
          refine D_one 11 (by kernel_rfl) (Nx_lo rfl (lo_call (by kernel_rfl) rfl (gf_div b (y ^^^ (ipN (ixs KN) (yN (ixs KN) (ysB (ixs KN) (ysL KN j) (l.getD j 0)) k) 0 (ixs KN).length)) x (xor_lt8 b_y (ipN_lt _ _ _ _)) b_x hx0 _ o47)) rfl ?_)
          rintro _ w18 ⟨rfl, T18, k18⟩
          have kk18 := kk17.trans k18 (fun i hi => .inl hi)
          have f49 : Bk w18 p0_0 ([.int .i64 ((q + 1 : Nat) : Int), .int .i64 ((nn : Nat) : Int), .int .u32 ((ge : Nat) : Int)]) 28 := (f46.on k18 ne_p0_0_b)
          have ob50 := (ob48.on k18 (by have := o5.lt; omega))
          refine ⟨⟨kk18, f49, T18, ob50⟩, ?_⟩
          refine D_take 12 rfl (by kernel_rfl) (by kernel_rfl) (by kernel_rfl) (fun _ _ _ h => h) rfl (fun W hS => pu_move rfl) ?_
          refine D_take 13 rfl (by kernel_rfl) (by kernel_rfl) (by kernel_rfl) (fun _ _ _ h => h) rfl (fun W hS => pu_extract rfl rfl) ?_
          refine D_take 14 rfl (by kernel_rfl) (by kernel_rfl) (by kernel_rfl) (fun _ _ _ h => h) rfl (fun W hS => pu_extract rfl rfl) ?_
          refine D_take 15 rfl (by kernel_rfl) (by kernel_rfl) (by kernel_rfl) (fun _ _ _ h => h) rfl (fun W hS => pu_assign rfl) ?_
          refine D_take 16 rfl (by kernel_rfl) (by kernel_rfl) (by kernel_rfl) (fun _ _ _ h => h) rfl (fun W hS => pu_assign rfl) ?_
          refine D_done (by kernel_rfl) ?_
          refine X_then hK45 ?_
          refine C_seq (fun K51 hK51 => ?_)
          refine C_seq (fun K52 hK52 => ?_)
          refine C_region ?_
          refine R_pu (pu_move rfl) rfl ?_
          refine R_pu (pu_neqnn (by kernel_rfl) rfl) rfl ?_
          refine R_nil ?_
          refine X_then hK52 ?_
          refine C_false rfl ?_
          refine C_skip ?_
          refine X_then hK51 ?_
          refine C_region ?_
          refine R_pu (pu_move rfl) rfl ?_
          refine R_pu (pu_move rfl) rfl ?_
          refine R_pu (pu_move rfl) rfl ?_
          refine R_pu (pu_indexAddrB (m := i2) ob50.c.bs Tryd.underlying22 (by kernel_rfl) rfl ob50.c.le.1 rfl rfl (by rw [List.length_append, List.length_take, List.length_drop]; omega)) rfl ?_
          refine R_lo0 (lo_o3s ob50 (by kernel_rfl) rfl rfl (by rw [ob50.c.le.1]; omega) (gdiv_lt _ _)) ?_
          rintro _ w19 kf19
          obtain ⟨q19, k19⟩ := kf19
          have kk19 := kk18.trans k19 (fun i hi => .inr (Nat.le_trans (kk1).size hi))
          refine R_nil ?_
          refine X_in_normal ?_
          refine X_then hK44 ?_
          refine C_region ?_
          refine R_pu (pu_move rfl) rfl ?_
          refine R_pu (pu_add (z := ((i2 + 1 : Nat) : Int)) rfl rfl (by rw [IntKind.wrap_i64]; omega)) rfl ?_
          refine R_pu (pu_assign rfl) rfl ?_
          refine R_nil ?_
          have f53 : Bk w19 p0_0 ([.int .i64 ((q + 1 : Nat) : Int), .int .i64 ((nn : Nat) : Int), .int .u32 ((ge : Nat) : Int)]) 28 := (f49.kept k19 (by have := f_p0_0_1.lt; omega))
          have o54 : Tb w19 b := (T18.kept k19 (by have := o5.lt; omega))
          refine X_round ((yN (ixs KN) (ysB (ixs KN) (ysL KN j) (l.getD j 0)) k).length - (i2 + 1)) [(0, .pointer (some ⟨b, 0, none⟩)), (1, .slice A (l.length) (c)), (2, .slice A2 (KN.length) (c2)), (7, .pointer (some ⟨p0_0, 0, none⟩)), (10, .slice A_14 (((drL l KN q j ++ drB (ixs KN) (ysL KN j) (l.getD j 0) k) ++ ([ipN (ixs KN) (yN (ixs KN) (ysB (ixs KN) (ysL KN j) (l.getD j 0)) k) 0 (ixs KN).length])).length) (c_14)), (11, .int .i64 ((j : Nat) : Int)), (12, .slice Ax ((ixs KN).length) (cx)), (13, .slice Ay ((yN (ixs KN) (ysB (ixs KN) (ysL KN j) (l.getD j 0)) k).length) (cy)), (17, .int .i64 ((k : Nat) : Int)), (18, .int .u8 ((ipN (ixs KN) (yN (ixs KN) (ysB (ixs KN) (ysL KN j) (l.getD j 0)) k) 0 (ixs KN).length : Nat) : Int)), (20, .int .i64 (((i2 + 1) : Nat) : Int))] (by omega) (Sub.cons rfl (Sub.cons rfl (Sub.cons rfl (Sub.cons rfl (Sub.cons rfl (Sub.cons rfl (Sub.cons rfl (Sub.cons rfl (Sub.cons rfl (Sub.cons rfl (Sub.cons rfl (Sub.nil _)))))))))))) ⟨i2 + 1, rfl, rfl, by omega, kk19, f53, ⟨by rw [← mix_set (yN_get e_x e_y) (by rw [yN_length (ysB_length _ _ _)]) (by rw [yN_length (ysB_length _ _ _)])]; exact q19, (Nat.le_trans (Nat.le_trans (Nat.le_trans (Nat.le_trans o3_15.2 k16.size) k17.size) k18.size) k19.size)⟩, o54⟩
        · refine C_exit ?_
          refine X_then_exit (X_then_exit (X_in_eq ?_))
          refine X_in_normal ?_
          refine X_then hK31 ?_
          refine C_region ?_
          refine R_pu (pu_move rfl) rfl ?_
          refine R_pu (pu_add (z := ((k + 1 : Nat) : Int)) rfl rfl (by rw [IntKind.wrap_i64]; omega)) rfl ?_
          refine R_pu (pu_assign rfl) rfl ?_
          refine R_nil ?_
          refine X_round (q - (k + 1)) [(0, .pointer (some ⟨b, 0, none⟩)), (1, .slice A (l.length) (c)), (2, .slice A2 (KN.length) (c2)), (7, .pointer (some ⟨p0_0, 0, none⟩)), (10, .slice A_14 ((drL l KN q j ++ drB (ixs KN) (ysL KN j) (l.getD j 0) (k + 1)).length) (c_14)), (11, .int .i64 ((j : Nat) : Int)), (12, .slice Ax ((ixs KN).length) (cx)), (13, .slice Ay ((yN (ixs KN) (ysB (ixs KN) (ysL KN j) (l.getD j 0)) (k + 1)).length) (cy)), (17, .int .i64 (((k + 1) : Nat) : Int))] (by omega) (Sub.cons rfl (Sub.cons rfl (Sub.cons rfl (Sub.cons rfl (Sub.consE rfl (by rw [← drB_snoc, ← List.append_assoc]; rfl) (Sub.cons rfl (Sub.cons rfl (Sub.consE rfl (by rw [yN_length (ysB_length _ _ _), yN_length (ysB_length _ _ _)]) (Sub.cons rfl (Sub.nil _)))))))))) ⟨k + 1, A_14, c_14, rfl, rfl, by omega, kk15, f_p0_0_15, ⟨by have h := o3_15.1; rw [mix_end (by rw [yN_length (ysB_length _ _ _), ixs_length]; omega) (by rw [yN_length (ysB_length _ _ _), ixs_length]; omega)] at h; rw [← drB_snoc, ← List.append_assoc, show (yN (ixs KN) (ysB (ixs KN) (ysL KN j) (l.getD j 0)) (k + 1)).length = (yN (ixs KN) (ysB (ixs KN) (ysL KN j) (l.getD j 0)) k).length by rw [yN_length (ysB_length _ _ _), yN_length (ysB_length _ _ _)]]; exact h, o3_15.2⟩, T_15⟩
      · refine C_exit ?_
        refine X_then_exit (X_then_exit (X_in_eq ?_))
        refine X_in_normal ?_
        refine X_then hK8 ?_
        refine C_region ?_
        refine R_pu (pu_move rfl) rfl ?_
        refine R_pu (pu_add (z := ((j + 1 : Nat) : Int)) rfl rfl (by rw [IntKind.wrap_i64]; omega)) rfl ?_
        refine R_pu (pu_assign rfl) rfl ?_
        refine R_nil ?_
        refine X_round (l.length - (j + 1)) [(0, .pointer (some ⟨b, 0, none⟩)), (1, .slice A (l.length) (c)), (2, .slice A2 (KN.length) (c2)), (7, .pointer (some ⟨p0_0, 0, none⟩)), (10, .slice Aq ((drL l KN q (j + 1)).length) (cq)), (11, .int .i64 (((j + 1) : Nat) : Int))] (by omega) (Sub.cons rfl (Sub.cons rfl (Sub.cons rfl (Sub.cons rfl (Sub.consE rfl (by rw [← drL_succ, show q = k by omega]) (Sub.cons rfl (Sub.nil _))))))) ⟨j + 1, Aq, cq, rfl, rfl, by omega, kk11, f_p0_0_11, ⟨by rw [← drL_succ, show drB (ixs KN) (ysL KN j) (l.getD j 0) q = drB (ixs KN) (ysL KN j) (l.getD j 0) k by rw [show k = q by omega]]; exact (o3_11.1).drop, o3_11.2⟩, T_11⟩
  · refine C_exit ?_
    refine X_then_exit (X_then_exit (X_in_eq ?_))
    refine X_then hK3 ?_
    refine C_seq (fun K55 hK55 => ?_)
    refine C_region ?_
    refine R_pu (pu_move rfl) rfl ?_
    refine R_pu (pu_assign rfl) rfl ?_
    refine R_pu (pu_assign rfl) rfl ?_
    refine R_nil ?_
    refine X_then hK55 ?_
    refine C_ret ?_
    exact X_ret2 (.inl rfl) rfl rfl rfl (by have hje : j = l.length := (by omega); subst hje; exact ⟨Ao, co, rfl, o3_2.1.a.low ((kk1).size), T_2, kk2⟩)
end Go.Proofs.YtjbdimfpjbmggaaDoor
