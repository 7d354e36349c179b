/- The body of ShamirJoins, for one kind of parts. -/
import Derived.Test.YtjbdimfpjbmggaaDoorSs
set_option linter.unusedVariables false
set_option linter.unusedSimpArgs false
namespace Go.Proofs.YtjbdimfpjbmggaaDoor
open Go.RowKit Gm
set_option maxRecDepth 100000 in
set_option maxHeartbeats 2000000 in
theorem shamirJoins_ok (A : Option Addr) (L : List Shr) (c : Nat) (q nn N : Nat) (ge : Nat) (hge : ge < 4294967296) (ix : Nat) (hix : ix < 256) (w : World) (HS : Ss w A L) (hc : L.length ≤ c) (hcm : c ≤ maxLen) (hG : Gt w) (hk : (2 ≤ q + 1 ∧ q + 1 ≤ nn ∧ nn ≤ 255) ∧ q + 1 ≤ L.length ∧ Good (L.take (q + 1)) ge N) : Ret Tryd.prog 6 #[.slice A (L.length) (c), .agg ([.int .i64 ((q + 1 : Nat) : Int), .int .i64 ((nn : Nat) : Int), .int .u32 ((ge : Nat) : Int)] : List Value).toArray, .int .u8 ((ix : Nat) : Int)] w (fun v w' => v = .bool true ∧ Kp No w w') := by
  have hs : L.length < 9223372036854775808 := by have := hcm; unfold maxLen at this; omega
  have kk0 := Kp.refl No w
  refine enter (n := 161) [.slice A (L.length) (c), .agg ([.int .i64 ((q + 1 : Nat) : Int), .int .i64 ((nn : Nat) : Int), .int .u32 ((ge : Nat) : Int)] : List Value).toArray, .int .u8 ((ix : Nat) : Int)] Tryd.func6 rfl rfl rfl ?_
  show Cw _ _ _ _ [(0, .slice A (L.length) (c)), (1, .agg ([.int .i64 ((q + 1 : Nat) : Int), .int .i64 ((nn : Nat) : Int), .int .u32 ((ge : Nat) : Int)] : List Value).toArray), (2, .int .u8 ((ix : Nat) : Int))] _
  refine C_seq (fun K1 hK1 => ?_)
  refine C_region ?_
  refine R_lo (lo_box (L := [.int .i64 ((q + 1 : Nat) : Int), .int .i64 ((nn : Nat) : Int), .int .u32 ((ge : Nat) : Int)]) rfl rfl) rfl ?_
  rintro _ w1 ⟨p0_0, rfl, N1⟩
  have k1 := N1.kp
  have kk1 := kk0.then_ k1
  have ne_p0_0_0 : p0_0 ≠ 0 := Nat.ne_of_gt (Nat.lt_of_lt_of_le hG.lt N1.le)
  have f_p0_0_1 : Bk w1 p0_0 ([.int .i64 ((q + 1 : Nat) : Int), .int .i64 ((nn : Nat) : Int), .int .u32 ((ge : Nat) : Int)]) 25 := N1.bk
  refine R_pu (pu_assign rfl) rfl ?_
  refine R_nil ?_
  refine X_then hK1 ?_
  refine C_cut (fun l_ wr => (l_ = [(0, .slice A (L.length) (c)), (2, .int .u8 ((ix : Nat) : Int)), (4, .pointer (some ⟨p0_0, 0, none⟩))]) ∧ (L.length ≤ 40) ∧ (Kp No w wr) ∧ (Bk wr p0_0 ([.int .i64 ((q + 1 : Nat) : Int), .int .i64 ((nn : Nat) : Int), .int .u32 ((ge : Nat) : Int)]) 25) ∧ (Gt wr)) (fun K_ hK_ => ?_) ?_
  · refine C_seq (fun K2 hK2 => ?_)
    refine C_region ?_
    refine R_pu (pu_move rfl) rfl ?_
    refine R_pu (pu_len Tryd.underlying36 rfl) rfl ?_
    refine R_pu (pu_gtr (p := L.length > 40) rfl rfl (by omega)) rfl ?_
    by_cases g1_3 : L.length > 40
    · refine R_pu (pu_true (pu_move rfl) g1_3) rfl ?_
      refine R_gno rfl rfl rfl rfl ?_
      refine R_gno rfl rfl rfl rfl ?_
      refine R_gno rfl rfl rfl rfl ?_
      refine R_gno rfl rfl rfl rfl ?_
      refine R_gun rfl rfl rfl ?_
      refine R_gun rfl rfl rfl ?_
      refine R_gun rfl rfl rfl ?_
      refine R_gun rfl rfl rfl ?_
      refine R_gun rfl rfl rfl ?_
      refine R_gno rfl rfl rfl rfl ?_
      refine R_pu (pu_pickt rfl rfl) rfl ?_
      refine R_nil ?_
      refine X_then hK2 ?_
      refine C_true rfl ?_
      refine C_seq (fun K3 hK3 => ?_)
      refine C_region ?_
      have o4 : Gt w1 := (hG.no k1)
      refine R_lo (lo_call (by kernel_rfl) rfl (sure03 _ o4)) rfl ?_
      rintro _ w2 ⟨rfl, k2⟩
      have kk2 := kk1.then_ k2
      refine R_pu (pu_assign rfl) rfl ?_
      refine R_nil ?_
      refine X_then hK3 ?_
      refine C_ret ?_
      refine X_then_ret ?_
      exact X_ret1 (.inl rfl) rfl rfl ⟨rfl, kk2⟩
    · refine R_pu (pu_false (pu_move rfl) g1_3) rfl ?_
      refine R_gpu rfl rfl (pu_fieldAddr (off := 0) (o' := 0) (by kernel_rfl) rfl rfl) rfl ?_
      refine R_gpu rfl rfl (pu_loadK f_p0_0_1 (by kernel_rfl) rfl rfl) rfl ?_
      refine R_gpu rfl rfl (pu_gtr (p := (q + 1) > 20) rfl rfl (by omega)) rfl ?_
      by_cases g1_7 : (q + 1) > 20
      · refine R_gpu rfl rfl (pu_true (pu_move rfl) g1_7) rfl ?_
        refine R_gpu rfl rfl (pu_move rfl) rfl ?_
        refine R_gpu rfl rfl (pu_len Tryd.underlying36 rfl) rfl ?_
        refine R_gpu rfl rfl (pu_fieldAddr (off := 0) (o' := 0) (by kernel_rfl) rfl rfl) rfl ?_
        refine R_gpu rfl rfl (pu_loadK f_p0_0_1 (by kernel_rfl) rfl rfl) rfl ?_
        refine R_gpu rfl rfl (pu_geq (p := L.length ≥ (q + 1)) rfl rfl (by omega)) rfl ?_
        refine R_gpu rfl rfl (pu_pickt rfl rfl) rfl ?_
        refine R_pu (pu_pickf rfl rfl) rfl ?_
        refine R_nil ?_
        refine X_then hK2 ?_
        refine C_dec rfl (fun h33 => ?_) (fun h33 => ?_)
        · refine C_seq (fun K5 hK5 => ?_)
          refine C_region ?_
          have o6 : Gt w1 := (hG.no k1)
          refine R_lo (lo_call (by kernel_rfl) rfl (sure03 _ o6)) rfl ?_
          rintro _ w3 ⟨rfl, k3⟩
          have kk3 := kk1.then_ k3
          refine R_pu (pu_assign rfl) rfl ?_
          refine R_nil ?_
          refine X_then hK5 ?_
          refine C_ret ?_
          refine X_then_ret ?_
          exact X_ret1 (.inl rfl) rfl rfl ⟨rfl, kk3⟩
        · refine C_skip ?_
          have o7 : Gt w1 := (hG.no k1)
          refine X_cut hK_ [(0, .slice A (L.length) (c)), (2, .int .u8 ((ix : Nat) : Int)), (4, .pointer (some ⟨p0_0, 0, none⟩))] (Sub.cons rfl (Sub.cons rfl (Sub.cons rfl (Sub.nil _)))) ⟨rfl, by omega, kk1, f_p0_0_1, o7⟩
      · refine R_gpu rfl rfl (pu_false (pu_move rfl) g1_7) rfl ?_
        refine R_gno rfl rfl rfl rfl ?_
        refine R_gno rfl rfl rfl rfl ?_
        refine R_gno rfl rfl rfl rfl ?_
        refine R_gno rfl rfl rfl rfl ?_
        refine R_gno rfl rfl rfl rfl ?_
        refine R_gpu rfl rfl (pu_pickf rfl rfl) rfl ?_
        refine R_pu (pu_pickf rfl rfl) rfl ?_
        refine R_nil ?_
        refine X_then hK2 ?_
        refine C_false rfl ?_
        refine C_skip ?_
        have o8 : Gt w1 := (hG.no k1)
        refine X_cut hK_ [(0, .slice A (L.length) (c)), (2, .int .u8 ((ix : Nat) : Int)), (4, .pointer (some ⟨p0_0, 0, none⟩))] (Sub.cons rfl (Sub.cons rfl (Sub.cons rfl (Sub.nil _)))) ⟨rfl, by omega, kk1, f_p0_0_1, o8⟩
  · rintro _ w4 ⟨rfl, hL40, kk4, f_p0_0_4, G_4⟩
    refine C_seq (fun K9 hK9 => ?_)
    refine C_seq (fun K10 hK10 => ?_)
    refine C_region ?_
    refine R_pu (pu_assign rfl) rfl ?_
    refine R_nil ?_
    refine X_then hK10 ?_
    refine C_block ?_
    refine C_loop (fun m_ l_ wr => ∃ i : Nat, (m_ = L.length - i) ∧ (l_ = [(0, .slice A (L.length) (c)), (2, .int .u8 ((ix : Nat) : Int)), (4, .pointer (some ⟨p0_0, 0, none⟩)), (7, .int .i64 ((i : Nat) : Int))]) ∧ (i ≤ L.length) ∧ (Kp No w wr) ∧ (Bk wr p0_0 ([.int .i64 ((q + 1 : Nat) : Int), .int .i64 ((nn : Nat) : Int), .int .u32 ((ge : Nat) : Int)]) 25) ∧ (Gt wr)) (L.length - 0) [(0, .slice A (L.length) (c)), (2, .int .u8 ((ix : Nat) : Int)), (4, .pointer (some ⟨p0_0, 0, none⟩)), (7, .int .i64 0)] (Sub.cons rfl (Sub.cons rfl (Sub.cons rfl (Sub.cons rfl (Sub.nil _))))) ⟨0, rfl, rfl, by omega, kk4, f_p0_0_4, G_4⟩ ?_
    rintro _ _ w5 ⟨i, rfl, rfl, hi, kk5, f_p0_0_5, G_5⟩
    refine C_seq (fun K11 hK11 => ?_)
    refine C_seq (fun K12 hK12 => ?_)
    refine C_region ?_
    refine R_pu (pu_move rfl) rfl ?_
    refine R_pu (pu_move rfl) rfl ?_
    refine R_pu (pu_len Tryd.underlying36 rfl) rfl ?_
    refine R_pu (pu_lss (p := i < L.length) rfl rfl (by omega)) rfl ?_
    refine R_nil ?_
    refine X_then hK12 ?_
    refine C_dec rfl (fun h38 => ?_) (fun h38 => ?_)
    · refine C_skip ?_
      refine X_then hK11 ?_
      refine C_seq (fun K13 hK13 => ?_)
      refine C_block ?_
      refine C_seq (fun K14 hK14 => ?_)
      refine C_region ?_
      refine R_pu (pu_move rfl) rfl ?_
      refine R_pu (pu_move rfl) rfl ?_
      obtain ⟨s1, e_s1⟩ : ∃ q_, (L)[i]? = some q_ := ⟨_, List.getElem?_eq_getElem (by first | omega | (simp; done) | (simp; omega))⟩
      have ok_s1 := HS.get e_s1
      have okb_s1 := ok_s1.bs
      have bi_s1 : s1.ix < 256 := ok_s1.ix
      refine R_pu (pu_indexAddrH (HS.keptNo kk5) Tryd.underlying36 (by kernel_rfl) rfl rfl rfl rfl e_s1) rfl ?_
      refine R_pu (pu_fieldAddrH (off := 2) (HS.keptNo kk5) e_s1 (by kernel_rfl) rfl) rfl ?_
      refine R_pu (pu_loadH (HS.keptNo kk5) e_s1 (by kernel_rfl) rfl rfl) rfl ?_
      refine R_pu (pu_len Tryd.underlying22 rfl) rfl ?_
      refine R_pu (pu_gtr (p := s1.X.length > 100) rfl rfl (by omega)) rfl ?_
      refine R_nil ?_
      refine X_then hK14 ?_
      refine C_dec rfl (fun h47 => ?_) (fun h47 => ?_)
      · refine C_seq (fun K15 hK15 => ?_)
        refine C_region ?_
        refine R_lo (lo_call (by kernel_rfl) rfl (sure03 _ G_5)) rfl ?_
        rintro _ w6 ⟨rfl, k6⟩
        have kk6 := kk5.then_ k6
        refine R_pu (pu_assign rfl) rfl ?_
        refine R_nil ?_
        refine X_then hK15 ?_
        refine C_ret ?_
        refine X_in_ret (X_then_ret (X_then_ret (X_in_ret (X_then_ret ?_))))
        exact X_ret1 (.inl rfl) rfl rfl ⟨rfl, kk6⟩
      · refine C_skip ?_
        refine X_in_normal ?_
        refine X_then hK13 ?_
        refine C_region ?_
        refine R_pu (pu_move rfl) rfl ?_
        refine R_pu (pu_add (z := ((i + 1 : Nat) : Int)) rfl rfl (by rw [IntKind.wrap_i64]; omega)) rfl ?_
        refine R_pu (pu_assign rfl) rfl ?_
        refine R_nil ?_
        refine X_round (L.length - (i + 1)) [(0, .slice A (L.length) (c)), (2, .int .u8 ((ix : Nat) : Int)), (4, .pointer (some ⟨p0_0, 0, none⟩)), (7, .int .i64 (((i + 1) : Nat) : Int))] (by omega) (Sub.cons rfl (Sub.cons rfl (Sub.cons rfl (Sub.cons rfl (Sub.nil _))))) ⟨i + 1, rfl, rfl, by omega, kk5, f_p0_0_5, G_5⟩
    · refine C_exit ?_
      refine X_then_exit (X_then_exit (X_in_eq ?_))
      refine X_then hK9 ?_
      refine C_seq (fun K16 hK16 => ?_)
      refine C_region ?_
      by_cases hidx : ix = 0 ∨ nn < ix
      · refine R_lo (lo_call (by kernel_rfl) rfl (gf_new _)) rfl ?_
        rintro _ w7 ⟨b8_0, rfl, le7, T7, k7⟩
        have kk7 := kk5.then_ k7
        have ne_b8_0_p0_0 : b8_0 ≠ p0_0 := Nat.ne_of_gt (Nat.lt_of_lt_of_le f_p0_0_5.lt le7)
        have ne_b8_0_0 : b8_0 ≠ 0 := Nat.ne_of_gt (Nat.lt_of_lt_of_le G_5.lt le7)
        refine R_pu (pu_assign rfl) rfl ?_
        refine R_nil ?_
        refine X_then hK16 ?_
        refine C_seq (fun K17 hK17 => ?_)
        have f18 : Bk w7 p0_0 ([.int .i64 ((q + 1 : Nat) : Int), .int .i64 ((nn : Nat) : Int), .int .u32 ((ge : Nat) : Int)]) 25 := (f_p0_0_5.no k7)
        have o19 : Gt w7 := (G_5.no k7)
        refine D_begin (fun W => Kp No w W ∧ Bk W p0_0 ([.int .i64 ((q + 1 : Nat) : Int), .int .i64 ((nn : Nat) : Int), .int .u32 ((ge : Nat) : Int)]) 25 ∧ Gt W ∧ Tb W b8_0) 10 rfl (by kernel_rfl) ⟨kk7.drew, f18.draw, o19.draw, T7.draw⟩ ?_
        intro w8 k8 _
        have kk8 := kk7.then_ k8
        refine D_take 0 rfl (by kernel_rfl) (by kernel_rfl) (by kernel_rfl) (fun _ _ _ h => h) rfl (fun W hS => pu_move rfl) ?_
        refine D_take 1 rfl (by kernel_rfl) (by kernel_rfl) (by kernel_rfl) (fun _ _ _ h => h) rfl (fun W hS => pu_move rfl) ?_
        refine D_take 3 rfl (by kernel_rfl) (by kernel_rfl) (by kernel_rfl) (fun _ _ _ h => h) rfl (fun W hS => pu_loadRow (len := 3) hS.2.1 (by kernel_rfl) (by kernel_rfl) rfl rfl) ?_
        have o20 : Tb w8 b8_0 := (T7.no k8)
        refine D_one 2 (by kernel_rfl) (Nx_lo rfl (lo_call (by kernel_rfl) rfl (give_shares A L c _ (HS.keptNo kk8) (by omega))) rfl ?_)
        rintro _ w9 ⟨A_gv9, c_gv9, rfl, Q9, hc_gv9, hb_gv9, k9⟩
        have kk9 := kk8.then_ k9
        have f21 : Bk w9 p0_0 ([.int .i64 ((q + 1 : Nat) : Int), .int .i64 ((nn : Nat) : Int), .int .u32 ((ge : Nat) : Int)]) 25 := ((f18.no k8).no k9)
        have o22 : Gt w9 := ((o19.no k8).no k9)
        have o23 : Tb w9 b8_0 := (o20.no k9)
        refine ⟨⟨kk9, f21, o22, o23⟩, ?_⟩
        refine D_one 4 (by kernel_rfl) (Nx_lo rfl (lo_call (by kernel_rfl) rfl (shamir_combine b8_0 A_gv9 L c_gv9 q nn ge N _ Q9 ⟨hk.1, ⟨hk.2.1, hc_gv9, hs⟩, hge, hk.2.2⟩ (Aws.handed hb_gv9 o20.lt (HS.aw (Nat.le_trans kk5.size le7))) o23)) rfl ?_)
        rintro _ w10 ⟨A_ta, c_ta, rfl, Q10, T10, k10⟩
        have kk10 := kk9.trans k10 (fun i hi => .inr (hi ▸ (Nat.le_trans kk5.size le7)))
        have z24 : w9.heap.size ≤ w10.heap.size := k10.size
        have f25 : Bk w10 p0_0 ([.int .i64 ((q + 1 : Nat) : Int), .int .i64 ((nn : Nat) : Int), .int .u32 ((ge : Nat) : Int)]) 25 := (f21.on k10 (Ne.symm ne_b8_0_p0_0))
        have o26 : Gt w10 := (o22.on k10 (Ne.symm ne_b8_0_0))
        refine ⟨⟨kk10, f25, o26, T10⟩, ?_⟩
        refine D_take 5 rfl (by kernel_rfl) (by kernel_rfl) (by kernel_rfl) (fun _ _ _ h => h) rfl (fun W hS => pu_move rfl) ?_
        refine D_take 6 rfl (by kernel_rfl) (by kernel_rfl) (by kernel_rfl) (fun _ _ _ h => h) rfl (fun W hS => pu_extract rfl rfl) ?_
        refine D_take 7 rfl (by kernel_rfl) (by kernel_rfl) (by kernel_rfl) (fun _ _ _ h => h) rfl (fun W hS => pu_extract rfl rfl) ?_
        refine D_take 8 rfl (by kernel_rfl) (by kernel_rfl) (by kernel_rfl) (fun _ _ _ h => h) rfl (fun W hS => pu_assign rfl) ?_
        refine D_take 9 rfl (by kernel_rfl) (by kernel_rfl) (by kernel_rfl) (fun _ _ _ h => h) rfl (fun W hS => pu_assign rfl) ?_
        refine D_done (by kernel_rfl) ?_
        refine X_then hK17 ?_
        refine C_seq (fun K27 hK27 => ?_)
        refine C_region ?_
        refine R_pu (pu_move rfl) rfl ?_
        refine R_pu (pu_loadRow (len := 3) f25 (by kernel_rfl) (by kernel_rfl) rfl rfl) rfl ?_
        have lm28 := Q10.top
        refine R_lo (lo_call (by kernel_rfl) rfl (ref03_combine A L c q nn ge 0 N _ (HS.keptNo kk10) ⟨hk.1, ⟨hk.2.1, hc, hs⟩, hge, hk.2.2⟩ (by decide))) rfl ?_
        rintro _ w11 ⟨A_tb, c_tb, rfl, Q11, k11⟩
        have kk11 := kk10.then_ k11
        have z29 : w10.heap.size ≤ w11.heap.size := k11.size
        refine R_pu (pu_move rfl) rfl ?_
        refine R_pu (pu_extract rfl rfl) rfl ?_
        refine R_pu (pu_extract rfl rfl) rfl ?_
        refine R_pu (pu_assign rfl) rfl ?_
        refine R_pu (pu_assign rfl) rfl ?_
        refine R_nil ?_
        refine X_then hK27 ?_
        refine C_seq (fun K30 hK30 => ?_)
        have f31 : Bk w11 p0_0 ([.int .i64 ((q + 1 : Nat) : Int), .int .i64 ((nn : Nat) : Int), .int .u32 ((ge : Nat) : Int)]) 25 := (f25.no k11)
        have o32 : Gt w11 := (o26.no k11)
        have o33 : Tb w11 b8_0 := (T10.no k11)
        refine D_begin (fun W => Kp No w W ∧ Bk W p0_0 ([.int .i64 ((q + 1 : Nat) : Int), .int .i64 ((nn : Nat) : Int), .int .u32 ((ge : Nat) : Int)]) 25 ∧ Gt W ∧ Tb W b8_0) 12 rfl (by kernel_rfl) ⟨kk11.drew, f31.draw, o32.draw, o33.draw⟩ ?_
        intro w12 k12 _
        have kk12 := kk11.then_ k12
        refine D_take 0 rfl (by kernel_rfl) (by kernel_rfl) (by kernel_rfl) (fun _ _ _ h => h) rfl (fun W hS => pu_move rfl) ?_
        refine D_take 1 rfl (by kernel_rfl) (by kernel_rfl) (by kernel_rfl) (fun _ _ _ h => h) rfl (fun W hS => pu_move rfl) ?_
        refine D_take 3 rfl (by kernel_rfl) (by kernel_rfl) (by kernel_rfl) (fun _ _ _ h => h) rfl (fun W hS => pu_loadRow (len := 3) hS.2.1 (by kernel_rfl) (by kernel_rfl) rfl rfl) ?_
        refine D_take 4 rfl (by kernel_rfl) (by kernel_rfl) (by kernel_rfl) (fun _ _ _ h => h) rfl (fun W hS => pu_move rfl) ?_
        refine D_two 2 9 (by kernel_rfl) ?_ ?_
        · have o34 : Tb w12 b8_0 := (o33.no k12)
          refine Nx_lo rfl (lo_call (by kernel_rfl) rfl (give_shares A L c _ (HS.keptNo kk12) (by omega))) rfl ?_
          rintro _ w13 ⟨A_gv11, c_gv11, rfl, Q13, hc_gv11, hb_gv11, k13⟩
          have kk13 := kk12.then_ k13
          have f35 : Bk w13 p0_0 ([.int .i64 ((q + 1 : Nat) : Int), .int .i64 ((nn : Nat) : Int), .int .u32 ((ge : Nat) : Int)]) 25 := ((f31.no k12).no k13)
          have o36 : Gt w13 := ((o32.no k12).no k13)
          have o37 : Tb w13 b8_0 := (o34.no k13)
          refine ⟨⟨kk13, f35, o36, o37⟩, ?_⟩
          refine D_two 5 9 (by kernel_rfl) ?_ ?_
          · refine Nx_lo rfl (lo_call (by kernel_rfl) rfl (shamir_at_idx b8_0 A_gv11 L c_gv11 ((q + 1 : Nat) : Int) ((nn : Nat) : Int) ge ix _ Q13 ⟨hix, (by omega)⟩)) rfl ?_
            rintro _ w14 ⟨rfl, k14⟩
            have kk14 := kk13.then_ k14
            have f38 : Bk w14 p0_0 ([.int .i64 ((q + 1 : Nat) : Int), .int .i64 ((nn : Nat) : Int), .int .u32 ((ge : Nat) : Int)]) 25 := (f35.no k14)
            have o39 : Gt w14 := (o36.no k14)
            have o40 : Tb w14 b8_0 := (o37.no k14)
            refine ⟨⟨kk14, f38, o39, o40⟩, ?_⟩
            refine D_take 6 rfl (by kernel_rfl) (by kernel_rfl) (by kernel_rfl) (fun _ _ _ h => h) rfl (fun W hS => pu_move rfl) ?_
            refine D_take 7 rfl (by kernel_rfl) (by kernel_rfl) (by kernel_rfl) (fun _ _ _ h => h) rfl (fun W hS => pu_extract rfl rfl) ?_
            refine D_take 8 rfl (by kernel_rfl) (by kernel_rfl) (by kernel_rfl) (fun _ _ _ h => h) rfl (fun W hS => pu_extract rfl rfl) ?_
            have ob41 := ((((Q10.keptNo k11).keptNo k12).keptNo k13).keptNo k14)
            have ob42 := (((Q11.keptNo k12).keptNo k13).keptNo k14)
            refine D_one 9 (by kernel_rfl) (Nx_lo rfl (lo_alloc (L := [.int .u8 0, .int .u32 0, .slice none (0) (0)]) (by kernel_rfl)) rfl ?_)
            rintro _ w15 ⟨ab, rfl, N15⟩
            have k15 := N15.kp
            have kk15 := kk14.then_ k15
            have ne_ab_p0_0 : ab ≠ p0_0 := Nat.ne_of_gt (Nat.lt_of_lt_of_le f38.lt N15.le)
            have ne_ab_0 : ab ≠ 0 := Nat.ne_of_gt (Nat.lt_of_lt_of_le o39.lt N15.le)
            have ne_ab_b8_0 : ab ≠ b8_0 := Nat.ne_of_gt (Nat.lt_of_lt_of_le o40.lt N15.le)
            have f_ab_15 : Bk w15 ab ([.int .u8 0, .int .u32 0, .slice none (0) (0)]) 50 := N15.bk
            have f43 : Bk w15 p0_0 ([.int .i64 ((q + 1 : Nat) : Int), .int .i64 ((nn : Nat) : Int), .int .u32 ((ge : Nat) : Int)]) 25 := (f38.no k15)
            have o44 : Gt w15 := (o39.no k15)
            have o45 : Tb w15 b8_0 := (o40.no k15)
            refine ⟨⟨kk15, f43, o44, o45⟩, ?_⟩
            refine D_one 10 (by kernel_rfl) (Nx_lo0 rfl (lo_storeRow (C := [.int .u8 0, .int .u32 0, .slice none (0) (0)]) f_ab_15 (by kernel_rfl) rfl rfl (by intro u hu; simp at hu; rcases hu with rfl | rfl | rfl <;> rfl) rfl) ?_)
            rintro _ w16 kf16
            obtain ⟨k16, f_ab_16⟩ := kf16
            replace f_ab_16 : Bk w16 ab ([.int .u8 0, .int .u32 0, .slice none (0) (0)]) 50 := f_ab_16
            have kk16 := kk15.trans k16 (fun i hi => .inr (hi ▸ (Nat.le_trans kk14.size N15.le)))
            have f46 : Bk w16 p0_0 ([.int .i64 ((q + 1 : Nat) : Int), .int .i64 ((nn : Nat) : Int), .int .u32 ((ge : Nat) : Int)]) 25 := (f43.on k16 (Ne.symm ne_ab_p0_0))
            have o47 : Gt w16 := (o44.on k16 (Ne.symm ne_ab_0))
            have o48 : Tb w16 b8_0 := (o45.on k16 (Ne.symm ne_ab_b8_0))
            refine ⟨⟨kk16, f46, o47, o48⟩, ?_⟩
            refine D_take 11 rfl (by kernel_rfl) (by kernel_rfl) (by kernel_rfl) (fun _ _ _ h => h) rfl (fun W hS => pu_assign rfl) ?_
            refine D_done (by kernel_rfl) ?_
            refine X_then hK30 ?_
            refine C_seq (fun K49 hK49 => ?_)
            refine C_region ?_
            refine R_pu (pu_move rfl) rfl ?_
            refine R_pu (pu_loadRow (len := 3) f46 (by kernel_rfl) (by kernel_rfl) rfl rfl) rfl ?_
            refine R_pu (pu_move rfl) rfl ?_
            have ob51 := ((ob41.keptNo k15).onN k16 ob41 N15.le)
            have lm50 := ob51.top
            have ob53 := ((ob42.keptNo k15).onN k16 ob42 N15.le)
            have lm52 := ob53.top
            refine R_lo (lo_call (by kernel_rfl) rfl (ref03_combine A L c q nn ge ix N _ (HS.keptNo kk16) ⟨hk.1, ⟨hk.2.1, hc, hs⟩, hge, hk.2.2⟩ hix)) rfl ?_
            rintro _ w17 ⟨A_td, c_td, rfl, Q17, k17⟩
            have kk17 := kk16.then_ k17
            have z54 : w16.heap.size ≤ w17.heap.size := k17.size
            refine R_pu (pu_move rfl) rfl ?_
            refine R_pu (pu_extract rfl rfl) rfl ?_
            refine R_pu (pu_extract rfl rfl) rfl ?_
            refine R_pu (pu_assign rfl) rfl ?_
            refine R_pu (pu_assign rfl) rfl ?_
            refine R_nil ?_
            refine X_then hK49 ?_
            refine C_seq (fun K55 hK55 => ?_)
            have f56 : Bk w17 p0_0 ([.int .i64 ((q + 1 : Nat) : Int), .int .i64 ((nn : Nat) : Int), .int .u32 ((ge : Nat) : Int)]) 25 := (f46.no k17)
            have f57 : Bk w17 ab ([.int .u8 0, .int .u32 0, .slice none (0) (0)]) 50 := (f_ab_16.no k17)
            have o58 : Gt w17 := (o47.no k17)
            have o59 : Tb w17 b8_0 := (o48.no k17)
            refine D_begin (fun W => Kp No w W ∧ Bk W p0_0 ([.int .i64 ((q + 1 : Nat) : Int), .int .i64 ((nn : Nat) : Int), .int .u32 ((ge : Nat) : Int)]) 25 ∧ Bk W ab ([.int .u8 0, .int .u32 0, .slice none (0) (0)]) 50 ∧ Gt W ∧ Tb W b8_0) 9 rfl (by kernel_rfl) ⟨kk17.drew, f56.draw, f57.draw, o58.draw, o59.draw⟩ ?_
            intro w18 k18 _
            have kk18 := kk17.then_ k18
            refine D_take 0 rfl (by kernel_rfl) (by kernel_rfl) (by kernel_rfl) (fun _ _ _ h => h) rfl (fun W hS => pu_move rfl) ?_
            refine D_take 2 rfl (by kernel_rfl) (by kernel_rfl) (by kernel_rfl) (fun _ _ _ h => h) rfl (fun W hS => pu_loadRow (len := 3) hS.2.1 (by kernel_rfl) (by kernel_rfl) rfl rfl) ?_
            have o60 : Tb w18 b8_0 := (o59.no k18)
            refine D_one 1 (by kernel_rfl) (Nx_lo rfl (lo_call (by kernel_rfl) rfl (give_shares A L c _ (HS.keptNo kk18) (by omega))) rfl ?_)
            rintro _ w19 ⟨A_gv13, c_gv13, rfl, Q19, hc_gv13, hb_gv13, k19⟩
            have kk19 := kk18.then_ k19
            have f61 : Bk w19 p0_0 ([.int .i64 ((q + 1 : Nat) : Int), .int .i64 ((nn : Nat) : Int), .int .u32 ((ge : Nat) : Int)]) 25 := ((f56.no k18).no k19)
            have f62 : Bk w19 ab ([.int .u8 0, .int .u32 0, .slice none (0) (0)]) 50 := ((f57.no k18).no k19)
            have o63 : Gt w19 := ((o58.no k18).no k19)
            have o64 : Tb w19 b8_0 := (o60.no k19)
            refine ⟨⟨kk19, f61, f62, o63, o64⟩, ?_⟩
            refine D_one 3 (by kernel_rfl) (Nx_lo rfl (lo_call (by kernel_rfl) rfl (shamir_combine_nil A_gv13 L c_gv13 ((q + 1 : Nat) : Int) ((nn : Nat) : Int) ge _ Q19 ⟨hge, hs⟩)) rfl ?_)
            rintro _ w20 ⟨rfl, k20⟩
            have kk20 := kk19.then_ k20
            have f65 : Bk w20 p0_0 ([.int .i64 ((q + 1 : Nat) : Int), .int .i64 ((nn : Nat) : Int), .int .u32 ((ge : Nat) : Int)]) 25 := (f61.no k20)
            have f66 : Bk w20 ab ([.int .u8 0, .int .u32 0, .slice none (0) (0)]) 50 := (f62.no k20)
            have o67 : Gt w20 := (o63.no k20)
            have o68 : Tb w20 b8_0 := (o64.no k20)
            refine ⟨⟨kk20, f65, f66, o67, o68⟩, ?_⟩
            refine D_take 4 rfl (by kernel_rfl) (by kernel_rfl) (by kernel_rfl) (fun _ _ _ h => h) rfl (fun W hS => pu_move rfl) ?_
            refine D_take 5 rfl (by kernel_rfl) (by kernel_rfl) (by kernel_rfl) (fun _ _ _ h => h) rfl (fun W hS => pu_extract rfl rfl) ?_
            refine D_take 6 rfl (by kernel_rfl) (by kernel_rfl) (by kernel_rfl) (fun _ _ _ h => h) rfl (fun W hS => pu_extract rfl rfl) ?_
            refine D_take 7 rfl (by kernel_rfl) (by kernel_rfl) (by kernel_rfl) (fun _ _ _ h => h) rfl (fun W hS => pu_assign rfl) ?_
            refine D_take 8 rfl (by kernel_rfl) (by kernel_rfl) (by kernel_rfl) (fun _ _ _ h => h) rfl (fun W hS => pu_assign rfl) ?_
            refine D_done (by kernel_rfl) ?_
            refine X_then hK55 ?_
            refine C_seq (fun K69 hK69 => ?_)
            refine C_seq (fun K70 hK70 => ?_)
            refine C_region ?_
            refine R_pu (pu_move rfl) rfl ?_
            have ob71 := ((((ob51.keptNo k17).keptNo k18).keptNo k19).keptNo k20)
            refine R_pu (pu_bstr ob71.bs Tryd.underlying22 Tryd.underlying5 Tryd.underlying9 rfl rfl) rfl ?_
            refine R_pu (pu_move rfl) rfl ?_
            have ob72 := ((((ob53.keptNo k17).keptNo k18).keptNo k19).keptNo k20)
            refine R_pu (pu_bstr ob72.bs Tryd.underlying22 Tryd.underlying5 Tryd.underlying9 rfl rfl) rfl ?_
            refine R_pu (pu_false (pu_neqs (p := (thX (L.take (q + 1)) N 0) = (thX (L.take (q + 1)) N 0)) rfl rfl (bstr_inj (ob71.bs).byte (ob72.bs).byte)) (fun h => h rfl)) rfl ?_
            refine R_pu (pu_move rfl) rfl ?_
            refine R_gpu rfl rfl (pu_move rfl) rfl ?_
            refine R_glo rfl rfl (lo_call (by kernel_rfl) rfl (num03_nil _)) rfl ?_
            rintro _ w21 ⟨rfl, k21⟩
            have kk21 := kk20.then_ k21
            refine R_gpu rfl rfl (pu_move rfl) rfl ?_
            refine R_gpu rfl rfl (pu_false (pu_neq (p := (0 : Nat) = 0) rfl rfl (by omega)) (by decide)) rfl ?_
            refine R_pu (pu_pickf rfl rfl) rfl ?_
            refine R_pu (pu_move rfl) rfl ?_
            refine R_gpu rfl rfl (pu_move rfl) rfl ?_
            have o73 : Gt w21 := (o67.no k21)
            refine R_glo rfl rfl (lo_call (by kernel_rfl) rfl (num03_err 1 _ o73)) rfl ?_
            rintro _ w22 ⟨rfl, k22⟩
            have kk22 := kk21.then_ k22
            refine R_gpu rfl rfl (pu_false (pu_neq (p := (1 : Nat) = 1) rfl rfl (by omega)) (by decide)) rfl ?_
            refine R_pu (pu_pickf rfl rfl) rfl ?_
            refine R_nil ?_
            refine X_then hK70 ?_
            refine C_false rfl ?_
            refine C_skip ?_
            refine X_then hK69 ?_
            refine C_seq (fun K74 hK74 => ?_)
            refine C_seq (fun K75 hK75 => ?_)
            refine C_region ?_
            refine R_pu (pu_move rfl) rfl ?_
            refine R_pu (pu_eql (p := ix = 0) rfl rfl (by omega)) rfl ?_
            by_cases g16_2 : ix = 0
            · refine R_pu (pu_true (pu_move rfl) g16_2) rfl ?_
              refine R_gno rfl rfl rfl rfl ?_
              refine R_gno rfl rfl rfl rfl ?_
              refine R_gno rfl rfl rfl rfl ?_
              refine R_gno rfl rfl rfl rfl ?_
              refine R_gno rfl rfl rfl rfl ?_
              refine R_pu (pu_pickt rfl rfl) rfl ?_
              refine R_nil ?_
              refine X_then hK75 ?_
              refine C_true rfl ?_
              refine C_seq (fun K76 hK76 => ?_)
              refine C_region ?_
              refine R_pu (pu_move rfl) rfl ?_
              have o77 : Gt w22 := (o73.no k22)
              refine R_lo (lo_call (by kernel_rfl) rfl (num03_err 1 _ o77)) rfl ?_
              rintro _ w23 ⟨rfl, k23⟩
              have kk23 := kk22.then_ k23
              refine R_pu (pu_true (pu_eql (p := (1 : Nat) = 1) rfl rfl (by omega)) (by decide)) rfl ?_
              refine R_pu (pu_move rfl) rfl ?_
              refine R_gpu rfl rfl (pu_fieldAddr (off := 0) (o' := 0) (by kernel_rfl) rfl rfl) rfl ?_
              have f78 : Bk w23 ab ([.int .u8 0, .int .u32 0, .slice none (0) (0)]) 50 := (((f66.no k21).no k22).no k23)
              refine R_gpu rfl rfl (pu_loadK f78 (by kernel_rfl) rfl rfl) rfl ?_
              refine R_gpu rfl rfl (pu_true (pu_eql (p := (0 : Nat) = 0) rfl rfl (by omega)) (by decide)) rfl ?_
              refine R_pu (pu_pickt rfl rfl) rfl ?_
              refine R_pu (pu_move rfl) rfl ?_
              refine R_gpu rfl rfl (pu_fieldAddr (off := 2) (o' := 2) (by kernel_rfl) rfl rfl) rfl ?_
              refine R_gpu rfl rfl (pu_loadK f78 (by kernel_rfl) rfl rfl) rfl ?_
              refine R_gpu rfl rfl (pu_len Tryd.underlying22 rfl) rfl ?_
              refine R_gpu rfl rfl (pu_true (pu_eql (p := (0 : Nat) = 0) rfl rfl (by omega)) (by decide)) rfl ?_
              refine R_pu (pu_pickt rfl rfl) rfl ?_
              refine R_pu (pu_move rfl) rfl ?_
              have o79 : Gt w23 := (o77.no k23)
              refine R_glo rfl rfl (lo_call (by kernel_rfl) rfl (sure03 _ o79)) rfl ?_
              rintro _ w24 ⟨rfl, k24⟩
              have kk24 := kk23.then_ k24
              refine R_pu (pu_pickt rfl rfl) rfl ?_
              refine R_pu (pu_assign rfl) rfl ?_
              refine R_nil ?_
              refine X_then hK76 ?_
              refine C_ret ?_
              refine X_then_ret ?_
              exact X_ret1 (.inl rfl) rfl rfl ⟨rfl, kk24⟩
            · refine R_pu (pu_false (pu_move rfl) g16_2) rfl ?_
              refine R_gpu rfl rfl (pu_move rfl) rfl ?_
              refine R_gpu rfl rfl (pu_conv (z := ((ix : Nat) : Int)) Tryd.underlying5 Tryd.underlying3 rfl (by have : ix < 256 := hix; rw [IntKind.wrap_i64]; omega)) rfl ?_
              refine R_gpu rfl rfl (pu_fieldAddr (off := 1) (o' := 1) (by kernel_rfl) rfl rfl) rfl ?_
              have f80 : Bk w22 p0_0 ([.int .i64 ((q + 1 : Nat) : Int), .int .i64 ((nn : Nat) : Int), .int .u32 ((ge : Nat) : Int)]) 25 := ((f65.no k21).no k22)
              refine R_gpu rfl rfl (pu_loadK f80 (by kernel_rfl) rfl rfl) rfl ?_
              refine R_gpu rfl rfl (pu_true (pu_gtr (p := ix > nn) rfl rfl (by omega)) (by omega)) rfl ?_
              refine R_pu (pu_pickf rfl rfl) rfl ?_
              refine R_nil ?_
              refine X_then hK75 ?_
              refine C_true rfl ?_
              refine C_seq (fun K81 hK81 => ?_)
              refine C_region ?_
              refine R_pu (pu_move rfl) rfl ?_
              have o82 : Gt w22 := (o73.no k22)
              refine R_lo (lo_call (by kernel_rfl) rfl (num03_err 1 _ o82)) rfl ?_
              rintro _ w25 ⟨rfl, k25⟩
              have kk25 := kk22.then_ k25
              refine R_pu (pu_true (pu_eql (p := (1 : Nat) = 1) rfl rfl (by omega)) (by decide)) rfl ?_
              refine R_pu (pu_move rfl) rfl ?_
              refine R_gpu rfl rfl (pu_fieldAddr (off := 0) (o' := 0) (by kernel_rfl) rfl rfl) rfl ?_
              have f83 : Bk w25 ab ([.int .u8 0, .int .u32 0, .slice none (0) (0)]) 50 := (((f66.no k21).no k22).no k25)
              refine R_gpu rfl rfl (pu_loadK f83 (by kernel_rfl) rfl rfl) rfl ?_
              refine R_gpu rfl rfl (pu_true (pu_eql (p := (0 : Nat) = 0) rfl rfl (by omega)) (by decide)) rfl ?_
              refine R_pu (pu_pickt rfl rfl) rfl ?_
              refine R_pu (pu_move rfl) rfl ?_
              refine R_gpu rfl rfl (pu_fieldAddr (off := 2) (o' := 2) (by kernel_rfl) rfl rfl) rfl ?_
              refine R_gpu rfl rfl (pu_loadK f83 (by kernel_rfl) rfl rfl) rfl ?_
              refine R_gpu rfl rfl (pu_len Tryd.underlying22 rfl) rfl ?_
              refine R_gpu rfl rfl (pu_true (pu_eql (p := (0 : Nat) = 0) rfl rfl (by omega)) (by decide)) rfl ?_
              refine R_pu (pu_pickt rfl rfl) rfl ?_
              refine R_pu (pu_move rfl) rfl ?_
              have o84 : Gt w25 := (o82.no k25)
              refine R_glo rfl rfl (lo_call (by kernel_rfl) rfl (sure03 _ o84)) rfl ?_
              rintro _ w26 ⟨rfl, k26⟩
              have kk26 := kk25.then_ k26
              refine R_pu (pu_pickt rfl rfl) rfl ?_
              refine R_pu (pu_assign rfl) rfl ?_
              refine R_nil ?_
              refine X_then hK81 ?_
              refine C_ret ?_
              refine X_then_ret ?_
              exact X_ret1 (.inl rfl) rfl rfl ⟨rfl, kk26⟩
          · have ob85 := (((Q10.keptNo k11).keptNo k12).keptNo k13)
            have ob86 := ((Q11.keptNo k12).keptNo k13)
            refine Nx_lo rfl (lo_alloc (L := [.int .u8 0, .int .u32 0, .slice none (0) (0)]) (by kernel_rfl)) rfl ?_
            rintro _ w27 ⟨ab, rfl, N27⟩
            have k27 := N27.kp
            have kk27 := kk13.then_ k27
            have ne_ab_p0_0 : ab ≠ p0_0 := Nat.ne_of_gt (Nat.lt_of_lt_of_le f35.lt N27.le)
            have ne_ab_0 : ab ≠ 0 := Nat.ne_of_gt (Nat.lt_of_lt_of_le o36.lt N27.le)
            have ne_ab_b8_0 : ab ≠ b8_0 := Nat.ne_of_gt (Nat.lt_of_lt_of_le o37.lt N27.le)
            have f_ab_27 : Bk w27 ab ([.int .u8 0, .int .u32 0, .slice none (0) (0)]) 50 := N27.bk
            have f87 : Bk w27 p0_0 ([.int .i64 ((q + 1 : Nat) : Int), .int .i64 ((nn : Nat) : Int), .int .u32 ((ge : Nat) : Int)]) 25 := (f35.no k27)
            have o88 : Gt w27 := (o36.no k27)
            have o89 : Tb w27 b8_0 := (o37.no k27)
            refine ⟨⟨kk27, f87, o88, o89⟩, ?_⟩
            refine D_one 5 (by kernel_rfl) (Nx_lo rfl (lo_call (by kernel_rfl) rfl (shamir_at_idx b8_0 A_gv11 L c_gv11 ((q + 1 : Nat) : Int) ((nn : Nat) : Int) ge ix _ (Q13.keptNo k27) ⟨hix, (by omega)⟩)) rfl ?_)
            rintro _ w28 ⟨rfl, k28⟩
            have kk28 := kk27.then_ k28
            have f90 : Bk w28 p0_0 ([.int .i64 ((q + 1 : Nat) : Int), .int .i64 ((nn : Nat) : Int), .int .u32 ((ge : Nat) : Int)]) 25 := (f87.no k28)
            have o91 : Gt w28 := (o88.no k28)
            have o92 : Tb w28 b8_0 := (o89.no k28)
            refine ⟨⟨kk28, f90, o91, o92⟩, ?_⟩
            refine D_take 6 rfl (by kernel_rfl) (by kernel_rfl) (by kernel_rfl) (fun _ _ _ h => h) rfl (fun W hS => pu_move rfl) ?_
            refine D_take 7 rfl (by kernel_rfl) (by kernel_rfl) (by kernel_rfl) (fun _ _ _ h => h) rfl (fun W hS => pu_extract rfl rfl) ?_
            refine D_take 8 rfl (by kernel_rfl) (by kernel_rfl) (by kernel_rfl) (fun _ _ _ h => h) rfl (fun W hS => pu_extract rfl rfl) ?_
            have f93 : Bk w28 ab ([.int .u8 0, .int .u32 0, .slice none (0) (0)]) 50 := (f_ab_27.no k28)
            refine D_one 10 (by kernel_rfl) (Nx_lo0 rfl (lo_storeRow (C := [.int .u8 0, .int .u32 0, .slice none (0) (0)]) f93 (by kernel_rfl) rfl rfl (by intro u hu; simp at hu; rcases hu with rfl | rfl | rfl <;> rfl) rfl) ?_)
            rintro _ w29 kf29
            obtain ⟨k29, f_ab_29⟩ := kf29
            replace f_ab_29 : Bk w29 ab ([.int .u8 0, .int .u32 0, .slice none (0) (0)]) 50 := f_ab_29
            have kk29 := kk28.trans k29 (fun i hi => .inr (hi ▸ (Nat.le_trans kk13.size N27.le)))
            have f94 : Bk w29 p0_0 ([.int .i64 ((q + 1 : Nat) : Int), .int .i64 ((nn : Nat) : Int), .int .u32 ((ge : Nat) : Int)]) 25 := (f90.on k29 (Ne.symm ne_ab_p0_0))
            have o95 : Gt w29 := (o91.on k29 (Ne.symm ne_ab_0))
            have o96 : Tb w29 b8_0 := (o92.on k29 (Ne.symm ne_ab_b8_0))
            refine ⟨⟨kk29, f94, o95, o96⟩, ?_⟩
            refine D_take 11 rfl (by kernel_rfl) (by kernel_rfl) (by kernel_rfl) (fun _ _ _ h => h) rfl (fun W hS => pu_assign rfl) ?_
            refine D_done (by kernel_rfl) ?_
            refine X_then hK30 ?_
            refine C_seq (fun K97 hK97 => ?_)
            refine C_region ?_
            refine R_pu (pu_move rfl) rfl ?_
            refine R_pu (pu_loadRow (len := 3) f94 (by kernel_rfl) (by kernel_rfl) rfl rfl) rfl ?_
            refine R_pu (pu_move rfl) rfl ?_
            have ob99 := (((ob85.keptNo k27).keptNo k28).onN k29 ob85 N27.le)
            have lm98 := ob99.top
            have ob101 := (((ob86.keptNo k27).keptNo k28).onN k29 ob86 N27.le)
            have lm100 := ob101.top
            refine R_lo (lo_call (by kernel_rfl) rfl (ref03_combine A L c q nn ge ix N _ (HS.keptNo kk29) ⟨hk.1, ⟨hk.2.1, hc, hs⟩, hge, hk.2.2⟩ hix)) rfl ?_
            rintro _ w30 ⟨A_td, c_td, rfl, Q30, k30⟩
            have kk30 := kk29.then_ k30
            have z102 : w29.heap.size ≤ w30.heap.size := k30.size
            refine R_pu (pu_move rfl) rfl ?_
            refine R_pu (pu_extract rfl rfl) rfl ?_
            refine R_pu (pu_extract rfl rfl) rfl ?_
            refine R_pu (pu_assign rfl) rfl ?_
            refine R_pu (pu_assign rfl) rfl ?_
            refine R_nil ?_
            refine X_then hK97 ?_
            refine C_seq (fun K103 hK103 => ?_)
            have f104 : Bk w30 p0_0 ([.int .i64 ((q + 1 : Nat) : Int), .int .i64 ((nn : Nat) : Int), .int .u32 ((ge : Nat) : Int)]) 25 := (f94.no k30)
            have f105 : Bk w30 ab ([.int .u8 0, .int .u32 0, .slice none (0) (0)]) 50 := (f_ab_29.no k30)
            have o106 : Gt w30 := (o95.no k30)
            have o107 : Tb w30 b8_0 := (o96.no k30)
            refine D_begin (fun W => Kp No w W ∧ Bk W p0_0 ([.int .i64 ((q + 1 : Nat) : Int), .int .i64 ((nn : Nat) : Int), .int .u32 ((ge : Nat) : Int)]) 25 ∧ Bk W ab ([.int .u8 0, .int .u32 0, .slice none (0) (0)]) 50 ∧ Gt W ∧ Tb W b8_0) 9 rfl (by kernel_rfl) ⟨kk30.drew, f104.draw, f105.draw, o106.draw, o107.draw⟩ ?_
            intro w31 k31 _
            have kk31 := kk30.then_ k31
            refine D_take 0 rfl (by kernel_rfl) (by kernel_rfl) (by kernel_rfl) (fun _ _ _ h => h) rfl (fun W hS => pu_move rfl) ?_
            refine D_take 2 rfl (by kernel_rfl) (by kernel_rfl) (by kernel_rfl) (fun _ _ _ h => h) rfl (fun W hS => pu_loadRow (len := 3) hS.2.1 (by kernel_rfl) (by kernel_rfl) rfl rfl) ?_
            have o108 : Tb w31 b8_0 := (o107.no k31)
            refine D_one 1 (by kernel_rfl) (Nx_lo rfl (lo_call (by kernel_rfl) rfl (give_shares A L c _ (HS.keptNo kk31) (by omega))) rfl ?_)
            rintro _ w32 ⟨A_gv13, c_gv13, rfl, Q32, hc_gv13, hb_gv13, k32⟩
            have kk32 := kk31.then_ k32
            have f109 : Bk w32 p0_0 ([.int .i64 ((q + 1 : Nat) : Int), .int .i64 ((nn : Nat) : Int), .int .u32 ((ge : Nat) : Int)]) 25 := ((f104.no k31).no k32)
            have f110 : Bk w32 ab ([.int .u8 0, .int .u32 0, .slice none (0) (0)]) 50 := ((f105.no k31).no k32)
            have o111 : Gt w32 := ((o106.no k31).no k32)
            have o112 : Tb w32 b8_0 := (o108.no k32)
            refine ⟨⟨kk32, f109, f110, o111, o112⟩, ?_⟩
            refine D_one 3 (by kernel_rfl) (Nx_lo rfl (lo_call (by kernel_rfl) rfl (shamir_combine_nil A_gv13 L c_gv13 ((q + 1 : Nat) : Int) ((nn : Nat) : Int) ge _ Q32 ⟨hge, hs⟩)) rfl ?_)
            rintro _ w33 ⟨rfl, k33⟩
            have kk33 := kk32.then_ k33
            have f113 : Bk w33 p0_0 ([.int .i64 ((q + 1 : Nat) : Int), .int .i64 ((nn : Nat) : Int), .int .u32 ((ge : Nat) : Int)]) 25 := (f109.no k33)
            have f114 : Bk w33 ab ([.int .u8 0, .int .u32 0, .slice none (0) (0)]) 50 := (f110.no k33)
            have o115 : Gt w33 := (o111.no k33)
            have o116 : Tb w33 b8_0 := (o112.no k33)
            refine ⟨⟨kk33, f113, f114, o115, o116⟩, ?_⟩
            refine D_take 4 rfl (by kernel_rfl) (by kernel_rfl) (by kernel_rfl) (fun _ _ _ h => h) rfl (fun W hS => pu_move rfl) ?_
            refine D_take 5 rfl (by kernel_rfl) (by kernel_rfl) (by kernel_rfl) (fun _ _ _ h => h) rfl (fun W hS => pu_extract rfl rfl) ?_
            refine D_take 6 rfl (by kernel_rfl) (by kernel_rfl) (by kernel_rfl) (fun _ _ _ h => h) rfl (fun W hS => pu_extract rfl rfl) ?_
            refine D_take 7 rfl (by kernel_rfl) (by kernel_rfl) (by kernel_rfl) (fun _ _ _ h => h) rfl (fun W hS => pu_assign rfl) ?_
            refine D_take 8 rfl (by kernel_rfl) (by kernel_rfl) (by kernel_rfl) (fun _ _ _ h => h) rfl (fun W hS => pu_assign rfl) ?_
            refine D_done (by kernel_rfl) ?_
            refine X_then hK103 ?_
            refine C_seq (fun K117 hK117 => ?_)
            refine C_seq (fun K118 hK118 => ?_)
            refine C_region ?_
            refine R_pu (pu_move rfl) rfl ?_
            have ob119 := ((((ob99.keptNo k30).keptNo k31).keptNo k32).keptNo k33)
            refine R_pu (pu_bstr ob119.bs Tryd.underlying22 Tryd.underlying5 Tryd.underlying9 rfl rfl) rfl ?_
            refine R_pu (pu_move rfl) rfl ?_
            have ob120 := ((((ob101.keptNo k30).keptNo k31).keptNo k32).keptNo k33)
            refine R_pu (pu_bstr ob120.bs Tryd.underlying22 Tryd.underlying5 Tryd.underlying9 rfl rfl) rfl ?_
            refine R_pu (pu_false (pu_neqs (p := (thX (L.take (q + 1)) N 0) = (thX (L.take (q + 1)) N 0)) rfl rfl (bstr_inj (ob119.bs).byte (ob120.bs).byte)) (fun h => h rfl)) rfl ?_
            refine R_pu (pu_move rfl) rfl ?_
            refine R_gpu rfl rfl (pu_move rfl) rfl ?_
            refine R_glo rfl rfl (lo_call (by kernel_rfl) rfl (num03_nil _)) rfl ?_
            rintro _ w34 ⟨rfl, k34⟩
            have kk34 := kk33.then_ k34
            refine R_gpu rfl rfl (pu_move rfl) rfl ?_
            refine R_gpu rfl rfl (pu_false (pu_neq (p := (0 : Nat) = 0) rfl rfl (by omega)) (by decide)) rfl ?_
            refine R_pu (pu_pickf rfl rfl) rfl ?_
            refine R_pu (pu_move rfl) rfl ?_
            refine R_gpu rfl rfl (pu_move rfl) rfl ?_
            have o121 : Gt w34 := (o115.no k34)
            refine R_glo rfl rfl (lo_call (by kernel_rfl) rfl (num03_err 1 _ o121)) rfl ?_
            rintro _ w35 ⟨rfl, k35⟩
            have kk35 := kk34.then_ k35
            refine R_gpu rfl rfl (pu_false (pu_neq (p := (1 : Nat) = 1) rfl rfl (by omega)) (by decide)) rfl ?_
            refine R_pu (pu_pickf rfl rfl) rfl ?_
            refine R_nil ?_
            refine X_then hK118 ?_
            refine C_false rfl ?_
            refine C_skip ?_
            refine X_then hK117 ?_
            refine C_seq (fun K122 hK122 => ?_)
            refine C_seq (fun K123 hK123 => ?_)
            refine C_region ?_
            refine R_pu (pu_move rfl) rfl ?_
            refine R_pu (pu_eql (p := ix = 0) rfl rfl (by omega)) rfl ?_
            by_cases g16_2 : ix = 0
            · refine R_pu (pu_true (pu_move rfl) g16_2) rfl ?_
              refine R_gno rfl rfl rfl rfl ?_
              refine R_gno rfl rfl rfl rfl ?_
              refine R_gno rfl rfl rfl rfl ?_
              refine R_gno rfl rfl rfl rfl ?_
              refine R_gno rfl rfl rfl rfl ?_
              refine R_pu (pu_pickt rfl rfl) rfl ?_
              refine R_nil ?_
              refine X_then hK123 ?_
              refine C_true rfl ?_
              refine C_seq (fun K124 hK124 => ?_)
              refine C_region ?_
              refine R_pu (pu_move rfl) rfl ?_
              have o125 : Gt w35 := (o121.no k35)
              refine R_lo (lo_call (by kernel_rfl) rfl (num03_err 1 _ o125)) rfl ?_
              rintro _ w36 ⟨rfl, k36⟩
              have kk36 := kk35.then_ k36
              refine R_pu (pu_true (pu_eql (p := (1 : Nat) = 1) rfl rfl (by omega)) (by decide)) rfl ?_
              refine R_pu (pu_move rfl) rfl ?_
              refine R_gpu rfl rfl (pu_fieldAddr (off := 0) (o' := 0) (by kernel_rfl) rfl rfl) rfl ?_
              have f126 : Bk w36 ab ([.int .u8 0, .int .u32 0, .slice none (0) (0)]) 50 := (((f114.no k34).no k35).no k36)
              refine R_gpu rfl rfl (pu_loadK f126 (by kernel_rfl) rfl rfl) rfl ?_
              refine R_gpu rfl rfl (pu_true (pu_eql (p := (0 : Nat) = 0) rfl rfl (by omega)) (by decide)) rfl ?_
              refine R_pu (pu_pickt rfl rfl) rfl ?_
              refine R_pu (pu_move rfl) rfl ?_
              refine R_gpu rfl rfl (pu_fieldAddr (off := 2) (o' := 2) (by kernel_rfl) rfl rfl) rfl ?_
              refine R_gpu rfl rfl (pu_loadK f126 (by kernel_rfl) rfl rfl) rfl ?_
              refine R_gpu rfl rfl (pu_len Tryd.underlying22 rfl) rfl ?_
              refine R_gpu rfl rfl (pu_true (pu_eql (p := (0 : Nat) = 0) rfl rfl (by omega)) (by decide)) rfl ?_
              refine R_pu (pu_pickt rfl rfl) rfl ?_
              refine R_pu (pu_move rfl) rfl ?_
              have o127 : Gt w36 := (o125.no k36)
              refine R_glo rfl rfl (lo_call (by kernel_rfl) rfl (sure03 _ o127)) rfl ?_
              rintro _ w37 ⟨rfl, k37⟩
              have kk37 := kk36.then_ k37
              refine R_pu (pu_pickt rfl rfl) rfl ?_
              refine R_pu (pu_assign rfl) rfl ?_
              refine R_nil ?_
              refine X_then hK124 ?_
              refine C_ret ?_
              refine X_then_ret ?_
              exact X_ret1 (.inl rfl) rfl rfl ⟨rfl, kk37⟩
            · refine R_pu (pu_false (pu_move rfl) g16_2) rfl ?_
              refine R_gpu rfl rfl (pu_move rfl) rfl ?_
              refine R_gpu rfl rfl (pu_conv (z := ((ix : Nat) : Int)) Tryd.underlying5 Tryd.underlying3 rfl (by have : ix < 256 := hix; rw [IntKind.wrap_i64]; omega)) rfl ?_
              refine R_gpu rfl rfl (pu_fieldAddr (off := 1) (o' := 1) (by kernel_rfl) rfl rfl) rfl ?_
              have f128 : Bk w35 p0_0 ([.int .i64 ((q + 1 : Nat) : Int), .int .i64 ((nn : Nat) : Int), .int .u32 ((ge : Nat) : Int)]) 25 := ((f113.no k34).no k35)
              refine R_gpu rfl rfl (pu_loadK f128 (by kernel_rfl) rfl rfl) rfl ?_
              refine R_gpu rfl rfl (pu_true (pu_gtr (p := ix > nn) rfl rfl (by omega)) (by omega)) rfl ?_
              refine R_pu (pu_pickf rfl rfl) rfl ?_
              refine R_nil ?_
              refine X_then hK123 ?_
              refine C_true rfl ?_
              refine C_seq (fun K129 hK129 => ?_)
              refine C_region ?_
              refine R_pu (pu_move rfl) rfl ?_
              have o130 : Gt w35 := (o121.no k35)
              refine R_lo (lo_call (by kernel_rfl) rfl (num03_err 1 _ o130)) rfl ?_
              rintro _ w38 ⟨rfl, k38⟩
              have kk38 := kk35.then_ k38
              refine R_pu (pu_true (pu_eql (p := (1 : Nat) = 1) rfl rfl (by omega)) (by decide)) rfl ?_
              refine R_pu (pu_move rfl) rfl ?_
              refine R_gpu rfl rfl (pu_fieldAddr (off := 0) (o' := 0) (by kernel_rfl) rfl rfl) rfl ?_
              have f131 : Bk w38 ab ([.int .u8 0, .int .u32 0, .slice none (0) (0)]) 50 := (((f114.no k34).no k35).no k38)
              refine R_gpu rfl rfl (pu_loadK f131 (by kernel_rfl) rfl rfl) rfl ?_
              refine R_gpu rfl rfl (pu_true (pu_eql (p := (0 : Nat) = 0) rfl rfl (by omega)) (by decide)) rfl ?_
              refine R_pu (pu_pickt rfl rfl) rfl ?_
              refine R_pu (pu_move rfl) rfl ?_
              refine R_gpu rfl rfl (pu_fieldAddr (off := 2) (o' := 2) (by kernel_rfl) rfl rfl) rfl ?_
              refine R_gpu rfl rfl (pu_loadK f131 (by kernel_rfl) rfl rfl) rfl ?_
              refine R_gpu rfl rfl (pu_len Tryd.underlying22 rfl) rfl ?_
              refine R_gpu rfl rfl (pu_true (pu_eql (p := (0 : Nat) = 0) rfl rfl (by omega)) (by decide)) rfl ?_
              refine R_pu (pu_pickt rfl rfl) rfl ?_
              refine R_pu (pu_move rfl) rfl ?_
              have o132 : Gt w38 := (o130.no k38)
              refine R_glo rfl rfl (lo_call (by kernel_rfl) rfl (sure03 _ o132)) rfl ?_
              rintro _ w39 ⟨rfl, k39⟩
              have kk39 := kk38.then_ k39
              refine R_pu (pu_pickt rfl rfl) rfl ?_
              refine R_pu (pu_assign rfl) rfl ?_
              refine R_nil ?_
              refine X_then hK129 ?_
              refine C_ret ?_
              refine X_then_ret ?_
              exact X_ret1 (.inl rfl) rfl rfl ⟨rfl, kk39⟩
        · have f133 : Bk w12 p0_0 ([.int .i64 ((q + 1 : Nat) : Int), .int .i64 ((nn : Nat) : Int), .int .u32 ((ge : Nat) : Int)]) 25 := (f31.no k12)
          have o134 : Gt w12 := (o32.no k12)
          have o135 : Tb w12 b8_0 := (o33.no k12)
          have ob136 := ((Q10.keptNo k11).keptNo k12)
          have ob137 := (Q11.keptNo k12)
          refine Nx_lo rfl (lo_alloc (L := [.int .u8 0, .int .u32 0, .slice none (0) (0)]) (by kernel_rfl)) rfl ?_
          rintro _ w40 ⟨ab, rfl, N40⟩
          have k40 := N40.kp
          have kk40 := kk12.then_ k40
          have ne_ab_p0_0 : ab ≠ p0_0 := Nat.ne_of_gt (Nat.lt_of_lt_of_le f133.lt N40.le)
          have ne_ab_0 : ab ≠ 0 := Nat.ne_of_gt (Nat.lt_of_lt_of_le o134.lt N40.le)
          have ne_ab_b8_0 : ab ≠ b8_0 := Nat.ne_of_gt (Nat.lt_of_lt_of_le o135.lt N40.le)
          have f_ab_40 : Bk w40 ab ([.int .u8 0, .int .u32 0, .slice none (0) (0)]) 50 := N40.bk
          have f138 : Bk w40 p0_0 ([.int .i64 ((q + 1 : Nat) : Int), .int .i64 ((nn : Nat) : Int), .int .u32 ((ge : Nat) : Int)]) 25 := (f133.no k40)
          have o139 : Gt w40 := (o134.no k40)
          have o140 : Tb w40 b8_0 := (o135.no k40)
          refine ⟨⟨kk40, f138, o139, o140⟩, ?_⟩
          refine D_one 2 (by kernel_rfl) (Nx_lo rfl (lo_call (by kernel_rfl) rfl (give_shares A L c _ (HS.keptNo kk40) (by omega))) rfl ?_)
          rintro _ w41 ⟨A_gv11, c_gv11, rfl, Q41, hc_gv11, hb_gv11, k41⟩
          have kk41 := kk40.then_ k41
          have f141 : Bk w41 p0_0 ([.int .i64 ((q + 1 : Nat) : Int), .int .i64 ((nn : Nat) : Int), .int .u32 ((ge : Nat) : Int)]) 25 := (f138.no k41)
          have o142 : Gt w41 := (o139.no k41)
          have o143 : Tb w41 b8_0 := (o140.no k41)
          refine ⟨⟨kk41, f141, o142, o143⟩, ?_⟩
          refine D_one 5 (by kernel_rfl) (Nx_lo rfl (lo_call (by kernel_rfl) rfl (shamir_at_idx b8_0 A_gv11 L c_gv11 ((q + 1 : Nat) : Int) ((nn : Nat) : Int) ge ix _ Q41 ⟨hix, (by omega)⟩)) rfl ?_)
          rintro _ w42 ⟨rfl, k42⟩
          have kk42 := kk41.then_ k42
          have f144 : Bk w42 p0_0 ([.int .i64 ((q + 1 : Nat) : Int), .int .i64 ((nn : Nat) : Int), .int .u32 ((ge : Nat) : Int)]) 25 := (f141.no k42)
          have o145 : Gt w42 := (o142.no k42)
          have o146 : Tb w42 b8_0 := (o143.no k42)
          refine ⟨⟨kk42, f144, o145, o146⟩, ?_⟩
          refine D_take 6 rfl (by kernel_rfl) (by kernel_rfl) (by kernel_rfl) (fun _ _ _ h => h) rfl (fun W hS => pu_move rfl) ?_
          refine D_take 7 rfl (by kernel_rfl) (by kernel_rfl) (by kernel_rfl) (fun _ _ _ h => h) rfl (fun W hS => pu_extract rfl rfl) ?_
          refine D_take 8 rfl (by kernel_rfl) (by kernel_rfl) (by kernel_rfl) (fun _ _ _ h => h) rfl (fun W hS => pu_extract rfl rfl) ?_
          have f147 : Bk w42 ab ([.int .u8 0, .int .u32 0, .slice none (0) (0)]) 50 := ((f_ab_40.no k41).no k42)
          refine D_one 10 (by kernel_rfl) (Nx_lo0 rfl (lo_storeRow (C := [.int .u8 0, .int .u32 0, .slice none (0) (0)]) f147 (by kernel_rfl) rfl rfl (by intro u hu; simp at hu; rcases hu with rfl | rfl | rfl <;> rfl) rfl) ?_)
          rintro _ w43 kf43
          obtain ⟨k43, f_ab_43⟩ := kf43
          replace f_ab_43 : Bk w43 ab ([.int .u8 0, .int .u32 0, .slice none (0) (0)]) 50 := f_ab_43
          have kk43 := kk42.trans k43 (fun i hi => .inr (hi ▸ (Nat.le_trans kk12.size N40.le)))
          have f148 : Bk w43 p0_0 ([.int .i64 ((q + 1 : Nat) : Int), .int .i64 ((nn : Nat) : Int), .int .u32 ((ge : Nat) : Int)]) 25 := (f144.on k43 (Ne.symm ne_ab_p0_0))
          have o149 : Gt w43 := (o145.on k43 (Ne.symm ne_ab_0))
          have o150 : Tb w43 b8_0 := (o146.on k43 (Ne.symm ne_ab_b8_0))
          refine ⟨⟨kk43, f148, o149, o150⟩, ?_⟩
          refine D_take 11 rfl (by kernel_rfl) (by kernel_rfl) (by kernel_rfl) (fun _ _ _ h => h) rfl (fun W hS => pu_assign rfl) ?_
          refine D_done (by kernel_rfl) ?_
          refine X_then hK30 ?_
          refine C_seq (fun K151 hK151 => ?_)
          refine C_region ?_
          refine R_pu (pu_move rfl) rfl ?_
          refine R_pu (pu_loadRow (len := 3) f148 (by kernel_rfl) (by kernel_rfl) rfl rfl) rfl ?_
          refine R_pu (pu_move rfl) rfl ?_
          have ob153 := ((((ob136.keptNo k40).keptNo k41).keptNo k42).onN k43 ob136 N40.le)
          have lm152 := ob153.top
          have ob155 := ((((ob137.keptNo k40).keptNo k41).keptNo k42).onN k43 ob137 N40.le)
          have lm154 := ob155.top
          refine R_lo (lo_call (by kernel_rfl) rfl (ref03_combine A L c q nn ge ix N _ (HS.keptNo kk43) ⟨hk.1, ⟨hk.2.1, hc, hs⟩, hge, hk.2.2⟩ hix)) rfl ?_
          rintro _ w44 ⟨A_td, c_td, rfl, Q44, k44⟩
          have kk44 := kk43.then_ k44
          have z156 : w43.heap.size ≤ w44.heap.size := k44.size
          refine R_pu (pu_move rfl) rfl ?_
          refine R_pu (pu_extract rfl rfl) rfl ?_
          refine R_pu (pu_extract rfl rfl) rfl ?_
          refine R_pu (pu_assign rfl) rfl ?_
          refine R_pu (pu_assign rfl) rfl ?_
          refine R_nil ?_
          refine X_then hK151 ?_
          refine C_seq (fun K157 hK157 => ?_)
          have f158 : Bk w44 p0_0 ([.int .i64 ((q + 1 : Nat) : Int), .int .i64 ((nn : Nat) : Int), .int .u32 ((ge : Nat) : Int)]) 25 := (f148.no k44)
          have f159 : Bk w44 ab ([.int .u8 0, .int .u32 0, .slice none (0) (0)]) 50 := (f_ab_43.no k44)
          have o160 : Gt w44 := (o149.no k44)
          have o161 : Tb w44 b8_0 := (o150.no k44)
          refine D_begin (fun W => Kp No w W ∧ Bk W p0_0 ([.int .i64 ((q + 1 : Nat) : Int), .int .i64 ((nn : Nat) : Int), .int .u32 ((ge : Nat) : Int)]) 25 ∧ Bk W ab ([.int .u8 0, .int .u32 0, .slice none (0) (0)]) 50 ∧ Gt W ∧ Tb W b8_0) 9 rfl (by kernel_rfl) ⟨kk44.drew, f158.draw, f159.draw, o160.draw, o161.draw⟩ ?_
          intro w45 k45 _
          have kk45 := kk44.then_ k45
          refine D_take 0 rfl (by kernel_rfl) (by kernel_rfl) (by kernel_rfl) (fun _ _ _ h => h) rfl (fun W hS => pu_move rfl) ?_
          refine D_take 2 rfl (by kernel_rfl) (by kernel_rfl) (by kernel_rfl) (fun _ _ _ h => h) rfl (fun W hS => pu_loadRow (len := 3) hS.2.1 (by kernel_rfl) (by kernel_rfl) rfl rfl) ?_
          have o162 : Tb w45 b8_0 := (o161.no k45)
          refine D_one 1 (by kernel_rfl) (Nx_lo rfl (lo_call (by kernel_rfl) rfl (give_shares A L c _ (HS.keptNo kk45) (by omega))) rfl ?_)
          rintro _ w46 ⟨A_gv13, c_gv13, rfl, Q46, hc_gv13, hb_gv13, k46⟩
          have kk46 := kk45.then_ k46
          have f163 : Bk w46 p0_0 ([.int .i64 ((q + 1 : Nat) : Int), .int .i64 ((nn : Nat) : Int), .int .u32 ((ge : Nat) : Int)]) 25 := ((f158.no k45).no k46)
          have f164 : Bk w46 ab ([.int .u8 0, .int .u32 0, .slice none (0) (0)]) 50 := ((f159.no k45).no k46)
          have o165 : Gt w46 := ((o160.no k45).no k46)
          have o166 : Tb w46 b8_0 := (o162.no k46)
          refine ⟨⟨kk46, f163, f164, o165, o166⟩, ?_⟩
          refine D_one 3 (by kernel_rfl) (Nx_lo rfl (lo_call (by kernel_rfl) rfl (shamir_combine_nil A_gv13 L c_gv13 ((q + 1 : Nat) : Int) ((nn : Nat) : Int) ge _ Q46 ⟨hge, hs⟩)) rfl ?_)
          rintro _ w47 ⟨rfl, k47⟩
          have kk47 := kk46.then_ k47
          have f167 : Bk w47 p0_0 ([.int .i64 ((q + 1 : Nat) : Int), .int .i64 ((nn : Nat) : Int), .int .u32 ((ge : Nat) : Int)]) 25 := (f163.no k47)
          have f168 : Bk w47 ab ([.int .u8 0, .int .u32 0, .slice none (0) (0)]) 50 := (f164.no k47)
          have o169 : Gt w47 := (o165.no k47)
          have o170 : Tb w47 b8_0 := (o166.no k47)
          refine ⟨⟨kk47, f167, f168, o169, o170⟩, ?_⟩
          refine D_take 4 rfl (by kernel_rfl) (by kernel_rfl) (by kernel_rfl) (fun _ _ _ h => h) rfl (fun W hS => pu_move rfl) ?_
          refine D_take 5 rfl (by kernel_rfl) (by kernel_rfl) (by kernel_rfl) (fun _ _ _ h => h) rfl (fun W hS => pu_extract rfl rfl) ?_
          refine D_take 6 rfl (by kernel_rfl) (by kernel_rfl) (by kernel_rfl) (fun _ _ _ h => h) rfl (fun W hS => pu_extract rfl rfl) ?_
          refine D_take 7 rfl (by kernel_rfl) (by kernel_rfl) (by kernel_rfl) (fun _ _ _ h => h) rfl (fun W hS => pu_assign rfl) ?_
          refine D_take 8 rfl (by kernel_rfl) (by kernel_rfl) (by kernel_rfl) (fun _ _ _ h => h) rfl (fun W hS => pu_assign rfl) ?_
          refine D_done (by kernel_rfl) ?_
          refine X_then hK157 ?_
          refine C_seq (fun K171 hK171 => ?_)
          refine C_seq (fun K172 hK172 => ?_)
          refine C_region ?_
          refine R_pu (pu_move rfl) rfl ?_
          have ob173 := ((((ob153.keptNo k44).keptNo k45).keptNo k46).keptNo k47)
          refine R_pu (pu_bstr ob173.bs Tryd.underlying22 Tryd.underlying5 Tryd.underlying9 rfl rfl) rfl ?_
          refine R_pu (pu_move rfl) rfl ?_
          have ob174 := ((((ob155.keptNo k44).keptNo k45).keptNo k46).keptNo k47)
          refine R_pu (pu_bstr ob174.bs Tryd.underlying22 Tryd.underlying5 Tryd.underlying9 rfl rfl) rfl ?_
          refine R_pu (pu_false (pu_neqs (p := (thX (L.take (q + 1)) N 0) = (thX (L.take (q + 1)) N 0)) rfl rfl (bstr_inj (ob173.bs).byte (ob174.bs).byte)) (fun h => h rfl)) rfl ?_
          refine R_pu (pu_move rfl) rfl ?_
          refine R_gpu rfl rfl (pu_move rfl) rfl ?_
          refine R_glo rfl rfl (lo_call (by kernel_rfl) rfl (num03_nil _)) rfl ?_
          rintro _ w48 ⟨rfl, k48⟩
          have kk48 := kk47.then_ k48
          refine R_gpu rfl rfl (pu_move rfl) rfl ?_
          refine R_gpu rfl rfl (pu_false (pu_neq (p := (0 : Nat) = 0) rfl rfl (by omega)) (by decide)) rfl ?_
          refine R_pu (pu_pickf rfl rfl) rfl ?_
          refine R_pu (pu_move rfl) rfl ?_
          refine R_gpu rfl rfl (pu_move rfl) rfl ?_
          have o175 : Gt w48 := (o169.no k48)
          refine R_glo rfl rfl (lo_call (by kernel_rfl) rfl (num03_err 1 _ o175)) rfl ?_
          rintro _ w49 ⟨rfl, k49⟩
          have kk49 := kk48.then_ k49
          refine R_gpu rfl rfl (pu_false (pu_neq (p := (1 : Nat) = 1) rfl rfl (by omega)) (by decide)) rfl ?_
          refine R_pu (pu_pickf rfl rfl) rfl ?_
          refine R_nil ?_
          refine X_then hK172 ?_
          refine C_false rfl ?_
          refine C_skip ?_
          refine X_then hK171 ?_
          refine C_seq (fun K176 hK176 => ?_)
          refine C_seq (fun K177 hK177 => ?_)
          refine C_region ?_
          refine R_pu (pu_move rfl) rfl ?_
          refine R_pu (pu_eql (p := ix = 0) rfl rfl (by omega)) rfl ?_
          by_cases g16_2 : ix = 0
          · refine R_pu (pu_true (pu_move rfl) g16_2) rfl ?_
            refine R_gno rfl rfl rfl rfl ?_
            refine R_gno rfl rfl rfl rfl ?_
            refine R_gno rfl rfl rfl rfl ?_
            refine R_gno rfl rfl rfl rfl ?_
            refine R_gno rfl rfl rfl rfl ?_
            refine R_pu (pu_pickt rfl rfl) rfl ?_
            refine R_nil ?_
            refine X_then hK177 ?_
            refine C_true rfl ?_
            refine C_seq (fun K178 hK178 => ?_)
            refine C_region ?_
            refine R_pu (pu_move rfl) rfl ?_
            have o179 : Gt w49 := (o175.no k49)
            refine R_lo (lo_call (by kernel_rfl) rfl (num03_err 1 _ o179)) rfl ?_
            rintro _ w50 ⟨rfl, k50⟩
            have kk50 := kk49.then_ k50
            refine R_pu (pu_true (pu_eql (p := (1 : Nat) = 1) rfl rfl (by omega)) (by decide)) rfl ?_
            refine R_pu (pu_move rfl) rfl ?_
            refine R_gpu rfl rfl (pu_fieldAddr (off := 0) (o' := 0) (by kernel_rfl) rfl rfl) rfl ?_
            have f180 : Bk w50 ab ([.int .u8 0, .int .u32 0, .slice none (0) (0)]) 50 := (((f168.no k48).no k49).no k50)
            refine R_gpu rfl rfl (pu_loadK f180 (by kernel_rfl) rfl rfl) rfl ?_
            refine R_gpu rfl rfl (pu_true (pu_eql (p := (0 : Nat) = 0) rfl rfl (by omega)) (by decide)) rfl ?_
            refine R_pu (pu_pickt rfl rfl) rfl ?_
            refine R_pu (pu_move rfl) rfl ?_
            refine R_gpu rfl rfl (pu_fieldAddr (off := 2) (o' := 2) (by kernel_rfl) rfl rfl) rfl ?_
            refine R_gpu rfl rfl (pu_loadK f180 (by kernel_rfl) rfl rfl) rfl ?_
            refine R_gpu rfl rfl (pu_len Tryd.underlying22 rfl) rfl ?_
            refine R_gpu rfl rfl (pu_true (pu_eql (p := (0 : Nat) = 0) rfl rfl (by omega)) (by decide)) rfl ?_
            refine R_pu (pu_pickt rfl rfl) rfl ?_
            refine R_pu (pu_move rfl) rfl ?_
            have o181 : Gt w50 := (o179.no k50)
            refine R_glo rfl rfl (lo_call (by kernel_rfl) rfl (sure03 _ o181)) rfl ?_
            rintro _ w51 ⟨rfl, k51⟩
            have kk51 := kk50.then_ k51
            refine R_pu (pu_pickt rfl rfl) rfl ?_
            refine R_pu (pu_assign rfl) rfl ?_
            refine R_nil ?_
            refine X_then hK178 ?_
            refine C_ret ?_
            refine X_then_ret ?_
            exact X_ret1 (.inl rfl) rfl rfl ⟨rfl, kk51⟩
          · refine R_pu (pu_false (pu_move rfl) g16_2) rfl ?_
            refine R_gpu rfl rfl (pu_move rfl) rfl ?_
            refine R_gpu rfl rfl (pu_conv (z := ((ix : Nat) : Int)) Tryd.underlying5 Tryd.underlying3 rfl (by have : ix < 256 := hix; rw [IntKind.wrap_i64]; omega)) rfl ?_
            refine R_gpu rfl rfl (pu_fieldAddr (off := 1) (o' := 1) (by kernel_rfl) rfl rfl) rfl ?_
            have f182 : Bk w49 p0_0 ([.int .i64 ((q + 1 : Nat) : Int), .int .i64 ((nn : Nat) : Int), .int .u32 ((ge : Nat) : Int)]) 25 := ((f167.no k48).no k49)
            refine R_gpu rfl rfl (pu_loadK f182 (by kernel_rfl) rfl rfl) rfl ?_
            refine R_gpu rfl rfl (pu_true (pu_gtr (p := ix > nn) rfl rfl (by omega)) (by omega)) rfl ?_
            refine R_pu (pu_pickf rfl rfl) rfl ?_
            refine R_nil ?_
            refine X_then hK177 ?_
            refine C_true rfl ?_
            refine C_seq (fun K183 hK183 => ?_)
            refine C_region ?_
            refine R_pu (pu_move rfl) rfl ?_
            have o184 : Gt w49 := (o175.no k49)
            refine R_lo (lo_call (by kernel_rfl) rfl (num03_err 1 _ o184)) rfl ?_
            rintro _ w52 ⟨rfl, k52⟩
            have kk52 := kk49.then_ k52
            refine R_pu (pu_true (pu_eql (p := (1 : Nat) = 1) rfl rfl (by omega)) (by decide)) rfl ?_
            refine R_pu (pu_move rfl) rfl ?_
            refine R_gpu rfl rfl (pu_fieldAddr (off := 0) (o' := 0) (by kernel_rfl) rfl rfl) rfl ?_
            have f185 : Bk w52 ab ([.int .u8 0, .int .u32 0, .slice none (0) (0)]) 50 := (((f168.no k48).no k49).no k52)
            refine R_gpu rfl rfl (pu_loadK f185 (by kernel_rfl) rfl rfl) rfl ?_
            refine R_gpu rfl rfl (pu_true (pu_eql (p := (0 : Nat) = 0) rfl rfl (by omega)) (by decide)) rfl ?_
            refine R_pu (pu_pickt rfl rfl) rfl ?_
            refine R_pu (pu_move rfl) rfl ?_
            refine R_gpu rfl rfl (pu_fieldAddr (off := 2) (o' := 2) (by kernel_rfl) rfl rfl) rfl ?_
            refine R_gpu rfl rfl (pu_loadK f185 (by kernel_rfl) rfl rfl) rfl ?_
            refine R_gpu rfl rfl (pu_len Tryd.underlying22 rfl) rfl ?_
            refine R_gpu rfl rfl (pu_true (pu_eql (p := (0 : Nat) = 0) rfl rfl (by omega)) (by decide)) rfl ?_
            refine R_pu (pu_pickt rfl rfl) rfl ?_
            refine R_pu (pu_move rfl) rfl ?_
            have o186 : Gt w52 := (o184.no k52)
            refine R_glo rfl rfl (lo_call (by kernel_rfl) rfl (sure03 _ o186)) rfl ?_
            rintro _ w53 ⟨rfl, k53⟩
            have kk53 := kk52.then_ k53
            refine R_pu (pu_pickt rfl rfl) rfl ?_
            refine R_pu (pu_assign rfl) rfl ?_
            refine R_nil ?_
            refine X_then hK183 ?_
            refine C_ret ?_
            refine X_then_ret ?_
            exact X_ret1 (.inl rfl) rfl rfl ⟨rfl, kk53⟩
      · refine R_lo (lo_call (by kernel_rfl) rfl (gf_new _)) rfl ?_
        rintro _ w54 ⟨b8_0, rfl, le54, T54, k54⟩
        have kk54 := kk5.then_ k54
        have ne_b8_0_p0_0 : b8_0 ≠ p0_0 := Nat.ne_of_gt (Nat.lt_of_lt_of_le f_p0_0_5.lt le54)
        have ne_b8_0_0 : b8_0 ≠ 0 := Nat.ne_of_gt (Nat.lt_of_lt_of_le G_5.lt le54)
        refine R_pu (pu_assign rfl) rfl ?_
        refine R_nil ?_
        refine X_then hK16 ?_
        refine C_seq (fun K187 hK187 => ?_)
        have f188 : Bk w54 p0_0 ([.int .i64 ((q + 1 : Nat) : Int), .int .i64 ((nn : Nat) : Int), .int .u32 ((ge : Nat) : Int)]) 25 := (f_p0_0_5.no k54)
        have o189 : Gt w54 := (G_5.no k54)
        refine D_begin (fun W => Kp No w W ∧ Bk W p0_0 ([.int .i64 ((q + 1 : Nat) : Int), .int .i64 ((nn : Nat) : Int), .int .u32 ((ge : Nat) : Int)]) 25 ∧ Gt W ∧ Tb W b8_0) 10 rfl (by kernel_rfl) ⟨kk54.drew, f188.draw, o189.draw, T54.draw⟩ ?_
        intro w55 k55 _
        have kk55 := kk54.then_ k55
        refine D_take 0 rfl (by kernel_rfl) (by kernel_rfl) (by kernel_rfl) (fun _ _ _ h => h) rfl (fun W hS => pu_move rfl) ?_
        refine D_take 1 rfl (by kernel_rfl) (by kernel_rfl) (by kernel_rfl) (fun _ _ _ h => h) rfl (fun W hS => pu_move rfl) ?_
        refine D_take 3 rfl (by kernel_rfl) (by kernel_rfl) (by kernel_rfl) (fun _ _ _ h => h) rfl (fun W hS => pu_loadRow (len := 3) hS.2.1 (by kernel_rfl) (by kernel_rfl) rfl rfl) ?_
        have o190 : Tb w55 b8_0 := (T54.no k55)
        refine D_one 2 (by kernel_rfl) (Nx_lo rfl (lo_call (by kernel_rfl) rfl (give_shares A L c _ (HS.keptNo kk55) (by omega))) rfl ?_)
        rintro _ w56 ⟨A_gv9, c_gv9, rfl, Q56, hc_gv9, hb_gv9, k56⟩
        have kk56 := kk55.then_ k56
        have f191 : Bk w56 p0_0 ([.int .i64 ((q + 1 : Nat) : Int), .int .i64 ((nn : Nat) : Int), .int .u32 ((ge : Nat) : Int)]) 25 := ((f188.no k55).no k56)
        have o192 : Gt w56 := ((o189.no k55).no k56)
        have o193 : Tb w56 b8_0 := (o190.no k56)
        refine ⟨⟨kk56, f191, o192, o193⟩, ?_⟩
        refine D_one 4 (by kernel_rfl) (Nx_lo rfl (lo_call (by kernel_rfl) rfl (shamir_combine b8_0 A_gv9 L c_gv9 q nn ge N _ Q56 ⟨hk.1, ⟨hk.2.1, hc_gv9, hs⟩, hge, hk.2.2⟩ (Aws.handed hb_gv9 o190.lt (HS.aw (Nat.le_trans kk5.size le54))) o193)) rfl ?_)
        rintro _ w57 ⟨A_ta, c_ta, rfl, Q57, T57, k57⟩
        have kk57 := kk56.trans k57 (fun i hi => .inr (hi ▸ (Nat.le_trans kk5.size le54)))
        have z194 : w56.heap.size ≤ w57.heap.size := k57.size
        have f195 : Bk w57 p0_0 ([.int .i64 ((q + 1 : Nat) : Int), .int .i64 ((nn : Nat) : Int), .int .u32 ((ge : Nat) : Int)]) 25 := (f191.on k57 (Ne.symm ne_b8_0_p0_0))
        have o196 : Gt w57 := (o192.on k57 (Ne.symm ne_b8_0_0))
        refine ⟨⟨kk57, f195, o196, T57⟩, ?_⟩
        refine D_take 5 rfl (by kernel_rfl) (by kernel_rfl) (by kernel_rfl) (fun _ _ _ h => h) rfl (fun W hS => pu_move rfl) ?_
        refine D_take 6 rfl (by kernel_rfl) (by kernel_rfl) (by kernel_rfl) (fun _ _ _ h => h) rfl (fun W hS => pu_extract rfl rfl) ?_
        refine D_take 7 rfl (by kernel_rfl) (by kernel_rfl) (by kernel_rfl) (fun _ _ _ h => h) rfl (fun W hS => pu_extract rfl rfl) ?_
        refine D_take 8 rfl (by kernel_rfl) (by kernel_rfl) (by kernel_rfl) (fun _ _ _ h => h) rfl (fun W hS => pu_assign rfl) ?_
        refine D_take 9 rfl (by kernel_rfl) (by kernel_rfl) (by kernel_rfl) (fun _ _ _ h => h) rfl (fun W hS => pu_assign rfl) ?_
        refine D_done (by kernel_rfl) ?_
        refine X_then hK187 ?_
        refine C_seq (fun K197 hK197 => ?_)
        refine C_region ?_
        refine R_pu (pu_move rfl) rfl ?_
        refine R_pu (pu_loadRow (len := 3) f195 (by kernel_rfl) (by kernel_rfl) rfl rfl) rfl ?_
        have lm198 := Q57.top
        refine R_lo (lo_call (by kernel_rfl) rfl (ref03_combine A L c q nn ge 0 N _ (HS.keptNo kk57) ⟨hk.1, ⟨hk.2.1, hc, hs⟩, hge, hk.2.2⟩ (by decide))) rfl ?_
        rintro _ w58 ⟨A_tb, c_tb, rfl, Q58, k58⟩
        have kk58 := kk57.then_ k58
        have z199 : w57.heap.size ≤ w58.heap.size := k58.size
        refine R_pu (pu_move rfl) rfl ?_
        refine R_pu (pu_extract rfl rfl) rfl ?_
        refine R_pu (pu_extract rfl rfl) rfl ?_
        refine R_pu (pu_assign rfl) rfl ?_
        refine R_pu (pu_assign rfl) rfl ?_
        refine R_nil ?_
        refine X_then hK197 ?_
        refine C_seq (fun K200 hK200 => ?_)
        have f201 : Bk w58 p0_0 ([.int .i64 ((q + 1 : Nat) : Int), .int .i64 ((nn : Nat) : Int), .int .u32 ((ge : Nat) : Int)]) 25 := (f195.no k58)
        have o202 : Gt w58 := (o196.no k58)
        have o203 : Tb w58 b8_0 := (T57.no k58)
        refine D_begin (fun W => Kp No w W ∧ Bk W p0_0 ([.int .i64 ((q + 1 : Nat) : Int), .int .i64 ((nn : Nat) : Int), .int .u32 ((ge : Nat) : Int)]) 25 ∧ Gt W ∧ Tb W b8_0) 12 rfl (by kernel_rfl) ⟨kk58.drew, f201.draw, o202.draw, o203.draw⟩ ?_
        intro w59 k59 _
        have kk59 := kk58.then_ k59
        refine D_take 0 rfl (by kernel_rfl) (by kernel_rfl) (by kernel_rfl) (fun _ _ _ h => h) rfl (fun W hS => pu_move rfl) ?_
        refine D_take 1 rfl (by kernel_rfl) (by kernel_rfl) (by kernel_rfl) (fun _ _ _ h => h) rfl (fun W hS => pu_move rfl) ?_
        refine D_take 3 rfl (by kernel_rfl) (by kernel_rfl) (by kernel_rfl) (fun _ _ _ h => h) rfl (fun W hS => pu_loadRow (len := 3) hS.2.1 (by kernel_rfl) (by kernel_rfl) rfl rfl) ?_
        refine D_take 4 rfl (by kernel_rfl) (by kernel_rfl) (by kernel_rfl) (fun _ _ _ h => h) rfl (fun W hS => pu_move rfl) ?_
        refine D_two 2 9 (by kernel_rfl) ?_ ?_
        · have o204 : Tb w59 b8_0 := (o203.no k59)
          refine Nx_lo rfl (lo_call (by kernel_rfl) rfl (give_shares A L c _ (HS.keptNo kk59) (by omega))) rfl ?_
          rintro _ w60 ⟨A_gv11, c_gv11, rfl, Q60, hc_gv11, hb_gv11, k60⟩
          have kk60 := kk59.then_ k60
          have f205 : Bk w60 p0_0 ([.int .i64 ((q + 1 : Nat) : Int), .int .i64 ((nn : Nat) : Int), .int .u32 ((ge : Nat) : Int)]) 25 := ((f201.no k59).no k60)
          have o206 : Gt w60 := ((o202.no k59).no k60)
          have o207 : Tb w60 b8_0 := (o204.no k60)
          refine ⟨⟨kk60, f205, o206, o207⟩, ?_⟩
          refine D_two 5 9 (by kernel_rfl) ?_ ?_
          · have ob209 := (((Q57.keptNo k58).keptNo k59).keptNo k60)
            have lm208 := ob209.top
            have ob211 := ((Q58.keptNo k59).keptNo k60)
            have lm210 := ob211.top
            refine Nx_lo rfl (lo_call (by kernel_rfl) rfl (shamir_at b8_0 A_gv11 L c_gv11 q nn ge ix N _ Q60 ⟨hk.1, ⟨hk.2.1, hc_gv11, hs⟩, hge, hk.2.2⟩ hix ⟨by omega, by omega⟩ (Aws.handed hb_gv11 o204.lt (HS.aw (Nat.le_trans kk5.size le54))) o207)) rfl ?_
            rintro _ w61 ⟨A_tc, c_tc, rfl, Q61, T61, k61⟩
            have kk61 := kk60.trans k61 (fun i hi => .inr (hi ▸ (Nat.le_trans kk5.size le54)))
            have z212 : w60.heap.size ≤ w61.heap.size := k61.size
            have f213 : Bk w61 p0_0 ([.int .i64 ((q + 1 : Nat) : Int), .int .i64 ((nn : Nat) : Int), .int .u32 ((ge : Nat) : Int)]) 25 := (f205.on k61 (Ne.symm ne_b8_0_p0_0))
            have o214 : Gt w61 := (o206.on k61 (Ne.symm ne_b8_0_0))
            refine ⟨⟨kk61, f213, o214, T61⟩, ?_⟩
            refine D_take 6 rfl (by kernel_rfl) (by kernel_rfl) (by kernel_rfl) (fun _ _ _ h => h) rfl (fun W hS => pu_move rfl) ?_
            refine D_take 7 rfl (by kernel_rfl) (by kernel_rfl) (by kernel_rfl) (fun _ _ _ h => h) rfl (fun W hS => pu_extract rfl rfl) ?_
            refine D_take 8 rfl (by kernel_rfl) (by kernel_rfl) (by kernel_rfl) (fun _ _ _ h => h) rfl (fun W hS => pu_extract rfl rfl) ?_
            have ob215 := (ob209.on k61 (by have := o193.lt; omega))
            have ob216 := (ob211.on k61 (by have := T57.lt; omega))
            refine D_one 9 (by kernel_rfl) (Nx_lo rfl (lo_alloc (L := [.int .u8 0, .int .u32 0, .slice none (0) (0)]) (by kernel_rfl)) rfl ?_)
            rintro _ w62 ⟨ab, rfl, N62⟩
            have k62 := N62.kp
            have kk62 := kk61.then_ k62
            have ne_ab_p0_0 : ab ≠ p0_0 := Nat.ne_of_gt (Nat.lt_of_lt_of_le f213.lt N62.le)
            have ne_ab_0 : ab ≠ 0 := Nat.ne_of_gt (Nat.lt_of_lt_of_le o214.lt N62.le)
            have ne_ab_b8_0 : ab ≠ b8_0 := Nat.ne_of_gt (Nat.lt_of_lt_of_le T61.lt N62.le)
            have f_ab_62 : Bk w62 ab ([.int .u8 0, .int .u32 0, .slice none (0) (0)]) 50 := N62.bk
            have f217 : Bk w62 p0_0 ([.int .i64 ((q + 1 : Nat) : Int), .int .i64 ((nn : Nat) : Int), .int .u32 ((ge : Nat) : Int)]) 25 := (f213.no k62)
            have o218 : Gt w62 := (o214.no k62)
            have o219 : Tb w62 b8_0 := (T61.no k62)
            refine ⟨⟨kk62, f217, o218, o219⟩, ?_⟩
            refine D_one 10 (by kernel_rfl) (Nx_lo0 rfl (lo_storeRow (C := [.int .u8 ((ix : Nat) : Int), .int .u32 ((ge : Nat) : Int), .slice A_tc ((thX (L.take (q + 1)) N ix).length) (c_tc)]) f_ab_62 (by kernel_rfl) rfl rfl (by intro u hu; simp at hu; rcases hu with rfl | rfl | rfl <;> rfl) rfl) ?_)
            rintro _ w63 kf63
            obtain ⟨k63, f_ab_63⟩ := kf63
            replace f_ab_63 : Bk w63 ab ([.int .u8 ((ix : Nat) : Int), .int .u32 ((ge : Nat) : Int), .slice A_tc ((thX (L.take (q + 1)) N ix).length) (c_tc)]) 50 := f_ab_63
            have kk63 := kk62.trans k63 (fun i hi => .inr (hi ▸ (Nat.le_trans kk61.size N62.le)))
            have f220 : Bk w63 p0_0 ([.int .i64 ((q + 1 : Nat) : Int), .int .i64 ((nn : Nat) : Int), .int .u32 ((ge : Nat) : Int)]) 25 := (f217.on k63 (Ne.symm ne_ab_p0_0))
            have o221 : Gt w63 := (o218.on k63 (Ne.symm ne_ab_0))
            have o222 : Tb w63 b8_0 := (o219.on k63 (Ne.symm ne_ab_b8_0))
            refine ⟨⟨kk63, f220, o221, o222⟩, ?_⟩
            refine D_take 11 rfl (by kernel_rfl) (by kernel_rfl) (by kernel_rfl) (fun _ _ _ h => h) rfl (fun W hS => pu_assign rfl) ?_
            refine D_done (by kernel_rfl) ?_
            refine X_then hK200 ?_
            refine C_seq (fun K223 hK223 => ?_)
            refine C_region ?_
            refine R_pu (pu_move rfl) rfl ?_
            refine R_pu (pu_loadRow (len := 3) f220 (by kernel_rfl) (by kernel_rfl) rfl rfl) rfl ?_
            refine R_pu (pu_move rfl) rfl ?_
            have ob225 := ((ob215.keptNo k62).onN k63 ob215 N62.le)
            have lm224 := ob225.top
            have ob227 := ((ob216.keptNo k62).onN k63 ob216 N62.le)
            have lm226 := ob227.top
            have ob229 := ((Q61.keptNo k62).onN k63 Q61 N62.le)
            have lm228 := ob229.top
            refine R_lo (lo_call (by kernel_rfl) rfl (ref03_combine A L c q nn ge ix N _ (HS.keptNo kk63) ⟨hk.1, ⟨hk.2.1, hc, hs⟩, hge, hk.2.2⟩ hix)) rfl ?_
            rintro _ w64 ⟨A_td, c_td, rfl, Q64, k64⟩
            have kk64 := kk63.then_ k64
            have z230 : w63.heap.size ≤ w64.heap.size := k64.size
            refine R_pu (pu_move rfl) rfl ?_
            refine R_pu (pu_extract rfl rfl) rfl ?_
            refine R_pu (pu_extract rfl rfl) rfl ?_
            refine R_pu (pu_assign rfl) rfl ?_
            refine R_pu (pu_assign rfl) rfl ?_
            refine R_nil ?_
            refine X_then hK223 ?_
            refine C_seq (fun K231 hK231 => ?_)
            have f232 : Bk w64 p0_0 ([.int .i64 ((q + 1 : Nat) : Int), .int .i64 ((nn : Nat) : Int), .int .u32 ((ge : Nat) : Int)]) 25 := (f220.no k64)
            have f233 : Bk w64 ab ([.int .u8 ((ix : Nat) : Int), .int .u32 ((ge : Nat) : Int), .slice A_tc ((thX (L.take (q + 1)) N ix).length) (c_tc)]) 50 := (f_ab_63.no k64)
            have o234 : Gt w64 := (o221.no k64)
            have o235 : Tb w64 b8_0 := (o222.no k64)
            refine D_begin (fun W => Kp No w W ∧ Bk W p0_0 ([.int .i64 ((q + 1 : Nat) : Int), .int .i64 ((nn : Nat) : Int), .int .u32 ((ge : Nat) : Int)]) 25 ∧ Bk W ab ([.int .u8 ((ix : Nat) : Int), .int .u32 ((ge : Nat) : Int), .slice A_tc ((thX (L.take (q + 1)) N ix).length) (c_tc)]) 50 ∧ Gt W ∧ Tb W b8_0) 9 rfl (by kernel_rfl) ⟨kk64.drew, f232.draw, f233.draw, o234.draw, o235.draw⟩ ?_
            intro w65 k65 _
            have kk65 := kk64.then_ k65
            refine D_take 0 rfl (by kernel_rfl) (by kernel_rfl) (by kernel_rfl) (fun _ _ _ h => h) rfl (fun W hS => pu_move rfl) ?_
            refine D_take 2 rfl (by kernel_rfl) (by kernel_rfl) (by kernel_rfl) (fun _ _ _ h => h) rfl (fun W hS => pu_loadRow (len := 3) hS.2.1 (by kernel_rfl) (by kernel_rfl) rfl rfl) ?_
            have o236 : Tb w65 b8_0 := (o235.no k65)
            refine D_one 1 (by kernel_rfl) (Nx_lo rfl (lo_call (by kernel_rfl) rfl (give_shares A L c _ (HS.keptNo kk65) (by omega))) rfl ?_)
            rintro _ w66 ⟨A_gv13, c_gv13, rfl, Q66, hc_gv13, hb_gv13, k66⟩
            have kk66 := kk65.then_ k66
            have f237 : Bk w66 p0_0 ([.int .i64 ((q + 1 : Nat) : Int), .int .i64 ((nn : Nat) : Int), .int .u32 ((ge : Nat) : Int)]) 25 := ((f232.no k65).no k66)
            have f238 : Bk w66 ab ([.int .u8 ((ix : Nat) : Int), .int .u32 ((ge : Nat) : Int), .slice A_tc ((thX (L.take (q + 1)) N ix).length) (c_tc)]) 50 := ((f233.no k65).no k66)
            have o239 : Gt w66 := ((o234.no k65).no k66)
            have o240 : Tb w66 b8_0 := (o236.no k66)
            refine ⟨⟨kk66, f237, f238, o239, o240⟩, ?_⟩
            refine D_one 3 (by kernel_rfl) (Nx_lo rfl (lo_call (by kernel_rfl) rfl (shamir_combine_nil A_gv13 L c_gv13 ((q + 1 : Nat) : Int) ((nn : Nat) : Int) ge _ Q66 ⟨hge, hs⟩)) rfl ?_)
            rintro _ w67 ⟨rfl, k67⟩
            have kk67 := kk66.then_ k67
            have f241 : Bk w67 p0_0 ([.int .i64 ((q + 1 : Nat) : Int), .int .i64 ((nn : Nat) : Int), .int .u32 ((ge : Nat) : Int)]) 25 := (f237.no k67)
            have f242 : Bk w67 ab ([.int .u8 ((ix : Nat) : Int), .int .u32 ((ge : Nat) : Int), .slice A_tc ((thX (L.take (q + 1)) N ix).length) (c_tc)]) 50 := (f238.no k67)
            have o243 : Gt w67 := (o239.no k67)
            have o244 : Tb w67 b8_0 := (o240.no k67)
            refine ⟨⟨kk67, f241, f242, o243, o244⟩, ?_⟩
            refine D_take 4 rfl (by kernel_rfl) (by kernel_rfl) (by kernel_rfl) (fun _ _ _ h => h) rfl (fun W hS => pu_move rfl) ?_
            refine D_take 5 rfl (by kernel_rfl) (by kernel_rfl) (by kernel_rfl) (fun _ _ _ h => h) rfl (fun W hS => pu_extract rfl rfl) ?_
            refine D_take 6 rfl (by kernel_rfl) (by kernel_rfl) (by kernel_rfl) (fun _ _ _ h => h) rfl (fun W hS => pu_extract rfl rfl) ?_
            refine D_take 7 rfl (by kernel_rfl) (by kernel_rfl) (by kernel_rfl) (fun _ _ _ h => h) rfl (fun W hS => pu_assign rfl) ?_
            refine D_take 8 rfl (by kernel_rfl) (by kernel_rfl) (by kernel_rfl) (fun _ _ _ h => h) rfl (fun W hS => pu_assign rfl) ?_
            refine D_done (by kernel_rfl) ?_
            refine X_then hK231 ?_
            refine C_seq (fun K245 hK245 => ?_)
            refine C_seq (fun K246 hK246 => ?_)
            refine C_region ?_
            refine R_pu (pu_move rfl) rfl ?_
            have ob247 := ((((ob225.keptNo k64).keptNo k65).keptNo k66).keptNo k67)
            refine R_pu (pu_bstr ob247.bs Tryd.underlying22 Tryd.underlying5 Tryd.underlying9 rfl rfl) rfl ?_
            refine R_pu (pu_move rfl) rfl ?_
            have ob248 := ((((ob227.keptNo k64).keptNo k65).keptNo k66).keptNo k67)
            refine R_pu (pu_bstr ob248.bs Tryd.underlying22 Tryd.underlying5 Tryd.underlying9 rfl rfl) rfl ?_
            refine R_pu (pu_false (pu_neqs (p := (thX (L.take (q + 1)) N 0) = (thX (L.take (q + 1)) N 0)) rfl rfl (bstr_inj (ob247.bs).byte (ob248.bs).byte)) (fun h => h rfl)) rfl ?_
            refine R_pu (pu_move rfl) rfl ?_
            refine R_gpu rfl rfl (pu_move rfl) rfl ?_
            refine R_glo rfl rfl (lo_call (by kernel_rfl) rfl (num03_nil _)) rfl ?_
            rintro _ w68 ⟨rfl, k68⟩
            have kk68 := kk67.then_ k68
            refine R_gpu rfl rfl (pu_move rfl) rfl ?_
            refine R_gpu rfl rfl (pu_false (pu_neq (p := (0 : Nat) = 0) rfl rfl (by omega)) (by decide)) rfl ?_
            refine R_pu (pu_pickf rfl rfl) rfl ?_
            refine R_pu (pu_move rfl) rfl ?_
            refine R_gpu rfl rfl (pu_move rfl) rfl ?_
            have o249 : Gt w68 := (o243.no k68)
            refine R_glo rfl rfl (lo_call (by kernel_rfl) rfl (num03_err 1 _ o249)) rfl ?_
            rintro _ w69 ⟨rfl, k69⟩
            have kk69 := kk68.then_ k69
            refine R_gpu rfl rfl (pu_false (pu_neq (p := (1 : Nat) = 1) rfl rfl (by omega)) (by decide)) rfl ?_
            refine R_pu (pu_pickf rfl rfl) rfl ?_
            refine R_nil ?_
            refine X_then hK246 ?_
            refine C_false rfl ?_
            refine C_skip ?_
            refine X_then hK245 ?_
            refine C_seq (fun K250 hK250 => ?_)
            refine C_seq (fun K251 hK251 => ?_)
            refine C_region ?_
            refine R_pu (pu_move rfl) rfl ?_
            refine R_pu (pu_false (pu_eql (p := ix = 0) rfl rfl (by omega)) (by omega)) rfl ?_
            refine R_pu (pu_move rfl) rfl ?_
            refine R_gpu rfl rfl (pu_move rfl) rfl ?_
            refine R_gpu rfl rfl (pu_conv (z := ((ix : Nat) : Int)) Tryd.underlying5 Tryd.underlying3 rfl (by have : ix < 256 := hix; rw [IntKind.wrap_i64]; omega)) rfl ?_
            refine R_gpu rfl rfl (pu_fieldAddr (off := 1) (o' := 1) (by kernel_rfl) rfl rfl) rfl ?_
            have f252 : Bk w69 p0_0 ([.int .i64 ((q + 1 : Nat) : Int), .int .i64 ((nn : Nat) : Int), .int .u32 ((ge : Nat) : Int)]) 25 := ((f241.no k68).no k69)
            refine R_gpu rfl rfl (pu_loadK f252 (by kernel_rfl) rfl rfl) rfl ?_
            refine R_gpu rfl rfl (pu_false (pu_gtr (p := ix > nn) rfl rfl (by omega)) (by omega)) rfl ?_
            refine R_pu (pu_pickf rfl rfl) rfl ?_
            refine R_nil ?_
            refine X_then hK251 ?_
            refine C_false rfl ?_
            refine C_skip ?_
            refine X_then hK250 ?_
            refine C_seq (fun K253 hK253 => ?_)
            refine C_region ?_
            refine R_pu (pu_move rfl) rfl ?_
            refine R_lo (lo_call (by kernel_rfl) rfl (num03_nil _)) rfl ?_
            rintro _ w70 ⟨rfl, k70⟩
            have kk70 := kk69.then_ k70
            refine R_pu (pu_move rfl) rfl ?_
            refine R_pu (pu_true (pu_eql (p := (0 : Nat) = 0) rfl rfl (by omega)) (by decide)) rfl ?_
            refine R_pu (pu_move rfl) rfl ?_
            refine R_gpu rfl rfl (pu_fieldAddr (off := 2) (o' := 2) (by kernel_rfl) rfl rfl) rfl ?_
            have f254 : Bk w70 ab ([.int .u8 ((ix : Nat) : Int), .int .u32 ((ge : Nat) : Int), .slice A_tc ((thX (L.take (q + 1)) N ix).length) (c_tc)]) 50 := (((f242.no k68).no k69).no k70)
            refine R_gpu rfl rfl (pu_loadK f254 (by kernel_rfl) rfl rfl) rfl ?_
            have ob255 := (((((((ob229.keptNo k64).keptNo k65).keptNo k66).keptNo k67).keptNo k68).keptNo k69).keptNo k70)
            refine R_gpu rfl rfl (pu_bstr ob255.bs Tryd.underlying22 Tryd.underlying5 Tryd.underlying9 rfl rfl) rfl ?_
            refine R_gpu rfl rfl (pu_move rfl) rfl ?_
            have ob256 := ((((((Q64.keptNo k65).keptNo k66).keptNo k67).keptNo k68).keptNo k69).keptNo k70)
            refine R_gpu rfl rfl (pu_bstr ob256.bs Tryd.underlying22 Tryd.underlying5 Tryd.underlying9 rfl rfl) rfl ?_
            refine R_gpu rfl rfl (pu_true (pu_eqls (p := (thX (L.take (q + 1)) N ix) = (thX (L.take (q + 1)) N ix)) rfl rfl (bstr_inj (ob255.bs).byte (ob256.bs).byte)) rfl) rfl ?_
            refine R_pu (pu_pickt rfl rfl) rfl ?_
            refine R_pu (pu_move rfl) rfl ?_
            refine R_gpu rfl rfl (pu_move rfl) rfl ?_
            refine R_gpu rfl rfl (pu_neqnn (by kernel_rfl) rfl) rfl ?_
            refine R_gpu rfl rfl (pu_move rfl) rfl ?_
            refine R_gpu rfl rfl (pu_fieldAddr (off := 0) (o' := 0) (by kernel_rfl) rfl rfl) rfl ?_
            refine R_gpu rfl rfl (pu_loadK f254 (by kernel_rfl) rfl rfl) rfl ?_
            refine R_gpu rfl rfl (pu_move rfl) rfl ?_
            refine R_gpu rfl rfl (pu_true (pu_eql (p := ix = ix) rfl rfl (by omega)) rfl) rfl ?_
            refine R_gpu rfl rfl (pu_move rfl) rfl ?_
            refine R_gpu rfl rfl (pu_fieldAddr (off := 1) (o' := 1) (by kernel_rfl) rfl rfl) rfl ?_
            refine R_gpu rfl rfl (pu_loadK f254 (by kernel_rfl) rfl rfl) rfl ?_
            refine R_gpu rfl rfl (pu_fieldAddr (off := 2) (o' := 2) (by kernel_rfl) rfl rfl) rfl ?_
            have f257 : Bk w70 p0_0 ([.int .i64 ((q + 1 : Nat) : Int), .int .i64 ((nn : Nat) : Int), .int .u32 ((ge : Nat) : Int)]) 25 := (f252.no k70)
            refine R_gpu rfl rfl (pu_loadK f257 (by kernel_rfl) rfl rfl) rfl ?_
            refine R_gpu rfl rfl (pu_true (pu_eql (p := ge = ge) rfl rfl (by omega)) rfl) rfl ?_
            refine R_gpu rfl rfl (pu_pickt rfl rfl) rfl ?_
            refine R_gpu rfl rfl (pu_pickf rfl rfl) rfl ?_
            refine R_pu (pu_pickt rfl rfl) rfl ?_
            refine R_pu (pu_move rfl) rfl ?_
            have o258 : Gt w70 := ((o249.no k69).no k70)
            refine R_glo rfl rfl (lo_call (by kernel_rfl) rfl (sure03 _ o258)) rfl ?_
            rintro _ w71 ⟨rfl, k71⟩
            have kk71 := kk70.then_ k71
            refine R_pu (pu_pickt rfl rfl) rfl ?_
            refine R_pu (pu_assign rfl) rfl ?_
            refine R_nil ?_
            refine X_then hK253 ?_
            refine C_ret ?_
            exact X_ret1 (.inl rfl) rfl rfl ⟨rfl, kk71⟩
          · have ob259 := (((Q57.keptNo k58).keptNo k59).keptNo k60)
            have ob260 := ((Q58.keptNo k59).keptNo k60)
            refine Nx_lo rfl (lo_alloc (L := [.int .u8 0, .int .u32 0, .slice none (0) (0)]) (by kernel_rfl)) rfl ?_
            rintro _ w72 ⟨ab, rfl, N72⟩
            have k72 := N72.kp
            have kk72 := kk60.then_ k72
            have ne_ab_p0_0 : ab ≠ p0_0 := Nat.ne_of_gt (Nat.lt_of_lt_of_le f205.lt N72.le)
            have ne_ab_0 : ab ≠ 0 := Nat.ne_of_gt (Nat.lt_of_lt_of_le o206.lt N72.le)
            have ne_ab_b8_0 : ab ≠ b8_0 := Nat.ne_of_gt (Nat.lt_of_lt_of_le o207.lt N72.le)
            have f_ab_72 : Bk w72 ab ([.int .u8 0, .int .u32 0, .slice none (0) (0)]) 50 := N72.bk
            have f261 : Bk w72 p0_0 ([.int .i64 ((q + 1 : Nat) : Int), .int .i64 ((nn : Nat) : Int), .int .u32 ((ge : Nat) : Int)]) 25 := (f205.no k72)
            have o262 : Gt w72 := (o206.no k72)
            have o263 : Tb w72 b8_0 := (o207.no k72)
            refine ⟨⟨kk72, f261, o262, o263⟩, ?_⟩
            have ob265 := (ob259.keptNo k72)
            have lm264 := ob265.top
            have ob267 := (ob260.keptNo k72)
            have lm266 := ob267.top
            refine D_one 5 (by kernel_rfl) (Nx_lo rfl (lo_call (by kernel_rfl) rfl (shamir_at b8_0 A_gv11 L c_gv11 q nn ge ix N _ (Q60.keptNo k72) ⟨hk.1, ⟨hk.2.1, hc_gv11, hs⟩, hge, hk.2.2⟩ hix ⟨by omega, by omega⟩ (Aws.handed hb_gv11 o204.lt (HS.aw (Nat.le_trans kk5.size le54))) o263)) rfl ?_)
            rintro _ w73 ⟨A_tc, c_tc, rfl, Q73, T73, k73⟩
            have kk73 := kk72.trans k73 (fun i hi => .inr (hi ▸ (Nat.le_trans kk5.size le54)))
            have z268 : w72.heap.size ≤ w73.heap.size := k73.size
            have f269 : Bk w73 p0_0 ([.int .i64 ((q + 1 : Nat) : Int), .int .i64 ((nn : Nat) : Int), .int .u32 ((ge : Nat) : Int)]) 25 := (f261.on k73 (Ne.symm ne_b8_0_p0_0))
            have o270 : Gt w73 := (o262.on k73 (Ne.symm ne_b8_0_0))
            refine ⟨⟨kk73, f269, o270, T73⟩, ?_⟩
            refine D_take 6 rfl (by kernel_rfl) (by kernel_rfl) (by kernel_rfl) (fun _ _ _ h => h) rfl (fun W hS => pu_move rfl) ?_
            refine D_take 7 rfl (by kernel_rfl) (by kernel_rfl) (by kernel_rfl) (fun _ _ _ h => h) rfl (fun W hS => pu_extract rfl rfl) ?_
            refine D_take 8 rfl (by kernel_rfl) (by kernel_rfl) (by kernel_rfl) (fun _ _ _ h => h) rfl (fun W hS => pu_extract rfl rfl) ?_
            have f271 : Bk w73 ab ([.int .u8 0, .int .u32 0, .slice none (0) (0)]) 50 := (f_ab_72.on k73 ne_ab_b8_0)
            refine D_one 10 (by kernel_rfl) (Nx_lo0 rfl (lo_storeRow (C := [.int .u8 ((ix : Nat) : Int), .int .u32 ((ge : Nat) : Int), .slice A_tc ((thX (L.take (q + 1)) N ix).length) (c_tc)]) f271 (by kernel_rfl) rfl rfl (by intro u hu; simp at hu; rcases hu with rfl | rfl | rfl <;> rfl) rfl) ?_)
            rintro _ w74 kf74
            obtain ⟨k74, f_ab_74⟩ := kf74
            replace f_ab_74 : Bk w74 ab ([.int .u8 ((ix : Nat) : Int), .int .u32 ((ge : Nat) : Int), .slice A_tc ((thX (L.take (q + 1)) N ix).length) (c_tc)]) 50 := f_ab_74
            have kk74 := kk73.trans k74 (fun i hi => .inr (hi ▸ (Nat.le_trans kk60.size N72.le)))
            have f272 : Bk w74 p0_0 ([.int .i64 ((q + 1 : Nat) : Int), .int .i64 ((nn : Nat) : Int), .int .u32 ((ge : Nat) : Int)]) 25 := (f269.on k74 (Ne.symm ne_ab_p0_0))
            have o273 : Gt w74 := (o270.on k74 (Ne.symm ne_ab_0))
            have o274 : Tb w74 b8_0 := (T73.on k74 (Ne.symm ne_ab_b8_0))
            refine ⟨⟨kk74, f272, o273, o274⟩, ?_⟩
            refine D_take 11 rfl (by kernel_rfl) (by kernel_rfl) (by kernel_rfl) (fun _ _ _ h => h) rfl (fun W hS => pu_assign rfl) ?_
            refine D_done (by kernel_rfl) ?_
            refine X_then hK200 ?_
            refine C_seq (fun K275 hK275 => ?_)
            refine C_region ?_
            refine R_pu (pu_move rfl) rfl ?_
            refine R_pu (pu_loadRow (len := 3) f272 (by kernel_rfl) (by kernel_rfl) rfl rfl) rfl ?_
            refine R_pu (pu_move rfl) rfl ?_
            have ob277 := ((ob265.on k73 (by have := o193.lt; omega)).onN k74 ob259 N72.le)
            have lm276 := ob277.top
            have ob279 := ((ob267.on k73 (by have := T57.lt; omega)).onN k74 ob260 N72.le)
            have lm278 := ob279.top
            have ob281 := (Q73.on k74 (by have := f_ab_72.lt; omega))
            have lm280 := ob281.top
            refine R_lo (lo_call (by kernel_rfl) rfl (ref03_combine A L c q nn ge ix N _ (HS.keptNo kk74) ⟨hk.1, ⟨hk.2.1, hc, hs⟩, hge, hk.2.2⟩ hix)) rfl ?_
            rintro _ w75 ⟨A_td, c_td, rfl, Q75, k75⟩
            have kk75 := kk74.then_ k75
            have z282 : w74.heap.size ≤ w75.heap.size := k75.size
            refine R_pu (pu_move rfl) rfl ?_
            refine R_pu (pu_extract rfl rfl) rfl ?_
            refine R_pu (pu_extract rfl rfl) rfl ?_
            refine R_pu (pu_assign rfl) rfl ?_
            refine R_pu (pu_assign rfl) rfl ?_
            refine R_nil ?_
            refine X_then hK275 ?_
            refine C_seq (fun K283 hK283 => ?_)
            have f284 : Bk w75 p0_0 ([.int .i64 ((q + 1 : Nat) : Int), .int .i64 ((nn : Nat) : Int), .int .u32 ((ge : Nat) : Int)]) 25 := (f272.no k75)
            have f285 : Bk w75 ab ([.int .u8 ((ix : Nat) : Int), .int .u32 ((ge : Nat) : Int), .slice A_tc ((thX (L.take (q + 1)) N ix).length) (c_tc)]) 50 := (f_ab_74.no k75)
            have o286 : Gt w75 := (o273.no k75)
            have o287 : Tb w75 b8_0 := (o274.no k75)
            refine D_begin (fun W => Kp No w W ∧ Bk W p0_0 ([.int .i64 ((q + 1 : Nat) : Int), .int .i64 ((nn : Nat) : Int), .int .u32 ((ge : Nat) : Int)]) 25 ∧ Bk W ab ([.int .u8 ((ix : Nat) : Int), .int .u32 ((ge : Nat) : Int), .slice A_tc ((thX (L.take (q + 1)) N ix).length) (c_tc)]) 50 ∧ Gt W ∧ Tb W b8_0) 9 rfl (by kernel_rfl) ⟨kk75.drew, f284.draw, f285.draw, o286.draw, o287.draw⟩ ?_
            intro w76 k76 _
            have kk76 := kk75.then_ k76
            refine D_take 0 rfl (by kernel_rfl) (by kernel_rfl) (by kernel_rfl) (fun _ _ _ h => h) rfl (fun W hS => pu_move rfl) ?_
            refine D_take 2 rfl (by kernel_rfl) (by kernel_rfl) (by kernel_rfl) (fun _ _ _ h => h) rfl (fun W hS => pu_loadRow (len := 3) hS.2.1 (by kernel_rfl) (by kernel_rfl) rfl rfl) ?_
            have o288 : Tb w76 b8_0 := (o287.no k76)
            refine D_one 1 (by kernel_rfl) (Nx_lo rfl (lo_call (by kernel_rfl) rfl (give_shares A L c _ (HS.keptNo kk76) (by omega))) rfl ?_)
            rintro _ w77 ⟨A_gv13, c_gv13, rfl, Q77, hc_gv13, hb_gv13, k77⟩
            have kk77 := kk76.then_ k77
            have f289 : Bk w77 p0_0 ([.int .i64 ((q + 1 : Nat) : Int), .int .i64 ((nn : Nat) : Int), .int .u32 ((ge : Nat) : Int)]) 25 := ((f284.no k76).no k77)
            have f290 : Bk w77 ab ([.int .u8 ((ix : Nat) : Int), .int .u32 ((ge : Nat) : Int), .slice A_tc ((thX (L.take (q + 1)) N ix).length) (c_tc)]) 50 := ((f285.no k76).no k77)
            have o291 : Gt w77 := ((o286.no k76).no k77)
            have o292 : Tb w77 b8_0 := (o288.no k77)
            refine ⟨⟨kk77, f289, f290, o291, o292⟩, ?_⟩
            refine D_one 3 (by kernel_rfl) (Nx_lo rfl (lo_call (by kernel_rfl) rfl (shamir_combine_nil A_gv13 L c_gv13 ((q + 1 : Nat) : Int) ((nn : Nat) : Int) ge _ Q77 ⟨hge, hs⟩)) rfl ?_)
            rintro _ w78 ⟨rfl, k78⟩
            have kk78 := kk77.then_ k78
            have f293 : Bk w78 p0_0 ([.int .i64 ((q + 1 : Nat) : Int), .int .i64 ((nn : Nat) : Int), .int .u32 ((ge : Nat) : Int)]) 25 := (f289.no k78)
            have f294 : Bk w78 ab ([.int .u8 ((ix : Nat) : Int), .int .u32 ((ge : Nat) : Int), .slice A_tc ((thX (L.take (q + 1)) N ix).length) (c_tc)]) 50 := (f290.no k78)
            have o295 : Gt w78 := (o291.no k78)
            have o296 : Tb w78 b8_0 := (o292.no k78)
            refine ⟨⟨kk78, f293, f294, o295, o296⟩, ?_⟩
            refine D_take 4 rfl (by kernel_rfl) (by kernel_rfl) (by kernel_rfl) (fun _ _ _ h => h) rfl (fun W hS => pu_move rfl) ?_
            refine D_take 5 rfl (by kernel_rfl) (by kernel_rfl) (by kernel_rfl) (fun _ _ _ h => h) rfl (fun W hS => pu_extract rfl rfl) ?_
            refine D_take 6 rfl (by kernel_rfl) (by kernel_rfl) (by kernel_rfl) (fun _ _ _ h => h) rfl (fun W hS => pu_extract rfl rfl) ?_
            refine D_take 7 rfl (by kernel_rfl) (by kernel_rfl) (by kernel_rfl) (fun _ _ _ h => h) rfl (fun W hS => pu_assign rfl) ?_
            refine D_take 8 rfl (by kernel_rfl) (by kernel_rfl) (by kernel_rfl) (fun _ _ _ h => h) rfl (fun W hS => pu_assign rfl) ?_
            refine D_done (by kernel_rfl) ?_
            refine X_then hK283 ?_
            refine C_seq (fun K297 hK297 => ?_)
            refine C_seq (fun K298 hK298 => ?_)
            refine C_region ?_
            refine R_pu (pu_move rfl) rfl ?_
            have ob299 := ((((ob277.keptNo k75).keptNo k76).keptNo k77).keptNo k78)
            refine R_pu (pu_bstr ob299.bs Tryd.underlying22 Tryd.underlying5 Tryd.underlying9 rfl rfl) rfl ?_
            refine R_pu (pu_move rfl) rfl ?_
            have ob300 := ((((ob279.keptNo k75).keptNo k76).keptNo k77).keptNo k78)
            refine R_pu (pu_bstr ob300.bs Tryd.underlying22 Tryd.underlying5 Tryd.underlying9 rfl rfl) rfl ?_
            refine R_pu (pu_false (pu_neqs (p := (thX (L.take (q + 1)) N 0) = (thX (L.take (q + 1)) N 0)) rfl rfl (bstr_inj (ob299.bs).byte (ob300.bs).byte)) (fun h => h rfl)) rfl ?_
            refine R_pu (pu_move rfl) rfl ?_
            refine R_gpu rfl rfl (pu_move rfl) rfl ?_
            refine R_glo rfl rfl (lo_call (by kernel_rfl) rfl (num03_nil _)) rfl ?_
            rintro _ w79 ⟨rfl, k79⟩
            have kk79 := kk78.then_ k79
            refine R_gpu rfl rfl (pu_move rfl) rfl ?_
            refine R_gpu rfl rfl (pu_false (pu_neq (p := (0 : Nat) = 0) rfl rfl (by omega)) (by decide)) rfl ?_
            refine R_pu (pu_pickf rfl rfl) rfl ?_
            refine R_pu (pu_move rfl) rfl ?_
            refine R_gpu rfl rfl (pu_move rfl) rfl ?_
            have o301 : Gt w79 := (o295.no k79)
            refine R_glo rfl rfl (lo_call (by kernel_rfl) rfl (num03_err 1 _ o301)) rfl ?_
            rintro _ w80 ⟨rfl, k80⟩
            have kk80 := kk79.then_ k80
            refine R_gpu rfl rfl (pu_false (pu_neq (p := (1 : Nat) = 1) rfl rfl (by omega)) (by decide)) rfl ?_
            refine R_pu (pu_pickf rfl rfl) rfl ?_
            refine R_nil ?_
            refine X_then hK298 ?_
            refine C_false rfl ?_
            refine C_skip ?_
            refine X_then hK297 ?_
            refine C_seq (fun K302 hK302 => ?_)
            refine C_seq (fun K303 hK303 => ?_)
            refine C_region ?_
            refine R_pu (pu_move rfl) rfl ?_
            refine R_pu (pu_false (pu_eql (p := ix = 0) rfl rfl (by omega)) (by omega)) rfl ?_
            refine R_pu (pu_move rfl) rfl ?_
            refine R_gpu rfl rfl (pu_move rfl) rfl ?_
            refine R_gpu rfl rfl (pu_conv (z := ((ix : Nat) : Int)) Tryd.underlying5 Tryd.underlying3 rfl (by have : ix < 256 := hix; rw [IntKind.wrap_i64]; omega)) rfl ?_
            refine R_gpu rfl rfl (pu_fieldAddr (off := 1) (o' := 1) (by kernel_rfl) rfl rfl) rfl ?_
            have f304 : Bk w80 p0_0 ([.int .i64 ((q + 1 : Nat) : Int), .int .i64 ((nn : Nat) : Int), .int .u32 ((ge : Nat) : Int)]) 25 := ((f293.no k79).no k80)
            refine R_gpu rfl rfl (pu_loadK f304 (by kernel_rfl) rfl rfl) rfl ?_
            refine R_gpu rfl rfl (pu_false (pu_gtr (p := ix > nn) rfl rfl (by omega)) (by omega)) rfl ?_
            refine R_pu (pu_pickf rfl rfl) rfl ?_
            refine R_nil ?_
            refine X_then hK303 ?_
            refine C_false rfl ?_
            refine C_skip ?_
            refine X_then hK302 ?_
            refine C_seq (fun K305 hK305 => ?_)
            refine C_region ?_
            refine R_pu (pu_move rfl) rfl ?_
            refine R_lo (lo_call (by kernel_rfl) rfl (num03_nil _)) rfl ?_
            rintro _ w81 ⟨rfl, k81⟩
            have kk81 := kk80.then_ k81
            refine R_pu (pu_move rfl) rfl ?_
            refine R_pu (pu_true (pu_eql (p := (0 : Nat) = 0) rfl rfl (by omega)) (by decide)) rfl ?_
            refine R_pu (pu_move rfl) rfl ?_
            refine R_gpu rfl rfl (pu_fieldAddr (off := 2) (o' := 2) (by kernel_rfl) rfl rfl) rfl ?_
            have f306 : Bk w81 ab ([.int .u8 ((ix : Nat) : Int), .int .u32 ((ge : Nat) : Int), .slice A_tc ((thX (L.take (q + 1)) N ix).length) (c_tc)]) 50 := (((f294.no k79).no k80).no k81)
            refine R_gpu rfl rfl (pu_loadK f306 (by kernel_rfl) rfl rfl) rfl ?_
            have ob307 := (((((((ob281.keptNo k75).keptNo k76).keptNo k77).keptNo k78).keptNo k79).keptNo k80).keptNo k81)
            refine R_gpu rfl rfl (pu_bstr ob307.bs Tryd.underlying22 Tryd.underlying5 Tryd.underlying9 rfl rfl) rfl ?_
            refine R_gpu rfl rfl (pu_move rfl) rfl ?_
            have ob308 := ((((((Q75.keptNo k76).keptNo k77).keptNo k78).keptNo k79).keptNo k80).keptNo k81)
            refine R_gpu rfl rfl (pu_bstr ob308.bs Tryd.underlying22 Tryd.underlying5 Tryd.underlying9 rfl rfl) rfl ?_
            refine R_gpu rfl rfl (pu_true (pu_eqls (p := (thX (L.take (q + 1)) N ix) = (thX (L.take (q + 1)) N ix)) rfl rfl (bstr_inj (ob307.bs).byte (ob308.bs).byte)) rfl) rfl ?_
            refine R_pu (pu_pickt rfl rfl) rfl ?_
            refine R_pu (pu_move rfl) rfl ?_
            refine R_gpu rfl rfl (pu_move rfl) rfl ?_
            refine R_gpu rfl rfl (pu_neqnn (by kernel_rfl) rfl) rfl ?_
            refine R_gpu rfl rfl (pu_move rfl) rfl ?_
            refine R_gpu rfl rfl (pu_fieldAddr (off := 0) (o' := 0) (by kernel_rfl) rfl rfl) rfl ?_
            refine R_gpu rfl rfl (pu_loadK f306 (by kernel_rfl) rfl rfl) rfl ?_
            refine R_gpu rfl rfl (pu_move rfl) rfl ?_
            refine R_gpu rfl rfl (pu_true (pu_eql (p := ix = ix) rfl rfl (by omega)) rfl) rfl ?_
            refine R_gpu rfl rfl (pu_move rfl) rfl ?_
            refine R_gpu rfl rfl (pu_fieldAddr (off := 1) (o' := 1) (by kernel_rfl) rfl rfl) rfl ?_
            refine R_gpu rfl rfl (pu_loadK f306 (by kernel_rfl) rfl rfl) rfl ?_
            refine R_gpu rfl rfl (pu_fieldAddr (off := 2) (o' := 2) (by kernel_rfl) rfl rfl) rfl ?_
            have f309 : Bk w81 p0_0 ([.int .i64 ((q + 1 : Nat) : Int), .int .i64 ((nn : Nat) : Int), .int .u32 ((ge : Nat) : Int)]) 25 := (f304.no k81)
            refine R_gpu rfl rfl (pu_loadK f309 (by kernel_rfl) rfl rfl) rfl ?_
            refine R_gpu rfl rfl (pu_true (pu_eql (p := ge = ge) rfl rfl (by omega)) rfl) rfl ?_
            refine R_gpu rfl rfl (pu_pickt rfl rfl) rfl ?_
            refine R_gpu rfl rfl (pu_pickf rfl rfl) rfl ?_
            refine R_pu (pu_pickt rfl rfl) rfl ?_
            refine R_pu (pu_move rfl) rfl ?_
            have o310 : Gt w81 := ((o301.no k80).no k81)
            refine R_glo rfl rfl (lo_call (by kernel_rfl) rfl (sure03 _ o310)) rfl ?_
            rintro _ w82 ⟨rfl, k82⟩
            have kk82 := kk81.then_ k82
            refine R_pu (pu_pickt rfl rfl) rfl ?_
            refine R_pu (pu_assign rfl) rfl ?_
            refine R_nil ?_
            refine X_then hK305 ?_
            refine C_ret ?_
            exact X_ret1 (.inl rfl) rfl rfl ⟨rfl, kk82⟩
        · have f311 : Bk w59 p0_0 ([.int .i64 ((q + 1 : Nat) : Int), .int .i64 ((nn : Nat) : Int), .int .u32 ((ge : Nat) : Int)]) 25 := (f201.no k59)
          have o312 : Gt w59 := (o202.no k59)
          have o313 : Tb w59 b8_0 := (o203.no k59)
          have ob314 := ((Q57.keptNo k58).keptNo k59)
          have ob315 := (Q58.keptNo k59)
          refine Nx_lo rfl (lo_alloc (L := [.int .u8 0, .int .u32 0, .slice none (0) (0)]) (by kernel_rfl)) rfl ?_
          rintro _ w83 ⟨ab, rfl, N83⟩
          have k83 := N83.kp
          have kk83 := kk59.then_ k83
          have ne_ab_p0_0 : ab ≠ p0_0 := Nat.ne_of_gt (Nat.lt_of_lt_of_le f311.lt N83.le)
          have ne_ab_0 : ab ≠ 0 := Nat.ne_of_gt (Nat.lt_of_lt_of_le o312.lt N83.le)
          have ne_ab_b8_0 : ab ≠ b8_0 := Nat.ne_of_gt (Nat.lt_of_lt_of_le o313.lt N83.le)
          have f_ab_83 : Bk w83 ab ([.int .u8 0, .int .u32 0, .slice none (0) (0)]) 50 := N83.bk
          have f316 : Bk w83 p0_0 ([.int .i64 ((q + 1 : Nat) : Int), .int .i64 ((nn : Nat) : Int), .int .u32 ((ge : Nat) : Int)]) 25 := (f311.no k83)
          have o317 : Gt w83 := (o312.no k83)
          have o318 : Tb w83 b8_0 := (o313.no k83)
          refine ⟨⟨kk83, f316, o317, o318⟩, ?_⟩
          refine D_one 2 (by kernel_rfl) (Nx_lo rfl (lo_call (by kernel_rfl) rfl (give_shares A L c _ (HS.keptNo kk83) (by omega))) rfl ?_)
          rintro _ w84 ⟨A_gv11, c_gv11, rfl, Q84, hc_gv11, hb_gv11, k84⟩
          have kk84 := kk83.then_ k84
          have f319 : Bk w84 p0_0 ([.int .i64 ((q + 1 : Nat) : Int), .int .i64 ((nn : Nat) : Int), .int .u32 ((ge : Nat) : Int)]) 25 := (f316.no k84)
          have o320 : Gt w84 := (o317.no k84)
          have o321 : Tb w84 b8_0 := (o318.no k84)
          refine ⟨⟨kk84, f319, o320, o321⟩, ?_⟩
          have f322 : Bk w84 ab ([.int .u8 0, .int .u32 0, .slice none (0) (0)]) 50 := (f_ab_83.no k84)
          have ob324 := ((ob314.keptNo k83).keptNo k84)
          have lm323 := ob324.top
          have ob326 := ((ob315.keptNo k83).keptNo k84)
          have lm325 := ob326.top
          refine D_one 5 (by kernel_rfl) (Nx_lo rfl (lo_call (by kernel_rfl) rfl (shamir_at b8_0 A_gv11 L c_gv11 q nn ge ix N _ Q84 ⟨hk.1, ⟨hk.2.1, hc_gv11, hs⟩, hge, hk.2.2⟩ hix ⟨by omega, by omega⟩ (Aws.handed hb_gv11 o318.lt (HS.aw (Nat.le_trans kk5.size le54))) o321)) rfl ?_)
          rintro _ w85 ⟨A_tc, c_tc, rfl, Q85, T85, k85⟩
          have kk85 := kk84.trans k85 (fun i hi => .inr (hi ▸ (Nat.le_trans kk5.size le54)))
          have z327 : w84.heap.size ≤ w85.heap.size := k85.size
          have f328 : Bk w85 p0_0 ([.int .i64 ((q + 1 : Nat) : Int), .int .i64 ((nn : Nat) : Int), .int .u32 ((ge : Nat) : Int)]) 25 := (f319.on k85 (Ne.symm ne_b8_0_p0_0))
          have o329 : Gt w85 := (o320.on k85 (Ne.symm ne_b8_0_0))
          refine ⟨⟨kk85, f328, o329, T85⟩, ?_⟩
          refine D_take 6 rfl (by kernel_rfl) (by kernel_rfl) (by kernel_rfl) (fun _ _ _ h => h) rfl (fun W hS => pu_move rfl) ?_
          refine D_take 7 rfl (by kernel_rfl) (by kernel_rfl) (by kernel_rfl) (fun _ _ _ h => h) rfl (fun W hS => pu_extract rfl rfl) ?_
          refine D_take 8 rfl (by kernel_rfl) (by kernel_rfl) (by kernel_rfl) (fun _ _ _ h => h) rfl (fun W hS => pu_extract rfl rfl) ?_
          have f330 : Bk w85 ab ([.int .u8 0, .int .u32 0, .slice none (0) (0)]) 50 := (f322.on k85 ne_ab_b8_0)
          refine D_one 10 (by kernel_rfl) (Nx_lo0 rfl (lo_storeRow (C := [.int .u8 ((ix : Nat) : Int), .int .u32 ((ge : Nat) : Int), .slice A_tc ((thX (L.take (q + 1)) N ix).length) (c_tc)]) f330 (by kernel_rfl) rfl rfl (by intro u hu; simp at hu; rcases hu with rfl | rfl | rfl <;> rfl) rfl) ?_)
          rintro _ w86 kf86
          obtain ⟨k86, f_ab_86⟩ := kf86
          replace f_ab_86 : Bk w86 ab ([.int .u8 ((ix : Nat) : Int), .int .u32 ((ge : Nat) : Int), .slice A_tc ((thX (L.take (q + 1)) N ix).length) (c_tc)]) 50 := f_ab_86
          have kk86 := kk85.trans k86 (fun i hi => .inr (hi ▸ (Nat.le_trans kk59.size N83.le)))
          have f331 : Bk w86 p0_0 ([.int .i64 ((q + 1 : Nat) : Int), .int .i64 ((nn : Nat) : Int), .int .u32 ((ge : Nat) : Int)]) 25 := (f328.on k86 (Ne.symm ne_ab_p0_0))
          have o332 : Gt w86 := (o329.on k86 (Ne.symm ne_ab_0))
          have o333 : Tb w86 b8_0 := (T85.on k86 (Ne.symm ne_ab_b8_0))
          refine ⟨⟨kk86, f331, o332, o333⟩, ?_⟩
          refine D_take 11 rfl (by kernel_rfl) (by kernel_rfl) (by kernel_rfl) (fun _ _ _ h => h) rfl (fun W hS => pu_assign rfl) ?_
          refine D_done (by kernel_rfl) ?_
          refine X_then hK200 ?_
          refine C_seq (fun K334 hK334 => ?_)
          refine C_region ?_
          refine R_pu (pu_move rfl) rfl ?_
          refine R_pu (pu_loadRow (len := 3) f331 (by kernel_rfl) (by kernel_rfl) rfl rfl) rfl ?_
          refine R_pu (pu_move rfl) rfl ?_
          have ob336 := ((ob324.on k85 (by have := o193.lt; omega)).onN k86 ob314 N83.le)
          have lm335 := ob336.top
          have ob338 := ((ob326.on k85 (by have := T57.lt; omega)).onN k86 ob315 N83.le)
          have lm337 := ob338.top
          have ob340 := (Q85.on k86 (by have := f322.lt; omega))
          have lm339 := ob340.top
          refine R_lo (lo_call (by kernel_rfl) rfl (ref03_combine A L c q nn ge ix N _ (HS.keptNo kk86) ⟨hk.1, ⟨hk.2.1, hc, hs⟩, hge, hk.2.2⟩ hix)) rfl ?_
          rintro _ w87 ⟨A_td, c_td, rfl, Q87, k87⟩
          have kk87 := kk86.then_ k87
          have z341 : w86.heap.size ≤ w87.heap.size := k87.size
          refine R_pu (pu_move rfl) rfl ?_
          refine R_pu (pu_extract rfl rfl) rfl ?_
          refine R_pu (pu_extract rfl rfl) rfl ?_
          refine R_pu (pu_assign rfl) rfl ?_
          refine R_pu (pu_assign rfl) rfl ?_
          refine R_nil ?_
          refine X_then hK334 ?_
          refine C_seq (fun K342 hK342 => ?_)
          have f343 : Bk w87 p0_0 ([.int .i64 ((q + 1 : Nat) : Int), .int .i64 ((nn : Nat) : Int), .int .u32 ((ge : Nat) : Int)]) 25 := (f331.no k87)
          have f344 : Bk w87 ab ([.int .u8 ((ix : Nat) : Int), .int .u32 ((ge : Nat) : Int), .slice A_tc ((thX (L.take (q + 1)) N ix).length) (c_tc)]) 50 := (f_ab_86.no k87)
          have o345 : Gt w87 := (o332.no k87)
          have o346 : Tb w87 b8_0 := (o333.no k87)
          refine D_begin (fun W => Kp No w W ∧ Bk W p0_0 ([.int .i64 ((q + 1 : Nat) : Int), .int .i64 ((nn : Nat) : Int), .int .u32 ((ge : Nat) : Int)]) 25 ∧ Bk W ab ([.int .u8 ((ix : Nat) : Int), .int .u32 ((ge : Nat) : Int), .slice A_tc ((thX (L.take (q + 1)) N ix).length) (c_tc)]) 50 ∧ Gt W ∧ Tb W b8_0) 9 rfl (by kernel_rfl) ⟨kk87.drew, f343.draw, f344.draw, o345.draw, o346.draw⟩ ?_
          intro w88 k88 _
          have kk88 := kk87.then_ k88
          refine D_take 0 rfl (by kernel_rfl) (by kernel_rfl) (by kernel_rfl) (fun _ _ _ h => h) rfl (fun W hS => pu_move rfl) ?_
          refine D_take 2 rfl (by kernel_rfl) (by kernel_rfl) (by kernel_rfl) (fun _ _ _ h => h) rfl (fun W hS => pu_loadRow (len := 3) hS.2.1 (by kernel_rfl) (by kernel_rfl) rfl rfl) ?_
          have o347 : Tb w88 b8_0 := (o346.no k88)
          refine D_one 1 (by kernel_rfl) (Nx_lo rfl (lo_call (by kernel_rfl) rfl (give_shares A L c _ (HS.keptNo kk88) (by omega))) rfl ?_)
          rintro _ w89 ⟨A_gv13, c_gv13, rfl, Q89, hc_gv13, hb_gv13, k89⟩
          have kk89 := kk88.then_ k89
          have f348 : Bk w89 p0_0 ([.int .i64 ((q + 1 : Nat) : Int), .int .i64 ((nn : Nat) : Int), .int .u32 ((ge : Nat) : Int)]) 25 := ((f343.no k88).no k89)
          have f349 : Bk w89 ab ([.int .u8 ((ix : Nat) : Int), .int .u32 ((ge : Nat) : Int), .slice A_tc ((thX (L.take (q + 1)) N ix).length) (c_tc)]) 50 := ((f344.no k88).no k89)
          have o350 : Gt w89 := ((o345.no k88).no k89)
          have o351 : Tb w89 b8_0 := (o347.no k89)
          refine ⟨⟨kk89, f348, f349, o350, o351⟩, ?_⟩
          refine D_one 3 (by kernel_rfl) (Nx_lo rfl (lo_call (by kernel_rfl) rfl (shamir_combine_nil A_gv13 L c_gv13 ((q + 1 : Nat) : Int) ((nn : Nat) : Int) ge _ Q89 ⟨hge, hs⟩)) rfl ?_)
          rintro _ w90 ⟨rfl, k90⟩
          have kk90 := kk89.then_ k90
          have f352 : Bk w90 p0_0 ([.int .i64 ((q + 1 : Nat) : Int), .int .i64 ((nn : Nat) : Int), .int .u32 ((ge : Nat) : Int)]) 25 := (f348.no k90)
          have f353 : Bk w90 ab ([.int .u8 ((ix : Nat) : Int), .int .u32 ((ge : Nat) : Int), .slice A_tc ((thX (L.take (q + 1)) N ix).length) (c_tc)]) 50 := (f349.no k90)
          have o354 : Gt w90 := (o350.no k90)
          have o355 : Tb w90 b8_0 := (o351.no k90)
          refine ⟨⟨kk90, f352, f353, o354, o355⟩, ?_⟩
          refine D_take 4 rfl (by kernel_rfl) (by kernel_rfl) (by kernel_rfl) (fun _ _ _ h => h) rfl (fun W hS => pu_move rfl) ?_
          refine D_take 5 rfl (by kernel_rfl) (by kernel_rfl) (by kernel_rfl) (fun _ _ _ h => h) rfl (fun W hS => pu_extract rfl rfl) ?_
          refine D_take 6 rfl (by kernel_rfl) (by kernel_rfl) (by kernel_rfl) (fun _ _ _ h => h) rfl (fun W hS => pu_extract rfl rfl) ?_
          refine D_take 7 rfl (by kernel_rfl) (by kernel_rfl) (by kernel_rfl) (fun _ _ _ h => h) rfl (fun W hS => pu_assign rfl) ?_
          refine D_take 8 rfl (by kernel_rfl) (by kernel_rfl) (by kernel_rfl) (fun _ _ _ h => h) rfl (fun W hS => pu_assign rfl) ?_
          refine D_done (by kernel_rfl) ?_
          refine X_then hK342 ?_
          refine C_seq (fun K356 hK356 => ?_)
          refine C_seq (fun K357 hK357 => ?_)
          refine C_region ?_
          refine R_pu (pu_move rfl) rfl ?_
          have ob358 := ((((ob336.keptNo k87).keptNo k88).keptNo k89).keptNo k90)
          refine R_pu (pu_bstr ob358.bs Tryd.underlying22 Tryd.underlying5 Tryd.underlying9 rfl rfl) rfl ?_
          refine R_pu (pu_move rfl) rfl ?_
          have ob359 := ((((ob338.keptNo k87).keptNo k88).keptNo k89).keptNo k90)
          refine R_pu (pu_bstr ob359.bs Tryd.underlying22 Tryd.underlying5 Tryd.underlying9 rfl rfl) rfl ?_
          refine R_pu (pu_false (pu_neqs (p := (thX (L.take (q + 1)) N 0) = (thX (L.take (q + 1)) N 0)) rfl rfl (bstr_inj (ob358.bs).byte (ob359.bs).byte)) (fun h => h rfl)) rfl ?_
          refine R_pu (pu_move rfl) rfl ?_
          refine R_gpu rfl rfl (pu_move rfl) rfl ?_
          refine R_glo rfl rfl (lo_call (by kernel_rfl) rfl (num03_nil _)) rfl ?_
          rintro _ w91 ⟨rfl, k91⟩
          have kk91 := kk90.then_ k91
          refine R_gpu rfl rfl (pu_move rfl) rfl ?_
          refine R_gpu rfl rfl (pu_false (pu_neq (p := (0 : Nat) = 0) rfl rfl (by omega)) (by decide)) rfl ?_
          refine R_pu (pu_pickf rfl rfl) rfl ?_
          refine R_pu (pu_move rfl) rfl ?_
          refine R_gpu rfl rfl (pu_move rfl) rfl ?_
          have o360 : Gt w91 := (o354.no k91)
          refine R_glo rfl rfl (lo_call (by kernel_rfl) rfl (num03_err 1 _ o360)) rfl ?_
          rintro _ w92 ⟨rfl, k92⟩
          have kk92 := kk91.then_ k92
          refine R_gpu rfl rfl (pu_false (pu_neq (p := (1 : Nat) = 1) rfl rfl (by omega)) (by decide)) rfl ?_
          refine R_pu (pu_pickf rfl rfl) rfl ?_
          refine R_nil ?_
          refine X_then hK357 ?_
          refine C_false rfl ?_
          refine C_skip ?_
          refine X_then hK356 ?_
          refine C_seq (fun K361 hK361 => ?_)
          refine C_seq (fun K362 hK362 => ?_)
          refine C_region ?_
          refine R_pu (pu_move rfl) rfl ?_
          refine R_pu (pu_false (pu_eql (p := ix = 0) rfl rfl (by omega)) (by omega)) rfl ?_
          refine R_pu (pu_move rfl) rfl ?_
          refine R_gpu rfl rfl (pu_move rfl) rfl ?_
          refine R_gpu rfl rfl (pu_conv (z := ((ix : Nat) : Int)) Tryd.underlying5 Tryd.underlying3 rfl (by have : ix < 256 := hix; rw [IntKind.wrap_i64]; omega)) rfl ?_
          refine R_gpu rfl rfl (pu_fieldAddr (off := 1) (o' := 1) (by kernel_rfl) rfl rfl) rfl ?_
          have f363 : Bk w92 p0_0 ([.int .i64 ((q + 1 : Nat) : Int), .int .i64 ((nn : Nat) : Int), .int .u32 ((ge : Nat) : Int)]) 25 := ((f352.no k91).no k92)
          refine R_gpu rfl rfl (pu_loadK f363 (by kernel_rfl) rfl rfl) rfl ?_
          refine R_gpu rfl rfl (pu_false (pu_gtr (p := ix > nn) rfl rfl (by omega)) (by omega)) rfl ?_
          refine R_pu (pu_pickf rfl rfl) rfl ?_
          refine R_nil ?_
          refine X_then hK362 ?_
          refine C_false rfl ?_
          refine C_skip ?_
          refine X_then hK361 ?_
          refine C_seq (fun K364 hK364 => ?_)
          refine C_region ?_
          refine R_pu (pu_move rfl) rfl ?_
          refine R_lo (lo_call (by kernel_rfl) rfl (num03_nil _)) rfl ?_
          rintro _ w93 ⟨rfl, k93⟩
          have kk93 := kk92.then_ k93
          refine R_pu (pu_move rfl) rfl ?_
          refine R_pu (pu_true (pu_eql (p := (0 : Nat) = 0) rfl rfl (by omega)) (by decide)) rfl ?_
          refine R_pu (pu_move rfl) rfl ?_
          refine R_gpu rfl rfl (pu_fieldAddr (off := 2) (o' := 2) (by kernel_rfl) rfl rfl) rfl ?_
          have f365 : Bk w93 ab ([.int .u8 ((ix : Nat) : Int), .int .u32 ((ge : Nat) : Int), .slice A_tc ((thX (L.take (q + 1)) N ix).length) (c_tc)]) 50 := (((f353.no k91).no k92).no k93)
          refine R_gpu rfl rfl (pu_loadK f365 (by kernel_rfl) rfl rfl) rfl ?_
          have ob366 := (((((((ob340.keptNo k87).keptNo k88).keptNo k89).keptNo k90).keptNo k91).keptNo k92).keptNo k93)
          refine R_gpu rfl rfl (pu_bstr ob366.bs Tryd.underlying22 Tryd.underlying5 Tryd.underlying9 rfl rfl) rfl ?_
          refine R_gpu rfl rfl (pu_move rfl) rfl ?_
          have ob367 := ((((((Q87.keptNo k88).keptNo k89).keptNo k90).keptNo k91).keptNo k92).keptNo k93)
          refine R_gpu rfl rfl (pu_bstr ob367.bs Tryd.underlying22 Tryd.underlying5 Tryd.underlying9 rfl rfl) rfl ?_
          refine R_gpu rfl rfl (pu_true (pu_eqls (p := (thX (L.take (q + 1)) N ix) = (thX (L.take (q + 1)) N ix)) rfl rfl (bstr_inj (ob366.bs).byte (ob367.bs).byte)) rfl) rfl ?_
          refine R_pu (pu_pickt rfl rfl) rfl ?_
          refine R_pu (pu_move rfl) rfl ?_
          refine R_gpu rfl rfl (pu_move rfl) rfl ?_
          refine R_gpu rfl rfl (pu_neqnn (by kernel_rfl) rfl) rfl ?_
          refine R_gpu rfl rfl (pu_move rfl) rfl ?_
          refine R_gpu rfl rfl (pu_fieldAddr (off := 0) (o' := 0) (by kernel_rfl) rfl rfl) rfl ?_
          refine R_gpu rfl rfl (pu_loadK f365 (by kernel_rfl) rfl rfl) rfl ?_
          refine R_gpu rfl rfl (pu_move rfl) rfl ?_
          refine R_gpu rfl rfl (pu_true (pu_eql (p := ix = ix) rfl rfl (by omega)) rfl) rfl ?_
          refine R_gpu rfl rfl (pu_move rfl) rfl ?_
          refine R_gpu rfl rfl (pu_fieldAddr (off := 1) (o' := 1) (by kernel_rfl) rfl rfl) rfl ?_
          refine R_gpu rfl rfl (pu_loadK f365 (by kernel_rfl) rfl rfl) rfl ?_
          refine R_gpu rfl rfl (pu_fieldAddr (off := 2) (o' := 2) (by kernel_rfl) rfl rfl) rfl ?_
          have f368 : Bk w93 p0_0 ([.int .i64 ((q + 1 : Nat) : Int), .int .i64 ((nn : Nat) : Int), .int .u32 ((ge : Nat) : Int)]) 25 := (f363.no k93)
          refine R_gpu rfl rfl (pu_loadK f368 (by kernel_rfl) rfl rfl) rfl ?_
          refine R_gpu rfl rfl (pu_true (pu_eql (p := ge = ge) rfl rfl (by omega)) rfl) rfl ?_
          refine R_gpu rfl rfl (pu_pickt rfl rfl) rfl ?_
          refine R_gpu rfl rfl (pu_pickf rfl rfl) rfl ?_
          refine R_pu (pu_pickt rfl rfl) rfl ?_
          refine R_pu (pu_move rfl) rfl ?_
          have o369 : Gt w93 := ((o360.no k92).no k93)
          refine R_glo rfl rfl (lo_call (by kernel_rfl) rfl (sure03 _ o369)) rfl ?_
          rintro _ w94 ⟨rfl, k94⟩
          have kk94 := kk93.then_ k94
          refine R_pu (pu_pickt rfl rfl) rfl ?_
          refine R_pu (pu_assign rfl) rfl ?_
          refine R_nil ?_
          refine X_then hK364 ?_
          refine C_ret ?_
          exact X_ret1 (.inl rfl) rfl rfl ⟨rfl, kk94⟩
end Go.Proofs.YtjbdimfpjbmggaaDoor
