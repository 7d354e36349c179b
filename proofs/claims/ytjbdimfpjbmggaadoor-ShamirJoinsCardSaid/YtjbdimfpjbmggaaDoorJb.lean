/- The body of ShamirJoins, for one kind of parts. -/
import Derived.Test.YtjbdimfpjbmggaaDoorSs
set_option linter.unusedVariables false
set_option linter.unusedSimpArgs false
namespace Go.Proofs.YtjbdimfpjbmggaaDoor
open Go.RowKit Gm
set_option maxRecDepth 100000 in
set_option maxHeartbeats 2000000 in
theorem shamirJoins_bad (A : Option Addr) (L : List Shr) (c : Nat) (ka nn er : Int) (ge : Nat) (hge : ge < 4294967296) (ix : Nat) (hix : ix < 256) (w : World) (HS : Ss w A L) (hc : L.length ≤ c) (hcm : c ≤ maxLen) (hG : Gt w) (hC : ∀ (b : Nat) (A' : Option Addr) (c' : Nat) (w' : World), Ss w' A' L → L.length ≤ c' → Ret Tryd.prog 24 #[.pointer (some ⟨b, 0, none⟩), .slice A' L.length c', .agg ([.int .i64 (ka), .int .i64 (nn), .int .u32 ((ge : Nat) : Int)] : List Value).toArray] w' (fun v w'' => v = .tuple #[.slice none 0 0, .iface 91 (.int .i64 er)] ∧ Kp No w' w'')) (hR : ∀ (x : Nat) (w' : World), Ss w' A L → Ret Tryd.prog 26 #[.slice A L.length c, .agg ([.int .i64 (ka), .int .i64 (nn), .int .u32 ((ge : Nat) : Int)] : List Value).toArray, .int .u8 (x : Int)] w' (fun v w'' => v = .tuple #[.slice none 0 0, .int .i64 er] ∧ Kp No w' w'')) (hAt : ∀ (b : Nat) (A' : Option Addr) (c' : Nat) (w' : World), Ss w' A' L → L.length ≤ c' → (ix ≠ 0 ∧ (ix : Int) ≤ nn) → Ret Tryd.prog 27 #[.pointer (some ⟨b, 0, none⟩), .slice A' L.length c', .agg ([.int .i64 (ka), .int .i64 (nn), .int .u32 ((ge : Nat) : Int)] : List Value).toArray, .int .u8 (ix : Int)] w' (fun v w'' => v = .tuple #[.agg (shC ⟨0, 0, none, [], 0⟩).toArray, .iface 91 (.int .i64 er)] ∧ Kp No w' w'')) : Ret Tryd.prog 6 #[.slice A (L.length) (c), .agg ([.int .i64 (ka), .int .i64 (nn), .int .u32 ((ge : Nat) : Int)] : List Value).toArray, .int .u8 ((ix : Nat) : Int)] w (fun v w' => v = .bool true ∧ Kp No w w') := by
  have hs : L.length < 9223372036854775808 := by have := hcm; unfold maxLen at this; omega
  have kk0 := Kp.refl No w
  refine enter (n := 161) [.slice A (L.length) (c), .agg ([.int .i64 (ka), .int .i64 (nn), .int .u32 ((ge : Nat) : Int)] : List Value).toArray, .int .u8 ((ix : Nat) : Int)] Tryd.func6 rfl rfl rfl ?_
  show Cw _ _ _ _ [(0, .slice A (L.length) (c)), (1, .agg ([.int .i64 (ka), .int .i64 (nn), .int .u32 ((ge : Nat) : Int)] : List Value).toArray), (2, .int .u8 ((ix : Nat) : Int))] _
  refine C_seq (fun K1 hK1 => ?_)
  refine C_region ?_
  refine R_lo (lo_box (L := [.int .i64 (ka), .int .i64 (nn), .int .u32 ((ge : Nat) : Int)]) rfl rfl) rfl ?_
  rintro _ w1 ⟨p0_0, rfl, N1⟩
  have k1 := N1.kp
  have kk1 := kk0.then_ k1
  have ne_p0_0_0 : p0_0 ≠ 0 := Nat.ne_of_gt (Nat.lt_of_lt_of_le hG.lt N1.le)
  have f_p0_0_1 : Bk w1 p0_0 ([.int .i64 (ka), .int .i64 (nn), .int .u32 ((ge : Nat) : Int)]) 25 := N1.bk
  refine R_pu (pu_assign rfl) rfl ?_
  refine R_nil ?_
  refine X_then hK1 ?_
  refine C_cut (fun l_ wr => (l_ = [(0, .slice A (L.length) (c)), (2, .int .u8 ((ix : Nat) : Int)), (4, .pointer (some ⟨p0_0, 0, none⟩))]) ∧ (L.length ≤ 40) ∧ (Kp No w wr) ∧ (Bk wr p0_0 ([.int .i64 (ka), .int .i64 (nn), .int .u32 ((ge : Nat) : Int)]) 25) ∧ (Gt wr)) (fun K_ hK_ => ?_) ?_
  · refine C_seq (fun K2 hK2 => ?_)
    refine C_region ?_
    refine R_pu (pu_move rfl) rfl ?_
    refine R_pu (pu_len Tryd.underlying36 rfl) rfl ?_
    refine R_pu (pu_gtr (p := L.length > 40) rfl rfl (by omega)) rfl ?_
    by_cases g1_3 : L.length > 40
    · refine R_pu (pu_true (pu_move rfl) g1_3) rfl ?_
      refine R_gno rfl rfl rfl rfl ?_
      refine R_gno rfl rfl rfl rfl ?_
      refine R_gno rfl rfl rfl rfl ?_
      refine R_gno rfl rfl rfl rfl ?_
      refine R_gun rfl rfl rfl ?_
      refine R_gun rfl rfl rfl ?_
      refine R_gun rfl rfl rfl ?_
      refine R_gun rfl rfl rfl ?_
      refine R_gun rfl rfl rfl ?_
      refine R_gno rfl rfl rfl rfl ?_
      refine R_pu (pu_pickt rfl rfl) rfl ?_
      refine R_nil ?_
      refine X_then hK2 ?_
      refine C_true rfl ?_
      refine C_seq (fun K3 hK3 => ?_)
      refine C_region ?_
      have o4 : Gt w1 := (hG.no k1)
      refine R_lo (lo_call (by kernel_rfl) rfl (sure03 _ o4)) rfl ?_
      rintro _ w2 ⟨rfl, k2⟩
      have kk2 := kk1.then_ k2
      refine R_pu (pu_assign rfl) rfl ?_
      refine R_nil ?_
      refine X_then hK3 ?_
      refine C_ret ?_
      refine X_then_ret ?_
      exact X_ret1 (.inl rfl) rfl rfl ⟨rfl, kk2⟩
    · refine R_pu (pu_false (pu_move rfl) g1_3) rfl ?_
      refine R_gpu rfl rfl (pu_fieldAddr (off := 0) (o' := 0) (by kernel_rfl) rfl rfl) rfl ?_
      refine R_gpu rfl rfl (pu_loadK f_p0_0_1 (by kernel_rfl) rfl rfl) rfl ?_
      refine R_gpu rfl rfl (pu_gtr (p := ka > 20) rfl rfl (by omega)) rfl ?_
      by_cases g1_7 : ka > 20
      · refine R_gpu rfl rfl (pu_true (pu_move rfl) g1_7) rfl ?_
        refine R_gpu rfl rfl (pu_move rfl) rfl ?_
        refine R_gpu rfl rfl (pu_len Tryd.underlying36 rfl) rfl ?_
        refine R_gpu rfl rfl (pu_fieldAddr (off := 0) (o' := 0) (by kernel_rfl) rfl rfl) rfl ?_
        refine R_gpu rfl rfl (pu_loadK f_p0_0_1 (by kernel_rfl) rfl rfl) rfl ?_
        refine R_gpu rfl rfl (pu_geq (p := ((L.length : Nat) : Int) ≥ ka) rfl rfl (by omega)) rfl ?_
        refine R_gpu rfl rfl (pu_pickt rfl rfl) rfl ?_
        refine R_pu (pu_pickf rfl rfl) rfl ?_
        refine R_nil ?_
        refine X_then hK2 ?_
        refine C_dec rfl (fun h33 => ?_) (fun h33 => ?_)
        · refine C_seq (fun K5 hK5 => ?_)
          refine C_region ?_
          have o6 : Gt w1 := (hG.no k1)
          refine R_lo (lo_call (by kernel_rfl) rfl (sure03 _ o6)) rfl ?_
          rintro _ w3 ⟨rfl, k3⟩
          have kk3 := kk1.then_ k3
          refine R_pu (pu_assign rfl) rfl ?_
          refine R_nil ?_
          refine X_then hK5 ?_
          refine C_ret ?_
          refine X_then_ret ?_
          exact X_ret1 (.inl rfl) rfl rfl ⟨rfl, kk3⟩
        · refine C_skip ?_
          have o7 : Gt w1 := (hG.no k1)
          refine X_cut hK_ [(0, .slice A (L.length) (c)), (2, .int .u8 ((ix : Nat) : Int)), (4, .pointer (some ⟨p0_0, 0, none⟩))] (Sub.cons rfl (Sub.cons rfl (Sub.cons rfl (Sub.nil _)))) ⟨rfl, by omega, kk1, f_p0_0_1, o7⟩
      · refine R_gpu rfl rfl (pu_false (pu_move rfl) g1_7) rfl ?_
        refine R_gno rfl rfl rfl rfl ?_
        refine R_gno rfl rfl rfl rfl ?_
        refine R_gno rfl rfl rfl rfl ?_
        refine R_gno rfl rfl rfl rfl ?_
        refine R_gno rfl rfl rfl rfl ?_
        refine R_gpu rfl rfl (pu_pickf rfl rfl) rfl ?_
        refine R_pu (pu_pickf rfl rfl) rfl ?_
        refine R_nil ?_
        refine X_then hK2 ?_
        refine C_false rfl ?_
        refine C_skip ?_
        have o8 : Gt w1 := (hG.no k1)
        refine X_cut hK_ [(0, .slice A (L.length) (c)), (2, .int .u8 ((ix : Nat) : Int)), (4, .pointer (some ⟨p0_0, 0, none⟩))] (Sub.cons rfl (Sub.cons rfl (Sub.cons rfl (Sub.nil _)))) ⟨rfl, by omega, kk1, f_p0_0_1, o8⟩
  · rintro _ w4 ⟨rfl, hL40, kk4, f_p0_0_4, G_4⟩
    refine C_seq (fun K9 hK9 => ?_)
    refine C_seq (fun K10 hK10 => ?_)
    refine C_region ?_
    refine R_pu (pu_assign rfl) rfl ?_
    refine R_nil ?_
    refine X_then hK10 ?_
    refine C_block ?_
    refine C_loop (fun m_ l_ wr => ∃ i : Nat, (m_ = L.length - i) ∧ (l_ = [(0, .slice A (L.length) (c)), (2, .int .u8 ((ix : Nat) : Int)), (4, .pointer (some ⟨p0_0, 0, none⟩)), (7, .int .i64 ((i : Nat) : Int))]) ∧ (i ≤ L.length) ∧ (Kp No w wr) ∧ (Bk wr p0_0 ([.int .i64 (ka), .int .i64 (nn), .int .u32 ((ge : Nat) : Int)]) 25) ∧ (Gt wr)) (L.length - 0) [(0, .slice A (L.length) (c)), (2, .int .u8 ((ix : Nat) : Int)), (4, .pointer (some ⟨p0_0, 0, none⟩)), (7, .int .i64 0)] (Sub.cons rfl (Sub.cons rfl (Sub.cons rfl (Sub.cons rfl (Sub.nil _))))) ⟨0, rfl, rfl, by omega, kk4, f_p0_0_4, G_4⟩ ?_
    rintro _ _ w5 ⟨i, rfl, rfl, hi, kk5, f_p0_0_5, G_5⟩
    refine C_seq (fun K11 hK11 => ?_)
    refine C_seq (fun K12 hK12 => ?_)
    refine C_region ?_
    refine R_pu (pu_move rfl) rfl ?_
    refine R_pu (pu_move rfl) rfl ?_
    refine R_pu (pu_len Tryd.underlying36 rfl) rfl ?_
    refine R_pu (pu_lss (p := i < L.length) rfl rfl (by omega)) rfl ?_
    refine R_nil ?_
    refine X_then hK12 ?_
    refine C_dec rfl (fun h38 => ?_) (fun h38 => ?_)
    · refine C_skip ?_
      refine X_then hK11 ?_
      refine C_seq (fun K13 hK13 => ?_)
      refine C_block ?_
      refine C_seq (fun K14 hK14 => ?_)
      refine C_region ?_
      refine R_pu (pu_move rfl) rfl ?_
      refine R_pu (pu_move rfl) rfl ?_
      obtain ⟨s1, e_s1⟩ : ∃ q_, (L)[i]? = some q_ := ⟨_, List.getElem?_eq_getElem (by first | omega | (simp; done) | (simp; omega))⟩
      have ok_s1 := HS.get e_s1
      have okb_s1 := ok_s1.bs
      have bi_s1 : s1.ix < 256 := ok_s1.ix
      refine R_pu (pu_indexAddrH (HS.keptNo kk5) Tryd.underlying36 (by kernel_rfl) rfl rfl rfl rfl e_s1) rfl ?_
      refine R_pu (pu_fieldAddrH (off := 2) (HS.keptNo kk5) e_s1 (by kernel_rfl) rfl) rfl ?_
      refine R_pu (pu_loadH (HS.keptNo kk5) e_s1 (by kernel_rfl) rfl rfl) rfl ?_
      refine R_pu (pu_len Tryd.underlying22 rfl) rfl ?_
      refine R_pu (pu_gtr (p := s1.X.length > 100) rfl rfl (by omega)) rfl ?_
      refine R_nil ?_
      refine X_then hK14 ?_
      refine C_dec rfl (fun h47 => ?_) (fun h47 => ?_)
      · refine C_seq (fun K15 hK15 => ?_)
        refine C_region ?_
        refine R_lo (lo_call (by kernel_rfl) rfl (sure03 _ G_5)) rfl ?_
        rintro _ w6 ⟨rfl, k6⟩
        have kk6 := kk5.then_ k6
        refine R_pu (pu_assign rfl) rfl ?_
        refine R_nil ?_
        refine X_then hK15 ?_
        refine C_ret ?_
        refine X_in_ret (X_then_ret (X_then_ret (X_in_ret (X_then_ret ?_))))
        exact X_ret1 (.inl rfl) rfl rfl ⟨rfl, kk6⟩
      · refine C_skip ?_
        refine X_in_normal ?_
        refine X_then hK13 ?_
        refine C_region ?_
        refine R_pu (pu_move rfl) rfl ?_
        refine R_pu (pu_add (z := ((i + 1 : Nat) : Int)) rfl rfl (by rw [IntKind.wrap_i64]; omega)) rfl ?_
        refine R_pu (pu_assign rfl) rfl ?_
        refine R_nil ?_
        refine X_round (L.length - (i + 1)) [(0, .slice A (L.length) (c)), (2, .int .u8 ((ix : Nat) : Int)), (4, .pointer (some ⟨p0_0, 0, none⟩)), (7, .int .i64 (((i + 1) : Nat) : Int))] (by omega) (Sub.cons rfl (Sub.cons rfl (Sub.cons rfl (Sub.cons rfl (Sub.nil _))))) ⟨i + 1, rfl, rfl, by omega, kk5, f_p0_0_5, G_5⟩
    · refine C_exit ?_
      refine X_then_exit (X_then_exit (X_in_eq ?_))
      refine X_then hK9 ?_
      refine C_seq (fun K16 hK16 => ?_)
      refine C_region ?_
      by_cases hidx : ix = 0 ∨ nn < (ix : Int)
      · refine R_lo (lo_call (by kernel_rfl) rfl (gf_new _)) rfl ?_
        rintro _ w7 ⟨b8_0, rfl, le7, T7, k7⟩
        have kk7 := kk5.then_ k7
        have ne_b8_0_p0_0 : b8_0 ≠ p0_0 := Nat.ne_of_gt (Nat.lt_of_lt_of_le f_p0_0_5.lt le7)
        have ne_b8_0_0 : b8_0 ≠ 0 := Nat.ne_of_gt (Nat.lt_of_lt_of_le G_5.lt le7)
        refine R_pu (pu_assign rfl) rfl ?_
        refine R_nil ?_
        refine X_then hK16 ?_
        refine C_seq (fun K17 hK17 => ?_)
        have f18 : Bk w7 p0_0 ([.int .i64 (ka), .int .i64 (nn), .int .u32 ((ge : Nat) : Int)]) 25 := (f_p0_0_5.no k7)
        have o19 : Gt w7 := (G_5.no k7)
        refine D_begin (fun W => Kp No w W ∧ Bk W p0_0 ([.int .i64 (ka), .int .i64 (nn), .int .u32 ((ge : Nat) : Int)]) 25 ∧ Gt W ∧ Tb W b8_0) 10 rfl (by kernel_rfl) ⟨kk7.drew, f18.draw, o19.draw, T7.draw⟩ ?_
        intro w8 k8 _
        have kk8 := kk7.then_ k8
        refine D_take 0 rfl (by kernel_rfl) (by kernel_rfl) (by kernel_rfl) (fun _ _ _ h => h) rfl (fun W hS => pu_move rfl) ?_
        refine D_take 1 rfl (by kernel_rfl) (by kernel_rfl) (by kernel_rfl) (fun _ _ _ h => h) rfl (fun W hS => pu_move rfl) ?_
        refine D_take 3 rfl (by kernel_rfl) (by kernel_rfl) (by kernel_rfl) (fun _ _ _ h => h) rfl (fun W hS => pu_loadRow (len := 3) hS.2.1 (by kernel_rfl) (by kernel_rfl) rfl rfl) ?_
        have o20 : Tb w8 b8_0 := (T7.no k8)
        refine D_one 2 (by kernel_rfl) (Nx_lo rfl (lo_call (by kernel_rfl) rfl (give_shares A L c _ (HS.keptNo kk8) (by omega))) rfl ?_)
        rintro _ w9 ⟨A_gv9, c_gv9, rfl, Q9, hc_gv9, hb_gv9, k9⟩
        have kk9 := kk8.then_ k9
        have f21 : Bk w9 p0_0 ([.int .i64 (ka), .int .i64 (nn), .int .u32 ((ge : Nat) : Int)]) 25 := ((f18.no k8).no k9)
        have o22 : Gt w9 := ((o19.no k8).no k9)
        have o23 : Tb w9 b8_0 := (o20.no k9)
        refine ⟨⟨kk9, f21, o22, o23⟩, ?_⟩
        refine D_one 4 (by kernel_rfl) (Nx_lo rfl (lo_call (by kernel_rfl) rfl (hC b8_0 A_gv9 c_gv9 _ Q9 hc_gv9)) rfl ?_)
        rintro _ w10 ⟨rfl, k10⟩
        have kk10 := kk9.then_ k10
        have f24 : Bk w10 p0_0 ([.int .i64 (ka), .int .i64 (nn), .int .u32 ((ge : Nat) : Int)]) 25 := (f21.no k10)
        have o25 : Gt w10 := (o22.no k10)
        have o26 : Tb w10 b8_0 := (o23.no k10)
        refine ⟨⟨kk10, f24, o25, o26⟩, ?_⟩
        refine D_take 5 rfl (by kernel_rfl) (by kernel_rfl) (by kernel_rfl) (fun _ _ _ h => h) rfl (fun W hS => pu_move rfl) ?_
        refine D_take 6 rfl (by kernel_rfl) (by kernel_rfl) (by kernel_rfl) (fun _ _ _ h => h) rfl (fun W hS => pu_extract rfl rfl) ?_
        refine D_take 7 rfl (by kernel_rfl) (by kernel_rfl) (by kernel_rfl) (fun _ _ _ h => h) rfl (fun W hS => pu_extract rfl rfl) ?_
        refine D_take 8 rfl (by kernel_rfl) (by kernel_rfl) (by kernel_rfl) (fun _ _ _ h => h) rfl (fun W hS => pu_assign rfl) ?_
        refine D_take 9 rfl (by kernel_rfl) (by kernel_rfl) (by kernel_rfl) (fun _ _ _ h => h) rfl (fun W hS => pu_assign rfl) ?_
        refine D_done (by kernel_rfl) ?_
        refine X_then hK17 ?_
        refine C_seq (fun K27 hK27 => ?_)
        refine C_region ?_
        refine R_pu (pu_move rfl) rfl ?_
        refine R_pu (pu_loadRow (len := 3) f24 (by kernel_rfl) (by kernel_rfl) rfl rfl) rfl ?_
        refine R_lo (lo_call (by kernel_rfl) rfl (hR 0 _ (HS.keptNo kk10))) rfl ?_
        rintro _ w11 ⟨rfl, k11⟩
        have kk11 := kk10.then_ k11
        refine R_pu (pu_move rfl) rfl ?_
        refine R_pu (pu_extract rfl rfl) rfl ?_
        refine R_pu (pu_extract rfl rfl) rfl ?_
        refine R_pu (pu_assign rfl) rfl ?_
        refine R_pu (pu_assign rfl) rfl ?_
        refine R_nil ?_
        refine X_then hK27 ?_
        refine C_seq (fun K28 hK28 => ?_)
        have f29 : Bk w11 p0_0 ([.int .i64 (ka), .int .i64 (nn), .int .u32 ((ge : Nat) : Int)]) 25 := (f24.no k11)
        have o30 : Gt w11 := (o25.no k11)
        have o31 : Tb w11 b8_0 := (o26.no k11)
        refine D_begin (fun W => Kp No w W ∧ Bk W p0_0 ([.int .i64 (ka), .int .i64 (nn), .int .u32 ((ge : Nat) : Int)]) 25 ∧ Gt W ∧ Tb W b8_0) 12 rfl (by kernel_rfl) ⟨kk11.drew, f29.draw, o30.draw, o31.draw⟩ ?_
        intro w12 k12 _
        have kk12 := kk11.then_ k12
        refine D_take 0 rfl (by kernel_rfl) (by kernel_rfl) (by kernel_rfl) (fun _ _ _ h => h) rfl (fun W hS => pu_move rfl) ?_
        refine D_take 1 rfl (by kernel_rfl) (by kernel_rfl) (by kernel_rfl) (fun _ _ _ h => h) rfl (fun W hS => pu_move rfl) ?_
        refine D_take 3 rfl (by kernel_rfl) (by kernel_rfl) (by kernel_rfl) (fun _ _ _ h => h) rfl (fun W hS => pu_loadRow (len := 3) hS.2.1 (by kernel_rfl) (by kernel_rfl) rfl rfl) ?_
        refine D_take 4 rfl (by kernel_rfl) (by kernel_rfl) (by kernel_rfl) (fun _ _ _ h => h) rfl (fun W hS => pu_move rfl) ?_
        refine D_two 2 9 (by kernel_rfl) ?_ ?_
        · have o32 : Tb w12 b8_0 := (o31.no k12)
          refine Nx_lo rfl (lo_call (by kernel_rfl) rfl (give_shares A L c _ (HS.keptNo kk12) (by omega))) rfl ?_
          rintro _ w13 ⟨A_gv11, c_gv11, rfl, Q13, hc_gv11, hb_gv11, k13⟩
          have kk13 := kk12.then_ k13
          have f33 : Bk w13 p0_0 ([.int .i64 (ka), .int .i64 (nn), .int .u32 ((ge : Nat) : Int)]) 25 := ((f29.no k12).no k13)
          have o34 : Gt w13 := ((o30.no k12).no k13)
          have o35 : Tb w13 b8_0 := (o32.no k13)
          refine ⟨⟨kk13, f33, o34, o35⟩, ?_⟩
          refine D_two 5 9 (by kernel_rfl) ?_ ?_
          · refine Nx_lo rfl (lo_call (by kernel_rfl) rfl (shamir_at_idx b8_0 A_gv11 L c_gv11 ka nn ge ix _ Q13 ⟨hix, hidx⟩)) rfl ?_
            rintro _ w14 ⟨rfl, k14⟩
            have kk14 := kk13.then_ k14
            have f36 : Bk w14 p0_0 ([.int .i64 (ka), .int .i64 (nn), .int .u32 ((ge : Nat) : Int)]) 25 := (f33.no k14)
            have o37 : Gt w14 := (o34.no k14)
            have o38 : Tb w14 b8_0 := (o35.no k14)
            refine ⟨⟨kk14, f36, o37, o38⟩, ?_⟩
            refine D_take 6 rfl (by kernel_rfl) (by kernel_rfl) (by kernel_rfl) (fun _ _ _ h => h) rfl (fun W hS => pu_move rfl) ?_
            refine D_take 7 rfl (by kernel_rfl) (by kernel_rfl) (by kernel_rfl) (fun _ _ _ h => h) rfl (fun W hS => pu_extract rfl rfl) ?_
            refine D_take 8 rfl (by kernel_rfl) (by kernel_rfl) (by kernel_rfl) (fun _ _ _ h => h) rfl (fun W hS => pu_extract rfl rfl) ?_
            refine D_one 9 (by kernel_rfl) (Nx_lo rfl (lo_alloc (L := [.int .u8 0, .int .u32 0, .slice none (0) (0)]) (by kernel_rfl)) rfl ?_)
            rintro _ w15 ⟨ab, rfl, N15⟩
            have k15 := N15.kp
            have kk15 := kk14.then_ k15
            have ne_ab_p0_0 : ab ≠ p0_0 := Nat.ne_of_gt (Nat.lt_of_lt_of_le f36.lt N15.le)
            have ne_ab_0 : ab ≠ 0 := Nat.ne_of_gt (Nat.lt_of_lt_of_le o37.lt N15.le)
            have ne_ab_b8_0 : ab ≠ b8_0 := Nat.ne_of_gt (Nat.lt_of_lt_of_le o38.lt N15.le)
            have f_ab_15 : Bk w15 ab ([.int .u8 0, .int .u32 0, .slice none (0) (0)]) 50 := N15.bk
            have f39 : Bk w15 p0_0 ([.int .i64 (ka), .int .i64 (nn), .int .u32 ((ge : Nat) : Int)]) 25 := (f36.no k15)
            have o40 : Gt w15 := (o37.no k15)
            have o41 : Tb w15 b8_0 := (o38.no k15)
            refine ⟨⟨kk15, f39, o40, o41⟩, ?_⟩
            refine D_one 10 (by kernel_rfl) (Nx_lo0 rfl (lo_storeRow (C := [.int .u8 0, .int .u32 0, .slice none (0) (0)]) f_ab_15 (by kernel_rfl) rfl rfl (by intro u hu; simp at hu; rcases hu with rfl | rfl | rfl <;> rfl) rfl) ?_)
            rintro _ w16 kf16
            obtain ⟨k16, f_ab_16⟩ := kf16
            replace f_ab_16 : Bk w16 ab ([.int .u8 0, .int .u32 0, .slice none (0) (0)]) 50 := f_ab_16
            have kk16 := kk15.trans k16 (fun i hi => .inr (hi ▸ (Nat.le_trans kk14.size N15.le)))
            have f42 : Bk w16 p0_0 ([.int .i64 (ka), .int .i64 (nn), .int .u32 ((ge : Nat) : Int)]) 25 := (f39.on k16 (Ne.symm ne_ab_p0_0))
            have o43 : Gt w16 := (o40.on k16 (Ne.symm ne_ab_0))
            have o44 : Tb w16 b8_0 := (o41.on k16 (Ne.symm ne_ab_b8_0))
            refine ⟨⟨kk16, f42, o43, o44⟩, ?_⟩
            refine D_take 11 rfl (by kernel_rfl) (by kernel_rfl) (by kernel_rfl) (fun _ _ _ h => h) rfl (fun W hS => pu_assign rfl) ?_
            refine D_done (by kernel_rfl) ?_
            refine X_then hK28 ?_
            refine C_seq (fun K45 hK45 => ?_)
            refine C_region ?_
            refine R_pu (pu_move rfl) rfl ?_
            refine R_pu (pu_loadRow (len := 3) f42 (by kernel_rfl) (by kernel_rfl) rfl rfl) rfl ?_
            refine R_pu (pu_move rfl) rfl ?_
            refine R_lo (lo_call (by kernel_rfl) rfl (hR ix _ (HS.keptNo kk16))) rfl ?_
            rintro _ w17 ⟨rfl, k17⟩
            have kk17 := kk16.then_ k17
            refine R_pu (pu_move rfl) rfl ?_
            refine R_pu (pu_extract rfl rfl) rfl ?_
            refine R_pu (pu_extract rfl rfl) rfl ?_
            refine R_pu (pu_assign rfl) rfl ?_
            refine R_pu (pu_assign rfl) rfl ?_
            refine R_nil ?_
            refine X_then hK45 ?_
            refine C_seq (fun K46 hK46 => ?_)
            have f47 : Bk w17 p0_0 ([.int .i64 (ka), .int .i64 (nn), .int .u32 ((ge : Nat) : Int)]) 25 := (f42.no k17)
            have f48 : Bk w17 ab ([.int .u8 0, .int .u32 0, .slice none (0) (0)]) 50 := (f_ab_16.no k17)
            have o49 : Gt w17 := (o43.no k17)
            have o50 : Tb w17 b8_0 := (o44.no k17)
            refine D_begin (fun W => Kp No w W ∧ Bk W p0_0 ([.int .i64 (ka), .int .i64 (nn), .int .u32 ((ge : Nat) : Int)]) 25 ∧ Bk W ab ([.int .u8 0, .int .u32 0, .slice none (0) (0)]) 50 ∧ Gt W ∧ Tb W b8_0) 9 rfl (by kernel_rfl) ⟨kk17.drew, f47.draw, f48.draw, o49.draw, o50.draw⟩ ?_
            intro w18 k18 _
            have kk18 := kk17.then_ k18
            refine D_take 0 rfl (by kernel_rfl) (by kernel_rfl) (by kernel_rfl) (fun _ _ _ h => h) rfl (fun W hS => pu_move rfl) ?_
            refine D_take 2 rfl (by kernel_rfl) (by kernel_rfl) (by kernel_rfl) (fun _ _ _ h => h) rfl (fun W hS => pu_loadRow (len := 3) hS.2.1 (by kernel_rfl) (by kernel_rfl) rfl rfl) ?_
            have o51 : Tb w18 b8_0 := (o50.no k18)
            refine D_one 1 (by kernel_rfl) (Nx_lo rfl (lo_call (by kernel_rfl) rfl (give_shares A L c _ (HS.keptNo kk18) (by omega))) rfl ?_)
            rintro _ w19 ⟨A_gv13, c_gv13, rfl, Q19, hc_gv13, hb_gv13, k19⟩
            have kk19 := kk18.then_ k19
            have f52 : Bk w19 p0_0 ([.int .i64 (ka), .int .i64 (nn), .int .u32 ((ge : Nat) : Int)]) 25 := ((f47.no k18).no k19)
            have f53 : Bk w19 ab ([.int .u8 0, .int .u32 0, .slice none (0) (0)]) 50 := ((f48.no k18).no k19)
            have o54 : Gt w19 := ((o49.no k18).no k19)
            have o55 : Tb w19 b8_0 := (o51.no k19)
            refine ⟨⟨kk19, f52, f53, o54, o55⟩, ?_⟩
            refine D_one 3 (by kernel_rfl) (Nx_lo rfl (lo_call (by kernel_rfl) rfl (shamir_combine_nil A_gv13 L c_gv13 ka nn ge _ Q19 ⟨hge, hs⟩)) rfl ?_)
            rintro _ w20 ⟨rfl, k20⟩
            have kk20 := kk19.then_ k20
            have f56 : Bk w20 p0_0 ([.int .i64 (ka), .int .i64 (nn), .int .u32 ((ge : Nat) : Int)]) 25 := (f52.no k20)
            have f57 : Bk w20 ab ([.int .u8 0, .int .u32 0, .slice none (0) (0)]) 50 := (f53.no k20)
            have o58 : Gt w20 := (o54.no k20)
            have o59 : Tb w20 b8_0 := (o55.no k20)
            refine ⟨⟨kk20, f56, f57, o58, o59⟩, ?_⟩
            refine D_take 4 rfl (by kernel_rfl) (by kernel_rfl) (by kernel_rfl) (fun _ _ _ h => h) rfl (fun W hS => pu_move rfl) ?_
            refine D_take 5 rfl (by kernel_rfl) (by kernel_rfl) (by kernel_rfl) (fun _ _ _ h => h) rfl (fun W hS => pu_extract rfl rfl) ?_
            refine D_take 6 rfl (by kernel_rfl) (by kernel_rfl) (by kernel_rfl) (fun _ _ _ h => h) rfl (fun W hS => pu_extract rfl rfl) ?_
            refine D_take 7 rfl (by kernel_rfl) (by kernel_rfl) (by kernel_rfl) (fun _ _ _ h => h) rfl (fun W hS => pu_assign rfl) ?_
            refine D_take 8 rfl (by kernel_rfl) (by kernel_rfl) (by kernel_rfl) (fun _ _ _ h => h) rfl (fun W hS => pu_assign rfl) ?_
            refine D_done (by kernel_rfl) ?_
            refine X_then hK46 ?_
            refine C_seq (fun K60 hK60 => ?_)
            refine C_seq (fun K61 hK61 => ?_)
            refine C_region ?_
            refine R_pu (pu_move rfl) rfl ?_
            refine R_pu (pu_bstr (Bs.nil _ none) Tryd.underlying22 Tryd.underlying5 Tryd.underlying9 rfl rfl) rfl ?_
            refine R_pu (pu_move rfl) rfl ?_
            refine R_pu (pu_bstr (Bs.nil _ none) Tryd.underlying22 Tryd.underlying5 Tryd.underlying9 rfl rfl) rfl ?_
            refine R_pu (pu_false (pu_neqs (p := ([]) = ([])) rfl rfl (bstr_inj (show ∀ n ∈ ([] : List Nat), n < 256 by simp) (show ∀ n ∈ ([] : List Nat), n < 256 by simp))) (fun h => h rfl)) rfl ?_
            refine R_pu (pu_move rfl) rfl ?_
            refine R_gpu rfl rfl (pu_move rfl) rfl ?_
            refine R_glo rfl rfl (lo_call (by kernel_rfl) rfl (num03_err er _ o58)) rfl ?_
            rintro _ w21 ⟨rfl, k21⟩
            have kk21 := kk20.then_ k21
            refine R_gpu rfl rfl (pu_move rfl) rfl ?_
            refine R_gpu rfl rfl (pu_false (pu_neq (p := er = er) rfl rfl (by omega)) (fun h => h rfl)) rfl ?_
            refine R_pu (pu_pickf rfl rfl) rfl ?_
            refine R_pu (pu_move rfl) rfl ?_
            refine R_gpu rfl rfl (pu_move rfl) rfl ?_
            have o62 : Gt w21 := (o58.no k21)
            refine R_glo rfl rfl (lo_call (by kernel_rfl) rfl (num03_err 1 _ o62)) rfl ?_
            rintro _ w22 ⟨rfl, k22⟩
            have kk22 := kk21.then_ k22
            refine R_gpu rfl rfl (pu_false (pu_neq (p := (1 : Nat) = 1) rfl rfl (by omega)) (by decide)) rfl ?_
            refine R_pu (pu_pickf rfl rfl) rfl ?_
            refine R_nil ?_
            refine X_then hK61 ?_
            refine C_false rfl ?_
            refine C_skip ?_
            refine X_then hK60 ?_
            refine C_seq (fun K63 hK63 => ?_)
            refine C_seq (fun K64 hK64 => ?_)
            refine C_region ?_
            refine R_pu (pu_move rfl) rfl ?_
            refine R_pu (pu_eql (p := ix = 0) rfl rfl (by omega)) rfl ?_
            by_cases g16_2 : ix = 0
            · refine R_pu (pu_true (pu_move rfl) g16_2) rfl ?_
              refine R_gno rfl rfl rfl rfl ?_
              refine R_gno rfl rfl rfl rfl ?_
              refine R_gno rfl rfl rfl rfl ?_
              refine R_gno rfl rfl rfl rfl ?_
              refine R_gno rfl rfl rfl rfl ?_
              refine R_pu (pu_pickt rfl rfl) rfl ?_
              refine R_nil ?_
              refine X_then hK64 ?_
              refine C_true rfl ?_
              refine C_seq (fun K65 hK65 => ?_)
              refine C_region ?_
              refine R_pu (pu_move rfl) rfl ?_
              have o66 : Gt w22 := (o62.no k22)
              refine R_lo (lo_call (by kernel_rfl) rfl (num03_err 1 _ o66)) rfl ?_
              rintro _ w23 ⟨rfl, k23⟩
              have kk23 := kk22.then_ k23
              refine R_pu (pu_true (pu_eql (p := (1 : Nat) = 1) rfl rfl (by omega)) (by decide)) rfl ?_
              refine R_pu (pu_move rfl) rfl ?_
              refine R_gpu rfl rfl (pu_fieldAddr (off := 0) (o' := 0) (by kernel_rfl) rfl rfl) rfl ?_
              have f67 : Bk w23 ab ([.int .u8 0, .int .u32 0, .slice none (0) (0)]) 50 := (((f57.no k21).no k22).no k23)
              refine R_gpu rfl rfl (pu_loadK f67 (by kernel_rfl) rfl rfl) rfl ?_
              refine R_gpu rfl rfl (pu_true (pu_eql (p := (0 : Nat) = 0) rfl rfl (by omega)) (by decide)) rfl ?_
              refine R_pu (pu_pickt rfl rfl) rfl ?_
              refine R_pu (pu_move rfl) rfl ?_
              refine R_gpu rfl rfl (pu_fieldAddr (off := 2) (o' := 2) (by kernel_rfl) rfl rfl) rfl ?_
              refine R_gpu rfl rfl (pu_loadK f67 (by kernel_rfl) rfl rfl) rfl ?_
              refine R_gpu rfl rfl (pu_len Tryd.underlying22 rfl) rfl ?_
              refine R_gpu rfl rfl (pu_true (pu_eql (p := (0 : Nat) = 0) rfl rfl (by omega)) (by decide)) rfl ?_
              refine R_pu (pu_pickt rfl rfl) rfl ?_
              refine R_pu (pu_move rfl) rfl ?_
              have o68 : Gt w23 := (o66.no k23)
              refine R_glo rfl rfl (lo_call (by kernel_rfl) rfl (sure03 _ o68)) rfl ?_
              rintro _ w24 ⟨rfl, k24⟩
              have kk24 := kk23.then_ k24
              refine R_pu (pu_pickt rfl rfl) rfl ?_
              refine R_pu (pu_assign rfl) rfl ?_
              refine R_nil ?_
              refine X_then hK65 ?_
              refine C_ret ?_
              refine X_then_ret ?_
              exact X_ret1 (.inl rfl) rfl rfl ⟨rfl, kk24⟩
            · refine R_pu (pu_false (pu_move rfl) g16_2) rfl ?_
              refine R_gpu rfl rfl (pu_move rfl) rfl ?_
              refine R_gpu rfl rfl (pu_conv (z := ((ix : Nat) : Int)) Tryd.underlying5 Tryd.underlying3 rfl (by have : ix < 256 := hix; rw [IntKind.wrap_i64]; omega)) rfl ?_
              refine R_gpu rfl rfl (pu_fieldAddr (off := 1) (o' := 1) (by kernel_rfl) rfl rfl) rfl ?_
              have f69 : Bk w22 p0_0 ([.int .i64 (ka), .int .i64 (nn), .int .u32 ((ge : Nat) : Int)]) 25 := ((f56.no k21).no k22)
              refine R_gpu rfl rfl (pu_loadK f69 (by kernel_rfl) rfl rfl) rfl ?_
              refine R_gpu rfl rfl (pu_true (pu_gtr (p := ((ix : Nat) : Int) > nn) rfl rfl (by omega)) (by omega)) rfl ?_
              refine R_pu (pu_pickf rfl rfl) rfl ?_
              refine R_nil ?_
              refine X_then hK64 ?_
              refine C_true rfl ?_
              refine C_seq (fun K70 hK70 => ?_)
              refine C_region ?_
              refine R_pu (pu_move rfl) rfl ?_
              have o71 : Gt w22 := (o62.no k22)
              refine R_lo (lo_call (by kernel_rfl) rfl (num03_err 1 _ o71)) rfl ?_
              rintro _ w25 ⟨rfl, k25⟩
              have kk25 := kk22.then_ k25
              refine R_pu (pu_true (pu_eql (p := (1 : Nat) = 1) rfl rfl (by omega)) (by decide)) rfl ?_
              refine R_pu (pu_move rfl) rfl ?_
              refine R_gpu rfl rfl (pu_fieldAddr (off := 0) (o' := 0) (by kernel_rfl) rfl rfl) rfl ?_
              have f72 : Bk w25 ab ([.int .u8 0, .int .u32 0, .slice none (0) (0)]) 50 := (((f57.no k21).no k22).no k25)
              refine R_gpu rfl rfl (pu_loadK f72 (by kernel_rfl) rfl rfl) rfl ?_
              refine R_gpu rfl rfl (pu_true (pu_eql (p := (0 : Nat) = 0) rfl rfl (by omega)) (by decide)) rfl ?_
              refine R_pu (pu_pickt rfl rfl) rfl ?_
              refine R_pu (pu_move rfl) rfl ?_
              refine R_gpu rfl rfl (pu_fieldAddr (off := 2) (o' := 2) (by kernel_rfl) rfl rfl) rfl ?_
              refine R_gpu rfl rfl (pu_loadK f72 (by kernel_rfl) rfl rfl) rfl ?_
              refine R_gpu rfl rfl (pu_len Tryd.underlying22 rfl) rfl ?_
              refine R_gpu rfl rfl (pu_true (pu_eql (p := (0 : Nat) = 0) rfl rfl (by omega)) (by decide)) rfl ?_
              refine R_pu (pu_pickt rfl rfl) rfl ?_
              refine R_pu (pu_move rfl) rfl ?_
              have o73 : Gt w25 := (o71.no k25)
              refine R_glo rfl rfl (lo_call (by kernel_rfl) rfl (sure03 _ o73)) rfl ?_
              rintro _ w26 ⟨rfl, k26⟩
              have kk26 := kk25.then_ k26
              refine R_pu (pu_pickt rfl rfl) rfl ?_
              refine R_pu (pu_assign rfl) rfl ?_
              refine R_nil ?_
              refine X_then hK70 ?_
              refine C_ret ?_
              refine X_then_ret ?_
              exact X_ret1 (.inl rfl) rfl rfl ⟨rfl, kk26⟩
          · refine Nx_lo rfl (lo_alloc (L := [.int .u8 0, .int .u32 0, .slice none (0) (0)]) (by kernel_rfl)) rfl ?_
            rintro _ w27 ⟨ab, rfl, N27⟩
            have k27 := N27.kp
            have kk27 := kk13.then_ k27
            have ne_ab_p0_0 : ab ≠ p0_0 := Nat.ne_of_gt (Nat.lt_of_lt_of_le f33.lt N27.le)
            have ne_ab_0 : ab ≠ 0 := Nat.ne_of_gt (Nat.lt_of_lt_of_le o34.lt N27.le)
            have ne_ab_b8_0 : ab ≠ b8_0 := Nat.ne_of_gt (Nat.lt_of_lt_of_le o35.lt N27.le)
            have f_ab_27 : Bk w27 ab ([.int .u8 0, .int .u32 0, .slice none (0) (0)]) 50 := N27.bk
            have f74 : Bk w27 p0_0 ([.int .i64 (ka), .int .i64 (nn), .int .u32 ((ge : Nat) : Int)]) 25 := (f33.no k27)
            have o75 : Gt w27 := (o34.no k27)
            have o76 : Tb w27 b8_0 := (o35.no k27)
            refine ⟨⟨kk27, f74, o75, o76⟩, ?_⟩
            refine D_one 5 (by kernel_rfl) (Nx_lo rfl (lo_call (by kernel_rfl) rfl (shamir_at_idx b8_0 A_gv11 L c_gv11 ka nn ge ix _ (Q13.keptNo k27) ⟨hix, hidx⟩)) rfl ?_)
            rintro _ w28 ⟨rfl, k28⟩
            have kk28 := kk27.then_ k28
            have f77 : Bk w28 p0_0 ([.int .i64 (ka), .int .i64 (nn), .int .u32 ((ge : Nat) : Int)]) 25 := (f74.no k28)
            have o78 : Gt w28 := (o75.no k28)
            have o79 : Tb w28 b8_0 := (o76.no k28)
            refine ⟨⟨kk28, f77, o78, o79⟩, ?_⟩
            refine D_take 6 rfl (by kernel_rfl) (by kernel_rfl) (by kernel_rfl) (fun _ _ _ h => h) rfl (fun W hS => pu_move rfl) ?_
            refine D_take 7 rfl (by kernel_rfl) (by kernel_rfl) (by kernel_rfl) (fun _ _ _ h => h) rfl (fun W hS => pu_extract rfl rfl) ?_
            refine D_take 8 rfl (by kernel_rfl) (by kernel_rfl) (by kernel_rfl) (fun _ _ _ h => h) rfl (fun W hS => pu_extract rfl rfl) ?_
            have f80 : Bk w28 ab ([.int .u8 0, .int .u32 0, .slice none (0) (0)]) 50 := (f_ab_27.no k28)
            refine D_one 10 (by kernel_rfl) (Nx_lo0 rfl (lo_storeRow (C := [.int .u8 0, .int .u32 0, .slice none (0) (0)]) f80 (by kernel_rfl) rfl rfl (by intro u hu; simp at hu; rcases hu with rfl | rfl | rfl <;> rfl) rfl) ?_)
            rintro _ w29 kf29
            obtain ⟨k29, f_ab_29⟩ := kf29
            replace f_ab_29 : Bk w29 ab ([.int .u8 0, .int .u32 0, .slice none (0) (0)]) 50 := f_ab_29
            have kk29 := kk28.trans k29 (fun i hi => .inr (hi ▸ (Nat.le_trans kk13.size N27.le)))
            have f81 : Bk w29 p0_0 ([.int .i64 (ka), .int .i64 (nn), .int .u32 ((ge : Nat) : Int)]) 25 := (f77.on k29 (Ne.symm ne_ab_p0_0))
            have o82 : Gt w29 := (o78.on k29 (Ne.symm ne_ab_0))
            have o83 : Tb w29 b8_0 := (o79.on k29 (Ne.symm ne_ab_b8_0))
            refine ⟨⟨kk29, f81, o82, o83⟩, ?_⟩
            refine D_take 11 rfl (by kernel_rfl) (by kernel_rfl) (by kernel_rfl) (fun _ _ _ h => h) rfl (fun W hS => pu_assign rfl) ?_
            refine D_done (by kernel_rfl) ?_
            refine X_then hK28 ?_
            refine C_seq (fun K84 hK84 => ?_)
            refine C_region ?_
            refine R_pu (pu_move rfl) rfl ?_
            refine R_pu (pu_loadRow (len := 3) f81 (by kernel_rfl) (by kernel_rfl) rfl rfl) rfl ?_
            refine R_pu (pu_move rfl) rfl ?_
            refine R_lo (lo_call (by kernel_rfl) rfl (hR ix _ (HS.keptNo kk29))) rfl ?_
            rintro _ w30 ⟨rfl, k30⟩
            have kk30 := kk29.then_ k30
            refine R_pu (pu_move rfl) rfl ?_
            refine R_pu (pu_extract rfl rfl) rfl ?_
            refine R_pu (pu_extract rfl rfl) rfl ?_
            refine R_pu (pu_assign rfl) rfl ?_
            refine R_pu (pu_assign rfl) rfl ?_
            refine R_nil ?_
            refine X_then hK84 ?_
            refine C_seq (fun K85 hK85 => ?_)
            have f86 : Bk w30 p0_0 ([.int .i64 (ka), .int .i64 (nn), .int .u32 ((ge : Nat) : Int)]) 25 := (f81.no k30)
            have f87 : Bk w30 ab ([.int .u8 0, .int .u32 0, .slice none (0) (0)]) 50 := (f_ab_29.no k30)
            have o88 : Gt w30 := (o82.no k30)
            have o89 : Tb w30 b8_0 := (o83.no k30)
            refine D_begin (fun W => Kp No w W ∧ Bk W p0_0 ([.int .i64 (ka), .int .i64 (nn), .int .u32 ((ge : Nat) : Int)]) 25 ∧ Bk W ab ([.int .u8 0, .int .u32 0, .slice none (0) (0)]) 50 ∧ Gt W ∧ Tb W b8_0) 9 rfl (by kernel_rfl) ⟨kk30.drew, f86.draw, f87.draw, o88.draw, o89.draw⟩ ?_
            intro w31 k31 _
            have kk31 := kk30.then_ k31
            refine D_take 0 rfl (by kernel_rfl) (by kernel_rfl) (by kernel_rfl) (fun _ _ _ h => h) rfl (fun W hS => pu_move rfl) ?_
            refine D_take 2 rfl (by kernel_rfl) (by kernel_rfl) (by kernel_rfl) (fun _ _ _ h => h) rfl (fun W hS => pu_loadRow (len := 3) hS.2.1 (by kernel_rfl) (by kernel_rfl) rfl rfl) ?_
            have o90 : Tb w31 b8_0 := (o89.no k31)
            refine D_one 1 (by kernel_rfl) (Nx_lo rfl (lo_call (by kernel_rfl) rfl (give_shares A L c _ (HS.keptNo kk31) (by omega))) rfl ?_)
            rintro _ w32 ⟨A_gv13, c_gv13, rfl, Q32, hc_gv13, hb_gv13, k32⟩
            have kk32 := kk31.then_ k32
            have f91 : Bk w32 p0_0 ([.int .i64 (ka), .int .i64 (nn), .int .u32 ((ge : Nat) : Int)]) 25 := ((f86.no k31).no k32)
            have f92 : Bk w32 ab ([.int .u8 0, .int .u32 0, .slice none (0) (0)]) 50 := ((f87.no k31).no k32)
            have o93 : Gt w32 := ((o88.no k31).no k32)
            have o94 : Tb w32 b8_0 := (o90.no k32)
            refine ⟨⟨kk32, f91, f92, o93, o94⟩, ?_⟩
            refine D_one 3 (by kernel_rfl) (Nx_lo rfl (lo_call (by kernel_rfl) rfl (shamir_combine_nil A_gv13 L c_gv13 ka nn ge _ Q32 ⟨hge, hs⟩)) rfl ?_)
            rintro _ w33 ⟨rfl, k33⟩
            have kk33 := kk32.then_ k33
            have f95 : Bk w33 p0_0 ([.int .i64 (ka), .int .i64 (nn), .int .u32 ((ge : Nat) : Int)]) 25 := (f91.no k33)
            have f96 : Bk w33 ab ([.int .u8 0, .int .u32 0, .slice none (0) (0)]) 50 := (f92.no k33)
            have o97 : Gt w33 := (o93.no k33)
            have o98 : Tb w33 b8_0 := (o94.no k33)
            refine ⟨⟨kk33, f95, f96, o97, o98⟩, ?_⟩
            refine D_take 4 rfl (by kernel_rfl) (by kernel_rfl) (by kernel_rfl) (fun _ _ _ h => h) rfl (fun W hS => pu_move rfl) ?_
            refine D_take 5 rfl (by kernel_rfl) (by kernel_rfl) (by kernel_rfl) (fun _ _ _ h => h) rfl (fun W hS => pu_extract rfl rfl) ?_
            refine D_take 6 rfl (by kernel_rfl) (by kernel_rfl) (by kernel_rfl) (fun _ _ _ h => h) rfl (fun W hS => pu_extract rfl rfl) ?_
            refine D_take 7 rfl (by kernel_rfl) (by kernel_rfl) (by kernel_rfl) (fun _ _ _ h => h) rfl (fun W hS => pu_assign rfl) ?_
            refine D_take 8 rfl (by kernel_rfl) (by kernel_rfl) (by kernel_rfl) (fun _ _ _ h => h) rfl (fun W hS => pu_assign rfl) ?_
            refine D_done (by kernel_rfl) ?_
            refine X_then hK85 ?_
            refine C_seq (fun K99 hK99 => ?_)
            refine C_seq (fun K100 hK100 => ?_)
            refine C_region ?_
            refine R_pu (pu_move rfl) rfl ?_
            refine R_pu (pu_bstr (Bs.nil _ none) Tryd.underlying22 Tryd.underlying5 Tryd.underlying9 rfl rfl) rfl ?_
            refine R_pu (pu_move rfl) rfl ?_
            refine R_pu (pu_bstr (Bs.nil _ none) Tryd.underlying22 Tryd.underlying5 Tryd.underlying9 rfl rfl) rfl ?_
            refine R_pu (pu_false (pu_neqs (p := ([]) = ([])) rfl rfl (bstr_inj (show ∀ n ∈ ([] : List Nat), n < 256 by simp) (show ∀ n ∈ ([] : List Nat), n < 256 by simp))) (fun h => h rfl)) rfl ?_
            refine R_pu (pu_move rfl) rfl ?_
            refine R_gpu rfl rfl (pu_move rfl) rfl ?_
            refine R_glo rfl rfl (lo_call (by kernel_rfl) rfl (num03_err er _ o97)) rfl ?_
            rintro _ w34 ⟨rfl, k34⟩
            have kk34 := kk33.then_ k34
            refine R_gpu rfl rfl (pu_move rfl) rfl ?_
            refine R_gpu rfl rfl (pu_false (pu_neq (p := er = er) rfl rfl (by omega)) (fun h => h rfl)) rfl ?_
            refine R_pu (pu_pickf rfl rfl) rfl ?_
            refine R_pu (pu_move rfl) rfl ?_
            refine R_gpu rfl rfl (pu_move rfl) rfl ?_
            have o101 : Gt w34 := (o97.no k34)
            refine R_glo rfl rfl (lo_call (by kernel_rfl) rfl (num03_err 1 _ o101)) rfl ?_
            rintro _ w35 ⟨rfl, k35⟩
            have kk35 := kk34.then_ k35
            refine R_gpu rfl rfl (pu_false (pu_neq (p := (1 : Nat) = 1) rfl rfl (by omega)) (by decide)) rfl ?_
            refine R_pu (pu_pickf rfl rfl) rfl ?_
            refine R_nil ?_
            refine X_then hK100 ?_
            refine C_false rfl ?_
            refine C_skip ?_
            refine X_then hK99 ?_
            refine C_seq (fun K102 hK102 => ?_)
            refine C_seq (fun K103 hK103 => ?_)
            refine C_region ?_
            refine R_pu (pu_move rfl) rfl ?_
            refine R_pu (pu_eql (p := ix = 0) rfl rfl (by omega)) rfl ?_
            by_cases g16_2 : ix = 0
            · refine R_pu (pu_true (pu_move rfl) g16_2) rfl ?_
              refine R_gno rfl rfl rfl rfl ?_
              refine R_gno rfl rfl rfl rfl ?_
              refine R_gno rfl rfl rfl rfl ?_
              refine R_gno rfl rfl rfl rfl ?_
              refine R_gno rfl rfl rfl rfl ?_
              refine R_pu (pu_pickt rfl rfl) rfl ?_
              refine R_nil ?_
              refine X_then hK103 ?_
              refine C_true rfl ?_
              refine C_seq (fun K104 hK104 => ?_)
              refine C_region ?_
              refine R_pu (pu_move rfl) rfl ?_
              have o105 : Gt w35 := (o101.no k35)
              refine R_lo (lo_call (by kernel_rfl) rfl (num03_err 1 _ o105)) rfl ?_
              rintro _ w36 ⟨rfl, k36⟩
              have kk36 := kk35.then_ k36
              refine R_pu (pu_true (pu_eql (p := (1 : Nat) = 1) rfl rfl (by omega)) (by decide)) rfl ?_
              refine R_pu (pu_move rfl) rfl ?_
              refine R_gpu rfl rfl (pu_fieldAddr (off := 0) (o' := 0) (by kernel_rfl) rfl rfl) rfl ?_
              have f106 : Bk w36 ab ([.int .u8 0, .int .u32 0, .slice none (0) (0)]) 50 := (((f96.no k34).no k35).no k36)
              refine R_gpu rfl rfl (pu_loadK f106 (by kernel_rfl) rfl rfl) rfl ?_
              refine R_gpu rfl rfl (pu_true (pu_eql (p := (0 : Nat) = 0) rfl rfl (by omega)) (by decide)) rfl ?_
              refine R_pu (pu_pickt rfl rfl) rfl ?_
              refine R_pu (pu_move rfl) rfl ?_
              refine R_gpu rfl rfl (pu_fieldAddr (off := 2) (o' := 2) (by kernel_rfl) rfl rfl) rfl ?_
              refine R_gpu rfl rfl (pu_loadK f106 (by kernel_rfl) rfl rfl) rfl ?_
              refine R_gpu rfl rfl (pu_len Tryd.underlying22 rfl) rfl ?_
              refine R_gpu rfl rfl (pu_true (pu_eql (p := (0 : Nat) = 0) rfl rfl (by omega)) (by decide)) rfl ?_
              refine R_pu (pu_pickt rfl rfl) rfl ?_
              refine R_pu (pu_move rfl) rfl ?_
              have o107 : Gt w36 := (o105.no k36)
              refine R_glo rfl rfl (lo_call (by kernel_rfl) rfl (sure03 _ o107)) rfl ?_
              rintro _ w37 ⟨rfl, k37⟩
              have kk37 := kk36.then_ k37
              refine R_pu (pu_pickt rfl rfl) rfl ?_
              refine R_pu (pu_assign rfl) rfl ?_
              refine R_nil ?_
              refine X_then hK104 ?_
              refine C_ret ?_
              refine X_then_ret ?_
              exact X_ret1 (.inl rfl) rfl rfl ⟨rfl, kk37⟩
            · refine R_pu (pu_false (pu_move rfl) g16_2) rfl ?_
              refine R_gpu rfl rfl (pu_move rfl) rfl ?_
              refine R_gpu rfl rfl (pu_conv (z := ((ix : Nat) : Int)) Tryd.underlying5 Tryd.underlying3 rfl (by have : ix < 256 := hix; rw [IntKind.wrap_i64]; omega)) rfl ?_
              refine R_gpu rfl rfl (pu_fieldAddr (off := 1) (o' := 1) (by kernel_rfl) rfl rfl) rfl ?_
              have f108 : Bk w35 p0_0 ([.int .i64 (ka), .int .i64 (nn), .int .u32 ((ge : Nat) : Int)]) 25 := ((f95.no k34).no k35)
              refine R_gpu rfl rfl (pu_loadK f108 (by kernel_rfl) rfl rfl) rfl ?_
              refine R_gpu rfl rfl (pu_true (pu_gtr (p := ((ix : Nat) : Int) > nn) rfl rfl (by omega)) (by omega)) rfl ?_
              refine R_pu (pu_pickf rfl rfl) rfl ?_
              refine R_nil ?_
              refine X_then hK103 ?_
              refine C_true rfl ?_
              refine C_seq (fun K109 hK109 => ?_)
              refine C_region ?_
              refine R_pu (pu_move rfl) rfl ?_
              have o110 : Gt w35 := (o101.no k35)
              refine R_lo (lo_call (by kernel_rfl) rfl (num03_err 1 _ o110)) rfl ?_
              rintro _ w38 ⟨rfl, k38⟩
              have kk38 := kk35.then_ k38
              refine R_pu (pu_true (pu_eql (p := (1 : Nat) = 1) rfl rfl (by omega)) (by decide)) rfl ?_
              refine R_pu (pu_move rfl) rfl ?_
              refine R_gpu rfl rfl (pu_fieldAddr (off := 0) (o' := 0) (by kernel_rfl) rfl rfl) rfl ?_
              have f111 : Bk w38 ab ([.int .u8 0, .int .u32 0, .slice none (0) (0)]) 50 := (((f96.no k34).no k35).no k38)
              refine R_gpu rfl rfl (pu_loadK f111 (by kernel_rfl) rfl rfl) rfl ?_
              refine R_gpu rfl rfl (pu_true (pu_eql (p := (0 : Nat) = 0) rfl rfl (by omega)) (by decide)) rfl ?_
              refine R_pu (pu_pickt rfl rfl) rfl ?_
              refine R_pu (pu_move rfl) rfl ?_
              refine R_gpu rfl rfl (pu_fieldAddr (off := 2) (o' := 2) (by kernel_rfl) rfl rfl) rfl ?_
              refine R_gpu rfl rfl (pu_loadK f111 (by kernel_rfl) rfl rfl) rfl ?_
              refine R_gpu rfl rfl (pu_len Tryd.underlying22 rfl) rfl ?_
              refine R_gpu rfl rfl (pu_true (pu_eql (p := (0 : Nat) = 0) rfl rfl (by omega)) (by decide)) rfl ?_
              refine R_pu (pu_pickt rfl rfl) rfl ?_
              refine R_pu (pu_move rfl) rfl ?_
              have o112 : Gt w38 := (o110.no k38)
              refine R_glo rfl rfl (lo_call (by kernel_rfl) rfl (sure03 _ o112)) rfl ?_
              rintro _ w39 ⟨rfl, k39⟩
              have kk39 := kk38.then_ k39
              refine R_pu (pu_pickt rfl rfl) rfl ?_
              refine R_pu (pu_assign rfl) rfl ?_
              refine R_nil ?_
              refine X_then hK109 ?_
              refine C_ret ?_
              refine X_then_ret ?_
              exact X_ret1 (.inl rfl) rfl rfl ⟨rfl, kk39⟩
        · have f113 : Bk w12 p0_0 ([.int .i64 (ka), .int .i64 (nn), .int .u32 ((ge : Nat) : Int)]) 25 := (f29.no k12)
          have o114 : Gt w12 := (o30.no k12)
          have o115 : Tb w12 b8_0 := (o31.no k12)
          refine Nx_lo rfl (lo_alloc (L := [.int .u8 0, .int .u32 0, .slice none (0) (0)]) (by kernel_rfl)) rfl ?_
          rintro _ w40 ⟨ab, rfl, N40⟩
          have k40 := N40.kp
          have kk40 := kk12.then_ k40
          have ne_ab_p0_0 : ab ≠ p0_0 := Nat.ne_of_gt (Nat.lt_of_lt_of_le f113.lt N40.le)
          have ne_ab_0 : ab ≠ 0 := Nat.ne_of_gt (Nat.lt_of_lt_of_le o114.lt N40.le)
          have ne_ab_b8_0 : ab ≠ b8_0 := Nat.ne_of_gt (Nat.lt_of_lt_of_le o115.lt N40.le)
          have f_ab_40 : Bk w40 ab ([.int .u8 0, .int .u32 0, .slice none (0) (0)]) 50 := N40.bk
          have f116 : Bk w40 p0_0 ([.int .i64 (ka), .int .i64 (nn), .int .u32 ((ge : Nat) : Int)]) 25 := (f113.no k40)
          have o117 : Gt w40 := (o114.no k40)
          have o118 : Tb w40 b8_0 := (o115.no k40)
          refine ⟨⟨kk40, f116, o117, o118⟩, ?_⟩
          refine D_one 2 (by kernel_rfl) (Nx_lo rfl (lo_call (by kernel_rfl) rfl (give_shares A L c _ (HS.keptNo kk40) (by omega))) rfl ?_)
          rintro _ w41 ⟨A_gv11, c_gv11, rfl, Q41, hc_gv11, hb_gv11, k41⟩
          have kk41 := kk40.then_ k41
          have f119 : Bk w41 p0_0 ([.int .i64 (ka), .int .i64 (nn), .int .u32 ((ge : Nat) : Int)]) 25 := (f116.no k41)
          have o120 : Gt w41 := (o117.no k41)
          have o121 : Tb w41 b8_0 := (o118.no k41)
          refine ⟨⟨kk41, f119, o120, o121⟩, ?_⟩
          refine D_one 5 (by kernel_rfl) (Nx_lo rfl (lo_call (by kernel_rfl) rfl (shamir_at_idx b8_0 A_gv11 L c_gv11 ka nn ge ix _ Q41 ⟨hix, hidx⟩)) rfl ?_)
          rintro _ w42 ⟨rfl, k42⟩
          have kk42 := kk41.then_ k42
          have f122 : Bk w42 p0_0 ([.int .i64 (ka), .int .i64 (nn), .int .u32 ((ge : Nat) : Int)]) 25 := (f119.no k42)
          have o123 : Gt w42 := (o120.no k42)
          have o124 : Tb w42 b8_0 := (o121.no k42)
          refine ⟨⟨kk42, f122, o123, o124⟩, ?_⟩
          refine D_take 6 rfl (by kernel_rfl) (by kernel_rfl) (by kernel_rfl) (fun _ _ _ h => h) rfl (fun W hS => pu_move rfl) ?_
          refine D_take 7 rfl (by kernel_rfl) (by kernel_rfl) (by kernel_rfl) (fun _ _ _ h => h) rfl (fun W hS => pu_extract rfl rfl) ?_
          refine D_take 8 rfl (by kernel_rfl) (by kernel_rfl) (by kernel_rfl) (fun _ _ _ h => h) rfl (fun W hS => pu_extract rfl rfl) ?_
          have f125 : Bk w42 ab ([.int .u8 0, .int .u32 0, .slice none (0) (0)]) 50 := ((f_ab_40.no k41).no k42)
          refine D_one 10 (by kernel_rfl) (Nx_lo0 rfl (lo_storeRow (C := [.int .u8 0, .int .u32 0, .slice none (0) (0)]) f125 (by kernel_rfl) rfl rfl (by intro u hu; simp at hu; rcases hu with rfl | rfl | rfl <;> rfl) rfl) ?_)
          rintro _ w43 kf43
          obtain ⟨k43, f_ab_43⟩ := kf43
          replace f_ab_43 : Bk w43 ab ([.int .u8 0, .int .u32 0, .slice none (0) (0)]) 50 := f_ab_43
          have kk43 := kk42.trans k43 (fun i hi => .inr (hi ▸ (Nat.le_trans kk12.size N40.le)))
          have f126 : Bk w43 p0_0 ([.int .i64 (ka), .int .i64 (nn), .int .u32 ((ge : Nat) : Int)]) 25 := (f122.on k43 (Ne.symm ne_ab_p0_0))
          have o127 : Gt w43 := (o123.on k43 (Ne.symm ne_ab_0))
          have o128 : Tb w43 b8_0 := (o124.on k43 (Ne.symm ne_ab_b8_0))
          refine ⟨⟨kk43, f126, o127, o128⟩, ?_⟩
          refine D_take 11 rfl (by kernel_rfl) (by kernel_rfl) (by kernel_rfl) (fun _ _ _ h => h) rfl (fun W hS => pu_assign rfl) ?_
          refine D_done (by kernel_rfl) ?_
          refine X_then hK28 ?_
          refine C_seq (fun K129 hK129 => ?_)
          refine C_region ?_
          refine R_pu (pu_move rfl) rfl ?_
          refine R_pu (pu_loadRow (len := 3) f126 (by kernel_rfl) (by kernel_rfl) rfl rfl) rfl ?_
          refine R_pu (pu_move rfl) rfl ?_
          refine R_lo (lo_call (by kernel_rfl) rfl (hR ix _ (HS.keptNo kk43))) rfl ?_
          rintro _ w44 ⟨rfl, k44⟩
          have kk44 := kk43.then_ k44
          refine R_pu (pu_move rfl) rfl ?_
          refine R_pu (pu_extract rfl rfl) rfl ?_
          refine R_pu (pu_extract rfl rfl) rfl ?_
          refine R_pu (pu_assign rfl) rfl ?_
          refine R_pu (pu_assign rfl) rfl ?_
          refine R_nil ?_
          refine X_then hK129 ?_
          refine C_seq (fun K130 hK130 => ?_)
          have f131 : Bk w44 p0_0 ([.int .i64 (ka), .int .i64 (nn), .int .u32 ((ge : Nat) : Int)]) 25 := (f126.no k44)
          have f132 : Bk w44 ab ([.int .u8 0, .int .u32 0, .slice none (0) (0)]) 50 := (f_ab_43.no k44)
          have o133 : Gt w44 := (o127.no k44)
          have o134 : Tb w44 b8_0 := (o128.no k44)
          refine D_begin (fun W => Kp No w W ∧ Bk W p0_0 ([.int .i64 (ka), .int .i64 (nn), .int .u32 ((ge : Nat) : Int)]) 25 ∧ Bk W ab ([.int .u8 0, .int .u32 0, .slice none (0) (0)]) 50 ∧ Gt W ∧ Tb W b8_0) 9 rfl (by kernel_rfl) ⟨kk44.drew, f131.draw, f132.draw, o133.draw, o134.draw⟩ ?_
          intro w45 k45 _
          have kk45 := kk44.then_ k45
          refine D_take 0 rfl (by kernel_rfl) (by kernel_rfl) (by kernel_rfl) (fun _ _ _ h => h) rfl (fun W hS => pu_move rfl) ?_
          refine D_take 2 rfl (by kernel_rfl) (by kernel_rfl) (by kernel_rfl) (fun _ _ _ h => h) rfl (fun W hS => pu_loadRow (len := 3) hS.2.1 (by kernel_rfl) (by kernel_rfl) rfl rfl) ?_
          have o135 : Tb w45 b8_0 := (o134.no k45)
          refine D_one 1 (by kernel_rfl) (Nx_lo rfl (lo_call (by kernel_rfl) rfl (give_shares A L c _ (HS.keptNo kk45) (by omega))) rfl ?_)
          rintro _ w46 ⟨A_gv13, c_gv13, rfl, Q46, hc_gv13, hb_gv13, k46⟩
          have kk46 := kk45.then_ k46
          have f136 : Bk w46 p0_0 ([.int .i64 (ka), .int .i64 (nn), .int .u32 ((ge : Nat) : Int)]) 25 := ((f131.no k45).no k46)
          have f137 : Bk w46 ab ([.int .u8 0, .int .u32 0, .slice none (0) (0)]) 50 := ((f132.no k45).no k46)
          have o138 : Gt w46 := ((o133.no k45).no k46)
          have o139 : Tb w46 b8_0 := (o135.no k46)
          refine ⟨⟨kk46, f136, f137, o138, o139⟩, ?_⟩
          refine D_one 3 (by kernel_rfl) (Nx_lo rfl (lo_call (by kernel_rfl) rfl (shamir_combine_nil A_gv13 L c_gv13 ka nn ge _ Q46 ⟨hge, hs⟩)) rfl ?_)
          rintro _ w47 ⟨rfl, k47⟩
          have kk47 := kk46.then_ k47
          have f140 : Bk w47 p0_0 ([.int .i64 (ka), .int .i64 (nn), .int .u32 ((ge : Nat) : Int)]) 25 := (f136.no k47)
          have f141 : Bk w47 ab ([.int .u8 0, .int .u32 0, .slice none (0) (0)]) 50 := (f137.no k47)
          have o142 : Gt w47 := (o138.no k47)
          have o143 : Tb w47 b8_0 := (o139.no k47)
          refine ⟨⟨kk47, f140, f141, o142, o143⟩, ?_⟩
          refine D_take 4 rfl (by kernel_rfl) (by kernel_rfl) (by kernel_rfl) (fun _ _ _ h => h) rfl (fun W hS => pu_move rfl) ?_
          refine D_take 5 rfl (by kernel_rfl) (by kernel_rfl) (by kernel_rfl) (fun _ _ _ h => h) rfl (fun W hS => pu_extract rfl rfl) ?_
          refine D_take 6 rfl (by kernel_rfl) (by kernel_rfl) (by kernel_rfl) (fun _ _ _ h => h) rfl (fun W hS => pu_extract rfl rfl) ?_
          refine D_take 7 rfl (by kernel_rfl) (by kernel_rfl) (by kernel_rfl) (fun _ _ _ h => h) rfl (fun W hS => pu_assign rfl) ?_
          refine D_take 8 rfl (by kernel_rfl) (by kernel_rfl) (by kernel_rfl) (fun _ _ _ h => h) rfl (fun W hS => pu_assign rfl) ?_
          refine D_done (by kernel_rfl) ?_
          refine X_then hK130 ?_
          refine C_seq (fun K144 hK144 => ?_)
          refine C_seq (fun K145 hK145 => ?_)
          refine C_region ?_
          refine R_pu (pu_move rfl) rfl ?_
          refine R_pu (pu_bstr (Bs.nil _ none) Tryd.underlying22 Tryd.underlying5 Tryd.underlying9 rfl rfl) rfl ?_
          refine R_pu (pu_move rfl) rfl ?_
          refine R_pu (pu_bstr (Bs.nil _ none) Tryd.underlying22 Tryd.underlying5 Tryd.underlying9 rfl rfl) rfl ?_
          refine R_pu (pu_false (pu_neqs (p := ([]) = ([])) rfl rfl (bstr_inj (show ∀ n ∈ ([] : List Nat), n < 256 by simp) (show ∀ n ∈ ([] : List Nat), n < 256 by simp))) (fun h => h rfl)) rfl ?_
          refine R_pu (pu_move rfl) rfl ?_
          refine R_gpu rfl rfl (pu_move rfl) rfl ?_
          refine R_glo rfl rfl (lo_call (by kernel_rfl) rfl (num03_err er _ o142)) rfl ?_
          rintro _ w48 ⟨rfl, k48⟩
          have kk48 := kk47.then_ k48
          refine R_gpu rfl rfl (pu_move rfl) rfl ?_
          refine R_gpu rfl rfl (pu_false (pu_neq (p := er = er) rfl rfl (by omega)) (fun h => h rfl)) rfl ?_
          refine R_pu (pu_pickf rfl rfl) rfl ?_
          refine R_pu (pu_move rfl) rfl ?_
          refine R_gpu rfl rfl (pu_move rfl) rfl ?_
          have o146 : Gt w48 := (o142.no k48)
          refine R_glo rfl rfl (lo_call (by kernel_rfl) rfl (num03_err 1 _ o146)) rfl ?_
          rintro _ w49 ⟨rfl, k49⟩
          have kk49 := kk48.then_ k49
          refine R_gpu rfl rfl (pu_false (pu_neq (p := (1 : Nat) = 1) rfl rfl (by omega)) (by decide)) rfl ?_
          refine R_pu (pu_pickf rfl rfl) rfl ?_
          refine R_nil ?_
          refine X_then hK145 ?_
          refine C_false rfl ?_
          refine C_skip ?_
          refine X_then hK144 ?_
          refine C_seq (fun K147 hK147 => ?_)
          refine C_seq (fun K148 hK148 => ?_)
          refine C_region ?_
          refine R_pu (pu_move rfl) rfl ?_
          refine R_pu (pu_eql (p := ix = 0) rfl rfl (by omega)) rfl ?_
          by_cases g16_2 : ix = 0
          · refine R_pu (pu_true (pu_move rfl) g16_2) rfl ?_
            refine R_gno rfl rfl rfl rfl ?_
            refine R_gno rfl rfl rfl rfl ?_
            refine R_gno rfl rfl rfl rfl ?_
            refine R_gno rfl rfl rfl rfl ?_
            refine R_gno rfl rfl rfl rfl ?_
            refine R_pu (pu_pickt rfl rfl) rfl ?_
            refine R_nil ?_
            refine X_then hK148 ?_
            refine C_true rfl ?_
            refine C_seq (fun K149 hK149 => ?_)
            refine C_region ?_
            refine R_pu (pu_move rfl) rfl ?_
            have o150 : Gt w49 := (o146.no k49)
            refine R_lo (lo_call (by kernel_rfl) rfl (num03_err 1 _ o150)) rfl ?_
            rintro _ w50 ⟨rfl, k50⟩
            have kk50 := kk49.then_ k50
            refine R_pu (pu_true (pu_eql (p := (1 : Nat) = 1) rfl rfl (by omega)) (by decide)) rfl ?_
            refine R_pu (pu_move rfl) rfl ?_
            refine R_gpu rfl rfl (pu_fieldAddr (off := 0) (o' := 0) (by kernel_rfl) rfl rfl) rfl ?_
            have f151 : Bk w50 ab ([.int .u8 0, .int .u32 0, .slice none (0) (0)]) 50 := (((f141.no k48).no k49).no k50)
            refine R_gpu rfl rfl (pu_loadK f151 (by kernel_rfl) rfl rfl) rfl ?_
            refine R_gpu rfl rfl (pu_true (pu_eql (p := (0 : Nat) = 0) rfl rfl (by omega)) (by decide)) rfl ?_
            refine R_pu (pu_pickt rfl rfl) rfl ?_
            refine R_pu (pu_move rfl) rfl ?_
            refine R_gpu rfl rfl (pu_fieldAddr (off := 2) (o' := 2) (by kernel_rfl) rfl rfl) rfl ?_
            refine R_gpu rfl rfl (pu_loadK f151 (by kernel_rfl) rfl rfl) rfl ?_
            refine R_gpu rfl rfl (pu_len Tryd.underlying22 rfl) rfl ?_
            refine R_gpu rfl rfl (pu_true (pu_eql (p := (0 : Nat) = 0) rfl rfl (by omega)) (by decide)) rfl ?_
            refine R_pu (pu_pickt rfl rfl) rfl ?_
            refine R_pu (pu_move rfl) rfl ?_
            have o152 : Gt w50 := (o150.no k50)
            refine R_glo rfl rfl (lo_call (by kernel_rfl) rfl (sure03 _ o152)) rfl ?_
            rintro _ w51 ⟨rfl, k51⟩
            have kk51 := kk50.then_ k51
            refine R_pu (pu_pickt rfl rfl) rfl ?_
            refine R_pu (pu_assign rfl) rfl ?_
            refine R_nil ?_
            refine X_then hK149 ?_
            refine C_ret ?_
            refine X_then_ret ?_
            exact X_ret1 (.inl rfl) rfl rfl ⟨rfl, kk51⟩
          · refine R_pu (pu_false (pu_move rfl) g16_2) rfl ?_
            refine R_gpu rfl rfl (pu_move rfl) rfl ?_
            refine R_gpu rfl rfl (pu_conv (z := ((ix : Nat) : Int)) Tryd.underlying5 Tryd.underlying3 rfl (by have : ix < 256 := hix; rw [IntKind.wrap_i64]; omega)) rfl ?_
            refine R_gpu rfl rfl (pu_fieldAddr (off := 1) (o' := 1) (by kernel_rfl) rfl rfl) rfl ?_
            have f153 : Bk w49 p0_0 ([.int .i64 (ka), .int .i64 (nn), .int .u32 ((ge : Nat) : Int)]) 25 := ((f140.no k48).no k49)
            refine R_gpu rfl rfl (pu_loadK f153 (by kernel_rfl) rfl rfl) rfl ?_
            refine R_gpu rfl rfl (pu_true (pu_gtr (p := ((ix : Nat) : Int) > nn) rfl rfl (by omega)) (by omega)) rfl ?_
            refine R_pu (pu_pickf rfl rfl) rfl ?_
            refine R_nil ?_
            refine X_then hK148 ?_
            refine C_true rfl ?_
            refine C_seq (fun K154 hK154 => ?_)
            refine C_region ?_
            refine R_pu (pu_move rfl) rfl ?_
            have o155 : Gt w49 := (o146.no k49)
            refine R_lo (lo_call (by kernel_rfl) rfl (num03_err 1 _ o155)) rfl ?_
            rintro _ w52 ⟨rfl, k52⟩
            have kk52 := kk49.then_ k52
            refine R_pu (pu_true (pu_eql (p := (1 : Nat) = 1) rfl rfl (by omega)) (by decide)) rfl ?_
            refine R_pu (pu_move rfl) rfl ?_
            refine R_gpu rfl rfl (pu_fieldAddr (off := 0) (o' := 0) (by kernel_rfl) rfl rfl) rfl ?_
            have f156 : Bk w52 ab ([.int .u8 0, .int .u32 0, .slice none (0) (0)]) 50 := (((f141.no k48).no k49).no k52)
            refine R_gpu rfl rfl (pu_loadK f156 (by kernel_rfl) rfl rfl) rfl ?_
            refine R_gpu rfl rfl (pu_true (pu_eql (p := (0 : Nat) = 0) rfl rfl (by omega)) (by decide)) rfl ?_
            refine R_pu (pu_pickt rfl rfl) rfl ?_
            refine R_pu (pu_move rfl) rfl ?_
            refine R_gpu rfl rfl (pu_fieldAddr (off := 2) (o' := 2) (by kernel_rfl) rfl rfl) rfl ?_
            refine R_gpu rfl rfl (pu_loadK f156 (by kernel_rfl) rfl rfl) rfl ?_
            refine R_gpu rfl rfl (pu_len Tryd.underlying22 rfl) rfl ?_
            refine R_gpu rfl rfl (pu_true (pu_eql (p := (0 : Nat) = 0) rfl rfl (by omega)) (by decide)) rfl ?_
            refine R_pu (pu_pickt rfl rfl) rfl ?_
            refine R_pu (pu_move rfl) rfl ?_
            have o157 : Gt w52 := (o155.no k52)
            refine R_glo rfl rfl (lo_call (by kernel_rfl) rfl (sure03 _ o157)) rfl ?_
            rintro _ w53 ⟨rfl, k53⟩
            have kk53 := kk52.then_ k53
            refine R_pu (pu_pickt rfl rfl) rfl ?_
            refine R_pu (pu_assign rfl) rfl ?_
            refine R_nil ?_
            refine X_then hK154 ?_
            refine C_ret ?_
            refine X_then_ret ?_
            exact X_ret1 (.inl rfl) rfl rfl ⟨rfl, kk53⟩
      · refine R_lo (lo_call (by kernel_rfl) rfl (gf_new _)) rfl ?_
        rintro _ w54 ⟨b8_0, rfl, le54, T54, k54⟩
        have kk54 := kk5.then_ k54
        have ne_b8_0_p0_0 : b8_0 ≠ p0_0 := Nat.ne_of_gt (Nat.lt_of_lt_of_le f_p0_0_5.lt le54)
        have ne_b8_0_0 : b8_0 ≠ 0 := Nat.ne_of_gt (Nat.lt_of_lt_of_le G_5.lt le54)
        refine R_pu (pu_assign rfl) rfl ?_
        refine R_nil ?_
        refine X_then hK16 ?_
        refine C_seq (fun K158 hK158 => ?_)
        have f159 : Bk w54 p0_0 ([.int .i64 (ka), .int .i64 (nn), .int .u32 ((ge : Nat) : Int)]) 25 := (f_p0_0_5.no k54)
        have o160 : Gt w54 := (G_5.no k54)
        refine D_begin (fun W => Kp No w W ∧ Bk W p0_0 ([.int .i64 (ka), .int .i64 (nn), .int .u32 ((ge : Nat) : Int)]) 25 ∧ Gt W ∧ Tb W b8_0) 10 rfl (by kernel_rfl) ⟨kk54.drew, f159.draw, o160.draw, T54.draw⟩ ?_
        intro w55 k55 _
        have kk55 := kk54.then_ k55
        refine D_take 0 rfl (by kernel_rfl) (by kernel_rfl) (by kernel_rfl) (fun _ _ _ h => h) rfl (fun W hS => pu_move rfl) ?_
        refine D_take 1 rfl (by kernel_rfl) (by kernel_rfl) (by kernel_rfl) (fun _ _ _ h => h) rfl (fun W hS => pu_move rfl) ?_
        refine D_take 3 rfl (by kernel_rfl) (by kernel_rfl) (by kernel_rfl) (fun _ _ _ h => h) rfl (fun W hS => pu_loadRow (len := 3) hS.2.1 (by kernel_rfl) (by kernel_rfl) rfl rfl) ?_
        have o161 : Tb w55 b8_0 := (T54.no k55)
        refine D_one 2 (by kernel_rfl) (Nx_lo rfl (lo_call (by kernel_rfl) rfl (give_shares A L c _ (HS.keptNo kk55) (by omega))) rfl ?_)
        rintro _ w56 ⟨A_gv9, c_gv9, rfl, Q56, hc_gv9, hb_gv9, k56⟩
        have kk56 := kk55.then_ k56
        have f162 : Bk w56 p0_0 ([.int .i64 (ka), .int .i64 (nn), .int .u32 ((ge : Nat) : Int)]) 25 := ((f159.no k55).no k56)
        have o163 : Gt w56 := ((o160.no k55).no k56)
        have o164 : Tb w56 b8_0 := (o161.no k56)
        refine ⟨⟨kk56, f162, o163, o164⟩, ?_⟩
        refine D_one 4 (by kernel_rfl) (Nx_lo rfl (lo_call (by kernel_rfl) rfl (hC b8_0 A_gv9 c_gv9 _ Q56 hc_gv9)) rfl ?_)
        rintro _ w57 ⟨rfl, k57⟩
        have kk57 := kk56.then_ k57
        have f165 : Bk w57 p0_0 ([.int .i64 (ka), .int .i64 (nn), .int .u32 ((ge : Nat) : Int)]) 25 := (f162.no k57)
        have o166 : Gt w57 := (o163.no k57)
        have o167 : Tb w57 b8_0 := (o164.no k57)
        refine ⟨⟨kk57, f165, o166, o167⟩, ?_⟩
        refine D_take 5 rfl (by kernel_rfl) (by kernel_rfl) (by kernel_rfl) (fun _ _ _ h => h) rfl (fun W hS => pu_move rfl) ?_
        refine D_take 6 rfl (by kernel_rfl) (by kernel_rfl) (by kernel_rfl) (fun _ _ _ h => h) rfl (fun W hS => pu_extract rfl rfl) ?_
        refine D_take 7 rfl (by kernel_rfl) (by kernel_rfl) (by kernel_rfl) (fun _ _ _ h => h) rfl (fun W hS => pu_extract rfl rfl) ?_
        refine D_take 8 rfl (by kernel_rfl) (by kernel_rfl) (by kernel_rfl) (fun _ _ _ h => h) rfl (fun W hS => pu_assign rfl) ?_
        refine D_take 9 rfl (by kernel_rfl) (by kernel_rfl) (by kernel_rfl) (fun _ _ _ h => h) rfl (fun W hS => pu_assign rfl) ?_
        refine D_done (by kernel_rfl) ?_
        refine X_then hK158 ?_
        refine C_seq (fun K168 hK168 => ?_)
        refine C_region ?_
        refine R_pu (pu_move rfl) rfl ?_
        refine R_pu (pu_loadRow (len := 3) f165 (by kernel_rfl) (by kernel_rfl) rfl rfl) rfl ?_
        refine R_lo (lo_call (by kernel_rfl) rfl (hR 0 _ (HS.keptNo kk57))) rfl ?_
        rintro _ w58 ⟨rfl, k58⟩
        have kk58 := kk57.then_ k58
        refine R_pu (pu_move rfl) rfl ?_
        refine R_pu (pu_extract rfl rfl) rfl ?_
        refine R_pu (pu_extract rfl rfl) rfl ?_
        refine R_pu (pu_assign rfl) rfl ?_
        refine R_pu (pu_assign rfl) rfl ?_
        refine R_nil ?_
        refine X_then hK168 ?_
        refine C_seq (fun K169 hK169 => ?_)
        have f170 : Bk w58 p0_0 ([.int .i64 (ka), .int .i64 (nn), .int .u32 ((ge : Nat) : Int)]) 25 := (f165.no k58)
        have o171 : Gt w58 := (o166.no k58)
        have o172 : Tb w58 b8_0 := (o167.no k58)
        refine D_begin (fun W => Kp No w W ∧ Bk W p0_0 ([.int .i64 (ka), .int .i64 (nn), .int .u32 ((ge : Nat) : Int)]) 25 ∧ Gt W ∧ Tb W b8_0) 12 rfl (by kernel_rfl) ⟨kk58.drew, f170.draw, o171.draw, o172.draw⟩ ?_
        intro w59 k59 _
        have kk59 := kk58.then_ k59
        refine D_take 0 rfl (by kernel_rfl) (by kernel_rfl) (by kernel_rfl) (fun _ _ _ h => h) rfl (fun W hS => pu_move rfl) ?_
        refine D_take 1 rfl (by kernel_rfl) (by kernel_rfl) (by kernel_rfl) (fun _ _ _ h => h) rfl (fun W hS => pu_move rfl) ?_
        refine D_take 3 rfl (by kernel_rfl) (by kernel_rfl) (by kernel_rfl) (fun _ _ _ h => h) rfl (fun W hS => pu_loadRow (len := 3) hS.2.1 (by kernel_rfl) (by kernel_rfl) rfl rfl) ?_
        refine D_take 4 rfl (by kernel_rfl) (by kernel_rfl) (by kernel_rfl) (fun _ _ _ h => h) rfl (fun W hS => pu_move rfl) ?_
        refine D_two 2 9 (by kernel_rfl) ?_ ?_
        · have o173 : Tb w59 b8_0 := (o172.no k59)
          refine Nx_lo rfl (lo_call (by kernel_rfl) rfl (give_shares A L c _ (HS.keptNo kk59) (by omega))) rfl ?_
          rintro _ w60 ⟨A_gv11, c_gv11, rfl, Q60, hc_gv11, hb_gv11, k60⟩
          have kk60 := kk59.then_ k60
          have f174 : Bk w60 p0_0 ([.int .i64 (ka), .int .i64 (nn), .int .u32 ((ge : Nat) : Int)]) 25 := ((f170.no k59).no k60)
          have o175 : Gt w60 := ((o171.no k59).no k60)
          have o176 : Tb w60 b8_0 := (o173.no k60)
          refine ⟨⟨kk60, f174, o175, o176⟩, ?_⟩
          refine D_two 5 9 (by kernel_rfl) ?_ ?_
          · refine Nx_lo rfl (lo_call (by kernel_rfl) rfl (hAt b8_0 A_gv11 c_gv11 _ Q60 hc_gv11 (by omega))) rfl ?_
            rintro _ w61 ⟨rfl, k61⟩
            have kk61 := kk60.then_ k61
            have f177 : Bk w61 p0_0 ([.int .i64 (ka), .int .i64 (nn), .int .u32 ((ge : Nat) : Int)]) 25 := (f174.no k61)
            have o178 : Gt w61 := (o175.no k61)
            have o179 : Tb w61 b8_0 := (o176.no k61)
            refine ⟨⟨kk61, f177, o178, o179⟩, ?_⟩
            refine D_take 6 rfl (by kernel_rfl) (by kernel_rfl) (by kernel_rfl) (fun _ _ _ h => h) rfl (fun W hS => pu_move rfl) ?_
            refine D_take 7 rfl (by kernel_rfl) (by kernel_rfl) (by kernel_rfl) (fun _ _ _ h => h) rfl (fun W hS => pu_extract rfl rfl) ?_
            refine D_take 8 rfl (by kernel_rfl) (by kernel_rfl) (by kernel_rfl) (fun _ _ _ h => h) rfl (fun W hS => pu_extract rfl rfl) ?_
            refine D_one 9 (by kernel_rfl) (Nx_lo rfl (lo_alloc (L := [.int .u8 0, .int .u32 0, .slice none (0) (0)]) (by kernel_rfl)) rfl ?_)
            rintro _ w62 ⟨ab, rfl, N62⟩
            have k62 := N62.kp
            have kk62 := kk61.then_ k62
            have ne_ab_p0_0 : ab ≠ p0_0 := Nat.ne_of_gt (Nat.lt_of_lt_of_le f177.lt N62.le)
            have ne_ab_0 : ab ≠ 0 := Nat.ne_of_gt (Nat.lt_of_lt_of_le o178.lt N62.le)
            have ne_ab_b8_0 : ab ≠ b8_0 := Nat.ne_of_gt (Nat.lt_of_lt_of_le o179.lt N62.le)
            have f_ab_62 : Bk w62 ab ([.int .u8 0, .int .u32 0, .slice none (0) (0)]) 50 := N62.bk
            have f180 : Bk w62 p0_0 ([.int .i64 (ka), .int .i64 (nn), .int .u32 ((ge : Nat) : Int)]) 25 := (f177.no k62)
            have o181 : Gt w62 := (o178.no k62)
            have o182 : Tb w62 b8_0 := (o179.no k62)
            refine ⟨⟨kk62, f180, o181, o182⟩, ?_⟩
            refine D_one 10 (by kernel_rfl) (Nx_lo0 rfl (lo_storeRow (C := [.int .u8 0, .int .u32 0, .slice none (0) (0)]) f_ab_62 (by kernel_rfl) rfl rfl (by intro u hu; simp at hu; rcases hu with rfl | rfl | rfl <;> rfl) rfl) ?_)
            rintro _ w63 kf63
            obtain ⟨k63, f_ab_63⟩ := kf63
            replace f_ab_63 : Bk w63 ab ([.int .u8 0, .int .u32 0, .slice none (0) (0)]) 50 := f_ab_63
            have kk63 := kk62.trans k63 (fun i hi => .inr (hi ▸ (Nat.le_trans kk61.size N62.le)))
            have f183 : Bk w63 p0_0 ([.int .i64 (ka), .int .i64 (nn), .int .u32 ((ge : Nat) : Int)]) 25 := (f180.on k63 (Ne.symm ne_ab_p0_0))
            have o184 : Gt w63 := (o181.on k63 (Ne.symm ne_ab_0))
            have o185 : Tb w63 b8_0 := (o182.on k63 (Ne.symm ne_ab_b8_0))
            refine ⟨⟨kk63, f183, o184, o185⟩, ?_⟩
            refine D_take 11 rfl (by kernel_rfl) (by kernel_rfl) (by kernel_rfl) (fun _ _ _ h => h) rfl (fun W hS => pu_assign rfl) ?_
            refine D_done (by kernel_rfl) ?_
            refine X_then hK169 ?_
            refine C_seq (fun K186 hK186 => ?_)
            refine C_region ?_
            refine R_pu (pu_move rfl) rfl ?_
            refine R_pu (pu_loadRow (len := 3) f183 (by kernel_rfl) (by kernel_rfl) rfl rfl) rfl ?_
            refine R_pu (pu_move rfl) rfl ?_
            refine R_lo (lo_call (by kernel_rfl) rfl (hR ix _ (HS.keptNo kk63))) rfl ?_
            rintro _ w64 ⟨rfl, k64⟩
            have kk64 := kk63.then_ k64
            refine R_pu (pu_move rfl) rfl ?_
            refine R_pu (pu_extract rfl rfl) rfl ?_
            refine R_pu (pu_extract rfl rfl) rfl ?_
            refine R_pu (pu_assign rfl) rfl ?_
            refine R_pu (pu_assign rfl) rfl ?_
            refine R_nil ?_
            refine X_then hK186 ?_
            refine C_seq (fun K187 hK187 => ?_)
            have f188 : Bk w64 p0_0 ([.int .i64 (ka), .int .i64 (nn), .int .u32 ((ge : Nat) : Int)]) 25 := (f183.no k64)
            have f189 : Bk w64 ab ([.int .u8 0, .int .u32 0, .slice none (0) (0)]) 50 := (f_ab_63.no k64)
            have o190 : Gt w64 := (o184.no k64)
            have o191 : Tb w64 b8_0 := (o185.no k64)
            refine D_begin (fun W => Kp No w W ∧ Bk W p0_0 ([.int .i64 (ka), .int .i64 (nn), .int .u32 ((ge : Nat) : Int)]) 25 ∧ Bk W ab ([.int .u8 0, .int .u32 0, .slice none (0) (0)]) 50 ∧ Gt W ∧ Tb W b8_0) 9 rfl (by kernel_rfl) ⟨kk64.drew, f188.draw, f189.draw, o190.draw, o191.draw⟩ ?_
            intro w65 k65 _
            have kk65 := kk64.then_ k65
            refine D_take 0 rfl (by kernel_rfl) (by kernel_rfl) (by kernel_rfl) (fun _ _ _ h => h) rfl (fun W hS => pu_move rfl) ?_
            refine D_take 2 rfl (by kernel_rfl) (by kernel_rfl) (by kernel_rfl) (fun _ _ _ h => h) rfl (fun W hS => pu_loadRow (len := 3) hS.2.1 (by kernel_rfl) (by kernel_rfl) rfl rfl) ?_
            have o192 : Tb w65 b8_0 := (o191.no k65)
            refine D_one 1 (by kernel_rfl) (Nx_lo rfl (lo_call (by kernel_rfl) rfl (give_shares A L c _ (HS.keptNo kk65) (by omega))) rfl ?_)
            rintro _ w66 ⟨A_gv13, c_gv13, rfl, Q66, hc_gv13, hb_gv13, k66⟩
            have kk66 := kk65.then_ k66
            have f193 : Bk w66 p0_0 ([.int .i64 (ka), .int .i64 (nn), .int .u32 ((ge : Nat) : Int)]) 25 := ((f188.no k65).no k66)
            have f194 : Bk w66 ab ([.int .u8 0, .int .u32 0, .slice none (0) (0)]) 50 := ((f189.no k65).no k66)
            have o195 : Gt w66 := ((o190.no k65).no k66)
            have o196 : Tb w66 b8_0 := (o192.no k66)
            refine ⟨⟨kk66, f193, f194, o195, o196⟩, ?_⟩
            refine D_one 3 (by kernel_rfl) (Nx_lo rfl (lo_call (by kernel_rfl) rfl (shamir_combine_nil A_gv13 L c_gv13 ka nn ge _ Q66 ⟨hge, hs⟩)) rfl ?_)
            rintro _ w67 ⟨rfl, k67⟩
            have kk67 := kk66.then_ k67
            have f197 : Bk w67 p0_0 ([.int .i64 (ka), .int .i64 (nn), .int .u32 ((ge : Nat) : Int)]) 25 := (f193.no k67)
            have f198 : Bk w67 ab ([.int .u8 0, .int .u32 0, .slice none (0) (0)]) 50 := (f194.no k67)
            have o199 : Gt w67 := (o195.no k67)
            have o200 : Tb w67 b8_0 := (o196.no k67)
            refine ⟨⟨kk67, f197, f198, o199, o200⟩, ?_⟩
            refine D_take 4 rfl (by kernel_rfl) (by kernel_rfl) (by kernel_rfl) (fun _ _ _ h => h) rfl (fun W hS => pu_move rfl) ?_
            refine D_take 5 rfl (by kernel_rfl) (by kernel_rfl) (by kernel_rfl) (fun _ _ _ h => h) rfl (fun W hS => pu_extract rfl rfl) ?_
            refine D_take 6 rfl (by kernel_rfl) (by kernel_rfl) (by kernel_rfl) (fun _ _ _ h => h) rfl (fun W hS => pu_extract rfl rfl) ?_
            refine D_take 7 rfl (by kernel_rfl) (by kernel_rfl) (by kernel_rfl) (fun _ _ _ h => h) rfl (fun W hS => pu_assign rfl) ?_
            refine D_take 8 rfl (by kernel_rfl) (by kernel_rfl) (by kernel_rfl) (fun _ _ _ h => h) rfl (fun W hS => pu_assign rfl) ?_
            refine D_done (by kernel_rfl) ?_
            refine X_then hK187 ?_
            refine C_seq (fun K201 hK201 => ?_)
            refine C_seq (fun K202 hK202 => ?_)
            refine C_region ?_
            refine R_pu (pu_move rfl) rfl ?_
            refine R_pu (pu_bstr (Bs.nil _ none) Tryd.underlying22 Tryd.underlying5 Tryd.underlying9 rfl rfl) rfl ?_
            refine R_pu (pu_move rfl) rfl ?_
            refine R_pu (pu_bstr (Bs.nil _ none) Tryd.underlying22 Tryd.underlying5 Tryd.underlying9 rfl rfl) rfl ?_
            refine R_pu (pu_false (pu_neqs (p := ([]) = ([])) rfl rfl (bstr_inj (show ∀ n ∈ ([] : List Nat), n < 256 by simp) (show ∀ n ∈ ([] : List Nat), n < 256 by simp))) (fun h => h rfl)) rfl ?_
            refine R_pu (pu_move rfl) rfl ?_
            refine R_gpu rfl rfl (pu_move rfl) rfl ?_
            refine R_glo rfl rfl (lo_call (by kernel_rfl) rfl (num03_err er _ o199)) rfl ?_
            rintro _ w68 ⟨rfl, k68⟩
            have kk68 := kk67.then_ k68
            refine R_gpu rfl rfl (pu_move rfl) rfl ?_
            refine R_gpu rfl rfl (pu_false (pu_neq (p := er = er) rfl rfl (by omega)) (fun h => h rfl)) rfl ?_
            refine R_pu (pu_pickf rfl rfl) rfl ?_
            refine R_pu (pu_move rfl) rfl ?_
            refine R_gpu rfl rfl (pu_move rfl) rfl ?_
            have o203 : Gt w68 := (o199.no k68)
            refine R_glo rfl rfl (lo_call (by kernel_rfl) rfl (num03_err 1 _ o203)) rfl ?_
            rintro _ w69 ⟨rfl, k69⟩
            have kk69 := kk68.then_ k69
            refine R_gpu rfl rfl (pu_false (pu_neq (p := (1 : Nat) = 1) rfl rfl (by omega)) (by decide)) rfl ?_
            refine R_pu (pu_pickf rfl rfl) rfl ?_
            refine R_nil ?_
            refine X_then hK202 ?_
            refine C_false rfl ?_
            refine C_skip ?_
            refine X_then hK201 ?_
            refine C_seq (fun K204 hK204 => ?_)
            refine C_seq (fun K205 hK205 => ?_)
            refine C_region ?_
            refine R_pu (pu_move rfl) rfl ?_
            refine R_pu (pu_false (pu_eql (p := ix = 0) rfl rfl (by omega)) (by omega)) rfl ?_
            refine R_pu (pu_move rfl) rfl ?_
            refine R_gpu rfl rfl (pu_move rfl) rfl ?_
            refine R_gpu rfl rfl (pu_conv (z := ((ix : Nat) : Int)) Tryd.underlying5 Tryd.underlying3 rfl (by have : ix < 256 := hix; rw [IntKind.wrap_i64]; omega)) rfl ?_
            refine R_gpu rfl rfl (pu_fieldAddr (off := 1) (o' := 1) (by kernel_rfl) rfl rfl) rfl ?_
            have f206 : Bk w69 p0_0 ([.int .i64 (ka), .int .i64 (nn), .int .u32 ((ge : Nat) : Int)]) 25 := ((f197.no k68).no k69)
            refine R_gpu rfl rfl (pu_loadK f206 (by kernel_rfl) rfl rfl) rfl ?_
            refine R_gpu rfl rfl (pu_false (pu_gtr (p := ((ix : Nat) : Int) > nn) rfl rfl (by omega)) (by omega)) rfl ?_
            refine R_pu (pu_pickf rfl rfl) rfl ?_
            refine R_nil ?_
            refine X_then hK205 ?_
            refine C_false rfl ?_
            refine C_skip ?_
            refine X_then hK204 ?_
            refine C_seq (fun K207 hK207 => ?_)
            refine C_region ?_
            refine R_pu (pu_move rfl) rfl ?_
            have o208 : Gt w69 := (o203.no k69)
            refine R_lo (lo_call (by kernel_rfl) rfl (num03_err er _ o208)) rfl ?_
            rintro _ w70 ⟨rfl, k70⟩
            have kk70 := kk69.then_ k70
            refine R_pu (pu_move rfl) rfl ?_
            refine R_pu (pu_true (pu_eql (p := er = er) rfl rfl (by omega)) rfl) rfl ?_
            refine R_pu (pu_move rfl) rfl ?_
            refine R_gpu rfl rfl (pu_fieldAddr (off := 2) (o' := 2) (by kernel_rfl) rfl rfl) rfl ?_
            have f209 : Bk w70 ab ([.int .u8 0, .int .u32 0, .slice none (0) (0)]) 50 := (((f198.no k68).no k69).no k70)
            refine R_gpu rfl rfl (pu_loadK f209 (by kernel_rfl) rfl rfl) rfl ?_
            refine R_gpu rfl rfl (pu_bstr (Bs.nil _ none) Tryd.underlying22 Tryd.underlying5 Tryd.underlying9 rfl rfl) rfl ?_
            refine R_gpu rfl rfl (pu_move rfl) rfl ?_
            refine R_gpu rfl rfl (pu_bstr (Bs.nil _ none) Tryd.underlying22 Tryd.underlying5 Tryd.underlying9 rfl rfl) rfl ?_
            refine R_gpu rfl rfl (pu_true (pu_eqls (p := ([]) = ([])) rfl rfl (bstr_inj (show ∀ n ∈ ([] : List Nat), n < 256 by simp) (show ∀ n ∈ ([] : List Nat), n < 256 by simp))) rfl) rfl ?_
            refine R_pu (pu_pickt rfl rfl) rfl ?_
            refine R_pu (pu_move rfl) rfl ?_
            refine R_gpu rfl rfl (pu_move rfl) rfl ?_
            refine R_gpu rfl rfl (pu_neqin (by kernel_rfl) rfl rfl) rfl ?_
            refine R_gpu rfl rfl (pu_move rfl) rfl ?_
            refine R_gno rfl rfl rfl rfl ?_
            refine R_gno rfl rfl rfl rfl ?_
            refine R_gno rfl rfl rfl rfl ?_
            refine R_gno rfl rfl rfl rfl ?_
            refine R_gno rfl rfl rfl rfl ?_
            refine R_gun rfl rfl rfl ?_
            refine R_gun rfl rfl rfl ?_
            refine R_gun rfl rfl rfl ?_
            refine R_gun rfl rfl rfl ?_
            refine R_gun rfl rfl rfl ?_
            refine R_gno rfl rfl rfl rfl ?_
            refine R_gpu rfl rfl (pu_pickt rfl rfl) rfl ?_
            refine R_pu (pu_pickt rfl rfl) rfl ?_
            refine R_pu (pu_move rfl) rfl ?_
            have o210 : Gt w70 := (o208.no k70)
            refine R_glo rfl rfl (lo_call (by kernel_rfl) rfl (sure03 _ o210)) rfl ?_
            rintro _ w71 ⟨rfl, k71⟩
            have kk71 := kk70.then_ k71
            refine R_pu (pu_pickt rfl rfl) rfl ?_
            refine R_pu (pu_assign rfl) rfl ?_
            refine R_nil ?_
            refine X_then hK207 ?_
            refine C_ret ?_
            exact X_ret1 (.inl rfl) rfl rfl ⟨rfl, kk71⟩
          · refine Nx_lo rfl (lo_alloc (L := [.int .u8 0, .int .u32 0, .slice none (0) (0)]) (by kernel_rfl)) rfl ?_
            rintro _ w72 ⟨ab, rfl, N72⟩
            have k72 := N72.kp
            have kk72 := kk60.then_ k72
            have ne_ab_p0_0 : ab ≠ p0_0 := Nat.ne_of_gt (Nat.lt_of_lt_of_le f174.lt N72.le)
            have ne_ab_0 : ab ≠ 0 := Nat.ne_of_gt (Nat.lt_of_lt_of_le o175.lt N72.le)
            have ne_ab_b8_0 : ab ≠ b8_0 := Nat.ne_of_gt (Nat.lt_of_lt_of_le o176.lt N72.le)
            have f_ab_72 : Bk w72 ab ([.int .u8 0, .int .u32 0, .slice none (0) (0)]) 50 := N72.bk
            have f211 : Bk w72 p0_0 ([.int .i64 (ka), .int .i64 (nn), .int .u32 ((ge : Nat) : Int)]) 25 := (f174.no k72)
            have o212 : Gt w72 := (o175.no k72)
            have o213 : Tb w72 b8_0 := (o176.no k72)
            refine ⟨⟨kk72, f211, o212, o213⟩, ?_⟩
            refine D_one 5 (by kernel_rfl) (Nx_lo rfl (lo_call (by kernel_rfl) rfl (hAt b8_0 A_gv11 c_gv11 _ (Q60.keptNo k72) hc_gv11 (by omega))) rfl ?_)
            rintro _ w73 ⟨rfl, k73⟩
            have kk73 := kk72.then_ k73
            have f214 : Bk w73 p0_0 ([.int .i64 (ka), .int .i64 (nn), .int .u32 ((ge : Nat) : Int)]) 25 := (f211.no k73)
            have o215 : Gt w73 := (o212.no k73)
            have o216 : Tb w73 b8_0 := (o213.no k73)
            refine ⟨⟨kk73, f214, o215, o216⟩, ?_⟩
            refine D_take 6 rfl (by kernel_rfl) (by kernel_rfl) (by kernel_rfl) (fun _ _ _ h => h) rfl (fun W hS => pu_move rfl) ?_
            refine D_take 7 rfl (by kernel_rfl) (by kernel_rfl) (by kernel_rfl) (fun _ _ _ h => h) rfl (fun W hS => pu_extract rfl rfl) ?_
            refine D_take 8 rfl (by kernel_rfl) (by kernel_rfl) (by kernel_rfl) (fun _ _ _ h => h) rfl (fun W hS => pu_extract rfl rfl) ?_
            have f217 : Bk w73 ab ([.int .u8 0, .int .u32 0, .slice none (0) (0)]) 50 := (f_ab_72.no k73)
            refine D_one 10 (by kernel_rfl) (Nx_lo0 rfl (lo_storeRow (C := [.int .u8 0, .int .u32 0, .slice none (0) (0)]) f217 (by kernel_rfl) rfl rfl (by intro u hu; simp at hu; rcases hu with rfl | rfl | rfl <;> rfl) rfl) ?_)
            rintro _ w74 kf74
            obtain ⟨k74, f_ab_74⟩ := kf74
            replace f_ab_74 : Bk w74 ab ([.int .u8 0, .int .u32 0, .slice none (0) (0)]) 50 := f_ab_74
            have kk74 := kk73.trans k74 (fun i hi => .inr (hi ▸ (Nat.le_trans kk60.size N72.le)))
            have f218 : Bk w74 p0_0 ([.int .i64 (ka), .int .i64 (nn), .int .u32 ((ge : Nat) : Int)]) 25 := (f214.on k74 (Ne.symm ne_ab_p0_0))
            have o219 : Gt w74 := (o215.on k74 (Ne.symm ne_ab_0))
            have o220 : Tb w74 b8_0 := (o216.on k74 (Ne.symm ne_ab_b8_0))
            refine ⟨⟨kk74, f218, o219, o220⟩, ?_⟩
            refine D_take 11 rfl (by kernel_rfl) (by kernel_rfl) (by kernel_rfl) (fun _ _ _ h => h) rfl (fun W hS => pu_assign rfl) ?_
            refine D_done (by kernel_rfl) ?_
            refine X_then hK169 ?_
            refine C_seq (fun K221 hK221 => ?_)
            refine C_region ?_
            refine R_pu (pu_move rfl) rfl ?_
            refine R_pu (pu_loadRow (len := 3) f218 (by kernel_rfl) (by kernel_rfl) rfl rfl) rfl ?_
            refine R_pu (pu_move rfl) rfl ?_
            refine R_lo (lo_call (by kernel_rfl) rfl (hR ix _ (HS.keptNo kk74))) rfl ?_
            rintro _ w75 ⟨rfl, k75⟩
            have kk75 := kk74.then_ k75
            refine R_pu (pu_move rfl) rfl ?_
            refine R_pu (pu_extract rfl rfl) rfl ?_
            refine R_pu (pu_extract rfl rfl) rfl ?_
            refine R_pu (pu_assign rfl) rfl ?_
            refine R_pu (pu_assign rfl) rfl ?_
            refine R_nil ?_
            refine X_then hK221 ?_
            refine C_seq (fun K222 hK222 => ?_)
            have f223 : Bk w75 p0_0 ([.int .i64 (ka), .int .i64 (nn), .int .u32 ((ge : Nat) : Int)]) 25 := (f218.no k75)
            have f224 : Bk w75 ab ([.int .u8 0, .int .u32 0, .slice none (0) (0)]) 50 := (f_ab_74.no k75)
            have o225 : Gt w75 := (o219.no k75)
            have o226 : Tb w75 b8_0 := (o220.no k75)
            refine D_begin (fun W => Kp No w W ∧ Bk W p0_0 ([.int .i64 (ka), .int .i64 (nn), .int .u32 ((ge : Nat) : Int)]) 25 ∧ Bk W ab ([.int .u8 0, .int .u32 0, .slice none (0) (0)]) 50 ∧ Gt W ∧ Tb W b8_0) 9 rfl (by kernel_rfl) ⟨kk75.drew, f223.draw, f224.draw, o225.draw, o226.draw⟩ ?_
            intro w76 k76 _
            have kk76 := kk75.then_ k76
            refine D_take 0 rfl (by kernel_rfl) (by kernel_rfl) (by kernel_rfl) (fun _ _ _ h => h) rfl (fun W hS => pu_move rfl) ?_
            refine D_take 2 rfl (by kernel_rfl) (by kernel_rfl) (by kernel_rfl) (fun _ _ _ h => h) rfl (fun W hS => pu_loadRow (len := 3) hS.2.1 (by kernel_rfl) (by kernel_rfl) rfl rfl) ?_
            have o227 : Tb w76 b8_0 := (o226.no k76)
            refine D_one 1 (by kernel_rfl) (Nx_lo rfl (lo_call (by kernel_rfl) rfl (give_shares A L c _ (HS.keptNo kk76) (by omega))) rfl ?_)
            rintro _ w77 ⟨A_gv13, c_gv13, rfl, Q77, hc_gv13, hb_gv13, k77⟩
            have kk77 := kk76.then_ k77
            have f228 : Bk w77 p0_0 ([.int .i64 (ka), .int .i64 (nn), .int .u32 ((ge : Nat) : Int)]) 25 := ((f223.no k76).no k77)
            have f229 : Bk w77 ab ([.int .u8 0, .int .u32 0, .slice none (0) (0)]) 50 := ((f224.no k76).no k77)
            have o230 : Gt w77 := ((o225.no k76).no k77)
            have o231 : Tb w77 b8_0 := (o227.no k77)
            refine ⟨⟨kk77, f228, f229, o230, o231⟩, ?_⟩
            refine D_one 3 (by kernel_rfl) (Nx_lo rfl (lo_call (by kernel_rfl) rfl (shamir_combine_nil A_gv13 L c_gv13 ka nn ge _ Q77 ⟨hge, hs⟩)) rfl ?_)
            rintro _ w78 ⟨rfl, k78⟩
            have kk78 := kk77.then_ k78
            have f232 : Bk w78 p0_0 ([.int .i64 (ka), .int .i64 (nn), .int .u32 ((ge : Nat) : Int)]) 25 := (f228.no k78)
            have f233 : Bk w78 ab ([.int .u8 0, .int .u32 0, .slice none (0) (0)]) 50 := (f229.no k78)
            have o234 : Gt w78 := (o230.no k78)
            have o235 : Tb w78 b8_0 := (o231.no k78)
            refine ⟨⟨kk78, f232, f233, o234, o235⟩, ?_⟩
            refine D_take 4 rfl (by kernel_rfl) (by kernel_rfl) (by kernel_rfl) (fun _ _ _ h => h) rfl (fun W hS => pu_move rfl) ?_
            refine D_take 5 rfl (by kernel_rfl) (by kernel_rfl) (by kernel_rfl) (fun _ _ _ h => h) rfl (fun W hS => pu_extract rfl rfl) ?_
            refine D_take 6 rfl (by kernel_rfl) (by kernel_rfl) (by kernel_rfl) (fun _ _ _ h => h) rfl (fun W hS => pu_extract rfl rfl) ?_
            refine D_take 7 rfl (by kernel_rfl) (by kernel_rfl) (by kernel_rfl) (fun _ _ _ h => h) rfl (fun W hS => pu_assign rfl) ?_
            refine D_take 8 rfl (by kernel_rfl) (by kernel_rfl) (by kernel_rfl) (fun _ _ _ h => h) rfl (fun W hS => pu_assign rfl) ?_
            refine D_done (by kernel_rfl) ?_
            refine X_then hK222 ?_
            refine C_seq (fun K236 hK236 => ?_)
            refine C_seq (fun K237 hK237 => ?_)
            refine C_region ?_
            refine R_pu (pu_move rfl) rfl ?_
            refine R_pu (pu_bstr (Bs.nil _ none) Tryd.underlying22 Tryd.underlying5 Tryd.underlying9 rfl rfl) rfl ?_
            refine R_pu (pu_move rfl) rfl ?_
            refine R_pu (pu_bstr (Bs.nil _ none) Tryd.underlying22 Tryd.underlying5 Tryd.underlying9 rfl rfl) rfl ?_
            refine R_pu (pu_false (pu_neqs (p := ([]) = ([])) rfl rfl (bstr_inj (show ∀ n ∈ ([] : List Nat), n < 256 by simp) (show ∀ n ∈ ([] : List Nat), n < 256 by simp))) (fun h => h rfl)) rfl ?_
            refine R_pu (pu_move rfl) rfl ?_
            refine R_gpu rfl rfl (pu_move rfl) rfl ?_
            refine R_glo rfl rfl (lo_call (by kernel_rfl) rfl (num03_err er _ o234)) rfl ?_
            rintro _ w79 ⟨rfl, k79⟩
            have kk79 := kk78.then_ k79
            refine R_gpu rfl rfl (pu_move rfl) rfl ?_
            refine R_gpu rfl rfl (pu_false (pu_neq (p := er = er) rfl rfl (by omega)) (fun h => h rfl)) rfl ?_
            refine R_pu (pu_pickf rfl rfl) rfl ?_
            refine R_pu (pu_move rfl) rfl ?_
            refine R_gpu rfl rfl (pu_move rfl) rfl ?_
            have o238 : Gt w79 := (o234.no k79)
            refine R_glo rfl rfl (lo_call (by kernel_rfl) rfl (num03_err 1 _ o238)) rfl ?_
            rintro _ w80 ⟨rfl, k80⟩
            have kk80 := kk79.then_ k80
            refine R_gpu rfl rfl (pu_false (pu_neq (p := (1 : Nat) = 1) rfl rfl (by omega)) (by decide)) rfl ?_
            refine R_pu (pu_pickf rfl rfl) rfl ?_
            refine R_nil ?_
            refine X_then hK237 ?_
            refine C_false rfl ?_
            refine C_skip ?_
            refine X_then hK236 ?_
            refine C_seq (fun K239 hK239 => ?_)
            refine C_seq (fun K240 hK240 => ?_)
            refine C_region ?_
            refine R_pu (pu_move rfl) rfl ?_
            refine R_pu (pu_false (pu_eql (p := ix = 0) rfl rfl (by omega)) (by omega)) rfl ?_
            refine R_pu (pu_move rfl) rfl ?_
            refine R_gpu rfl rfl (pu_move rfl) rfl ?_
            refine R_gpu rfl rfl (pu_conv (z := ((ix : Nat) : Int)) Tryd.underlying5 Tryd.underlying3 rfl (by have : ix < 256 := hix; rw [IntKind.wrap_i64]; omega)) rfl ?_
            refine R_gpu rfl rfl (pu_fieldAddr (off := 1) (o' := 1) (by kernel_rfl) rfl rfl) rfl ?_
            have f241 : Bk w80 p0_0 ([.int .i64 (ka), .int .i64 (nn), .int .u32 ((ge : Nat) : Int)]) 25 := ((f232.no k79).no k80)
            refine R_gpu rfl rfl (pu_loadK f241 (by kernel_rfl) rfl rfl) rfl ?_
            refine R_gpu rfl rfl (pu_false (pu_gtr (p := ((ix : Nat) : Int) > nn) rfl rfl (by omega)) (by omega)) rfl ?_
            refine R_pu (pu_pickf rfl rfl) rfl ?_
            refine R_nil ?_
            refine X_then hK240 ?_
            refine C_false rfl ?_
            refine C_skip ?_
            refine X_then hK239 ?_
            refine C_seq (fun K242 hK242 => ?_)
            refine C_region ?_
            refine R_pu (pu_move rfl) rfl ?_
            have o243 : Gt w80 := (o238.no k80)
            refine R_lo (lo_call (by kernel_rfl) rfl (num03_err er _ o243)) rfl ?_
            rintro _ w81 ⟨rfl, k81⟩
            have kk81 := kk80.then_ k81
            refine R_pu (pu_move rfl) rfl ?_
            refine R_pu (pu_true (pu_eql (p := er = er) rfl rfl (by omega)) rfl) rfl ?_
            refine R_pu (pu_move rfl) rfl ?_
            refine R_gpu rfl rfl (pu_fieldAddr (off := 2) (o' := 2) (by kernel_rfl) rfl rfl) rfl ?_
            have f244 : Bk w81 ab ([.int .u8 0, .int .u32 0, .slice none (0) (0)]) 50 := (((f233.no k79).no k80).no k81)
            refine R_gpu rfl rfl (pu_loadK f244 (by kernel_rfl) rfl rfl) rfl ?_
            refine R_gpu rfl rfl (pu_bstr (Bs.nil _ none) Tryd.underlying22 Tryd.underlying5 Tryd.underlying9 rfl rfl) rfl ?_
            refine R_gpu rfl rfl (pu_move rfl) rfl ?_
            refine R_gpu rfl rfl (pu_bstr (Bs.nil _ none) Tryd.underlying22 Tryd.underlying5 Tryd.underlying9 rfl rfl) rfl ?_
            refine R_gpu rfl rfl (pu_true (pu_eqls (p := ([]) = ([])) rfl rfl (bstr_inj (show ∀ n ∈ ([] : List Nat), n < 256 by simp) (show ∀ n ∈ ([] : List Nat), n < 256 by simp))) rfl) rfl ?_
            refine R_pu (pu_pickt rfl rfl) rfl ?_
            refine R_pu (pu_move rfl) rfl ?_
            refine R_gpu rfl rfl (pu_move rfl) rfl ?_
            refine R_gpu rfl rfl (pu_neqin (by kernel_rfl) rfl rfl) rfl ?_
            refine R_gpu rfl rfl (pu_move rfl) rfl ?_
            refine R_gno rfl rfl rfl rfl ?_
            refine R_gno rfl rfl rfl rfl ?_
            refine R_gno rfl rfl rfl rfl ?_
            refine R_gno rfl rfl rfl rfl ?_
            refine R_gno rfl rfl rfl rfl ?_
            refine R_gun rfl rfl rfl ?_
            refine R_gun rfl rfl rfl ?_
            refine R_gun rfl rfl rfl ?_
            refine R_gun rfl rfl rfl ?_
            refine R_gun rfl rfl rfl ?_
            refine R_gno rfl rfl rfl rfl ?_
            refine R_gpu rfl rfl (pu_pickt rfl rfl) rfl ?_
            refine R_pu (pu_pickt rfl rfl) rfl ?_
            refine R_pu (pu_move rfl) rfl ?_
            have o245 : Gt w81 := (o243.no k81)
            refine R_glo rfl rfl (lo_call (by kernel_rfl) rfl (sure03 _ o245)) rfl ?_
            rintro _ w82 ⟨rfl, k82⟩
            have kk82 := kk81.then_ k82
            refine R_pu (pu_pickt rfl rfl) rfl ?_
            refine R_pu (pu_assign rfl) rfl ?_
            refine R_nil ?_
            refine X_then hK242 ?_
            refine C_ret ?_
            exact X_ret1 (.inl rfl) rfl rfl ⟨rfl, kk82⟩
        · have f246 : Bk w59 p0_0 ([.int .i64 (ka), .int .i64 (nn), .int .u32 ((ge : Nat) : Int)]) 25 := (f170.no k59)
          have o247 : Gt w59 := (o171.no k59)
          have o248 : Tb w59 b8_0 := (o172.no k59)
          refine Nx_lo rfl (lo_alloc (L := [.int .u8 0, .int .u32 0, .slice none (0) (0)]) (by kernel_rfl)) rfl ?_
          rintro _ w83 ⟨ab, rfl, N83⟩
          have k83 := N83.kp
          have kk83 := kk59.then_ k83
          have ne_ab_p0_0 : ab ≠ p0_0 := Nat.ne_of_gt (Nat.lt_of_lt_of_le f246.lt N83.le)
          have ne_ab_0 : ab ≠ 0 := Nat.ne_of_gt (Nat.lt_of_lt_of_le o247.lt N83.le)
          have ne_ab_b8_0 : ab ≠ b8_0 := Nat.ne_of_gt (Nat.lt_of_lt_of_le o248.lt N83.le)
          have f_ab_83 : Bk w83 ab ([.int .u8 0, .int .u32 0, .slice none (0) (0)]) 50 := N83.bk
          have f249 : Bk w83 p0_0 ([.int .i64 (ka), .int .i64 (nn), .int .u32 ((ge : Nat) : Int)]) 25 := (f246.no k83)
          have o250 : Gt w83 := (o247.no k83)
          have o251 : Tb w83 b8_0 := (o248.no k83)
          refine ⟨⟨kk83, f249, o250, o251⟩, ?_⟩
          refine D_one 2 (by kernel_rfl) (Nx_lo rfl (lo_call (by kernel_rfl) rfl (give_shares A L c _ (HS.keptNo kk83) (by omega))) rfl ?_)
          rintro _ w84 ⟨A_gv11, c_gv11, rfl, Q84, hc_gv11, hb_gv11, k84⟩
          have kk84 := kk83.then_ k84
          have f252 : Bk w84 p0_0 ([.int .i64 (ka), .int .i64 (nn), .int .u32 ((ge : Nat) : Int)]) 25 := (f249.no k84)
          have o253 : Gt w84 := (o250.no k84)
          have o254 : Tb w84 b8_0 := (o251.no k84)
          refine ⟨⟨kk84, f252, o253, o254⟩, ?_⟩
          refine D_one 5 (by kernel_rfl) (Nx_lo rfl (lo_call (by kernel_rfl) rfl (hAt b8_0 A_gv11 c_gv11 _ Q84 hc_gv11 (by omega))) rfl ?_)
          rintro _ w85 ⟨rfl, k85⟩
          have kk85 := kk84.then_ k85
          have f255 : Bk w85 p0_0 ([.int .i64 (ka), .int .i64 (nn), .int .u32 ((ge : Nat) : Int)]) 25 := (f252.no k85)
          have o256 : Gt w85 := (o253.no k85)
          have o257 : Tb w85 b8_0 := (o254.no k85)
          refine ⟨⟨kk85, f255, o256, o257⟩, ?_⟩
          refine D_take 6 rfl (by kernel_rfl) (by kernel_rfl) (by kernel_rfl) (fun _ _ _ h => h) rfl (fun W hS => pu_move rfl) ?_
          refine D_take 7 rfl (by kernel_rfl) (by kernel_rfl) (by kernel_rfl) (fun _ _ _ h => h) rfl (fun W hS => pu_extract rfl rfl) ?_
          refine D_take 8 rfl (by kernel_rfl) (by kernel_rfl) (by kernel_rfl) (fun _ _ _ h => h) rfl (fun W hS => pu_extract rfl rfl) ?_
          have f258 : Bk w85 ab ([.int .u8 0, .int .u32 0, .slice none (0) (0)]) 50 := ((f_ab_83.no k84).no k85)
          refine D_one 10 (by kernel_rfl) (Nx_lo0 rfl (lo_storeRow (C := [.int .u8 0, .int .u32 0, .slice none (0) (0)]) f258 (by kernel_rfl) rfl rfl (by intro u hu; simp at hu; rcases hu with rfl | rfl | rfl <;> rfl) rfl) ?_)
          rintro _ w86 kf86
          obtain ⟨k86, f_ab_86⟩ := kf86
          replace f_ab_86 : Bk w86 ab ([.int .u8 0, .int .u32 0, .slice none (0) (0)]) 50 := f_ab_86
          have kk86 := kk85.trans k86 (fun i hi => .inr (hi ▸ (Nat.le_trans kk59.size N83.le)))
          have f259 : Bk w86 p0_0 ([.int .i64 (ka), .int .i64 (nn), .int .u32 ((ge : Nat) : Int)]) 25 := (f255.on k86 (Ne.symm ne_ab_p0_0))
          have o260 : Gt w86 := (o256.on k86 (Ne.symm ne_ab_0))
          have o261 : Tb w86 b8_0 := (o257.on k86 (Ne.symm ne_ab_b8_0))
          refine ⟨⟨kk86, f259, o260, o261⟩, ?_⟩
          refine D_take 11 rfl (by kernel_rfl) (by kernel_rfl) (by kernel_rfl) (fun _ _ _ h => h) rfl (fun W hS => pu_assign rfl) ?_
          refine D_done (by kernel_rfl) ?_
          refine X_then hK169 ?_
          refine C_seq (fun K262 hK262 => ?_)
          refine C_region ?_
          refine R_pu (pu_move rfl) rfl ?_
          refine R_pu (pu_loadRow (len := 3) f259 (by kernel_rfl) (by kernel_rfl) rfl rfl) rfl ?_
          refine R_pu (pu_move rfl) rfl ?_
          refine R_lo (lo_call (by kernel_rfl) rfl (hR ix _ (HS.keptNo kk86))) rfl ?_
          rintro _ w87 ⟨rfl, k87⟩
          have kk87 := kk86.then_ k87
          refine R_pu (pu_move rfl) rfl ?_
          refine R_pu (pu_extract rfl rfl) rfl ?_
          refine R_pu (pu_extract rfl rfl) rfl ?_
          refine R_pu (pu_assign rfl) rfl ?_
          refine R_pu (pu_assign rfl) rfl ?_
          refine R_nil ?_
          refine X_then hK262 ?_
          refine C_seq (fun K263 hK263 => ?_)
          have f264 : Bk w87 p0_0 ([.int .i64 (ka), .int .i64 (nn), .int .u32 ((ge : Nat) : Int)]) 25 := (f259.no k87)
          have f265 : Bk w87 ab ([.int .u8 0, .int .u32 0, .slice none (0) (0)]) 50 := (f_ab_86.no k87)
          have o266 : Gt w87 := (o260.no k87)
          have o267 : Tb w87 b8_0 := (o261.no k87)
          refine D_begin (fun W => Kp No w W ∧ Bk W p0_0 ([.int .i64 (ka), .int .i64 (nn), .int .u32 ((ge : Nat) : Int)]) 25 ∧ Bk W ab ([.int .u8 0, .int .u32 0, .slice none (0) (0)]) 50 ∧ Gt W ∧ Tb W b8_0) 9 rfl (by kernel_rfl) ⟨kk87.drew, f264.draw, f265.draw, o266.draw, o267.draw⟩ ?_
          intro w88 k88 _
          have kk88 := kk87.then_ k88
          refine D_take 0 rfl (by kernel_rfl) (by kernel_rfl) (by kernel_rfl) (fun _ _ _ h => h) rfl (fun W hS => pu_move rfl) ?_
          refine D_take 2 rfl (by kernel_rfl) (by kernel_rfl) (by kernel_rfl) (fun _ _ _ h => h) rfl (fun W hS => pu_loadRow (len := 3) hS.2.1 (by kernel_rfl) (by kernel_rfl) rfl rfl) ?_
          have o268 : Tb w88 b8_0 := (o267.no k88)
          refine D_one 1 (by kernel_rfl) (Nx_lo rfl (lo_call (by kernel_rfl) rfl (give_shares A L c _ (HS.keptNo kk88) (by omega))) rfl ?_)
          rintro _ w89 ⟨A_gv13, c_gv13, rfl, Q89, hc_gv13, hb_gv13, k89⟩
          have kk89 := kk88.then_ k89
          have f269 : Bk w89 p0_0 ([.int .i64 (ka), .int .i64 (nn), .int .u32 ((ge : Nat) : Int)]) 25 := ((f264.no k88).no k89)
          have f270 : Bk w89 ab ([.int .u8 0, .int .u32 0, .slice none (0) (0)]) 50 := ((f265.no k88).no k89)
          have o271 : Gt w89 := ((o266.no k88).no k89)
          have o272 : Tb w89 b8_0 := (o268.no k89)
          refine ⟨⟨kk89, f269, f270, o271, o272⟩, ?_⟩
          refine D_one 3 (by kernel_rfl) (Nx_lo rfl (lo_call (by kernel_rfl) rfl (shamir_combine_nil A_gv13 L c_gv13 ka nn ge _ Q89 ⟨hge, hs⟩)) rfl ?_)
          rintro _ w90 ⟨rfl, k90⟩
          have kk90 := kk89.then_ k90
          have f273 : Bk w90 p0_0 ([.int .i64 (ka), .int .i64 (nn), .int .u32 ((ge : Nat) : Int)]) 25 := (f269.no k90)
          have f274 : Bk w90 ab ([.int .u8 0, .int .u32 0, .slice none (0) (0)]) 50 := (f270.no k90)
          have o275 : Gt w90 := (o271.no k90)
          have o276 : Tb w90 b8_0 := (o272.no k90)
          refine ⟨⟨kk90, f273, f274, o275, o276⟩, ?_⟩
          refine D_take 4 rfl (by kernel_rfl) (by kernel_rfl) (by kernel_rfl) (fun _ _ _ h => h) rfl (fun W hS => pu_move rfl) ?_
          refine D_take 5 rfl (by kernel_rfl) (by kernel_rfl) (by kernel_rfl) (fun _ _ _ h => h) rfl (fun W hS => pu_extract rfl rfl) ?_
          refine D_take 6 rfl (by kernel_rfl) (by kernel_rfl) (by kernel_rfl) (fun _ _ _ h => h) rfl (fun W hS => pu_extract rfl rfl) ?_
          refine D_take 7 rfl (by kernel_rfl) (by kernel_rfl) (by kernel_rfl) (fun _ _ _ h => h) rfl (fun W hS => pu_assign rfl) ?_
          refine D_take 8 rfl (by kernel_rfl) (by kernel_rfl) (by kernel_rfl) (fun _ _ _ h => h) rfl (fun W hS => pu_assign rfl) ?_
          refine D_done (by kernel_rfl) ?_
          refine X_then hK263 ?_
          refine C_seq (fun K277 hK277 => ?_)
          refine C_seq (fun K278 hK278 => ?_)
          refine C_region ?_
          refine R_pu (pu_move rfl) rfl ?_
          refine R_pu (pu_bstr (Bs.nil _ none) Tryd.underlying22 Tryd.underlying5 Tryd.underlying9 rfl rfl) rfl ?_
          refine R_pu (pu_move rfl) rfl ?_
          refine R_pu (pu_bstr (Bs.nil _ none) Tryd.underlying22 Tryd.underlying5 Tryd.underlying9 rfl rfl) rfl ?_
          refine R_pu (pu_false (pu_neqs (p := ([]) = ([])) rfl rfl (bstr_inj (show ∀ n ∈ ([] : List Nat), n < 256 by simp) (show ∀ n ∈ ([] : List Nat), n < 256 by simp))) (fun h => h rfl)) rfl ?_
          refine R_pu (pu_move rfl) rfl ?_
          refine R_gpu rfl rfl (pu_move rfl) rfl ?_
          refine R_glo rfl rfl (lo_call (by kernel_rfl) rfl (num03_err er _ o275)) rfl ?_
          rintro _ w91 ⟨rfl, k91⟩
          have kk91 := kk90.then_ k91
          refine R_gpu rfl rfl (pu_move rfl) rfl ?_
          refine R_gpu rfl rfl (pu_false (pu_neq (p := er = er) rfl rfl (by omega)) (fun h => h rfl)) rfl ?_
          refine R_pu (pu_pickf rfl rfl) rfl ?_
          refine R_pu (pu_move rfl) rfl ?_
          refine R_gpu rfl rfl (pu_move rfl) rfl ?_
          have o279 : Gt w91 := (o275.no k91)
          refine R_glo rfl rfl (lo_call (by kernel_rfl) rfl (num03_err 1 _ o279)) rfl ?_
          rintro _ w92 ⟨rfl, k92⟩
          have kk92 := kk91.then_ k92
          refine R_gpu rfl rfl (pu_false (pu_neq (p := (1 : Nat) = 1) rfl rfl (by omega)) (by decide)) rfl ?_
          refine R_pu (pu_pickf rfl rfl) rfl ?_
          refine R_nil ?_
          refine X_then hK278 ?_
          refine C_false rfl ?_
          refine C_skip ?_
          refine X_then hK277 ?_
          refine C_seq (fun K280 hK280 => ?_)
          refine C_seq (fun K281 hK281 => ?_)
          refine C_region ?_
          refine R_pu (pu_move rfl) rfl ?_
          refine R_pu (pu_false (pu_eql (p := ix = 0) rfl rfl (by omega)) (by omega)) rfl ?_
          refine R_pu (pu_move rfl) rfl ?_
          refine R_gpu rfl rfl (pu_move rfl) rfl ?_
          refine R_gpu rfl rfl (pu_conv (z := ((ix : Nat) : Int)) Tryd.underlying5 Tryd.underlying3 rfl (by have : ix < 256 := hix; rw [IntKind.wrap_i64]; omega)) rfl ?_
          refine R_gpu rfl rfl (pu_fieldAddr (off := 1) (o' := 1) (by kernel_rfl) rfl rfl) rfl ?_
          have f282 : Bk w92 p0_0 ([.int .i64 (ka), .int .i64 (nn), .int .u32 ((ge : Nat) : Int)]) 25 := ((f273.no k91).no k92)
          refine R_gpu rfl rfl (pu_loadK f282 (by kernel_rfl) rfl rfl) rfl ?_
          refine R_gpu rfl rfl (pu_false (pu_gtr (p := ((ix : Nat) : Int) > nn) rfl rfl (by omega)) (by omega)) rfl ?_
          refine R_pu (pu_pickf rfl rfl) rfl ?_
          refine R_nil ?_
          refine X_then hK281 ?_
          refine C_false rfl ?_
          refine C_skip ?_
          refine X_then hK280 ?_
          refine C_seq (fun K283 hK283 => ?_)
          refine C_region ?_
          refine R_pu (pu_move rfl) rfl ?_
          have o284 : Gt w92 := (o279.no k92)
          refine R_lo (lo_call (by kernel_rfl) rfl (num03_err er _ o284)) rfl ?_
          rintro _ w93 ⟨rfl, k93⟩
          have kk93 := kk92.then_ k93
          refine R_pu (pu_move rfl) rfl ?_
          refine R_pu (pu_true (pu_eql (p := er = er) rfl rfl (by omega)) rfl) rfl ?_
          refine R_pu (pu_move rfl) rfl ?_
          refine R_gpu rfl rfl (pu_fieldAddr (off := 2) (o' := 2) (by kernel_rfl) rfl rfl) rfl ?_
          have f285 : Bk w93 ab ([.int .u8 0, .int .u32 0, .slice none (0) (0)]) 50 := (((f274.no k91).no k92).no k93)
          refine R_gpu rfl rfl (pu_loadK f285 (by kernel_rfl) rfl rfl) rfl ?_
          refine R_gpu rfl rfl (pu_bstr (Bs.nil _ none) Tryd.underlying22 Tryd.underlying5 Tryd.underlying9 rfl rfl) rfl ?_
          refine R_gpu rfl rfl (pu_move rfl) rfl ?_
          refine R_gpu rfl rfl (pu_bstr (Bs.nil _ none) Tryd.underlying22 Tryd.underlying5 Tryd.underlying9 rfl rfl) rfl ?_
          refine R_gpu rfl rfl (pu_true (pu_eqls (p := ([]) = ([])) rfl rfl (bstr_inj (show ∀ n ∈ ([] : List Nat), n < 256 by simp) (show ∀ n ∈ ([] : List Nat), n < 256 by simp))) rfl) rfl ?_
          refine R_pu (pu_pickt rfl rfl) rfl ?_
          refine R_pu (pu_move rfl) rfl ?_
          refine R_gpu rfl rfl (pu_move rfl) rfl ?_
          refine R_gpu rfl rfl (pu_neqin (by kernel_rfl) rfl rfl) rfl ?_
          refine R_gpu rfl rfl (pu_move rfl) rfl ?_
          refine R_gno rfl rfl rfl rfl ?_
          refine R_gno rfl rfl rfl rfl ?_
          refine R_gno rfl rfl rfl rfl ?_
          refine R_gno rfl rfl rfl rfl ?_
          refine R_gno rfl rfl rfl rfl ?_
          refine R_gun rfl rfl rfl ?_
          refine R_gun rfl rfl rfl ?_
          refine R_gun rfl rfl rfl ?_
          refine R_gun rfl rfl rfl ?_
          refine R_gun rfl rfl rfl ?_
          refine R_gno rfl rfl rfl rfl ?_
          refine R_gpu rfl rfl (pu_pickt rfl rfl) rfl ?_
          refine R_pu (pu_pickt rfl rfl) rfl ?_
          refine R_pu (pu_move rfl) rfl ?_
          have o286 : Gt w93 := (o284.no k93)
          refine R_glo rfl rfl (lo_call (by kernel_rfl) rfl (sure03 _ o286)) rfl ?_
          rintro _ w94 ⟨rfl, k94⟩
          have kk94 := kk93.then_ k94
          refine R_pu (pu_pickt rfl rfl) rfl ?_
          refine R_pu (pu_assign rfl) rfl ?_
          refine R_nil ?_
          refine X_then hK283 ?_
          refine C_ret ?_
          exact X_ret1 (.inl rfl) rfl rfl ⟨rfl, kk94⟩
end Go.Proofs.YtjbdimfpjbmggaaDoor
