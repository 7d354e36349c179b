/- Walks of progress that may not be. -/
import Derived.Test.YtjbdimfpjbmggaaDoorPz
import Derived.Test.YtjbdimfpjbmggaaDoorPr
set_option linter.unusedVariables false
set_option linter.unusedSimpArgs false
namespace Go.Proofs.YtjbdimfpjbmggaaDoor
open Go.RowKit Gm
theorem fits_no (q nn ge : Nat) (mk : ByteArray) (A0 : Option Addr) (n0 c0 : Nat) (A : Option Addr) (M : List Shr) (c ix gn : Nat) (A1 : Option Addr) (X1 : List Nat) (c1 : Nat) (w : World) (HS : Ss w A M) (hf : (M.length < 9223372036854775808 ∧ ix < 256 ∧ X1.length < 9223372036854775808) ∧ ¬ (gn = ge ∧ Fit nn M ix X1.length)) : Ret Tryd.prog 52 #[.agg ([.int .i64 ((q + 1 : Nat) : Int), .int .i64 ((nn : Nat) : Int), .int .u32 ((ge : Nat) : Int), .string mk, .slice A0 (n0) (c0)] : List Value).toArray, .slice A (M.length) (c), .agg ([.int .u8 ((ix : Nat) : Int), .int .u32 ((gn : Nat) : Int), .slice A1 (X1.length) (c1)] : List Value).toArray] w (fun v w' => ∃ e : Int, v = .iface 91 (.int .i64 e) ∧ Kp No w w') := by
  by_cases h : gn = ge
  · exact (fits_share q nn ge mk A0 n0 c0 A M c ix gn A1 X1 c1 w HS ⟨hf.1, h, fun x => hf.2 ⟨h, x⟩⟩).mono fun v w' hv => ⟨12, hv⟩
  · exact (fits_gen q nn ge mk A0 n0 c0 A M c ix gn A1 X1 c1 w HS ⟨hf.1, h⟩).mono fun v w' hv => ⟨14, hv⟩
set_option maxRecDepth 100000 in
set_option maxHeartbeats 2000000 in
theorem check_plan (ka nn : Int) (ge : Nat) (mk : ByteArray) (A : Option Addr) (L : List Shr) (c : Nat) (w : World) (HS : Ss w A L) (hP : ¬ (2 ≤ ka ∧ ka ≤ nn ∧ nn ≤ 255)) : Ret Tryd.prog 39 #[.agg ([.int .i64 (ka), .int .i64 (nn), .int .u32 ((ge : Nat) : Int), .string mk, .slice A (L.length) (c)] : List Value).toArray] w (fun v w' => v = errE 1 ∧ Kp No w w') := by
  have kk0 := Kp.refl No w
  refine enter (n := 43) [.agg ([.int .i64 (ka), .int .i64 (nn), .int .u32 ((ge : Nat) : Int), .string mk, .slice A (L.length) (c)] : List Value).toArray] Tryd.func39 rfl rfl rfl ?_
  show Cw _ _ _ _ [(0, .agg ([.int .i64 (ka), .int .i64 (nn), .int .u32 ((ge : Nat) : Int), .string mk, .slice A (L.length) (c)] : List Value).toArray)] _
  refine C_seq (fun K1 hK1 => ?_)
  refine C_region ?_
  refine R_lo (lo_box (L := [.int .i64 (ka), .int .i64 (nn), .int .u32 ((ge : Nat) : Int), .string mk, .slice A (L.length) (c)]) rfl rfl) rfl ?_
  rintro _ w1 ⟨p0_0, rfl, N1⟩
  have k1 := N1.kp
  have kk1 := kk0.then_ k1
  have f_p0_0_1 : Bk w1 p0_0 ([.int .i64 (ka), .int .i64 (nn), .int .u32 ((ge : Nat) : Int), .string mk, .slice A (L.length) (c)]) 70 := N1.bk
  refine R_pu (pu_assign rfl) rfl ?_
  refine R_nil ?_
  refine X_then hK1 ?_
  refine C_seq (fun K2 hK2 => ?_)
  refine C_seq (fun K3 hK3 => ?_)
  refine C_region ?_
  refine R_pu (pu_fieldAddr (off := 0) (o' := 0) (by kernel_rfl) rfl rfl) rfl ?_
  refine R_pu (pu_loadMid (len := 3) (C := [.int .i64 (ka), .int .i64 (nn), .int .u32 ((ge : Nat) : Int)]) f_p0_0_1 (by kernel_rfl) (by kernel_rfl) rfl rfl rfl) rfl ?_
  refine R_lo (lo_call (by kernel_rfl) rfl (shamir_check_no ka nn ge _ hP)) rfl ?_
  rintro _ w2 ⟨rfl, k2⟩
  have kk2 := kk1.then_ k2
  refine R_pu (pu_neqin (by kernel_rfl) rfl rfl) rfl ?_
  refine R_pu (pu_move rfl) rfl ?_
  refine R_gno rfl rfl rfl rfl ?_
  refine R_gno rfl rfl rfl rfl ?_
  refine R_gno rfl rfl rfl rfl ?_
  refine R_gno rfl rfl rfl rfl ?_
  refine R_pu (pu_pickt rfl rfl) rfl ?_
  refine R_pu (pu_move rfl) rfl ?_
  refine R_gno rfl rfl rfl rfl ?_
  refine R_gno rfl rfl rfl rfl ?_
  refine R_gno rfl rfl rfl rfl ?_
  refine R_gno rfl rfl rfl rfl ?_
  refine R_gno rfl rfl rfl rfl ?_
  refine R_gno rfl rfl rfl rfl ?_
  refine R_gno rfl rfl rfl rfl ?_
  refine R_pu (pu_pickt rfl rfl) rfl ?_
  refine R_nil ?_
  refine X_then hK3 ?_
  refine C_true rfl ?_
  refine C_seq (fun K4 hK4 => ?_)
  refine C_region ?_
  refine R_pu (pu_makeInterface Tryd.underlying91 rfl rfl) rfl ?_
  refine R_pu (pu_assign rfl) rfl ?_
  refine R_nil ?_
  refine X_then hK4 ?_
  refine C_ret ?_
  refine X_then_ret ?_
  exact X_ret1 (.inl rfl) rfl rfl ⟨rfl, kk2⟩
set_option maxRecDepth 100000 in
set_option maxHeartbeats 2000000 in
theorem check_bad (q nn ge : Nat) (mk : ByteArray) (A : Option Addr) (L : List Shr) (c : Nat) (w : World) (HS : Ss w A L) (hC : (2 ≤ q + 1 ∧ q + 1 ≤ nn ∧ nn ≤ 255) ∧ (L.length ≤ c ∧ L.length < 9223372036854775808) ∧ ¬ (mk.size ≤ 16 ∧ L.length ≤ q + 1 ∧ Came nn ge L)) : Ret Tryd.prog 39 #[.agg ([.int .i64 ((q + 1 : Nat) : Int), .int .i64 ((nn : Nat) : Int), .int .u32 ((ge : Nat) : Int), .string mk, .slice A (L.length) (c)] : List Value).toArray] w (fun v w' => v = errE 1 ∧ Kp No w w') := by
  obtain ⟨hP, ⟨hc, hs⟩, hno⟩ := hC
  have kk0 := Kp.refl No w
  refine enter (n := 43) [.agg ([.int .i64 ((q + 1 : Nat) : Int), .int .i64 ((nn : Nat) : Int), .int .u32 ((ge : Nat) : Int), .string mk, .slice A (L.length) (c)] : List Value).toArray] Tryd.func39 rfl rfl rfl ?_
  show Cw _ _ _ _ [(0, .agg ([.int .i64 ((q + 1 : Nat) : Int), .int .i64 ((nn : Nat) : Int), .int .u32 ((ge : Nat) : Int), .string mk, .slice A (L.length) (c)] : List Value).toArray)] _
  refine C_seq (fun K1 hK1 => ?_)
  refine C_region ?_
  refine R_lo (lo_box (L := [.int .i64 ((q + 1 : Nat) : Int), .int .i64 ((nn : Nat) : Int), .int .u32 ((ge : Nat) : Int), .string mk, .slice A (L.length) (c)]) rfl rfl) rfl ?_
  rintro _ w1 ⟨p0_0, rfl, N1⟩
  have k1 := N1.kp
  have kk1 := kk0.then_ k1
  have f_p0_0_1 : Bk w1 p0_0 ([.int .i64 ((q + 1 : Nat) : Int), .int .i64 ((nn : Nat) : Int), .int .u32 ((ge : Nat) : Int), .string mk, .slice A (L.length) (c)]) 70 := N1.bk
  refine R_pu (pu_assign rfl) rfl ?_
  refine R_nil ?_
  refine X_then hK1 ?_
  refine C_seq (fun K2 hK2 => ?_)
  refine C_seq (fun K3 hK3 => ?_)
  refine C_region ?_
  refine R_pu (pu_fieldAddr (off := 0) (o' := 0) (by kernel_rfl) rfl rfl) rfl ?_
  refine R_pu (pu_loadMid (len := 3) (C := [.int .i64 ((q + 1 : Nat) : Int), .int .i64 ((nn : Nat) : Int), .int .u32 ((ge : Nat) : Int)]) f_p0_0_1 (by kernel_rfl) (by kernel_rfl) rfl rfl rfl) rfl ?_
  refine R_lo (lo_call (by kernel_rfl) rfl (shamir_check_yes q nn ge _ hP)) rfl ?_
  rintro _ w2 ⟨rfl, k2⟩
  have kk2 := kk1.then_ k2
  refine R_pu (pu_neqnn (by kernel_rfl) rfl) rfl ?_
  refine R_pu (pu_move rfl) rfl ?_
  refine R_gpu rfl rfl (pu_fieldAddr (off := 3) (o' := 3) (by kernel_rfl) rfl rfl) rfl ?_
  have f4 : Bk w2 p0_0 ([.int .i64 ((q + 1 : Nat) : Int), .int .i64 ((nn : Nat) : Int), .int .u32 ((ge : Nat) : Int), .string mk, .slice A (L.length) (c)]) 70 := (f_p0_0_1.no k2)
  refine R_gpu rfl rfl (pu_loadK f4 (by kernel_rfl) rfl rfl) rfl ?_
  refine R_gpu rfl rfl (pu_lens Tryd.underlying9 rfl) rfl ?_
  refine R_gpu rfl rfl (pu_gtr (p := mk.size > 16) rfl rfl (by omega)) rfl ?_
  refine R_pu (pu_pickf rfl rfl) rfl ?_
  by_cases g1_10 : mk.size > 16
  · refine R_pu (pu_true (pu_move rfl) g1_10) rfl ?_
    refine R_gno rfl rfl rfl rfl ?_
    refine R_gno rfl rfl rfl rfl ?_
    refine R_gno rfl rfl rfl rfl ?_
    refine R_gno rfl rfl rfl rfl ?_
    refine R_gno rfl rfl rfl rfl ?_
    refine R_gno rfl rfl rfl rfl ?_
    refine R_gno rfl rfl rfl rfl ?_
    refine R_pu (pu_pickt rfl rfl) rfl ?_
    refine R_nil ?_
    refine X_then hK3 ?_
    refine C_true rfl ?_
    refine C_seq (fun K5 hK5 => ?_)
    refine C_region ?_
    refine R_pu (pu_makeInterface Tryd.underlying91 rfl rfl) rfl ?_
    refine R_pu (pu_assign rfl) rfl ?_
    refine R_nil ?_
    refine X_then hK5 ?_
    refine C_ret ?_
    refine X_then_ret ?_
    exact X_ret1 (.inl rfl) rfl rfl ⟨rfl, kk2⟩
  · refine R_pu (pu_false (pu_move rfl) g1_10) rfl ?_
    refine R_gpu rfl rfl (pu_fieldAddr (off := 4) (o' := 4) (by kernel_rfl) rfl rfl) rfl ?_
    refine R_gpu rfl rfl (pu_loadK f4 (by kernel_rfl) rfl rfl) rfl ?_
    refine R_gpu rfl rfl (pu_len Tryd.underlying29 rfl) rfl ?_
    refine R_gpu rfl rfl (pu_fieldAddr (off := 0) (o' := 0) (by kernel_rfl) rfl rfl) rfl ?_
    refine R_gpu rfl rfl (pu_fieldAddr (off := 0) (o' := 0) (by kernel_rfl) rfl rfl) rfl ?_
    refine R_gpu rfl rfl (pu_loadK f4 (by kernel_rfl) rfl rfl) rfl ?_
    refine R_gpu rfl rfl (pu_gtr (p := L.length > (q + 1)) rfl rfl (by omega)) rfl ?_
    refine R_pu (pu_pickf rfl rfl) rfl ?_
    refine R_nil ?_
    refine X_then hK3 ?_
    refine C_dec rfl (fun h23 => ?_) (fun h23 => ?_)
    · refine C_seq (fun K6 hK6 => ?_)
      refine C_region ?_
      refine R_pu (pu_makeInterface Tryd.underlying91 rfl rfl) rfl ?_
      refine R_pu (pu_assign rfl) rfl ?_
      refine R_nil ?_
      refine X_then hK6 ?_
      refine C_ret ?_
      refine X_then_ret ?_
      exact X_ret1 (.inl rfl) rfl rfl ⟨rfl, kk2⟩
    · refine C_skip ?_
      refine X_then hK2 ?_
      refine C_seq (fun K7 hK7 => ?_)
      refine C_seq (fun K8 hK8 => ?_)
      refine C_region ?_
      refine R_pu (pu_fieldAddr (off := 4) (o' := 4) (by kernel_rfl) rfl rfl) rfl ?_
      refine R_pu (pu_loadK f4 (by kernel_rfl) rfl rfl) rfl ?_
      refine R_pu (pu_len Tryd.underlying29 rfl) rfl ?_
      refine R_pu (pu_move rfl) rfl ?_
      refine R_nil ?_
      refine X_then hK8 ?_
      refine C_block ?_
      refine C_loop (fun m_ l_ wr => ∃ i : Nat, (m_ = L.length - i) ∧ (l_ = [(1, .pointer (some ⟨p0_0, 0, none⟩)), (26, .slice A (L.length) (c)), (27, .int .i64 ((L.length : Nat) : Int)), (28, .int .i64 ((i : Nat) : Int))]) ∧ (i ≤ L.length) ∧ (CameT nn ge L i) ∧ (Kp No w wr) ∧ (Bk wr p0_0 ([.int .i64 ((q + 1 : Nat) : Int), .int .i64 ((nn : Nat) : Int), .int .u32 ((ge : Nat) : Int), .string mk, .slice A (L.length) (c)]) 70)) (L.length - 0) [(1, .pointer (some ⟨p0_0, 0, none⟩)), (26, .slice A (L.length) (c)), (27, .int .i64 ((L.length : Nat) : Int)), (28, .int .i64 0)] (Sub.cons rfl (Sub.cons rfl (Sub.cons rfl (Sub.cons rfl (Sub.nil _))))) ⟨0, rfl, rfl, by omega, (CameT.zero _ _ _), kk2, f4⟩ ?_
      rintro _ _ w3 ⟨i, rfl, rfl, hi, hct, kk3, f_p0_0_3⟩
      refine C_seq (fun K9 hK9 => ?_)
      refine C_region ?_
      refine R_pu (pu_lss (p := i < L.length) rfl rfl (by omega)) rfl ?_
      refine R_nil ?_
      refine X_then hK9 ?_
      refine C_seq (fun K10 hK10 => ?_)
      refine C_dec rfl (fun h29 => ?_) (fun h29 => ?_)
      · refine C_skip ?_
        refine X_then hK10 ?_
        refine C_seq (fun K11 hK11 => ?_)
        refine C_block ?_
        refine C_seq (fun K12 hK12 => ?_)
        refine C_region ?_
        refine R_pu (pu_move rfl) rfl ?_
        obtain ⟨s1, e_s1⟩ : ∃ q_, (L)[i]? = some q_ := ⟨_, List.getElem?_eq_getElem (by first | omega | (simp; done) | (simp; omega))⟩
        have ok_s1 := HS.get e_s1
        have okb_s1 := ok_s1.bs
        have bi_s1 : s1.ix < 256 := ok_s1.ix
        refine R_pu (pu_indexAddrH (HS.keptNo kk3) Tryd.underlying29 (by kernel_rfl) rfl rfl rfl rfl e_s1) rfl ?_
        refine R_pu (pu_loadHr (HS.keptNo kk3) e_s1 (by kernel_rfl) (by kernel_rfl) rfl) rfl ?_
        refine R_lo (lo_alloc (L := [.int .u8 0, .int .u32 0, .slice none (0) (0)]) (by kernel_rfl)) rfl ?_
        rintro _ w4 ⟨a1, rfl, N4⟩
        have k4 := N4.kp
        have kk4 := kk3.then_ k4
        have ne_a1_p0_0 : a1 ≠ p0_0 := Nat.ne_of_gt (Nat.lt_of_lt_of_le f_p0_0_3.lt N4.le)
        have f_a1_4 : Bk w4 a1 ([.int .u8 0, .int .u32 0, .slice none (0) (0)]) 50 := N4.bk
        refine R_pu (pu_assign rfl) rfl ?_
        refine R_lo0 (lo_storeRow (C := [.int .u8 ((s1.ix : Nat) : Int), .int .u32 ((s1.gen : Nat) : Int), .slice s1.A (s1.X.length) (s1.c)]) f_a1_4 (by kernel_rfl) rfl rfl (by intro u hu; simp at hu; rcases hu with rfl | rfl | rfl <;> rfl) rfl) ?_
        rintro _ w5 kf5
        obtain ⟨k5, f_a1_5⟩ := kf5
        replace f_a1_5 : Bk w5 a1 ([.int .u8 ((s1.ix : Nat) : Int), .int .u32 ((s1.gen : Nat) : Int), .slice s1.A (s1.X.length) (s1.c)]) 50 := f_a1_5
        have kk5 := kk4.trans k5 (fun i hi => .inr (hi ▸ (Nat.le_trans kk3.size N4.le)))
        refine R_nil ?_
        refine X_then hK12 ?_
        by_cases hfit : s1.gen = ge ∧ Fit nn (L.take i) s1.ix s1.X.length
        · refine C_seq (fun K13 hK13 => ?_)
          have f14 : Bk w5 p0_0 ([.int .i64 ((q + 1 : Nat) : Int), .int .i64 ((nn : Nat) : Int), .int .u32 ((ge : Nat) : Int), .string mk, .slice A (L.length) (c)]) 70 := ((f_p0_0_3.no k4).on k5 (Ne.symm ne_a1_p0_0))
          refine D_begin (fun W => Kp No w W ∧ Bk W p0_0 ([.int .i64 ((q + 1 : Nat) : Int), .int .i64 ((nn : Nat) : Int), .int .u32 ((ge : Nat) : Int), .string mk, .slice A (L.length) (c)]) 70 ∧ Bk W a1 ([.int .u8 ((s1.ix : Nat) : Int), .int .u32 ((s1.gen : Nat) : Int), .slice s1.A (s1.X.length) (s1.c)]) 50) 8 rfl (by kernel_rfl) ⟨kk5.drew, f14.draw, f_a1_5.draw⟩ ?_
          intro w6 k6 _
          have kk6 := kk5.then_ k6
          refine D_take 0 rfl (by kernel_rfl) (by kernel_rfl) (by kernel_rfl) (fun _ _ _ h => h) rfl (fun W hS => pu_loadRow (len := 5) hS.2.1 (by kernel_rfl) (by kernel_rfl) rfl rfl) ?_
          refine D_take 1 rfl (by kernel_rfl) (by kernel_rfl) (by kernel_rfl) (fun _ _ _ h => h) rfl (fun W hS => pu_fieldAddr (off := 4) (o' := 4) (by kernel_rfl) rfl rfl) ?_
          refine D_take 2 rfl (by kernel_rfl) (by kernel_rfl) (by kernel_rfl) (fun _ _ _ h => h) rfl (fun W hS => pu_loadK hS.2.1 (by kernel_rfl) rfl rfl) ?_
          refine D_take 3 rfl (by kernel_rfl) (by kernel_rfl) (by kernel_rfl) (fun _ _ _ h => h) rfl (fun W hS => pu_move rfl) ?_
          have HSt15 := HS.take i
          have ln_HSt15 : (L.take i).length = i := by rw [List.length_take]; omega
          refine D_take 4 rfl (by kernel_rfl) (by kernel_rfl) (by kernel_rfl) (fun _ _ _ h => h) rfl (fun W hS => pu_sliceHi (hi := i) (s := 3) Tryd.underlying29 (by kernel_rfl) rfl rfl rfl (by omega)) ?_
          refine D_take 5 rfl (by kernel_rfl) (by kernel_rfl) (by kernel_rfl) (fun _ _ _ h => h) rfl (fun W hS => pu_loadRow (len := 3) hS.2.2 (by kernel_rfl) (by kernel_rfl) rfl rfl) ?_
          refine D_one 6 (by kernel_rfl) (Nx_lo rfl (lo_callE (by kernel_rfl) rfl (by rw [ln_HSt15] <;> rfl) (fits_ok q nn ge mk A L.length c A (L.take i) c s1.ix s1.gen s1.A s1.X s1.c _ (HSt15.keptNo kk6) ⟨⟨by rw [List.length_take]; omega, ok_s1.ix, by have := ok_s1.le; have := ok_s1.cap; unfold maxLen at this; omega⟩, hfit⟩)) rfl ?_)
          rintro _ w7 ⟨rfl, k7⟩
          have kk7 := kk6.then_ k7
          have f16 : Bk w7 p0_0 ([.int .i64 ((q + 1 : Nat) : Int), .int .i64 ((nn : Nat) : Int), .int .u32 ((ge : Nat) : Int), .string mk, .slice A (L.length) (c)]) 70 := ((f14.no k6).no k7)
          have f17 : Bk w7 a1 ([.int .u8 ((s1.ix : Nat) : Int), .int .u32 ((s1.gen : Nat) : Int), .slice s1.A (s1.X.length) (s1.c)]) 50 := ((f_a1_5.no k6).no k7)
          refine ⟨⟨kk7, f16, f17⟩, ?_⟩
          refine D_take 7 rfl (by kernel_rfl) (by kernel_rfl) (by kernel_rfl) (fun _ _ _ h => h) rfl (fun W hS => pu_neqnn (by kernel_rfl) rfl) ?_
          refine D_done (by kernel_rfl) ?_
          refine X_then hK13 ?_
          refine C_false rfl ?_
          refine C_skip ?_
          refine X_in_normal ?_
          refine X_then hK11 ?_
          refine C_region ?_
          refine R_pu (pu_add (z := ((i + 1 : Nat) : Int)) rfl rfl (by rw [IntKind.wrap_i64]; omega)) rfl ?_
          refine R_pu (pu_move rfl) rfl ?_
          refine R_nil ?_
          refine X_round (L.length - (i + 1)) [(1, .pointer (some ⟨p0_0, 0, none⟩)), (26, .slice A (L.length) (c)), (27, .int .i64 ((L.length : Nat) : Int)), (28, .int .i64 (((i + 1) : Nat) : Int))] (by omega) (Sub.cons rfl (Sub.cons rfl (Sub.cons rfl (Sub.cons rfl (Sub.nil _))))) ⟨i + 1, rfl, rfl, by omega, (hct.step e_s1 hfit), kk7, f16⟩
        · refine C_seq (fun K18 hK18 => ?_)
          have f19 : Bk w5 p0_0 ([.int .i64 ((q + 1 : Nat) : Int), .int .i64 ((nn : Nat) : Int), .int .u32 ((ge : Nat) : Int), .string mk, .slice A (L.length) (c)]) 70 := ((f_p0_0_3.no k4).on k5 (Ne.symm ne_a1_p0_0))
          refine D_begin (fun W => Kp No w W ∧ Bk W p0_0 ([.int .i64 ((q + 1 : Nat) : Int), .int .i64 ((nn : Nat) : Int), .int .u32 ((ge : Nat) : Int), .string mk, .slice A (L.length) (c)]) 70 ∧ Bk W a1 ([.int .u8 ((s1.ix : Nat) : Int), .int .u32 ((s1.gen : Nat) : Int), .slice s1.A (s1.X.length) (s1.c)]) 50) 8 rfl (by kernel_rfl) ⟨kk5.drew, f19.draw, f_a1_5.draw⟩ ?_
          intro w8 k8 _
          have kk8 := kk5.then_ k8
          refine D_take 0 rfl (by kernel_rfl) (by kernel_rfl) (by kernel_rfl) (fun _ _ _ h => h) rfl (fun W hS => pu_loadRow (len := 5) hS.2.1 (by kernel_rfl) (by kernel_rfl) rfl rfl) ?_
          refine D_take 1 rfl (by kernel_rfl) (by kernel_rfl) (by kernel_rfl) (fun _ _ _ h => h) rfl (fun W hS => pu_fieldAddr (off := 4) (o' := 4) (by kernel_rfl) rfl rfl) ?_
          refine D_take 2 rfl (by kernel_rfl) (by kernel_rfl) (by kernel_rfl) (fun _ _ _ h => h) rfl (fun W hS => pu_loadK hS.2.1 (by kernel_rfl) rfl rfl) ?_
          refine D_take 3 rfl (by kernel_rfl) (by kernel_rfl) (by kernel_rfl) (fun _ _ _ h => h) rfl (fun W hS => pu_move rfl) ?_
          have HSt20 := HS.take i
          have ln_HSt20 : (L.take i).length = i := by rw [List.length_take]; omega
          refine D_take 4 rfl (by kernel_rfl) (by kernel_rfl) (by kernel_rfl) (fun _ _ _ h => h) rfl (fun W hS => pu_sliceHi (hi := i) (s := 3) Tryd.underlying29 (by kernel_rfl) rfl rfl rfl (by omega)) ?_
          refine D_take 5 rfl (by kernel_rfl) (by kernel_rfl) (by kernel_rfl) (fun _ _ _ h => h) rfl (fun W hS => pu_loadRow (len := 3) hS.2.2 (by kernel_rfl) (by kernel_rfl) rfl rfl) ?_
          refine D_one 6 (by kernel_rfl) (Nx_lo rfl (lo_callE (by kernel_rfl) rfl (by rw [ln_HSt20] <;> rfl) (fits_no q nn ge mk A L.length c A (L.take i) c s1.ix s1.gen s1.A s1.X s1.c _ (HSt20.keptNo kk8) ⟨⟨by rw [List.length_take]; omega, ok_s1.ix, by have := ok_s1.le; have := ok_s1.cap; unfold maxLen at this; omega⟩, hfit⟩)) rfl ?_)
          rintro _ w9 ⟨fe, rfl, k9⟩
          have kk9 := kk8.then_ k9
          have f21 : Bk w9 p0_0 ([.int .i64 ((q + 1 : Nat) : Int), .int .i64 ((nn : Nat) : Int), .int .u32 ((ge : Nat) : Int), .string mk, .slice A (L.length) (c)]) 70 := ((f19.no k8).no k9)
          have f22 : Bk w9 a1 ([.int .u8 ((s1.ix : Nat) : Int), .int .u32 ((s1.gen : Nat) : Int), .slice s1.A (s1.X.length) (s1.c)]) 50 := ((f_a1_5.no k8).no k9)
          refine ⟨⟨kk9, f21, f22⟩, ?_⟩
          refine D_take 7 rfl (by kernel_rfl) (by kernel_rfl) (by kernel_rfl) (fun _ _ _ h => h) rfl (fun W hS => pu_neqin (by kernel_rfl) rfl rfl) ?_
          refine D_done (by kernel_rfl) ?_
          refine X_then hK18 ?_
          refine C_true rfl ?_
          refine C_seq (fun K23 hK23 => ?_)
          refine C_region ?_
          refine R_pu (pu_makeInterface Tryd.underlying91 rfl rfl) rfl ?_
          refine R_pu (pu_assign rfl) rfl ?_
          refine R_nil ?_
          refine X_then hK23 ?_
          refine C_ret ?_
          refine X_in_ret (X_then_ret (X_then_ret (X_in_ret (X_then_ret ?_))))
          exact X_ret1 (.inl rfl) rfl rfl ⟨rfl, kk9⟩
      · refine C_exit ?_
        refine X_then_exit (X_then_exit (X_in_eq ?_))
        refine X_then hK7 ?_
        refine C_seq (fun K24 hK24 => ?_)
        exact absurd ⟨by omega, by omega, hct.all (by omega)⟩ hno
theorem check_arg (ka nn : Int) (ge : Nat) (mk : ByteArray) (A : Option Addr) (L : List Shr) (c : Nat) (w : World) (HS : Ss w A L) (hm : (L.length ≤ c ∧ L.length < 9223372036854775808) ∧ ¬ MayP ka nn ge mk L) : Ret Tryd.prog 39 #[.agg ([.int .i64 (ka), .int .i64 (nn), .int .u32 ((ge : Nat) : Int), .string mk, .slice A (L.length) (c)] : List Value).toArray] w (fun v w' => v = errE 1 ∧ Kp No w w') := by
  by_cases hP : 2 ≤ ka ∧ ka ≤ nn ∧ nn ≤ 255
  · obtain ⟨q, rfl⟩ : ∃ q : Nat, ka = ((q + 1 : Nat) : Int) := ⟨(ka - 1).toNat, by omega⟩
    obtain ⟨n, rfl⟩ : ∃ n : Nat, nn = (n : Int) := ⟨nn.toNat, by omega⟩
    exact check_bad q n ge mk A L c w HS ⟨by omega, hm.1, fun h => hm.2 ⟨hP, h.1, by omega, h.2.2⟩⟩
  · exact check_plan ka nn ge mk A L c w HS hP
set_option maxRecDepth 100000 in
set_option maxHeartbeats 2000000 in
theorem submit_arg (ka nn : Int) (ge : Nat) (mk : ByteArray) (A : Option Addr) (L : List Shr) (c : Nat) (mk2 : ByteArray) (ix gn : Nat) (A1 : Option Addr) (X1 : List Nat) (c1 : Nat) (w : World) (HS : Ss w A L) (hm : (L.length ≤ c ∧ L.length < 9223372036854775808) ∧ ¬ MayP ka nn ge mk L) : Ret Tryd.prog 30 #[.agg ([.int .i64 (ka), .int .i64 (nn), .int .u32 ((ge : Nat) : Int), .string mk, .slice A (L.length) (c)] : List Value).toArray, .string mk2, .agg ([.int .u8 ((ix : Nat) : Int), .int .u32 ((gn : Nat) : Int), .slice A1 (X1.length) (c1)] : List Value).toArray] w (fun v w' => v = .tuple #[.agg ([.int .i64 0, .int .i64 0, .int .u32 0, .string ByteArray.empty, .slice none (0) (0)] : List Value).toArray, .bool false, errE 1] ∧ Kp No w w') := by
  have kk0 := Kp.refl No w
  refine enter (n := 76) [.agg ([.int .i64 (ka), .int .i64 (nn), .int .u32 ((ge : Nat) : Int), .string mk, .slice A (L.length) (c)] : List Value).toArray, .string mk2, .agg ([.int .u8 ((ix : Nat) : Int), .int .u32 ((gn : Nat) : Int), .slice A1 (X1.length) (c1)] : List Value).toArray] Tryd.func30 rfl rfl rfl ?_
  show Cw _ _ _ _ [(0, .agg ([.int .i64 (ka), .int .i64 (nn), .int .u32 ((ge : Nat) : Int), .string mk, .slice A (L.length) (c)] : List Value).toArray), (1, .string mk2), (2, .agg ([.int .u8 ((ix : Nat) : Int), .int .u32 ((gn : Nat) : Int), .slice A1 (X1.length) (c1)] : List Value).toArray)] _
  refine C_seq (fun K1 hK1 => ?_)
  refine C_region ?_
  refine R_lo (lo_box (L := [.int .i64 (ka), .int .i64 (nn), .int .u32 ((ge : Nat) : Int), .string mk, .slice A (L.length) (c)]) rfl rfl) rfl ?_
  rintro _ w1 ⟨p0_0, rfl, N1⟩
  have k1 := N1.kp
  have kk1 := kk0.then_ k1
  have f_p0_0_1 : Bk w1 p0_0 ([.int .i64 (ka), .int .i64 (nn), .int .u32 ((ge : Nat) : Int), .string mk, .slice A (L.length) (c)]) 70 := N1.bk
  refine R_lo (lo_box (L := [.int .u8 ((ix : Nat) : Int), .int .u32 ((gn : Nat) : Int), .slice A1 (X1.length) (c1)]) rfl rfl) rfl ?_
  rintro _ w2 ⟨sb, rfl, N2⟩
  have k2 := N2.kp
  have kk2 := kk1.then_ k2
  have ne_sb_p0_0 : sb ≠ p0_0 := Nat.ne_of_gt (Nat.lt_of_lt_of_le f_p0_0_1.lt N2.le)
  have f_sb_2 : Bk w2 sb ([.int .u8 ((ix : Nat) : Int), .int .u32 ((gn : Nat) : Int), .slice A1 (X1.length) (c1)]) 50 := N2.bk
  have f2 : Bk w2 p0_0 ([.int .i64 (ka), .int .i64 (nn), .int .u32 ((ge : Nat) : Int), .string mk, .slice A (L.length) (c)]) 70 := (f_p0_0_1.no k2)
  refine R_lo (lo_alloc (L := [.int .i64 0, .int .i64 0, .int .u32 0, .string ByteArray.empty, .slice none (0) (0)]) (by kernel_rfl)) rfl ?_
  rintro _ w3 ⟨rs, rfl, N3⟩
  have k3 := N3.kp
  have kk3 := kk2.then_ k3
  have ne_rs_p0_0 : rs ≠ p0_0 := Nat.ne_of_gt (Nat.lt_of_lt_of_le f2.lt N3.le)
  have ne_rs_sb : rs ≠ sb := Nat.ne_of_gt (Nat.lt_of_lt_of_le f_sb_2.lt N3.le)
  have f_rs_3 : Bk w3 rs ([.int .i64 0, .int .i64 0, .int .u32 0, .string ByteArray.empty, .slice none (0) (0)]) 70 := N3.bk
  refine R_pu (pu_assign rfl) rfl ?_
  refine R_pu (pu_assign rfl) rfl ?_
  refine R_nil ?_
  refine X_then hK1 ?_
  refine C_seq (fun K3 hK3 => ?_)
  refine C_seq (fun K4 hK4 => ?_)
  refine C_region ?_
  have f5 : Bk w3 p0_0 ([.int .i64 (ka), .int .i64 (nn), .int .u32 ((ge : Nat) : Int), .string mk, .slice A (L.length) (c)]) 70 := (f2.no k3)
  refine R_pu (pu_loadRow (len := 5) f5 (by kernel_rfl) (by kernel_rfl) rfl rfl) rfl ?_
  refine R_lo (lo_call (by kernel_rfl) rfl (check_arg ka nn ge mk A L c _ (HS.keptNo kk3) hm)) rfl ?_
  rintro _ w4 ⟨rfl, k4⟩
  have kk4 := kk3.then_ k4
  refine R_pu (pu_assign rfl) rfl ?_
  refine R_nil ?_
  refine X_then hK4 ?_
  refine C_seq (fun K6 hK6 => ?_)
  refine C_region ?_
  refine R_pu (pu_move rfl) rfl ?_
  refine R_pu (pu_neqin (by kernel_rfl) rfl rfl) rfl ?_
  refine R_nil ?_
  refine X_then hK6 ?_
  refine C_true rfl ?_
  refine C_seq (fun K7 hK7 => ?_)
  refine C_region ?_
  refine R_pu (pu_build (L := [.int .i64 0, .int .i64 0, .int .u32 0, .string ByteArray.empty, .slice none (0) (0)]) rfl (by kernel_rfl)) rfl ?_
  refine R_pu (pu_move rfl) rfl ?_
  have f8 : Bk w4 rs ([.int .i64 0, .int .i64 0, .int .u32 0, .string ByteArray.empty, .slice none (0) (0)]) 70 := (f_rs_3.no k4)
  refine R_lo0 (lo_storeRow (C := [.int .i64 0, .int .i64 0, .int .u32 0, .string ByteArray.empty, .slice none (0) (0)]) f8 (by kernel_rfl) rfl rfl (by intro u hu; simp at hu; rcases hu with rfl | rfl | rfl | rfl | rfl <;> rfl) rfl) ?_
  rintro _ w5 kf5
  obtain ⟨k5, f_rs_5⟩ := kf5
  replace f_rs_5 : Bk w5 rs ([.int .i64 0, .int .i64 0, .int .u32 0, .string ByteArray.empty, .slice none (0) (0)]) 70 := f_rs_5
  have kk5 := kk4.trans k5 (fun i hi => .inr (hi ▸ (Nat.le_trans kk2.size N3.le)))
  refine R_pu (pu_assign rfl) rfl ?_
  refine R_pu (pu_assign rfl) rfl ?_
  refine R_nil ?_
  refine X_then hK7 ?_
  refine C_ret ?_
  refine X_then_ret ?_
  exact X_retCTT (len := 5) (.inl rfl) rfl rfl f_rs_5 (by kernel_rfl) (by kernel_rfl) rfl rfl rfl ⟨rfl, kk5⟩
set_option maxRecDepth 100000 in
set_option maxHeartbeats 2000000 in
theorem secret_arg (b : Nat) (ka nn : Int) (ge : Nat) (mk : ByteArray) (A : Option Addr) (L : List Shr) (c : Nat) (w : World) (HS : Ss w A L) (hm : (L.length ≤ c ∧ L.length < 9223372036854775808) ∧ ¬ MayP ka nn ge mk L) : Ret Tryd.prog 32 #[.pointer (some ⟨b, 0, none⟩), .agg ([.int .i64 (ka), .int .i64 (nn), .int .u32 ((ge : Nat) : Int), .string mk, .slice A (L.length) (c)] : List Value).toArray] w (fun v w' => v = .tuple #[.slice none 0 0, errE 1] ∧ Kp No w w') := by
  have kk0 := Kp.refl No w
  refine enter (n := 28) [.pointer (some ⟨b, 0, none⟩), .agg ([.int .i64 (ka), .int .i64 (nn), .int .u32 ((ge : Nat) : Int), .string mk, .slice A (L.length) (c)] : List Value).toArray] Tryd.func32 rfl rfl rfl ?_
  show Cw _ _ _ _ [(0, .pointer (some ⟨b, 0, none⟩)), (1, .agg ([.int .i64 (ka), .int .i64 (nn), .int .u32 ((ge : Nat) : Int), .string mk, .slice A (L.length) (c)] : List Value).toArray)] _
  refine C_seq (fun K1 hK1 => ?_)
  refine C_region ?_
  refine R_lo (lo_box (L := [.int .i64 (ka), .int .i64 (nn), .int .u32 ((ge : Nat) : Int), .string mk, .slice A (L.length) (c)]) rfl rfl) rfl ?_
  rintro _ w1 ⟨p0_0, rfl, N1⟩
  have k1 := N1.kp
  have kk1 := kk0.then_ k1
  have f_p0_0_1 : Bk w1 p0_0 ([.int .i64 (ka), .int .i64 (nn), .int .u32 ((ge : Nat) : Int), .string mk, .slice A (L.length) (c)]) 70 := N1.bk
  refine R_pu (pu_assign rfl) rfl ?_
  refine R_pu (pu_assign rfl) rfl ?_
  refine R_nil ?_
  refine X_then hK1 ?_
  refine C_seq (fun K2 hK2 => ?_)
  refine C_block ?_
  refine C_seq (fun K3 hK3 => ?_)
  refine C_region ?_
  refine R_pu (pu_loadRow (len := 5) f_p0_0_1 (by kernel_rfl) (by kernel_rfl) rfl rfl) rfl ?_
  refine R_lo (lo_call (by kernel_rfl) rfl (check_arg ka nn ge mk A L c _ (HS.keptNo kk1) hm)) rfl ?_
  rintro _ w2 ⟨rfl, k2⟩
  have kk2 := kk1.then_ k2
  refine R_pu (pu_neqin (by kernel_rfl) rfl rfl) rfl ?_
  refine R_pu (pu_assign rfl) rfl ?_
  refine R_nil ?_
  refine X_then hK3 ?_
  refine C_true rfl ?_
  refine C_seq (fun K4 hK4 => ?_)
  refine C_region ?_
  refine R_pu (pu_makeInterface Tryd.underlying91 rfl rfl) rfl ?_
  refine R_pu (pu_assign rfl) rfl ?_
  refine R_pu (pu_assign rfl) rfl ?_
  refine R_nil ?_
  refine X_then hK4 ?_
  refine C_ret ?_
  refine X_in_ret (X_then_ret ?_)
  exact X_ret2 (.inl rfl) rfl rfl rfl ⟨rfl, kk2⟩
set_option maxRecDepth 100000 in
set_option maxHeartbeats 2000000 in
theorem start_arg (ka nn : Int) (ge : Nat) (mk : ByteArray) (w : World) (hm : ¬ MayP ka nn ge mk []) : Ret Tryd.prog 34 #[.agg ([.int .i64 (ka), .int .i64 (nn), .int .u32 ((ge : Nat) : Int)] : List Value).toArray, .string mk] w (fun v w' => v = .tuple #[.agg ([.int .i64 0, .int .i64 0, .int .u32 0, .string ByteArray.empty, .slice none (0) (0)] : List Value).toArray, errE 1] ∧ Kp No w w') := by
  have kk0 := Kp.refl No w
  refine enter (n := 18) [.agg ([.int .i64 (ka), .int .i64 (nn), .int .u32 ((ge : Nat) : Int)] : List Value).toArray, .string mk] Tryd.func34 rfl rfl rfl ?_
  show Cw _ _ _ _ [(0, .agg ([.int .i64 (ka), .int .i64 (nn), .int .u32 ((ge : Nat) : Int)] : List Value).toArray), (1, .string mk)] _
  refine C_seq (fun K1 hK1 => ?_)
  refine C_region ?_
  refine R_lo (lo_box (L := [.int .i64 (ka), .int .i64 (nn), .int .u32 ((ge : Nat) : Int)]) rfl rfl) rfl ?_
  rintro _ w1 ⟨p0_0, rfl, N1⟩
  have k1 := N1.kp
  have kk1 := kk0.then_ k1
  have f_p0_0_1 : Bk w1 p0_0 ([.int .i64 (ka), .int .i64 (nn), .int .u32 ((ge : Nat) : Int)]) 28 := N1.bk
  refine R_lo (lo_alloc (L := [.int .i64 0, .int .i64 0, .int .u32 0, .string ByteArray.empty, .slice none (0) (0)]) (by kernel_rfl)) rfl ?_
  rintro _ w2 ⟨rs, rfl, N2⟩
  have k2 := N2.kp
  have kk2 := kk1.then_ k2
  have ne_rs_p0_0 : rs ≠ p0_0 := Nat.ne_of_gt (Nat.lt_of_lt_of_le f_p0_0_1.lt N2.le)
  have f_rs_2 : Bk w2 rs ([.int .i64 0, .int .i64 0, .int .u32 0, .string ByteArray.empty, .slice none (0) (0)]) 70 := N2.bk
  refine R_pu (pu_assign rfl) rfl ?_
  refine R_nil ?_
  refine X_then hK1 ?_
  refine C_seq (fun K2 hK2 => ?_)
  refine C_region ?_
  have f3 : Bk w2 p0_0 ([.int .i64 (ka), .int .i64 (nn), .int .u32 ((ge : Nat) : Int)]) 28 := (f_p0_0_1.no k2)
  refine R_pu (pu_loadRow (len := 3) f3 (by kernel_rfl) (by kernel_rfl) rfl rfl) rfl ?_
  refine R_pu (pu_move rfl) rfl ?_
  refine R_pu (pu_build (L := [.int .i64 (ka), .int .i64 (nn), .int .u32 ((ge : Nat) : Int), .string mk, .slice none (0) (0)]) rfl (by kernel_rfl)) rfl ?_
  refine R_lo (lo_alloc (L := [.int .i64 0, .int .i64 0, .int .u32 0, .string ByteArray.empty, .slice none (0) (0)]) (by kernel_rfl)) rfl ?_
  rintro _ w3 ⟨p1_3, rfl, N3⟩
  have k3 := N3.kp
  have kk3 := kk2.then_ k3
  have ne_p1_3_p0_0 : p1_3 ≠ p0_0 := Nat.ne_of_gt (Nat.lt_of_lt_of_le f3.lt N3.le)
  have ne_p1_3_rs : p1_3 ≠ rs := Nat.ne_of_gt (Nat.lt_of_lt_of_le f_rs_2.lt N3.le)
  have f_p1_3_3 : Bk w3 p1_3 ([.int .i64 0, .int .i64 0, .int .u32 0, .string ByteArray.empty, .slice none (0) (0)]) 70 := N3.bk
  refine R_lo0 (lo_storeRow (C := [.int .i64 (ka), .int .i64 (nn), .int .u32 ((ge : Nat) : Int), .string mk, .slice none (0) (0)]) f_p1_3_3 (by kernel_rfl) rfl rfl (by intro u hu; simp at hu; rcases hu with rfl | rfl | rfl | rfl | rfl <;> rfl) rfl) ?_
  rintro _ w4 kf4
  obtain ⟨k4, f_p1_3_4⟩ := kf4
  replace f_p1_3_4 : Bk w4 p1_3 ([.int .i64 (ka), .int .i64 (nn), .int .u32 ((ge : Nat) : Int), .string mk, .slice none (0) (0)]) 70 := f_p1_3_4
  have kk4 := kk3.trans k4 (fun i hi => .inr (hi ▸ (Nat.le_trans kk2.size N3.le)))
  refine R_nil ?_
  refine X_then hK2 ?_
  refine C_seq (fun K4 hK4 => ?_)
  refine C_seq (fun K5 hK5 => ?_)
  refine C_region ?_
  refine R_pu (pu_loadRow (len := 5) f_p1_3_4 (by kernel_rfl) (by kernel_rfl) rfl rfl) rfl ?_
  refine R_lo (lo_call (by kernel_rfl) rfl (check_arg ka nn ge mk none ([] : List Shr) 0 _ (Ss.nil _ none) ⟨⟨Nat.zero_le _, by decide⟩, hm⟩)) rfl ?_
  rintro _ w5 ⟨rfl, k5⟩
  have kk5 := kk4.then_ k5
  refine R_pu (pu_assign rfl) rfl ?_
  refine R_nil ?_
  refine X_then hK5 ?_
  refine C_seq (fun K6 hK6 => ?_)
  refine C_region ?_
  refine R_pu (pu_move rfl) rfl ?_
  refine R_pu (pu_neqin (by kernel_rfl) rfl rfl) rfl ?_
  refine R_nil ?_
  refine X_then hK6 ?_
  refine C_true rfl ?_
  refine C_seq (fun K7 hK7 => ?_)
  refine C_region ?_
  refine R_pu (pu_build (L := [.int .i64 0, .int .i64 0, .int .u32 0, .string ByteArray.empty, .slice none (0) (0)]) rfl (by kernel_rfl)) rfl ?_
  refine R_pu (pu_move rfl) rfl ?_
  have f8 : Bk w5 rs ([.int .i64 0, .int .i64 0, .int .u32 0, .string ByteArray.empty, .slice none (0) (0)]) 70 := (((f_rs_2.no k3).on k4 (Ne.symm ne_p1_3_rs)).no k5)
  refine R_lo0 (lo_storeRow (C := [.int .i64 0, .int .i64 0, .int .u32 0, .string ByteArray.empty, .slice none (0) (0)]) f8 (by kernel_rfl) rfl rfl (by intro u hu; simp at hu; rcases hu with rfl | rfl | rfl | rfl | rfl <;> rfl) rfl) ?_
  rintro _ w6 kf6
  obtain ⟨k6, f_rs_6⟩ := kf6
  replace f_rs_6 : Bk w6 rs ([.int .i64 0, .int .i64 0, .int .u32 0, .string ByteArray.empty, .slice none (0) (0)]) 70 := f_rs_6
  have kk6 := kk5.trans k6 (fun i hi => .inr (hi ▸ (Nat.le_trans kk1.size N2.le)))
  refine R_pu (pu_assign rfl) rfl ?_
  refine R_nil ?_
  refine X_then hK7 ?_
  refine C_ret ?_
  refine X_then_ret ?_
  exact X_retCT (len := 5) (.inl rfl) rfl rfl f_rs_6 (by kernel_rfl) (by kernel_rfl) rfl rfl ⟨rfl, kk6⟩
end Go.Proofs.YtjbdimfpjbmggaaDoor
