/- Walks of progress. -/
import Derived.Test.YtjbdimfpjbmggaaDoorPg
import Derived.Test.YtjbdimfpjbmggaaDoorNm
set_option linter.unusedVariables false
set_option linter.unusedSimpArgs false
namespace Go.Proofs.YtjbdimfpjbmggaaDoor
open Go.RowKit Gm
set_option maxRecDepth 100000 in
set_option maxHeartbeats 2000000 in
theorem fits1_ (jx gm : Nat) (A2 : Option Addr) (X2 : List Nat) (c2 : Nat) (p ix gn : Nat) (A1 : Option Addr) (X1 : List Nat) (c1 : Nat) (w : World) (hp : Bk w p ([.int .u8 ((ix : Nat) : Int), .int .u32 ((gn : Nat) : Int), .slice A1 (X1.length) (c1)]) 50) : Ret Tryd.prog 72 #[.agg ([.int .u8 ((jx : Nat) : Int), .int .u32 ((gm : Nat) : Int), .slice A2 (X2.length) (c2)] : List Value).toArray, .pointer (some ⟨p, 0, none⟩)] w (fun v w' => v = .bool (decide (jx = ix)) ∧ Kp No w w') := by
  have kk0 := Kp.refl No w
  refine enter (n := 9) [.agg ([.int .u8 ((jx : Nat) : Int), .int .u32 ((gm : Nat) : Int), .slice A2 (X2.length) (c2)] : List Value).toArray, .pointer (some ⟨p, 0, none⟩)] Tryd.func72 rfl rfl rfl ?_
  show Cw _ _ _ _ [(0, .agg ([.int .u8 ((jx : Nat) : Int), .int .u32 ((gm : Nat) : Int), .slice A2 (X2.length) (c2)] : List Value).toArray), (1, .pointer (some ⟨p, 0, none⟩))] _
  refine C_seq (fun K1 hK1 => ?_)
  refine C_region ?_
  refine R_lo (lo_box (L := [.int .u8 ((jx : Nat) : Int), .int .u32 ((gm : Nat) : Int), .slice A2 (X2.length) (c2)]) rfl rfl) rfl ?_
  rintro _ w1 ⟨p0_0, rfl, N1⟩
  have k1 := N1.kp
  have kk1 := kk0.then_ k1
  have ne_p0_0_p : p0_0 ≠ p := Nat.ne_of_gt (Nat.lt_of_lt_of_le hp.lt N1.le)
  have f_p0_0_1 : Bk w1 p0_0 ([.int .u8 ((jx : Nat) : Int), .int .u32 ((gm : Nat) : Int), .slice A2 (X2.length) (c2)]) 50 := N1.bk
  refine R_pu (pu_assign rfl) rfl ?_
  refine R_nil ?_
  refine X_then hK1 ?_
  refine C_seq (fun K2 hK2 => ?_)
  refine C_region ?_
  refine R_pu (pu_fieldAddr (off := 0) (o' := 0) (by kernel_rfl) rfl rfl) rfl ?_
  refine R_pu (pu_loadK f_p0_0_1 (by kernel_rfl) rfl rfl) rfl ?_
  refine R_pu (pu_fieldAddr (off := 0) (o' := 0) (by kernel_rfl) rfl rfl) rfl ?_
  have f3 : Bk w1 p ([.int .u8 ((ix : Nat) : Int), .int .u32 ((gn : Nat) : Int), .slice A1 (X1.length) (c1)]) 50 := (hp.no k1)
  refine R_pu (pu_loadK f3 (by kernel_rfl) rfl rfl) rfl ?_
  refine R_pu (pu_eql (p := jx = ix) rfl rfl (by omega)) rfl ?_
  refine R_pu (pu_assign rfl) rfl ?_
  refine R_nil ?_
  refine X_then hK2 ?_
  refine C_ret ?_
  exact X_ret1 (.inl rfl) rfl rfl ⟨rfl, kk1⟩
set_option maxRecDepth 100000 in
set_option maxHeartbeats 2000000 in
theorem index_func (A : Option Addr) (M : List Shr) (c : Nat) (p ix gn : Nat) (A1 : Option Addr) (X1 : List Nat) (c1 : Nat) (w : World) (HS : Ss w A M) (hp : Bk w p ([.int .u8 ((ix : Nat) : Int), .int .u32 ((gn : Nat) : Int), .slice A1 (X1.length) (c1)]) 50) (hs : M.length < 9223372036854775808) : Ret Tryd.prog 83 #[.slice A (M.length) (c), .func (.func 72) #[] #[.pointer (some ⟨p, 0, none⟩)]] w (fun v w' => ∃ k : Int, v = .int .i64 k ∧ (0 ≤ k ↔ ix ∈ ixs M) ∧ Kp No w w') := by
  have kk0 := Kp.refl No w
  refine enter (n := 19) [.slice A (M.length) (c), .func (.func 72) #[] #[.pointer (some ⟨p, 0, none⟩)]] Tryd.func83 rfl rfl rfl ?_
  show Cw _ _ _ _ [(0, .slice A (M.length) (c)), (1, .func (.func 72) #[] #[.pointer (some ⟨p, 0, none⟩)])] _
  refine C_seq (fun K1 hK1 => ?_)
  refine C_region ?_
  refine R_pu (pu_assign rfl) rfl ?_
  refine R_nil ?_
  refine X_then hK1 ?_
  refine C_seq (fun K2 hK2 => ?_)
  refine C_seq (fun K3 hK3 => ?_)
  refine C_region ?_
  refine R_pu (pu_move rfl) rfl ?_
  refine R_pu (pu_len Tryd.underlying29 rfl) rfl ?_
  refine R_pu (pu_move rfl) rfl ?_
  refine R_nil ?_
  refine X_then hK3 ?_
  refine C_block ?_
  refine C_loop (fun m_ l_ wr => ∃ i : Nat, (m_ = M.length - i) ∧ (l_ = [(0, .slice A (M.length) (c)), (1, .func (.func 72) #[] #[.pointer (some ⟨p, 0, none⟩)]), (7, .int .i64 ((M.length : Nat) : Int)), (8, .int .i64 ((i : Nat) : Int))]) ∧ (i ≤ M.length) ∧ (ix ∉ (ixs M).take i) ∧ (Kp No w wr) ∧ (Bk wr p ([.int .u8 ((ix : Nat) : Int), .int .u32 ((gn : Nat) : Int), .slice A1 (X1.length) (c1)]) 50)) (M.length - 0) [(0, .slice A (M.length) (c)), (1, .func (.func 72) #[] #[.pointer (some ⟨p, 0, none⟩)]), (7, .int .i64 ((M.length : Nat) : Int)), (8, .int .i64 0)] (Sub.cons rfl (Sub.cons rfl (Sub.cons rfl (Sub.cons rfl (Sub.nil _))))) ⟨0, rfl, rfl, by omega, (by simp), kk0, hp⟩ ?_
  rintro _ _ w1 ⟨i, rfl, rfl, hi, hn, kk1, f_p_1⟩
  refine C_seq (fun K4 hK4 => ?_)
  refine C_region ?_
  refine R_pu (pu_lss (p := i < M.length) rfl rfl (by omega)) rfl ?_
  refine R_nil ?_
  refine X_then hK4 ?_
  refine C_seq (fun K5 hK5 => ?_)
  refine C_dec rfl (fun h9 => ?_) (fun h9 => ?_)
  · refine C_skip ?_
    refine X_then hK5 ?_
    refine C_seq (fun K6 hK6 => ?_)
    refine C_block ?_
    refine C_seq (fun K7 hK7 => ?_)
    refine C_region ?_
    refine R_pu (pu_move rfl) rfl ?_
    refine R_pu (pu_assign rfl) rfl ?_
    refine R_nil ?_
    refine X_then hK7 ?_
    refine C_seq (fun K8 hK8 => ?_)
    refine C_region ?_
    refine R_pu (pu_move rfl) rfl ?_
    refine R_pu (pu_move rfl) rfl ?_
    refine R_pu (pu_move rfl) rfl ?_
    obtain ⟨s1, e_s1⟩ : ∃ q_, (M)[i]? = some q_ := ⟨_, List.getElem?_eq_getElem (by first | omega | (simp; done) | (simp; omega))⟩
    have ok_s1 := HS.get e_s1
    have okb_s1 := ok_s1.bs
    have bi_s1 : s1.ix < 256 := ok_s1.ix
    refine R_pu (pu_indexAddrH (HS.keptNo kk1) Tryd.underlying29 (by kernel_rfl) rfl rfl rfl rfl e_s1) rfl ?_
    refine R_pu (pu_loadHr (HS.keptNo kk1) e_s1 (by kernel_rfl) (by kernel_rfl) rfl) rfl ?_
    refine R_lo (lo_callV (by kernel_rfl) rfl rfl (fits1_ s1.ix s1.gen s1.A s1.X s1.c p ix gn A1 X1 c1 _ f_p_1)) rfl ?_
    rintro _ w2 ⟨rfl, k2⟩
    have kk2 := kk1.then_ k2
    refine R_nil ?_
    refine X_then hK8 ?_
    refine C_dec rfl (fun h16 => ?_) (fun h16 => ?_)
    · refine C_seq (fun K9 hK9 => ?_)
      refine C_region ?_
      refine R_pu (pu_move rfl) rfl ?_
      refine R_pu (pu_assign rfl) rfl ?_
      refine R_nil ?_
      refine X_then hK9 ?_
      refine C_ret ?_
      refine X_in_ret (X_then_ret (X_then_ret (X_in_ret (X_then_ret ?_))))
      exact X_ret1 (.inl rfl) rfl rfl ⟨(i : Int), rfl, ⟨fun _ => ixs_mem_at e_s1 h16, fun _ => by omega⟩, kk2⟩
    · refine C_skip ?_
      refine X_in_normal ?_
      refine X_then hK6 ?_
      refine C_region ?_
      refine R_pu (pu_add (z := ((i + 1 : Nat) : Int)) rfl rfl (by rw [IntKind.wrap_i64]; omega)) rfl ?_
      refine R_pu (pu_move rfl) rfl ?_
      refine R_nil ?_
      have f10 : Bk w2 p ([.int .u8 ((ix : Nat) : Int), .int .u32 ((gn : Nat) : Int), .slice A1 (X1.length) (c1)]) 50 := (f_p_1.no k2)
      refine X_round (M.length - (i + 1)) [(0, .slice A (M.length) (c)), (1, .func (.func 72) #[] #[.pointer (some ⟨p, 0, none⟩)]), (7, .int .i64 ((M.length : Nat) : Int)), (8, .int .i64 (((i + 1) : Nat) : Int))] (by omega) (Sub.cons rfl (Sub.cons rfl (Sub.cons rfl (Sub.cons rfl (Sub.nil _))))) ⟨i + 1, rfl, rfl, by omega, (ixs_mem_step hn e_s1 h16), kk2, f10⟩
  · refine C_exit ?_
    refine X_then_exit (X_then_exit (X_in_eq ?_))
    refine X_then hK2 ?_
    refine C_seq (fun K11 hK11 => ?_)
    refine C_region ?_
    refine R_pu (pu_assign rfl) rfl ?_
    refine R_nil ?_
    refine X_then hK11 ?_
    refine C_ret ?_
    exact X_ret1 (.inl rfl) rfl rfl ⟨-1, rfl, ⟨fun h => by omega, fun h => by rw [List.take_of_length_le (by rw [ixs_length]; omega)] at hn; exact absurd h hn⟩, kk1⟩
set_option maxRecDepth 100000 in
set_option maxHeartbeats 2000000 in
theorem contains_func (A : Option Addr) (M : List Shr) (c : Nat) (p ix gn : Nat) (A1 : Option Addr) (X1 : List Nat) (c1 : Nat) (w : World) (HS : Ss w A M) (hp : Bk w p ([.int .u8 ((ix : Nat) : Int), .int .u32 ((gn : Nat) : Int), .slice A1 (X1.length) (c1)]) 50) (hs : M.length < 9223372036854775808) : Ret Tryd.prog 71 #[.slice A (M.length) (c), .func (.func 72) #[] #[.pointer (some ⟨p, 0, none⟩)]] w (fun v w' => v = .bool (decide (ix ∈ ixs M)) ∧ Kp No w w') := by
  have kk0 := Kp.refl No w
  refine enter (n := 9) [.slice A (M.length) (c), .func (.func 72) #[] #[.pointer (some ⟨p, 0, none⟩)]] Tryd.func71 rfl rfl rfl ?_
  show Cw _ _ _ _ [(0, .slice A (M.length) (c)), (1, .func (.func 72) #[] #[.pointer (some ⟨p, 0, none⟩)])] _
  refine C_seq (fun K1 hK1 => ?_)
  refine C_region ?_
  refine R_pu (pu_assign rfl) rfl ?_
  refine R_nil ?_
  refine X_then hK1 ?_
  refine C_seq (fun K2 hK2 => ?_)
  refine C_region ?_
  refine R_pu (pu_move rfl) rfl ?_
  refine R_pu (pu_move rfl) rfl ?_
  refine R_lo (lo_call (by kernel_rfl) rfl (index_func A M c p ix gn A1 X1 c1 _ HS hp (by omega))) rfl ?_
  rintro _ w1 ⟨ixk, rfl, hixk, k1⟩
  have kk1 := kk0.then_ k1
  refine R_pu (pu_geq (p := ixk ≥ 0) rfl rfl (by omega)) rfl ?_
  refine R_pu (pu_assign rfl) rfl ?_
  refine R_nil ?_
  refine X_then hK2 ?_
  refine C_ret ?_
  exact X_ret1 (.inl rfl) rfl rfl ⟨congrArg Value.bool (decide_eq_decide.2 hixk), kk1⟩
set_option maxRecDepth 100000 in
set_option maxHeartbeats 2000000 in
theorem fits_ok (q nn ge : Nat) (mk : ByteArray) (A0 : Option Addr) (n0 c0 : Nat) (A : Option Addr) (M : List Shr) (c ix gn : Nat) (A1 : Option Addr) (X1 : List Nat) (c1 : Nat) (w : World) (HS : Ss w A M) (hf : (M.length < 9223372036854775808 ∧ ix < 256 ∧ X1.length < 9223372036854775808) ∧ gn = ge ∧ Fit nn M ix X1.length) : Ret Tryd.prog 52 #[.agg ([.int .i64 ((q + 1 : Nat) : Int), .int .i64 ((nn : Nat) : Int), .int .u32 ((ge : Nat) : Int), .string mk, .slice A0 (n0) (c0)] : List Value).toArray, .slice A (M.length) (c), .agg ([.int .u8 ((ix : Nat) : Int), .int .u32 ((gn : Nat) : Int), .slice A1 (X1.length) (c1)] : List Value).toArray] w (fun v w' => v = .nilIface ∧ Kp No w w') := by
  obtain ⟨⟨hs, hix, hxl⟩, hf⟩ := hf
  have kk0 := Kp.refl No w
  refine enter (n := 40) [.agg ([.int .i64 ((q + 1 : Nat) : Int), .int .i64 ((nn : Nat) : Int), .int .u32 ((ge : Nat) : Int), .string mk, .slice A0 (n0) (c0)] : List Value).toArray, .slice A (M.length) (c), .agg ([.int .u8 ((ix : Nat) : Int), .int .u32 ((gn : Nat) : Int), .slice A1 (X1.length) (c1)] : List Value).toArray] Tryd.func52 rfl rfl rfl ?_
  show Cw _ _ _ _ [(0, .agg ([.int .i64 ((q + 1 : Nat) : Int), .int .i64 ((nn : Nat) : Int), .int .u32 ((ge : Nat) : Int), .string mk, .slice A0 (n0) (c0)] : List Value).toArray), (1, .slice A (M.length) (c)), (2, .agg ([.int .u8 ((ix : Nat) : Int), .int .u32 ((gn : Nat) : Int), .slice A1 (X1.length) (c1)] : List Value).toArray)] _
  refine C_seq (fun K1 hK1 => ?_)
  refine C_region ?_
  refine R_lo (lo_box (L := [.int .i64 ((q + 1 : Nat) : Int), .int .i64 ((nn : Nat) : Int), .int .u32 ((ge : Nat) : Int), .string mk, .slice A0 (n0) (c0)]) rfl rfl) rfl ?_
  rintro _ w1 ⟨p0_0, rfl, N1⟩
  have k1 := N1.kp
  have kk1 := kk0.then_ k1
  have f_p0_0_1 : Bk w1 p0_0 ([.int .i64 ((q + 1 : Nat) : Int), .int .i64 ((nn : Nat) : Int), .int .u32 ((ge : Nat) : Int), .string mk, .slice A0 (n0) (c0)]) 70 := N1.bk
  refine R_lo (lo_box (L := [.int .u8 ((ix : Nat) : Int), .int .u32 ((gn : Nat) : Int), .slice A1 (X1.length) (c1)]) rfl rfl) rfl ?_
  rintro _ w2 ⟨sb, rfl, N2⟩
  have k2 := N2.kp
  have kk2 := kk1.then_ k2
  have ne_sb_p0_0 : sb ≠ p0_0 := Nat.ne_of_gt (Nat.lt_of_lt_of_le f_p0_0_1.lt N2.le)
  have f_sb_2 : Bk w2 sb ([.int .u8 ((ix : Nat) : Int), .int .u32 ((gn : Nat) : Int), .slice A1 (X1.length) (c1)]) 50 := N2.bk
  refine R_pu (pu_assign rfl) rfl ?_
  refine R_nil ?_
  refine X_then hK1 ?_
  refine C_seq (fun K2 hK2 => ?_)
  refine C_seq (fun K3 hK3 => ?_)
  refine C_region ?_
  refine R_pu (pu_fieldAddr (off := 1) (o' := 1) (by kernel_rfl) rfl rfl) rfl ?_
  refine R_pu (pu_loadK f_sb_2 (by kernel_rfl) rfl rfl) rfl ?_
  refine R_pu (pu_fieldAddr (off := 0) (o' := 0) (by kernel_rfl) rfl rfl) rfl ?_
  refine R_pu (pu_fieldAddr (off := 2) (o' := 2) (by kernel_rfl) rfl rfl) rfl ?_
  have f4 : Bk w2 p0_0 ([.int .i64 ((q + 1 : Nat) : Int), .int .i64 ((nn : Nat) : Int), .int .u32 ((ge : Nat) : Int), .string mk, .slice A0 (n0) (c0)]) 70 := (f_p0_0_1.no k2)
  refine R_pu (pu_loadK f4 (by kernel_rfl) rfl rfl) rfl ?_
  refine R_pu (pu_neq (p := gn = ge) rfl rfl (by omega)) rfl ?_
  refine R_nil ?_
  refine X_then hK3 ?_
  refine C_decf rfl (fun h => h hf.1) ?_
  refine C_skip ?_
  refine X_then hK2 ?_
  refine C_seq (fun K5 hK5 => ?_)
  refine C_region ?_
  refine R_pu (pu_move rfl) rfl ?_
  refine R_pu (pu_makeFuncC rfl) rfl ?_
  refine R_lo (lo_call (by kernel_rfl) rfl (contains_func A M c sb ix gn A1 X1 c1 _ (HS.keptNo kk2) f_sb_2 (by omega))) rfl ?_
  rintro _ w3 ⟨rfl, k3⟩
  have kk3 := kk2.then_ k3
  refine R_pu (pu_assign rfl) rfl ?_
  refine R_nil ?_
  refine X_then hK5 ?_
  refine C_seq (fun K6 hK6 => ?_)
  refine C_seq (fun K7 hK7 => ?_)
  refine C_region ?_
  refine R_pu (pu_false (pu_move rfl) hf.2.1) rfl ?_
  refine R_pu (pu_move rfl) rfl ?_
  refine R_gpu rfl rfl (pu_fieldAddr (off := 0) (o' := 0) (by kernel_rfl) rfl rfl) rfl ?_
  have f8 : Bk w3 sb ([.int .u8 ((ix : Nat) : Int), .int .u32 ((gn : Nat) : Int), .slice A1 (X1.length) (c1)]) 50 := (f_sb_2.no k3)
  refine R_gpu rfl rfl (pu_loadK f8 (by kernel_rfl) rfl rfl) rfl ?_
  refine R_gpu rfl rfl (pu_false (pu_eql (p := ix = 0) rfl rfl (by omega)) hf.2.2.1) rfl ?_
  refine R_pu (pu_pickf rfl rfl) rfl ?_
  refine R_pu (pu_move rfl) rfl ?_
  refine R_gpu rfl rfl (pu_fieldAddr (off := 0) (o' := 0) (by kernel_rfl) rfl rfl) rfl ?_
  refine R_gpu rfl rfl (pu_loadK f8 (by kernel_rfl) rfl rfl) rfl ?_
  refine R_gpu rfl rfl (pu_conv (z := ((ix : Nat) : Int)) Tryd.underlying5 Tryd.underlying3 rfl (by have : ix < 256 := hix; rw [IntKind.wrap_i64]; omega)) rfl ?_
  refine R_gpu rfl rfl (pu_fieldAddr (off := 0) (o' := 0) (by kernel_rfl) rfl rfl) rfl ?_
  refine R_gpu rfl rfl (pu_fieldAddr (off := 1) (o' := 1) (by kernel_rfl) rfl rfl) rfl ?_
  have f9 : Bk w3 p0_0 ([.int .i64 ((q + 1 : Nat) : Int), .int .i64 ((nn : Nat) : Int), .int .u32 ((ge : Nat) : Int), .string mk, .slice A0 (n0) (c0)]) 70 := (f4.no k3)
  refine R_gpu rfl rfl (pu_loadK f9 (by kernel_rfl) rfl rfl) rfl ?_
  refine R_gpu rfl rfl (pu_false (pu_gtr (p := ix > nn) rfl rfl (by omega)) (by have := hf.2.2.2.1; omega)) rfl ?_
  refine R_pu (pu_pickf rfl rfl) rfl ?_
  refine R_pu (pu_move rfl) rfl ?_
  refine R_gpu rfl rfl (pu_fieldAddr (off := 2) (o' := 2) (by kernel_rfl) rfl rfl) rfl ?_
  refine R_gpu rfl rfl (pu_loadK f8 (by kernel_rfl) rfl rfl) rfl ?_
  refine R_gpu rfl rfl (pu_len Tryd.underlying22 rfl) rfl ?_
  refine R_gpu rfl rfl (pu_false (pu_neq (p := X1.length = 32) rfl rfl (by omega)) (fun h => h hf.2.2.2.2)) rfl ?_
  refine R_pu (pu_pickf rfl rfl) rfl ?_
  refine R_nil ?_
  refine X_then hK7 ?_
  refine C_false rfl ?_
  refine C_skip ?_
  refine X_then hK6 ?_
  refine C_seq (fun K10 hK10 => ?_)
  refine C_region ?_
  refine R_pu (pu_assign rfl) rfl ?_
  refine R_nil ?_
  refine X_then hK10 ?_
  refine C_ret ?_
  exact X_ret1 (.inl rfl) rfl rfl ⟨rfl, kk3⟩
set_option maxRecDepth 100000 in
set_option maxHeartbeats 2000000 in
theorem fits_gen (q nn ge : Nat) (mk : ByteArray) (A0 : Option Addr) (n0 c0 : Nat) (A : Option Addr) (M : List Shr) (c ix gn : Nat) (A1 : Option Addr) (X1 : List Nat) (c1 : Nat) (w : World) (HS : Ss w A M) (hf : (M.length < 9223372036854775808 ∧ ix < 256 ∧ X1.length < 9223372036854775808) ∧ ¬ gn = ge) : Ret Tryd.prog 52 #[.agg ([.int .i64 ((q + 1 : Nat) : Int), .int .i64 ((nn : Nat) : Int), .int .u32 ((ge : Nat) : Int), .string mk, .slice A0 (n0) (c0)] : List Value).toArray, .slice A (M.length) (c), .agg ([.int .u8 ((ix : Nat) : Int), .int .u32 ((gn : Nat) : Int), .slice A1 (X1.length) (c1)] : List Value).toArray] w (fun v w' => v = errE 14 ∧ Kp No w w') := by
  obtain ⟨⟨hs, hix, hxl⟩, hf⟩ := hf
  have kk0 := Kp.refl No w
  refine enter (n := 40) [.agg ([.int .i64 ((q + 1 : Nat) : Int), .int .i64 ((nn : Nat) : Int), .int .u32 ((ge : Nat) : Int), .string mk, .slice A0 (n0) (c0)] : List Value).toArray, .slice A (M.length) (c), .agg ([.int .u8 ((ix : Nat) : Int), .int .u32 ((gn : Nat) : Int), .slice A1 (X1.length) (c1)] : List Value).toArray] Tryd.func52 rfl rfl rfl ?_
  show Cw _ _ _ _ [(0, .agg ([.int .i64 ((q + 1 : Nat) : Int), .int .i64 ((nn : Nat) : Int), .int .u32 ((ge : Nat) : Int), .string mk, .slice A0 (n0) (c0)] : List Value).toArray), (1, .slice A (M.length) (c)), (2, .agg ([.int .u8 ((ix : Nat) : Int), .int .u32 ((gn : Nat) : Int), .slice A1 (X1.length) (c1)] : List Value).toArray)] _
  refine C_seq (fun K1 hK1 => ?_)
  refine C_region ?_
  refine R_lo (lo_box (L := [.int .i64 ((q + 1 : Nat) : Int), .int .i64 ((nn : Nat) : Int), .int .u32 ((ge : Nat) : Int), .string mk, .slice A0 (n0) (c0)]) rfl rfl) rfl ?_
  rintro _ w1 ⟨p0_0, rfl, N1⟩
  have k1 := N1.kp
  have kk1 := kk0.then_ k1
  have f_p0_0_1 : Bk w1 p0_0 ([.int .i64 ((q + 1 : Nat) : Int), .int .i64 ((nn : Nat) : Int), .int .u32 ((ge : Nat) : Int), .string mk, .slice A0 (n0) (c0)]) 70 := N1.bk
  refine R_lo (lo_box (L := [.int .u8 ((ix : Nat) : Int), .int .u32 ((gn : Nat) : Int), .slice A1 (X1.length) (c1)]) rfl rfl) rfl ?_
  rintro _ w2 ⟨sb, rfl, N2⟩
  have k2 := N2.kp
  have kk2 := kk1.then_ k2
  have ne_sb_p0_0 : sb ≠ p0_0 := Nat.ne_of_gt (Nat.lt_of_lt_of_le f_p0_0_1.lt N2.le)
  have f_sb_2 : Bk w2 sb ([.int .u8 ((ix : Nat) : Int), .int .u32 ((gn : Nat) : Int), .slice A1 (X1.length) (c1)]) 50 := N2.bk
  refine R_pu (pu_assign rfl) rfl ?_
  refine R_nil ?_
  refine X_then hK1 ?_
  refine C_seq (fun K2 hK2 => ?_)
  refine C_seq (fun K3 hK3 => ?_)
  refine C_region ?_
  refine R_pu (pu_fieldAddr (off := 1) (o' := 1) (by kernel_rfl) rfl rfl) rfl ?_
  refine R_pu (pu_loadK f_sb_2 (by kernel_rfl) rfl rfl) rfl ?_
  refine R_pu (pu_fieldAddr (off := 0) (o' := 0) (by kernel_rfl) rfl rfl) rfl ?_
  refine R_pu (pu_fieldAddr (off := 2) (o' := 2) (by kernel_rfl) rfl rfl) rfl ?_
  have f4 : Bk w2 p0_0 ([.int .i64 ((q + 1 : Nat) : Int), .int .i64 ((nn : Nat) : Int), .int .u32 ((ge : Nat) : Int), .string mk, .slice A0 (n0) (c0)]) 70 := (f_p0_0_1.no k2)
  refine R_pu (pu_loadK f4 (by kernel_rfl) rfl rfl) rfl ?_
  refine R_pu (pu_neq (p := gn = ge) rfl rfl (by omega)) rfl ?_
  refine R_nil ?_
  refine X_then hK3 ?_
  refine C_dect rfl hf ?_
  refine C_seq (fun K5 hK5 => ?_)
  refine C_region ?_
  refine R_pu (pu_makeInterface Tryd.underlying91 rfl rfl) rfl ?_
  refine R_pu (pu_assign rfl) rfl ?_
  refine R_nil ?_
  refine X_then hK5 ?_
  refine C_ret ?_
  refine X_then_ret ?_
  exact X_ret1 (.inl rfl) rfl rfl ⟨rfl, kk2⟩
set_option maxRecDepth 100000 in
set_option maxHeartbeats 2000000 in
theorem fits_share (q nn ge : Nat) (mk : ByteArray) (A0 : Option Addr) (n0 c0 : Nat) (A : Option Addr) (M : List Shr) (c ix gn : Nat) (A1 : Option Addr) (X1 : List Nat) (c1 : Nat) (w : World) (HS : Ss w A M) (hf : (M.length < 9223372036854775808 ∧ ix < 256 ∧ X1.length < 9223372036854775808) ∧ gn = ge ∧ ¬ Fit nn M ix X1.length) : Ret Tryd.prog 52 #[.agg ([.int .i64 ((q + 1 : Nat) : Int), .int .i64 ((nn : Nat) : Int), .int .u32 ((ge : Nat) : Int), .string mk, .slice A0 (n0) (c0)] : List Value).toArray, .slice A (M.length) (c), .agg ([.int .u8 ((ix : Nat) : Int), .int .u32 ((gn : Nat) : Int), .slice A1 (X1.length) (c1)] : List Value).toArray] w (fun v w' => v = errE 12 ∧ Kp No w w') := by
  obtain ⟨⟨hs, hix, hxl⟩, hf⟩ := hf
  have kk0 := Kp.refl No w
  refine enter (n := 40) [.agg ([.int .i64 ((q + 1 : Nat) : Int), .int .i64 ((nn : Nat) : Int), .int .u32 ((ge : Nat) : Int), .string mk, .slice A0 (n0) (c0)] : List Value).toArray, .slice A (M.length) (c), .agg ([.int .u8 ((ix : Nat) : Int), .int .u32 ((gn : Nat) : Int), .slice A1 (X1.length) (c1)] : List Value).toArray] Tryd.func52 rfl rfl rfl ?_
  show Cw _ _ _ _ [(0, .agg ([.int .i64 ((q + 1 : Nat) : Int), .int .i64 ((nn : Nat) : Int), .int .u32 ((ge : Nat) : Int), .string mk, .slice A0 (n0) (c0)] : List Value).toArray), (1, .slice A (M.length) (c)), (2, .agg ([.int .u8 ((ix : Nat) : Int), .int .u32 ((gn : Nat) : Int), .slice A1 (X1.length) (c1)] : List Value).toArray)] _
  refine C_seq (fun K1 hK1 => ?_)
  refine C_region ?_
  refine R_lo (lo_box (L := [.int .i64 ((q + 1 : Nat) : Int), .int .i64 ((nn : Nat) : Int), .int .u32 ((ge : Nat) : Int), .string mk, .slice A0 (n0) (c0)]) rfl rfl) rfl ?_
  rintro _ w1 ⟨p0_0, rfl, N1⟩
  have k1 := N1.kp
  have kk1 := kk0.then_ k1
  have f_p0_0_1 : Bk w1 p0_0 ([.int .i64 ((q + 1 : Nat) : Int), .int .i64 ((nn : Nat) : Int), .int .u32 ((ge : Nat) : Int), .string mk, .slice A0 (n0) (c0)]) 70 := N1.bk
  refine R_lo (lo_box (L := [.int .u8 ((ix : Nat) : Int), .int .u32 ((gn : Nat) : Int), .slice A1 (X1.length) (c1)]) rfl rfl) rfl ?_
  rintro _ w2 ⟨sb, rfl, N2⟩
  have k2 := N2.kp
  have kk2 := kk1.then_ k2
  have ne_sb_p0_0 : sb ≠ p0_0 := Nat.ne_of_gt (Nat.lt_of_lt_of_le f_p0_0_1.lt N2.le)
  have f_sb_2 : Bk w2 sb ([.int .u8 ((ix : Nat) : Int), .int .u32 ((gn : Nat) : Int), .slice A1 (X1.length) (c1)]) 50 := N2.bk
  refine R_pu (pu_assign rfl) rfl ?_
  refine R_nil ?_
  refine X_then hK1 ?_
  refine C_seq (fun K2 hK2 => ?_)
  refine C_seq (fun K3 hK3 => ?_)
  refine C_region ?_
  refine R_pu (pu_fieldAddr (off := 1) (o' := 1) (by kernel_rfl) rfl rfl) rfl ?_
  refine R_pu (pu_loadK f_sb_2 (by kernel_rfl) rfl rfl) rfl ?_
  refine R_pu (pu_fieldAddr (off := 0) (o' := 0) (by kernel_rfl) rfl rfl) rfl ?_
  refine R_pu (pu_fieldAddr (off := 2) (o' := 2) (by kernel_rfl) rfl rfl) rfl ?_
  have f4 : Bk w2 p0_0 ([.int .i64 ((q + 1 : Nat) : Int), .int .i64 ((nn : Nat) : Int), .int .u32 ((ge : Nat) : Int), .string mk, .slice A0 (n0) (c0)]) 70 := (f_p0_0_1.no k2)
  refine R_pu (pu_loadK f4 (by kernel_rfl) rfl rfl) rfl ?_
  refine R_pu (pu_neq (p := gn = ge) rfl rfl (by omega)) rfl ?_
  refine R_nil ?_
  refine X_then hK3 ?_
  refine C_decf rfl (fun h => h hf.1) ?_
  refine C_skip ?_
  refine X_then hK2 ?_
  refine C_seq (fun K5 hK5 => ?_)
  refine C_region ?_
  refine R_pu (pu_move rfl) rfl ?_
  refine R_pu (pu_makeFuncC rfl) rfl ?_
  refine R_lo (lo_call (by kernel_rfl) rfl (contains_func A M c sb ix gn A1 X1 c1 _ (HS.keptNo kk2) f_sb_2 (by omega))) rfl ?_
  rintro _ w3 ⟨rfl, k3⟩
  have kk3 := kk2.then_ k3
  refine R_pu (pu_assign rfl) rfl ?_
  refine R_nil ?_
  refine X_then hK5 ?_
  refine C_seq (fun K6 hK6 => ?_)
  refine C_seq (fun K7 hK7 => ?_)
  refine C_region ?_
  refine R_pu (pu_move rfl) rfl ?_
  by_cases g4_1 : ix ∈ ixs M
  · refine R_pu (pu_true (pu_move rfl) g4_1) rfl ?_
    refine R_gno rfl rfl rfl rfl ?_
    refine R_gno rfl rfl rfl rfl ?_
    refine R_gno rfl rfl rfl rfl ?_
    refine R_pu (pu_pickt rfl rfl) rfl ?_
    refine R_pu (pu_move rfl) rfl ?_
    refine R_gno rfl rfl rfl rfl ?_
    refine R_gno rfl rfl rfl rfl ?_
    refine R_gno rfl rfl rfl rfl ?_
    refine R_gno rfl rfl rfl rfl ?_
    refine R_gno rfl rfl rfl rfl ?_
    refine R_gno rfl rfl rfl rfl ?_
    refine R_gno rfl rfl rfl rfl ?_
    refine R_pu (pu_pickt rfl rfl) rfl ?_
    refine R_pu (pu_move rfl) rfl ?_
    refine R_gno rfl rfl rfl rfl ?_
    refine R_gno rfl rfl rfl rfl ?_
    refine R_gno rfl rfl rfl rfl ?_
    refine R_gno rfl rfl rfl rfl ?_
    refine R_pu (pu_pickt rfl rfl) rfl ?_
    refine R_nil ?_
    refine X_then hK7 ?_
    refine C_true rfl ?_
    refine C_seq (fun K8 hK8 => ?_)
    refine C_region ?_
    refine R_pu (pu_makeInterface Tryd.underlying91 rfl rfl) rfl ?_
    refine R_pu (pu_assign rfl) rfl ?_
    refine R_nil ?_
    refine X_then hK8 ?_
    refine C_ret ?_
    refine X_then_ret ?_
    exact X_ret1 (.inl rfl) rfl rfl ⟨rfl, kk3⟩
  · refine R_pu (pu_false (pu_move rfl) g4_1) rfl ?_
    refine R_gpu rfl rfl (pu_fieldAddr (off := 0) (o' := 0) (by kernel_rfl) rfl rfl) rfl ?_
    have f9 : Bk w3 sb ([.int .u8 ((ix : Nat) : Int), .int .u32 ((gn : Nat) : Int), .slice A1 (X1.length) (c1)]) 50 := (f_sb_2.no k3)
    refine R_gpu rfl rfl (pu_loadK f9 (by kernel_rfl) rfl rfl) rfl ?_
    refine R_gpu rfl rfl (pu_eql (p := ix = 0) rfl rfl (by omega)) rfl ?_
    refine R_pu (pu_pickf rfl rfl) rfl ?_
    by_cases g4_6 : ix = 0
    · refine R_pu (pu_true (pu_move rfl) g4_6) rfl ?_
      refine R_gno rfl rfl rfl rfl ?_
      refine R_gno rfl rfl rfl rfl ?_
      refine R_gno rfl rfl rfl rfl ?_
      refine R_gno rfl rfl rfl rfl ?_
      refine R_gno rfl rfl rfl rfl ?_
      refine R_gno rfl rfl rfl rfl ?_
      refine R_gno rfl rfl rfl rfl ?_
      refine R_pu (pu_pickt rfl rfl) rfl ?_
      refine R_pu (pu_move rfl) rfl ?_
      refine R_gno rfl rfl rfl rfl ?_
      refine R_gno rfl rfl rfl rfl ?_
      refine R_gno rfl rfl rfl rfl ?_
      refine R_gno rfl rfl rfl rfl ?_
      refine R_pu (pu_pickt rfl rfl) rfl ?_
      refine R_nil ?_
      refine X_then hK7 ?_
      refine C_true rfl ?_
      refine C_seq (fun K10 hK10 => ?_)
      refine C_region ?_
      refine R_pu (pu_makeInterface Tryd.underlying91 rfl rfl) rfl ?_
      refine R_pu (pu_assign rfl) rfl ?_
      refine R_nil ?_
      refine X_then hK10 ?_
      refine C_ret ?_
      refine X_then_ret ?_
      exact X_ret1 (.inl rfl) rfl rfl ⟨rfl, kk3⟩
    · refine R_pu (pu_false (pu_move rfl) g4_6) rfl ?_
      refine R_gpu rfl rfl (pu_fieldAddr (off := 0) (o' := 0) (by kernel_rfl) rfl rfl) rfl ?_
      refine R_gpu rfl rfl (pu_loadK f9 (by kernel_rfl) rfl rfl) rfl ?_
      refine R_gpu rfl rfl (pu_conv (z := ((ix : Nat) : Int)) Tryd.underlying5 Tryd.underlying3 rfl (by have : ix < 256 := hix; rw [IntKind.wrap_i64]; omega)) rfl ?_
      refine R_gpu rfl rfl (pu_fieldAddr (off := 0) (o' := 0) (by kernel_rfl) rfl rfl) rfl ?_
      refine R_gpu rfl rfl (pu_fieldAddr (off := 1) (o' := 1) (by kernel_rfl) rfl rfl) rfl ?_
      have f11 : Bk w3 p0_0 ([.int .i64 ((q + 1 : Nat) : Int), .int .i64 ((nn : Nat) : Int), .int .u32 ((ge : Nat) : Int), .string mk, .slice A0 (n0) (c0)]) 70 := (f4.no k3)
      refine R_gpu rfl rfl (pu_loadK f11 (by kernel_rfl) rfl rfl) rfl ?_
      refine R_gpu rfl rfl (pu_gtr (p := ix > nn) rfl rfl (by omega)) rfl ?_
      refine R_pu (pu_pickf rfl rfl) rfl ?_
      by_cases g4_15 : ix > nn
      · refine R_pu (pu_true (pu_move rfl) g4_15) rfl ?_
        refine R_gno rfl rfl rfl rfl ?_
        refine R_gno rfl rfl rfl rfl ?_
        refine R_gno rfl rfl rfl rfl ?_
        refine R_gno rfl rfl rfl rfl ?_
        refine R_pu (pu_pickt rfl rfl) rfl ?_
        refine R_nil ?_
        refine X_then hK7 ?_
        refine C_true rfl ?_
        refine C_seq (fun K12 hK12 => ?_)
        refine C_region ?_
        refine R_pu (pu_makeInterface Tryd.underlying91 rfl rfl) rfl ?_
        refine R_pu (pu_assign rfl) rfl ?_
        refine R_nil ?_
        refine X_then hK12 ?_
        refine C_ret ?_
        refine X_then_ret ?_
        exact X_ret1 (.inl rfl) rfl rfl ⟨rfl, kk3⟩
      · refine R_pu (pu_false (pu_move rfl) g4_15) rfl ?_
        refine R_gpu rfl rfl (pu_fieldAddr (off := 2) (o' := 2) (by kernel_rfl) rfl rfl) rfl ?_
        refine R_gpu rfl rfl (pu_loadK f9 (by kernel_rfl) rfl rfl) rfl ?_
        refine R_gpu rfl rfl (pu_len Tryd.underlying22 rfl) rfl ?_
        refine R_gpu rfl rfl (pu_neq (p := X1.length = 32) rfl rfl (by omega)) rfl ?_
        refine R_pu (pu_pickf rfl rfl) rfl ?_
        refine R_nil ?_
        refine X_then hK7 ?_
        refine C_dect rfl (fun h => hf.2 ⟨by assumption, by assumption, by omega, h⟩) ?_
        refine C_seq (fun K13 hK13 => ?_)
        refine C_region ?_
        refine R_pu (pu_makeInterface Tryd.underlying91 rfl rfl) rfl ?_
        refine R_pu (pu_assign rfl) rfl ?_
        refine R_nil ?_
        refine X_then hK13 ?_
        refine C_ret ?_
        refine X_then_ret ?_
        exact X_ret1 (.inl rfl) rfl rfl ⟨rfl, kk3⟩
set_option maxRecDepth 100000 in
set_option maxHeartbeats 2000000 in
theorem clone_ (A : Option Addr) (l : List Nat) (c : Nat) (w : World) (HB : Bs w A l) (hl : (0 < l.length ∧ l.length < 1000000) ∧ l.length ≤ c) : Ret Tryd.prog 73 #[.slice A (l.length) (c)] w (fun v w' => ∃ A' c', v = .slice A' l.length c' ∧ Ob w' w.heap.size (.slice A' l.length c') l ∧ Kp No w w') := by
  obtain ⟨⟨hl0, hl1⟩, hc⟩ := hl
  have hAs := HB.some hl0
  have kk0 := Kp.refl No w
  refine enter (n := 8) [.slice A (l.length) (c)] Tryd.func73 rfl rfl rfl ?_
  show Cw _ _ _ _ [(0, .slice A (l.length) (c))] _
  refine C_seq (fun K1 hK1 => ?_)
  refine C_region ?_
  refine R_pu (pu_assign rfl) rfl ?_
  refine R_nil ?_
  refine X_then hK1 ?_
  refine C_seq (fun K2 hK2 => ?_)
  refine C_seq (fun K3 hK3 => ?_)
  refine C_region ?_
  refine R_pu (pu_move rfl) rfl ?_
  refine R_pu (pu_eqlSN hAs Tryd.underlying22 rfl rfl) rfl ?_
  refine R_nil ?_
  refine X_then hK3 ?_
  refine C_false rfl ?_
  refine C_skip ?_
  refine X_then hK2 ?_
  refine C_seq (fun K4 hK4 => ?_)
  refine C_region ?_
  refine R_lo (lo_buildSlice0 (sz := 1) Tryd.underlying22 (by kernel_rfl)) rfl ?_
  rintro _ w1 ⟨e0, rfl, N1⟩
  have k1 := N1.kp
  have kk1 := kk0.then_ k1
  have f_e0_1 : Bk w1 e0 (u8s ([] : List Nat)) 5 := N1.bk
  refine R_pu (pu_move rfl) rfl ?_
  have ob5 : Ob w1 w.heap.size (.slice (some ⟨e0, 0, none⟩) ([] : List Nat).length 0) [] := Ob.low0 (t := 0) f_e0_1 N1.le
  have z6 := N1.kp.size
  refine R_lo (lo_app (X := ([] : List Nat)) (Y := l) ob5 ob5.le.1 rfl rfl rfl (HB.keptNo kk1) (by simp; omega) z6) rfl ?_
  rintro _ w2 ⟨A_2, c_2, rfl, p2⟩
  have k2 := p2.kp
  have kk2 := kk1.trans k2 (fun i hi => .inr (Nat.le_trans (kk0).size hi))
  refine R_pu (pu_assign rfl) rfl ?_
  refine R_nil ?_
  refine X_then hK4 ?_
  refine C_ret ?_
  exact X_ret1 (.inl rfl) rfl rfl ⟨_, _, rfl, p2.ob.low ((kk0).size), kk2⟩
set_option maxRecDepth 100000 in
set_option maxHeartbeats 2000000 in
theorem copied_ (ix gn : Nat) (A : Option Addr) (l : List Nat) (c : Nat) (w : World) (HB : Bs w A l) (hc : l.length ≤ c) (hl : 0 < l.length ∧ l.length < 1000000) : Ret Tryd.prog 53 #[.agg ([.int .u8 ((ix : Nat) : Int), .int .u32 ((gn : Nat) : Int), .slice A (l.length) (c)] : List Value).toArray] w (fun v w' => ∃ A' c', v = .agg (shC ⟨ix, gn, A', l, c'⟩).toArray ∧ Ob w' w.heap.size (.slice A' l.length c') l ∧ Kp No w w') := by
  have kk0 := Kp.refl No w
  refine enter (n := 8) [.agg ([.int .u8 ((ix : Nat) : Int), .int .u32 ((gn : Nat) : Int), .slice A (l.length) (c)] : List Value).toArray] Tryd.func53 rfl rfl rfl ?_
  show Cw _ _ _ _ [(0, .agg ([.int .u8 ((ix : Nat) : Int), .int .u32 ((gn : Nat) : Int), .slice A (l.length) (c)] : List Value).toArray)] _
  refine C_seq (fun K1 hK1 => ?_)
  refine C_region ?_
  refine R_lo (lo_box (L := [.int .u8 ((ix : Nat) : Int), .int .u32 ((gn : Nat) : Int), .slice A (l.length) (c)]) rfl rfl) rfl ?_
  rintro _ w1 ⟨sb, rfl, N1⟩
  have k1 := N1.kp
  have kk1 := kk0.then_ k1
  have f_sb_1 : Bk w1 sb ([.int .u8 ((ix : Nat) : Int), .int .u32 ((gn : Nat) : Int), .slice A (l.length) (c)]) 50 := N1.bk
  refine R_lo (lo_alloc (L := [.int .u8 0, .int .u32 0, .slice none (0) (0)]) (by kernel_rfl)) rfl ?_
  rintro _ w2 ⟨rs, rfl, N2⟩
  have k2 := N2.kp
  have kk2 := kk1.then_ k2
  have ne_rs_sb : rs ≠ sb := Nat.ne_of_gt (Nat.lt_of_lt_of_le f_sb_1.lt N2.le)
  have f_rs_2 : Bk w2 rs ([.int .u8 0, .int .u32 0, .slice none (0) (0)]) 50 := N2.bk
  refine R_nil ?_
  refine X_then hK1 ?_
  refine C_seq (fun K2 hK2 => ?_)
  refine C_region ?_
  refine R_pu (pu_fieldAddr (off := 2) (o' := 2) (by kernel_rfl) rfl rfl) rfl ?_
  have f3 : Bk w2 sb ([.int .u8 ((ix : Nat) : Int), .int .u32 ((gn : Nat) : Int), .slice A (l.length) (c)]) 50 := (f_sb_1.no k2)
  refine R_pu (pu_loadK f3 (by kernel_rfl) rfl rfl) rfl ?_
  refine R_lo (lo_call (by kernel_rfl) rfl (clone_ A l c _ (HB.keptNo kk2) ⟨hl, hc⟩)) rfl ?_
  rintro _ w3 ⟨A_cl1, c_cl1, rfl, Q3, k3⟩
  have kk3 := kk2.then_ k3
  have z4 : w2.heap.size ≤ w3.heap.size := k3.size
  refine R_pu (pu_fieldAddr (off := 2) (o' := 2) (by kernel_rfl) rfl rfl) rfl ?_
  have f5 : Bk w3 sb ([.int .u8 ((ix : Nat) : Int), .int .u32 ((gn : Nat) : Int), .slice A (l.length) (c)]) 50 := (f3.no k3)
  refine R_lo0 (lo_store f5 (by kernel_rfl) rfl rfl rfl (show 2 < 3 by decide)) ?_
  rintro _ w4 kf4
  obtain ⟨k4, f_sb_4⟩ := kf4
  replace f_sb_4 : Bk w4 sb ([.int .u8 ((ix : Nat) : Int), .int .u32 ((gn : Nat) : Int), .slice A_cl1 ((l).length) (c_cl1)]) 50 := f_sb_4
  have kk4 := kk3.trans k4 (fun i hi => .inr (hi ▸ (Nat.le_trans kk0.size N1.le)))
  refine R_nil ?_
  refine X_then hK2 ?_
  refine C_seq (fun K6 hK6 => ?_)
  refine C_region ?_
  refine R_pu (pu_loadRow (len := 3) f_sb_4 (by kernel_rfl) (by kernel_rfl) rfl rfl) rfl ?_
  have f7 : Bk w4 rs ([.int .u8 0, .int .u32 0, .slice none (0) (0)]) 50 := ((f_rs_2.no k3).on k4 ne_rs_sb)
  refine R_lo0 (lo_storeRow (C := [.int .u8 ((ix : Nat) : Int), .int .u32 ((gn : Nat) : Int), .slice A_cl1 ((l).length) (c_cl1)]) f7 (by kernel_rfl) rfl rfl (by intro u hu; simp at hu; rcases hu with rfl | rfl | rfl <;> rfl) rfl) ?_
  rintro _ w5 kf5
  obtain ⟨k5, f_rs_5⟩ := kf5
  replace f_rs_5 : Bk w5 rs ([.int .u8 ((ix : Nat) : Int), .int .u32 ((gn : Nat) : Int), .slice A_cl1 ((l).length) (c_cl1)]) 50 := f_rs_5
  have kk5 := kk4.trans k5 (fun i hi => .inr (hi ▸ (Nat.le_trans kk1.size N2.le)))
  refine R_nil ?_
  refine X_then hK6 ?_
  refine C_ret ?_
  have ob8 := ((Q3.on k4 (by have := f3.lt; omega)).on k5 (by have := f_rs_2.lt; omega))
  exact X_retRow (len := 3) (.inl rfl) rfl rfl f_rs_5 (by kernel_rfl) (by kernel_rfl) rfl ⟨_, _, rfl, ob8.low ((kk2).size), kk5⟩
set_option maxRecDepth 100000 in
set_option maxHeartbeats 2000000 in
theorem reset_ (q nn ge : Nat) (mk : ByteArray) (A0 : Option Addr) (n0 c0 : Nat) (w : World)  : Ret Tryd.prog 36 #[.agg ([.int .i64 ((q + 1 : Nat) : Int), .int .i64 ((nn : Nat) : Int), .int .u32 ((ge : Nat) : Int), .string mk, .slice A0 (n0) (c0)] : List Value).toArray] w (fun v w' => v = .agg ([.int .i64 ((q + 1 : Nat) : Int), .int .i64 ((nn : Nat) : Int), .int .u32 ((ge : Nat) : Int), .string mk, .slice none (0) (0)] : List Value).toArray ∧ Kp No w w') := by
  have kk0 := Kp.refl No w
  refine enter (n := 8) [.agg ([.int .i64 ((q + 1 : Nat) : Int), .int .i64 ((nn : Nat) : Int), .int .u32 ((ge : Nat) : Int), .string mk, .slice A0 (n0) (c0)] : List Value).toArray] Tryd.func36 rfl rfl rfl ?_
  show Cw _ _ _ _ [(0, .agg ([.int .i64 ((q + 1 : Nat) : Int), .int .i64 ((nn : Nat) : Int), .int .u32 ((ge : Nat) : Int), .string mk, .slice A0 (n0) (c0)] : List Value).toArray)] _
  refine C_seq (fun K1 hK1 => ?_)
  refine C_region ?_
  refine R_lo (lo_box (L := [.int .i64 ((q + 1 : Nat) : Int), .int .i64 ((nn : Nat) : Int), .int .u32 ((ge : Nat) : Int), .string mk, .slice A0 (n0) (c0)]) rfl rfl) rfl ?_
  rintro _ w1 ⟨p0_0, rfl, N1⟩
  have k1 := N1.kp
  have kk1 := kk0.then_ k1
  have f_p0_0_1 : Bk w1 p0_0 ([.int .i64 ((q + 1 : Nat) : Int), .int .i64 ((nn : Nat) : Int), .int .u32 ((ge : Nat) : Int), .string mk, .slice A0 (n0) (c0)]) 70 := N1.bk
  refine R_lo (lo_alloc (L := [.int .i64 0, .int .i64 0, .int .u32 0, .string ByteArray.empty, .slice none (0) (0)]) (by kernel_rfl)) rfl ?_
  rintro _ w2 ⟨rs, rfl, N2⟩
  have k2 := N2.kp
  have kk2 := kk1.then_ k2
  have ne_rs_p0_0 : rs ≠ p0_0 := Nat.ne_of_gt (Nat.lt_of_lt_of_le f_p0_0_1.lt N2.le)
  have f_rs_2 : Bk w2 rs ([.int .i64 0, .int .i64 0, .int .u32 0, .string ByteArray.empty, .slice none (0) (0)]) 70 := N2.bk
  refine R_nil ?_
  refine X_then hK1 ?_
  refine C_seq (fun K2 hK2 => ?_)
  refine C_region ?_
  refine R_pu (pu_fieldAddr (off := 0) (o' := 0) (by kernel_rfl) rfl rfl) rfl ?_
  have f3 : Bk w2 p0_0 ([.int .i64 ((q + 1 : Nat) : Int), .int .i64 ((nn : Nat) : Int), .int .u32 ((ge : Nat) : Int), .string mk, .slice A0 (n0) (c0)]) 70 := (f_p0_0_1.no k2)
  refine R_pu (pu_loadMid (len := 3) (C := [.int .i64 ((q + 1 : Nat) : Int), .int .i64 ((nn : Nat) : Int), .int .u32 ((ge : Nat) : Int)]) f3 (by kernel_rfl) (by kernel_rfl) rfl rfl rfl) rfl ?_
  refine R_pu (pu_fieldAddr (off := 3) (o' := 3) (by kernel_rfl) rfl rfl) rfl ?_
  refine R_pu (pu_loadK f3 (by kernel_rfl) rfl rfl) rfl ?_
  refine R_pu (pu_build (L := [.int .i64 ((q + 1 : Nat) : Int), .int .i64 ((nn : Nat) : Int), .int .u32 ((ge : Nat) : Int), .string mk, .slice none (0) (0)]) rfl (by kernel_rfl)) rfl ?_
  refine R_lo0 (lo_storeRow (C := [.int .i64 ((q + 1 : Nat) : Int), .int .i64 ((nn : Nat) : Int), .int .u32 ((ge : Nat) : Int), .string mk, .slice none (0) (0)]) f_rs_2 (by kernel_rfl) rfl rfl (by intro u hu; simp at hu; rcases hu with rfl | rfl | rfl | rfl | rfl <;> rfl) rfl) ?_
  rintro _ w3 kf3
  obtain ⟨k3, f_rs_3⟩ := kf3
  replace f_rs_3 : Bk w3 rs ([.int .i64 ((q + 1 : Nat) : Int), .int .i64 ((nn : Nat) : Int), .int .u32 ((ge : Nat) : Int), .string mk, .slice none (0) (0)]) 70 := f_rs_3
  have kk3 := kk2.trans k3 (fun i hi => .inr (hi ▸ (Nat.le_trans kk1.size N2.le)))
  refine R_nil ?_
  refine X_then hK2 ?_
  refine C_ret ?_
  exact X_retRow (len := 5) (.inl rfl) rfl rfl f_rs_3 (by kernel_rfl) (by kernel_rfl) rfl ⟨rfl, kk3⟩
set_option maxRecDepth 100000 in
set_option maxHeartbeats 2000000 in
theorem check_ok (q nn ge : Nat) (mk : ByteArray) (A : Option Addr) (L : List Shr) (c : Nat) (w : World) (HS : Ss w A L) (hC : ((2 ≤ q + 1 ∧ q + 1 ≤ nn ∧ nn ≤ 255) ∧ mk.size ≤ 16 ∧ L.length ≤ q + 1 ∧ L.length ≤ c) ∧ Came nn ge L) : Ret Tryd.prog 39 #[.agg ([.int .i64 ((q + 1 : Nat) : Int), .int .i64 ((nn : Nat) : Int), .int .u32 ((ge : Nat) : Int), .string mk, .slice A (L.length) (c)] : List Value).toArray] w (fun v w' => v = .nilIface ∧ Kp No w w') := by
  obtain ⟨⟨hP, hmk, hl, hc⟩, hC⟩ := hC
  have kk0 := Kp.refl No w
  refine enter (n := 43) [.agg ([.int .i64 ((q + 1 : Nat) : Int), .int .i64 ((nn : Nat) : Int), .int .u32 ((ge : Nat) : Int), .string mk, .slice A (L.length) (c)] : List Value).toArray] Tryd.func39 rfl rfl rfl ?_
  show Cw _ _ _ _ [(0, .agg ([.int .i64 ((q + 1 : Nat) : Int), .int .i64 ((nn : Nat) : Int), .int .u32 ((ge : Nat) : Int), .string mk, .slice A (L.length) (c)] : List Value).toArray)] _
  refine C_seq (fun K1 hK1 => ?_)
  refine C_region ?_
  refine R_lo (lo_box (L := [.int .i64 ((q + 1 : Nat) : Int), .int .i64 ((nn : Nat) : Int), .int .u32 ((ge : Nat) : Int), .string mk, .slice A (L.length) (c)]) rfl rfl) rfl ?_
  rintro _ w1 ⟨p0_0, rfl, N1⟩
  have k1 := N1.kp
  have kk1 := kk0.then_ k1
  have f_p0_0_1 : Bk w1 p0_0 ([.int .i64 ((q + 1 : Nat) : Int), .int .i64 ((nn : Nat) : Int), .int .u32 ((ge : Nat) : Int), .string mk, .slice A (L.length) (c)]) 70 := N1.bk
  refine R_pu (pu_assign rfl) rfl ?_
  refine R_nil ?_
  refine X_then hK1 ?_
  refine C_seq (fun K2 hK2 => ?_)
  refine C_seq (fun K3 hK3 => ?_)
  refine C_region ?_
  refine R_pu (pu_fieldAddr (off := 0) (o' := 0) (by kernel_rfl) rfl rfl) rfl ?_
  refine R_pu (pu_loadMid (len := 3) (C := [.int .i64 ((q + 1 : Nat) : Int), .int .i64 ((nn : Nat) : Int), .int .u32 ((ge : Nat) : Int)]) f_p0_0_1 (by kernel_rfl) (by kernel_rfl) rfl rfl rfl) rfl ?_
  refine R_lo (lo_call (by kernel_rfl) rfl (shamir_check_yes q nn ge _ hP)) rfl ?_
  rintro _ w2 ⟨rfl, k2⟩
  have kk2 := kk1.then_ k2
  refine R_pu (pu_neqnn (by kernel_rfl) rfl) rfl ?_
  refine R_pu (pu_move rfl) rfl ?_
  refine R_gpu rfl rfl (pu_fieldAddr (off := 3) (o' := 3) (by kernel_rfl) rfl rfl) rfl ?_
  have f4 : Bk w2 p0_0 ([.int .i64 ((q + 1 : Nat) : Int), .int .i64 ((nn : Nat) : Int), .int .u32 ((ge : Nat) : Int), .string mk, .slice A (L.length) (c)]) 70 := (f_p0_0_1.no k2)
  refine R_gpu rfl rfl (pu_loadK f4 (by kernel_rfl) rfl rfl) rfl ?_
  refine R_gpu rfl rfl (pu_lens Tryd.underlying9 rfl) rfl ?_
  refine R_gpu rfl rfl (pu_false (pu_gtr (p := mk.size > 16) rfl rfl (by omega)) (by omega)) rfl ?_
  refine R_pu (pu_pickf rfl rfl) rfl ?_
  refine R_pu (pu_move rfl) rfl ?_
  refine R_gpu rfl rfl (pu_fieldAddr (off := 4) (o' := 4) (by kernel_rfl) rfl rfl) rfl ?_
  refine R_gpu rfl rfl (pu_loadK f4 (by kernel_rfl) rfl rfl) rfl ?_
  refine R_gpu rfl rfl (pu_len Tryd.underlying29 rfl) rfl ?_
  refine R_gpu rfl rfl (pu_fieldAddr (off := 0) (o' := 0) (by kernel_rfl) rfl rfl) rfl ?_
  refine R_gpu rfl rfl (pu_fieldAddr (off := 0) (o' := 0) (by kernel_rfl) rfl rfl) rfl ?_
  refine R_gpu rfl rfl (pu_loadK f4 (by kernel_rfl) rfl rfl) rfl ?_
  refine R_gpu rfl rfl (pu_false (pu_gtr (p := L.length > (q + 1)) rfl rfl (by omega)) (by omega)) rfl ?_
  refine R_pu (pu_pickf rfl rfl) rfl ?_
  refine R_nil ?_
  refine X_then hK3 ?_
  refine C_false rfl ?_
  refine C_skip ?_
  refine X_then hK2 ?_
  refine C_seq (fun K5 hK5 => ?_)
  refine C_seq (fun K6 hK6 => ?_)
  refine C_region ?_
  refine R_pu (pu_fieldAddr (off := 4) (o' := 4) (by kernel_rfl) rfl rfl) rfl ?_
  refine R_pu (pu_loadK f4 (by kernel_rfl) rfl rfl) rfl ?_
  refine R_pu (pu_len Tryd.underlying29 rfl) rfl ?_
  refine R_pu (pu_move rfl) rfl ?_
  refine R_nil ?_
  refine X_then hK6 ?_
  refine C_block ?_
  refine C_loop (fun m_ l_ wr => ∃ i : Nat, (m_ = L.length - i) ∧ (l_ = [(1, .pointer (some ⟨p0_0, 0, none⟩)), (26, .slice A (L.length) (c)), (27, .int .i64 ((L.length : Nat) : Int)), (28, .int .i64 ((i : Nat) : Int))]) ∧ (i ≤ L.length) ∧ (Kp No w wr) ∧ (Bk wr p0_0 ([.int .i64 ((q + 1 : Nat) : Int), .int .i64 ((nn : Nat) : Int), .int .u32 ((ge : Nat) : Int), .string mk, .slice A (L.length) (c)]) 70)) (L.length - 0) [(1, .pointer (some ⟨p0_0, 0, none⟩)), (26, .slice A (L.length) (c)), (27, .int .i64 ((L.length : Nat) : Int)), (28, .int .i64 0)] (Sub.cons rfl (Sub.cons rfl (Sub.cons rfl (Sub.cons rfl (Sub.nil _))))) ⟨0, rfl, rfl, by omega, kk2, f4⟩ ?_
  rintro _ _ w3 ⟨i, rfl, rfl, hi, kk3, f_p0_0_3⟩
  refine C_seq (fun K7 hK7 => ?_)
  refine C_region ?_
  refine R_pu (pu_lss (p := i < L.length) rfl rfl (by omega)) rfl ?_
  refine R_nil ?_
  refine X_then hK7 ?_
  refine C_seq (fun K8 hK8 => ?_)
  refine C_dec rfl (fun h29 => ?_) (fun h29 => ?_)
  · refine C_skip ?_
    refine X_then hK8 ?_
    refine C_seq (fun K9 hK9 => ?_)
    refine C_block ?_
    refine C_seq (fun K10 hK10 => ?_)
    refine C_region ?_
    refine R_pu (pu_move rfl) rfl ?_
    obtain ⟨s1, e_s1⟩ : ∃ q_, (L)[i]? = some q_ := ⟨_, List.getElem?_eq_getElem (by first | omega | (simp; done) | (simp; omega))⟩
    have ok_s1 := HS.get e_s1
    have okb_s1 := ok_s1.bs
    have bi_s1 : s1.ix < 256 := ok_s1.ix
    refine R_pu (pu_indexAddrH (HS.keptNo kk3) Tryd.underlying29 (by kernel_rfl) rfl rfl rfl rfl e_s1) rfl ?_
    refine R_pu (pu_loadHr (HS.keptNo kk3) e_s1 (by kernel_rfl) (by kernel_rfl) rfl) rfl ?_
    refine R_lo (lo_alloc (L := [.int .u8 0, .int .u32 0, .slice none (0) (0)]) (by kernel_rfl)) rfl ?_
    rintro _ w4 ⟨a1, rfl, N4⟩
    have k4 := N4.kp
    have kk4 := kk3.then_ k4
    have ne_a1_p0_0 : a1 ≠ p0_0 := Nat.ne_of_gt (Nat.lt_of_lt_of_le f_p0_0_3.lt N4.le)
    have f_a1_4 : Bk w4 a1 ([.int .u8 0, .int .u32 0, .slice none (0) (0)]) 50 := N4.bk
    refine R_pu (pu_assign rfl) rfl ?_
    refine R_lo0 (lo_storeRow (C := [.int .u8 ((s1.ix : Nat) : Int), .int .u32 ((s1.gen : Nat) : Int), .slice s1.A (s1.X.length) (s1.c)]) f_a1_4 (by kernel_rfl) rfl rfl (by intro u hu; simp at hu; rcases hu with rfl | rfl | rfl <;> rfl) rfl) ?_
    rintro _ w5 kf5
    obtain ⟨k5, f_a1_5⟩ := kf5
    replace f_a1_5 : Bk w5 a1 ([.int .u8 ((s1.ix : Nat) : Int), .int .u32 ((s1.gen : Nat) : Int), .slice s1.A (s1.X.length) (s1.c)]) 50 := f_a1_5
    have kk5 := kk4.trans k5 (fun i hi => .inr (hi ▸ (Nat.le_trans kk3.size N4.le)))
    refine R_nil ?_
    refine X_then hK10 ?_
    refine C_seq (fun K11 hK11 => ?_)
    have f12 : Bk w5 p0_0 ([.int .i64 ((q + 1 : Nat) : Int), .int .i64 ((nn : Nat) : Int), .int .u32 ((ge : Nat) : Int), .string mk, .slice A (L.length) (c)]) 70 := ((f_p0_0_3.no k4).on k5 (Ne.symm ne_a1_p0_0))
    refine D_begin (fun W => Kp No w W ∧ Bk W p0_0 ([.int .i64 ((q + 1 : Nat) : Int), .int .i64 ((nn : Nat) : Int), .int .u32 ((ge : Nat) : Int), .string mk, .slice A (L.length) (c)]) 70 ∧ Bk W a1 ([.int .u8 ((s1.ix : Nat) : Int), .int .u32 ((s1.gen : Nat) : Int), .slice s1.A (s1.X.length) (s1.c)]) 50) 8 rfl (by kernel_rfl) ⟨kk5.drew, f12.draw, f_a1_5.draw⟩ ?_
    intro w6 k6 _
    have kk6 := kk5.then_ k6
    refine D_take 0 rfl (by kernel_rfl) (by kernel_rfl) (by kernel_rfl) (fun _ _ _ h => h) rfl (fun W hS => pu_loadRow (len := 5) hS.2.1 (by kernel_rfl) (by kernel_rfl) rfl rfl) ?_
    refine D_take 1 rfl (by kernel_rfl) (by kernel_rfl) (by kernel_rfl) (fun _ _ _ h => h) rfl (fun W hS => pu_fieldAddr (off := 4) (o' := 4) (by kernel_rfl) rfl rfl) ?_
    refine D_take 2 rfl (by kernel_rfl) (by kernel_rfl) (by kernel_rfl) (fun _ _ _ h => h) rfl (fun W hS => pu_loadK hS.2.1 (by kernel_rfl) rfl rfl) ?_
    refine D_take 3 rfl (by kernel_rfl) (by kernel_rfl) (by kernel_rfl) (fun _ _ _ h => h) rfl (fun W hS => pu_move rfl) ?_
    have HSt13 := HS.take i
    have ln_HSt13 : (L.take i).length = i := by rw [List.length_take]; omega
    refine D_take 4 rfl (by kernel_rfl) (by kernel_rfl) (by kernel_rfl) (fun _ _ _ h => h) rfl (fun W hS => pu_sliceHi (hi := i) (s := 3) Tryd.underlying29 (by kernel_rfl) rfl rfl rfl (by omega)) ?_
    refine D_take 5 rfl (by kernel_rfl) (by kernel_rfl) (by kernel_rfl) (fun _ _ _ h => h) rfl (fun W hS => pu_loadRow (len := 3) hS.2.2 (by kernel_rfl) (by kernel_rfl) rfl rfl) ?_
    refine D_one 6 (by kernel_rfl) (Nx_lo rfl (lo_callE (by kernel_rfl) rfl (by rw [ln_HSt13] <;> rfl) (fits_ok q nn ge mk A L.length c A (L.take i) c s1.ix s1.gen s1.A s1.X s1.c _ (HSt13.keptNo kk6) ⟨⟨by rw [List.length_take]; omega, ok_s1.ix, by have := (hC i s1 e_s1).2.2.2.2; omega⟩, hC i s1 e_s1⟩)) rfl ?_)
    rintro _ w7 ⟨rfl, k7⟩
    have kk7 := kk6.then_ k7
    have f14 : Bk w7 p0_0 ([.int .i64 ((q + 1 : Nat) : Int), .int .i64 ((nn : Nat) : Int), .int .u32 ((ge : Nat) : Int), .string mk, .slice A (L.length) (c)]) 70 := ((f12.no k6).no k7)
    have f15 : Bk w7 a1 ([.int .u8 ((s1.ix : Nat) : Int), .int .u32 ((s1.gen : Nat) : Int), .slice s1.A (s1.X.length) (s1.c)]) 50 := ((f_a1_5.no k6).no k7)
    refine ⟨⟨kk7, f14, f15⟩, ?_⟩
    refine D_take 7 rfl (by kernel_rfl) (by kernel_rfl) (by kernel_rfl) (fun _ _ _ h => h) rfl (fun W hS => pu_neqnn (by kernel_rfl) rfl) ?_
    refine D_done (by kernel_rfl) ?_
    refine X_then hK11 ?_
    refine C_false rfl ?_
    refine C_skip ?_
    refine X_in_normal ?_
    refine X_then hK9 ?_
    refine C_region ?_
    refine R_pu (pu_add (z := ((i + 1 : Nat) : Int)) rfl rfl (by rw [IntKind.wrap_i64]; omega)) rfl ?_
    refine R_pu (pu_move rfl) rfl ?_
    refine R_nil ?_
    refine X_round (L.length - (i + 1)) [(1, .pointer (some ⟨p0_0, 0, none⟩)), (26, .slice A (L.length) (c)), (27, .int .i64 ((L.length : Nat) : Int)), (28, .int .i64 (((i + 1) : Nat) : Int))] (by omega) (Sub.cons rfl (Sub.cons rfl (Sub.cons rfl (Sub.cons rfl (Sub.nil _))))) ⟨i + 1, rfl, rfl, by omega, kk7, f14⟩
  · refine C_exit ?_
    refine X_then_exit (X_then_exit (X_in_eq ?_))
    refine X_then hK5 ?_
    refine C_seq (fun K16 hK16 => ?_)
    refine C_region ?_
    refine R_pu (pu_assign rfl) rfl ?_
    refine R_nil ?_
    refine X_then hK16 ?_
    refine C_ret ?_
    exact X_ret1 (.inl rfl) rfl rfl ⟨rfl, kk3⟩
set_option maxRecDepth 100000 in
set_option maxHeartbeats 2000000 in
theorem start_ok (q nn ge : Nat) (mk : ByteArray) (w : World) (hP : (2 ≤ q + 1 ∧ q + 1 ≤ nn ∧ nn ≤ 255) ∧ mk.size ≤ 16) : Ret Tryd.prog 34 #[.agg ([.int .i64 ((q + 1 : Nat) : Int), .int .i64 ((nn : Nat) : Int), .int .u32 ((ge : Nat) : Int)] : List Value).toArray, .string mk] w (fun v w' => v = .tuple #[.agg ([.int .i64 ((q + 1 : Nat) : Int), .int .i64 ((nn : Nat) : Int), .int .u32 ((ge : Nat) : Int), .string mk, .slice none (0) (0)] : List Value).toArray, .nilIface] ∧ Kp No w w') := by
  have kk0 := Kp.refl No w
  refine enter (n := 18) [.agg ([.int .i64 ((q + 1 : Nat) : Int), .int .i64 ((nn : Nat) : Int), .int .u32 ((ge : Nat) : Int)] : List Value).toArray, .string mk] Tryd.func34 rfl rfl rfl ?_
  show Cw _ _ _ _ [(0, .agg ([.int .i64 ((q + 1 : Nat) : Int), .int .i64 ((nn : Nat) : Int), .int .u32 ((ge : Nat) : Int)] : List Value).toArray), (1, .string mk)] _
  refine C_seq (fun K1 hK1 => ?_)
  refine C_region ?_
  refine R_lo (lo_box (L := [.int .i64 ((q + 1 : Nat) : Int), .int .i64 ((nn : Nat) : Int), .int .u32 ((ge : Nat) : Int)]) rfl rfl) rfl ?_
  rintro _ w1 ⟨p0_0, rfl, N1⟩
  have k1 := N1.kp
  have kk1 := kk0.then_ k1
  have f_p0_0_1 : Bk w1 p0_0 ([.int .i64 ((q + 1 : Nat) : Int), .int .i64 ((nn : Nat) : Int), .int .u32 ((ge : Nat) : Int)]) 28 := N1.bk
  refine R_lo (lo_alloc (L := [.int .i64 0, .int .i64 0, .int .u32 0, .string ByteArray.empty, .slice none (0) (0)]) (by kernel_rfl)) rfl ?_
  rintro _ w2 ⟨rs, rfl, N2⟩
  have k2 := N2.kp
  have kk2 := kk1.then_ k2
  have ne_rs_p0_0 : rs ≠ p0_0 := Nat.ne_of_gt (Nat.lt_of_lt_of_le f_p0_0_1.lt N2.le)
  have f_rs_2 : Bk w2 rs ([.int .i64 0, .int .i64 0, .int .u32 0, .string ByteArray.empty, .slice none (0) (0)]) 70 := N2.bk
  refine R_pu (pu_assign rfl) rfl ?_
  refine R_nil ?_
  refine X_then hK1 ?_
  refine C_seq (fun K2 hK2 => ?_)
  refine C_region ?_
  have f3 : Bk w2 p0_0 ([.int .i64 ((q + 1 : Nat) : Int), .int .i64 ((nn : Nat) : Int), .int .u32 ((ge : Nat) : Int)]) 28 := (f_p0_0_1.no k2)
  refine R_pu (pu_loadRow (len := 3) f3 (by kernel_rfl) (by kernel_rfl) rfl rfl) rfl ?_
  refine R_pu (pu_move rfl) rfl ?_
  refine R_pu (pu_build (L := [.int .i64 ((q + 1 : Nat) : Int), .int .i64 ((nn : Nat) : Int), .int .u32 ((ge : Nat) : Int), .string mk, .slice none (0) (0)]) rfl (by kernel_rfl)) rfl ?_
  refine R_lo (lo_alloc (L := [.int .i64 0, .int .i64 0, .int .u32 0, .string ByteArray.empty, .slice none (0) (0)]) (by kernel_rfl)) rfl ?_
  rintro _ w3 ⟨p1_3, rfl, N3⟩
  have k3 := N3.kp
  have kk3 := kk2.then_ k3
  have ne_p1_3_p0_0 : p1_3 ≠ p0_0 := Nat.ne_of_gt (Nat.lt_of_lt_of_le f3.lt N3.le)
  have ne_p1_3_rs : p1_3 ≠ rs := Nat.ne_of_gt (Nat.lt_of_lt_of_le f_rs_2.lt N3.le)
  have f_p1_3_3 : Bk w3 p1_3 ([.int .i64 0, .int .i64 0, .int .u32 0, .string ByteArray.empty, .slice none (0) (0)]) 70 := N3.bk
  refine R_lo0 (lo_storeRow (C := [.int .i64 ((q + 1 : Nat) : Int), .int .i64 ((nn : Nat) : Int), .int .u32 ((ge : Nat) : Int), .string mk, .slice none (0) (0)]) f_p1_3_3 (by kernel_rfl) rfl rfl (by intro u hu; simp at hu; rcases hu with rfl | rfl | rfl | rfl | rfl <;> rfl) rfl) ?_
  rintro _ w4 kf4
  obtain ⟨k4, f_p1_3_4⟩ := kf4
  replace f_p1_3_4 : Bk w4 p1_3 ([.int .i64 ((q + 1 : Nat) : Int), .int .i64 ((nn : Nat) : Int), .int .u32 ((ge : Nat) : Int), .string mk, .slice none (0) (0)]) 70 := f_p1_3_4
  have kk4 := kk3.trans k4 (fun i hi => .inr (hi ▸ (Nat.le_trans kk2.size N3.le)))
  refine R_nil ?_
  refine X_then hK2 ?_
  refine C_seq (fun K4 hK4 => ?_)
  refine C_seq (fun K5 hK5 => ?_)
  refine C_region ?_
  refine R_pu (pu_loadRow (len := 5) f_p1_3_4 (by kernel_rfl) (by kernel_rfl) rfl rfl) rfl ?_
  refine R_lo (lo_call (by kernel_rfl) rfl (check_ok q nn ge mk none ([] : List Shr) 0 _ (Ss.nil _ none) ⟨⟨hP.1, hP.2, Nat.zero_le _, Nat.zero_le _⟩, fun i s h => by cases h⟩)) rfl ?_
  rintro _ w5 ⟨rfl, k5⟩
  have kk5 := kk4.then_ k5
  refine R_pu (pu_assign rfl) rfl ?_
  refine R_nil ?_
  refine X_then hK5 ?_
  refine C_seq (fun K6 hK6 => ?_)
  refine C_region ?_
  refine R_pu (pu_move rfl) rfl ?_
  refine R_pu (pu_neqnn (by kernel_rfl) rfl) rfl ?_
  refine R_nil ?_
  refine X_then hK6 ?_
  refine C_false rfl ?_
  refine C_skip ?_
  refine X_then hK4 ?_
  refine C_seq (fun K7 hK7 => ?_)
  refine C_region ?_
  have f8 : Bk w5 p1_3 ([.int .i64 ((q + 1 : Nat) : Int), .int .i64 ((nn : Nat) : Int), .int .u32 ((ge : Nat) : Int), .string mk, .slice none (0) (0)]) 70 := (f_p1_3_4.no k5)
  refine R_pu (pu_loadRow (len := 5) f8 (by kernel_rfl) (by kernel_rfl) rfl rfl) rfl ?_
  have f9 : Bk w5 rs ([.int .i64 0, .int .i64 0, .int .u32 0, .string ByteArray.empty, .slice none (0) (0)]) 70 := (((f_rs_2.no k3).on k4 (Ne.symm ne_p1_3_rs)).no k5)
  refine R_lo0 (lo_storeRow (C := [.int .i64 ((q + 1 : Nat) : Int), .int .i64 ((nn : Nat) : Int), .int .u32 ((ge : Nat) : Int), .string mk, .slice none (0) (0)]) f9 (by kernel_rfl) rfl rfl (by intro u hu; simp at hu; rcases hu with rfl | rfl | rfl | rfl | rfl <;> rfl) rfl) ?_
  rintro _ w6 kf6
  obtain ⟨k6, f_rs_6⟩ := kf6
  replace f_rs_6 : Bk w6 rs ([.int .i64 ((q + 1 : Nat) : Int), .int .i64 ((nn : Nat) : Int), .int .u32 ((ge : Nat) : Int), .string mk, .slice none (0) (0)]) 70 := f_rs_6
  have kk6 := kk5.trans k6 (fun i hi => .inr (hi ▸ (Nat.le_trans kk1.size N2.le)))
  refine R_pu (pu_assign rfl) rfl ?_
  refine R_nil ?_
  refine X_then hK7 ?_
  refine C_ret ?_
  exact X_retCT (len := 5) (.inl rfl) rfl rfl f_rs_6 (by kernel_rfl) (by kernel_rfl) rfl rfl ⟨rfl, kk6⟩
set_option maxRecDepth 100000 in
set_option maxHeartbeats 2000000 in
theorem secret_short (b : Nat) (q nn ge : Nat) (mk : ByteArray) (A : Option Addr) (L : List Shr) (c : Nat) (w : World) (HS : Ss w A L) (hC : (((2 ≤ q + 1 ∧ q + 1 ≤ nn ∧ nn ≤ 255) ∧ mk.size ≤ 16 ∧ L.length ≤ q + 1 ∧ L.length ≤ c) ∧ Came nn ge L) ∧ L.length < q + 1) : Ret Tryd.prog 32 #[.pointer (some ⟨b, 0, none⟩), .agg ([.int .i64 ((q + 1 : Nat) : Int), .int .i64 ((nn : Nat) : Int), .int .u32 ((ge : Nat) : Int), .string mk, .slice A (L.length) (c)] : List Value).toArray] w (fun v w' => v = .tuple #[.slice none 0 0, errE 2] ∧ Kp No w w') := by
  have kk0 := Kp.refl No w
  refine enter (n := 28) [.pointer (some ⟨b, 0, none⟩), .agg ([.int .i64 ((q + 1 : Nat) : Int), .int .i64 ((nn : Nat) : Int), .int .u32 ((ge : Nat) : Int), .string mk, .slice A (L.length) (c)] : List Value).toArray] Tryd.func32 rfl rfl rfl ?_
  show Cw _ _ _ _ [(0, .pointer (some ⟨b, 0, none⟩)), (1, .agg ([.int .i64 ((q + 1 : Nat) : Int), .int .i64 ((nn : Nat) : Int), .int .u32 ((ge : Nat) : Int), .string mk, .slice A (L.length) (c)] : List Value).toArray)] _
  refine C_seq (fun K1 hK1 => ?_)
  refine C_region ?_
  refine R_lo (lo_box (L := [.int .i64 ((q + 1 : Nat) : Int), .int .i64 ((nn : Nat) : Int), .int .u32 ((ge : Nat) : Int), .string mk, .slice A (L.length) (c)]) rfl rfl) rfl ?_
  rintro _ w1 ⟨p0_0, rfl, N1⟩
  have k1 := N1.kp
  have kk1 := kk0.then_ k1
  have f_p0_0_1 : Bk w1 p0_0 ([.int .i64 ((q + 1 : Nat) : Int), .int .i64 ((nn : Nat) : Int), .int .u32 ((ge : Nat) : Int), .string mk, .slice A (L.length) (c)]) 70 := N1.bk
  refine R_pu (pu_assign rfl) rfl ?_
  refine R_pu (pu_assign rfl) rfl ?_
  refine R_nil ?_
  refine X_then hK1 ?_
  refine C_seq (fun K2 hK2 => ?_)
  refine C_block ?_
  refine C_seq (fun K3 hK3 => ?_)
  refine C_region ?_
  refine R_pu (pu_loadRow (len := 5) f_p0_0_1 (by kernel_rfl) (by kernel_rfl) rfl rfl) rfl ?_
  refine R_lo (lo_call (by kernel_rfl) rfl (check_ok q nn ge mk A L c _ (HS.keptNo kk1) hC.1)) rfl ?_
  rintro _ w2 ⟨rfl, k2⟩
  have kk2 := kk1.then_ k2
  refine R_pu (pu_neqnn (by kernel_rfl) rfl) rfl ?_
  refine R_pu (pu_assign rfl) rfl ?_
  refine R_nil ?_
  refine X_then hK3 ?_
  refine C_false rfl ?_
  refine C_seq (fun K4 hK4 => ?_)
  refine C_region ?_
  refine R_pu (pu_fieldAddr (off := 4) (o' := 4) (by kernel_rfl) rfl rfl) rfl ?_
  have f5 : Bk w2 p0_0 ([.int .i64 ((q + 1 : Nat) : Int), .int .i64 ((nn : Nat) : Int), .int .u32 ((ge : Nat) : Int), .string mk, .slice A (L.length) (c)]) 70 := (f_p0_0_1.no k2)
  refine R_pu (pu_loadK f5 (by kernel_rfl) rfl rfl) rfl ?_
  refine R_pu (pu_len Tryd.underlying29 rfl) rfl ?_
  refine R_pu (pu_fieldAddr (off := 0) (o' := 0) (by kernel_rfl) rfl rfl) rfl ?_
  refine R_pu (pu_fieldAddr (off := 0) (o' := 0) (by kernel_rfl) rfl rfl) rfl ?_
  refine R_pu (pu_loadK f5 (by kernel_rfl) rfl rfl) rfl ?_
  refine R_pu (pu_true (pu_lss (p := L.length < (q + 1)) rfl rfl (by omega)) hC.2) rfl ?_
  refine R_pu (pu_assign rfl) rfl ?_
  refine R_nil ?_
  refine X_then hK4 ?_
  refine C_true rfl ?_
  refine C_seq (fun K6 hK6 => ?_)
  refine C_region ?_
  refine R_pu (pu_makeInterface Tryd.underlying91 rfl rfl) rfl ?_
  refine R_pu (pu_assign rfl) rfl ?_
  refine R_pu (pu_assign rfl) rfl ?_
  refine R_nil ?_
  refine X_then hK6 ?_
  refine C_ret ?_
  refine X_in_ret (X_then_ret ?_)
  exact X_ret2 (.inl rfl) rfl rfl rfl ⟨rfl, kk2⟩
set_option maxRecDepth 100000 in
set_option maxHeartbeats 2000000 in
theorem secret_ok (b : Nat) (q nn ge : Nat) (mk : ByteArray) (A : Option Addr) (L : List Shr) (c : Nat) (w : World) (HS : Ss w A L) (hC : (((2 ≤ q + 1 ∧ q + 1 ≤ nn ∧ nn ≤ 255) ∧ mk.size ≤ 16 ∧ L.length ≤ q + 1 ∧ L.length ≤ c) ∧ Came nn ge L) ∧ L.length = q + 1 ∧ ge < 4294967296) (aw_HS : Aws (On b) A L) (hT : Tb w b) : Ret Tryd.prog 32 #[.pointer (some ⟨b, 0, none⟩), .agg ([.int .i64 ((q + 1 : Nat) : Int), .int .i64 ((nn : Nat) : Int), .int .u32 ((ge : Nat) : Int), .string mk, .slice A (L.length) (c)] : List Value).toArray] w (fun v w' => ∃ A c, v = .tuple #[.slice A (thX (L.take (q + 1)) 32 0).length c, .nilIface] ∧ Ob w' w.heap.size (.slice A (thX (L.take (q + 1)) 32 0).length c) (thX (L.take (q + 1)) 32 0) ∧ Tb w' b ∧ Kp (On b) w w') := by
  have hge := hC.2.2
  have kk0 := Kp.refl (On b) w
  refine enter (n := 28) [.pointer (some ⟨b, 0, none⟩), .agg ([.int .i64 ((q + 1 : Nat) : Int), .int .i64 ((nn : Nat) : Int), .int .u32 ((ge : Nat) : Int), .string mk, .slice A (L.length) (c)] : List Value).toArray] Tryd.func32 rfl rfl rfl ?_
  show Cw _ _ _ _ [(0, .pointer (some ⟨b, 0, none⟩)), (1, .agg ([.int .i64 ((q + 1 : Nat) : Int), .int .i64 ((nn : Nat) : Int), .int .u32 ((ge : Nat) : Int), .string mk, .slice A (L.length) (c)] : List Value).toArray)] _
  refine C_seq (fun K1 hK1 => ?_)
  refine C_region ?_
  refine R_lo (lo_box (L := [.int .i64 ((q + 1 : Nat) : Int), .int .i64 ((nn : Nat) : Int), .int .u32 ((ge : Nat) : Int), .string mk, .slice A (L.length) (c)]) rfl rfl) rfl ?_
  rintro _ w1 ⟨p0_0, rfl, N1⟩
  have k1 := N1.kp
  have kk1 := kk0.thenNo k1
  have ne_p0_0_b : p0_0 ≠ b := Nat.ne_of_gt (Nat.lt_of_lt_of_le hT.lt N1.le)
  have f_p0_0_1 : Bk w1 p0_0 ([.int .i64 ((q + 1 : Nat) : Int), .int .i64 ((nn : Nat) : Int), .int .u32 ((ge : Nat) : Int), .string mk, .slice A (L.length) (c)]) 70 := N1.bk
  refine R_pu (pu_assign rfl) rfl ?_
  refine R_pu (pu_assign rfl) rfl ?_
  refine R_nil ?_
  refine X_then hK1 ?_
  refine C_seq (fun K2 hK2 => ?_)
  refine C_block ?_
  refine C_seq (fun K3 hK3 => ?_)
  refine C_region ?_
  refine R_pu (pu_loadRow (len := 5) f_p0_0_1 (by kernel_rfl) (by kernel_rfl) rfl rfl) rfl ?_
  refine R_lo (lo_call (by kernel_rfl) rfl (check_ok q nn ge mk A L c _ (HS.keptS kk1 aw_HS) hC.1)) rfl ?_
  rintro _ w2 ⟨rfl, k2⟩
  have kk2 := kk1.thenNo k2
  refine R_pu (pu_neqnn (by kernel_rfl) rfl) rfl ?_
  refine R_pu (pu_assign rfl) rfl ?_
  refine R_nil ?_
  refine X_then hK3 ?_
  refine C_false rfl ?_
  refine C_seq (fun K4 hK4 => ?_)
  refine C_region ?_
  refine R_pu (pu_fieldAddr (off := 4) (o' := 4) (by kernel_rfl) rfl rfl) rfl ?_
  have f5 : Bk w2 p0_0 ([.int .i64 ((q + 1 : Nat) : Int), .int .i64 ((nn : Nat) : Int), .int .u32 ((ge : Nat) : Int), .string mk, .slice A (L.length) (c)]) 70 := (f_p0_0_1.no k2)
  refine R_pu (pu_loadK f5 (by kernel_rfl) rfl rfl) rfl ?_
  refine R_pu (pu_len Tryd.underlying29 rfl) rfl ?_
  refine R_pu (pu_fieldAddr (off := 0) (o' := 0) (by kernel_rfl) rfl rfl) rfl ?_
  refine R_pu (pu_fieldAddr (off := 0) (o' := 0) (by kernel_rfl) rfl rfl) rfl ?_
  refine R_pu (pu_loadK f5 (by kernel_rfl) rfl rfl) rfl ?_
  refine R_pu (pu_false (pu_lss (p := L.length < (q + 1)) rfl rfl (by omega)) (by omega)) rfl ?_
  refine R_pu (pu_assign rfl) rfl ?_
  refine R_nil ?_
  refine X_then hK4 ?_
  refine C_false rfl ?_
  refine C_skip ?_
  refine X_in_normal ?_
  refine X_then hK2 ?_
  refine C_seq (fun K6 hK6 => ?_)
  refine C_region ?_
  refine R_pu (pu_move rfl) rfl ?_
  refine R_pu (pu_fieldAddr (off := 4) (o' := 4) (by kernel_rfl) rfl rfl) rfl ?_
  refine R_pu (pu_loadK f5 (by kernel_rfl) rfl rfl) rfl ?_
  refine R_pu (pu_fieldAddr (off := 0) (o' := 0) (by kernel_rfl) rfl rfl) rfl ?_
  refine R_pu (pu_loadMid (len := 3) (C := [.int .i64 ((q + 1 : Nat) : Int), .int .i64 ((nn : Nat) : Int), .int .u32 ((ge : Nat) : Int)]) f5 (by kernel_rfl) (by kernel_rfl) rfl rfl rfl) rfl ?_
  have o7 : Tb w2 b := ((hT.no k1).no k2)
  refine R_lo (lo_call (by kernel_rfl) rfl (shamir_combine b A L c q nn ge 32 _ (HS.keptS kk2 aw_HS) ⟨hC.1.1.1, ⟨by omega, hC.1.1.2.2.2, by omega⟩, hge, good_take (came_good hC.1.2) _⟩ aw_HS o7)) rfl ?_
  rintro _ w3 ⟨A_th5, c_th5, rfl, Q3, T3, k3⟩
  have kk3 := kk2.trans k3 (fun i hi => .inl hi)
  have z8 : w2.heap.size ≤ w3.heap.size := k3.size
  refine R_pu (pu_extract rfl rfl) rfl ?_
  refine R_pu (pu_extract rfl rfl) rfl ?_
  refine R_pu (pu_assign rfl) rfl ?_
  refine R_pu (pu_assign rfl) rfl ?_
  refine R_nil ?_
  refine X_then hK6 ?_
  refine C_ret ?_
  exact X_ret2 (.inl rfl) rfl rfl rfl ⟨_, _, rfl, Q3.low (kk2).size, T3, kk3⟩
set_option maxRecDepth 100000 in
set_option maxHeartbeats 2000000 in
theorem submit_ok (q nn ge : Nat) (mk : ByteArray) (A : Option Addr) (L : List Shr) (c : Nat) (ix gn : Nat) (A1 : Option Addr) (X1 : List Nat) (c1 : Nat) (w : World) (HS : Ss w A L) (HB : Bs w A1 X1) (hc1 : X1.length ≤ c1) (hC : (((2 ≤ q + 1 ∧ q + 1 ≤ nn ∧ nn ≤ 255) ∧ mk.size ≤ 16 ∧ L.length ≤ q + 1 ∧ L.length ≤ c) ∧ Came nn ge L) ∧ (L.length < q + 1 ∧ gn = ge ∧ Fit nn L ix X1.length) ∧ ix < 256 ∧ ge < 4294967296) : Ret Tryd.prog 30 #[.agg ([.int .i64 ((q + 1 : Nat) : Int), .int .i64 ((nn : Nat) : Int), .int .u32 ((ge : Nat) : Int), .string mk, .slice A (L.length) (c)] : List Value).toArray, .string mk, .agg ([.int .u8 ((ix : Nat) : Int), .int .u32 ((gn : Nat) : Int), .slice A1 (X1.length) (c1)] : List Value).toArray] w (fun v w' => ∃ A c LN, v = .tuple #[.agg ([.int .i64 ((q + 1 : Nat) : Int), .int .i64 ((nn : Nat) : Int), .int .u32 ((ge : Nat) : Int), .string mk, .slice A (LN : List Shr).length c] : List Value).toArray, .bool (decide (L.length + 1 = q + 1)), .nilIface] ∧ Sw 50 w.heap.size w' w.heap.size (.slice A LN.length c) LN ∧ LN.map Shr.key = L.map Shr.key ++ [(ix, gn, X1)] ∧ Kp No w w') := by
  obtain ⟨hC0, ⟨hlt, hgg, hF⟩, hix, hge⟩ := hC
  have hC := hC0.2; have hX1 := hF.2.2.2; have hgn : gn < 4294967296 := by omega
  have kk0 := Kp.refl No w
  refine enter (n := 76) [.agg ([.int .i64 ((q + 1 : Nat) : Int), .int .i64 ((nn : Nat) : Int), .int .u32 ((ge : Nat) : Int), .string mk, .slice A (L.length) (c)] : List Value).toArray, .string mk, .agg ([.int .u8 ((ix : Nat) : Int), .int .u32 ((gn : Nat) : Int), .slice A1 (X1.length) (c1)] : List Value).toArray] Tryd.func30 rfl rfl rfl ?_
  show Cw _ _ _ _ [(0, .agg ([.int .i64 ((q + 1 : Nat) : Int), .int .i64 ((nn : Nat) : Int), .int .u32 ((ge : Nat) : Int), .string mk, .slice A (L.length) (c)] : List Value).toArray), (1, .string mk), (2, .agg ([.int .u8 ((ix : Nat) : Int), .int .u32 ((gn : Nat) : Int), .slice A1 (X1.length) (c1)] : List Value).toArray)] _
  refine C_seq (fun K1 hK1 => ?_)
  refine C_region ?_
  refine R_lo (lo_box (L := [.int .i64 ((q + 1 : Nat) : Int), .int .i64 ((nn : Nat) : Int), .int .u32 ((ge : Nat) : Int), .string mk, .slice A (L.length) (c)]) rfl rfl) rfl ?_
  rintro _ w1 ⟨pb, rfl, N1⟩
  have k1 := N1.kp
  have kk1 := kk0.then_ k1
  have f_pb_1 : Bk w1 pb ([.int .i64 ((q + 1 : Nat) : Int), .int .i64 ((nn : Nat) : Int), .int .u32 ((ge : Nat) : Int), .string mk, .slice A (L.length) (c)]) 70 := N1.bk
  refine R_lo (lo_box (L := [.int .u8 ((ix : Nat) : Int), .int .u32 ((gn : Nat) : Int), .slice A1 (X1.length) (c1)]) rfl rfl) rfl ?_
  rintro _ w2 ⟨sb, rfl, N2⟩
  have k2 := N2.kp
  have kk2 := kk1.then_ k2
  have ne_sb_pb : sb ≠ pb := Nat.ne_of_gt (Nat.lt_of_lt_of_le f_pb_1.lt N2.le)
  have f_sb_2 : Bk w2 sb ([.int .u8 ((ix : Nat) : Int), .int .u32 ((gn : Nat) : Int), .slice A1 (X1.length) (c1)]) 50 := N2.bk
  have f2 : Bk w2 pb ([.int .i64 ((q + 1 : Nat) : Int), .int .i64 ((nn : Nat) : Int), .int .u32 ((ge : Nat) : Int), .string mk, .slice A (L.length) (c)]) 70 := (f_pb_1.no k2)
  refine R_lo (lo_alloc (L := [.int .i64 0, .int .i64 0, .int .u32 0, .string ByteArray.empty, .slice none (0) (0)]) (by kernel_rfl)) rfl ?_
  rintro _ w3 ⟨rs, rfl, N3⟩
  have k3 := N3.kp
  have kk3 := kk2.then_ k3
  have ne_rs_pb : rs ≠ pb := Nat.ne_of_gt (Nat.lt_of_lt_of_le f2.lt N3.le)
  have ne_rs_sb : rs ≠ sb := Nat.ne_of_gt (Nat.lt_of_lt_of_le f_sb_2.lt N3.le)
  have f_rs_3 : Bk w3 rs ([.int .i64 0, .int .i64 0, .int .u32 0, .string ByteArray.empty, .slice none (0) (0)]) 70 := N3.bk
  refine R_pu (pu_assign rfl) rfl ?_
  refine R_pu (pu_assign rfl) rfl ?_
  refine R_nil ?_
  refine X_then hK1 ?_
  refine C_seq (fun K3 hK3 => ?_)
  refine C_seq (fun K4 hK4 => ?_)
  refine C_region ?_
  have f5 : Bk w3 pb ([.int .i64 ((q + 1 : Nat) : Int), .int .i64 ((nn : Nat) : Int), .int .u32 ((ge : Nat) : Int), .string mk, .slice A (L.length) (c)]) 70 := (f2.no k3)
  refine R_pu (pu_loadRow (len := 5) f5 (by kernel_rfl) (by kernel_rfl) rfl rfl) rfl ?_
  refine R_lo (lo_call (by kernel_rfl) rfl (check_ok q nn ge mk A L c _ (HS.keptNo kk3) hC0)) rfl ?_
  rintro _ w4 ⟨rfl, k4⟩
  have kk4 := kk3.then_ k4
  refine R_pu (pu_assign rfl) rfl ?_
  refine R_nil ?_
  refine X_then hK4 ?_
  refine C_seq (fun K6 hK6 => ?_)
  refine C_region ?_
  refine R_pu (pu_move rfl) rfl ?_
  refine R_pu (pu_neqnn (by kernel_rfl) rfl) rfl ?_
  refine R_nil ?_
  refine X_then hK6 ?_
  refine C_false rfl ?_
  refine C_skip ?_
  refine X_then hK3 ?_
  refine C_seq (fun K7 hK7 => ?_)
  refine C_seq (fun K8 hK8 => ?_)
  refine C_region ?_
  refine R_pu (pu_move rfl) rfl ?_
  refine R_pu (pu_fieldAddr (off := 3) (o' := 3) (by kernel_rfl) rfl rfl) rfl ?_
  have f9 : Bk w4 pb ([.int .i64 ((q + 1 : Nat) : Int), .int .i64 ((nn : Nat) : Int), .int .u32 ((ge : Nat) : Int), .string mk, .slice A (L.length) (c)]) 70 := (f5.no k4)
  refine R_pu (pu_loadK f9 (by kernel_rfl) rfl rfl) rfl ?_
  refine R_pu (pu_false (pu_neqs (p := mk = mk) rfl rfl Iff.rfl) (fun h => h rfl)) rfl ?_
  refine R_pu (pu_move rfl) rfl ?_
  refine R_gpu rfl rfl (pu_fieldAddr (off := 4) (o' := 4) (by kernel_rfl) rfl rfl) rfl ?_
  refine R_gpu rfl rfl (pu_loadK f9 (by kernel_rfl) rfl rfl) rfl ?_
  refine R_gpu rfl rfl (pu_len Tryd.underlying29 rfl) rfl ?_
  refine R_gpu rfl rfl (pu_fieldAddr (off := 0) (o' := 0) (by kernel_rfl) rfl rfl) rfl ?_
  refine R_gpu rfl rfl (pu_fieldAddr (off := 0) (o' := 0) (by kernel_rfl) rfl rfl) rfl ?_
  refine R_gpu rfl rfl (pu_loadK f9 (by kernel_rfl) rfl rfl) rfl ?_
  refine R_gpu rfl rfl (pu_false (pu_eql (p := L.length = (q + 1)) rfl rfl (by omega)) (by omega)) rfl ?_
  refine R_pu (pu_pickf rfl rfl) rfl ?_
  refine R_nil ?_
  refine X_then hK8 ?_
  refine C_false rfl ?_
  refine C_skip ?_
  refine X_then hK7 ?_
  refine C_seq (fun K10 hK10 => ?_)
  refine C_seq (fun K11 hK11 => ?_)
  refine C_region ?_
  refine R_pu (pu_loadRow (len := 5) f9 (by kernel_rfl) (by kernel_rfl) rfl rfl) rfl ?_
  refine R_pu (pu_fieldAddr (off := 4) (o' := 4) (by kernel_rfl) rfl rfl) rfl ?_
  refine R_pu (pu_loadK f9 (by kernel_rfl) rfl rfl) rfl ?_
  have f12 : Bk w4 sb ([.int .u8 ((ix : Nat) : Int), .int .u32 ((gn : Nat) : Int), .slice A1 (X1.length) (c1)]) 50 := ((f_sb_2.no k3).no k4)
  refine R_pu (pu_loadRow (len := 3) f12 (by kernel_rfl) (by kernel_rfl) rfl rfl) rfl ?_
  refine R_lo (lo_call (by kernel_rfl) rfl (fits_ok q nn ge mk A L.length c A L c ix gn A1 X1 c1 _ (HS.keptNo kk4) ⟨⟨by omega, hix, by omega⟩, hgg, hF⟩)) rfl ?_
  rintro _ w5 ⟨rfl, k5⟩
  have kk5 := kk4.then_ k5
  refine R_pu (pu_assign rfl) rfl ?_
  refine R_nil ?_
  refine X_then hK11 ?_
  refine C_seq (fun K13 hK13 => ?_)
  refine C_region ?_
  refine R_pu (pu_move rfl) rfl ?_
  refine R_pu (pu_neqnn (by kernel_rfl) rfl) rfl ?_
  refine R_nil ?_
  refine X_then hK13 ?_
  refine C_false rfl ?_
  refine C_skip ?_
  refine X_then hK10 ?_
  refine C_seq (fun K14 hK14 => ?_)
  refine C_region ?_
  have f15 : Bk w5 pb ([.int .i64 ((q + 1 : Nat) : Int), .int .i64 ((nn : Nat) : Int), .int .u32 ((ge : Nat) : Int), .string mk, .slice A (L.length) (c)]) 70 := (f9.no k5)
  refine R_pu (pu_loadRow (len := 5) f15 (by kernel_rfl) (by kernel_rfl) rfl rfl) rfl ?_
  refine R_lo (lo_call (by kernel_rfl) rfl (reset_ q nn ge mk A L.length c _)) rfl ?_
  rintro _ w6 ⟨rfl, k6⟩
  have kk6 := kk5.then_ k6
  have f16 : Bk w6 pb ([.int .i64 ((q + 1 : Nat) : Int), .int .i64 ((nn : Nat) : Int), .int .u32 ((ge : Nat) : Int), .string mk, .slice A (L.length) (c)]) 70 := (f15.no k6)
  have f17 : Bk w6 sb ([.int .u8 ((ix : Nat) : Int), .int .u32 ((gn : Nat) : Int), .slice A1 (X1.length) (c1)]) 50 := ((f12.no k5).no k6)
  have f18 : Bk w6 rs ([.int .i64 0, .int .i64 0, .int .u32 0, .string ByteArray.empty, .slice none (0) (0)]) 70 := (((f_rs_3.no k4).no k5).no k6)
  refine R_lo (lo_alloc (L := [.int .i64 0, .int .i64 0, .int .u32 0, .string ByteArray.empty, .slice none (0) (0)]) (by kernel_rfl)) rfl ?_
  rintro _ w7 ⟨out, rfl, N7⟩
  have k7 := N7.kp
  have kk7 := kk6.then_ k7
  have ne_out_pb : out ≠ pb := Nat.ne_of_gt (Nat.lt_of_lt_of_le f16.lt N7.le)
  have ne_out_sb : out ≠ sb := Nat.ne_of_gt (Nat.lt_of_lt_of_le f17.lt N7.le)
  have ne_out_rs : out ≠ rs := Nat.ne_of_gt (Nat.lt_of_lt_of_le f18.lt N7.le)
  have f_out_7 : Bk w7 out ([.int .i64 0, .int .i64 0, .int .u32 0, .string ByteArray.empty, .slice none (0) (0)]) 70 := N7.bk
  refine R_lo0 (lo_storeRow (C := [.int .i64 ((q + 1 : Nat) : Int), .int .i64 ((nn : Nat) : Int), .int .u32 ((ge : Nat) : Int), .string mk, .slice none (0) (0)]) f_out_7 (by kernel_rfl) rfl rfl (by intro u hu; simp at hu; rcases hu with rfl | rfl | rfl | rfl | rfl <;> rfl) rfl) ?_
  rintro _ w8 kf8
  obtain ⟨k8, f_out_8⟩ := kf8
  replace f_out_8 : Bk w8 out ([.int .i64 ((q + 1 : Nat) : Int), .int .i64 ((nn : Nat) : Int), .int .u32 ((ge : Nat) : Int), .string mk, .slice none (0) (0)]) 70 := f_out_8
  have kk8 := kk7.trans k8 (fun i hi => .inr (hi ▸ (Nat.le_trans kk6.size N7.le)))
  refine R_nil ?_
  refine X_then hK14 ?_
  refine C_seq (fun K19 hK19 => ?_)
  refine C_seq (fun K20 hK20 => ?_)
  refine C_region ?_
  refine R_pu (pu_fieldAddr (off := 4) (o' := 4) (by kernel_rfl) rfl rfl) rfl ?_
  have f21 : Bk w8 pb ([.int .i64 ((q + 1 : Nat) : Int), .int .i64 ((nn : Nat) : Int), .int .u32 ((ge : Nat) : Int), .string mk, .slice A (L.length) (c)]) 70 := ((f16.no k7).on k8 (Ne.symm ne_out_pb))
  refine R_pu (pu_loadK f21 (by kernel_rfl) rfl rfl) rfl ?_
  refine R_pu (pu_len Tryd.underlying29 rfl) rfl ?_
  refine R_pu (pu_move rfl) rfl ?_
  refine R_nil ?_
  refine X_then hK20 ?_
  refine C_block ?_
  have f22 : Bk w8 sb ([.int .u8 ((ix : Nat) : Int), .int .u32 ((gn : Nat) : Int), .slice A1 (X1.length) (c1)]) 50 := ((f17.no k7).on k8 (Ne.symm ne_out_sb))
  have f23 : Bk w8 rs ([.int .i64 0, .int .i64 0, .int .u32 0, .string ByteArray.empty, .slice none (0) (0)]) 70 := ((f18.no k7).on k8 (Ne.symm ne_out_rs))
  have sw24 := Sw.nil 50 w8.heap.size w8 w8.heap.size
  have z25 := Nat.le_refl w8.heap.size
  refine C_loop (fun m_ l_ wr => ∃ k : Nat, ∃ An : Option Addr, ∃ cn : Nat, ∃ LN : List Shr, (m_ = L.length - k) ∧ (l_ = [(3, .pointer (some ⟨pb, 0, none⟩)), (5, .pointer (some ⟨sb, 0, none⟩)), (6, .pointer (some ⟨rs, 0, none⟩)), (7, .bool false), (8, .nilIface), (11, .pointer (some ⟨out, 0, none⟩)), (47, .slice A (L.length) (c)), (48, .int .i64 ((L.length : Nat) : Int)), (49, .int .i64 ((k : Nat) : Int))]) ∧ (k ≤ L.length) ∧ (LN.map Shr.key = (L.take k).map Shr.key) ∧ (Kp No w wr) ∧ (Bk wr pb ([.int .i64 ((q + 1 : Nat) : Int), .int .i64 ((nn : Nat) : Int), .int .u32 ((ge : Nat) : Int), .string mk, .slice A (L.length) (c)]) 70) ∧ (Bk wr sb ([.int .u8 ((ix : Nat) : Int), .int .u32 ((gn : Nat) : Int), .slice A1 (X1.length) (c1)]) 50) ∧ (Bk wr rs ([.int .i64 0, .int .i64 0, .int .u32 0, .string ByteArray.empty, .slice none (0) (0)]) 70) ∧ (Bk wr out ([.int .i64 ((q + 1 : Nat) : Int), .int .i64 ((nn : Nat) : Int), .int .u32 ((ge : Nat) : Int), .string mk, .slice An ((LN).length) (cn)]) 70) ∧ (Sw 50 w8.heap.size wr w8.heap.size (.slice An ((LN).length) (cn)) (LN) ∧ w8.heap.size ≤ (wr).heap.size)) (L.length - 0) [(3, .pointer (some ⟨pb, 0, none⟩)), (5, .pointer (some ⟨sb, 0, none⟩)), (6, .pointer (some ⟨rs, 0, none⟩)), (7, .bool false), (8, .nilIface), (11, .pointer (some ⟨out, 0, none⟩)), (47, .slice A (L.length) (c)), (48, .int .i64 ((L.length : Nat) : Int)), (49, .int .i64 0)] (Sub.cons rfl (Sub.cons rfl (Sub.cons rfl (Sub.cons rfl (Sub.cons rfl (Sub.cons rfl (Sub.cons rfl (Sub.cons rfl (Sub.cons rfl (Sub.nil _)))))))))) ⟨0, none, 0, [], rfl, rfl, by omega, (by simp), kk8, f21, f22, f23, Bk.eq f_out_8 rfl, ⟨by exact sw24, z25⟩⟩ ?_
  rintro _ _ w9 ⟨k, An, cn, LN, rfl, rfl, hk, hLN, kk9, f_pb_9, f_sb_9, f_rs_9, f_out_9, on_9⟩
  have hLl : LN.length = k := by have := congrArg List.length hLN; rw [List.length_map, List.length_map, List.length_take] at this; omega
  refine C_seq (fun K26 hK26 => ?_)
  refine C_region ?_
  refine R_pu (pu_lss (p := k < L.length) rfl rfl (by omega)) rfl ?_
  refine R_nil ?_
  refine X_then hK26 ?_
  refine C_seq (fun K27 hK27 => ?_)
  refine C_dec rfl (fun h50 => ?_) (fun h50 => ?_)
  · refine C_skip ?_
    refine X_then hK27 ?_
    refine C_seq (fun K28 hK28 => ?_)
    refine C_block ?_
    refine C_seq (fun K29 hK29 => ?_)
    refine C_region ?_
    obtain ⟨s1, e_s1⟩ : ∃ q_, (L)[k]? = some q_ := ⟨_, List.getElem?_eq_getElem (by first | omega | (simp; done) | (simp; omega))⟩
    have ok_s1 := HS.get e_s1
    have okb_s1 := ok_s1.bs
    have bi_s1 : s1.ix < 256 := ok_s1.ix
    refine R_pu (pu_indexAddrH (HS.keptNo kk9) Tryd.underlying29 (by kernel_rfl) rfl rfl rfl rfl e_s1) rfl ?_
    refine R_pu (pu_loadHr (HS.keptNo kk9) e_s1 (by kernel_rfl) (by kernel_rfl) rfl) rfl ?_
    refine R_lo (lo_alloc (L := [.int .u8 0, .int .u32 0, .slice none (0) (0)]) (by kernel_rfl)) rfl ?_
    rintro _ w10 ⟨b1, rfl, N10⟩
    have k10 := N10.kp
    have kk10 := kk9.then_ k10
    have ne_b1_pb : b1 ≠ pb := Nat.ne_of_gt (Nat.lt_of_lt_of_le f_pb_9.lt N10.le)
    have ne_b1_sb : b1 ≠ sb := Nat.ne_of_gt (Nat.lt_of_lt_of_le f_sb_9.lt N10.le)
    have ne_b1_rs : b1 ≠ rs := Nat.ne_of_gt (Nat.lt_of_lt_of_le f_rs_9.lt N10.le)
    have ne_b1_out : b1 ≠ out := Nat.ne_of_gt (Nat.lt_of_lt_of_le f_out_9.lt N10.le)
    have f_b1_10 : Bk w10 b1 ([.int .u8 0, .int .u32 0, .slice none (0) (0)]) 50 := N10.bk
    refine R_lo0 (lo_storeRow (C := [.int .u8 ((s1.ix : Nat) : Int), .int .u32 ((s1.gen : Nat) : Int), .slice s1.A (s1.X.length) (s1.c)]) f_b1_10 (by kernel_rfl) rfl rfl (by intro u hu; simp at hu; rcases hu with rfl | rfl | rfl <;> rfl) rfl) ?_
    rintro _ w11 kf11
    obtain ⟨k11, f_b1_11⟩ := kf11
    replace f_b1_11 : Bk w11 b1 ([.int .u8 ((s1.ix : Nat) : Int), .int .u32 ((s1.gen : Nat) : Int), .slice s1.A (s1.X.length) (s1.c)]) 50 := f_b1_11
    have kk11 := kk10.trans k11 (fun i hi => .inr (hi ▸ (Nat.le_trans kk9.size N10.le)))
    refine R_nil ?_
    refine X_then hK29 ?_
    have f30 : Bk w11 pb ([.int .i64 ((q + 1 : Nat) : Int), .int .i64 ((nn : Nat) : Int), .int .u32 ((ge : Nat) : Int), .string mk, .slice A (L.length) (c)]) 70 := ((f_pb_9.no k10).on k11 (Ne.symm ne_b1_pb))
    have f31 : Bk w11 sb ([.int .u8 ((ix : Nat) : Int), .int .u32 ((gn : Nat) : Int), .slice A1 (X1.length) (c1)]) 50 := ((f_sb_9.no k10).on k11 (Ne.symm ne_b1_sb))
    have f32 : Bk w11 rs ([.int .i64 0, .int .i64 0, .int .u32 0, .string ByteArray.empty, .slice none (0) (0)]) 70 := ((f_rs_9.no k10).on k11 (Ne.symm ne_b1_rs))
    have f33 : Bk w11 out ([.int .i64 ((q + 1 : Nat) : Int), .int .i64 ((nn : Nat) : Int), .int .u32 ((ge : Nat) : Int), .string mk, .slice An ((LN).length) (cn)]) 70 := ((f_out_9.no k10).on k11 (Ne.symm ne_b1_out))
    refine Z_begin (fun W => Kp No w W ∧ Bk W pb ([.int .i64 ((q + 1 : Nat) : Int), .int .i64 ((nn : Nat) : Int), .int .u32 ((ge : Nat) : Int), .string mk, .slice A (L.length) (c)]) 70 ∧ Bk W sb ([.int .u8 ((ix : Nat) : Int), .int .u32 ((gn : Nat) : Int), .slice A1 (X1.length) (c1)]) 50 ∧ Bk W rs ([.int .i64 0, .int .i64 0, .int .u32 0, .string ByteArray.empty, .slice none (0) (0)]) 70 ∧ Bk W out ([.int .i64 ((q + 1 : Nat) : Int), .int .i64 ((nn : Nat) : Int), .int .u32 ((ge : Nat) : Int), .string mk, .slice An ((LN).length) (cn)]) 70) 7 8 rfl (by kernel_rfl) ⟨kk11.drew, f30.draw, f31.draw, f32.draw, f33.draw⟩ ?_
    intro w12 k12 _
    have kk12 := kk11.then_ k12
    refine Z_take 0 rfl (by kernel_rfl) (by kernel_rfl) (by kernel_rfl) (by kernel_rfl) (by kernel_rfl) (fun _ _ _ h => h) rfl (fun W hS => pu_fieldAddr (off := 4) (o' := 4) (by kernel_rfl) rfl rfl) ?_
    refine Z_take 1 rfl (by kernel_rfl) (by kernel_rfl) (by kernel_rfl) (by kernel_rfl) (by kernel_rfl) (fun _ _ _ h => h) rfl (fun W hS => pu_loadK hS.2.2.2.2 (by kernel_rfl) rfl rfl) ?_
    have f34 : Bk w12 b1 ([.int .u8 ((s1.ix : Nat) : Int), .int .u32 ((s1.gen : Nat) : Int), .slice s1.A (s1.X.length) (s1.c)]) 50 := (f_b1_11.no k12)
    have f35 : Bk w12 pb ([.int .i64 ((q + 1 : Nat) : Int), .int .i64 ((nn : Nat) : Int), .int .u32 ((ge : Nat) : Int), .string mk, .slice A (L.length) (c)]) 70 := (f30.no k12)
    have f36 : Bk w12 sb ([.int .u8 ((ix : Nat) : Int), .int .u32 ((gn : Nat) : Int), .slice A1 (X1.length) (c1)]) 50 := (f31.no k12)
    have f37 : Bk w12 rs ([.int .i64 0, .int .i64 0, .int .u32 0, .string ByteArray.empty, .slice none (0) (0)]) 70 := (f32.no k12)
    have f38 : Bk w12 out ([.int .i64 ((q + 1 : Nat) : Int), .int .i64 ((nn : Nat) : Int), .int .u32 ((ge : Nat) : Int), .string mk, .slice An ((LN).length) (cn)]) 70 := (f33.no k12)
    refine Z_one 2 (by kernel_rfl) (Nz_pu rfl (pu_loadRow (len := 3) f34 (by kernel_rfl) (by kernel_rfl) rfl rfl) rfl ⟨⟨kk12, f35, f36, f37, f38⟩, ?_⟩)
    have ob39 := (((on_9.1.keptNo k10).onN k11 on_9.1 N10.le).keptNo k12)
    have lm40 := ob39.top
    refine Z_one 3 (by kernel_rfl) (Nz_lo rfl (lo_call (by kernel_rfl) rfl (copied_ s1.ix s1.gen s1.A s1.X s1.c _ (okb_s1.keptNo kk12) ok_s1.le ⟨by have := (hC k s1 e_s1).2.2.2.2; omega, by have := (hC k s1 e_s1).2.2.2.2; omega⟩)) rfl ?_)
    rintro _ w13 ⟨A_cp13, c_cp13, rfl, Q13, k13⟩
    have kk13 := kk12.then_ k13
    have z41 : w12.heap.size ≤ w13.heap.size := k13.size
    have f42 : Bk w13 pb ([.int .i64 ((q + 1 : Nat) : Int), .int .i64 ((nn : Nat) : Int), .int .u32 ((ge : Nat) : Int), .string mk, .slice A (L.length) (c)]) 70 := (f35.no k13)
    have f43 : Bk w13 sb ([.int .u8 ((ix : Nat) : Int), .int .u32 ((gn : Nat) : Int), .slice A1 (X1.length) (c1)]) 50 := (f36.no k13)
    have f44 : Bk w13 rs ([.int .i64 0, .int .i64 0, .int .u32 0, .string ByteArray.empty, .slice none (0) (0)]) 70 := (f37.no k13)
    have f45 : Bk w13 out ([.int .i64 ((q + 1 : Nat) : Int), .int .i64 ((nn : Nat) : Int), .int .u32 ((ge : Nat) : Int), .string mk, .slice An ((LN).length) (cn)]) 70 := (f38.no k13)
    refine ⟨⟨kk13, f42, f43, f44, f45⟩, ?_⟩
    have f46 : Bk w13 b1 ([.int .u8 ((s1.ix : Nat) : Int), .int .u32 ((s1.gen : Nat) : Int), .slice s1.A (s1.X.length) (s1.c)]) 50 := (f34.no k13)
    have ob47 := (ob39.keptNo k13)
    refine Z_one 4 (by kernel_rfl) (Nz_lo rfl (lo_buildSlice (L := [.int .u8 ((s1.ix : Nat) : Int), .int .u32 ((s1.gen : Nat) : Int), .slice A_cp13 ((s1.X).length) (c_cp13)]) Tryd.underlying29 rfl (by kernel_rfl)) rfl ?_)
    rintro _ w14 ⟨p13_4, rfl, N14⟩
    have k14 := N14.kp
    have kk14 := kk13.then_ k14
    have ne_p13_4_pb : p13_4 ≠ pb := Nat.ne_of_gt (Nat.lt_of_lt_of_le f42.lt N14.le)
    have ne_p13_4_sb : p13_4 ≠ sb := Nat.ne_of_gt (Nat.lt_of_lt_of_le f43.lt N14.le)
    have ne_p13_4_rs : p13_4 ≠ rs := Nat.ne_of_gt (Nat.lt_of_lt_of_le f44.lt N14.le)
    have ne_p13_4_out : p13_4 ≠ out := Nat.ne_of_gt (Nat.lt_of_lt_of_le f45.lt N14.le)
    have ne_p13_4_b1 : p13_4 ≠ b1 := Nat.ne_of_gt (Nat.lt_of_lt_of_le f46.lt N14.le)
    have f_p13_4_14 : Bk w14 p13_4 ([.int .u8 ((s1.ix : Nat) : Int), .int .u32 ((s1.gen : Nat) : Int), .slice A_cp13 ((s1.X).length) (c_cp13)]) 50 := N14.bk
    have f48 : Bk w14 pb ([.int .i64 ((q + 1 : Nat) : Int), .int .i64 ((nn : Nat) : Int), .int .u32 ((ge : Nat) : Int), .string mk, .slice A (L.length) (c)]) 70 := (f42.no k14)
    have f49 : Bk w14 sb ([.int .u8 ((ix : Nat) : Int), .int .u32 ((gn : Nat) : Int), .slice A1 (X1.length) (c1)]) 50 := (f43.no k14)
    have f50 : Bk w14 rs ([.int .i64 0, .int .i64 0, .int .u32 0, .string ByteArray.empty, .slice none (0) (0)]) 70 := (f44.no k14)
    have f51 : Bk w14 out ([.int .i64 ((q + 1 : Nat) : Int), .int .i64 ((nn : Nat) : Int), .int .u32 ((ge : Nat) : Int), .string mk, .slice An ((LN).length) (cn)]) 70 := (f45.no k14)
    refine ⟨⟨kk14, f48, f49, f50, f51⟩, ?_⟩
    have ob52 := (ob47.keptNo k14)
    have ob53 := (Q13.keptNo k14)
    refine Z_one 5 (by kernel_rfl) (Nz_lo rfl (lo_apps (L := LN) (M := [(⟨s1.ix, s1.gen, A_cp13, s1.X, c_cp13⟩ : Shr)]) Tryd.underlying29 (by kernel_rfl) ob52 ob52.le.1 rfl rfl rfl (Ss.one (s := ⟨s1.ix, s1.gen, A_cp13, s1.X, c_cp13⟩) f_p13_4_14 (Shr.okOb ob53 ok_s1.ix ok_s1.gen)) (Sw.fresh ob39 ob53 (Nat.le_trans (Nat.le_trans (Nat.le_trans on_9.2 k10.size) k11.size) k12.size)) (by simp) (by rw [hLl]; simp; omega) (Nat.le_trans (Nat.le_trans (Nat.le_trans (Nat.le_trans (Nat.le_trans on_9.2 k10.size) k11.size) k12.size) k13.size) k14.size)) rfl ?_)
    rintro _ w15 ⟨A_15, c_15, rfl, p15⟩
    have k15 := p15.kp
    have kk15 := kk14.trans k15 (fun i hi => .inr (Nat.le_trans (kk8).size hi))
    have f54 : Bk w15 pb ([.int .i64 ((q + 1 : Nat) : Int), .int .i64 ((nn : Nat) : Int), .int .u32 ((ge : Nat) : Int), .string mk, .slice A (L.length) (c)]) 70 := (f48.kept k15 (by have := f21.lt; omega))
    have f55 : Bk w15 sb ([.int .u8 ((ix : Nat) : Int), .int .u32 ((gn : Nat) : Int), .slice A1 (X1.length) (c1)]) 50 := (f49.kept k15 (by have := f22.lt; omega))
    have f56 : Bk w15 rs ([.int .i64 0, .int .i64 0, .int .u32 0, .string ByteArray.empty, .slice none (0) (0)]) 70 := (f50.kept k15 (by have := f23.lt; omega))
    have f57 : Bk w15 out ([.int .i64 ((q + 1 : Nat) : Int), .int .i64 ((nn : Nat) : Int), .int .u32 ((ge : Nat) : Int), .string mk, .slice An ((LN).length) (cn)]) 70 := (f51.kept k15 (by have := f_out_8.lt; omega))
    refine ⟨⟨kk15, f54, f55, f56, f57⟩, ?_⟩
    refine Z_take 6 rfl (by kernel_rfl) (by kernel_rfl) (by kernel_rfl) (by kernel_rfl) (by kernel_rfl) (fun _ _ _ h => h) rfl (fun W hS => pu_fieldAddr (off := 4) (o' := 4) (by kernel_rfl) rfl rfl) ?_
    refine Z_last 7 (by kernel_rfl) rfl (by kernel_rfl) (by kernel_rfl) (lo_store f57 (by kernel_rfl) rfl rfl rfl (show 4 < 5 by decide)) ?_
    rintro _ w16 kf16
    obtain ⟨k16, f_out_16⟩ := kf16
    replace f_out_16 : Bk w16 out ([.int .i64 ((q + 1 : Nat) : Int), .int .i64 ((nn : Nat) : Int), .int .u32 ((ge : Nat) : Int), .string mk, .slice A_15 ((LN ++ ([(⟨s1.ix, s1.gen, A_cp13, s1.X, c_cp13⟩ : Shr)])).length) (c_15)]) 70 := f_out_16
    have kk16 := kk15.trans k16 (fun i hi => .inr (hi ▸ (Nat.le_trans kk6.size N7.le)))
    refine X_in_normal ?_
    refine X_then hK28 ?_
    refine C_region ?_
    refine R_pu (pu_add (z := ((k + 1 : Nat) : Int)) rfl rfl (by rw [IntKind.wrap_i64]; omega)) rfl ?_
    refine R_pu (pu_move rfl) rfl ?_
    refine R_nil ?_
    have f58 : Bk w16 pb ([.int .i64 ((q + 1 : Nat) : Int), .int .i64 ((nn : Nat) : Int), .int .u32 ((ge : Nat) : Int), .string mk, .slice A (L.length) (c)]) 70 := (f54.on k16 (Ne.symm ne_out_pb))
    have f59 : Bk w16 sb ([.int .u8 ((ix : Nat) : Int), .int .u32 ((gn : Nat) : Int), .slice A1 (X1.length) (c1)]) 50 := (f55.on k16 (Ne.symm ne_out_sb))
    have f60 : Bk w16 rs ([.int .i64 0, .int .i64 0, .int .u32 0, .string ByteArray.empty, .slice none (0) (0)]) 70 := (f56.on k16 (Ne.symm ne_out_rs))
    have ob61 := (p15.ob.on k16 (by have := f_out_8.lt; omega))
    refine X_round (L.length - (k + 1)) [(3, .pointer (some ⟨pb, 0, none⟩)), (5, .pointer (some ⟨sb, 0, none⟩)), (6, .pointer (some ⟨rs, 0, none⟩)), (7, .bool false), (8, .nilIface), (11, .pointer (some ⟨out, 0, none⟩)), (47, .slice A (L.length) (c)), (48, .int .i64 ((L.length : Nat) : Int)), (49, .int .i64 (((k + 1) : Nat) : Int))] (by omega) (Sub.cons rfl (Sub.cons rfl (Sub.cons rfl (Sub.cons rfl (Sub.cons rfl (Sub.cons rfl (Sub.cons rfl (Sub.cons rfl (Sub.cons rfl (Sub.nil _)))))))))) ⟨k + 1, A_15, c_15, LN ++ ([(⟨s1.ix, s1.gen, A_cp13, s1.X, c_cp13⟩ : Shr)]), rfl, rfl, by omega, (by rw [List.map_append, hLN, List.take_add_one, e_s1, List.map_append]; rfl), kk16, f58, f59, f60, f_out_16, ⟨by exact ob61, (Nat.le_trans (Nat.le_trans (Nat.le_trans (Nat.le_trans (Nat.le_trans (Nat.le_trans (Nat.le_trans on_9.2 k10.size) k11.size) k12.size) k13.size) k14.size) k15.size) k16.size)⟩⟩
  · refine C_exit ?_
    refine X_then_exit (X_then_exit (X_in_eq ?_))
    refine X_then hK19 ?_
    refine C_seq (fun K62 hK62 => ?_)
    refine Z_begin (fun W => Kp No w W ∧ Bk W pb ([.int .i64 ((q + 1 : Nat) : Int), .int .i64 ((nn : Nat) : Int), .int .u32 ((ge : Nat) : Int), .string mk, .slice A (L.length) (c)]) 70 ∧ Bk W sb ([.int .u8 ((ix : Nat) : Int), .int .u32 ((gn : Nat) : Int), .slice A1 (X1.length) (c1)]) 50 ∧ Bk W rs ([.int .i64 0, .int .i64 0, .int .u32 0, .string ByteArray.empty, .slice none (0) (0)]) 70 ∧ Bk W out ([.int .i64 ((q + 1 : Nat) : Int), .int .i64 ((nn : Nat) : Int), .int .u32 ((ge : Nat) : Int), .string mk, .slice An ((LN).length) (cn)]) 70) 7 8 rfl (by kernel_rfl) ⟨kk9.drew, f_pb_9.draw, f_sb_9.draw, f_rs_9.draw, f_out_9.draw⟩ ?_
    intro w17 k17 _
    have kk17 := kk9.then_ k17
    refine Z_take 0 rfl (by kernel_rfl) (by kernel_rfl) (by kernel_rfl) (by kernel_rfl) (by kernel_rfl) (fun _ _ _ h => h) rfl (fun W hS => pu_fieldAddr (off := 4) (o' := 4) (by kernel_rfl) rfl rfl) ?_
    refine Z_take 1 rfl (by kernel_rfl) (by kernel_rfl) (by kernel_rfl) (by kernel_rfl) (by kernel_rfl) (fun _ _ _ h => h) rfl (fun W hS => pu_loadK hS.2.2.2.2 (by kernel_rfl) rfl rfl) ?_
    refine Z_take 2 rfl (by kernel_rfl) (by kernel_rfl) (by kernel_rfl) (by kernel_rfl) (by kernel_rfl) (fun _ _ _ h => h) rfl (fun W hS => pu_loadRow (len := 3) hS.2.2.1 (by kernel_rfl) (by kernel_rfl) rfl rfl) ?_
    have ob63 := (on_9.1.keptNo k17)
    have f64 : Bk w17 pb ([.int .i64 ((q + 1 : Nat) : Int), .int .i64 ((nn : Nat) : Int), .int .u32 ((ge : Nat) : Int), .string mk, .slice A (L.length) (c)]) 70 := (f_pb_9.no k17)
    have f65 : Bk w17 sb ([.int .u8 ((ix : Nat) : Int), .int .u32 ((gn : Nat) : Int), .slice A1 (X1.length) (c1)]) 50 := (f_sb_9.no k17)
    have f66 : Bk w17 rs ([.int .i64 0, .int .i64 0, .int .u32 0, .string ByteArray.empty, .slice none (0) (0)]) 70 := (f_rs_9.no k17)
    have f67 : Bk w17 out ([.int .i64 ((q + 1 : Nat) : Int), .int .i64 ((nn : Nat) : Int), .int .u32 ((ge : Nat) : Int), .string mk, .slice An ((LN).length) (cn)]) 70 := (f_out_9.no k17)
    have lm68 := ob63.top
    refine Z_one 3 (by kernel_rfl) (Nz_lo rfl (lo_call (by kernel_rfl) rfl (copied_ ix gn A1 X1 c1 _ (HB.keptNo kk17) hc1 ⟨by omega, by omega⟩)) rfl ?_)
    rintro _ w18 ⟨A_cp15, c_cp15, rfl, Q18, k18⟩
    have kk18 := kk17.then_ k18
    have z69 : w17.heap.size ≤ w18.heap.size := k18.size
    have f70 : Bk w18 pb ([.int .i64 ((q + 1 : Nat) : Int), .int .i64 ((nn : Nat) : Int), .int .u32 ((ge : Nat) : Int), .string mk, .slice A (L.length) (c)]) 70 := (f64.no k18)
    have f71 : Bk w18 sb ([.int .u8 ((ix : Nat) : Int), .int .u32 ((gn : Nat) : Int), .slice A1 (X1.length) (c1)]) 50 := (f65.no k18)
    have f72 : Bk w18 rs ([.int .i64 0, .int .i64 0, .int .u32 0, .string ByteArray.empty, .slice none (0) (0)]) 70 := (f66.no k18)
    have f73 : Bk w18 out ([.int .i64 ((q + 1 : Nat) : Int), .int .i64 ((nn : Nat) : Int), .int .u32 ((ge : Nat) : Int), .string mk, .slice An ((LN).length) (cn)]) 70 := (f67.no k18)
    refine ⟨⟨kk18, f70, f71, f72, f73⟩, ?_⟩
    have ob74 := (ob63.keptNo k18)
    refine Z_one 4 (by kernel_rfl) (Nz_lo rfl (lo_buildSlice (L := [.int .u8 ((ix : Nat) : Int), .int .u32 ((gn : Nat) : Int), .slice A_cp15 ((X1).length) (c_cp15)]) Tryd.underlying29 rfl (by kernel_rfl)) rfl ?_)
    rintro _ w19 ⟨p15_4, rfl, N19⟩
    have k19 := N19.kp
    have kk19 := kk18.then_ k19
    have ne_p15_4_pb : p15_4 ≠ pb := Nat.ne_of_gt (Nat.lt_of_lt_of_le f70.lt N19.le)
    have ne_p15_4_sb : p15_4 ≠ sb := Nat.ne_of_gt (Nat.lt_of_lt_of_le f71.lt N19.le)
    have ne_p15_4_rs : p15_4 ≠ rs := Nat.ne_of_gt (Nat.lt_of_lt_of_le f72.lt N19.le)
    have ne_p15_4_out : p15_4 ≠ out := Nat.ne_of_gt (Nat.lt_of_lt_of_le f73.lt N19.le)
    have f_p15_4_19 : Bk w19 p15_4 ([.int .u8 ((ix : Nat) : Int), .int .u32 ((gn : Nat) : Int), .slice A_cp15 ((X1).length) (c_cp15)]) 50 := N19.bk
    have f75 : Bk w19 pb ([.int .i64 ((q + 1 : Nat) : Int), .int .i64 ((nn : Nat) : Int), .int .u32 ((ge : Nat) : Int), .string mk, .slice A (L.length) (c)]) 70 := (f70.no k19)
    have f76 : Bk w19 sb ([.int .u8 ((ix : Nat) : Int), .int .u32 ((gn : Nat) : Int), .slice A1 (X1.length) (c1)]) 50 := (f71.no k19)
    have f77 : Bk w19 rs ([.int .i64 0, .int .i64 0, .int .u32 0, .string ByteArray.empty, .slice none (0) (0)]) 70 := (f72.no k19)
    have f78 : Bk w19 out ([.int .i64 ((q + 1 : Nat) : Int), .int .i64 ((nn : Nat) : Int), .int .u32 ((ge : Nat) : Int), .string mk, .slice An ((LN).length) (cn)]) 70 := (f73.no k19)
    refine ⟨⟨kk19, f75, f76, f77, f78⟩, ?_⟩
    have ob79 := (ob74.keptNo k19)
    have ob80 := (Q18.keptNo k19)
    refine Z_one 5 (by kernel_rfl) (Nz_lo rfl (lo_apps (L := LN) (M := [(⟨ix, gn, A_cp15, X1, c_cp15⟩ : Shr)]) Tryd.underlying29 (by kernel_rfl) ob79 ob79.le.1 rfl rfl rfl (Ss.one (s := ⟨ix, gn, A_cp15, X1, c_cp15⟩) f_p15_4_19 (Shr.okOb ob80 hix hgn)) (Sw.fresh ob63 ob80 (Nat.le_trans on_9.2 k17.size)) (by simp) (by rw [hLl]; simp; omega) (Nat.le_trans (Nat.le_trans (Nat.le_trans on_9.2 k17.size) k18.size) k19.size)) rfl ?_)
    rintro _ w20 ⟨A_20, c_20, rfl, p20⟩
    have k20 := p20.kp
    have kk20 := kk19.trans k20 (fun i hi => .inr (Nat.le_trans (kk8).size hi))
    have f81 : Bk w20 pb ([.int .i64 ((q + 1 : Nat) : Int), .int .i64 ((nn : Nat) : Int), .int .u32 ((ge : Nat) : Int), .string mk, .slice A (L.length) (c)]) 70 := (f75.kept k20 (by have := f21.lt; omega))
    have f82 : Bk w20 sb ([.int .u8 ((ix : Nat) : Int), .int .u32 ((gn : Nat) : Int), .slice A1 (X1.length) (c1)]) 50 := (f76.kept k20 (by have := f22.lt; omega))
    have f83 : Bk w20 rs ([.int .i64 0, .int .i64 0, .int .u32 0, .string ByteArray.empty, .slice none (0) (0)]) 70 := (f77.kept k20 (by have := f23.lt; omega))
    have f84 : Bk w20 out ([.int .i64 ((q + 1 : Nat) : Int), .int .i64 ((nn : Nat) : Int), .int .u32 ((ge : Nat) : Int), .string mk, .slice An ((LN).length) (cn)]) 70 := (f78.kept k20 (by have := f_out_8.lt; omega))
    refine ⟨⟨kk20, f81, f82, f83, f84⟩, ?_⟩
    refine Z_take 6 rfl (by kernel_rfl) (by kernel_rfl) (by kernel_rfl) (by kernel_rfl) (by kernel_rfl) (fun _ _ _ h => h) rfl (fun W hS => pu_fieldAddr (off := 4) (o' := 4) (by kernel_rfl) rfl rfl) ?_
    refine Z_last 7 (by kernel_rfl) rfl (by kernel_rfl) (by kernel_rfl) (lo_store f84 (by kernel_rfl) rfl rfl rfl (show 4 < 5 by decide)) ?_
    rintro _ w21 kf21
    obtain ⟨k21, f_out_21⟩ := kf21
    replace f_out_21 : Bk w21 out ([.int .i64 ((q + 1 : Nat) : Int), .int .i64 ((nn : Nat) : Int), .int .u32 ((ge : Nat) : Int), .string mk, .slice A_20 ((LN ++ ([(⟨ix, gn, A_cp15, X1, c_cp15⟩ : Shr)])).length) (c_20)]) 70 := f_out_21
    have kk21 := kk20.trans k21 (fun i hi => .inr (hi ▸ (Nat.le_trans kk6.size N7.le)))
    refine X_then hK62 ?_
    refine C_seq (fun K85 hK85 => ?_)
    have f86 : Bk w21 pb ([.int .i64 ((q + 1 : Nat) : Int), .int .i64 ((nn : Nat) : Int), .int .u32 ((ge : Nat) : Int), .string mk, .slice A (L.length) (c)]) 70 := (f81.on k21 (Ne.symm ne_out_pb))
    have f87 : Bk w21 sb ([.int .u8 ((ix : Nat) : Int), .int .u32 ((gn : Nat) : Int), .slice A1 (X1.length) (c1)]) 50 := (f82.on k21 (Ne.symm ne_out_sb))
    refine D_begin (fun W => Kp No w W ∧ Bk W pb ([.int .i64 ((q + 1 : Nat) : Int), .int .i64 ((nn : Nat) : Int), .int .u32 ((ge : Nat) : Int), .string mk, .slice A (L.length) (c)]) 70 ∧ Bk W sb ([.int .u8 ((ix : Nat) : Int), .int .u32 ((gn : Nat) : Int), .slice A1 (X1.length) (c1)]) 50 ∧ Bk W out ([.int .i64 ((q + 1 : Nat) : Int), .int .i64 ((nn : Nat) : Int), .int .u32 ((ge : Nat) : Int), .string mk, .slice A_20 ((LN ++ ([(⟨ix, gn, A_cp15, X1, c_cp15⟩ : Shr)])).length) (c_20)]) 70) 11 rfl (by kernel_rfl) ⟨kk21.drew, f86.draw, f87.draw, f_out_21.draw⟩ ?_
    intro w22 k22 _
    have kk22 := kk21.then_ k22
    refine D_take 0 rfl (by kernel_rfl) (by kernel_rfl) (by kernel_rfl) (fun _ _ _ h => h) rfl (fun W hS => pu_loadRow (len := 5) hS.2.2.2 (by kernel_rfl) (by kernel_rfl) rfl rfl) ?_
    refine D_take 1 rfl (by kernel_rfl) (by kernel_rfl) (by kernel_rfl) (fun _ _ _ h => h) rfl (fun W hS => pu_fieldAddr (off := 4) (o' := 4) (by kernel_rfl) rfl rfl) ?_
    refine D_take 2 rfl (by kernel_rfl) (by kernel_rfl) (by kernel_rfl) (fun _ _ _ h => h) rfl (fun W hS => pu_loadK hS.2.2.2 (by kernel_rfl) rfl rfl) ?_
    refine D_take 3 rfl (by kernel_rfl) (by kernel_rfl) (by kernel_rfl) (fun _ _ _ h => h) rfl (fun W hS => pu_len Tryd.underlying29 rfl) ?_
    refine D_take 4 rfl (by kernel_rfl) (by kernel_rfl) (by kernel_rfl) (fun _ _ _ h => h) rfl (fun W hS => pu_fieldAddr (off := 0) (o' := 0) (by kernel_rfl) rfl rfl) ?_
    refine D_take 5 rfl (by kernel_rfl) (by kernel_rfl) (by kernel_rfl) (fun _ _ _ h => h) rfl (fun W hS => pu_fieldAddr (off := 0) (o' := 0) (by kernel_rfl) rfl rfl) ?_
    refine D_take 6 rfl (by kernel_rfl) (by kernel_rfl) (by kernel_rfl) (fun _ _ _ h => h) rfl (fun W hS => pu_loadK hS.2.1 (by kernel_rfl) rfl rfl) ?_
    refine D_take 7 rfl (by kernel_rfl) (by kernel_rfl) (by kernel_rfl) (fun _ _ _ h => h) rfl (fun W hS => pu_eql (p := ((LN ++ ([(⟨ix, gn, A_cp15, X1, c_cp15⟩ : Shr)])).length) = (q + 1)) rfl rfl (by omega)) ?_
    have f88 : Bk w22 rs ([.int .i64 0, .int .i64 0, .int .u32 0, .string ByteArray.empty, .slice none (0) (0)]) 70 := ((f83.on k21 (Ne.symm ne_out_rs)).no k22)
    refine D_one 8 (by kernel_rfl) (Nx_lo0 rfl (lo_storeRow (C := [.int .i64 ((q + 1 : Nat) : Int), .int .i64 ((nn : Nat) : Int), .int .u32 ((ge : Nat) : Int), .string mk, .slice A_20 ((LN ++ ([(⟨ix, gn, A_cp15, X1, c_cp15⟩ : Shr)])).length) (c_20)]) f88 (by kernel_rfl) rfl rfl (by intro u hu; simp at hu; rcases hu with rfl | rfl | rfl | rfl | rfl <;> rfl) rfl) ?_)
    rintro _ w23 kf23
    obtain ⟨k23, f_rs_23⟩ := kf23
    replace f_rs_23 : Bk w23 rs ([.int .i64 ((q + 1 : Nat) : Int), .int .i64 ((nn : Nat) : Int), .int .u32 ((ge : Nat) : Int), .string mk, .slice A_20 ((LN ++ ([(⟨ix, gn, A_cp15, X1, c_cp15⟩ : Shr)])).length) (c_20)]) 70 := f_rs_23
    have kk23 := kk22.trans k23 (fun i hi => .inr (hi ▸ (Nat.le_trans kk2.size N3.le)))
    have f89 : Bk w23 pb ([.int .i64 ((q + 1 : Nat) : Int), .int .i64 ((nn : Nat) : Int), .int .u32 ((ge : Nat) : Int), .string mk, .slice A (L.length) (c)]) 70 := ((f86.no k22).on k23 (Ne.symm ne_rs_pb))
    have f90 : Bk w23 sb ([.int .u8 ((ix : Nat) : Int), .int .u32 ((gn : Nat) : Int), .slice A1 (X1.length) (c1)]) 50 := ((f87.no k22).on k23 (Ne.symm ne_rs_sb))
    have f91 : Bk w23 out ([.int .i64 ((q + 1 : Nat) : Int), .int .i64 ((nn : Nat) : Int), .int .u32 ((ge : Nat) : Int), .string mk, .slice A_20 ((LN ++ ([(⟨ix, gn, A_cp15, X1, c_cp15⟩ : Shr)])).length) (c_20)]) 70 := ((f_out_21.no k22).on k23 ne_out_rs)
    refine ⟨⟨kk23, f89, f90, f91⟩, ?_⟩
    refine D_take 9 rfl (by kernel_rfl) (by kernel_rfl) (by kernel_rfl) (fun _ _ _ h => h) rfl (fun W hS => pu_assign rfl) ?_
    refine D_take 10 rfl (by kernel_rfl) (by kernel_rfl) (by kernel_rfl) (fun _ _ _ h => h) rfl (fun W hS => pu_assign rfl) ?_
    refine D_done (by kernel_rfl) ?_
    refine X_then hK85 ?_
    refine C_ret ?_
    have ob92 := (((p20.ob.on k21 (by have := f_out_8.lt; omega)).keptNo k22).on k23 (by have := f23.lt; omega))
    exact X_retCTT (len := 5) (.inl rfl) rfl rfl f_rs_23 (by kernel_rfl) (by kernel_rfl) rfl rfl rfl ⟨_, _, _, by rw [show decide ((LN ++ ([(⟨ix, gn, A_cp15, X1, c_cp15⟩ : Shr)])).length = q + 1) = decide (L.length + 1 = q + 1) from decide_eq_decide.2 (by rw [List.length_append, hLl]; simp; omega)], ((ob92).lowb (kk8).size).lowd (kk8).size, by rw [List.map_append, hLN, List.take_of_length_le (by omega)]; rfl, kk23⟩
set_option maxRecDepth 100000 in
set_option maxHeartbeats 2000000 in
theorem submit_state (q nn ge : Nat) (mk : ByteArray) (A : Option Addr) (L : List Shr) (c : Nat) (mk2 : ByteArray) (ix gn : Nat) (A1 : Option Addr) (X1 : List Nat) (c1 : Nat) (w : World) (HS : Ss w A L) (hC : (((2 ≤ q + 1 ∧ q + 1 ≤ nn ∧ nn ≤ 255) ∧ mk.size ≤ 16 ∧ L.length ≤ q + 1 ∧ L.length ≤ c) ∧ Came nn ge L) ∧ (¬ mk2 = mk ∨ L.length = q + 1) ∧ ge < 4294967296) : Ret Tryd.prog 30 #[.agg ([.int .i64 ((q + 1 : Nat) : Int), .int .i64 ((nn : Nat) : Int), .int .u32 ((ge : Nat) : Int), .string mk, .slice A (L.length) (c)] : List Value).toArray, .string mk2, .agg ([.int .u8 ((ix : Nat) : Int), .int .u32 ((gn : Nat) : Int), .slice A1 (X1.length) (c1)] : List Value).toArray] w (fun v w' => v = .tuple #[.agg ([.int .i64 0, .int .i64 0, .int .u32 0, .string ByteArray.empty, .slice none (0) (0)] : List Value).toArray, .bool false, errE 15] ∧ Kp No w w') := by
  have hge := hC.2.2
  have kk0 := Kp.refl No w
  refine enter (n := 76) [.agg ([.int .i64 ((q + 1 : Nat) : Int), .int .i64 ((nn : Nat) : Int), .int .u32 ((ge : Nat) : Int), .string mk, .slice A (L.length) (c)] : List Value).toArray, .string mk2, .agg ([.int .u8 ((ix : Nat) : Int), .int .u32 ((gn : Nat) : Int), .slice A1 (X1.length) (c1)] : List Value).toArray] Tryd.func30 rfl rfl rfl ?_
  show Cw _ _ _ _ [(0, .agg ([.int .i64 ((q + 1 : Nat) : Int), .int .i64 ((nn : Nat) : Int), .int .u32 ((ge : Nat) : Int), .string mk, .slice A (L.length) (c)] : List Value).toArray), (1, .string mk2), (2, .agg ([.int .u8 ((ix : Nat) : Int), .int .u32 ((gn : Nat) : Int), .slice A1 (X1.length) (c1)] : List Value).toArray)] _
  refine C_seq (fun K1 hK1 => ?_)
  refine C_region ?_
  refine R_lo (lo_box (L := [.int .i64 ((q + 1 : Nat) : Int), .int .i64 ((nn : Nat) : Int), .int .u32 ((ge : Nat) : Int), .string mk, .slice A (L.length) (c)]) rfl rfl) rfl ?_
  rintro _ w1 ⟨p0_0, rfl, N1⟩
  have k1 := N1.kp
  have kk1 := kk0.then_ k1
  have f_p0_0_1 : Bk w1 p0_0 ([.int .i64 ((q + 1 : Nat) : Int), .int .i64 ((nn : Nat) : Int), .int .u32 ((ge : Nat) : Int), .string mk, .slice A (L.length) (c)]) 70 := N1.bk
  refine R_lo (lo_box (L := [.int .u8 ((ix : Nat) : Int), .int .u32 ((gn : Nat) : Int), .slice A1 (X1.length) (c1)]) rfl rfl) rfl ?_
  rintro _ w2 ⟨sb, rfl, N2⟩
  have k2 := N2.kp
  have kk2 := kk1.then_ k2
  have ne_sb_p0_0 : sb ≠ p0_0 := Nat.ne_of_gt (Nat.lt_of_lt_of_le f_p0_0_1.lt N2.le)
  have f_sb_2 : Bk w2 sb ([.int .u8 ((ix : Nat) : Int), .int .u32 ((gn : Nat) : Int), .slice A1 (X1.length) (c1)]) 50 := N2.bk
  have f2 : Bk w2 p0_0 ([.int .i64 ((q + 1 : Nat) : Int), .int .i64 ((nn : Nat) : Int), .int .u32 ((ge : Nat) : Int), .string mk, .slice A (L.length) (c)]) 70 := (f_p0_0_1.no k2)
  refine R_lo (lo_alloc (L := [.int .i64 0, .int .i64 0, .int .u32 0, .string ByteArray.empty, .slice none (0) (0)]) (by kernel_rfl)) rfl ?_
  rintro _ w3 ⟨rs, rfl, N3⟩
  have k3 := N3.kp
  have kk3 := kk2.then_ k3
  have ne_rs_p0_0 : rs ≠ p0_0 := Nat.ne_of_gt (Nat.lt_of_lt_of_le f2.lt N3.le)
  have ne_rs_sb : rs ≠ sb := Nat.ne_of_gt (Nat.lt_of_lt_of_le f_sb_2.lt N3.le)
  have f_rs_3 : Bk w3 rs ([.int .i64 0, .int .i64 0, .int .u32 0, .string ByteArray.empty, .slice none (0) (0)]) 70 := N3.bk
  refine R_pu (pu_assign rfl) rfl ?_
  refine R_pu (pu_assign rfl) rfl ?_
  refine R_nil ?_
  refine X_then hK1 ?_
  refine C_seq (fun K3 hK3 => ?_)
  refine C_seq (fun K4 hK4 => ?_)
  refine C_region ?_
  have f5 : Bk w3 p0_0 ([.int .i64 ((q + 1 : Nat) : Int), .int .i64 ((nn : Nat) : Int), .int .u32 ((ge : Nat) : Int), .string mk, .slice A (L.length) (c)]) 70 := (f2.no k3)
  refine R_pu (pu_loadRow (len := 5) f5 (by kernel_rfl) (by kernel_rfl) rfl rfl) rfl ?_
  refine R_lo (lo_call (by kernel_rfl) rfl (check_ok q nn ge mk A L c _ (HS.keptNo kk3) hC.1)) rfl ?_
  rintro _ w4 ⟨rfl, k4⟩
  have kk4 := kk3.then_ k4
  refine R_pu (pu_assign rfl) rfl ?_
  refine R_nil ?_
  refine X_then hK4 ?_
  refine C_seq (fun K6 hK6 => ?_)
  refine C_region ?_
  refine R_pu (pu_move rfl) rfl ?_
  refine R_pu (pu_neqnn (by kernel_rfl) rfl) rfl ?_
  refine R_nil ?_
  refine X_then hK6 ?_
  refine C_false rfl ?_
  refine C_skip ?_
  refine X_then hK3 ?_
  refine C_seq (fun K7 hK7 => ?_)
  refine C_seq (fun K8 hK8 => ?_)
  refine C_region ?_
  refine R_pu (pu_move rfl) rfl ?_
  refine R_pu (pu_fieldAddr (off := 3) (o' := 3) (by kernel_rfl) rfl rfl) rfl ?_
  have f9 : Bk w4 p0_0 ([.int .i64 ((q + 1 : Nat) : Int), .int .i64 ((nn : Nat) : Int), .int .u32 ((ge : Nat) : Int), .string mk, .slice A (L.length) (c)]) 70 := (f5.no k4)
  refine R_pu (pu_loadK f9 (by kernel_rfl) rfl rfl) rfl ?_
  refine R_pu (pu_neqs (p := mk2 = mk) rfl rfl Iff.rfl) rfl ?_
  by_cases g4_4 : ¬ (mk2 = mk)
  · refine R_pu (pu_true (pu_move rfl) g4_4) rfl ?_
    refine R_gno rfl rfl rfl rfl ?_
    refine R_gno rfl rfl rfl rfl ?_
    refine R_gno rfl rfl rfl rfl ?_
    refine R_gno rfl rfl rfl rfl ?_
    refine R_gno rfl rfl rfl rfl ?_
    refine R_gno rfl rfl rfl rfl ?_
    refine R_gno rfl rfl rfl rfl ?_
    refine R_pu (pu_pickt rfl rfl) rfl ?_
    refine R_nil ?_
    refine X_then hK8 ?_
    refine C_true rfl ?_
    refine C_seq (fun K10 hK10 => ?_)
    refine C_region ?_
    refine R_pu (pu_build (L := [.int .i64 0, .int .i64 0, .int .u32 0, .string ByteArray.empty, .slice none (0) (0)]) rfl (by kernel_rfl)) rfl ?_
    refine R_pu (pu_makeInterface Tryd.underlying91 rfl rfl) rfl ?_
    have f11 : Bk w4 rs ([.int .i64 0, .int .i64 0, .int .u32 0, .string ByteArray.empty, .slice none (0) (0)]) 70 := (f_rs_3.no k4)
    refine R_lo0 (lo_storeRow (C := [.int .i64 0, .int .i64 0, .int .u32 0, .string ByteArray.empty, .slice none (0) (0)]) f11 (by kernel_rfl) rfl rfl (by intro u hu; simp at hu; rcases hu with rfl | rfl | rfl | rfl | rfl <;> rfl) rfl) ?_
    rintro _ w5 kf5
    obtain ⟨k5, f_rs_5⟩ := kf5
    replace f_rs_5 : Bk w5 rs ([.int .i64 0, .int .i64 0, .int .u32 0, .string ByteArray.empty, .slice none (0) (0)]) 70 := f_rs_5
    have kk5 := kk4.trans k5 (fun i hi => .inr (hi ▸ (Nat.le_trans kk2.size N3.le)))
    refine R_pu (pu_assign rfl) rfl ?_
    refine R_pu (pu_assign rfl) rfl ?_
    refine R_nil ?_
    refine X_then hK10 ?_
    refine C_ret ?_
    refine X_then_ret ?_
    exact X_retCTT (len := 5) (.inl rfl) rfl rfl f_rs_5 (by kernel_rfl) (by kernel_rfl) rfl rfl rfl ⟨rfl, kk5⟩
  · refine R_pu (pu_false (pu_move rfl) g4_4) rfl ?_
    refine R_gpu rfl rfl (pu_fieldAddr (off := 4) (o' := 4) (by kernel_rfl) rfl rfl) rfl ?_
    refine R_gpu rfl rfl (pu_loadK f9 (by kernel_rfl) rfl rfl) rfl ?_
    refine R_gpu rfl rfl (pu_len Tryd.underlying29 rfl) rfl ?_
    refine R_gpu rfl rfl (pu_fieldAddr (off := 0) (o' := 0) (by kernel_rfl) rfl rfl) rfl ?_
    refine R_gpu rfl rfl (pu_fieldAddr (off := 0) (o' := 0) (by kernel_rfl) rfl rfl) rfl ?_
    refine R_gpu rfl rfl (pu_loadK f9 (by kernel_rfl) rfl rfl) rfl ?_
    refine R_gpu rfl rfl (pu_eql (p := L.length = (q + 1)) rfl rfl (by omega)) rfl ?_
    refine R_pu (pu_pickf rfl rfl) rfl ?_
    refine R_nil ?_
    refine X_then hK8 ?_
    refine C_dect rfl (by rcases hC.2.1 with h | h; exact absurd h (by assumption); exact h) ?_
    refine C_seq (fun K12 hK12 => ?_)
    refine C_region ?_
    refine R_pu (pu_build (L := [.int .i64 0, .int .i64 0, .int .u32 0, .string ByteArray.empty, .slice none (0) (0)]) rfl (by kernel_rfl)) rfl ?_
    refine R_pu (pu_makeInterface Tryd.underlying91 rfl rfl) rfl ?_
    have f13 : Bk w4 rs ([.int .i64 0, .int .i64 0, .int .u32 0, .string ByteArray.empty, .slice none (0) (0)]) 70 := (f_rs_3.no k4)
    refine R_lo0 (lo_storeRow (C := [.int .i64 0, .int .i64 0, .int .u32 0, .string ByteArray.empty, .slice none (0) (0)]) f13 (by kernel_rfl) rfl rfl (by intro u hu; simp at hu; rcases hu with rfl | rfl | rfl | rfl | rfl <;> rfl) rfl) ?_
    rintro _ w6 kf6
    obtain ⟨k6, f_rs_6⟩ := kf6
    replace f_rs_6 : Bk w6 rs ([.int .i64 0, .int .i64 0, .int .u32 0, .string ByteArray.empty, .slice none (0) (0)]) 70 := f_rs_6
    have kk6 := kk4.trans k6 (fun i hi => .inr (hi ▸ (Nat.le_trans kk2.size N3.le)))
    refine R_pu (pu_assign rfl) rfl ?_
    refine R_pu (pu_assign rfl) rfl ?_
    refine R_nil ?_
    refine X_then hK12 ?_
    refine C_ret ?_
    refine X_then_ret ?_
    exact X_retCTT (len := 5) (.inl rfl) rfl rfl f_rs_6 (by kernel_rfl) (by kernel_rfl) rfl rfl rfl ⟨rfl, kk6⟩
set_option maxRecDepth 100000 in
set_option maxHeartbeats 2000000 in
theorem submit_gen (q nn ge : Nat) (mk : ByteArray) (A : Option Addr) (L : List Shr) (c : Nat) (mk2 : ByteArray) (ix gn : Nat) (A1 : Option Addr) (X1 : List Nat) (c1 : Nat) (w : World) (HS : Ss w A L) (hC : (((2 ≤ q + 1 ∧ q + 1 ≤ nn ∧ nn ≤ 255) ∧ mk.size ≤ 16 ∧ L.length ≤ q + 1 ∧ L.length ≤ c) ∧ Came nn ge L) ∧ mk2 = mk ∧ (L.length < q + 1 ∧ ¬ gn = ge) ∧ ix < 256 ∧ X1.length < 9223372036854775808 ∧ ge < 4294967296) : Ret Tryd.prog 30 #[.agg ([.int .i64 ((q + 1 : Nat) : Int), .int .i64 ((nn : Nat) : Int), .int .u32 ((ge : Nat) : Int), .string mk, .slice A (L.length) (c)] : List Value).toArray, .string mk2, .agg ([.int .u8 ((ix : Nat) : Int), .int .u32 ((gn : Nat) : Int), .slice A1 (X1.length) (c1)] : List Value).toArray] w (fun v w' => v = .tuple #[.agg ([.int .i64 0, .int .i64 0, .int .u32 0, .string ByteArray.empty, .slice none (0) (0)] : List Value).toArray, .bool false, errE 14] ∧ Kp No w w') := by
  obtain ⟨hC0, hmm, ⟨hlt, hx⟩, hix, hxl, hge⟩ := id hC
  have kk0 := Kp.refl No w
  refine enter (n := 76) [.agg ([.int .i64 ((q + 1 : Nat) : Int), .int .i64 ((nn : Nat) : Int), .int .u32 ((ge : Nat) : Int), .string mk, .slice A (L.length) (c)] : List Value).toArray, .string mk2, .agg ([.int .u8 ((ix : Nat) : Int), .int .u32 ((gn : Nat) : Int), .slice A1 (X1.length) (c1)] : List Value).toArray] Tryd.func30 rfl rfl rfl ?_
  show Cw _ _ _ _ [(0, .agg ([.int .i64 ((q + 1 : Nat) : Int), .int .i64 ((nn : Nat) : Int), .int .u32 ((ge : Nat) : Int), .string mk, .slice A (L.length) (c)] : List Value).toArray), (1, .string mk2), (2, .agg ([.int .u8 ((ix : Nat) : Int), .int .u32 ((gn : Nat) : Int), .slice A1 (X1.length) (c1)] : List Value).toArray)] _
  refine C_seq (fun K1 hK1 => ?_)
  refine C_region ?_
  refine R_lo (lo_box (L := [.int .i64 ((q + 1 : Nat) : Int), .int .i64 ((nn : Nat) : Int), .int .u32 ((ge : Nat) : Int), .string mk, .slice A (L.length) (c)]) rfl rfl) rfl ?_
  rintro _ w1 ⟨p0_0, rfl, N1⟩
  have k1 := N1.kp
  have kk1 := kk0.then_ k1
  have f_p0_0_1 : Bk w1 p0_0 ([.int .i64 ((q + 1 : Nat) : Int), .int .i64 ((nn : Nat) : Int), .int .u32 ((ge : Nat) : Int), .string mk, .slice A (L.length) (c)]) 70 := N1.bk
  refine R_lo (lo_box (L := [.int .u8 ((ix : Nat) : Int), .int .u32 ((gn : Nat) : Int), .slice A1 (X1.length) (c1)]) rfl rfl) rfl ?_
  rintro _ w2 ⟨sb, rfl, N2⟩
  have k2 := N2.kp
  have kk2 := kk1.then_ k2
  have ne_sb_p0_0 : sb ≠ p0_0 := Nat.ne_of_gt (Nat.lt_of_lt_of_le f_p0_0_1.lt N2.le)
  have f_sb_2 : Bk w2 sb ([.int .u8 ((ix : Nat) : Int), .int .u32 ((gn : Nat) : Int), .slice A1 (X1.length) (c1)]) 50 := N2.bk
  have f2 : Bk w2 p0_0 ([.int .i64 ((q + 1 : Nat) : Int), .int .i64 ((nn : Nat) : Int), .int .u32 ((ge : Nat) : Int), .string mk, .slice A (L.length) (c)]) 70 := (f_p0_0_1.no k2)
  refine R_lo (lo_alloc (L := [.int .i64 0, .int .i64 0, .int .u32 0, .string ByteArray.empty, .slice none (0) (0)]) (by kernel_rfl)) rfl ?_
  rintro _ w3 ⟨rs, rfl, N3⟩
  have k3 := N3.kp
  have kk3 := kk2.then_ k3
  have ne_rs_p0_0 : rs ≠ p0_0 := Nat.ne_of_gt (Nat.lt_of_lt_of_le f2.lt N3.le)
  have ne_rs_sb : rs ≠ sb := Nat.ne_of_gt (Nat.lt_of_lt_of_le f_sb_2.lt N3.le)
  have f_rs_3 : Bk w3 rs ([.int .i64 0, .int .i64 0, .int .u32 0, .string ByteArray.empty, .slice none (0) (0)]) 70 := N3.bk
  refine R_pu (pu_assign rfl) rfl ?_
  refine R_pu (pu_assign rfl) rfl ?_
  refine R_nil ?_
  refine X_then hK1 ?_
  refine C_seq (fun K3 hK3 => ?_)
  refine C_seq (fun K4 hK4 => ?_)
  refine C_region ?_
  have f5 : Bk w3 p0_0 ([.int .i64 ((q + 1 : Nat) : Int), .int .i64 ((nn : Nat) : Int), .int .u32 ((ge : Nat) : Int), .string mk, .slice A (L.length) (c)]) 70 := (f2.no k3)
  refine R_pu (pu_loadRow (len := 5) f5 (by kernel_rfl) (by kernel_rfl) rfl rfl) rfl ?_
  refine R_lo (lo_call (by kernel_rfl) rfl (check_ok q nn ge mk A L c _ (HS.keptNo kk3) hC.1)) rfl ?_
  rintro _ w4 ⟨rfl, k4⟩
  have kk4 := kk3.then_ k4
  refine R_pu (pu_assign rfl) rfl ?_
  refine R_nil ?_
  refine X_then hK4 ?_
  refine C_seq (fun K6 hK6 => ?_)
  refine C_region ?_
  refine R_pu (pu_move rfl) rfl ?_
  refine R_pu (pu_neqnn (by kernel_rfl) rfl) rfl ?_
  refine R_nil ?_
  refine X_then hK6 ?_
  refine C_false rfl ?_
  refine C_skip ?_
  refine X_then hK3 ?_
  refine C_seq (fun K7 hK7 => ?_)
  refine C_seq (fun K8 hK8 => ?_)
  refine C_region ?_
  refine R_pu (pu_move rfl) rfl ?_
  refine R_pu (pu_fieldAddr (off := 3) (o' := 3) (by kernel_rfl) rfl rfl) rfl ?_
  have f9 : Bk w4 p0_0 ([.int .i64 ((q + 1 : Nat) : Int), .int .i64 ((nn : Nat) : Int), .int .u32 ((ge : Nat) : Int), .string mk, .slice A (L.length) (c)]) 70 := (f5.no k4)
  refine R_pu (pu_loadK f9 (by kernel_rfl) rfl rfl) rfl ?_
  refine R_pu (pu_false (pu_neqs (p := mk2 = mk) rfl rfl Iff.rfl) (fun h => h hmm)) rfl ?_
  refine R_pu (pu_move rfl) rfl ?_
  refine R_gpu rfl rfl (pu_fieldAddr (off := 4) (o' := 4) (by kernel_rfl) rfl rfl) rfl ?_
  refine R_gpu rfl rfl (pu_loadK f9 (by kernel_rfl) rfl rfl) rfl ?_
  refine R_gpu rfl rfl (pu_len Tryd.underlying29 rfl) rfl ?_
  refine R_gpu rfl rfl (pu_fieldAddr (off := 0) (o' := 0) (by kernel_rfl) rfl rfl) rfl ?_
  refine R_gpu rfl rfl (pu_fieldAddr (off := 0) (o' := 0) (by kernel_rfl) rfl rfl) rfl ?_
  refine R_gpu rfl rfl (pu_loadK f9 (by kernel_rfl) rfl rfl) rfl ?_
  refine R_gpu rfl rfl (pu_false (pu_eql (p := L.length = (q + 1)) rfl rfl (by omega)) (by omega)) rfl ?_
  refine R_pu (pu_pickf rfl rfl) rfl ?_
  refine R_nil ?_
  refine X_then hK8 ?_
  refine C_false rfl ?_
  refine C_skip ?_
  refine X_then hK7 ?_
  refine C_seq (fun K10 hK10 => ?_)
  refine C_seq (fun K11 hK11 => ?_)
  refine C_region ?_
  refine R_pu (pu_loadRow (len := 5) f9 (by kernel_rfl) (by kernel_rfl) rfl rfl) rfl ?_
  refine R_pu (pu_fieldAddr (off := 4) (o' := 4) (by kernel_rfl) rfl rfl) rfl ?_
  refine R_pu (pu_loadK f9 (by kernel_rfl) rfl rfl) rfl ?_
  have f12 : Bk w4 sb ([.int .u8 ((ix : Nat) : Int), .int .u32 ((gn : Nat) : Int), .slice A1 (X1.length) (c1)]) 50 := ((f_sb_2.no k3).no k4)
  refine R_pu (pu_loadRow (len := 3) f12 (by kernel_rfl) (by kernel_rfl) rfl rfl) rfl ?_
  refine R_lo (lo_call (by kernel_rfl) rfl (fits_gen q nn ge mk A L.length c A L c ix gn A1 X1 c1 _ (HS.keptNo kk4) ⟨⟨by omega, hix, hxl⟩, hx⟩)) rfl ?_
  rintro _ w5 ⟨rfl, k5⟩
  have kk5 := kk4.then_ k5
  refine R_pu (pu_assign rfl) rfl ?_
  refine R_nil ?_
  refine X_then hK11 ?_
  refine C_seq (fun K13 hK13 => ?_)
  refine C_region ?_
  refine R_pu (pu_move rfl) rfl ?_
  refine R_pu (pu_neqin (by kernel_rfl) rfl rfl) rfl ?_
  refine R_nil ?_
  refine X_then hK13 ?_
  refine C_true rfl ?_
  refine C_seq (fun K14 hK14 => ?_)
  refine C_region ?_
  refine R_pu (pu_build (L := [.int .i64 0, .int .i64 0, .int .u32 0, .string ByteArray.empty, .slice none (0) (0)]) rfl (by kernel_rfl)) rfl ?_
  refine R_pu (pu_move rfl) rfl ?_
  have f15 : Bk w5 rs ([.int .i64 0, .int .i64 0, .int .u32 0, .string ByteArray.empty, .slice none (0) (0)]) 70 := ((f_rs_3.no k4).no k5)
  refine R_lo0 (lo_storeRow (C := [.int .i64 0, .int .i64 0, .int .u32 0, .string ByteArray.empty, .slice none (0) (0)]) f15 (by kernel_rfl) rfl rfl (by intro u hu; simp at hu; rcases hu with rfl | rfl | rfl | rfl | rfl <;> rfl) rfl) ?_
  rintro _ w6 kf6
  obtain ⟨k6, f_rs_6⟩ := kf6
  replace f_rs_6 : Bk w6 rs ([.int .i64 0, .int .i64 0, .int .u32 0, .string ByteArray.empty, .slice none (0) (0)]) 70 := f_rs_6
  have kk6 := kk5.trans k6 (fun i hi => .inr (hi ▸ (Nat.le_trans kk2.size N3.le)))
  refine R_pu (pu_assign rfl) rfl ?_
  refine R_pu (pu_assign rfl) rfl ?_
  refine R_nil ?_
  refine X_then hK14 ?_
  refine C_ret ?_
  refine X_then_ret ?_
  exact X_retCTT (len := 5) (.inl rfl) rfl rfl f_rs_6 (by kernel_rfl) (by kernel_rfl) rfl rfl rfl ⟨rfl, kk6⟩
set_option maxRecDepth 100000 in
set_option maxHeartbeats 2000000 in
theorem submit_share (q nn ge : Nat) (mk : ByteArray) (A : Option Addr) (L : List Shr) (c : Nat) (mk2 : ByteArray) (ix gn : Nat) (A1 : Option Addr) (X1 : List Nat) (c1 : Nat) (w : World) (HS : Ss w A L) (hC : (((2 ≤ q + 1 ∧ q + 1 ≤ nn ∧ nn ≤ 255) ∧ mk.size ≤ 16 ∧ L.length ≤ q + 1 ∧ L.length ≤ c) ∧ Came nn ge L) ∧ mk2 = mk ∧ (L.length < q + 1 ∧ gn = ge ∧ ¬ Fit nn L ix X1.length) ∧ ix < 256 ∧ X1.length < 9223372036854775808 ∧ ge < 4294967296) : Ret Tryd.prog 30 #[.agg ([.int .i64 ((q + 1 : Nat) : Int), .int .i64 ((nn : Nat) : Int), .int .u32 ((ge : Nat) : Int), .string mk, .slice A (L.length) (c)] : List Value).toArray, .string mk2, .agg ([.int .u8 ((ix : Nat) : Int), .int .u32 ((gn : Nat) : Int), .slice A1 (X1.length) (c1)] : List Value).toArray] w (fun v w' => v = .tuple #[.agg ([.int .i64 0, .int .i64 0, .int .u32 0, .string ByteArray.empty, .slice none (0) (0)] : List Value).toArray, .bool false, errE 12] ∧ Kp No w w') := by
  obtain ⟨hC0, hmm, ⟨hlt, hx⟩, hix, hxl, hge⟩ := id hC
  have kk0 := Kp.refl No w
  refine enter (n := 76) [.agg ([.int .i64 ((q + 1 : Nat) : Int), .int .i64 ((nn : Nat) : Int), .int .u32 ((ge : Nat) : Int), .string mk, .slice A (L.length) (c)] : List Value).toArray, .string mk2, .agg ([.int .u8 ((ix : Nat) : Int), .int .u32 ((gn : Nat) : Int), .slice A1 (X1.length) (c1)] : List Value).toArray] Tryd.func30 rfl rfl rfl ?_
  show Cw _ _ _ _ [(0, .agg ([.int .i64 ((q + 1 : Nat) : Int), .int .i64 ((nn : Nat) : Int), .int .u32 ((ge : Nat) : Int), .string mk, .slice A (L.length) (c)] : List Value).toArray), (1, .string mk2), (2, .agg ([.int .u8 ((ix : Nat) : Int), .int .u32 ((gn : Nat) : Int), .slice A1 (X1.length) (c1)] : List Value).toArray)] _
  refine C_seq (fun K1 hK1 => ?_)
  refine C_region ?_
  refine R_lo (lo_box (L := [.int .i64 ((q + 1 : Nat) : Int), .int .i64 ((nn : Nat) : Int), .int .u32 ((ge : Nat) : Int), .string mk, .slice A (L.length) (c)]) rfl rfl) rfl ?_
  rintro _ w1 ⟨p0_0, rfl, N1⟩
  have k1 := N1.kp
  have kk1 := kk0.then_ k1
  have f_p0_0_1 : Bk w1 p0_0 ([.int .i64 ((q + 1 : Nat) : Int), .int .i64 ((nn : Nat) : Int), .int .u32 ((ge : Nat) : Int), .string mk, .slice A (L.length) (c)]) 70 := N1.bk
  refine R_lo (lo_box (L := [.int .u8 ((ix : Nat) : Int), .int .u32 ((gn : Nat) : Int), .slice A1 (X1.length) (c1)]) rfl rfl) rfl ?_
  rintro _ w2 ⟨sb, rfl, N2⟩
  have k2 := N2.kp
  have kk2 := kk1.then_ k2
  have ne_sb_p0_0 : sb ≠ p0_0 := Nat.ne_of_gt (Nat.lt_of_lt_of_le f_p0_0_1.lt N2.le)
  have f_sb_2 : Bk w2 sb ([.int .u8 ((ix : Nat) : Int), .int .u32 ((gn : Nat) : Int), .slice A1 (X1.length) (c1)]) 50 := N2.bk
  have f2 : Bk w2 p0_0 ([.int .i64 ((q + 1 : Nat) : Int), .int .i64 ((nn : Nat) : Int), .int .u32 ((ge : Nat) : Int), .string mk, .slice A (L.length) (c)]) 70 := (f_p0_0_1.no k2)
  refine R_lo (lo_alloc (L := [.int .i64 0, .int .i64 0, .int .u32 0, .string ByteArray.empty, .slice none (0) (0)]) (by kernel_rfl)) rfl ?_
  rintro _ w3 ⟨rs, rfl, N3⟩
  have k3 := N3.kp
  have kk3 := kk2.then_ k3
  have ne_rs_p0_0 : rs ≠ p0_0 := Nat.ne_of_gt (Nat.lt_of_lt_of_le f2.lt N3.le)
  have ne_rs_sb : rs ≠ sb := Nat.ne_of_gt (Nat.lt_of_lt_of_le f_sb_2.lt N3.le)
  have f_rs_3 : Bk w3 rs ([.int .i64 0, .int .i64 0, .int .u32 0, .string ByteArray.empty, .slice none (0) (0)]) 70 := N3.bk
  refine R_pu (pu_assign rfl) rfl ?_
  refine R_pu (pu_assign rfl) rfl ?_
  refine R_nil ?_
  refine X_then hK1 ?_
  refine C_seq (fun K3 hK3 => ?_)
  refine C_seq (fun K4 hK4 => ?_)
  refine C_region ?_
  have f5 : Bk w3 p0_0 ([.int .i64 ((q + 1 : Nat) : Int), .int .i64 ((nn : Nat) : Int), .int .u32 ((ge : Nat) : Int), .string mk, .slice A (L.length) (c)]) 70 := (f2.no k3)
  refine R_pu (pu_loadRow (len := 5) f5 (by kernel_rfl) (by kernel_rfl) rfl rfl) rfl ?_
  refine R_lo (lo_call (by kernel_rfl) rfl (check_ok q nn ge mk A L c _ (HS.keptNo kk3) hC.1)) rfl ?_
  rintro _ w4 ⟨rfl, k4⟩
  have kk4 := kk3.then_ k4
  refine R_pu (pu_assign rfl) rfl ?_
  refine R_nil ?_
  refine X_then hK4 ?_
  refine C_seq (fun K6 hK6 => ?_)
  refine C_region ?_
  refine R_pu (pu_move rfl) rfl ?_
  refine R_pu (pu_neqnn (by kernel_rfl) rfl) rfl ?_
  refine R_nil ?_
  refine X_then hK6 ?_
  refine C_false rfl ?_
  refine C_skip ?_
  refine X_then hK3 ?_
  refine C_seq (fun K7 hK7 => ?_)
  refine C_seq (fun K8 hK8 => ?_)
  refine C_region ?_
  refine R_pu (pu_move rfl) rfl ?_
  refine R_pu (pu_fieldAddr (off := 3) (o' := 3) (by kernel_rfl) rfl rfl) rfl ?_
  have f9 : Bk w4 p0_0 ([.int .i64 ((q + 1 : Nat) : Int), .int .i64 ((nn : Nat) : Int), .int .u32 ((ge : Nat) : Int), .string mk, .slice A (L.length) (c)]) 70 := (f5.no k4)
  refine R_pu (pu_loadK f9 (by kernel_rfl) rfl rfl) rfl ?_
  refine R_pu (pu_false (pu_neqs (p := mk2 = mk) rfl rfl Iff.rfl) (fun h => h hmm)) rfl ?_
  refine R_pu (pu_move rfl) rfl ?_
  refine R_gpu rfl rfl (pu_fieldAddr (off := 4) (o' := 4) (by kernel_rfl) rfl rfl) rfl ?_
  refine R_gpu rfl rfl (pu_loadK f9 (by kernel_rfl) rfl rfl) rfl ?_
  refine R_gpu rfl rfl (pu_len Tryd.underlying29 rfl) rfl ?_
  refine R_gpu rfl rfl (pu_fieldAddr (off := 0) (o' := 0) (by kernel_rfl) rfl rfl) rfl ?_
  refine R_gpu rfl rfl (pu_fieldAddr (off := 0) (o' := 0) (by kernel_rfl) rfl rfl) rfl ?_
  refine R_gpu rfl rfl (pu_loadK f9 (by kernel_rfl) rfl rfl) rfl ?_
  refine R_gpu rfl rfl (pu_false (pu_eql (p := L.length = (q + 1)) rfl rfl (by omega)) (by omega)) rfl ?_
  refine R_pu (pu_pickf rfl rfl) rfl ?_
  refine R_nil ?_
  refine X_then hK8 ?_
  refine C_false rfl ?_
  refine C_skip ?_
  refine X_then hK7 ?_
  refine C_seq (fun K10 hK10 => ?_)
  refine C_seq (fun K11 hK11 => ?_)
  refine C_region ?_
  refine R_pu (pu_loadRow (len := 5) f9 (by kernel_rfl) (by kernel_rfl) rfl rfl) rfl ?_
  refine R_pu (pu_fieldAddr (off := 4) (o' := 4) (by kernel_rfl) rfl rfl) rfl ?_
  refine R_pu (pu_loadK f9 (by kernel_rfl) rfl rfl) rfl ?_
  have f12 : Bk w4 sb ([.int .u8 ((ix : Nat) : Int), .int .u32 ((gn : Nat) : Int), .slice A1 (X1.length) (c1)]) 50 := ((f_sb_2.no k3).no k4)
  refine R_pu (pu_loadRow (len := 3) f12 (by kernel_rfl) (by kernel_rfl) rfl rfl) rfl ?_
  refine R_lo (lo_call (by kernel_rfl) rfl (fits_share q nn ge mk A L.length c A L c ix gn A1 X1 c1 _ (HS.keptNo kk4) ⟨⟨by omega, hix, hxl⟩, hx⟩)) rfl ?_
  rintro _ w5 ⟨rfl, k5⟩
  have kk5 := kk4.then_ k5
  refine R_pu (pu_assign rfl) rfl ?_
  refine R_nil ?_
  refine X_then hK11 ?_
  refine C_seq (fun K13 hK13 => ?_)
  refine C_region ?_
  refine R_pu (pu_move rfl) rfl ?_
  refine R_pu (pu_neqin (by kernel_rfl) rfl rfl) rfl ?_
  refine R_nil ?_
  refine X_then hK13 ?_
  refine C_true rfl ?_
  refine C_seq (fun K14 hK14 => ?_)
  refine C_region ?_
  refine R_pu (pu_build (L := [.int .i64 0, .int .i64 0, .int .u32 0, .string ByteArray.empty, .slice none (0) (0)]) rfl (by kernel_rfl)) rfl ?_
  refine R_pu (pu_move rfl) rfl ?_
  have f15 : Bk w5 rs ([.int .i64 0, .int .i64 0, .int .u32 0, .string ByteArray.empty, .slice none (0) (0)]) 70 := ((f_rs_3.no k4).no k5)
  refine R_lo0 (lo_storeRow (C := [.int .i64 0, .int .i64 0, .int .u32 0, .string ByteArray.empty, .slice none (0) (0)]) f15 (by kernel_rfl) rfl rfl (by intro u hu; simp at hu; rcases hu with rfl | rfl | rfl | rfl | rfl <;> rfl) rfl) ?_
  rintro _ w6 kf6
  obtain ⟨k6, f_rs_6⟩ := kf6
  replace f_rs_6 : Bk w6 rs ([.int .i64 0, .int .i64 0, .int .u32 0, .string ByteArray.empty, .slice none (0) (0)]) 70 := f_rs_6
  have kk6 := kk5.trans k6 (fun i hi => .inr (hi ▸ (Nat.le_trans kk2.size N3.le)))
  refine R_pu (pu_assign rfl) rfl ?_
  refine R_pu (pu_assign rfl) rfl ?_
  refine R_nil ?_
  refine X_then hK14 ?_
  refine C_ret ?_
  refine X_then_ret ?_
  exact X_retCTT (len := 5) (.inl rfl) rfl rfl f_rs_6 (by kernel_rfl) (by kernel_rfl) rfl rfl rfl ⟨rfl, kk6⟩
end Go.Proofs.YtjbdimfpjbmggaaDoor
