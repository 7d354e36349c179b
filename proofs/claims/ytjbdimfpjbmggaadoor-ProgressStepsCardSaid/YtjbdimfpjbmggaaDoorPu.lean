/- Walks of bursaryref23. -/
import Derived.Test.YtjbdimfpjbmggaaDoorPz
import Derived.Test.YtjbdimfpjbmggaaDoorRp
set_option linter.unusedVariables false
set_option linter.unusedSimpArgs false
namespace Go.Proofs.YtjbdimfpjbmggaaDoor
open Go.RowKit Gm
set_option maxRecDepth 100000 in
set_option maxHeartbeats 2000000 in
theorem rwrong_gen (q nn ge : Nat) (A : Option Addr) (M : List Shr) (c ix gn : Nat) (A1 : Option Addr) (X1 : List Nat) (c1 : Nat) (w : World) (HS : Ss w A M) (hf : (M.length < 9223372036854775808 ∧ ix < 256 ∧ X1.length < 9223372036854775808) ∧ ¬ gn = ge) : Ret Tryd.prog 54 #[.agg ([.int .i64 ((q + 1 : Nat) : Int), .int .i64 ((nn : Nat) : Int), .int .u32 ((ge : Nat) : Int)] : List Value).toArray, .slice A (M.length) (c), .agg ([.int .u8 ((ix : Nat) : Int), .int .u32 ((gn : Nat) : Int), .slice A1 (X1.length) (c1)] : List Value).toArray] w (fun v w' => v = .int .i64 14 ∧ Kp No w w') := by
  obtain ⟨⟨hs, hix, hxl⟩, hf⟩ := hf
  have kk0 := Kp.refl No w
  refine enter (n := 44) [.agg ([.int .i64 ((q + 1 : Nat) : Int), .int .i64 ((nn : Nat) : Int), .int .u32 ((ge : Nat) : Int)] : List Value).toArray, .slice A (M.length) (c), .agg ([.int .u8 ((ix : Nat) : Int), .int .u32 ((gn : Nat) : Int), .slice A1 (X1.length) (c1)] : List Value).toArray] Tryd.func54 rfl rfl rfl ?_
  show Cw _ _ _ _ [(0, .agg ([.int .i64 ((q + 1 : Nat) : Int), .int .i64 ((nn : Nat) : Int), .int .u32 ((ge : Nat) : Int)] : List Value).toArray), (1, .slice A (M.length) (c)), (2, .agg ([.int .u8 ((ix : Nat) : Int), .int .u32 ((gn : Nat) : Int), .slice A1 (X1.length) (c1)] : List Value).toArray)] _
  refine C_seq (fun K1 hK1 => ?_)
  refine C_region ?_
  refine R_lo (lo_box (L := [.int .i64 ((q + 1 : Nat) : Int), .int .i64 ((nn : Nat) : Int), .int .u32 ((ge : Nat) : Int)]) rfl rfl) rfl ?_
  rintro _ w1 ⟨pb, rfl, N1⟩
  have k1 := N1.kp
  have kk1 := kk0.then_ k1
  have f_pb_1 : Bk w1 pb ([.int .i64 ((q + 1 : Nat) : Int), .int .i64 ((nn : Nat) : Int), .int .u32 ((ge : Nat) : Int)]) 25 := N1.bk
  refine R_lo (lo_box (L := [.int .u8 ((ix : Nat) : Int), .int .u32 ((gn : Nat) : Int), .slice A1 (X1.length) (c1)]) rfl rfl) rfl ?_
  rintro _ w2 ⟨sb, rfl, N2⟩
  have k2 := N2.kp
  have kk2 := kk1.then_ k2
  have ne_sb_pb : sb ≠ pb := Nat.ne_of_gt (Nat.lt_of_lt_of_le f_pb_1.lt N2.le)
  have f_sb_2 : Bk w2 sb ([.int .u8 ((ix : Nat) : Int), .int .u32 ((gn : Nat) : Int), .slice A1 (X1.length) (c1)]) 56 := N2.bk
  refine R_pu (pu_assign rfl) rfl ?_
  refine R_nil ?_
  refine X_then hK1 ?_
  refine C_seq (fun K2 hK2 => ?_)
  refine C_seq (fun K3 hK3 => ?_)
  refine C_region ?_
  refine R_pu (pu_fieldAddr (off := 1) (o' := 1) (by kernel_rfl) rfl rfl) rfl ?_
  refine R_pu (pu_loadK f_sb_2 (by kernel_rfl) rfl rfl) rfl ?_
  refine R_pu (pu_fieldAddr (off := 2) (o' := 2) (by kernel_rfl) rfl rfl) rfl ?_
  have f4 : Bk w2 pb ([.int .i64 ((q + 1 : Nat) : Int), .int .i64 ((nn : Nat) : Int), .int .u32 ((ge : Nat) : Int)]) 25 := (f_pb_1.no k2)
  refine R_pu (pu_loadK f4 (by kernel_rfl) rfl rfl) rfl ?_
  refine R_pu (pu_neq (p := gn = ge) rfl rfl (by omega)) rfl ?_
  refine R_nil ?_
  refine X_then hK3 ?_
  refine C_dect rfl hf ?_
  refine C_seq (fun K5 hK5 => ?_)
  refine C_region ?_
  refine R_pu (pu_assign rfl) rfl ?_
  refine R_nil ?_
  refine X_then hK5 ?_
  refine C_ret ?_
  refine X_then_ret ?_
  exact X_ret1 (.inl rfl) rfl rfl ⟨rfl, kk2⟩
set_option maxRecDepth 100000 in
set_option maxHeartbeats 2000000 in
theorem rwrong_ok (q nn ge : Nat) (A : Option Addr) (M : List Shr) (c ix gn : Nat) (A1 : Option Addr) (X1 : List Nat) (c1 : Nat) (w : World) (HS : Ss w A M) (hf : (M.length < 9223372036854775808 ∧ ix < 256 ∧ X1.length < 9223372036854775808) ∧ gn = ge ∧ Fit nn M ix X1.length) : Ret Tryd.prog 54 #[.agg ([.int .i64 ((q + 1 : Nat) : Int), .int .i64 ((nn : Nat) : Int), .int .u32 ((ge : Nat) : Int)] : List Value).toArray, .slice A (M.length) (c), .agg ([.int .u8 ((ix : Nat) : Int), .int .u32 ((gn : Nat) : Int), .slice A1 (X1.length) (c1)] : List Value).toArray] w (fun v w' => v = .int .i64 0 ∧ Kp No w w') := by
  obtain ⟨⟨hs, hix, hxl⟩, hf⟩ := hf
  obtain ⟨hgg, hF⟩ := hf; have hF2 := hF.2.1; have hF3 := hF.2.2.1; have hF4 := hF.2.2.2
  have kk0 := Kp.refl No w
  refine enter (n := 44) [.agg ([.int .i64 ((q + 1 : Nat) : Int), .int .i64 ((nn : Nat) : Int), .int .u32 ((ge : Nat) : Int)] : List Value).toArray, .slice A (M.length) (c), .agg ([.int .u8 ((ix : Nat) : Int), .int .u32 ((gn : Nat) : Int), .slice A1 (X1.length) (c1)] : List Value).toArray] Tryd.func54 rfl rfl rfl ?_
  show Cw _ _ _ _ [(0, .agg ([.int .i64 ((q + 1 : Nat) : Int), .int .i64 ((nn : Nat) : Int), .int .u32 ((ge : Nat) : Int)] : List Value).toArray), (1, .slice A (M.length) (c)), (2, .agg ([.int .u8 ((ix : Nat) : Int), .int .u32 ((gn : Nat) : Int), .slice A1 (X1.length) (c1)] : List Value).toArray)] _
  refine C_seq (fun K1 hK1 => ?_)
  refine C_region ?_
  refine R_lo (lo_box (L := [.int .i64 ((q + 1 : Nat) : Int), .int .i64 ((nn : Nat) : Int), .int .u32 ((ge : Nat) : Int)]) rfl rfl) rfl ?_
  rintro _ w1 ⟨pb, rfl, N1⟩
  have k1 := N1.kp
  have kk1 := kk0.then_ k1
  have f_pb_1 : Bk w1 pb ([.int .i64 ((q + 1 : Nat) : Int), .int .i64 ((nn : Nat) : Int), .int .u32 ((ge : Nat) : Int)]) 25 := N1.bk
  refine R_lo (lo_box (L := [.int .u8 ((ix : Nat) : Int), .int .u32 ((gn : Nat) : Int), .slice A1 (X1.length) (c1)]) rfl rfl) rfl ?_
  rintro _ w2 ⟨sb, rfl, N2⟩
  have k2 := N2.kp
  have kk2 := kk1.then_ k2
  have ne_sb_pb : sb ≠ pb := Nat.ne_of_gt (Nat.lt_of_lt_of_le f_pb_1.lt N2.le)
  have f_sb_2 : Bk w2 sb ([.int .u8 ((ix : Nat) : Int), .int .u32 ((gn : Nat) : Int), .slice A1 (X1.length) (c1)]) 56 := N2.bk
  refine R_pu (pu_assign rfl) rfl ?_
  refine R_nil ?_
  refine X_then hK1 ?_
  refine C_seq (fun K2 hK2 => ?_)
  refine C_seq (fun K3 hK3 => ?_)
  refine C_region ?_
  refine R_pu (pu_fieldAddr (off := 1) (o' := 1) (by kernel_rfl) rfl rfl) rfl ?_
  refine R_pu (pu_loadK f_sb_2 (by kernel_rfl) rfl rfl) rfl ?_
  refine R_pu (pu_fieldAddr (off := 2) (o' := 2) (by kernel_rfl) rfl rfl) rfl ?_
  have f4 : Bk w2 pb ([.int .i64 ((q + 1 : Nat) : Int), .int .i64 ((nn : Nat) : Int), .int .u32 ((ge : Nat) : Int)]) 25 := (f_pb_1.no k2)
  refine R_pu (pu_loadK f4 (by kernel_rfl) rfl rfl) rfl ?_
  refine R_pu (pu_neq (p := gn = ge) rfl rfl (by omega)) rfl ?_
  refine R_nil ?_
  refine X_then hK3 ?_
  refine C_decf rfl (fun h => h hgg) ?_
  refine C_skip ?_
  refine X_then hK2 ?_
  refine C_seq (fun K5 hK5 => ?_)
  refine C_seq (fun K6 hK6 => ?_)
  refine C_region ?_
  refine R_pu (pu_assign rfl) rfl ?_
  refine R_nil ?_
  refine X_then hK6 ?_
  refine C_block ?_
  refine C_loop (fun m_ l_ wr => ∃ i : Nat, (m_ = M.length - i) ∧ (l_ = [(1, .slice A (M.length) (c)), (3, .pointer (some ⟨pb, 0, none⟩)), (5, .pointer (some ⟨sb, 0, none⟩)), (7, .int .i64 ((i : Nat) : Int))]) ∧ (i ≤ M.length) ∧ (Kp No w wr) ∧ (Bk wr pb ([.int .i64 ((q + 1 : Nat) : Int), .int .i64 ((nn : Nat) : Int), .int .u32 ((ge : Nat) : Int)]) 25) ∧ (Bk wr sb ([.int .u8 ((ix : Nat) : Int), .int .u32 ((gn : Nat) : Int), .slice A1 (X1.length) (c1)]) 56)) (M.length - 0) [(1, .slice A (M.length) (c)), (3, .pointer (some ⟨pb, 0, none⟩)), (5, .pointer (some ⟨sb, 0, none⟩)), (7, .int .i64 0)] (Sub.cons rfl (Sub.cons rfl (Sub.cons rfl (Sub.cons rfl (Sub.nil _))))) ⟨0, rfl, rfl, by omega, kk2, f4, f_sb_2⟩ ?_
  rintro _ _ w3 ⟨i, rfl, rfl, hi, kk3, f_pb_3, f_sb_3⟩
  refine C_seq (fun K7 hK7 => ?_)
  refine C_seq (fun K8 hK8 => ?_)
  refine C_region ?_
  refine R_pu (pu_move rfl) rfl ?_
  refine R_pu (pu_move rfl) rfl ?_
  refine R_pu (pu_len Tryd.underlying36 rfl) rfl ?_
  refine R_pu (pu_lss (p := i < M.length) rfl rfl (by omega)) rfl ?_
  refine R_nil ?_
  refine X_then hK8 ?_
  refine C_dec rfl (fun h16 => ?_) (fun h16 => ?_)
  · refine C_skip ?_
    refine X_then hK7 ?_
    refine C_seq (fun K9 hK9 => ?_)
    refine C_block ?_
    refine C_seq (fun K10 hK10 => ?_)
    refine D_begin (fun W => Kp No w W ∧ Bk W pb ([.int .i64 ((q + 1 : Nat) : Int), .int .i64 ((nn : Nat) : Int), .int .u32 ((ge : Nat) : Int)]) 25 ∧ Bk W sb ([.int .u8 ((ix : Nat) : Int), .int .u32 ((gn : Nat) : Int), .slice A1 (X1.length) (c1)]) 56) 8 rfl (by kernel_rfl) ⟨kk3.drew, f_pb_3.draw, f_sb_3.draw⟩ ?_
    intro w4 k4 _
    have kk4 := kk3.then_ k4
    refine D_take 0 rfl (by kernel_rfl) (by kernel_rfl) (by kernel_rfl) (fun _ _ _ h => h) rfl (fun W hS => pu_move rfl) ?_
    refine D_take 1 rfl (by kernel_rfl) (by kernel_rfl) (by kernel_rfl) (fun _ _ _ h => h) rfl (fun W hS => pu_move rfl) ?_
    obtain ⟨s1, e_s1⟩ : ∃ q_, (M)[i]? = some q_ := ⟨_, List.getElem?_eq_getElem (by first | omega | (simp; done) | (simp; omega))⟩
    have ok_s1 := HS.get e_s1
    have okb_s1 := ok_s1.bs
    have bi_s1 : s1.ix < 256 := ok_s1.ix
    refine D_take 2 rfl (by kernel_rfl) (by kernel_rfl) (by kernel_rfl) (fun _ _ _ h => h) rfl (fun W hS => pu_indexAddrH (HS.keptNo hS.1) Tryd.underlying36 (by kernel_rfl) rfl rfl rfl rfl e_s1) ?_
    refine D_take 3 rfl (by kernel_rfl) (by kernel_rfl) (by kernel_rfl) (fun _ _ _ h => h) rfl (fun W hS => pu_fieldAddrH (off := 0) (HS.keptNo hS.1) e_s1 (by kernel_rfl) rfl) ?_
    refine D_take 4 rfl (by kernel_rfl) (by kernel_rfl) (by kernel_rfl) (fun _ _ _ h => h) rfl (fun W hS => pu_loadH (HS.keptNo hS.1) e_s1 (by kernel_rfl) rfl rfl) ?_
    refine D_take 5 rfl (by kernel_rfl) (by kernel_rfl) (by kernel_rfl) (fun _ _ _ h => h) rfl (fun W hS => pu_fieldAddr (off := 0) (o' := 0) (by kernel_rfl) rfl rfl) ?_
    refine D_take 6 rfl (by kernel_rfl) (by kernel_rfl) (by kernel_rfl) (fun _ _ _ h => h) rfl (fun W hS => pu_loadK hS.2.2 (by kernel_rfl) rfl rfl) ?_
    refine D_take 7 rfl (by kernel_rfl) (by kernel_rfl) (by kernel_rfl) (fun _ _ _ h => h) rfl (fun W hS => pu_eql (p := s1.ix = ix) rfl rfl (by omega)) ?_
    refine D_done (by kernel_rfl) ?_
    refine X_then hK10 ?_
    refine C_decf rfl (fun h => hF.1 (ixs_mem_at e_s1 h)) ?_
    refine C_skip ?_
    refine X_in_normal ?_
    refine X_then hK9 ?_
    refine C_region ?_
    refine R_pu (pu_move rfl) rfl ?_
    refine R_pu (pu_add (z := ((i + 1 : Nat) : Int)) rfl rfl (by rw [IntKind.wrap_i64]; omega)) rfl ?_
    refine R_pu (pu_assign rfl) rfl ?_
    refine R_nil ?_
    have f11 : Bk w4 pb ([.int .i64 ((q + 1 : Nat) : Int), .int .i64 ((nn : Nat) : Int), .int .u32 ((ge : Nat) : Int)]) 25 := (f_pb_3.no k4)
    have f12 : Bk w4 sb ([.int .u8 ((ix : Nat) : Int), .int .u32 ((gn : Nat) : Int), .slice A1 (X1.length) (c1)]) 56 := (f_sb_3.no k4)
    refine X_round (M.length - (i + 1)) [(1, .slice A (M.length) (c)), (3, .pointer (some ⟨pb, 0, none⟩)), (5, .pointer (some ⟨sb, 0, none⟩)), (7, .int .i64 (((i + 1) : Nat) : Int))] (by omega) (Sub.cons rfl (Sub.cons rfl (Sub.cons rfl (Sub.cons rfl (Sub.nil _))))) ⟨i + 1, rfl, rfl, by omega, kk4, f11, f12⟩
  · refine C_exit ?_
    refine X_then_exit (X_then_exit (X_in_eq ?_))
    refine X_then hK5 ?_
    refine C_seq (fun K13 hK13 => ?_)
    refine C_seq (fun K14 hK14 => ?_)
    refine C_region ?_
    refine R_pu (pu_fieldAddr (off := 0) (o' := 0) (by kernel_rfl) rfl rfl) rfl ?_
    refine R_pu (pu_loadK f_sb_3 (by kernel_rfl) rfl rfl) rfl ?_
    refine R_pu (pu_false (pu_lss (p := ix < 1) rfl rfl (by omega)) (by omega)) rfl ?_
    refine R_pu (pu_move rfl) rfl ?_
    refine R_gpu rfl rfl (pu_fieldAddr (off := 0) (o' := 0) (by kernel_rfl) rfl rfl) rfl ?_
    refine R_gpu rfl rfl (pu_loadK f_sb_3 (by kernel_rfl) rfl rfl) rfl ?_
    refine R_gpu rfl rfl (pu_conv (z := ((ix : Nat) : Int)) Tryd.underlying5 Tryd.underlying3 rfl (by have : ix < 256 := hix; rw [IntKind.wrap_i64]; omega)) rfl ?_
    refine R_gpu rfl rfl (pu_fieldAddr (off := 1) (o' := 1) (by kernel_rfl) rfl rfl) rfl ?_
    refine R_gpu rfl rfl (pu_loadK f_pb_3 (by kernel_rfl) rfl rfl) rfl ?_
    refine R_gpu rfl rfl (pu_false (pu_gtr (p := ix > nn) rfl rfl (by omega)) (by omega)) rfl ?_
    refine R_pu (pu_pickf rfl rfl) rfl ?_
    refine R_pu (pu_move rfl) rfl ?_
    refine R_gpu rfl rfl (pu_fieldAddr (off := 2) (o' := 2) (by kernel_rfl) rfl rfl) rfl ?_
    refine R_gpu rfl rfl (pu_loadK f_sb_3 (by kernel_rfl) rfl rfl) rfl ?_
    refine R_gpu rfl rfl (pu_len Tryd.underlying22 rfl) rfl ?_
    refine R_gpu rfl rfl (pu_false (pu_neq (p := X1.length = 32) rfl rfl (by omega)) (fun h => h hF4)) rfl ?_
    refine R_pu (pu_pickf rfl rfl) rfl ?_
    refine R_nil ?_
    refine X_then hK14 ?_
    refine C_false rfl ?_
    refine C_skip ?_
    refine X_then hK13 ?_
    refine C_seq (fun K15 hK15 => ?_)
    refine C_region ?_
    refine R_pu (pu_assign rfl) rfl ?_
    refine R_nil ?_
    refine X_then hK15 ?_
    refine C_ret ?_
    exact X_ret1 (.inl rfl) rfl rfl ⟨rfl, kk3⟩
set_option maxRecDepth 100000 in
set_option maxHeartbeats 2000000 in
theorem rwrong_share (q nn ge : Nat) (A : Option Addr) (M : List Shr) (c ix gn : Nat) (A1 : Option Addr) (X1 : List Nat) (c1 : Nat) (w : World) (HS : Ss w A M) (hf : (M.length < 9223372036854775808 ∧ ix < 256 ∧ X1.length < 9223372036854775808) ∧ gn = ge ∧ ¬ Fit nn M ix X1.length) : Ret Tryd.prog 54 #[.agg ([.int .i64 ((q + 1 : Nat) : Int), .int .i64 ((nn : Nat) : Int), .int .u32 ((ge : Nat) : Int)] : List Value).toArray, .slice A (M.length) (c), .agg ([.int .u8 ((ix : Nat) : Int), .int .u32 ((gn : Nat) : Int), .slice A1 (X1.length) (c1)] : List Value).toArray] w (fun v w' => v = .int .i64 12 ∧ Kp No w w') := by
  obtain ⟨⟨hs, hix, hxl⟩, hf⟩ := hf
  obtain ⟨hgg, hF⟩ := hf
  have kk0 := Kp.refl No w
  refine enter (n := 44) [.agg ([.int .i64 ((q + 1 : Nat) : Int), .int .i64 ((nn : Nat) : Int), .int .u32 ((ge : Nat) : Int)] : List Value).toArray, .slice A (M.length) (c), .agg ([.int .u8 ((ix : Nat) : Int), .int .u32 ((gn : Nat) : Int), .slice A1 (X1.length) (c1)] : List Value).toArray] Tryd.func54 rfl rfl rfl ?_
  show Cw _ _ _ _ [(0, .agg ([.int .i64 ((q + 1 : Nat) : Int), .int .i64 ((nn : Nat) : Int), .int .u32 ((ge : Nat) : Int)] : List Value).toArray), (1, .slice A (M.length) (c)), (2, .agg ([.int .u8 ((ix : Nat) : Int), .int .u32 ((gn : Nat) : Int), .slice A1 (X1.length) (c1)] : List Value).toArray)] _
  refine C_seq (fun K1 hK1 => ?_)
  refine C_region ?_
  refine R_lo (lo_box (L := [.int .i64 ((q + 1 : Nat) : Int), .int .i64 ((nn : Nat) : Int), .int .u32 ((ge : Nat) : Int)]) rfl rfl) rfl ?_
  rintro _ w1 ⟨pb, rfl, N1⟩
  have k1 := N1.kp
  have kk1 := kk0.then_ k1
  have f_pb_1 : Bk w1 pb ([.int .i64 ((q + 1 : Nat) : Int), .int .i64 ((nn : Nat) : Int), .int .u32 ((ge : Nat) : Int)]) 25 := N1.bk
  refine R_lo (lo_box (L := [.int .u8 ((ix : Nat) : Int), .int .u32 ((gn : Nat) : Int), .slice A1 (X1.length) (c1)]) rfl rfl) rfl ?_
  rintro _ w2 ⟨sb, rfl, N2⟩
  have k2 := N2.kp
  have kk2 := kk1.then_ k2
  have ne_sb_pb : sb ≠ pb := Nat.ne_of_gt (Nat.lt_of_lt_of_le f_pb_1.lt N2.le)
  have f_sb_2 : Bk w2 sb ([.int .u8 ((ix : Nat) : Int), .int .u32 ((gn : Nat) : Int), .slice A1 (X1.length) (c1)]) 56 := N2.bk
  refine R_pu (pu_assign rfl) rfl ?_
  refine R_nil ?_
  refine X_then hK1 ?_
  refine C_seq (fun K2 hK2 => ?_)
  refine C_seq (fun K3 hK3 => ?_)
  refine C_region ?_
  refine R_pu (pu_fieldAddr (off := 1) (o' := 1) (by kernel_rfl) rfl rfl) rfl ?_
  refine R_pu (pu_loadK f_sb_2 (by kernel_rfl) rfl rfl) rfl ?_
  refine R_pu (pu_fieldAddr (off := 2) (o' := 2) (by kernel_rfl) rfl rfl) rfl ?_
  have f4 : Bk w2 pb ([.int .i64 ((q + 1 : Nat) : Int), .int .i64 ((nn : Nat) : Int), .int .u32 ((ge : Nat) : Int)]) 25 := (f_pb_1.no k2)
  refine R_pu (pu_loadK f4 (by kernel_rfl) rfl rfl) rfl ?_
  refine R_pu (pu_neq (p := gn = ge) rfl rfl (by omega)) rfl ?_
  refine R_nil ?_
  refine X_then hK3 ?_
  refine C_decf rfl (fun h => h hgg) ?_
  refine C_skip ?_
  refine X_then hK2 ?_
  refine C_seq (fun K5 hK5 => ?_)
  refine C_seq (fun K6 hK6 => ?_)
  refine C_region ?_
  refine R_pu (pu_assign rfl) rfl ?_
  refine R_nil ?_
  refine X_then hK6 ?_
  refine C_block ?_
  refine C_loop (fun m_ l_ wr => ∃ i : Nat, (m_ = M.length - i) ∧ (l_ = [(1, .slice A (M.length) (c)), (3, .pointer (some ⟨pb, 0, none⟩)), (5, .pointer (some ⟨sb, 0, none⟩)), (7, .int .i64 ((i : Nat) : Int))]) ∧ (i ≤ M.length) ∧ (ix ∉ (ixs M).take i) ∧ (Kp No w wr) ∧ (Bk wr pb ([.int .i64 ((q + 1 : Nat) : Int), .int .i64 ((nn : Nat) : Int), .int .u32 ((ge : Nat) : Int)]) 25) ∧ (Bk wr sb ([.int .u8 ((ix : Nat) : Int), .int .u32 ((gn : Nat) : Int), .slice A1 (X1.length) (c1)]) 56)) (M.length - 0) [(1, .slice A (M.length) (c)), (3, .pointer (some ⟨pb, 0, none⟩)), (5, .pointer (some ⟨sb, 0, none⟩)), (7, .int .i64 0)] (Sub.cons rfl (Sub.cons rfl (Sub.cons rfl (Sub.cons rfl (Sub.nil _))))) ⟨0, rfl, rfl, by omega, (by simp), kk2, f4, f_sb_2⟩ ?_
  rintro _ _ w3 ⟨i, rfl, rfl, hi, hn, kk3, f_pb_3, f_sb_3⟩
  refine C_seq (fun K7 hK7 => ?_)
  refine C_seq (fun K8 hK8 => ?_)
  refine C_region ?_
  refine R_pu (pu_move rfl) rfl ?_
  refine R_pu (pu_move rfl) rfl ?_
  refine R_pu (pu_len Tryd.underlying36 rfl) rfl ?_
  refine R_pu (pu_lss (p := i < M.length) rfl rfl (by omega)) rfl ?_
  refine R_nil ?_
  refine X_then hK8 ?_
  refine C_dec rfl (fun h16 => ?_) (fun h16 => ?_)
  · refine C_skip ?_
    refine X_then hK7 ?_
    refine C_seq (fun K9 hK9 => ?_)
    refine C_block ?_
    refine C_seq (fun K10 hK10 => ?_)
    refine D_begin (fun W => Kp No w W ∧ Bk W pb ([.int .i64 ((q + 1 : Nat) : Int), .int .i64 ((nn : Nat) : Int), .int .u32 ((ge : Nat) : Int)]) 25 ∧ Bk W sb ([.int .u8 ((ix : Nat) : Int), .int .u32 ((gn : Nat) : Int), .slice A1 (X1.length) (c1)]) 56) 8 rfl (by kernel_rfl) ⟨kk3.drew, f_pb_3.draw, f_sb_3.draw⟩ ?_
    intro w4 k4 _
    have kk4 := kk3.then_ k4
    refine D_take 0 rfl (by kernel_rfl) (by kernel_rfl) (by kernel_rfl) (fun _ _ _ h => h) rfl (fun W hS => pu_move rfl) ?_
    refine D_take 1 rfl (by kernel_rfl) (by kernel_rfl) (by kernel_rfl) (fun _ _ _ h => h) rfl (fun W hS => pu_move rfl) ?_
    obtain ⟨s1, e_s1⟩ : ∃ q_, (M)[i]? = some q_ := ⟨_, List.getElem?_eq_getElem (by first | omega | (simp; done) | (simp; omega))⟩
    have ok_s1 := HS.get e_s1
    have okb_s1 := ok_s1.bs
    have bi_s1 : s1.ix < 256 := ok_s1.ix
    refine D_take 2 rfl (by kernel_rfl) (by kernel_rfl) (by kernel_rfl) (fun _ _ _ h => h) rfl (fun W hS => pu_indexAddrH (HS.keptNo hS.1) Tryd.underlying36 (by kernel_rfl) rfl rfl rfl rfl e_s1) ?_
    refine D_take 3 rfl (by kernel_rfl) (by kernel_rfl) (by kernel_rfl) (fun _ _ _ h => h) rfl (fun W hS => pu_fieldAddrH (off := 0) (HS.keptNo hS.1) e_s1 (by kernel_rfl) rfl) ?_
    refine D_take 4 rfl (by kernel_rfl) (by kernel_rfl) (by kernel_rfl) (fun _ _ _ h => h) rfl (fun W hS => pu_loadH (HS.keptNo hS.1) e_s1 (by kernel_rfl) rfl rfl) ?_
    refine D_take 5 rfl (by kernel_rfl) (by kernel_rfl) (by kernel_rfl) (fun _ _ _ h => h) rfl (fun W hS => pu_fieldAddr (off := 0) (o' := 0) (by kernel_rfl) rfl rfl) ?_
    refine D_take 6 rfl (by kernel_rfl) (by kernel_rfl) (by kernel_rfl) (fun _ _ _ h => h) rfl (fun W hS => pu_loadK hS.2.2 (by kernel_rfl) rfl rfl) ?_
    refine D_take 7 rfl (by kernel_rfl) (by kernel_rfl) (by kernel_rfl) (fun _ _ _ h => h) rfl (fun W hS => pu_eql (p := s1.ix = ix) rfl rfl (by omega)) ?_
    refine D_done (by kernel_rfl) ?_
    refine X_then hK10 ?_
    refine C_dec rfl (fun h26 => ?_) (fun h26 => ?_)
    · refine C_seq (fun K11 hK11 => ?_)
      refine C_region ?_
      refine R_pu (pu_assign rfl) rfl ?_
      refine R_nil ?_
      refine X_then hK11 ?_
      refine C_ret ?_
      refine X_in_ret (X_then_ret (X_then_ret (X_in_ret (X_then_ret ?_))))
      exact X_ret1 (.inl rfl) rfl rfl ⟨rfl, kk4⟩
    · refine C_skip ?_
      refine X_in_normal ?_
      refine X_then hK9 ?_
      refine C_region ?_
      refine R_pu (pu_move rfl) rfl ?_
      refine R_pu (pu_add (z := ((i + 1 : Nat) : Int)) rfl rfl (by rw [IntKind.wrap_i64]; omega)) rfl ?_
      refine R_pu (pu_assign rfl) rfl ?_
      refine R_nil ?_
      have f12 : Bk w4 pb ([.int .i64 ((q + 1 : Nat) : Int), .int .i64 ((nn : Nat) : Int), .int .u32 ((ge : Nat) : Int)]) 25 := (f_pb_3.no k4)
      have f13 : Bk w4 sb ([.int .u8 ((ix : Nat) : Int), .int .u32 ((gn : Nat) : Int), .slice A1 (X1.length) (c1)]) 56 := (f_sb_3.no k4)
      refine X_round (M.length - (i + 1)) [(1, .slice A (M.length) (c)), (3, .pointer (some ⟨pb, 0, none⟩)), (5, .pointer (some ⟨sb, 0, none⟩)), (7, .int .i64 (((i + 1) : Nat) : Int))] (by omega) (Sub.cons rfl (Sub.cons rfl (Sub.cons rfl (Sub.cons rfl (Sub.nil _))))) ⟨i + 1, rfl, rfl, by omega, (ixs_mem_step hn e_s1 h26), kk4, f12, f13⟩
  · refine C_exit ?_
    refine X_then_exit (X_then_exit (X_in_eq ?_))
    refine X_then hK5 ?_
    refine C_seq (fun K14 hK14 => ?_)
    refine C_seq (fun K15 hK15 => ?_)
    refine C_region ?_
    refine R_pu (pu_fieldAddr (off := 0) (o' := 0) (by kernel_rfl) rfl rfl) rfl ?_
    refine R_pu (pu_loadK f_sb_3 (by kernel_rfl) rfl rfl) rfl ?_
    refine R_pu (pu_lss (p := ix < 1) rfl rfl (by omega)) rfl ?_
    by_cases g8_3 : ix < 1
    · refine R_pu (pu_true (pu_move rfl) g8_3) rfl ?_
      refine R_gno rfl rfl rfl rfl ?_
      refine R_gno rfl rfl rfl rfl ?_
      refine R_gno rfl rfl rfl rfl ?_
      refine R_gno rfl rfl rfl rfl ?_
      refine R_gno rfl rfl rfl rfl ?_
      refine R_gno rfl rfl rfl rfl ?_
      refine R_pu (pu_pickt rfl rfl) rfl ?_
      refine R_pu (pu_move rfl) rfl ?_
      refine R_gno rfl rfl rfl rfl ?_
      refine R_gno rfl rfl rfl rfl ?_
      refine R_gno rfl rfl rfl rfl ?_
      refine R_gno rfl rfl rfl rfl ?_
      refine R_pu (pu_pickt rfl rfl) rfl ?_
      refine R_nil ?_
      refine X_then hK15 ?_
      refine C_true rfl ?_
      refine C_seq (fun K16 hK16 => ?_)
      refine C_region ?_
      refine R_pu (pu_assign rfl) rfl ?_
      refine R_nil ?_
      refine X_then hK16 ?_
      refine C_ret ?_
      refine X_then_ret ?_
      exact X_ret1 (.inl rfl) rfl rfl ⟨rfl, kk3⟩
    · refine R_pu (pu_false (pu_move rfl) g8_3) rfl ?_
      refine R_gpu rfl rfl (pu_fieldAddr (off := 0) (o' := 0) (by kernel_rfl) rfl rfl) rfl ?_
      refine R_gpu rfl rfl (pu_loadK f_sb_3 (by kernel_rfl) rfl rfl) rfl ?_
      refine R_gpu rfl rfl (pu_conv (z := ((ix : Nat) : Int)) Tryd.underlying5 Tryd.underlying3 rfl (by have : ix < 256 := hix; rw [IntKind.wrap_i64]; omega)) rfl ?_
      refine R_gpu rfl rfl (pu_fieldAddr (off := 1) (o' := 1) (by kernel_rfl) rfl rfl) rfl ?_
      refine R_gpu rfl rfl (pu_loadK f_pb_3 (by kernel_rfl) rfl rfl) rfl ?_
      refine R_gpu rfl rfl (pu_gtr (p := ix > nn) rfl rfl (by omega)) rfl ?_
      refine R_pu (pu_pickf rfl rfl) rfl ?_
      by_cases g8_11 : ix > nn
      · refine R_pu (pu_true (pu_move rfl) g8_11) rfl ?_
        refine R_gno rfl rfl rfl rfl ?_
        refine R_gno rfl rfl rfl rfl ?_
        refine R_gno rfl rfl rfl rfl ?_
        refine R_gno rfl rfl rfl rfl ?_
        refine R_pu (pu_pickt rfl rfl) rfl ?_
        refine R_nil ?_
        refine X_then hK15 ?_
        refine C_true rfl ?_
        refine C_seq (fun K17 hK17 => ?_)
        refine C_region ?_
        refine R_pu (pu_assign rfl) rfl ?_
        refine R_nil ?_
        refine X_then hK17 ?_
        refine C_ret ?_
        refine X_then_ret ?_
        exact X_ret1 (.inl rfl) rfl rfl ⟨rfl, kk3⟩
      · refine R_pu (pu_false (pu_move rfl) g8_11) rfl ?_
        refine R_gpu rfl rfl (pu_fieldAddr (off := 2) (o' := 2) (by kernel_rfl) rfl rfl) rfl ?_
        refine R_gpu rfl rfl (pu_loadK f_sb_3 (by kernel_rfl) rfl rfl) rfl ?_
        refine R_gpu rfl rfl (pu_len Tryd.underlying22 rfl) rfl ?_
        refine R_gpu rfl rfl (pu_neq (p := X1.length = 32) rfl rfl (by omega)) rfl ?_
        refine R_pu (pu_pickf rfl rfl) rfl ?_
        refine R_nil ?_
        refine X_then hK15 ?_
        refine C_dec rfl (fun h43 => ?_) (fun h43 => ?_)
        · refine C_seq (fun K18 hK18 => ?_)
          refine C_region ?_
          refine R_pu (pu_assign rfl) rfl ?_
          refine R_nil ?_
          refine X_then hK18 ?_
          refine C_ret ?_
          refine X_then_ret ?_
          exact X_ret1 (.inl rfl) rfl rfl ⟨rfl, kk3⟩
        · refine C_skip ?_
          refine X_then hK14 ?_
          refine C_seq (fun K19 hK19 => ?_)
          rw [List.take_of_length_le (by rw [ixs_length]; omega)] at hn
          exact absurd ⟨hn, by omega, by omega, by omega⟩ hF
theorem rwrong_no (q nn ge : Nat) (A : Option Addr) (M : List Shr) (c ix gn : Nat) (A1 : Option Addr) (X1 : List Nat) (c1 : Nat) (w : World) (HS : Ss w A M) (hf : (M.length < 9223372036854775808 ∧ ix < 256 ∧ X1.length < 9223372036854775808) ∧ ¬ (gn = ge ∧ Fit nn M ix X1.length)) : Ret Tryd.prog 54 #[.agg ([.int .i64 ((q + 1 : Nat) : Int), .int .i64 ((nn : Nat) : Int), .int .u32 ((ge : Nat) : Int)] : List Value).toArray, .slice A (M.length) (c), .agg ([.int .u8 ((ix : Nat) : Int), .int .u32 ((gn : Nat) : Int), .slice A1 (X1.length) (c1)] : List Value).toArray] w (fun v w' => ∃ e : Int, v = .int .i64 e ∧ ¬ e = 0 ∧ Kp No w w') := by
  by_cases h : gn = ge
  · exact (rwrong_share q nn ge A M c ix gn A1 X1 c1 w HS ⟨hf.1, h, fun x => hf.2 ⟨h, x⟩⟩).mono fun v w' hv => ⟨12, hv.1, by decide, hv.2⟩
  · exact (rwrong_gen q nn ge A M c ix gn A1 X1 c1 w HS ⟨hf.1, h⟩).mono fun v w' hv => ⟨14, hv.1, by decide, hv.2⟩
set_option maxRecDepth 100000 in
set_option maxHeartbeats 2000000 in
theorem rmay_t (q nn ge : Nat) (mk : ByteArray) (A : Option Addr) (L : List Shr) (c : Nat) (w : World) (HS : Ss w A L) (hC : ((2 ≤ q + 1 ∧ q + 1 ≤ nn ∧ nn ≤ 255) ∧ mk.size ≤ 16 ∧ L.length ≤ q + 1 ∧ L.length ≤ c) ∧ Came nn ge L) : Ret Tryd.prog 35 #[.agg ([.int .i64 ((q + 1 : Nat) : Int), .int .i64 ((nn : Nat) : Int), .int .u32 ((ge : Nat) : Int), .string mk, .slice A (L.length) (c)] : List Value).toArray] w (fun v w' => v = .bool true ∧ Kp No w w') := by
  obtain ⟨⟨hP, hmk, hl, hc⟩, hC⟩ := hC
  have kk0 := Kp.refl No w
  refine enter (n := 43) [.agg ([.int .i64 ((q + 1 : Nat) : Int), .int .i64 ((nn : Nat) : Int), .int .u32 ((ge : Nat) : Int), .string mk, .slice A (L.length) (c)] : List Value).toArray] Tryd.func35 rfl rfl rfl ?_
  show Cw _ _ _ _ [(0, .agg ([.int .i64 ((q + 1 : Nat) : Int), .int .i64 ((nn : Nat) : Int), .int .u32 ((ge : Nat) : Int), .string mk, .slice A (L.length) (c)] : List Value).toArray)] _
  refine C_seq (fun K1 hK1 => ?_)
  refine C_region ?_
  refine R_lo (lo_box (L := [.int .i64 ((q + 1 : Nat) : Int), .int .i64 ((nn : Nat) : Int), .int .u32 ((ge : Nat) : Int), .string mk, .slice A (L.length) (c)]) rfl rfl) rfl ?_
  rintro _ w1 ⟨pb, rfl, N1⟩
  have k1 := N1.kp
  have kk1 := kk0.then_ k1
  have f_pb_1 : Bk w1 pb ([.int .i64 ((q + 1 : Nat) : Int), .int .i64 ((nn : Nat) : Int), .int .u32 ((ge : Nat) : Int), .string mk, .slice A (L.length) (c)]) 68 := N1.bk
  refine R_pu (pu_assign rfl) rfl ?_
  refine R_nil ?_
  refine X_then hK1 ?_
  refine C_seq (fun K2 hK2 => ?_)
  refine C_seq (fun K3 hK3 => ?_)
  refine C_region ?_
  refine R_pu (pu_fieldAddr (off := 0) (o' := 0) (by kernel_rfl) rfl rfl) rfl ?_
  refine R_pu (pu_loadMid (len := 3) (C := [.int .i64 ((q + 1 : Nat) : Int), .int .i64 ((nn : Nat) : Int), .int .u32 ((ge : Nat) : Int)]) f_pb_1 (by kernel_rfl) (by kernel_rfl) rfl rfl rfl) rfl ?_
  refine R_lo (lo_call (by kernel_rfl) rfl (ref03_may_yes q nn ge _ hP)) rfl ?_
  rintro _ w2 ⟨rfl, k2⟩
  have kk2 := kk1.then_ k2
  refine R_pu (pu_not rfl) rfl ?_
  refine R_pu (pu_move rfl) rfl ?_
  refine R_gpu rfl rfl (pu_fieldAddr (off := 3) (o' := 3) (by kernel_rfl) rfl rfl) rfl ?_
  have f4 : Bk w2 pb ([.int .i64 ((q + 1 : Nat) : Int), .int .i64 ((nn : Nat) : Int), .int .u32 ((ge : Nat) : Int), .string mk, .slice A (L.length) (c)]) 68 := (f_pb_1.no k2)
  refine R_gpu rfl rfl (pu_loadK f4 (by kernel_rfl) rfl rfl) rfl ?_
  refine R_gpu rfl rfl (pu_lens Tryd.underlying9 rfl) rfl ?_
  refine R_gpu rfl rfl (pu_false (pu_gtr (p := mk.size > 16) rfl rfl (by omega)) (by omega)) rfl ?_
  refine R_pu (pu_pickf rfl rfl) rfl ?_
  refine R_pu (pu_move rfl) rfl ?_
  refine R_gpu rfl rfl (pu_fieldAddr (off := 4) (o' := 4) (by kernel_rfl) rfl rfl) rfl ?_
  refine R_gpu rfl rfl (pu_loadK f4 (by kernel_rfl) rfl rfl) rfl ?_
  refine R_gpu rfl rfl (pu_len Tryd.underlying36 rfl) rfl ?_
  refine R_gpu rfl rfl (pu_fieldAddr (off := 0) (o' := 0) (by kernel_rfl) rfl rfl) rfl ?_
  refine R_gpu rfl rfl (pu_fieldAddr (off := 0) (o' := 0) (by kernel_rfl) rfl rfl) rfl ?_
  refine R_gpu rfl rfl (pu_loadK f4 (by kernel_rfl) rfl rfl) rfl ?_
  refine R_gpu rfl rfl (pu_false (pu_gtr (p := L.length > (q + 1)) rfl rfl (by omega)) (by omega)) rfl ?_
  refine R_pu (pu_pickf rfl rfl) rfl ?_
  refine R_nil ?_
  refine X_then hK3 ?_
  refine C_false rfl ?_
  refine C_skip ?_
  refine X_then hK2 ?_
  refine C_seq (fun K5 hK5 => ?_)
  refine C_seq (fun K6 hK6 => ?_)
  refine C_region ?_
  refine R_pu (pu_assign rfl) rfl ?_
  refine R_nil ?_
  refine X_then hK6 ?_
  refine C_block ?_
  refine C_loop (fun m_ l_ wr => ∃ i : Nat, (m_ = L.length - i) ∧ (l_ = [(1, .pointer (some ⟨pb, 0, none⟩)), (3, .int .i64 ((i : Nat) : Int))]) ∧ (i ≤ L.length) ∧ (Kp No w wr) ∧ (Bk wr pb ([.int .i64 ((q + 1 : Nat) : Int), .int .i64 ((nn : Nat) : Int), .int .u32 ((ge : Nat) : Int), .string mk, .slice A (L.length) (c)]) 68)) (L.length - 0) [(1, .pointer (some ⟨pb, 0, none⟩)), (3, .int .i64 0)] (Sub.cons rfl (Sub.cons rfl (Sub.nil _))) ⟨0, rfl, rfl, by omega, kk2, f4⟩ ?_
  rintro _ _ w3 ⟨i, rfl, rfl, hi, kk3, f_pb_3⟩
  refine C_seq (fun K7 hK7 => ?_)
  refine C_seq (fun K8 hK8 => ?_)
  refine C_region ?_
  refine R_pu (pu_move rfl) rfl ?_
  refine R_pu (pu_fieldAddr (off := 4) (o' := 4) (by kernel_rfl) rfl rfl) rfl ?_
  refine R_pu (pu_loadK f_pb_3 (by kernel_rfl) rfl rfl) rfl ?_
  refine R_pu (pu_len Tryd.underlying36 rfl) rfl ?_
  refine R_pu (pu_lss (p := i < L.length) rfl rfl (by omega)) rfl ?_
  refine R_nil ?_
  refine X_then hK8 ?_
  refine C_dec rfl (fun h27 => ?_) (fun h27 => ?_)
  · refine C_skip ?_
    refine X_then hK7 ?_
    refine C_seq (fun K9 hK9 => ?_)
    refine C_block ?_
    refine C_seq (fun K10 hK10 => ?_)
    refine D_begin (fun W => Kp No w W ∧ Bk W pb ([.int .i64 ((q + 1 : Nat) : Int), .int .i64 ((nn : Nat) : Int), .int .u32 ((ge : Nat) : Int), .string mk, .slice A (L.length) (c)]) 68) 13 rfl (by kernel_rfl) ⟨kk3.drew, f_pb_3.draw⟩ ?_
    intro w4 k4 _
    have kk4 := kk3.then_ k4
    refine D_take 0 rfl (by kernel_rfl) (by kernel_rfl) (by kernel_rfl) (fun _ _ _ h => h) rfl (fun W hS => pu_fieldAddr (off := 0) (o' := 0) (by kernel_rfl) rfl rfl) ?_
    refine D_take 1 rfl (by kernel_rfl) (by kernel_rfl) (by kernel_rfl) (fun _ _ _ h => h) rfl (fun W hS => pu_loadMid (len := 3) (C := [.int .i64 ((q + 1 : Nat) : Int), .int .i64 ((nn : Nat) : Int), .int .u32 ((ge : Nat) : Int)]) hS.2 (by kernel_rfl) (by kernel_rfl) rfl rfl rfl) ?_
    refine D_take 2 rfl (by kernel_rfl) (by kernel_rfl) (by kernel_rfl) (fun _ _ _ h => h) rfl (fun W hS => pu_fieldAddr (off := 4) (o' := 4) (by kernel_rfl) rfl rfl) ?_
    refine D_take 3 rfl (by kernel_rfl) (by kernel_rfl) (by kernel_rfl) (fun _ _ _ h => h) rfl (fun W hS => pu_loadK hS.2 (by kernel_rfl) rfl rfl) ?_
    refine D_take 4 rfl (by kernel_rfl) (by kernel_rfl) (by kernel_rfl) (fun _ _ _ h => h) rfl (fun W hS => pu_move rfl) ?_
    have HSt11 := HS.take i
    have ln_HSt11 : (L.take i).length = i := by rw [List.length_take]; omega
    refine D_take 5 rfl (by kernel_rfl) (by kernel_rfl) (by kernel_rfl) (fun _ _ _ h => h) rfl (fun W hS => pu_sliceHi (hi := i) (s := 3) Tryd.underlying36 (by kernel_rfl) rfl rfl rfl (by omega)) ?_
    refine D_take 6 rfl (by kernel_rfl) (by kernel_rfl) (by kernel_rfl) (fun _ _ _ h => h) rfl (fun W hS => pu_fieldAddr (off := 4) (o' := 4) (by kernel_rfl) rfl rfl) ?_
    refine D_take 7 rfl (by kernel_rfl) (by kernel_rfl) (by kernel_rfl) (fun _ _ _ h => h) rfl (fun W hS => pu_loadK hS.2 (by kernel_rfl) rfl rfl) ?_
    refine D_take 8 rfl (by kernel_rfl) (by kernel_rfl) (by kernel_rfl) (fun _ _ _ h => h) rfl (fun W hS => pu_move rfl) ?_
    obtain ⟨s1, e_s1⟩ : ∃ q_, (L)[i]? = some q_ := ⟨_, List.getElem?_eq_getElem (by first | omega | (simp; done) | (simp; omega))⟩
    have ok_s1 := HS.get e_s1
    have okb_s1 := ok_s1.bs
    have bi_s1 : s1.ix < 256 := ok_s1.ix
    refine D_take 9 rfl (by kernel_rfl) (by kernel_rfl) (by kernel_rfl) (fun _ _ _ h => h) rfl (fun W hS => pu_indexAddrH (HS.keptNo hS.1) Tryd.underlying36 (by kernel_rfl) rfl rfl rfl rfl e_s1) ?_
    refine D_take 10 rfl (by kernel_rfl) (by kernel_rfl) (by kernel_rfl) (fun _ _ _ h => h) rfl (fun W hS => pu_loadHr (HS.keptNo hS.1) e_s1 (by kernel_rfl) (by kernel_rfl) rfl) ?_
    refine D_one 11 (by kernel_rfl) (Nx_lo rfl (lo_callE (by kernel_rfl) rfl (by rw [ln_HSt11] <;> rfl) (rwrong_ok q nn ge A (L.take i) c s1.ix s1.gen s1.A s1.X s1.c _ (HSt11.keptNo kk4) ⟨⟨by rw [List.length_take]; omega, ok_s1.ix, by have := ok_s1.le; have := ok_s1.cap; unfold maxLen at this; omega⟩, hC i s1 e_s1⟩)) rfl ?_)
    rintro _ w5 ⟨rfl, k5⟩
    have kk5 := kk4.then_ k5
    have f12 : Bk w5 pb ([.int .i64 ((q + 1 : Nat) : Int), .int .i64 ((nn : Nat) : Int), .int .u32 ((ge : Nat) : Int), .string mk, .slice A (L.length) (c)]) 68 := ((f_pb_3.no k4).no k5)
    refine ⟨⟨kk5, f12⟩, ?_⟩
    refine D_take 12 rfl (by kernel_rfl) (by kernel_rfl) (by kernel_rfl) (fun _ _ _ h => h) rfl (fun W hS => pu_false (pu_neq (p := (0 : Nat) = 0) rfl rfl (by omega)) (by decide)) ?_
    refine D_done (by kernel_rfl) ?_
    refine X_then hK10 ?_
    refine C_false rfl ?_
    refine C_skip ?_
    refine X_in_normal ?_
    refine X_then hK9 ?_
    refine C_region ?_
    refine R_pu (pu_move rfl) rfl ?_
    refine R_pu (pu_add (z := ((i + 1 : Nat) : Int)) rfl rfl (by rw [IntKind.wrap_i64]; omega)) rfl ?_
    refine R_pu (pu_assign rfl) rfl ?_
    refine R_nil ?_
    refine X_round (L.length - (i + 1)) [(1, .pointer (some ⟨pb, 0, none⟩)), (3, .int .i64 (((i + 1) : Nat) : Int))] (by omega) (Sub.cons rfl (Sub.cons rfl (Sub.nil _))) ⟨i + 1, rfl, rfl, by omega, kk5, f12⟩
  · refine C_exit ?_
    refine X_then_exit (X_then_exit (X_in_eq ?_))
    refine X_then hK5 ?_
    refine C_seq (fun K13 hK13 => ?_)
    refine C_region ?_
    refine R_pu (pu_assign rfl) rfl ?_
    refine R_nil ?_
    refine X_then hK13 ?_
    refine C_ret ?_
    exact X_ret1 (.inl rfl) rfl rfl ⟨rfl, kk3⟩
set_option maxRecDepth 100000 in
set_option maxHeartbeats 2000000 in
theorem rmay_plan (ka nn : Int) (ge : Nat) (mk : ByteArray) (A : Option Addr) (L : List Shr) (c : Nat) (w : World) (HS : Ss w A L) (hP : ¬ (2 ≤ ka ∧ ka ≤ nn ∧ nn ≤ 255)) : Ret Tryd.prog 35 #[.agg ([.int .i64 (ka), .int .i64 (nn), .int .u32 ((ge : Nat) : Int), .string mk, .slice A (L.length) (c)] : List Value).toArray] w (fun v w' => v = .bool false ∧ Kp No w w') := by
  have kk0 := Kp.refl No w
  refine enter (n := 43) [.agg ([.int .i64 (ka), .int .i64 (nn), .int .u32 ((ge : Nat) : Int), .string mk, .slice A (L.length) (c)] : List Value).toArray] Tryd.func35 rfl rfl rfl ?_
  show Cw _ _ _ _ [(0, .agg ([.int .i64 (ka), .int .i64 (nn), .int .u32 ((ge : Nat) : Int), .string mk, .slice A (L.length) (c)] : List Value).toArray)] _
  refine C_seq (fun K1 hK1 => ?_)
  refine C_region ?_
  refine R_lo (lo_box (L := [.int .i64 (ka), .int .i64 (nn), .int .u32 ((ge : Nat) : Int), .string mk, .slice A (L.length) (c)]) rfl rfl) rfl ?_
  rintro _ w1 ⟨pb, rfl, N1⟩
  have k1 := N1.kp
  have kk1 := kk0.then_ k1
  have f_pb_1 : Bk w1 pb ([.int .i64 (ka), .int .i64 (nn), .int .u32 ((ge : Nat) : Int), .string mk, .slice A (L.length) (c)]) 68 := N1.bk
  refine R_pu (pu_assign rfl) rfl ?_
  refine R_nil ?_
  refine X_then hK1 ?_
  refine C_seq (fun K2 hK2 => ?_)
  refine C_seq (fun K3 hK3 => ?_)
  refine C_region ?_
  refine R_pu (pu_fieldAddr (off := 0) (o' := 0) (by kernel_rfl) rfl rfl) rfl ?_
  refine R_pu (pu_loadMid (len := 3) (C := [.int .i64 (ka), .int .i64 (nn), .int .u32 ((ge : Nat) : Int)]) f_pb_1 (by kernel_rfl) (by kernel_rfl) rfl rfl rfl) rfl ?_
  refine R_lo (lo_call (by kernel_rfl) rfl (ref03_may_no ka nn ge _ hP)) rfl ?_
  rintro _ w2 ⟨rfl, k2⟩
  have kk2 := kk1.then_ k2
  refine R_pu (pu_not rfl) rfl ?_
  refine R_pu (pu_move rfl) rfl ?_
  refine R_gno rfl rfl rfl rfl ?_
  refine R_gno rfl rfl rfl rfl ?_
  refine R_gno rfl rfl rfl rfl ?_
  refine R_gno rfl rfl rfl rfl ?_
  refine R_pu (pu_pickt rfl rfl) rfl ?_
  refine R_pu (pu_move rfl) rfl ?_
  refine R_gno rfl rfl rfl rfl ?_
  refine R_gno rfl rfl rfl rfl ?_
  refine R_gno rfl rfl rfl rfl ?_
  refine R_gno rfl rfl rfl rfl ?_
  refine R_gno rfl rfl rfl rfl ?_
  refine R_gno rfl rfl rfl rfl ?_
  refine R_gno rfl rfl rfl rfl ?_
  refine R_pu (pu_pickt rfl rfl) rfl ?_
  refine R_nil ?_
  refine X_then hK3 ?_
  refine C_true rfl ?_
  refine C_seq (fun K4 hK4 => ?_)
  refine C_region ?_
  refine R_pu (pu_assign rfl) rfl ?_
  refine R_nil ?_
  refine X_then hK4 ?_
  refine C_ret ?_
  refine X_then_ret ?_
  exact X_ret1 (.inl rfl) rfl rfl ⟨rfl, kk2⟩
set_option maxRecDepth 100000 in
set_option maxHeartbeats 2000000 in
theorem rmay_bad (q nn ge : Nat) (mk : ByteArray) (A : Option Addr) (L : List Shr) (c : Nat) (w : World) (HS : Ss w A L) (hC : (2 ≤ q + 1 ∧ q + 1 ≤ nn ∧ nn ≤ 255) ∧ (L.length ≤ c ∧ L.length < 9223372036854775808) ∧ ¬ (mk.size ≤ 16 ∧ L.length ≤ q + 1 ∧ Came nn ge L)) : Ret Tryd.prog 35 #[.agg ([.int .i64 ((q + 1 : Nat) : Int), .int .i64 ((nn : Nat) : Int), .int .u32 ((ge : Nat) : Int), .string mk, .slice A (L.length) (c)] : List Value).toArray] w (fun v w' => v = .bool false ∧ Kp No w w') := by
  obtain ⟨hP, ⟨hc, hs⟩, hno⟩ := hC
  have kk0 := Kp.refl No w
  refine enter (n := 43) [.agg ([.int .i64 ((q + 1 : Nat) : Int), .int .i64 ((nn : Nat) : Int), .int .u32 ((ge : Nat) : Int), .string mk, .slice A (L.length) (c)] : List Value).toArray] Tryd.func35 rfl rfl rfl ?_
  show Cw _ _ _ _ [(0, .agg ([.int .i64 ((q + 1 : Nat) : Int), .int .i64 ((nn : Nat) : Int), .int .u32 ((ge : Nat) : Int), .string mk, .slice A (L.length) (c)] : List Value).toArray)] _
  refine C_seq (fun K1 hK1 => ?_)
  refine C_region ?_
  refine R_lo (lo_box (L := [.int .i64 ((q + 1 : Nat) : Int), .int .i64 ((nn : Nat) : Int), .int .u32 ((ge : Nat) : Int), .string mk, .slice A (L.length) (c)]) rfl rfl) rfl ?_
  rintro _ w1 ⟨pb, rfl, N1⟩
  have k1 := N1.kp
  have kk1 := kk0.then_ k1
  have f_pb_1 : Bk w1 pb ([.int .i64 ((q + 1 : Nat) : Int), .int .i64 ((nn : Nat) : Int), .int .u32 ((ge : Nat) : Int), .string mk, .slice A (L.length) (c)]) 68 := N1.bk
  refine R_pu (pu_assign rfl) rfl ?_
  refine R_nil ?_
  refine X_then hK1 ?_
  refine C_seq (fun K2 hK2 => ?_)
  refine C_seq (fun K3 hK3 => ?_)
  refine C_region ?_
  refine R_pu (pu_fieldAddr (off := 0) (o' := 0) (by kernel_rfl) rfl rfl) rfl ?_
  refine R_pu (pu_loadMid (len := 3) (C := [.int .i64 ((q + 1 : Nat) : Int), .int .i64 ((nn : Nat) : Int), .int .u32 ((ge : Nat) : Int)]) f_pb_1 (by kernel_rfl) (by kernel_rfl) rfl rfl rfl) rfl ?_
  refine R_lo (lo_call (by kernel_rfl) rfl (ref03_may_yes q nn ge _ hP)) rfl ?_
  rintro _ w2 ⟨rfl, k2⟩
  have kk2 := kk1.then_ k2
  refine R_pu (pu_not rfl) rfl ?_
  refine R_pu (pu_move rfl) rfl ?_
  refine R_gpu rfl rfl (pu_fieldAddr (off := 3) (o' := 3) (by kernel_rfl) rfl rfl) rfl ?_
  have f4 : Bk w2 pb ([.int .i64 ((q + 1 : Nat) : Int), .int .i64 ((nn : Nat) : Int), .int .u32 ((ge : Nat) : Int), .string mk, .slice A (L.length) (c)]) 68 := (f_pb_1.no k2)
  refine R_gpu rfl rfl (pu_loadK f4 (by kernel_rfl) rfl rfl) rfl ?_
  refine R_gpu rfl rfl (pu_lens Tryd.underlying9 rfl) rfl ?_
  refine R_gpu rfl rfl (pu_gtr (p := mk.size > 16) rfl rfl (by omega)) rfl ?_
  refine R_pu (pu_pickf rfl rfl) rfl ?_
  by_cases g1_10 : mk.size > 16
  · refine R_pu (pu_true (pu_move rfl) g1_10) rfl ?_
    refine R_gno rfl rfl rfl rfl ?_
    refine R_gno rfl rfl rfl rfl ?_
    refine R_gno rfl rfl rfl rfl ?_
    refine R_gno rfl rfl rfl rfl ?_
    refine R_gno rfl rfl rfl rfl ?_
    refine R_gno rfl rfl rfl rfl ?_
    refine R_gno rfl rfl rfl rfl ?_
    refine R_pu (pu_pickt rfl rfl) rfl ?_
    refine R_nil ?_
    refine X_then hK3 ?_
    refine C_true rfl ?_
    refine C_seq (fun K5 hK5 => ?_)
    refine C_region ?_
    refine R_pu (pu_assign rfl) rfl ?_
    refine R_nil ?_
    refine X_then hK5 ?_
    refine C_ret ?_
    refine X_then_ret ?_
    exact X_ret1 (.inl rfl) rfl rfl ⟨rfl, kk2⟩
  · refine R_pu (pu_false (pu_move rfl) g1_10) rfl ?_
    refine R_gpu rfl rfl (pu_fieldAddr (off := 4) (o' := 4) (by kernel_rfl) rfl rfl) rfl ?_
    refine R_gpu rfl rfl (pu_loadK f4 (by kernel_rfl) rfl rfl) rfl ?_
    refine R_gpu rfl rfl (pu_len Tryd.underlying36 rfl) rfl ?_
    refine R_gpu rfl rfl (pu_fieldAddr (off := 0) (o' := 0) (by kernel_rfl) rfl rfl) rfl ?_
    refine R_gpu rfl rfl (pu_fieldAddr (off := 0) (o' := 0) (by kernel_rfl) rfl rfl) rfl ?_
    refine R_gpu rfl rfl (pu_loadK f4 (by kernel_rfl) rfl rfl) rfl ?_
    refine R_gpu rfl rfl (pu_gtr (p := L.length > (q + 1)) rfl rfl (by omega)) rfl ?_
    refine R_pu (pu_pickf rfl rfl) rfl ?_
    refine R_nil ?_
    refine X_then hK3 ?_
    refine C_dec rfl (fun h22 => ?_) (fun h22 => ?_)
    · refine C_seq (fun K6 hK6 => ?_)
      refine C_region ?_
      refine R_pu (pu_assign rfl) rfl ?_
      refine R_nil ?_
      refine X_then hK6 ?_
      refine C_ret ?_
      refine X_then_ret ?_
      exact X_ret1 (.inl rfl) rfl rfl ⟨rfl, kk2⟩
    · refine C_skip ?_
      refine X_then hK2 ?_
      refine C_seq (fun K7 hK7 => ?_)
      refine C_seq (fun K8 hK8 => ?_)
      refine C_region ?_
      refine R_pu (pu_assign rfl) rfl ?_
      refine R_nil ?_
      refine X_then hK8 ?_
      refine C_block ?_
      refine C_loop (fun m_ l_ wr => ∃ i : Nat, (m_ = L.length - i) ∧ (l_ = [(1, .pointer (some ⟨pb, 0, none⟩)), (3, .int .i64 ((i : Nat) : Int))]) ∧ (i ≤ L.length) ∧ (CameT nn ge L i) ∧ (Kp No w wr) ∧ (Bk wr pb ([.int .i64 ((q + 1 : Nat) : Int), .int .i64 ((nn : Nat) : Int), .int .u32 ((ge : Nat) : Int), .string mk, .slice A (L.length) (c)]) 68)) (L.length - 0) [(1, .pointer (some ⟨pb, 0, none⟩)), (3, .int .i64 0)] (Sub.cons rfl (Sub.cons rfl (Sub.nil _))) ⟨0, rfl, rfl, by omega, (CameT.zero _ _ _), kk2, f4⟩ ?_
      rintro _ _ w3 ⟨i, rfl, rfl, hi, hct, kk3, f_pb_3⟩
      refine C_seq (fun K9 hK9 => ?_)
      refine C_seq (fun K10 hK10 => ?_)
      refine C_region ?_
      refine R_pu (pu_move rfl) rfl ?_
      refine R_pu (pu_fieldAddr (off := 4) (o' := 4) (by kernel_rfl) rfl rfl) rfl ?_
      refine R_pu (pu_loadK f_pb_3 (by kernel_rfl) rfl rfl) rfl ?_
      refine R_pu (pu_len Tryd.underlying36 rfl) rfl ?_
      refine R_pu (pu_lss (p := i < L.length) rfl rfl (by omega)) rfl ?_
      refine R_nil ?_
      refine X_then hK10 ?_
      refine C_dec rfl (fun h27 => ?_) (fun h27 => ?_)
      · refine C_skip ?_
        refine X_then hK9 ?_
        by_cases hfit : ∀ s1, L[i]? = some s1 → s1.gen = ge ∧ Fit nn (L.take i) s1.ix s1.X.length
        · refine C_seq (fun K11 hK11 => ?_)
          refine C_block ?_
          refine C_seq (fun K12 hK12 => ?_)
          refine D_begin (fun W => Kp No w W ∧ Bk W pb ([.int .i64 ((q + 1 : Nat) : Int), .int .i64 ((nn : Nat) : Int), .int .u32 ((ge : Nat) : Int), .string mk, .slice A (L.length) (c)]) 68) 13 rfl (by kernel_rfl) ⟨kk3.drew, f_pb_3.draw⟩ ?_
          intro w4 k4 _
          have kk4 := kk3.then_ k4
          refine D_take 0 rfl (by kernel_rfl) (by kernel_rfl) (by kernel_rfl) (fun _ _ _ h => h) rfl (fun W hS => pu_fieldAddr (off := 0) (o' := 0) (by kernel_rfl) rfl rfl) ?_
          refine D_take 1 rfl (by kernel_rfl) (by kernel_rfl) (by kernel_rfl) (fun _ _ _ h => h) rfl (fun W hS => pu_loadMid (len := 3) (C := [.int .i64 ((q + 1 : Nat) : Int), .int .i64 ((nn : Nat) : Int), .int .u32 ((ge : Nat) : Int)]) hS.2 (by kernel_rfl) (by kernel_rfl) rfl rfl rfl) ?_
          refine D_take 2 rfl (by kernel_rfl) (by kernel_rfl) (by kernel_rfl) (fun _ _ _ h => h) rfl (fun W hS => pu_fieldAddr (off := 4) (o' := 4) (by kernel_rfl) rfl rfl) ?_
          refine D_take 3 rfl (by kernel_rfl) (by kernel_rfl) (by kernel_rfl) (fun _ _ _ h => h) rfl (fun W hS => pu_loadK hS.2 (by kernel_rfl) rfl rfl) ?_
          refine D_take 4 rfl (by kernel_rfl) (by kernel_rfl) (by kernel_rfl) (fun _ _ _ h => h) rfl (fun W hS => pu_move rfl) ?_
          have HSt13 := HS.take i
          have ln_HSt13 : (L.take i).length = i := by rw [List.length_take]; omega
          refine D_take 5 rfl (by kernel_rfl) (by kernel_rfl) (by kernel_rfl) (fun _ _ _ h => h) rfl (fun W hS => pu_sliceHi (hi := i) (s := 3) Tryd.underlying36 (by kernel_rfl) rfl rfl rfl (by omega)) ?_
          refine D_take 6 rfl (by kernel_rfl) (by kernel_rfl) (by kernel_rfl) (fun _ _ _ h => h) rfl (fun W hS => pu_fieldAddr (off := 4) (o' := 4) (by kernel_rfl) rfl rfl) ?_
          refine D_take 7 rfl (by kernel_rfl) (by kernel_rfl) (by kernel_rfl) (fun _ _ _ h => h) rfl (fun W hS => pu_loadK hS.2 (by kernel_rfl) rfl rfl) ?_
          refine D_take 8 rfl (by kernel_rfl) (by kernel_rfl) (by kernel_rfl) (fun _ _ _ h => h) rfl (fun W hS => pu_move rfl) ?_
          obtain ⟨s1, e_s1⟩ : ∃ q_, (L)[i]? = some q_ := ⟨_, List.getElem?_eq_getElem (by first | omega | (simp; done) | (simp; omega))⟩
          have ok_s1 := HS.get e_s1
          have okb_s1 := ok_s1.bs
          have bi_s1 : s1.ix < 256 := ok_s1.ix
          refine D_take 9 rfl (by kernel_rfl) (by kernel_rfl) (by kernel_rfl) (fun _ _ _ h => h) rfl (fun W hS => pu_indexAddrH (HS.keptNo hS.1) Tryd.underlying36 (by kernel_rfl) rfl rfl rfl rfl e_s1) ?_
          refine D_take 10 rfl (by kernel_rfl) (by kernel_rfl) (by kernel_rfl) (fun _ _ _ h => h) rfl (fun W hS => pu_loadHr (HS.keptNo hS.1) e_s1 (by kernel_rfl) (by kernel_rfl) rfl) ?_
          refine D_one 11 (by kernel_rfl) (Nx_lo rfl (lo_callE (by kernel_rfl) rfl (by rw [ln_HSt13] <;> rfl) (rwrong_ok q nn ge A (L.take i) c s1.ix s1.gen s1.A s1.X s1.c _ (HSt13.keptNo kk4) ⟨⟨by rw [List.length_take]; omega, ok_s1.ix, by have := ok_s1.le; have := ok_s1.cap; unfold maxLen at this; omega⟩, hfit _ e_s1⟩)) rfl ?_)
          rintro _ w5 ⟨rfl, k5⟩
          have kk5 := kk4.then_ k5
          have f14 : Bk w5 pb ([.int .i64 ((q + 1 : Nat) : Int), .int .i64 ((nn : Nat) : Int), .int .u32 ((ge : Nat) : Int), .string mk, .slice A (L.length) (c)]) 68 := ((f_pb_3.no k4).no k5)
          refine ⟨⟨kk5, f14⟩, ?_⟩
          refine D_take 12 rfl (by kernel_rfl) (by kernel_rfl) (by kernel_rfl) (fun _ _ _ h => h) rfl (fun W hS => pu_false (pu_neq (p := (0 : Nat) = 0) rfl rfl (by omega)) (by decide)) ?_
          refine D_done (by kernel_rfl) ?_
          refine X_then hK12 ?_
          refine C_false rfl ?_
          refine C_skip ?_
          refine X_in_normal ?_
          refine X_then hK11 ?_
          refine C_region ?_
          refine R_pu (pu_move rfl) rfl ?_
          refine R_pu (pu_add (z := ((i + 1 : Nat) : Int)) rfl rfl (by rw [IntKind.wrap_i64]; omega)) rfl ?_
          refine R_pu (pu_assign rfl) rfl ?_
          refine R_nil ?_
          refine X_round (L.length - (i + 1)) [(1, .pointer (some ⟨pb, 0, none⟩)), (3, .int .i64 (((i + 1) : Nat) : Int))] (by omega) (Sub.cons rfl (Sub.cons rfl (Sub.nil _))) ⟨i + 1, rfl, rfl, by omega, (hct.step e_s1 (hfit _ e_s1)), kk5, f14⟩
        · refine C_seq (fun K15 hK15 => ?_)
          refine C_block ?_
          refine C_seq (fun K16 hK16 => ?_)
          refine D_begin (fun W => Kp No w W ∧ Bk W pb ([.int .i64 ((q + 1 : Nat) : Int), .int .i64 ((nn : Nat) : Int), .int .u32 ((ge : Nat) : Int), .string mk, .slice A (L.length) (c)]) 68) 13 rfl (by kernel_rfl) ⟨kk3.drew, f_pb_3.draw⟩ ?_
          intro w6 k6 _
          have kk6 := kk3.then_ k6
          refine D_take 0 rfl (by kernel_rfl) (by kernel_rfl) (by kernel_rfl) (fun _ _ _ h => h) rfl (fun W hS => pu_fieldAddr (off := 0) (o' := 0) (by kernel_rfl) rfl rfl) ?_
          refine D_take 1 rfl (by kernel_rfl) (by kernel_rfl) (by kernel_rfl) (fun _ _ _ h => h) rfl (fun W hS => pu_loadMid (len := 3) (C := [.int .i64 ((q + 1 : Nat) : Int), .int .i64 ((nn : Nat) : Int), .int .u32 ((ge : Nat) : Int)]) hS.2 (by kernel_rfl) (by kernel_rfl) rfl rfl rfl) ?_
          refine D_take 2 rfl (by kernel_rfl) (by kernel_rfl) (by kernel_rfl) (fun _ _ _ h => h) rfl (fun W hS => pu_fieldAddr (off := 4) (o' := 4) (by kernel_rfl) rfl rfl) ?_
          refine D_take 3 rfl (by kernel_rfl) (by kernel_rfl) (by kernel_rfl) (fun _ _ _ h => h) rfl (fun W hS => pu_loadK hS.2 (by kernel_rfl) rfl rfl) ?_
          refine D_take 4 rfl (by kernel_rfl) (by kernel_rfl) (by kernel_rfl) (fun _ _ _ h => h) rfl (fun W hS => pu_move rfl) ?_
          have HSt17 := HS.take i
          have ln_HSt17 : (L.take i).length = i := by rw [List.length_take]; omega
          refine D_take 5 rfl (by kernel_rfl) (by kernel_rfl) (by kernel_rfl) (fun _ _ _ h => h) rfl (fun W hS => pu_sliceHi (hi := i) (s := 3) Tryd.underlying36 (by kernel_rfl) rfl rfl rfl (by omega)) ?_
          refine D_take 6 rfl (by kernel_rfl) (by kernel_rfl) (by kernel_rfl) (fun _ _ _ h => h) rfl (fun W hS => pu_fieldAddr (off := 4) (o' := 4) (by kernel_rfl) rfl rfl) ?_
          refine D_take 7 rfl (by kernel_rfl) (by kernel_rfl) (by kernel_rfl) (fun _ _ _ h => h) rfl (fun W hS => pu_loadK hS.2 (by kernel_rfl) rfl rfl) ?_
          refine D_take 8 rfl (by kernel_rfl) (by kernel_rfl) (by kernel_rfl) (fun _ _ _ h => h) rfl (fun W hS => pu_move rfl) ?_
          obtain ⟨s1, e_s1⟩ : ∃ q_, (L)[i]? = some q_ := ⟨_, List.getElem?_eq_getElem (by first | omega | (simp; done) | (simp; omega))⟩
          have ok_s1 := HS.get e_s1
          have okb_s1 := ok_s1.bs
          have bi_s1 : s1.ix < 256 := ok_s1.ix
          refine D_take 9 rfl (by kernel_rfl) (by kernel_rfl) (by kernel_rfl) (fun _ _ _ h => h) rfl (fun W hS => pu_indexAddrH (HS.keptNo hS.1) Tryd.underlying36 (by kernel_rfl) rfl rfl rfl rfl e_s1) ?_
          refine D_take 10 rfl (by kernel_rfl) (by kernel_rfl) (by kernel_rfl) (fun _ _ _ h => h) rfl (fun W hS => pu_loadHr (HS.keptNo hS.1) e_s1 (by kernel_rfl) (by kernel_rfl) rfl) ?_
          refine D_one 11 (by kernel_rfl) (Nx_lo rfl (lo_callE (by kernel_rfl) rfl (by rw [ln_HSt17] <;> rfl) (rwrong_no q nn ge A (L.take i) c s1.ix s1.gen s1.A s1.X s1.c _ (HSt17.keptNo kk6) ⟨⟨by rw [List.length_take]; omega, ok_s1.ix, by have := ok_s1.le; have := ok_s1.cap; unfold maxLen at this; omega⟩, fun h => hfit fun s2 e2 => by rw [e_s1] at e2; cases e2; exact h⟩)) rfl ?_)
          rintro _ w7 ⟨fe, rfl, hfe, k7⟩
          have kk7 := kk6.then_ k7
          have f18 : Bk w7 pb ([.int .i64 ((q + 1 : Nat) : Int), .int .i64 ((nn : Nat) : Int), .int .u32 ((ge : Nat) : Int), .string mk, .slice A (L.length) (c)]) 68 := ((f_pb_3.no k6).no k7)
          refine ⟨⟨kk7, f18⟩, ?_⟩
          refine D_take 12 rfl (by kernel_rfl) (by kernel_rfl) (by kernel_rfl) (fun _ _ _ h => h) rfl (fun W hS => pu_true (pu_neq (p := fe = 0) rfl rfl (by omega)) hfe) ?_
          refine D_done (by kernel_rfl) ?_
          refine X_then hK16 ?_
          refine C_true rfl ?_
          refine C_seq (fun K19 hK19 => ?_)
          refine C_region ?_
          refine R_pu (pu_assign rfl) rfl ?_
          refine R_nil ?_
          refine X_then hK19 ?_
          refine C_ret ?_
          refine X_in_ret (X_then_ret (X_then_ret (X_in_ret (X_then_ret ?_))))
          exact X_ret1 (.inl rfl) rfl rfl ⟨rfl, kk7⟩
      · refine C_exit ?_
        refine X_then_exit (X_then_exit (X_in_eq ?_))
        refine X_then hK7 ?_
        refine C_seq (fun K20 hK20 => ?_)
        exact absurd ⟨by omega, by omega, hct.all (by omega)⟩ hno
theorem rmay_f (ka nn : Int) (ge : Nat) (mk : ByteArray) (A : Option Addr) (L : List Shr) (c : Nat) (w : World) (HS : Ss w A L) (hm : (L.length ≤ c ∧ L.length < 9223372036854775808) ∧ ¬ MayP ka nn ge mk L) : Ret Tryd.prog 35 #[.agg ([.int .i64 (ka), .int .i64 (nn), .int .u32 ((ge : Nat) : Int), .string mk, .slice A (L.length) (c)] : List Value).toArray] w (fun v w' => v = .bool false ∧ Kp No w w') := by
  by_cases hP : 2 ≤ ka ∧ ka ≤ nn ∧ nn ≤ 255
  · obtain ⟨q, rfl⟩ : ∃ q : Nat, ka = ((q + 1 : Nat) : Int) := ⟨(ka - 1).toNat, by omega⟩
    obtain ⟨n, rfl⟩ : ∃ n : Nat, nn = (n : Int) := ⟨nn.toNat, by omega⟩
    exact rmay_bad q n ge mk A L c w HS ⟨by omega, hm.1, fun h => hm.2 ⟨hP, h.1, by omega, h.2.2⟩⟩
  · exact rmay_plan ka nn ge mk A L c w HS hP
set_option maxRecDepth 100000 in
set_option maxHeartbeats 2000000 in
theorem rsub_arg (ka nn : Int) (ge : Nat) (mk : ByteArray) (A : Option Addr) (L : List Shr) (c : Nat) (mk2 : ByteArray) (ix gn : Nat) (A1 : Option Addr) (X1 : List Nat) (c1 : Nat) (w : World) (HS : Ss w A L) (hm : (L.length ≤ c ∧ L.length < 9223372036854775808) ∧ ¬ MayP ka nn ge mk L) : Ret Tryd.prog 31 #[.agg ([.int .i64 (ka), .int .i64 (nn), .int .u32 ((ge : Nat) : Int), .string mk, .slice A (L.length) (c)] : List Value).toArray, .string mk2, .agg ([.int .u8 ((ix : Nat) : Int), .int .u32 ((gn : Nat) : Int), .slice A1 (X1.length) (c1)] : List Value).toArray] w (fun v w' => v = .tuple #[.agg ([.int .i64 0, .int .i64 0, .int .u32 0, .string ByteArray.empty, .slice none (0) (0)] : List Value).toArray, .bool false, .int .i64 1] ∧ Kp No w w') := by
  have kk0 := Kp.refl No w
  refine enter (n := 61) [.agg ([.int .i64 (ka), .int .i64 (nn), .int .u32 ((ge : Nat) : Int), .string mk, .slice A (L.length) (c)] : List Value).toArray, .string mk2, .agg ([.int .u8 ((ix : Nat) : Int), .int .u32 ((gn : Nat) : Int), .slice A1 (X1.length) (c1)] : List Value).toArray] Tryd.func31 rfl rfl rfl ?_
  show Cw _ _ _ _ [(0, .agg ([.int .i64 (ka), .int .i64 (nn), .int .u32 ((ge : Nat) : Int), .string mk, .slice A (L.length) (c)] : List Value).toArray), (1, .string mk2), (2, .agg ([.int .u8 ((ix : Nat) : Int), .int .u32 ((gn : Nat) : Int), .slice A1 (X1.length) (c1)] : List Value).toArray)] _
  refine C_seq (fun K1 hK1 => ?_)
  refine C_region ?_
  refine R_lo (lo_box (L := [.int .i64 (ka), .int .i64 (nn), .int .u32 ((ge : Nat) : Int), .string mk, .slice A (L.length) (c)]) rfl rfl) rfl ?_
  rintro _ w1 ⟨pb, rfl, N1⟩
  have k1 := N1.kp
  have kk1 := kk0.then_ k1
  have f_pb_1 : Bk w1 pb ([.int .i64 (ka), .int .i64 (nn), .int .u32 ((ge : Nat) : Int), .string mk, .slice A (L.length) (c)]) 68 := N1.bk
  refine R_lo (lo_box (L := [.int .u8 ((ix : Nat) : Int), .int .u32 ((gn : Nat) : Int), .slice A1 (X1.length) (c1)]) rfl rfl) rfl ?_
  rintro _ w2 ⟨sb, rfl, N2⟩
  have k2 := N2.kp
  have kk2 := kk1.then_ k2
  have ne_sb_pb : sb ≠ pb := Nat.ne_of_gt (Nat.lt_of_lt_of_le f_pb_1.lt N2.le)
  have f_sb_2 : Bk w2 sb ([.int .u8 ((ix : Nat) : Int), .int .u32 ((gn : Nat) : Int), .slice A1 (X1.length) (c1)]) 56 := N2.bk
  have f2 : Bk w2 pb ([.int .i64 (ka), .int .i64 (nn), .int .u32 ((ge : Nat) : Int), .string mk, .slice A (L.length) (c)]) 68 := (f_pb_1.no k2)
  refine R_lo (lo_alloc (L := [.int .i64 0, .int .i64 0, .int .u32 0, .string ByteArray.empty, .slice none (0) (0)]) (by kernel_rfl)) rfl ?_
  rintro _ w3 ⟨rs, rfl, N3⟩
  have k3 := N3.kp
  have kk3 := kk2.then_ k3
  have ne_rs_pb : rs ≠ pb := Nat.ne_of_gt (Nat.lt_of_lt_of_le f2.lt N3.le)
  have ne_rs_sb : rs ≠ sb := Nat.ne_of_gt (Nat.lt_of_lt_of_le f_sb_2.lt N3.le)
  have f_rs_3 : Bk w3 rs ([.int .i64 0, .int .i64 0, .int .u32 0, .string ByteArray.empty, .slice none (0) (0)]) 68 := N3.bk
  refine R_pu (pu_assign rfl) rfl ?_
  refine R_pu (pu_assign rfl) rfl ?_
  refine R_nil ?_
  refine X_then hK1 ?_
  refine C_seq (fun K3 hK3 => ?_)
  refine C_seq (fun K4 hK4 => ?_)
  refine C_region ?_
  have f5 : Bk w3 pb ([.int .i64 (ka), .int .i64 (nn), .int .u32 ((ge : Nat) : Int), .string mk, .slice A (L.length) (c)]) 68 := (f2.no k3)
  refine R_pu (pu_loadRow (len := 5) f5 (by kernel_rfl) (by kernel_rfl) rfl rfl) rfl ?_
  refine R_lo (lo_call (by kernel_rfl) rfl (rmay_f ka nn ge mk A L c _ (HS.keptNo kk3) hm)) rfl ?_
  rintro _ w4 ⟨rfl, k4⟩
  have kk4 := kk3.then_ k4
  refine R_pu (pu_not rfl) rfl ?_
  refine R_nil ?_
  refine X_then hK4 ?_
  refine C_true rfl ?_
  refine C_seq (fun K6 hK6 => ?_)
  refine C_region ?_
  refine R_pu (pu_build (L := [.int .i64 0, .int .i64 0, .int .u32 0, .string ByteArray.empty, .slice none (0) (0)]) rfl (by kernel_rfl)) rfl ?_
  have f7 : Bk w4 rs ([.int .i64 0, .int .i64 0, .int .u32 0, .string ByteArray.empty, .slice none (0) (0)]) 68 := (f_rs_3.no k4)
  refine R_lo0 (lo_storeRow (C := [.int .i64 0, .int .i64 0, .int .u32 0, .string ByteArray.empty, .slice none (0) (0)]) f7 (by kernel_rfl) rfl rfl (by intro u hu; simp at hu; rcases hu with rfl | rfl | rfl | rfl | rfl <;> rfl) rfl) ?_
  rintro _ w5 kf5
  obtain ⟨k5, f_rs_5⟩ := kf5
  replace f_rs_5 : Bk w5 rs ([.int .i64 0, .int .i64 0, .int .u32 0, .string ByteArray.empty, .slice none (0) (0)]) 68 := f_rs_5
  have kk5 := kk4.trans k5 (fun i hi => .inr (hi ▸ (Nat.le_trans kk2.size N3.le)))
  refine R_pu (pu_assign rfl) rfl ?_
  refine R_pu (pu_assign rfl) rfl ?_
  refine R_nil ?_
  refine X_then hK6 ?_
  refine C_ret ?_
  refine X_then_ret ?_
  exact X_retCTT (len := 5) (.inl rfl) rfl rfl f_rs_5 (by kernel_rfl) (by kernel_rfl) rfl rfl rfl ⟨rfl, kk5⟩
set_option maxRecDepth 100000 in
set_option maxHeartbeats 2000000 in
theorem rsub_state (q nn ge : Nat) (mk : ByteArray) (A : Option Addr) (L : List Shr) (c : Nat) (mk2 : ByteArray) (ix gn : Nat) (A1 : Option Addr) (X1 : List Nat) (c1 : Nat) (w : World) (HS : Ss w A L) (hC : (((2 ≤ q + 1 ∧ q + 1 ≤ nn ∧ nn ≤ 255) ∧ mk.size ≤ 16 ∧ L.length ≤ q + 1 ∧ L.length ≤ c) ∧ Came nn ge L) ∧ (¬ mk2 = mk ∨ L.length = q + 1)) : Ret Tryd.prog 31 #[.agg ([.int .i64 ((q + 1 : Nat) : Int), .int .i64 ((nn : Nat) : Int), .int .u32 ((ge : Nat) : Int), .string mk, .slice A (L.length) (c)] : List Value).toArray, .string mk2, .agg ([.int .u8 ((ix : Nat) : Int), .int .u32 ((gn : Nat) : Int), .slice A1 (X1.length) (c1)] : List Value).toArray] w (fun v w' => v = .tuple #[.agg ([.int .i64 0, .int .i64 0, .int .u32 0, .string ByteArray.empty, .slice none (0) (0)] : List Value).toArray, .bool false, .int .i64 15] ∧ Kp No w w') := by
  have kk0 := Kp.refl No w
  refine enter (n := 61) [.agg ([.int .i64 ((q + 1 : Nat) : Int), .int .i64 ((nn : Nat) : Int), .int .u32 ((ge : Nat) : Int), .string mk, .slice A (L.length) (c)] : List Value).toArray, .string mk2, .agg ([.int .u8 ((ix : Nat) : Int), .int .u32 ((gn : Nat) : Int), .slice A1 (X1.length) (c1)] : List Value).toArray] Tryd.func31 rfl rfl rfl ?_
  show Cw _ _ _ _ [(0, .agg ([.int .i64 ((q + 1 : Nat) : Int), .int .i64 ((nn : Nat) : Int), .int .u32 ((ge : Nat) : Int), .string mk, .slice A (L.length) (c)] : List Value).toArray), (1, .string mk2), (2, .agg ([.int .u8 ((ix : Nat) : Int), .int .u32 ((gn : Nat) : Int), .slice A1 (X1.length) (c1)] : List Value).toArray)] _
  refine C_seq (fun K1 hK1 => ?_)
  refine C_region ?_
  refine R_lo (lo_box (L := [.int .i64 ((q + 1 : Nat) : Int), .int .i64 ((nn : Nat) : Int), .int .u32 ((ge : Nat) : Int), .string mk, .slice A (L.length) (c)]) rfl rfl) rfl ?_
  rintro _ w1 ⟨pb, rfl, N1⟩
  have k1 := N1.kp
  have kk1 := kk0.then_ k1
  have f_pb_1 : Bk w1 pb ([.int .i64 ((q + 1 : Nat) : Int), .int .i64 ((nn : Nat) : Int), .int .u32 ((ge : Nat) : Int), .string mk, .slice A (L.length) (c)]) 68 := N1.bk
  refine R_lo (lo_box (L := [.int .u8 ((ix : Nat) : Int), .int .u32 ((gn : Nat) : Int), .slice A1 (X1.length) (c1)]) rfl rfl) rfl ?_
  rintro _ w2 ⟨sb, rfl, N2⟩
  have k2 := N2.kp
  have kk2 := kk1.then_ k2
  have ne_sb_pb : sb ≠ pb := Nat.ne_of_gt (Nat.lt_of_lt_of_le f_pb_1.lt N2.le)
  have f_sb_2 : Bk w2 sb ([.int .u8 ((ix : Nat) : Int), .int .u32 ((gn : Nat) : Int), .slice A1 (X1.length) (c1)]) 56 := N2.bk
  have f2 : Bk w2 pb ([.int .i64 ((q + 1 : Nat) : Int), .int .i64 ((nn : Nat) : Int), .int .u32 ((ge : Nat) : Int), .string mk, .slice A (L.length) (c)]) 68 := (f_pb_1.no k2)
  refine R_lo (lo_alloc (L := [.int .i64 0, .int .i64 0, .int .u32 0, .string ByteArray.empty, .slice none (0) (0)]) (by kernel_rfl)) rfl ?_
  rintro _ w3 ⟨rs, rfl, N3⟩
  have k3 := N3.kp
  have kk3 := kk2.then_ k3
  have ne_rs_pb : rs ≠ pb := Nat.ne_of_gt (Nat.lt_of_lt_of_le f2.lt N3.le)
  have ne_rs_sb : rs ≠ sb := Nat.ne_of_gt (Nat.lt_of_lt_of_le f_sb_2.lt N3.le)
  have f_rs_3 : Bk w3 rs ([.int .i64 0, .int .i64 0, .int .u32 0, .string ByteArray.empty, .slice none (0) (0)]) 68 := N3.bk
  refine R_pu (pu_assign rfl) rfl ?_
  refine R_pu (pu_assign rfl) rfl ?_
  refine R_nil ?_
  refine X_then hK1 ?_
  refine C_seq (fun K3 hK3 => ?_)
  refine C_seq (fun K4 hK4 => ?_)
  refine C_region ?_
  have f5 : Bk w3 pb ([.int .i64 ((q + 1 : Nat) : Int), .int .i64 ((nn : Nat) : Int), .int .u32 ((ge : Nat) : Int), .string mk, .slice A (L.length) (c)]) 68 := (f2.no k3)
  refine R_pu (pu_loadRow (len := 5) f5 (by kernel_rfl) (by kernel_rfl) rfl rfl) rfl ?_
  refine R_lo (lo_call (by kernel_rfl) rfl (rmay_t q nn ge mk A L c _ (HS.keptNo kk3) hC.1)) rfl ?_
  rintro _ w4 ⟨rfl, k4⟩
  have kk4 := kk3.then_ k4
  refine R_pu (pu_not rfl) rfl ?_
  refine R_nil ?_
  refine X_then hK4 ?_
  refine C_false rfl ?_
  refine C_skip ?_
  refine X_then hK3 ?_
  refine C_seq (fun K6 hK6 => ?_)
  refine C_seq (fun K7 hK7 => ?_)
  refine C_region ?_
  refine R_pu (pu_move rfl) rfl ?_
  refine R_pu (pu_fieldAddr (off := 3) (o' := 3) (by kernel_rfl) rfl rfl) rfl ?_
  have f8 : Bk w4 pb ([.int .i64 ((q + 1 : Nat) : Int), .int .i64 ((nn : Nat) : Int), .int .u32 ((ge : Nat) : Int), .string mk, .slice A (L.length) (c)]) 68 := (f5.no k4)
  refine R_pu (pu_loadK f8 (by kernel_rfl) rfl rfl) rfl ?_
  refine R_pu (pu_neqs (p := mk2 = mk) rfl rfl Iff.rfl) rfl ?_
  by_cases g3_4 : ¬ (mk2 = mk)
  · refine R_pu (pu_true (pu_move rfl) g3_4) rfl ?_
    refine R_gno rfl rfl rfl rfl ?_
    refine R_gno rfl rfl rfl rfl ?_
    refine R_gno rfl rfl rfl rfl ?_
    refine R_gno rfl rfl rfl rfl ?_
    refine R_gno rfl rfl rfl rfl ?_
    refine R_gno rfl rfl rfl rfl ?_
    refine R_gno rfl rfl rfl rfl ?_
    refine R_pu (pu_pickt rfl rfl) rfl ?_
    refine R_nil ?_
    refine X_then hK7 ?_
    refine C_true rfl ?_
    refine C_seq (fun K9 hK9 => ?_)
    refine C_region ?_
    refine R_pu (pu_build (L := [.int .i64 0, .int .i64 0, .int .u32 0, .string ByteArray.empty, .slice none (0) (0)]) rfl (by kernel_rfl)) rfl ?_
    have f10 : Bk w4 rs ([.int .i64 0, .int .i64 0, .int .u32 0, .string ByteArray.empty, .slice none (0) (0)]) 68 := (f_rs_3.no k4)
    refine R_lo0 (lo_storeRow (C := [.int .i64 0, .int .i64 0, .int .u32 0, .string ByteArray.empty, .slice none (0) (0)]) f10 (by kernel_rfl) rfl rfl (by intro u hu; simp at hu; rcases hu with rfl | rfl | rfl | rfl | rfl <;> rfl) rfl) ?_
    rintro _ w5 kf5
    obtain ⟨k5, f_rs_5⟩ := kf5
    replace f_rs_5 : Bk w5 rs ([.int .i64 0, .int .i64 0, .int .u32 0, .string ByteArray.empty, .slice none (0) (0)]) 68 := f_rs_5
    have kk5 := kk4.trans k5 (fun i hi => .inr (hi ▸ (Nat.le_trans kk2.size N3.le)))
    refine R_pu (pu_assign rfl) rfl ?_
    refine R_pu (pu_assign rfl) rfl ?_
    refine R_nil ?_
    refine X_then hK9 ?_
    refine C_ret ?_
    refine X_then_ret ?_
    exact X_retCTT (len := 5) (.inl rfl) rfl rfl f_rs_5 (by kernel_rfl) (by kernel_rfl) rfl rfl rfl ⟨rfl, kk5⟩
  · refine R_pu (pu_false (pu_move rfl) g3_4) rfl ?_
    refine R_gpu rfl rfl (pu_fieldAddr (off := 4) (o' := 4) (by kernel_rfl) rfl rfl) rfl ?_
    refine R_gpu rfl rfl (pu_loadK f8 (by kernel_rfl) rfl rfl) rfl ?_
    refine R_gpu rfl rfl (pu_len Tryd.underlying36 rfl) rfl ?_
    refine R_gpu rfl rfl (pu_fieldAddr (off := 0) (o' := 0) (by kernel_rfl) rfl rfl) rfl ?_
    refine R_gpu rfl rfl (pu_fieldAddr (off := 0) (o' := 0) (by kernel_rfl) rfl rfl) rfl ?_
    refine R_gpu rfl rfl (pu_loadK f8 (by kernel_rfl) rfl rfl) rfl ?_
    refine R_gpu rfl rfl (pu_eql (p := L.length = (q + 1)) rfl rfl (by omega)) rfl ?_
    refine R_pu (pu_pickf rfl rfl) rfl ?_
    refine R_nil ?_
    refine X_then hK7 ?_
    refine C_dect rfl (by rcases hC.2 with h | h; exact absurd h (by assumption); exact h) ?_
    refine C_seq (fun K11 hK11 => ?_)
    refine C_region ?_
    refine R_pu (pu_build (L := [.int .i64 0, .int .i64 0, .int .u32 0, .string ByteArray.empty, .slice none (0) (0)]) rfl (by kernel_rfl)) rfl ?_
    have f12 : Bk w4 rs ([.int .i64 0, .int .i64 0, .int .u32 0, .string ByteArray.empty, .slice none (0) (0)]) 68 := (f_rs_3.no k4)
    refine R_lo0 (lo_storeRow (C := [.int .i64 0, .int .i64 0, .int .u32 0, .string ByteArray.empty, .slice none (0) (0)]) f12 (by kernel_rfl) rfl rfl (by intro u hu; simp at hu; rcases hu with rfl | rfl | rfl | rfl | rfl <;> rfl) rfl) ?_
    rintro _ w6 kf6
    obtain ⟨k6, f_rs_6⟩ := kf6
    replace f_rs_6 : Bk w6 rs ([.int .i64 0, .int .i64 0, .int .u32 0, .string ByteArray.empty, .slice none (0) (0)]) 68 := f_rs_6
    have kk6 := kk4.trans k6 (fun i hi => .inr (hi ▸ (Nat.le_trans kk2.size N3.le)))
    refine R_pu (pu_assign rfl) rfl ?_
    refine R_pu (pu_assign rfl) rfl ?_
    refine R_nil ?_
    refine X_then hK11 ?_
    refine C_ret ?_
    refine X_then_ret ?_
    exact X_retCTT (len := 5) (.inl rfl) rfl rfl f_rs_6 (by kernel_rfl) (by kernel_rfl) rfl rfl rfl ⟨rfl, kk6⟩
set_option maxRecDepth 100000 in
set_option maxHeartbeats 2000000 in
theorem rsub_gen (q nn ge : Nat) (mk : ByteArray) (A : Option Addr) (L : List Shr) (c : Nat) (mk2 : ByteArray) (ix gn : Nat) (A1 : Option Addr) (X1 : List Nat) (c1 : Nat) (w : World) (HS : Ss w A L) (hC : (((2 ≤ q + 1 ∧ q + 1 ≤ nn ∧ nn ≤ 255) ∧ mk.size ≤ 16 ∧ L.length ≤ q + 1 ∧ L.length ≤ c) ∧ Came nn ge L) ∧ mk2 = mk ∧ (L.length < q + 1 ∧ ¬ gn = ge) ∧ ix < 256 ∧ X1.length < 9223372036854775808) : Ret Tryd.prog 31 #[.agg ([.int .i64 ((q + 1 : Nat) : Int), .int .i64 ((nn : Nat) : Int), .int .u32 ((ge : Nat) : Int), .string mk, .slice A (L.length) (c)] : List Value).toArray, .string mk2, .agg ([.int .u8 ((ix : Nat) : Int), .int .u32 ((gn : Nat) : Int), .slice A1 (X1.length) (c1)] : List Value).toArray] w (fun v w' => v = .tuple #[.agg ([.int .i64 0, .int .i64 0, .int .u32 0, .string ByteArray.empty, .slice none (0) (0)] : List Value).toArray, .bool false, .int .i64 14] ∧ Kp No w w') := by
  obtain ⟨hC0, hmm, ⟨hlt, hx⟩, hix, hxl⟩ := id hC
  have kk0 := Kp.refl No w
  refine enter (n := 61) [.agg ([.int .i64 ((q + 1 : Nat) : Int), .int .i64 ((nn : Nat) : Int), .int .u32 ((ge : Nat) : Int), .string mk, .slice A (L.length) (c)] : List Value).toArray, .string mk2, .agg ([.int .u8 ((ix : Nat) : Int), .int .u32 ((gn : Nat) : Int), .slice A1 (X1.length) (c1)] : List Value).toArray] Tryd.func31 rfl rfl rfl ?_
  show Cw _ _ _ _ [(0, .agg ([.int .i64 ((q + 1 : Nat) : Int), .int .i64 ((nn : Nat) : Int), .int .u32 ((ge : Nat) : Int), .string mk, .slice A (L.length) (c)] : List Value).toArray), (1, .string mk2), (2, .agg ([.int .u8 ((ix : Nat) : Int), .int .u32 ((gn : Nat) : Int), .slice A1 (X1.length) (c1)] : List Value).toArray)] _
  refine C_seq (fun K1 hK1 => ?_)
  refine C_region ?_
  refine R_lo (lo_box (L := [.int .i64 ((q + 1 : Nat) : Int), .int .i64 ((nn : Nat) : Int), .int .u32 ((ge : Nat) : Int), .string mk, .slice A (L.length) (c)]) rfl rfl) rfl ?_
  rintro _ w1 ⟨pb, rfl, N1⟩
  have k1 := N1.kp
  have kk1 := kk0.then_ k1
  have f_pb_1 : Bk w1 pb ([.int .i64 ((q + 1 : Nat) : Int), .int .i64 ((nn : Nat) : Int), .int .u32 ((ge : Nat) : Int), .string mk, .slice A (L.length) (c)]) 68 := N1.bk
  refine R_lo (lo_box (L := [.int .u8 ((ix : Nat) : Int), .int .u32 ((gn : Nat) : Int), .slice A1 (X1.length) (c1)]) rfl rfl) rfl ?_
  rintro _ w2 ⟨sb, rfl, N2⟩
  have k2 := N2.kp
  have kk2 := kk1.then_ k2
  have ne_sb_pb : sb ≠ pb := Nat.ne_of_gt (Nat.lt_of_lt_of_le f_pb_1.lt N2.le)
  have f_sb_2 : Bk w2 sb ([.int .u8 ((ix : Nat) : Int), .int .u32 ((gn : Nat) : Int), .slice A1 (X1.length) (c1)]) 56 := N2.bk
  have f2 : Bk w2 pb ([.int .i64 ((q + 1 : Nat) : Int), .int .i64 ((nn : Nat) : Int), .int .u32 ((ge : Nat) : Int), .string mk, .slice A (L.length) (c)]) 68 := (f_pb_1.no k2)
  refine R_lo (lo_alloc (L := [.int .i64 0, .int .i64 0, .int .u32 0, .string ByteArray.empty, .slice none (0) (0)]) (by kernel_rfl)) rfl ?_
  rintro _ w3 ⟨rs, rfl, N3⟩
  have k3 := N3.kp
  have kk3 := kk2.then_ k3
  have ne_rs_pb : rs ≠ pb := Nat.ne_of_gt (Nat.lt_of_lt_of_le f2.lt N3.le)
  have ne_rs_sb : rs ≠ sb := Nat.ne_of_gt (Nat.lt_of_lt_of_le f_sb_2.lt N3.le)
  have f_rs_3 : Bk w3 rs ([.int .i64 0, .int .i64 0, .int .u32 0, .string ByteArray.empty, .slice none (0) (0)]) 68 := N3.bk
  refine R_pu (pu_assign rfl) rfl ?_
  refine R_pu (pu_assign rfl) rfl ?_
  refine R_nil ?_
  refine X_then hK1 ?_
  refine C_seq (fun K3 hK3 => ?_)
  refine C_seq (fun K4 hK4 => ?_)
  refine C_region ?_
  have f5 : Bk w3 pb ([.int .i64 ((q + 1 : Nat) : Int), .int .i64 ((nn : Nat) : Int), .int .u32 ((ge : Nat) : Int), .string mk, .slice A (L.length) (c)]) 68 := (f2.no k3)
  refine R_pu (pu_loadRow (len := 5) f5 (by kernel_rfl) (by kernel_rfl) rfl rfl) rfl ?_
  refine R_lo (lo_call (by kernel_rfl) rfl (rmay_t q nn ge mk A L c _ (HS.keptNo kk3) hC0)) rfl ?_
  rintro _ w4 ⟨rfl, k4⟩
  have kk4 := kk3.then_ k4
  refine R_pu (pu_not rfl) rfl ?_
  refine R_nil ?_
  refine X_then hK4 ?_
  refine C_false rfl ?_
  refine C_skip ?_
  refine X_then hK3 ?_
  refine C_seq (fun K6 hK6 => ?_)
  refine C_seq (fun K7 hK7 => ?_)
  refine C_region ?_
  refine R_pu (pu_move rfl) rfl ?_
  refine R_pu (pu_fieldAddr (off := 3) (o' := 3) (by kernel_rfl) rfl rfl) rfl ?_
  have f8 : Bk w4 pb ([.int .i64 ((q + 1 : Nat) : Int), .int .i64 ((nn : Nat) : Int), .int .u32 ((ge : Nat) : Int), .string mk, .slice A (L.length) (c)]) 68 := (f5.no k4)
  refine R_pu (pu_loadK f8 (by kernel_rfl) rfl rfl) rfl ?_
  refine R_pu (pu_false (pu_neqs (p := mk2 = mk) rfl rfl Iff.rfl) (fun h => h hmm)) rfl ?_
  refine R_pu (pu_move rfl) rfl ?_
  refine R_gpu rfl rfl (pu_fieldAddr (off := 4) (o' := 4) (by kernel_rfl) rfl rfl) rfl ?_
  refine R_gpu rfl rfl (pu_loadK f8 (by kernel_rfl) rfl rfl) rfl ?_
  refine R_gpu rfl rfl (pu_len Tryd.underlying36 rfl) rfl ?_
  refine R_gpu rfl rfl (pu_fieldAddr (off := 0) (o' := 0) (by kernel_rfl) rfl rfl) rfl ?_
  refine R_gpu rfl rfl (pu_fieldAddr (off := 0) (o' := 0) (by kernel_rfl) rfl rfl) rfl ?_
  refine R_gpu rfl rfl (pu_loadK f8 (by kernel_rfl) rfl rfl) rfl ?_
  refine R_gpu rfl rfl (pu_false (pu_eql (p := L.length = (q + 1)) rfl rfl (by omega)) (by omega)) rfl ?_
  refine R_pu (pu_pickf rfl rfl) rfl ?_
  refine R_nil ?_
  refine X_then hK7 ?_
  refine C_false rfl ?_
  refine C_skip ?_
  refine X_then hK6 ?_
  refine C_seq (fun K9 hK9 => ?_)
  refine C_region ?_
  refine R_pu (pu_fieldAddr (off := 0) (o' := 0) (by kernel_rfl) rfl rfl) rfl ?_
  refine R_pu (pu_loadMid (len := 3) (C := [.int .i64 ((q + 1 : Nat) : Int), .int .i64 ((nn : Nat) : Int), .int .u32 ((ge : Nat) : Int)]) f8 (by kernel_rfl) (by kernel_rfl) rfl rfl rfl) rfl ?_
  refine R_pu (pu_fieldAddr (off := 4) (o' := 4) (by kernel_rfl) rfl rfl) rfl ?_
  refine R_pu (pu_loadK f8 (by kernel_rfl) rfl rfl) rfl ?_
  have f10 : Bk w4 sb ([.int .u8 ((ix : Nat) : Int), .int .u32 ((gn : Nat) : Int), .slice A1 (X1.length) (c1)]) 56 := ((f_sb_2.no k3).no k4)
  refine R_pu (pu_loadRow (len := 3) f10 (by kernel_rfl) (by kernel_rfl) rfl rfl) rfl ?_
  refine R_lo (lo_call (by kernel_rfl) rfl (rwrong_gen q nn ge A L c ix gn A1 X1 c1 _ (HS.keptNo kk4) ⟨⟨by omega, hix, hxl⟩, hx⟩)) rfl ?_
  rintro _ w5 ⟨rfl, k5⟩
  have kk5 := kk4.then_ k5
  refine R_pu (pu_assign rfl) rfl ?_
  refine R_nil ?_
  refine X_then hK9 ?_
  refine C_seq (fun K11 hK11 => ?_)
  refine C_seq (fun K12 hK12 => ?_)
  refine C_region ?_
  refine R_pu (pu_move rfl) rfl ?_
  refine R_pu (pu_true (pu_neq (p := (14 : Nat) = 0) rfl rfl (by omega)) (by decide)) rfl ?_
  refine R_nil ?_
  refine X_then hK12 ?_
  refine C_true rfl ?_
  refine C_seq (fun K13 hK13 => ?_)
  refine C_region ?_
  refine R_pu (pu_build (L := [.int .i64 0, .int .i64 0, .int .u32 0, .string ByteArray.empty, .slice none (0) (0)]) rfl (by kernel_rfl)) rfl ?_
  refine R_pu (pu_move rfl) rfl ?_
  have f14 : Bk w5 rs ([.int .i64 0, .int .i64 0, .int .u32 0, .string ByteArray.empty, .slice none (0) (0)]) 68 := ((f_rs_3.no k4).no k5)
  refine R_lo0 (lo_storeRow (C := [.int .i64 0, .int .i64 0, .int .u32 0, .string ByteArray.empty, .slice none (0) (0)]) f14 (by kernel_rfl) rfl rfl (by intro u hu; simp at hu; rcases hu with rfl | rfl | rfl | rfl | rfl <;> rfl) rfl) ?_
  rintro _ w6 kf6
  obtain ⟨k6, f_rs_6⟩ := kf6
  replace f_rs_6 : Bk w6 rs ([.int .i64 0, .int .i64 0, .int .u32 0, .string ByteArray.empty, .slice none (0) (0)]) 68 := f_rs_6
  have kk6 := kk5.trans k6 (fun i hi => .inr (hi ▸ (Nat.le_trans kk2.size N3.le)))
  refine R_pu (pu_assign rfl) rfl ?_
  refine R_pu (pu_assign rfl) rfl ?_
  refine R_nil ?_
  refine X_then hK13 ?_
  refine C_ret ?_
  refine X_then_ret ?_
  exact X_retCTT (len := 5) (.inl rfl) rfl rfl f_rs_6 (by kernel_rfl) (by kernel_rfl) rfl rfl rfl ⟨rfl, kk6⟩
set_option maxRecDepth 100000 in
set_option maxHeartbeats 2000000 in
theorem rsub_share (q nn ge : Nat) (mk : ByteArray) (A : Option Addr) (L : List Shr) (c : Nat) (mk2 : ByteArray) (ix gn : Nat) (A1 : Option Addr) (X1 : List Nat) (c1 : Nat) (w : World) (HS : Ss w A L) (hC : (((2 ≤ q + 1 ∧ q + 1 ≤ nn ∧ nn ≤ 255) ∧ mk.size ≤ 16 ∧ L.length ≤ q + 1 ∧ L.length ≤ c) ∧ Came nn ge L) ∧ mk2 = mk ∧ (L.length < q + 1 ∧ gn = ge ∧ ¬ Fit nn L ix X1.length) ∧ ix < 256 ∧ X1.length < 9223372036854775808) : Ret Tryd.prog 31 #[.agg ([.int .i64 ((q + 1 : Nat) : Int), .int .i64 ((nn : Nat) : Int), .int .u32 ((ge : Nat) : Int), .string mk, .slice A (L.length) (c)] : List Value).toArray, .string mk2, .agg ([.int .u8 ((ix : Nat) : Int), .int .u32 ((gn : Nat) : Int), .slice A1 (X1.length) (c1)] : List Value).toArray] w (fun v w' => v = .tuple #[.agg ([.int .i64 0, .int .i64 0, .int .u32 0, .string ByteArray.empty, .slice none (0) (0)] : List Value).toArray, .bool false, .int .i64 12] ∧ Kp No w w') := by
  obtain ⟨hC0, hmm, ⟨hlt, hx⟩, hix, hxl⟩ := id hC
  have kk0 := Kp.refl No w
  refine enter (n := 61) [.agg ([.int .i64 ((q + 1 : Nat) : Int), .int .i64 ((nn : Nat) : Int), .int .u32 ((ge : Nat) : Int), .string mk, .slice A (L.length) (c)] : List Value).toArray, .string mk2, .agg ([.int .u8 ((ix : Nat) : Int), .int .u32 ((gn : Nat) : Int), .slice A1 (X1.length) (c1)] : List Value).toArray] Tryd.func31 rfl rfl rfl ?_
  show Cw _ _ _ _ [(0, .agg ([.int .i64 ((q + 1 : Nat) : Int), .int .i64 ((nn : Nat) : Int), .int .u32 ((ge : Nat) : Int), .string mk, .slice A (L.length) (c)] : List Value).toArray), (1, .string mk2), (2, .agg ([.int .u8 ((ix : Nat) : Int), .int .u32 ((gn : Nat) : Int), .slice A1 (X1.length) (c1)] : List Value).toArray)] _
  refine C_seq (fun K1 hK1 => ?_)
  refine C_region ?_
  refine R_lo (lo_box (L := [.int .i64 ((q + 1 : Nat) : Int), .int .i64 ((nn : Nat) : Int), .int .u32 ((ge : Nat) : Int), .string mk, .slice A (L.length) (c)]) rfl rfl) rfl ?_
  rintro _ w1 ⟨pb, rfl, N1⟩
  have k1 := N1.kp
  have kk1 := kk0.then_ k1
  have f_pb_1 : Bk w1 pb ([.int .i64 ((q + 1 : Nat) : Int), .int .i64 ((nn : Nat) : Int), .int .u32 ((ge : Nat) : Int), .string mk, .slice A (L.length) (c)]) 68 := N1.bk
  refine R_lo (lo_box (L := [.int .u8 ((ix : Nat) : Int), .int .u32 ((gn : Nat) : Int), .slice A1 (X1.length) (c1)]) rfl rfl) rfl ?_
  rintro _ w2 ⟨sb, rfl, N2⟩
  have k2 := N2.kp
  have kk2 := kk1.then_ k2
  have ne_sb_pb : sb ≠ pb := Nat.ne_of_gt (Nat.lt_of_lt_of_le f_pb_1.lt N2.le)
  have f_sb_2 : Bk w2 sb ([.int .u8 ((ix : Nat) : Int), .int .u32 ((gn : Nat) : Int), .slice A1 (X1.length) (c1)]) 56 := N2.bk
  have f2 : Bk w2 pb ([.int .i64 ((q + 1 : Nat) : Int), .int .i64 ((nn : Nat) : Int), .int .u32 ((ge : Nat) : Int), .string mk, .slice A (L.length) (c)]) 68 := (f_pb_1.no k2)
  refine R_lo (lo_alloc (L := [.int .i64 0, .int .i64 0, .int .u32 0, .string ByteArray.empty, .slice none (0) (0)]) (by kernel_rfl)) rfl ?_
  rintro _ w3 ⟨rs, rfl, N3⟩
  have k3 := N3.kp
  have kk3 := kk2.then_ k3
  have ne_rs_pb : rs ≠ pb := Nat.ne_of_gt (Nat.lt_of_lt_of_le f2.lt N3.le)
  have ne_rs_sb : rs ≠ sb := Nat.ne_of_gt (Nat.lt_of_lt_of_le f_sb_2.lt N3.le)
  have f_rs_3 : Bk w3 rs ([.int .i64 0, .int .i64 0, .int .u32 0, .string ByteArray.empty, .slice none (0) (0)]) 68 := N3.bk
  refine R_pu (pu_assign rfl) rfl ?_
  refine R_pu (pu_assign rfl) rfl ?_
  refine R_nil ?_
  refine X_then hK1 ?_
  refine C_seq (fun K3 hK3 => ?_)
  refine C_seq (fun K4 hK4 => ?_)
  refine C_region ?_
  have f5 : Bk w3 pb ([.int .i64 ((q + 1 : Nat) : Int), .int .i64 ((nn : Nat) : Int), .int .u32 ((ge : Nat) : Int), .string mk, .slice A (L.length) (c)]) 68 := (f2.no k3)
  refine R_pu (pu_loadRow (len := 5) f5 (by kernel_rfl) (by kernel_rfl) rfl rfl) rfl ?_
  refine R_lo (lo_call (by kernel_rfl) rfl (rmay_t q nn ge mk A L c _ (HS.keptNo kk3) hC0)) rfl ?_
  rintro _ w4 ⟨rfl, k4⟩
  have kk4 := kk3.then_ k4
  refine R_pu (pu_not rfl) rfl ?_
  refine R_nil ?_
  refine X_then hK4 ?_
  refine C_false rfl ?_
  refine C_skip ?_
  refine X_then hK3 ?_
  refine C_seq (fun K6 hK6 => ?_)
  refine C_seq (fun K7 hK7 => ?_)
  refine C_region ?_
  refine R_pu (pu_move rfl) rfl ?_
  refine R_pu (pu_fieldAddr (off := 3) (o' := 3) (by kernel_rfl) rfl rfl) rfl ?_
  have f8 : Bk w4 pb ([.int .i64 ((q + 1 : Nat) : Int), .int .i64 ((nn : Nat) : Int), .int .u32 ((ge : Nat) : Int), .string mk, .slice A (L.length) (c)]) 68 := (f5.no k4)
  refine R_pu (pu_loadK f8 (by kernel_rfl) rfl rfl) rfl ?_
  refine R_pu (pu_false (pu_neqs (p := mk2 = mk) rfl rfl Iff.rfl) (fun h => h hmm)) rfl ?_
  refine R_pu (pu_move rfl) rfl ?_
  refine R_gpu rfl rfl (pu_fieldAddr (off := 4) (o' := 4) (by kernel_rfl) rfl rfl) rfl ?_
  refine R_gpu rfl rfl (pu_loadK f8 (by kernel_rfl) rfl rfl) rfl ?_
  refine R_gpu rfl rfl (pu_len Tryd.underlying36 rfl) rfl ?_
  refine R_gpu rfl rfl (pu_fieldAddr (off := 0) (o' := 0) (by kernel_rfl) rfl rfl) rfl ?_
  refine R_gpu rfl rfl (pu_fieldAddr (off := 0) (o' := 0) (by kernel_rfl) rfl rfl) rfl ?_
  refine R_gpu rfl rfl (pu_loadK f8 (by kernel_rfl) rfl rfl) rfl ?_
  refine R_gpu rfl rfl (pu_false (pu_eql (p := L.length = (q + 1)) rfl rfl (by omega)) (by omega)) rfl ?_
  refine R_pu (pu_pickf rfl rfl) rfl ?_
  refine R_nil ?_
  refine X_then hK7 ?_
  refine C_false rfl ?_
  refine C_skip ?_
  refine X_then hK6 ?_
  refine C_seq (fun K9 hK9 => ?_)
  refine C_region ?_
  refine R_pu (pu_fieldAddr (off := 0) (o' := 0) (by kernel_rfl) rfl rfl) rfl ?_
  refine R_pu (pu_loadMid (len := 3) (C := [.int .i64 ((q + 1 : Nat) : Int), .int .i64 ((nn : Nat) : Int), .int .u32 ((ge : Nat) : Int)]) f8 (by kernel_rfl) (by kernel_rfl) rfl rfl rfl) rfl ?_
  refine R_pu (pu_fieldAddr (off := 4) (o' := 4) (by kernel_rfl) rfl rfl) rfl ?_
  refine R_pu (pu_loadK f8 (by kernel_rfl) rfl rfl) rfl ?_
  have f10 : Bk w4 sb ([.int .u8 ((ix : Nat) : Int), .int .u32 ((gn : Nat) : Int), .slice A1 (X1.length) (c1)]) 56 := ((f_sb_2.no k3).no k4)
  refine R_pu (pu_loadRow (len := 3) f10 (by kernel_rfl) (by kernel_rfl) rfl rfl) rfl ?_
  refine R_lo (lo_call (by kernel_rfl) rfl (rwrong_share q nn ge A L c ix gn A1 X1 c1 _ (HS.keptNo kk4) ⟨⟨by omega, hix, hxl⟩, hx⟩)) rfl ?_
  rintro _ w5 ⟨rfl, k5⟩
  have kk5 := kk4.then_ k5
  refine R_pu (pu_assign rfl) rfl ?_
  refine R_nil ?_
  refine X_then hK9 ?_
  refine C_seq (fun K11 hK11 => ?_)
  refine C_seq (fun K12 hK12 => ?_)
  refine C_region ?_
  refine R_pu (pu_move rfl) rfl ?_
  refine R_pu (pu_true (pu_neq (p := (12 : Nat) = 0) rfl rfl (by omega)) (by decide)) rfl ?_
  refine R_nil ?_
  refine X_then hK12 ?_
  refine C_true rfl ?_
  refine C_seq (fun K13 hK13 => ?_)
  refine C_region ?_
  refine R_pu (pu_build (L := [.int .i64 0, .int .i64 0, .int .u32 0, .string ByteArray.empty, .slice none (0) (0)]) rfl (by kernel_rfl)) rfl ?_
  refine R_pu (pu_move rfl) rfl ?_
  have f14 : Bk w5 rs ([.int .i64 0, .int .i64 0, .int .u32 0, .string ByteArray.empty, .slice none (0) (0)]) 68 := ((f_rs_3.no k4).no k5)
  refine R_lo0 (lo_storeRow (C := [.int .i64 0, .int .i64 0, .int .u32 0, .string ByteArray.empty, .slice none (0) (0)]) f14 (by kernel_rfl) rfl rfl (by intro u hu; simp at hu; rcases hu with rfl | rfl | rfl | rfl | rfl <;> rfl) rfl) ?_
  rintro _ w6 kf6
  obtain ⟨k6, f_rs_6⟩ := kf6
  replace f_rs_6 : Bk w6 rs ([.int .i64 0, .int .i64 0, .int .u32 0, .string ByteArray.empty, .slice none (0) (0)]) 68 := f_rs_6
  have kk6 := kk5.trans k6 (fun i hi => .inr (hi ▸ (Nat.le_trans kk2.size N3.le)))
  refine R_pu (pu_assign rfl) rfl ?_
  refine R_pu (pu_assign rfl) rfl ?_
  refine R_nil ?_
  refine X_then hK13 ?_
  refine C_ret ?_
  refine X_then_ret ?_
  exact X_retCTT (len := 5) (.inl rfl) rfl rfl f_rs_6 (by kernel_rfl) (by kernel_rfl) rfl rfl rfl ⟨rfl, kk6⟩
set_option maxRecDepth 100000 in
set_option maxHeartbeats 2000000 in
theorem rsub_ok (q nn ge : Nat) (mk : ByteArray) (A : Option Addr) (L : List Shr) (c : Nat) (ix gn : Nat) (A1 : Option Addr) (X1 : List Nat) (c1 : Nat) (w : World) (HS : Ss w A L) (hC : (((2 ≤ q + 1 ∧ q + 1 ≤ nn ∧ nn ≤ 255) ∧ mk.size ≤ 16 ∧ L.length ≤ q + 1 ∧ L.length ≤ c) ∧ Came nn ge L) ∧ (L.length < q + 1 ∧ gn = ge ∧ Fit nn L ix X1.length) ∧ ix < 256) : Ret Tryd.prog 31 #[.agg ([.int .i64 ((q + 1 : Nat) : Int), .int .i64 ((nn : Nat) : Int), .int .u32 ((ge : Nat) : Int), .string mk, .slice A (L.length) (c)] : List Value).toArray, .string mk, .agg ([.int .u8 ((ix : Nat) : Int), .int .u32 ((gn : Nat) : Int), .slice A1 (X1.length) (c1)] : List Value).toArray] w (fun v w' => ∃ A c, v = .tuple #[.agg ([.int .i64 ((q + 1 : Nat) : Int), .int .i64 ((nn : Nat) : Int), .int .u32 ((ge : Nat) : Int), .string mk, .slice A (L ++ [(⟨ix, gn, A1, X1, c1⟩ : Shr)]).length c] : List Value).toArray, .bool (decide (L.length + 1 = q + 1)), .int .i64 0] ∧ Sp 56 w' w.heap.size (.slice A (L ++ [(⟨ix, gn, A1, X1, c1⟩ : Shr)]).length c) (L ++ [(⟨ix, gn, A1, X1, c1⟩ : Shr)]) ∧ Kp No w w') := by
  obtain ⟨hC0, ⟨hlt, hgg, hF⟩, hix⟩ := id hC; have hX1 := hF.2.2.2
  have kk0 := Kp.refl No w
  refine enter (n := 61) [.agg ([.int .i64 ((q + 1 : Nat) : Int), .int .i64 ((nn : Nat) : Int), .int .u32 ((ge : Nat) : Int), .string mk, .slice A (L.length) (c)] : List Value).toArray, .string mk, .agg ([.int .u8 ((ix : Nat) : Int), .int .u32 ((gn : Nat) : Int), .slice A1 (X1.length) (c1)] : List Value).toArray] Tryd.func31 rfl rfl rfl ?_
  show Cw _ _ _ _ [(0, .agg ([.int .i64 ((q + 1 : Nat) : Int), .int .i64 ((nn : Nat) : Int), .int .u32 ((ge : Nat) : Int), .string mk, .slice A (L.length) (c)] : List Value).toArray), (1, .string mk), (2, .agg ([.int .u8 ((ix : Nat) : Int), .int .u32 ((gn : Nat) : Int), .slice A1 (X1.length) (c1)] : List Value).toArray)] _
  refine C_seq (fun K1 hK1 => ?_)
  refine C_region ?_
  refine R_lo (lo_box (L := [.int .i64 ((q + 1 : Nat) : Int), .int .i64 ((nn : Nat) : Int), .int .u32 ((ge : Nat) : Int), .string mk, .slice A (L.length) (c)]) rfl rfl) rfl ?_
  rintro _ w1 ⟨pb, rfl, N1⟩
  have k1 := N1.kp
  have kk1 := kk0.then_ k1
  have f_pb_1 : Bk w1 pb ([.int .i64 ((q + 1 : Nat) : Int), .int .i64 ((nn : Nat) : Int), .int .u32 ((ge : Nat) : Int), .string mk, .slice A (L.length) (c)]) 68 := N1.bk
  refine R_lo (lo_box (L := [.int .u8 ((ix : Nat) : Int), .int .u32 ((gn : Nat) : Int), .slice A1 (X1.length) (c1)]) rfl rfl) rfl ?_
  rintro _ w2 ⟨sb, rfl, N2⟩
  have k2 := N2.kp
  have kk2 := kk1.then_ k2
  have ne_sb_pb : sb ≠ pb := Nat.ne_of_gt (Nat.lt_of_lt_of_le f_pb_1.lt N2.le)
  have f_sb_2 : Bk w2 sb ([.int .u8 ((ix : Nat) : Int), .int .u32 ((gn : Nat) : Int), .slice A1 (X1.length) (c1)]) 56 := N2.bk
  have f2 : Bk w2 pb ([.int .i64 ((q + 1 : Nat) : Int), .int .i64 ((nn : Nat) : Int), .int .u32 ((ge : Nat) : Int), .string mk, .slice A (L.length) (c)]) 68 := (f_pb_1.no k2)
  refine R_lo (lo_alloc (L := [.int .i64 0, .int .i64 0, .int .u32 0, .string ByteArray.empty, .slice none (0) (0)]) (by kernel_rfl)) rfl ?_
  rintro _ w3 ⟨rs, rfl, N3⟩
  have k3 := N3.kp
  have kk3 := kk2.then_ k3
  have ne_rs_pb : rs ≠ pb := Nat.ne_of_gt (Nat.lt_of_lt_of_le f2.lt N3.le)
  have ne_rs_sb : rs ≠ sb := Nat.ne_of_gt (Nat.lt_of_lt_of_le f_sb_2.lt N3.le)
  have f_rs_3 : Bk w3 rs ([.int .i64 0, .int .i64 0, .int .u32 0, .string ByteArray.empty, .slice none (0) (0)]) 68 := N3.bk
  refine R_pu (pu_assign rfl) rfl ?_
  refine R_pu (pu_assign rfl) rfl ?_
  refine R_nil ?_
  refine X_then hK1 ?_
  refine C_seq (fun K3 hK3 => ?_)
  refine C_seq (fun K4 hK4 => ?_)
  refine C_region ?_
  have f5 : Bk w3 pb ([.int .i64 ((q + 1 : Nat) : Int), .int .i64 ((nn : Nat) : Int), .int .u32 ((ge : Nat) : Int), .string mk, .slice A (L.length) (c)]) 68 := (f2.no k3)
  refine R_pu (pu_loadRow (len := 5) f5 (by kernel_rfl) (by kernel_rfl) rfl rfl) rfl ?_
  refine R_lo (lo_call (by kernel_rfl) rfl (rmay_t q nn ge mk A L c _ (HS.keptNo kk3) hC0)) rfl ?_
  rintro _ w4 ⟨rfl, k4⟩
  have kk4 := kk3.then_ k4
  refine R_pu (pu_not rfl) rfl ?_
  refine R_nil ?_
  refine X_then hK4 ?_
  refine C_false rfl ?_
  refine C_skip ?_
  refine X_then hK3 ?_
  refine C_seq (fun K6 hK6 => ?_)
  refine C_seq (fun K7 hK7 => ?_)
  refine C_region ?_
  refine R_pu (pu_move rfl) rfl ?_
  refine R_pu (pu_fieldAddr (off := 3) (o' := 3) (by kernel_rfl) rfl rfl) rfl ?_
  have f8 : Bk w4 pb ([.int .i64 ((q + 1 : Nat) : Int), .int .i64 ((nn : Nat) : Int), .int .u32 ((ge : Nat) : Int), .string mk, .slice A (L.length) (c)]) 68 := (f5.no k4)
  refine R_pu (pu_loadK f8 (by kernel_rfl) rfl rfl) rfl ?_
  refine R_pu (pu_false (pu_neqs (p := mk = mk) rfl rfl Iff.rfl) (fun h => h rfl)) rfl ?_
  refine R_pu (pu_move rfl) rfl ?_
  refine R_gpu rfl rfl (pu_fieldAddr (off := 4) (o' := 4) (by kernel_rfl) rfl rfl) rfl ?_
  refine R_gpu rfl rfl (pu_loadK f8 (by kernel_rfl) rfl rfl) rfl ?_
  refine R_gpu rfl rfl (pu_len Tryd.underlying36 rfl) rfl ?_
  refine R_gpu rfl rfl (pu_fieldAddr (off := 0) (o' := 0) (by kernel_rfl) rfl rfl) rfl ?_
  refine R_gpu rfl rfl (pu_fieldAddr (off := 0) (o' := 0) (by kernel_rfl) rfl rfl) rfl ?_
  refine R_gpu rfl rfl (pu_loadK f8 (by kernel_rfl) rfl rfl) rfl ?_
  refine R_gpu rfl rfl (pu_false (pu_eql (p := L.length = (q + 1)) rfl rfl (by omega)) (by omega)) rfl ?_
  refine R_pu (pu_pickf rfl rfl) rfl ?_
  refine R_nil ?_
  refine X_then hK7 ?_
  refine C_false rfl ?_
  refine C_skip ?_
  refine X_then hK6 ?_
  refine C_seq (fun K9 hK9 => ?_)
  refine C_region ?_
  refine R_pu (pu_fieldAddr (off := 0) (o' := 0) (by kernel_rfl) rfl rfl) rfl ?_
  refine R_pu (pu_loadMid (len := 3) (C := [.int .i64 ((q + 1 : Nat) : Int), .int .i64 ((nn : Nat) : Int), .int .u32 ((ge : Nat) : Int)]) f8 (by kernel_rfl) (by kernel_rfl) rfl rfl rfl) rfl ?_
  refine R_pu (pu_fieldAddr (off := 4) (o' := 4) (by kernel_rfl) rfl rfl) rfl ?_
  refine R_pu (pu_loadK f8 (by kernel_rfl) rfl rfl) rfl ?_
  have f10 : Bk w4 sb ([.int .u8 ((ix : Nat) : Int), .int .u32 ((gn : Nat) : Int), .slice A1 (X1.length) (c1)]) 56 := ((f_sb_2.no k3).no k4)
  refine R_pu (pu_loadRow (len := 3) f10 (by kernel_rfl) (by kernel_rfl) rfl rfl) rfl ?_
  refine R_lo (lo_call (by kernel_rfl) rfl (rwrong_ok q nn ge A L c ix gn A1 X1 c1 _ (HS.keptNo kk4) ⟨⟨by omega, hix, by omega⟩, hgg, hF⟩)) rfl ?_
  rintro _ w5 ⟨rfl, k5⟩
  have kk5 := kk4.then_ k5
  refine R_pu (pu_assign rfl) rfl ?_
  refine R_nil ?_
  refine X_then hK9 ?_
  refine C_seq (fun K11 hK11 => ?_)
  refine C_seq (fun K12 hK12 => ?_)
  refine C_region ?_
  refine R_pu (pu_move rfl) rfl ?_
  refine R_pu (pu_false (pu_neq (p := (0 : Nat) = 0) rfl rfl (by omega)) (by decide)) rfl ?_
  refine R_nil ?_
  refine X_then hK12 ?_
  refine C_false rfl ?_
  refine C_skip ?_
  refine X_then hK11 ?_
  refine C_seq (fun K13 hK13 => ?_)
  refine C_region ?_
  refine R_pu (pu_fieldAddr (off := 0) (o' := 0) (by kernel_rfl) rfl rfl) rfl ?_
  have f14 : Bk w5 pb ([.int .i64 ((q + 1 : Nat) : Int), .int .i64 ((nn : Nat) : Int), .int .u32 ((ge : Nat) : Int), .string mk, .slice A (L.length) (c)]) 68 := (f8.no k5)
  refine R_pu (pu_loadMid (len := 3) (C := [.int .i64 ((q + 1 : Nat) : Int), .int .i64 ((nn : Nat) : Int), .int .u32 ((ge : Nat) : Int)]) f14 (by kernel_rfl) (by kernel_rfl) rfl rfl rfl) rfl ?_
  refine R_pu (pu_fieldAddr (off := 3) (o' := 3) (by kernel_rfl) rfl rfl) rfl ?_
  refine R_pu (pu_loadK f14 (by kernel_rfl) rfl rfl) rfl ?_
  refine R_pu (pu_build (L := [.int .i64 ((q + 1 : Nat) : Int), .int .i64 ((nn : Nat) : Int), .int .u32 ((ge : Nat) : Int), .string mk, .slice none (0) (0)]) rfl (by kernel_rfl)) rfl ?_
  have f15 : Bk w5 sb ([.int .u8 ((ix : Nat) : Int), .int .u32 ((gn : Nat) : Int), .slice A1 (X1.length) (c1)]) 56 := (f10.no k5)
  have f16 : Bk w5 rs ([.int .i64 0, .int .i64 0, .int .u32 0, .string ByteArray.empty, .slice none (0) (0)]) 68 := ((f_rs_3.no k4).no k5)
  refine R_lo (lo_alloc (L := [.int .i64 0, .int .i64 0, .int .u32 0, .string ByteArray.empty, .slice none (0) (0)]) (by kernel_rfl)) rfl ?_
  rintro _ w6 ⟨out, rfl, N6⟩
  have k6 := N6.kp
  have kk6 := kk5.then_ k6
  have ne_out_pb : out ≠ pb := Nat.ne_of_gt (Nat.lt_of_lt_of_le f14.lt N6.le)
  have ne_out_sb : out ≠ sb := Nat.ne_of_gt (Nat.lt_of_lt_of_le f15.lt N6.le)
  have ne_out_rs : out ≠ rs := Nat.ne_of_gt (Nat.lt_of_lt_of_le f16.lt N6.le)
  have f_out_6 : Bk w6 out ([.int .i64 0, .int .i64 0, .int .u32 0, .string ByteArray.empty, .slice none (0) (0)]) 68 := N6.bk
  refine R_lo0 (lo_storeRow (C := [.int .i64 ((q + 1 : Nat) : Int), .int .i64 ((nn : Nat) : Int), .int .u32 ((ge : Nat) : Int), .string mk, .slice none (0) (0)]) f_out_6 (by kernel_rfl) rfl rfl (by intro u hu; simp at hu; rcases hu with rfl | rfl | rfl | rfl | rfl <;> rfl) rfl) ?_
  rintro _ w7 kf7
  obtain ⟨k7, f_out_7⟩ := kf7
  replace f_out_7 : Bk w7 out ([.int .i64 ((q + 1 : Nat) : Int), .int .i64 ((nn : Nat) : Int), .int .u32 ((ge : Nat) : Int), .string mk, .slice none (0) (0)]) 68 := f_out_7
  have kk7 := kk6.trans k7 (fun i hi => .inr (hi ▸ (Nat.le_trans kk5.size N6.le)))
  refine R_nil ?_
  refine X_then hK13 ?_
  refine C_seq (fun K17 hK17 => ?_)
  have f18 : Bk w7 pb ([.int .i64 ((q + 1 : Nat) : Int), .int .i64 ((nn : Nat) : Int), .int .u32 ((ge : Nat) : Int), .string mk, .slice A (L.length) (c)]) 68 := ((f14.no k6).on k7 (Ne.symm ne_out_pb))
  have f19 : Bk w7 sb ([.int .u8 ((ix : Nat) : Int), .int .u32 ((gn : Nat) : Int), .slice A1 (X1.length) (c1)]) 56 := ((f15.no k6).on k7 (Ne.symm ne_out_sb))
  have f20 : Bk w7 rs ([.int .i64 0, .int .i64 0, .int .u32 0, .string ByteArray.empty, .slice none (0) (0)]) 68 := ((f16.no k6).on k7 (Ne.symm ne_out_rs))
  refine Z_begin (fun W => Kp No w W ∧ Bk W pb ([.int .i64 ((q + 1 : Nat) : Int), .int .i64 ((nn : Nat) : Int), .int .u32 ((ge : Nat) : Int), .string mk, .slice A (L.length) (c)]) 68 ∧ Bk W sb ([.int .u8 ((ix : Nat) : Int), .int .u32 ((gn : Nat) : Int), .slice A1 (X1.length) (c1)]) 56 ∧ Bk W rs ([.int .i64 0, .int .i64 0, .int .u32 0, .string ByteArray.empty, .slice none (0) (0)]) 68 ∧ Bk W out ([.int .i64 ((q + 1 : Nat) : Int), .int .i64 ((nn : Nat) : Int), .int .u32 ((ge : Nat) : Int), .string mk, .slice none (0) (0)]) 68) 9 10 rfl (by kernel_rfl) ⟨kk7.drew, f18.draw, f19.draw, f20.draw, f_out_7.draw⟩ ?_
  intro w8 k8 _
  have kk8 := kk7.then_ k8
  refine Z_take 0 rfl (by kernel_rfl) (by kernel_rfl) (by kernel_rfl) (by kernel_rfl) (by kernel_rfl) (fun _ _ _ h => h) rfl (fun W hS => pu_fieldAddr (off := 4) (o' := 4) (by kernel_rfl) rfl rfl) ?_
  refine Z_take 1 rfl (by kernel_rfl) (by kernel_rfl) (by kernel_rfl) (by kernel_rfl) (by kernel_rfl) (fun _ _ _ h => h) rfl (fun W hS => pu_loadK hS.2.2.2.2 (by kernel_rfl) rfl rfl) ?_
  refine Z_take 2 rfl (by kernel_rfl) (by kernel_rfl) (by kernel_rfl) (by kernel_rfl) (by kernel_rfl) (fun _ _ _ h => h) rfl (fun W hS => pu_fieldAddr (off := 4) (o' := 4) (by kernel_rfl) rfl rfl) ?_
  refine Z_take 3 rfl (by kernel_rfl) (by kernel_rfl) (by kernel_rfl) (by kernel_rfl) (by kernel_rfl) (fun _ _ _ h => h) rfl (fun W hS => pu_loadK hS.2.1 (by kernel_rfl) rfl rfl) ?_
  refine Z_take 5 rfl (by kernel_rfl) (by kernel_rfl) (by kernel_rfl) (by kernel_rfl) (by kernel_rfl) (fun _ _ _ h => h) rfl (fun W hS => pu_loadRow (len := 3) hS.2.2.1 (by kernel_rfl) (by kernel_rfl) rfl rfl) ?_
  refine Z_two 4 6 (by kernel_rfl) ?_ ?_
  · have f21 : Bk w8 pb ([.int .i64 ((q + 1 : Nat) : Int), .int .i64 ((nn : Nat) : Int), .int .u32 ((ge : Nat) : Int), .string mk, .slice A (L.length) (c)]) 68 := (f18.no k8)
    have f22 : Bk w8 sb ([.int .u8 ((ix : Nat) : Int), .int .u32 ((gn : Nat) : Int), .slice A1 (X1.length) (c1)]) 56 := (f19.no k8)
    have f23 : Bk w8 rs ([.int .i64 0, .int .i64 0, .int .u32 0, .string ByteArray.empty, .slice none (0) (0)]) 68 := (f20.no k8)
    have f24 : Bk w8 out ([.int .i64 ((q + 1 : Nat) : Int), .int .i64 ((nn : Nat) : Int), .int .u32 ((ge : Nat) : Int), .string mk, .slice none (0) (0)]) 68 := (f_out_7.no k8)
    have sp25 := Sp.nil 56 w8 w8.heap.size
    have z26 := Nat.le_refl w8.heap.size
    refine Nz_lo rfl (lo_appqS (L := []) (M := L) Tryd.underlying36 (by kernel_rfl) sp25 rfl rfl rfl rfl (HS.keptNo kk8) (by simp; omega) z26) rfl ?_
    rintro _ w9 ⟨A_9, c_9, rfl, p9⟩
    have k9 := p9.kp
    have kk9 := kk8.trans k9 (fun i hi => .inr (Nat.le_trans (kk8).size hi))
    have f27 : Bk w9 pb ([.int .i64 ((q + 1 : Nat) : Int), .int .i64 ((nn : Nat) : Int), .int .u32 ((ge : Nat) : Int), .string mk, .slice A (L.length) (c)]) 68 := (f21.kept k9 (by have := f21.lt; omega))
    have f28 : Bk w9 sb ([.int .u8 ((ix : Nat) : Int), .int .u32 ((gn : Nat) : Int), .slice A1 (X1.length) (c1)]) 56 := (f22.kept k9 (by have := f22.lt; omega))
    have f29 : Bk w9 rs ([.int .i64 0, .int .i64 0, .int .u32 0, .string ByteArray.empty, .slice none (0) (0)]) 68 := (f23.kept k9 (by have := f23.lt; omega))
    have f30 : Bk w9 out ([.int .i64 ((q + 1 : Nat) : Int), .int .i64 ((nn : Nat) : Int), .int .u32 ((ge : Nat) : Int), .string mk, .slice none (0) (0)]) 68 := (f24.kept k9 (by have := f24.lt; omega))
    refine ⟨⟨kk9, f27, f28, f29, f30⟩, ?_⟩
    refine Z_one 6 (by kernel_rfl) (Nz_lo rfl (lo_buildSlice (L := [.int .u8 ((ix : Nat) : Int), .int .u32 ((gn : Nat) : Int), .slice A1 (X1.length) (c1)]) Tryd.underlying36 rfl (by kernel_rfl)) rfl ?_)
    rintro _ w10 ⟨lit, rfl, N10⟩
    have k10 := N10.kp
    have kk10 := kk9.then_ k10
    have ne_lit_pb : lit ≠ pb := Nat.ne_of_gt (Nat.lt_of_lt_of_le f27.lt N10.le)
    have ne_lit_sb : lit ≠ sb := Nat.ne_of_gt (Nat.lt_of_lt_of_le f28.lt N10.le)
    have ne_lit_rs : lit ≠ rs := Nat.ne_of_gt (Nat.lt_of_lt_of_le f29.lt N10.le)
    have ne_lit_out : lit ≠ out := Nat.ne_of_gt (Nat.lt_of_lt_of_le f30.lt N10.le)
    have f_lit_10 : Bk w10 lit ([.int .u8 ((ix : Nat) : Int), .int .u32 ((gn : Nat) : Int), .slice A1 (X1.length) (c1)]) 56 := N10.bk
    have f31 : Bk w10 pb ([.int .i64 ((q + 1 : Nat) : Int), .int .i64 ((nn : Nat) : Int), .int .u32 ((ge : Nat) : Int), .string mk, .slice A (L.length) (c)]) 68 := (f27.no k10)
    have f32 : Bk w10 sb ([.int .u8 ((ix : Nat) : Int), .int .u32 ((gn : Nat) : Int), .slice A1 (X1.length) (c1)]) 56 := (f28.no k10)
    have f33 : Bk w10 rs ([.int .i64 0, .int .i64 0, .int .u32 0, .string ByteArray.empty, .slice none (0) (0)]) 68 := (f29.no k10)
    have f34 : Bk w10 out ([.int .i64 ((q + 1 : Nat) : Int), .int .i64 ((nn : Nat) : Int), .int .u32 ((ge : Nat) : Int), .string mk, .slice none (0) (0)]) 68 := (f30.no k10)
    refine ⟨⟨kk10, f31, f32, f33, f34⟩, ?_⟩
    have ob35 := (p9.ob.keptNo k10)
    refine Z_one 7 (by kernel_rfl) (Nz_lo rfl (lo_appq (L := ([] : List Shr) ++ L) (M := [(⟨ix, gn, A1, X1, c1⟩ : Shr)]) Tryd.underlying36 (by kernel_rfl) ob35 ob35.le.1 rfl rfl rfl (by exact f_lit_10) (by simp; omega) (Nat.le_trans (Nat.le_trans z26 k9.size) k10.size)) rfl ?_)
    rintro _ w11 ⟨A_11, c_11, rfl, p11⟩
    have k11 := p11.kp
    have kk11 := kk10.trans k11 (fun i hi => .inr (Nat.le_trans (kk8).size hi))
    have f36 : Bk w11 pb ([.int .i64 ((q + 1 : Nat) : Int), .int .i64 ((nn : Nat) : Int), .int .u32 ((ge : Nat) : Int), .string mk, .slice A (L.length) (c)]) 68 := (f31.kept k11 (by have := f21.lt; omega))
    have f37 : Bk w11 sb ([.int .u8 ((ix : Nat) : Int), .int .u32 ((gn : Nat) : Int), .slice A1 (X1.length) (c1)]) 56 := (f32.kept k11 (by have := f22.lt; omega))
    have f38 : Bk w11 rs ([.int .i64 0, .int .i64 0, .int .u32 0, .string ByteArray.empty, .slice none (0) (0)]) 68 := (f33.kept k11 (by have := f23.lt; omega))
    have f39 : Bk w11 out ([.int .i64 ((q + 1 : Nat) : Int), .int .i64 ((nn : Nat) : Int), .int .u32 ((ge : Nat) : Int), .string mk, .slice none (0) (0)]) 68 := (f34.kept k11 (by have := f24.lt; omega))
    refine ⟨⟨kk11, f36, f37, f38, f39⟩, ?_⟩
    refine Z_take 8 rfl (by kernel_rfl) (by kernel_rfl) (by kernel_rfl) (by kernel_rfl) (by kernel_rfl) (fun _ _ _ h => h) rfl (fun W hS => pu_fieldAddr (off := 4) (o' := 4) (by kernel_rfl) rfl rfl) ?_
    refine Z_last 9 (by kernel_rfl) rfl (by kernel_rfl) (by kernel_rfl) (lo_store f39 (by kernel_rfl) rfl rfl rfl (show 4 < 5 by decide)) ?_
    rintro _ w12 kf12
    obtain ⟨k12, f_out_12⟩ := kf12
    replace f_out_12 : Bk w12 out ([.int .i64 ((q + 1 : Nat) : Int), .int .i64 ((nn : Nat) : Int), .int .u32 ((ge : Nat) : Int), .string mk, .slice A_11 ((([] : List Shr) ++ L ++ [(⟨ix, gn, A1, X1, c1⟩ : Shr)]).length) (c_11)]) 68 := f_out_12
    have kk12 := kk11.trans k12 (fun i hi => .inr (hi ▸ (Nat.le_trans kk5.size N6.le)))
    refine X_then hK17 ?_
    refine C_seq (fun K40 hK40 => ?_)
    have f41 : Bk w12 pb ([.int .i64 ((q + 1 : Nat) : Int), .int .i64 ((nn : Nat) : Int), .int .u32 ((ge : Nat) : Int), .string mk, .slice A (L.length) (c)]) 68 := (f36.on k12 (Ne.symm ne_out_pb))
    have f42 : Bk w12 sb ([.int .u8 ((ix : Nat) : Int), .int .u32 ((gn : Nat) : Int), .slice A1 (X1.length) (c1)]) 56 := (f37.on k12 (Ne.symm ne_out_sb))
    refine D_begin (fun W => Kp No w W ∧ Bk W pb ([.int .i64 ((q + 1 : Nat) : Int), .int .i64 ((nn : Nat) : Int), .int .u32 ((ge : Nat) : Int), .string mk, .slice A (L.length) (c)]) 68 ∧ Bk W sb ([.int .u8 ((ix : Nat) : Int), .int .u32 ((gn : Nat) : Int), .slice A1 (X1.length) (c1)]) 56 ∧ Bk W out ([.int .i64 ((q + 1 : Nat) : Int), .int .i64 ((nn : Nat) : Int), .int .u32 ((ge : Nat) : Int), .string mk, .slice A_11 ((([] : List Shr) ++ L ++ [(⟨ix, gn, A1, X1, c1⟩ : Shr)]).length) (c_11)]) 68) 11 rfl (by kernel_rfl) ⟨kk12.drew, f41.draw, f42.draw, f_out_12.draw⟩ ?_
    intro w13 k13 _
    have kk13 := kk12.then_ k13
    refine D_take 0 rfl (by kernel_rfl) (by kernel_rfl) (by kernel_rfl) (fun _ _ _ h => h) rfl (fun W hS => pu_loadRow (len := 5) hS.2.2.2 (by kernel_rfl) (by kernel_rfl) rfl rfl) ?_
    refine D_take 1 rfl (by kernel_rfl) (by kernel_rfl) (by kernel_rfl) (fun _ _ _ h => h) rfl (fun W hS => pu_fieldAddr (off := 4) (o' := 4) (by kernel_rfl) rfl rfl) ?_
    refine D_take 2 rfl (by kernel_rfl) (by kernel_rfl) (by kernel_rfl) (fun _ _ _ h => h) rfl (fun W hS => pu_loadK hS.2.2.2 (by kernel_rfl) rfl rfl) ?_
    refine D_take 3 rfl (by kernel_rfl) (by kernel_rfl) (by kernel_rfl) (fun _ _ _ h => h) rfl (fun W hS => pu_len Tryd.underlying36 rfl) ?_
    refine D_take 4 rfl (by kernel_rfl) (by kernel_rfl) (by kernel_rfl) (fun _ _ _ h => h) rfl (fun W hS => pu_fieldAddr (off := 0) (o' := 0) (by kernel_rfl) rfl rfl) ?_
    refine D_take 5 rfl (by kernel_rfl) (by kernel_rfl) (by kernel_rfl) (fun _ _ _ h => h) rfl (fun W hS => pu_fieldAddr (off := 0) (o' := 0) (by kernel_rfl) rfl rfl) ?_
    refine D_take 6 rfl (by kernel_rfl) (by kernel_rfl) (by kernel_rfl) (fun _ _ _ h => h) rfl (fun W hS => pu_loadK hS.2.1 (by kernel_rfl) rfl rfl) ?_
    refine D_take 7 rfl (by kernel_rfl) (by kernel_rfl) (by kernel_rfl) (fun _ _ _ h => h) rfl (fun W hS => pu_eql (p := ((([] : List Shr) ++ L ++ [(⟨ix, gn, A1, X1, c1⟩ : Shr)]).length) = (q + 1)) rfl rfl (by omega)) ?_
    have f43 : Bk w13 rs ([.int .i64 0, .int .i64 0, .int .u32 0, .string ByteArray.empty, .slice none (0) (0)]) 68 := ((f38.on k12 (Ne.symm ne_out_rs)).no k13)
    refine D_one 8 (by kernel_rfl) (Nx_lo0 rfl (lo_storeRow (C := [.int .i64 ((q + 1 : Nat) : Int), .int .i64 ((nn : Nat) : Int), .int .u32 ((ge : Nat) : Int), .string mk, .slice A_11 ((([] : List Shr) ++ L ++ [(⟨ix, gn, A1, X1, c1⟩ : Shr)]).length) (c_11)]) f43 (by kernel_rfl) rfl rfl (by intro u hu; simp at hu; rcases hu with rfl | rfl | rfl | rfl | rfl <;> rfl) rfl) ?_)
    rintro _ w14 kf14
    obtain ⟨k14, f_rs_14⟩ := kf14
    replace f_rs_14 : Bk w14 rs ([.int .i64 ((q + 1 : Nat) : Int), .int .i64 ((nn : Nat) : Int), .int .u32 ((ge : Nat) : Int), .string mk, .slice A_11 ((([] : List Shr) ++ L ++ [(⟨ix, gn, A1, X1, c1⟩ : Shr)]).length) (c_11)]) 68 := f_rs_14
    have kk14 := kk13.trans k14 (fun i hi => .inr (hi ▸ (Nat.le_trans kk2.size N3.le)))
    have f44 : Bk w14 pb ([.int .i64 ((q + 1 : Nat) : Int), .int .i64 ((nn : Nat) : Int), .int .u32 ((ge : Nat) : Int), .string mk, .slice A (L.length) (c)]) 68 := ((f41.no k13).on k14 (Ne.symm ne_rs_pb))
    have f45 : Bk w14 sb ([.int .u8 ((ix : Nat) : Int), .int .u32 ((gn : Nat) : Int), .slice A1 (X1.length) (c1)]) 56 := ((f42.no k13).on k14 (Ne.symm ne_rs_sb))
    have f46 : Bk w14 out ([.int .i64 ((q + 1 : Nat) : Int), .int .i64 ((nn : Nat) : Int), .int .u32 ((ge : Nat) : Int), .string mk, .slice A_11 ((([] : List Shr) ++ L ++ [(⟨ix, gn, A1, X1, c1⟩ : Shr)]).length) (c_11)]) 68 := ((f_out_12.no k13).on k14 ne_out_rs)
    refine ⟨⟨kk14, f44, f45, f46⟩, ?_⟩
    refine D_take 9 rfl (by kernel_rfl) (by kernel_rfl) (by kernel_rfl) (fun _ _ _ h => h) rfl (fun W hS => pu_assign rfl) ?_
    refine D_take 10 rfl (by kernel_rfl) (by kernel_rfl) (by kernel_rfl) (fun _ _ _ h => h) rfl (fun W hS => pu_assign rfl) ?_
    refine D_done (by kernel_rfl) ?_
    refine X_then hK40 ?_
    refine C_ret ?_
    have ob47 := (((p11.ob.on k12 (by have := f24.lt; omega)).keptNo k13).on k14 (by have := f23.lt; omega))
    exact X_retCTT (len := 5) (.inl rfl) rfl rfl f_rs_14 (by kernel_rfl) (by kernel_rfl) rfl rfl rfl ⟨_, _, by rw [show decide ((([] : List Shr) ++ L ++ [(⟨ix, gn, A1, X1, c1⟩ : Shr)]).length = q + 1) = decide (L.length + 1 = q + 1) from decide_eq_decide.2 (by simp)]; rfl, ob47.lowb (kk8).size, kk14⟩
  · have f48 : Bk w8 pb ([.int .i64 ((q + 1 : Nat) : Int), .int .i64 ((nn : Nat) : Int), .int .u32 ((ge : Nat) : Int), .string mk, .slice A (L.length) (c)]) 68 := (f18.no k8)
    have f49 : Bk w8 sb ([.int .u8 ((ix : Nat) : Int), .int .u32 ((gn : Nat) : Int), .slice A1 (X1.length) (c1)]) 56 := (f19.no k8)
    have f50 : Bk w8 rs ([.int .i64 0, .int .i64 0, .int .u32 0, .string ByteArray.empty, .slice none (0) (0)]) 68 := (f20.no k8)
    have f51 : Bk w8 out ([.int .i64 ((q + 1 : Nat) : Int), .int .i64 ((nn : Nat) : Int), .int .u32 ((ge : Nat) : Int), .string mk, .slice none (0) (0)]) 68 := (f_out_7.no k8)
    refine Nz_lo rfl (lo_buildSlice (L := [.int .u8 ((ix : Nat) : Int), .int .u32 ((gn : Nat) : Int), .slice A1 (X1.length) (c1)]) Tryd.underlying36 rfl (by kernel_rfl)) rfl ?_
    rintro _ w15 ⟨lit, rfl, N15⟩
    have k15 := N15.kp
    have kk15 := kk8.then_ k15
    have ne_lit_pb : lit ≠ pb := Nat.ne_of_gt (Nat.lt_of_lt_of_le f48.lt N15.le)
    have ne_lit_sb : lit ≠ sb := Nat.ne_of_gt (Nat.lt_of_lt_of_le f49.lt N15.le)
    have ne_lit_rs : lit ≠ rs := Nat.ne_of_gt (Nat.lt_of_lt_of_le f50.lt N15.le)
    have ne_lit_out : lit ≠ out := Nat.ne_of_gt (Nat.lt_of_lt_of_le f51.lt N15.le)
    have f_lit_15 : Bk w15 lit ([.int .u8 ((ix : Nat) : Int), .int .u32 ((gn : Nat) : Int), .slice A1 (X1.length) (c1)]) 56 := N15.bk
    have f52 : Bk w15 pb ([.int .i64 ((q + 1 : Nat) : Int), .int .i64 ((nn : Nat) : Int), .int .u32 ((ge : Nat) : Int), .string mk, .slice A (L.length) (c)]) 68 := (f48.no k15)
    have f53 : Bk w15 sb ([.int .u8 ((ix : Nat) : Int), .int .u32 ((gn : Nat) : Int), .slice A1 (X1.length) (c1)]) 56 := (f49.no k15)
    have f54 : Bk w15 rs ([.int .i64 0, .int .i64 0, .int .u32 0, .string ByteArray.empty, .slice none (0) (0)]) 68 := (f50.no k15)
    have f55 : Bk w15 out ([.int .i64 ((q + 1 : Nat) : Int), .int .i64 ((nn : Nat) : Int), .int .u32 ((ge : Nat) : Int), .string mk, .slice none (0) (0)]) 68 := (f51.no k15)
    refine ⟨⟨kk15, f52, f53, f54, f55⟩, ?_⟩
    have sp56 := Sp.nil 56 w15 w15.heap.size
    have z57 := Nat.le_refl w15.heap.size
    refine Z_one 4 (by kernel_rfl) (Nz_lo rfl (lo_appqS (L := []) (M := L) Tryd.underlying36 (by kernel_rfl) sp56 rfl rfl rfl rfl (HS.keptNo kk15) (by simp; omega) z57) rfl ?_)
    rintro _ w16 ⟨A_16, c_16, rfl, p16⟩
    have k16 := p16.kp
    have kk16 := kk15.trans k16 (fun i hi => .inr (Nat.le_trans (kk15).size hi))
    have f58 : Bk w16 pb ([.int .i64 ((q + 1 : Nat) : Int), .int .i64 ((nn : Nat) : Int), .int .u32 ((ge : Nat) : Int), .string mk, .slice A (L.length) (c)]) 68 := (f52.kept k16 (by have := f52.lt; omega))
    have f59 : Bk w16 sb ([.int .u8 ((ix : Nat) : Int), .int .u32 ((gn : Nat) : Int), .slice A1 (X1.length) (c1)]) 56 := (f53.kept k16 (by have := f53.lt; omega))
    have f60 : Bk w16 rs ([.int .i64 0, .int .i64 0, .int .u32 0, .string ByteArray.empty, .slice none (0) (0)]) 68 := (f54.kept k16 (by have := f54.lt; omega))
    have f61 : Bk w16 out ([.int .i64 ((q + 1 : Nat) : Int), .int .i64 ((nn : Nat) : Int), .int .u32 ((ge : Nat) : Int), .string mk, .slice none (0) (0)]) 68 := (f55.kept k16 (by have := f55.lt; omega))
    refine ⟨⟨kk16, f58, f59, f60, f61⟩, ?_⟩
    have f62 : Bk w16 lit ([.int .u8 ((ix : Nat) : Int), .int .u32 ((gn : Nat) : Int), .slice A1 (X1.length) (c1)]) 56 := (f_lit_15.kept k16 (by have := f_lit_15.lt; omega))
    refine Z_one 7 (by kernel_rfl) (Nz_lo rfl (lo_appq (L := ([] : List Shr) ++ L) (M := [(⟨ix, gn, A1, X1, c1⟩ : Shr)]) Tryd.underlying36 (by kernel_rfl) p16.ob p16.ob.le.1 rfl rfl rfl (by exact f62) (by simp; omega) (Nat.le_trans z57 k16.size)) rfl ?_)
    rintro _ w17 ⟨A_17, c_17, rfl, p17⟩
    have k17 := p17.kp
    have kk17 := kk16.trans k17 (fun i hi => .inr (Nat.le_trans (kk15).size hi))
    have f63 : Bk w17 pb ([.int .i64 ((q + 1 : Nat) : Int), .int .i64 ((nn : Nat) : Int), .int .u32 ((ge : Nat) : Int), .string mk, .slice A (L.length) (c)]) 68 := (f58.kept k17 (by have := f52.lt; omega))
    have f64 : Bk w17 sb ([.int .u8 ((ix : Nat) : Int), .int .u32 ((gn : Nat) : Int), .slice A1 (X1.length) (c1)]) 56 := (f59.kept k17 (by have := f53.lt; omega))
    have f65 : Bk w17 rs ([.int .i64 0, .int .i64 0, .int .u32 0, .string ByteArray.empty, .slice none (0) (0)]) 68 := (f60.kept k17 (by have := f54.lt; omega))
    have f66 : Bk w17 out ([.int .i64 ((q + 1 : Nat) : Int), .int .i64 ((nn : Nat) : Int), .int .u32 ((ge : Nat) : Int), .string mk, .slice none (0) (0)]) 68 := (f61.kept k17 (by have := f55.lt; omega))
    refine ⟨⟨kk17, f63, f64, f65, f66⟩, ?_⟩
    refine Z_take 8 rfl (by kernel_rfl) (by kernel_rfl) (by kernel_rfl) (by kernel_rfl) (by kernel_rfl) (fun _ _ _ h => h) rfl (fun W hS => pu_fieldAddr (off := 4) (o' := 4) (by kernel_rfl) rfl rfl) ?_
    refine Z_last 9 (by kernel_rfl) rfl (by kernel_rfl) (by kernel_rfl) (lo_store f66 (by kernel_rfl) rfl rfl rfl (show 4 < 5 by decide)) ?_
    rintro _ w18 kf18
    obtain ⟨k18, f_out_18⟩ := kf18
    replace f_out_18 : Bk w18 out ([.int .i64 ((q + 1 : Nat) : Int), .int .i64 ((nn : Nat) : Int), .int .u32 ((ge : Nat) : Int), .string mk, .slice A_17 ((([] : List Shr) ++ L ++ [(⟨ix, gn, A1, X1, c1⟩ : Shr)]).length) (c_17)]) 68 := f_out_18
    have kk18 := kk17.trans k18 (fun i hi => .inr (hi ▸ (Nat.le_trans kk5.size N6.le)))
    refine X_then hK17 ?_
    refine C_seq (fun K67 hK67 => ?_)
    have f68 : Bk w18 pb ([.int .i64 ((q + 1 : Nat) : Int), .int .i64 ((nn : Nat) : Int), .int .u32 ((ge : Nat) : Int), .string mk, .slice A (L.length) (c)]) 68 := (f63.on k18 (Ne.symm ne_out_pb))
    have f69 : Bk w18 sb ([.int .u8 ((ix : Nat) : Int), .int .u32 ((gn : Nat) : Int), .slice A1 (X1.length) (c1)]) 56 := (f64.on k18 (Ne.symm ne_out_sb))
    refine D_begin (fun W => Kp No w W ∧ Bk W pb ([.int .i64 ((q + 1 : Nat) : Int), .int .i64 ((nn : Nat) : Int), .int .u32 ((ge : Nat) : Int), .string mk, .slice A (L.length) (c)]) 68 ∧ Bk W sb ([.int .u8 ((ix : Nat) : Int), .int .u32 ((gn : Nat) : Int), .slice A1 (X1.length) (c1)]) 56 ∧ Bk W out ([.int .i64 ((q + 1 : Nat) : Int), .int .i64 ((nn : Nat) : Int), .int .u32 ((ge : Nat) : Int), .string mk, .slice A_17 ((([] : List Shr) ++ L ++ [(⟨ix, gn, A1, X1, c1⟩ : Shr)]).length) (c_17)]) 68) 11 rfl (by kernel_rfl) ⟨kk18.drew, f68.draw, f69.draw, f_out_18.draw⟩ ?_
    intro w19 k19 _
    have kk19 := kk18.then_ k19
    refine D_take 0 rfl (by kernel_rfl) (by kernel_rfl) (by kernel_rfl) (fun _ _ _ h => h) rfl (fun W hS => pu_loadRow (len := 5) hS.2.2.2 (by kernel_rfl) (by kernel_rfl) rfl rfl) ?_
    refine D_take 1 rfl (by kernel_rfl) (by kernel_rfl) (by kernel_rfl) (fun _ _ _ h => h) rfl (fun W hS => pu_fieldAddr (off := 4) (o' := 4) (by kernel_rfl) rfl rfl) ?_
    refine D_take 2 rfl (by kernel_rfl) (by kernel_rfl) (by kernel_rfl) (fun _ _ _ h => h) rfl (fun W hS => pu_loadK hS.2.2.2 (by kernel_rfl) rfl rfl) ?_
    refine D_take 3 rfl (by kernel_rfl) (by kernel_rfl) (by kernel_rfl) (fun _ _ _ h => h) rfl (fun W hS => pu_len Tryd.underlying36 rfl) ?_
    refine D_take 4 rfl (by kernel_rfl) (by kernel_rfl) (by kernel_rfl) (fun _ _ _ h => h) rfl (fun W hS => pu_fieldAddr (off := 0) (o' := 0) (by kernel_rfl) rfl rfl) ?_
    refine D_take 5 rfl (by kernel_rfl) (by kernel_rfl) (by kernel_rfl) (fun _ _ _ h => h) rfl (fun W hS => pu_fieldAddr (off := 0) (o' := 0) (by kernel_rfl) rfl rfl) ?_
    refine D_take 6 rfl (by kernel_rfl) (by kernel_rfl) (by kernel_rfl) (fun _ _ _ h => h) rfl (fun W hS => pu_loadK hS.2.1 (by kernel_rfl) rfl rfl) ?_
    refine D_take 7 rfl (by kernel_rfl) (by kernel_rfl) (by kernel_rfl) (fun _ _ _ h => h) rfl (fun W hS => pu_eql (p := ((([] : List Shr) ++ L ++ [(⟨ix, gn, A1, X1, c1⟩ : Shr)]).length) = (q + 1)) rfl rfl (by omega)) ?_
    have f70 : Bk w19 rs ([.int .i64 0, .int .i64 0, .int .u32 0, .string ByteArray.empty, .slice none (0) (0)]) 68 := ((f65.on k18 (Ne.symm ne_out_rs)).no k19)
    refine D_one 8 (by kernel_rfl) (Nx_lo0 rfl (lo_storeRow (C := [.int .i64 ((q + 1 : Nat) : Int), .int .i64 ((nn : Nat) : Int), .int .u32 ((ge : Nat) : Int), .string mk, .slice A_17 ((([] : List Shr) ++ L ++ [(⟨ix, gn, A1, X1, c1⟩ : Shr)]).length) (c_17)]) f70 (by kernel_rfl) rfl rfl (by intro u hu; simp at hu; rcases hu with rfl | rfl | rfl | rfl | rfl <;> rfl) rfl) ?_)
    rintro _ w20 kf20
    obtain ⟨k20, f_rs_20⟩ := kf20
    replace f_rs_20 : Bk w20 rs ([.int .i64 ((q + 1 : Nat) : Int), .int .i64 ((nn : Nat) : Int), .int .u32 ((ge : Nat) : Int), .string mk, .slice A_17 ((([] : List Shr) ++ L ++ [(⟨ix, gn, A1, X1, c1⟩ : Shr)]).length) (c_17)]) 68 := f_rs_20
    have kk20 := kk19.trans k20 (fun i hi => .inr (hi ▸ (Nat.le_trans kk2.size N3.le)))
    have f71 : Bk w20 pb ([.int .i64 ((q + 1 : Nat) : Int), .int .i64 ((nn : Nat) : Int), .int .u32 ((ge : Nat) : Int), .string mk, .slice A (L.length) (c)]) 68 := ((f68.no k19).on k20 (Ne.symm ne_rs_pb))
    have f72 : Bk w20 sb ([.int .u8 ((ix : Nat) : Int), .int .u32 ((gn : Nat) : Int), .slice A1 (X1.length) (c1)]) 56 := ((f69.no k19).on k20 (Ne.symm ne_rs_sb))
    have f73 : Bk w20 out ([.int .i64 ((q + 1 : Nat) : Int), .int .i64 ((nn : Nat) : Int), .int .u32 ((ge : Nat) : Int), .string mk, .slice A_17 ((([] : List Shr) ++ L ++ [(⟨ix, gn, A1, X1, c1⟩ : Shr)]).length) (c_17)]) 68 := ((f_out_18.no k19).on k20 ne_out_rs)
    refine ⟨⟨kk20, f71, f72, f73⟩, ?_⟩
    refine D_take 9 rfl (by kernel_rfl) (by kernel_rfl) (by kernel_rfl) (fun _ _ _ h => h) rfl (fun W hS => pu_assign rfl) ?_
    refine D_take 10 rfl (by kernel_rfl) (by kernel_rfl) (by kernel_rfl) (fun _ _ _ h => h) rfl (fun W hS => pu_assign rfl) ?_
    refine D_done (by kernel_rfl) ?_
    refine X_then hK67 ?_
    refine C_ret ?_
    have ob74 := (((p17.ob.on k18 (by have := f55.lt; omega)).keptNo k19).on k20 (by have := f54.lt; omega))
    exact X_retCTT (len := 5) (.inl rfl) rfl rfl f_rs_20 (by kernel_rfl) (by kernel_rfl) rfl rfl rfl ⟨_, _, by rw [show decide ((([] : List Shr) ++ L ++ [(⟨ix, gn, A1, X1, c1⟩ : Shr)]).length = q + 1) = decide (L.length + 1 = q + 1) from decide_eq_decide.2 (by simp)]; rfl, ob74.lowb (kk15).size, kk20⟩
set_option maxRecDepth 100000 in
set_option maxHeartbeats 2000000 in
theorem rsec_arg (ka nn : Int) (ge : Nat) (mk : ByteArray) (A : Option Addr) (L : List Shr) (c : Nat) (w : World) (HS : Ss w A L) (hm : (L.length ≤ c ∧ L.length < 9223372036854775808) ∧ ¬ MayP ka nn ge mk L) : Ret Tryd.prog 33 #[.agg ([.int .i64 (ka), .int .i64 (nn), .int .u32 ((ge : Nat) : Int), .string mk, .slice A (L.length) (c)] : List Value).toArray] w (fun v w' => v = .tuple #[.slice none 0 0, .int .i64 1] ∧ Kp No w w') := by
  have kk0 := Kp.refl No w
  refine enter (n := 21) [.agg ([.int .i64 (ka), .int .i64 (nn), .int .u32 ((ge : Nat) : Int), .string mk, .slice A (L.length) (c)] : List Value).toArray] Tryd.func33 rfl rfl rfl ?_
  show Cw _ _ _ _ [(0, .agg ([.int .i64 (ka), .int .i64 (nn), .int .u32 ((ge : Nat) : Int), .string mk, .slice A (L.length) (c)] : List Value).toArray)] _
  refine C_seq (fun K1 hK1 => ?_)
  refine C_region ?_
  refine R_lo (lo_box (L := [.int .i64 (ka), .int .i64 (nn), .int .u32 ((ge : Nat) : Int), .string mk, .slice A (L.length) (c)]) rfl rfl) rfl ?_
  rintro _ w1 ⟨pb, rfl, N1⟩
  have k1 := N1.kp
  have kk1 := kk0.then_ k1
  have f_pb_1 : Bk w1 pb ([.int .i64 (ka), .int .i64 (nn), .int .u32 ((ge : Nat) : Int), .string mk, .slice A (L.length) (c)]) 68 := N1.bk
  refine R_pu (pu_assign rfl) rfl ?_
  refine R_pu (pu_assign rfl) rfl ?_
  refine R_nil ?_
  refine X_then hK1 ?_
  refine C_seq (fun K2 hK2 => ?_)
  refine C_seq (fun K3 hK3 => ?_)
  refine C_region ?_
  refine R_pu (pu_loadRow (len := 5) f_pb_1 (by kernel_rfl) (by kernel_rfl) rfl rfl) rfl ?_
  refine R_lo (lo_call (by kernel_rfl) rfl (rmay_f ka nn ge mk A L c _ (HS.keptNo kk1) hm)) rfl ?_
  rintro _ w2 ⟨rfl, k2⟩
  have kk2 := kk1.then_ k2
  refine R_pu (pu_not rfl) rfl ?_
  refine R_nil ?_
  refine X_then hK3 ?_
  refine C_true rfl ?_
  refine C_seq (fun K4 hK4 => ?_)
  refine C_region ?_
  refine R_pu (pu_assign rfl) rfl ?_
  refine R_pu (pu_assign rfl) rfl ?_
  refine R_nil ?_
  refine X_then hK4 ?_
  refine C_ret ?_
  refine X_then_ret ?_
  exact X_ret2 (.inl rfl) rfl rfl rfl ⟨rfl, kk2⟩
set_option maxRecDepth 100000 in
set_option maxHeartbeats 2000000 in
theorem rsec_short (q nn ge : Nat) (mk : ByteArray) (A : Option Addr) (L : List Shr) (c : Nat) (w : World) (HS : Ss w A L) (hC : (((2 ≤ q + 1 ∧ q + 1 ≤ nn ∧ nn ≤ 255) ∧ mk.size ≤ 16 ∧ L.length ≤ q + 1 ∧ L.length ≤ c) ∧ Came nn ge L) ∧ L.length < q + 1) : Ret Tryd.prog 33 #[.agg ([.int .i64 ((q + 1 : Nat) : Int), .int .i64 ((nn : Nat) : Int), .int .u32 ((ge : Nat) : Int), .string mk, .slice A (L.length) (c)] : List Value).toArray] w (fun v w' => v = .tuple #[.slice none 0 0, .int .i64 2] ∧ Kp No w w') := by
  have kk0 := Kp.refl No w
  refine enter (n := 21) [.agg ([.int .i64 ((q + 1 : Nat) : Int), .int .i64 ((nn : Nat) : Int), .int .u32 ((ge : Nat) : Int), .string mk, .slice A (L.length) (c)] : List Value).toArray] Tryd.func33 rfl rfl rfl ?_
  show Cw _ _ _ _ [(0, .agg ([.int .i64 ((q + 1 : Nat) : Int), .int .i64 ((nn : Nat) : Int), .int .u32 ((ge : Nat) : Int), .string mk, .slice A (L.length) (c)] : List Value).toArray)] _
  refine C_seq (fun K1 hK1 => ?_)
  refine C_region ?_
  refine R_lo (lo_box (L := [.int .i64 ((q + 1 : Nat) : Int), .int .i64 ((nn : Nat) : Int), .int .u32 ((ge : Nat) : Int), .string mk, .slice A (L.length) (c)]) rfl rfl) rfl ?_
  rintro _ w1 ⟨pb, rfl, N1⟩
  have k1 := N1.kp
  have kk1 := kk0.then_ k1
  have f_pb_1 : Bk w1 pb ([.int .i64 ((q + 1 : Nat) : Int), .int .i64 ((nn : Nat) : Int), .int .u32 ((ge : Nat) : Int), .string mk, .slice A (L.length) (c)]) 68 := N1.bk
  refine R_pu (pu_assign rfl) rfl ?_
  refine R_pu (pu_assign rfl) rfl ?_
  refine R_nil ?_
  refine X_then hK1 ?_
  refine C_seq (fun K2 hK2 => ?_)
  refine C_seq (fun K3 hK3 => ?_)
  refine C_region ?_
  refine R_pu (pu_loadRow (len := 5) f_pb_1 (by kernel_rfl) (by kernel_rfl) rfl rfl) rfl ?_
  refine R_lo (lo_call (by kernel_rfl) rfl (rmay_t q nn ge mk A L c _ (HS.keptNo kk1) hC.1)) rfl ?_
  rintro _ w2 ⟨rfl, k2⟩
  have kk2 := kk1.then_ k2
  refine R_pu (pu_not rfl) rfl ?_
  refine R_nil ?_
  refine X_then hK3 ?_
  refine C_false rfl ?_
  refine C_skip ?_
  refine X_then hK2 ?_
  refine C_seq (fun K4 hK4 => ?_)
  refine C_seq (fun K5 hK5 => ?_)
  refine C_region ?_
  refine R_pu (pu_fieldAddr (off := 4) (o' := 4) (by kernel_rfl) rfl rfl) rfl ?_
  have f6 : Bk w2 pb ([.int .i64 ((q + 1 : Nat) : Int), .int .i64 ((nn : Nat) : Int), .int .u32 ((ge : Nat) : Int), .string mk, .slice A (L.length) (c)]) 68 := (f_pb_1.no k2)
  refine R_pu (pu_loadK f6 (by kernel_rfl) rfl rfl) rfl ?_
  refine R_pu (pu_len Tryd.underlying36 rfl) rfl ?_
  refine R_pu (pu_fieldAddr (off := 0) (o' := 0) (by kernel_rfl) rfl rfl) rfl ?_
  refine R_pu (pu_fieldAddr (off := 0) (o' := 0) (by kernel_rfl) rfl rfl) rfl ?_
  refine R_pu (pu_loadK f6 (by kernel_rfl) rfl rfl) rfl ?_
  refine R_pu (pu_true (pu_lss (p := L.length < (q + 1)) rfl rfl (by omega)) hC.2) rfl ?_
  refine R_nil ?_
  refine X_then hK5 ?_
  refine C_true rfl ?_
  refine C_seq (fun K7 hK7 => ?_)
  refine C_region ?_
  refine R_pu (pu_assign rfl) rfl ?_
  refine R_pu (pu_assign rfl) rfl ?_
  refine R_nil ?_
  refine X_then hK7 ?_
  refine C_ret ?_
  refine X_then_ret ?_
  exact X_ret2 (.inl rfl) rfl rfl rfl ⟨rfl, kk2⟩
set_option maxRecDepth 100000 in
set_option maxHeartbeats 2000000 in
theorem rsec_ok (q nn ge : Nat) (mk : ByteArray) (A : Option Addr) (L : List Shr) (c : Nat) (w : World) (HS : Ss w A L) (hC : (((2 ≤ q + 1 ∧ q + 1 ≤ nn ∧ nn ≤ 255) ∧ mk.size ≤ 16 ∧ L.length ≤ q + 1 ∧ L.length ≤ c) ∧ Came nn ge L) ∧ L.length = q + 1 ∧ ge < 4294967296) : Ret Tryd.prog 33 #[.agg ([.int .i64 ((q + 1 : Nat) : Int), .int .i64 ((nn : Nat) : Int), .int .u32 ((ge : Nat) : Int), .string mk, .slice A (L.length) (c)] : List Value).toArray] w (fun v w' => ∃ A c, v = .tuple #[.slice A (thX (L.take (q + 1)) 32 0).length c, .int .i64 0] ∧ Ob w' w.heap.size (.slice A (thX (L.take (q + 1)) 32 0).length c) (thX (L.take (q + 1)) 32 0) ∧ Kp No w w') := by
  have kk0 := Kp.refl No w
  refine enter (n := 21) [.agg ([.int .i64 ((q + 1 : Nat) : Int), .int .i64 ((nn : Nat) : Int), .int .u32 ((ge : Nat) : Int), .string mk, .slice A (L.length) (c)] : List Value).toArray] Tryd.func33 rfl rfl rfl ?_
  show Cw _ _ _ _ [(0, .agg ([.int .i64 ((q + 1 : Nat) : Int), .int .i64 ((nn : Nat) : Int), .int .u32 ((ge : Nat) : Int), .string mk, .slice A (L.length) (c)] : List Value).toArray)] _
  refine C_seq (fun K1 hK1 => ?_)
  refine C_region ?_
  refine R_lo (lo_box (L := [.int .i64 ((q + 1 : Nat) : Int), .int .i64 ((nn : Nat) : Int), .int .u32 ((ge : Nat) : Int), .string mk, .slice A (L.length) (c)]) rfl rfl) rfl ?_
  rintro _ w1 ⟨pb, rfl, N1⟩
  have k1 := N1.kp
  have kk1 := kk0.then_ k1
  have f_pb_1 : Bk w1 pb ([.int .i64 ((q + 1 : Nat) : Int), .int .i64 ((nn : Nat) : Int), .int .u32 ((ge : Nat) : Int), .string mk, .slice A (L.length) (c)]) 68 := N1.bk
  refine R_pu (pu_assign rfl) rfl ?_
  refine R_pu (pu_assign rfl) rfl ?_
  refine R_nil ?_
  refine X_then hK1 ?_
  refine C_seq (fun K2 hK2 => ?_)
  refine C_seq (fun K3 hK3 => ?_)
  refine C_region ?_
  refine R_pu (pu_loadRow (len := 5) f_pb_1 (by kernel_rfl) (by kernel_rfl) rfl rfl) rfl ?_
  refine R_lo (lo_call (by kernel_rfl) rfl (rmay_t q nn ge mk A L c _ (HS.keptNo kk1) hC.1)) rfl ?_
  rintro _ w2 ⟨rfl, k2⟩
  have kk2 := kk1.then_ k2
  refine R_pu (pu_not rfl) rfl ?_
  refine R_nil ?_
  refine X_then hK3 ?_
  refine C_false rfl ?_
  refine C_skip ?_
  refine X_then hK2 ?_
  refine C_seq (fun K4 hK4 => ?_)
  refine C_seq (fun K5 hK5 => ?_)
  refine C_region ?_
  refine R_pu (pu_fieldAddr (off := 4) (o' := 4) (by kernel_rfl) rfl rfl) rfl ?_
  have f6 : Bk w2 pb ([.int .i64 ((q + 1 : Nat) : Int), .int .i64 ((nn : Nat) : Int), .int .u32 ((ge : Nat) : Int), .string mk, .slice A (L.length) (c)]) 68 := (f_pb_1.no k2)
  refine R_pu (pu_loadK f6 (by kernel_rfl) rfl rfl) rfl ?_
  refine R_pu (pu_len Tryd.underlying36 rfl) rfl ?_
  refine R_pu (pu_fieldAddr (off := 0) (o' := 0) (by kernel_rfl) rfl rfl) rfl ?_
  refine R_pu (pu_fieldAddr (off := 0) (o' := 0) (by kernel_rfl) rfl rfl) rfl ?_
  refine R_pu (pu_loadK f6 (by kernel_rfl) rfl rfl) rfl ?_
  refine R_pu (pu_false (pu_lss (p := L.length < (q + 1)) rfl rfl (by omega)) (by omega)) rfl ?_
  refine R_nil ?_
  refine X_then hK5 ?_
  refine C_false rfl ?_
  refine C_skip ?_
  refine X_then hK4 ?_
  refine C_seq (fun K7 hK7 => ?_)
  refine C_region ?_
  refine R_pu (pu_fieldAddr (off := 4) (o' := 4) (by kernel_rfl) rfl rfl) rfl ?_
  refine R_pu (pu_loadK f6 (by kernel_rfl) rfl rfl) rfl ?_
  refine R_pu (pu_fieldAddr (off := 0) (o' := 0) (by kernel_rfl) rfl rfl) rfl ?_
  refine R_pu (pu_loadMid (len := 3) (C := [.int .i64 ((q + 1 : Nat) : Int), .int .i64 ((nn : Nat) : Int), .int .u32 ((ge : Nat) : Int)]) f6 (by kernel_rfl) (by kernel_rfl) rfl rfl rfl) rfl ?_
  refine R_lo (lo_call (by kernel_rfl) rfl (ref03_combine A L c q nn ge 0 32 _ (HS.keptNo kk2) ⟨hC.1.1.1, ⟨by omega, hC.1.1.2.2.2, by omega⟩, hC.2.2, good_take (came_good hC.1.2) _⟩ (by decide))) rfl ?_
  rintro _ w3 ⟨A_rc, c_rc, rfl, Q3, k3⟩
  have kk3 := kk2.then_ k3
  have z8 : w2.heap.size ≤ w3.heap.size := k3.size
  refine R_pu (pu_extract rfl rfl) rfl ?_
  refine R_pu (pu_extract rfl rfl) rfl ?_
  refine R_pu (pu_assign rfl) rfl ?_
  refine R_pu (pu_assign rfl) rfl ?_
  refine R_nil ?_
  refine X_then hK7 ?_
  refine C_ret ?_
  exact X_ret2 (.inl rfl) rfl rfl rfl ⟨_, _, rfl, Q3.low (kk2).size, kk3⟩
end Go.Proofs.YtjbdimfpjbmggaaDoor
