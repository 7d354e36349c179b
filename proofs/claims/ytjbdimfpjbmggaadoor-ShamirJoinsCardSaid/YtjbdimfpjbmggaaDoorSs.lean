/- Walks of shamir's errors, of the document's Wrong and Combine; the body of ShamirJoins. -/
import Derived.Test.YtjbdimfpjbmggaaDoorSj
import Derived.Test.YtjbdimfpjbmggaaDoorSr
set_option linter.unusedVariables false
set_option linter.unusedSimpArgs false
namespace Go.Proofs.YtjbdimfpjbmggaaDoor
open Go.RowKit Gm
set_option maxRecDepth 100000 in
set_option maxHeartbeats 2000000 in
theorem shamir_places_gen (A : Option Addr) (M : List Shr) (c q nn ge : Nat) (w : World) (HS : Ss w A M) (hm : (1 ≤ M.length ∧ M.length ≤ 255 ∧ M.length ≤ c) ∧ ge < 4294967296 ∧ ¬ (∀ s ∈ M, s.gen = ge)) : Ret Tryd.prog 66 #[.slice A (M.length) (c), .agg ([.int .i64 ((q + 1 : Nat) : Int), .int .i64 ((nn : Nat) : Int), .int .u32 ((ge : Nat) : Int)] : List Value).toArray] w (fun v w' => v = .tuple #[.slice none 0 0, errE 14] ∧ Kp No w w') := by
  obtain ⟨⟨hm1, hm2, hm3⟩, hge, hng⟩ := hm
  have kk0 := Kp.refl No w
  refine enter (n := 68) [.slice A (M.length) (c), .agg ([.int .i64 ((q + 1 : Nat) : Int), .int .i64 ((nn : Nat) : Int), .int .u32 ((ge : Nat) : Int)] : List Value).toArray] Tryd.func66 rfl rfl rfl ?_
  show Cw _ _ _ _ [(0, .slice A (M.length) (c)), (1, .agg ([.int .i64 ((q + 1 : Nat) : Int), .int .i64 ((nn : Nat) : Int), .int .u32 ((ge : Nat) : Int)] : List Value).toArray)] _
  refine C_seq (fun K1 hK1 => ?_)
  refine C_region ?_
  refine R_lo (lo_box (L := [.int .i64 ((q + 1 : Nat) : Int), .int .i64 ((nn : Nat) : Int), .int .u32 ((ge : Nat) : Int)]) rfl rfl) rfl ?_
  rintro _ w1 ⟨p0_0, rfl, N1⟩
  have k1 := N1.kp
  have kk1 := kk0.then_ k1
  have f_p0_0_1 : Bk w1 p0_0 ([.int .i64 ((q + 1 : Nat) : Int), .int .i64 ((nn : Nat) : Int), .int .u32 ((ge : Nat) : Int)]) 28 := N1.bk
  refine R_pu (pu_assign rfl) rfl ?_
  refine R_pu (pu_assign rfl) rfl ?_
  refine R_nil ?_
  refine X_then hK1 ?_
  refine C_seq (fun K2 hK2 => ?_)
  refine C_seq (fun K3 hK3 => ?_)
  refine C_region ?_
  refine R_pu (pu_move rfl) rfl ?_
  refine R_pu (pu_len Tryd.underlying29 rfl) rfl ?_
  refine R_pu (pu_move rfl) rfl ?_
  refine R_nil ?_
  refine X_then hK3 ?_
  refine C_block ?_
  refine C_loop (fun m_ l_ wr => ∃ i : Nat, (m_ = M.length - i) ∧ (l_ = [(0, .slice A (M.length) (c)), (3, .pointer (some ⟨p0_0, 0, none⟩)), (12, .slice A (M.length) (c)), (13, .int .i64 ((M.length : Nat) : Int)), (14, .int .i64 ((i : Nat) : Int))]) ∧ (i ≤ M.length) ∧ (∀ s ∈ M.take i, s.gen = ge) ∧ (Kp No w wr) ∧ (Bk wr p0_0 ([.int .i64 ((q + 1 : Nat) : Int), .int .i64 ((nn : Nat) : Int), .int .u32 ((ge : Nat) : Int)]) 28)) (M.length - 0) [(0, .slice A (M.length) (c)), (3, .pointer (some ⟨p0_0, 0, none⟩)), (12, .slice A (M.length) (c)), (13, .int .i64 ((M.length : Nat) : Int)), (14, .int .i64 0)] (Sub.cons rfl (Sub.cons rfl (Sub.cons rfl (Sub.cons rfl (Sub.cons rfl (Sub.nil _)))))) ⟨0, rfl, rfl, by omega, (by simp), kk1, f_p0_0_1⟩ ?_
  rintro _ _ w2 ⟨i, rfl, rfl, hi, hg, kk2, f_p0_0_2⟩
  refine C_seq (fun K4 hK4 => ?_)
  refine C_region ?_
  refine R_pu (pu_lss (p := i < M.length) rfl rfl (by omega)) rfl ?_
  refine R_nil ?_
  refine X_then hK4 ?_
  refine C_seq (fun K5 hK5 => ?_)
  refine C_dec rfl (fun h15 => ?_) (fun h15 => ?_)
  · refine C_skip ?_
    refine X_then hK5 ?_
    refine C_seq (fun K6 hK6 => ?_)
    refine C_block ?_
    refine C_seq (fun K7 hK7 => ?_)
    refine C_region ?_
    obtain ⟨s1, e_s1⟩ : ∃ q_, (M)[i]? = some q_ := ⟨_, List.getElem?_eq_getElem (by first | omega | (simp; done) | (simp; omega))⟩
    have ok_s1 := HS.get e_s1
    have okb_s1 := ok_s1.bs
    have bi_s1 : s1.ix < 256 := ok_s1.ix
    refine R_pu (pu_indexAddrH (HS.keptNo kk2) Tryd.underlying29 (by kernel_rfl) rfl rfl rfl rfl e_s1) rfl ?_
    refine R_pu (pu_loadHr (HS.keptNo kk2) e_s1 (by kernel_rfl) (by kernel_rfl) rfl) rfl ?_
    refine R_lo (lo_alloc (L := [.int .u8 0, .int .u32 0, .slice none (0) (0)]) (by kernel_rfl)) rfl ?_
    rintro _ w3 ⟨a1, rfl, N3⟩
    have k3 := N3.kp
    have kk3 := kk2.then_ k3
    have ne_a1_p0_0 : a1 ≠ p0_0 := Nat.ne_of_gt (Nat.lt_of_lt_of_le f_p0_0_2.lt N3.le)
    have f_a1_3 : Bk w3 a1 ([.int .u8 0, .int .u32 0, .slice none (0) (0)]) 50 := N3.bk
    refine R_lo0 (lo_storeRow (C := [.int .u8 ((s1.ix : Nat) : Int), .int .u32 ((s1.gen : Nat) : Int), .slice s1.A (s1.X.length) (s1.c)]) f_a1_3 (by kernel_rfl) rfl rfl (by intro u hu; simp at hu; rcases hu with rfl | rfl | rfl <;> rfl) rfl) ?_
    rintro _ w4 kf4
    obtain ⟨k4, f_a1_4⟩ := kf4
    replace f_a1_4 : Bk w4 a1 ([.int .u8 ((s1.ix : Nat) : Int), .int .u32 ((s1.gen : Nat) : Int), .slice s1.A (s1.X.length) (s1.c)]) 50 := f_a1_4
    have kk4 := kk3.trans k4 (fun i hi => .inr (hi ▸ (Nat.le_trans kk2.size N3.le)))
    refine R_nil ?_
    refine X_then hK7 ?_
    refine C_seq (fun K8 hK8 => ?_)
    refine C_region ?_
    refine R_pu (pu_fieldAddr (off := 1) (o' := 1) (by kernel_rfl) rfl rfl) rfl ?_
    refine R_pu (pu_loadK f_a1_4 (by kernel_rfl) rfl rfl) rfl ?_
    refine R_pu (pu_fieldAddr (off := 2) (o' := 2) (by kernel_rfl) rfl rfl) rfl ?_
    have f9 : Bk w4 p0_0 ([.int .i64 ((q + 1 : Nat) : Int), .int .i64 ((nn : Nat) : Int), .int .u32 ((ge : Nat) : Int)]) 28 := ((f_p0_0_2.no k3).on k4 (Ne.symm ne_a1_p0_0))
    refine R_pu (pu_loadK f9 (by kernel_rfl) rfl rfl) rfl ?_
    refine R_pu (pu_neq (p := s1.gen = ge) rfl rfl (by omega)) rfl ?_
    refine R_nil ?_
    refine X_then hK8 ?_
    refine C_dec rfl (fun h22 => ?_) (fun h22 => ?_)
    · refine C_seq (fun K10 hK10 => ?_)
      refine C_region ?_
      refine R_pu (pu_makeInterface Tryd.underlying91 rfl rfl) rfl ?_
      refine R_pu (pu_assign rfl) rfl ?_
      refine R_pu (pu_assign rfl) rfl ?_
      refine R_nil ?_
      refine X_then hK10 ?_
      refine C_ret ?_
      refine X_in_ret (X_then_ret (X_then_ret (X_in_ret (X_then_ret ?_))))
      exact X_ret2 (.inl rfl) rfl rfl rfl ⟨rfl, kk4⟩
    · refine C_skip ?_
      refine X_in_normal ?_
      refine X_then hK6 ?_
      refine C_region ?_
      refine R_pu (pu_add (z := ((i + 1 : Nat) : Int)) rfl rfl (by rw [IntKind.wrap_i64]; omega)) rfl ?_
      refine R_pu (pu_move rfl) rfl ?_
      refine R_nil ?_
      refine X_round (M.length - (i + 1)) [(0, .slice A (M.length) (c)), (3, .pointer (some ⟨p0_0, 0, none⟩)), (12, .slice A (M.length) (c)), (13, .int .i64 ((M.length : Nat) : Int)), (14, .int .i64 (((i + 1) : Nat) : Int))] (by omega) (Sub.cons rfl (Sub.cons rfl (Sub.cons rfl (Sub.cons rfl (Sub.cons rfl (Sub.nil _)))))) ⟨i + 1, rfl, rfl, by omega, (gens_step hg e_s1 (by omega)), kk4, f9⟩
  · refine C_exit ?_
    refine X_then_exit (X_then_exit (X_in_eq ?_))
    refine X_then hK2 ?_
    refine C_seq (fun K11 hK11 => ?_)
    exact absurd (gens_end hg (by omega)) hng
set_option maxRecDepth 100000 in
set_option maxHeartbeats 2000000 in
theorem shamir_places_share (A : Option Addr) (M : List Shr) (c q nn ge : Nat) (w : World) (HS : Ss w A M) (hm : (1 ≤ M.length ∧ M.length ≤ 255 ∧ M.length ≤ c) ∧ ge < 4294967296 ∧ (∀ s ∈ M, s.gen = ge) ∧ ¬ ShOk M) : Ret Tryd.prog 66 #[.slice A (M.length) (c), .agg ([.int .i64 ((q + 1 : Nat) : Int), .int .i64 ((nn : Nat) : Int), .int .u32 ((ge : Nat) : Int)] : List Value).toArray] w (fun v w' => v = .tuple #[.slice none 0 0, errE 12] ∧ Kp No w w') := by
  obtain ⟨⟨hm1, hm2, hm3⟩, hge, hga, hns⟩ := hm
  have kk0 := Kp.refl No w
  refine enter (n := 68) [.slice A (M.length) (c), .agg ([.int .i64 ((q + 1 : Nat) : Int), .int .i64 ((nn : Nat) : Int), .int .u32 ((ge : Nat) : Int)] : List Value).toArray] Tryd.func66 rfl rfl rfl ?_
  show Cw _ _ _ _ [(0, .slice A (M.length) (c)), (1, .agg ([.int .i64 ((q + 1 : Nat) : Int), .int .i64 ((nn : Nat) : Int), .int .u32 ((ge : Nat) : Int)] : List Value).toArray)] _
  refine C_seq (fun K1 hK1 => ?_)
  refine C_region ?_
  refine R_lo (lo_box (L := [.int .i64 ((q + 1 : Nat) : Int), .int .i64 ((nn : Nat) : Int), .int .u32 ((ge : Nat) : Int)]) rfl rfl) rfl ?_
  rintro _ w1 ⟨p0_0, rfl, N1⟩
  have k1 := N1.kp
  have kk1 := kk0.then_ k1
  have f_p0_0_1 : Bk w1 p0_0 ([.int .i64 ((q + 1 : Nat) : Int), .int .i64 ((nn : Nat) : Int), .int .u32 ((ge : Nat) : Int)]) 28 := N1.bk
  refine R_pu (pu_assign rfl) rfl ?_
  refine R_pu (pu_assign rfl) rfl ?_
  refine R_nil ?_
  refine X_then hK1 ?_
  refine C_seq (fun K2 hK2 => ?_)
  refine C_seq (fun K3 hK3 => ?_)
  refine C_region ?_
  refine R_pu (pu_move rfl) rfl ?_
  refine R_pu (pu_len Tryd.underlying29 rfl) rfl ?_
  refine R_pu (pu_move rfl) rfl ?_
  refine R_nil ?_
  refine X_then hK3 ?_
  refine C_block ?_
  refine C_loop (fun m_ l_ wr => ∃ i : Nat, (m_ = M.length - i) ∧ (l_ = [(0, .slice A (M.length) (c)), (3, .pointer (some ⟨p0_0, 0, none⟩)), (12, .slice A (M.length) (c)), (13, .int .i64 ((M.length : Nat) : Int)), (14, .int .i64 ((i : Nat) : Int))]) ∧ (i ≤ M.length) ∧ (Kp No w wr) ∧ (Bk wr p0_0 ([.int .i64 ((q + 1 : Nat) : Int), .int .i64 ((nn : Nat) : Int), .int .u32 ((ge : Nat) : Int)]) 28)) (M.length - 0) [(0, .slice A (M.length) (c)), (3, .pointer (some ⟨p0_0, 0, none⟩)), (12, .slice A (M.length) (c)), (13, .int .i64 ((M.length : Nat) : Int)), (14, .int .i64 0)] (Sub.cons rfl (Sub.cons rfl (Sub.cons rfl (Sub.cons rfl (Sub.cons rfl (Sub.nil _)))))) ⟨0, rfl, rfl, by omega, kk1, f_p0_0_1⟩ ?_
  rintro _ _ w2 ⟨i, rfl, rfl, hi, kk2, f_p0_0_2⟩
  refine C_seq (fun K4 hK4 => ?_)
  refine C_region ?_
  refine R_pu (pu_lss (p := i < M.length) rfl rfl (by omega)) rfl ?_
  refine R_nil ?_
  refine X_then hK4 ?_
  refine C_seq (fun K5 hK5 => ?_)
  refine C_dec rfl (fun h15 => ?_) (fun h15 => ?_)
  · refine C_skip ?_
    refine X_then hK5 ?_
    refine C_seq (fun K6 hK6 => ?_)
    refine C_block ?_
    refine C_seq (fun K7 hK7 => ?_)
    refine C_region ?_
    obtain ⟨s1, e_s1⟩ : ∃ q_, (M)[i]? = some q_ := ⟨_, List.getElem?_eq_getElem (by first | omega | (simp; done) | (simp; omega))⟩
    have ok_s1 := HS.get e_s1
    have okb_s1 := ok_s1.bs
    have bi_s1 : s1.ix < 256 := ok_s1.ix
    refine R_pu (pu_indexAddrH (HS.keptNo kk2) Tryd.underlying29 (by kernel_rfl) rfl rfl rfl rfl e_s1) rfl ?_
    refine R_pu (pu_loadHr (HS.keptNo kk2) e_s1 (by kernel_rfl) (by kernel_rfl) rfl) rfl ?_
    refine R_lo (lo_alloc (L := [.int .u8 0, .int .u32 0, .slice none (0) (0)]) (by kernel_rfl)) rfl ?_
    rintro _ w3 ⟨a1, rfl, N3⟩
    have k3 := N3.kp
    have kk3 := kk2.then_ k3
    have ne_a1_p0_0 : a1 ≠ p0_0 := Nat.ne_of_gt (Nat.lt_of_lt_of_le f_p0_0_2.lt N3.le)
    have f_a1_3 : Bk w3 a1 ([.int .u8 0, .int .u32 0, .slice none (0) (0)]) 50 := N3.bk
    refine R_lo0 (lo_storeRow (C := [.int .u8 ((s1.ix : Nat) : Int), .int .u32 ((s1.gen : Nat) : Int), .slice s1.A (s1.X.length) (s1.c)]) f_a1_3 (by kernel_rfl) rfl rfl (by intro u hu; simp at hu; rcases hu with rfl | rfl | rfl <;> rfl) rfl) ?_
    rintro _ w4 kf4
    obtain ⟨k4, f_a1_4⟩ := kf4
    replace f_a1_4 : Bk w4 a1 ([.int .u8 ((s1.ix : Nat) : Int), .int .u32 ((s1.gen : Nat) : Int), .slice s1.A (s1.X.length) (s1.c)]) 50 := f_a1_4
    have kk4 := kk3.trans k4 (fun i hi => .inr (hi ▸ (Nat.le_trans kk2.size N3.le)))
    refine R_nil ?_
    refine X_then hK7 ?_
    refine C_seq (fun K8 hK8 => ?_)
    refine C_region ?_
    refine R_pu (pu_fieldAddr (off := 1) (o' := 1) (by kernel_rfl) rfl rfl) rfl ?_
    refine R_pu (pu_loadK f_a1_4 (by kernel_rfl) rfl rfl) rfl ?_
    refine R_pu (pu_fieldAddr (off := 2) (o' := 2) (by kernel_rfl) rfl rfl) rfl ?_
    have f9 : Bk w4 p0_0 ([.int .i64 ((q + 1 : Nat) : Int), .int .i64 ((nn : Nat) : Int), .int .u32 ((ge : Nat) : Int)]) 28 := ((f_p0_0_2.no k3).on k4 (Ne.symm ne_a1_p0_0))
    refine R_pu (pu_loadK f9 (by kernel_rfl) rfl rfl) rfl ?_
    refine R_pu (pu_neq (p := s1.gen = ge) rfl rfl (by omega)) rfl ?_
    refine R_nil ?_
    refine X_then hK8 ?_
    refine C_decf rfl (fun h => h (hga _ (List.mem_of_getElem? e_s1))) ?_
    refine C_skip ?_
    refine X_in_normal ?_
    refine X_then hK6 ?_
    refine C_region ?_
    refine R_pu (pu_add (z := ((i + 1 : Nat) : Int)) rfl rfl (by rw [IntKind.wrap_i64]; omega)) rfl ?_
    refine R_pu (pu_move rfl) rfl ?_
    refine R_nil ?_
    refine X_round (M.length - (i + 1)) [(0, .slice A (M.length) (c)), (3, .pointer (some ⟨p0_0, 0, none⟩)), (12, .slice A (M.length) (c)), (13, .int .i64 ((M.length : Nat) : Int)), (14, .int .i64 (((i + 1) : Nat) : Int))] (by omega) (Sub.cons rfl (Sub.cons rfl (Sub.cons rfl (Sub.cons rfl (Sub.cons rfl (Sub.nil _)))))) ⟨i + 1, rfl, rfl, by omega, kk4, f9⟩
  · refine C_exit ?_
    refine X_then_exit (X_then_exit (X_in_eq ?_))
    refine X_then hK2 ?_
    refine C_seq (fun K10 hK10 => ?_)
    refine C_region ?_
    refine R_pu (pu_build (L := bL (fun v => decide (v = 0))) rfl (by kernel_rfl)) rfl ?_
    refine R_lo (lo_alloc (L := bL (fun _ => false)) (by kernel_rfl)) rfl ?_
    rintro _ w5 ⟨sn, rfl, N5⟩
    have k5 := N5.kp
    have kk5 := kk2.then_ k5
    have ne_sn_p0_0 : sn ≠ p0_0 := Nat.ne_of_gt (Nat.lt_of_lt_of_le f_p0_0_2.lt N5.le)
    have f_sn_5 : Bk w5 sn (bL (fun _ => false)) 161 := N5.bk
    refine R_lo0 (lo_storeRow (C := bL (fun v => decide (v = 0))) f_sn_5 (by kernel_rfl) rfl rfl (bL_one _) ((bL_length _).trans (bL_length _).symm)) ?_
    rintro _ w6 kf6
    obtain ⟨k6, f_sn_6⟩ := kf6
    replace f_sn_6 : Bk w6 sn (bL (fun v => decide (v = 0))) 161 := f_sn_6
    have kk6 := kk5.trans k6 (fun i hi => .inr (hi ▸ (Nat.le_trans kk2.size N5.le)))
    refine R_nil ?_
    refine X_then hK10 ?_
    refine C_seq (fun K11 hK11 => ?_)
    refine C_region ?_
    refine R_pu (pu_move rfl) rfl ?_
    refine R_pu (pu_len Tryd.underlying29 rfl) rfl ?_
    have f12 : Bk w6 p0_0 ([.int .i64 ((q + 1 : Nat) : Int), .int .i64 ((nn : Nat) : Int), .int .u32 ((ge : Nat) : Int)]) 28 := ((f_p0_0_2.no k5).on k6 (Ne.symm ne_sn_p0_0))
    refine R_lo (lo_make (z := .int .u8 0) (bytes := 1) (ln := 0) (cp := M.length) Tryd.underlying22 (by kernel_rfl) rfl rfl rfl rfl rfl (by omega) (by omega) (by omega)) rfl ?_
    rintro _ w7 ⟨d, rfl, N7⟩
    have k7 := N7.kp
    have kk7 := kk6.then_ k7
    have ne_d_p0_0 : d ≠ p0_0 := Nat.ne_of_gt (Nat.lt_of_lt_of_le f12.lt N7.le)
    have ne_d_sn : d ≠ sn := Nat.ne_of_gt (Nat.lt_of_lt_of_le f_sn_6.lt N7.le)
    have f_d_7 : Bk w7 d (u8s (List.replicate M.length 0)) 5 := by rw [u8s_rep]; exact N7.bk
    refine R_pu (pu_assign rfl) rfl ?_
    refine R_nil ?_
    refine X_then hK11 ?_
    refine C_seq (fun K13 hK13 => ?_)
    refine C_seq (fun K14 hK14 => ?_)
    have ob0 : Ob w7 w.heap.size (.slice (some ⟨d, 0, none⟩) ([] : List Nat).length M.length) [] := Ob.of_block (base := w.heap.size) (k := 0) f_d_7 (Nat.le_trans kk6.size N7.le) (List.length_replicate ..) (by unfold maxLen; omega) (fun n hn => by rw [(List.mem_replicate.1 hn).2]; decide) (Nat.zero_le _)
    refine C_region ?_
    refine R_pu (pu_move rfl) rfl ?_
    refine R_pu (pu_len Tryd.underlying29 rfl) rfl ?_
    refine R_pu (pu_move rfl) rfl ?_
    refine R_nil ?_
    refine X_then hK14 ?_
    refine C_block ?_
    have f15 : Bk w7 p0_0 ([.int .i64 ((q + 1 : Nat) : Int), .int .i64 ((nn : Nat) : Int), .int .u32 ((ge : Nat) : Int)]) 28 := (f12.no k7)
    have f16 : Bk w7 sn (bL (fun v => decide (v = 0))) 161 := (f_sn_6.no k7)
    refine C_loop (fun m_ l_ wr => ∃ i : Nat, (m_ = M.length - i) ∧ (l_ = [(0, .slice A (M.length) (c)), (8, .pointer (some ⟨sn, 0, none⟩)), (9, .slice (some ⟨d, 0, none⟩) (((ixs M).take i).length) (M.length)), (29, .slice A (M.length) (c)), (30, .int .i64 ((M.length : Nat) : Int)), (31, .int .i64 ((i : Nat) : Int))]) ∧ (i ≤ M.length) ∧ (Sk M i) ∧ (Kp No w wr) ∧ (Bk wr p0_0 ([.int .i64 ((q + 1 : Nat) : Int), .int .i64 ((nn : Nat) : Int), .int .u32 ((ge : Nat) : Int)]) 28) ∧ (Bk wr sn (bL (seen0 (ixs M) i)) 161) ∧ (Ob wr w.heap.size (.slice (some ⟨d, 0, none⟩) ((ixs M).take i).length M.length) ((ixs M).take i) ∧ w.heap.size ≤ (wr).heap.size)) (M.length - 0) [(0, .slice A (M.length) (c)), (8, .pointer (some ⟨sn, 0, none⟩)), (9, .slice (some ⟨d, 0, none⟩) (((ixs M).take 0).length) (M.length)), (29, .slice A (M.length) (c)), (30, .int .i64 ((M.length : Nat) : Int)), (31, .int .i64 0)] (Sub.cons rfl (Sub.cons rfl (Sub.cons rfl (Sub.cons rfl (Sub.cons rfl (Sub.cons rfl (Sub.nil _))))))) ⟨0, rfl, rfl, by omega, (Sk.zero M), kk7, f15, Bk.eq f16 (seen0_zero (ixs M)), ⟨by exact ob0, kk7.size⟩⟩ ?_
    rintro _ _ w8 ⟨i, rfl, rfl, hi, hSk, kk8, f_p0_0_8, f_sn_8, xs_8⟩
    refine C_seq (fun K17 hK17 => ?_)
    refine C_region ?_
    refine R_pu (pu_lss (p := i < M.length) rfl rfl (by omega)) rfl ?_
    refine R_nil ?_
    refine X_then hK17 ?_
    refine C_seq (fun K18 hK18 => ?_)
    refine C_dec rfl (fun h32 => ?_) (fun h32 => ?_)
    · refine C_skip ?_
      refine X_then hK18 ?_
      refine C_seq (fun K19 hK19 => ?_)
      refine C_block ?_
      refine C_seq (fun K20 hK20 => ?_)
      refine C_region ?_
      obtain ⟨s2, e_s2⟩ : ∃ q_, (M)[i]? = some q_ := ⟨_, List.getElem?_eq_getElem (by first | omega | (simp; done) | (simp; omega))⟩
      have ok_s2 := HS.get e_s2
      have okb_s2 := ok_s2.bs
      have bi_s2 : s2.ix < 256 := ok_s2.ix
      refine R_pu (pu_indexAddrH (HS.keptNo kk8) Tryd.underlying29 (by kernel_rfl) rfl rfl rfl rfl e_s2) rfl ?_
      refine R_pu (pu_loadHr (HS.keptNo kk8) e_s2 (by kernel_rfl) (by kernel_rfl) rfl) rfl ?_
      refine R_lo (lo_alloc (L := [.int .u8 0, .int .u32 0, .slice none (0) (0)]) (by kernel_rfl)) rfl ?_
      rintro _ w9 ⟨a2, rfl, N9⟩
      have k9 := N9.kp
      have kk9 := kk8.then_ k9
      have ne_a2_p0_0 : a2 ≠ p0_0 := Nat.ne_of_gt (Nat.lt_of_lt_of_le f_p0_0_8.lt N9.le)
      have ne_a2_sn : a2 ≠ sn := Nat.ne_of_gt (Nat.lt_of_lt_of_le f_sn_8.lt N9.le)
      have ne_a2_d : a2 ≠ d := xs_8.1.ne N9.le
      have f_a2_9 : Bk w9 a2 ([.int .u8 0, .int .u32 0, .slice none (0) (0)]) 50 := N9.bk
      refine R_lo0 (lo_storeRow (C := [.int .u8 ((s2.ix : Nat) : Int), .int .u32 ((s2.gen : Nat) : Int), .slice s2.A (s2.X.length) (s2.c)]) f_a2_9 (by kernel_rfl) rfl rfl (by intro u hu; simp at hu; rcases hu with rfl | rfl | rfl <;> rfl) rfl) ?_
      rintro _ w10 kf10
      obtain ⟨k10, f_a2_10⟩ := kf10
      replace f_a2_10 : Bk w10 a2 ([.int .u8 ((s2.ix : Nat) : Int), .int .u32 ((s2.gen : Nat) : Int), .slice s2.A (s2.X.length) (s2.c)]) 50 := f_a2_10
      have kk10 := kk9.trans k10 (fun i hi => .inr (hi ▸ (Nat.le_trans kk8.size N9.le)))
      refine R_nil ?_
      refine X_then hK20 ?_
      refine C_seq (fun K21 hK21 => ?_)
      refine C_seq (fun K22 hK22 => ?_)
      have f23 : Bk w10 p0_0 ([.int .i64 ((q + 1 : Nat) : Int), .int .i64 ((nn : Nat) : Int), .int .u32 ((ge : Nat) : Int)]) 28 := ((f_p0_0_8.no k9).on k10 (Ne.symm ne_a2_p0_0))
      have f24 : Bk w10 sn (bL (seen0 (ixs M) i)) 161 := ((f_sn_8.no k9).on k10 (Ne.symm ne_a2_sn))
      refine D_begin (fun W => Kp No w W ∧ Bk W p0_0 ([.int .i64 ((q + 1 : Nat) : Int), .int .i64 ((nn : Nat) : Int), .int .u32 ((ge : Nat) : Int)]) 28 ∧ Bk W sn (bL (seen0 (ixs M) i)) 161 ∧ Bk W a2 ([.int .u8 ((s2.ix : Nat) : Int), .int .u32 ((s2.gen : Nat) : Int), .slice s2.A (s2.X.length) (s2.c)]) 50) 22 rfl (by kernel_rfl) ⟨kk10.drew, f23.draw, f24.draw, f_a2_10.draw⟩ ?_
      intro w11 k11 _
      have kk11 := kk10.then_ k11
      refine D_take 0 rfl (by kernel_rfl) (by kernel_rfl) (by kernel_rfl) (fun _ _ _ h => h) rfl (fun W hS => pu_fieldAddr (off := 0) (o' := 0) (by kernel_rfl) rfl rfl) ?_
      refine D_take 1 rfl (by kernel_rfl) (by kernel_rfl) (by kernel_rfl) (fun _ _ _ h => h) rfl (fun W hS => pu_loadK hS.2.2.2 (by kernel_rfl) rfl rfl) ?_
      refine D_take 2 rfl (by kernel_rfl) (by kernel_rfl) (by kernel_rfl) (fun _ _ _ h => h) rfl (fun W hS => pu_indexAddrA (m := s2.ix) (s := 1) (o' := s2.ix) Tryd.underlying161 (by kernel_rfl) rfl rfl rfl (by omega) (by omega)) ?_
      refine D_take 3 rfl (by kernel_rfl) (by kernel_rfl) (by kernel_rfl) (fun _ _ _ h => h) rfl (fun W hS => pu_loadK hS.2.2.1 (by kernel_rfl) rfl (bL_get (by omega))) ?_
      rcases Bool.eq_false_or_eq_true (seen0 (ixs M) i s2.ix) with g12_4 | g12_4
      · refine D_take 4 rfl (by kernel_rfl) (by kernel_rfl) (by kernel_rfl) (fun _ _ _ h => h) rfl (fun W hS => pu_b (pu_move rfl) g12_4) ?_
        refine D_gno 5 rfl rfl rfl rfl (by kernel_rfl) (by kernel_rfl) (by kernel_rfl) (fun _ _ _ h => h) rfl ?_
        refine D_gno 6 rfl rfl rfl rfl (by kernel_rfl) (by kernel_rfl) (by kernel_rfl) (fun _ _ _ h => h) rfl ?_
        refine D_gno 7 rfl rfl rfl rfl (by kernel_rfl) (by kernel_rfl) (by kernel_rfl) (fun _ _ _ h => h) rfl ?_
        refine D_gno 8 rfl rfl rfl rfl (by kernel_rfl) (by kernel_rfl) (by kernel_rfl) (fun _ _ _ h => h) rfl ?_
        refine D_gno 9 rfl rfl rfl rfl (by kernel_rfl) (by kernel_rfl) (by kernel_rfl) (fun _ _ _ h => h) rfl ?_
        refine D_gno 10 rfl rfl rfl rfl (by kernel_rfl) (by kernel_rfl) (by kernel_rfl) (fun _ _ _ h => h) rfl ?_
        refine D_gno 11 rfl rfl rfl rfl (by kernel_rfl) (by kernel_rfl) (by kernel_rfl) (fun _ _ _ h => h) rfl ?_
        refine D_gno 12 rfl rfl rfl rfl (by kernel_rfl) (by kernel_rfl) (by kernel_rfl) (fun _ _ _ h => h) rfl ?_
        refine D_gno 13 rfl rfl rfl rfl (by kernel_rfl) (by kernel_rfl) (by kernel_rfl) (fun _ _ _ h => h) rfl ?_
        refine D_take 14 rfl (by kernel_rfl) (by kernel_rfl) (by kernel_rfl) (fun _ _ _ h => h) rfl (fun W hS => pu_pickt rfl rfl) ?_
        refine D_take 15 rfl (by kernel_rfl) (by kernel_rfl) (by kernel_rfl) (fun _ _ _ h => h) rfl (fun W hS => pu_move rfl) ?_
        refine D_gno 16 rfl rfl rfl rfl (by kernel_rfl) (by kernel_rfl) (by kernel_rfl) (fun _ _ _ h => h) rfl ?_
        refine D_gno 17 rfl rfl rfl rfl (by kernel_rfl) (by kernel_rfl) (by kernel_rfl) (fun _ _ _ h => h) rfl ?_
        refine D_gno 18 rfl rfl rfl rfl (by kernel_rfl) (by kernel_rfl) (by kernel_rfl) (fun _ _ _ h => h) rfl ?_
        refine D_gno 19 rfl rfl rfl rfl (by kernel_rfl) (by kernel_rfl) (by kernel_rfl) (fun _ _ _ h => h) rfl ?_
        refine D_gno 20 rfl rfl rfl rfl (by kernel_rfl) (by kernel_rfl) (by kernel_rfl) (fun _ _ _ h => h) rfl ?_
        refine D_take 21 rfl (by kernel_rfl) (by kernel_rfl) (by kernel_rfl) (fun _ _ _ h => h) rfl (fun W hS => pu_pickt rfl rfl) ?_
        refine D_done (by kernel_rfl) ?_
        refine X_then hK22 ?_
        refine C_true rfl ?_
        refine C_seq (fun K25 hK25 => ?_)
        refine C_region ?_
        refine R_pu (pu_makeInterface Tryd.underlying91 rfl rfl) rfl ?_
        refine R_pu (pu_assign rfl) rfl ?_
        refine R_pu (pu_assign rfl) rfl ?_
        refine R_nil ?_
        refine X_then hK25 ?_
        refine C_ret ?_
        refine X_then_ret (X_in_ret (X_then_ret (X_then_ret (X_in_ret (X_then_ret ?_)))))
        exact X_ret2 (.inl rfl) rfl rfl rfl ⟨rfl, kk11⟩
      · refine D_take 4 rfl (by kernel_rfl) (by kernel_rfl) (by kernel_rfl) (fun _ _ _ h => h) rfl (fun W hS => pu_b (pu_move rfl) g12_4) ?_
        refine D_gtake 5 rfl rfl rfl (by kernel_rfl) (by kernel_rfl) (by kernel_rfl) (fun _ _ _ h => h) rfl (fun W hS => pu_fieldAddr (off := 2) (o' := 2) (by kernel_rfl) rfl rfl) ?_
        refine D_gtake 6 rfl rfl rfl (by kernel_rfl) (by kernel_rfl) (by kernel_rfl) (fun _ _ _ h => h) rfl (fun W hS => pu_loadK hS.2.2.2 (by kernel_rfl) rfl rfl) ?_
        refine D_gtake 7 rfl rfl rfl (by kernel_rfl) (by kernel_rfl) (by kernel_rfl) (fun _ _ _ h => h) rfl (fun W hS => pu_len Tryd.underlying22 rfl) ?_
        refine D_gtake 8 rfl rfl rfl (by kernel_rfl) (by kernel_rfl) (by kernel_rfl) (fun _ _ _ h => h) rfl (fun W hS => pu_move rfl) ?_
        obtain ⟨s0, e_s0⟩ : ∃ q_, (M)[0]? = some q_ := ⟨_, List.getElem?_eq_getElem (by first | omega | (simp; done) | (simp; omega))⟩
        have ok_s0 := HS.get e_s0
        have okb_s0 := ok_s0.bs
        have bi_s0 : s0.ix < 256 := ok_s0.ix
        refine D_gtake 9 rfl rfl rfl (by kernel_rfl) (by kernel_rfl) (by kernel_rfl) (fun _ _ _ h => h) rfl (fun W hS => pu_indexAddrH (HS.keptNo hS.1) Tryd.underlying29 (by kernel_rfl) rfl rfl rfl rfl e_s0) ?_
        refine D_gtake 10 rfl rfl rfl (by kernel_rfl) (by kernel_rfl) (by kernel_rfl) (fun _ _ _ h => h) rfl (fun W hS => pu_fieldAddrH (off := 2) (HS.keptNo hS.1) e_s0 (by kernel_rfl) rfl) ?_
        refine D_gtake 11 rfl rfl rfl (by kernel_rfl) (by kernel_rfl) (by kernel_rfl) (fun _ _ _ h => h) rfl (fun W hS => pu_loadH (HS.keptNo hS.1) e_s0 (by kernel_rfl) rfl rfl) ?_
        refine D_gtake 12 rfl rfl rfl (by kernel_rfl) (by kernel_rfl) (by kernel_rfl) (fun _ _ _ h => h) rfl (fun W hS => pu_len Tryd.underlying22 rfl) ?_
        refine D_gtake 13 rfl rfl rfl (by kernel_rfl) (by kernel_rfl) (by kernel_rfl) (fun _ _ _ h => h) rfl (fun W hS => pu_neq (p := s2.X.length = s0.X.length) rfl rfl (by omega)) ?_
        refine D_take 14 rfl (by kernel_rfl) (by kernel_rfl) (by kernel_rfl) (fun _ _ _ h => h) rfl (fun W hS => pu_pickf rfl rfl) ?_
        by_cases g12_15 : ¬ (s2.X.length = s0.X.length)
        · refine D_take 15 rfl (by kernel_rfl) (by kernel_rfl) (by kernel_rfl) (fun _ _ _ h => h) rfl (fun W hS => pu_true (pu_move rfl) g12_15) ?_
          refine D_gno 16 rfl rfl rfl rfl (by kernel_rfl) (by kernel_rfl) (by kernel_rfl) (fun _ _ _ h => h) rfl ?_
          refine D_gno 17 rfl rfl rfl rfl (by kernel_rfl) (by kernel_rfl) (by kernel_rfl) (fun _ _ _ h => h) rfl ?_
          refine D_gno 18 rfl rfl rfl rfl (by kernel_rfl) (by kernel_rfl) (by kernel_rfl) (fun _ _ _ h => h) rfl ?_
          refine D_gno 19 rfl rfl rfl rfl (by kernel_rfl) (by kernel_rfl) (by kernel_rfl) (fun _ _ _ h => h) rfl ?_
          refine D_gno 20 rfl rfl rfl rfl (by kernel_rfl) (by kernel_rfl) (by kernel_rfl) (fun _ _ _ h => h) rfl ?_
          refine D_take 21 rfl (by kernel_rfl) (by kernel_rfl) (by kernel_rfl) (fun _ _ _ h => h) rfl (fun W hS => pu_pickt rfl rfl) ?_
          refine D_done (by kernel_rfl) ?_
          refine X_then hK22 ?_
          refine C_true rfl ?_
          refine C_seq (fun K26 hK26 => ?_)
          refine C_region ?_
          refine R_pu (pu_makeInterface Tryd.underlying91 rfl rfl) rfl ?_
          refine R_pu (pu_assign rfl) rfl ?_
          refine R_pu (pu_assign rfl) rfl ?_
          refine R_nil ?_
          refine X_then hK26 ?_
          refine C_ret ?_
          refine X_then_ret (X_in_ret (X_then_ret (X_then_ret (X_in_ret (X_then_ret ?_)))))
          exact X_ret2 (.inl rfl) rfl rfl rfl ⟨rfl, kk11⟩
        · refine D_take 15 rfl (by kernel_rfl) (by kernel_rfl) (by kernel_rfl) (fun _ _ _ h => h) rfl (fun W hS => pu_false (pu_move rfl) g12_15) ?_
          refine D_gtake 16 rfl rfl rfl (by kernel_rfl) (by kernel_rfl) (by kernel_rfl) (fun _ _ _ h => h) rfl (fun W hS => pu_fieldAddr (off := 2) (o' := 2) (by kernel_rfl) rfl rfl) ?_
          refine D_gtake 17 rfl rfl rfl (by kernel_rfl) (by kernel_rfl) (by kernel_rfl) (fun _ _ _ h => h) rfl (fun W hS => pu_loadK hS.2.2.2 (by kernel_rfl) rfl rfl) ?_
          refine D_gtake 18 rfl rfl rfl (by kernel_rfl) (by kernel_rfl) (by kernel_rfl) (fun _ _ _ h => h) rfl (fun W hS => pu_len Tryd.underlying22 rfl) ?_
          refine D_one 19 (by kernel_rfl) (Nx_glo rfl rfl rfl (lo_call (by kernel_rfl) rfl (shamir_sized s2.X.length _)) rfl ?_)
          rintro _ w12 ⟨rfl, k12⟩
          have kk12 := kk11.then_ k12
          have f27 : Bk w12 p0_0 ([.int .i64 ((q + 1 : Nat) : Int), .int .i64 ((nn : Nat) : Int), .int .u32 ((ge : Nat) : Int)]) 28 := ((f23.no k11).no k12)
          have f28 : Bk w12 sn (bL (seen0 (ixs M) i)) 161 := ((f24.no k11).no k12)
          have f29 : Bk w12 a2 ([.int .u8 ((s2.ix : Nat) : Int), .int .u32 ((s2.gen : Nat) : Int), .slice s2.A (s2.X.length) (s2.c)]) 50 := ((f_a2_10.no k11).no k12)
          refine ⟨⟨kk12, f27, f28, f29⟩, ?_⟩
          refine D_gtake 20 rfl rfl rfl (by kernel_rfl) (by kernel_rfl) (by kernel_rfl) (fun _ _ _ h => h) rfl (fun W hS => pu_notd rfl) ?_
          refine D_take 21 rfl (by kernel_rfl) (by kernel_rfl) (by kernel_rfl) (fun _ _ _ h => h) rfl (fun W hS => pu_pickf rfl rfl) ?_
          refine D_done (by kernel_rfl) ?_
          refine X_then hK22 ?_
          refine C_dec rfl (fun h56 => ?_) (fun h56 => ?_)
          · refine C_seq (fun K30 hK30 => ?_)
            refine C_region ?_
            refine R_pu (pu_makeInterface Tryd.underlying91 rfl rfl) rfl ?_
            refine R_pu (pu_assign rfl) rfl ?_
            refine R_pu (pu_assign rfl) rfl ?_
            refine R_nil ?_
            refine X_then hK30 ?_
            refine C_ret ?_
            refine X_then_ret (X_in_ret (X_then_ret (X_then_ret (X_in_ret (X_then_ret ?_)))))
            exact X_ret2 (.inl rfl) rfl rfl rfl ⟨rfl, kk12⟩
          · refine C_skip ?_
            refine X_then hK21 ?_
            refine C_seq (fun K31 hK31 => ?_)
            refine C_region ?_
            refine R_pu (pu_fieldAddr (off := 0) (o' := 0) (by kernel_rfl) rfl rfl) rfl ?_
            refine R_pu (pu_loadK f29 (by kernel_rfl) rfl rfl) rfl ?_
            refine R_pu (pu_indexAddrA (m := s2.ix) (s := 1) (o' := s2.ix) Tryd.underlying161 (by kernel_rfl) rfl rfl rfl (by omega) (by omega)) rfl ?_
            refine R_lo0 (lo_store f28 (by kernel_rfl) rfl rfl rfl (by rw [bL_length]; omega)) ?_
            rintro _ w13 kf13
            obtain ⟨k13, f_sn_13⟩ := kf13
            replace f_sn_13 := Bk.eq f_sn_13 bL_set
            replace f_sn_13 : Bk w13 sn (bL (fun v => decide (v = s2.ix) || seen0 (ixs M) i v)) 161 := f_sn_13
            have kk13 := kk12.trans k13 (fun i hi => .inr (hi ▸ (Nat.le_trans kk2.size N5.le)))
            refine R_nil ?_
            refine X_then hK31 ?_
            refine C_region ?_
            refine R_pu (pu_move rfl) rfl ?_
            refine R_pu (pu_fieldAddr (off := 0) (o' := 0) (by kernel_rfl) rfl rfl) rfl ?_
            have f32 : Bk w13 a2 ([.int .u8 ((s2.ix : Nat) : Int), .int .u32 ((s2.gen : Nat) : Int), .slice s2.A (s2.X.length) (s2.c)]) 50 := (f29.on k13 ne_a2_sn)
            refine R_pu (pu_loadK f32 (by kernel_rfl) rfl rfl) rfl ?_
            have f33 : Bk w13 p0_0 ([.int .i64 ((q + 1 : Nat) : Int), .int .i64 ((nn : Nat) : Int), .int .u32 ((ge : Nat) : Int)]) 28 := (f27.on k13 (Ne.symm ne_sn_p0_0))
            have ob34 := (((((xs_8.1.keptNo k9).onF k10 (Ne.symm ne_a2_d)).keptNo k11).keptNo k12).onF k13 ne_d_sn)
            refine R_lo (lo_buildSlice (L := u8s ([s2.ix])) Tryd.underlying22 rfl (by kernel_rfl)) rfl ?_
            rintro _ w14 ⟨p15_3, rfl, N14⟩
            have k14 := N14.kp
            have kk14 := kk13.then_ k14
            have ne_p15_3_p0_0 : p15_3 ≠ p0_0 := Nat.ne_of_gt (Nat.lt_of_lt_of_le f33.lt N14.le)
            have ne_p15_3_sn : p15_3 ≠ sn := Nat.ne_of_gt (Nat.lt_of_lt_of_le f_sn_13.lt N14.le)
            have ne_p15_3_a2 : p15_3 ≠ a2 := Nat.ne_of_gt (Nat.lt_of_lt_of_le f32.lt N14.le)
            have ne_p15_3_d : p15_3 ≠ d := ob34.ne N14.le
            have f_p15_3_14 : Bk w14 p15_3 (u8s ([s2.ix])) 5 := N14.bk
            have ob35 := (ob34.keptNo k14)
            refine R_lo (lo_appFit (X := (ixs M).take i) (Y := [s2.ix]) ob35 ob35.le.1 rfl rfl (show By 1 [s2.ix] from ⟨rfl, fun n hn => by rw [List.mem_singleton.1 hn]; exact ok_s2.ix⟩).1 (Bs.ofBk f_p15_3_14 (show By 1 [s2.ix] from ⟨rfl, fun n hn => by rw [List.mem_singleton.1 hn]; exact ok_s2.ix⟩)) (by simp) (by rw [List.length_take, ixs_length]; simp; omega)) rfl ?_
            rintro _ w15 ⟨rfl, q15, k15⟩
            have kk15 := kk14.trans k15 (fun i hi => .inr (hi ▸ (Nat.le_trans kk6.size N7.le)))
            refine R_pu (pu_assign rfl) rfl ?_
            refine R_nil ?_
            refine X_in_normal ?_
            refine X_then hK19 ?_
            refine C_region ?_
            refine R_pu (pu_add (z := ((i + 1 : Nat) : Int)) rfl rfl (by rw [IntKind.wrap_i64]; omega)) rfl ?_
            refine R_pu (pu_move rfl) rfl ?_
            refine R_nil ?_
            have f36 : Bk w15 p0_0 ([.int .i64 ((q + 1 : Nat) : Int), .int .i64 ((nn : Nat) : Int), .int .u32 ((ge : Nat) : Int)]) 28 := ((f33.no k14).on k15 (Ne.symm ne_d_p0_0))
            have f37 : Bk w15 sn (bL (fun v => decide (v = s2.ix) || seen0 (ixs M) i v)) 161 := ((f_sn_13.no k14).on k15 (Ne.symm ne_d_sn))
            refine X_round (M.length - (i + 1)) [(0, .slice A (M.length) (c)), (8, .pointer (some ⟨sn, 0, none⟩)), (9, .slice (some ⟨d, 0, none⟩) (((ixs M).take (i + 1)).length) (M.length)), (29, .slice A (M.length) (c)), (30, .int .i64 ((M.length : Nat) : Int)), (31, .int .i64 (((i + 1) : Nat) : Int))] (by omega) (Sub.cons rfl (Sub.cons rfl (Sub.consE rfl (by rw [take_snoc (ixs_get e_s2)]) (Sub.cons rfl (Sub.cons rfl (Sub.cons rfl (Sub.nil _))))))) ⟨i + 1, rfl, rfl, by omega, (hSk.step e_s2 e_s0 (seen0_false (by rw [ixs_length]; omega) g12_4).1 (by omega) (by omega) (seen0_false (by rw [ixs_length]; omega) g12_4).2), kk15, f36, Bk.eq f37 (seen0_step (ixs_get e_s2)), ⟨by rw [← take_snoc (ixs_get e_s2)]; exact q15, (Nat.le_trans (Nat.le_trans (Nat.le_trans (Nat.le_trans (Nat.le_trans (Nat.le_trans (Nat.le_trans xs_8.2 k9.size) k10.size) k11.size) k12.size) k13.size) k14.size) k15.size)⟩⟩
    · refine C_exit ?_
      refine X_then_exit (X_then_exit (X_in_eq ?_))
      refine X_then hK13 ?_
      refine C_seq (fun K38 hK38 => ?_)
      exact absurd (hSk.ok (by omega)) hns
set_option maxRecDepth 100000 in
set_option maxHeartbeats 2000000 in
theorem shamir_through_gen (b : Nat) (A : Option Addr) (L : List Shr) (c q nn ge : Nat) (x : Nat) (w : World) (HS : Ss w A L) (hm : (2 ≤ q + 1 ∧ q + 1 ≤ nn ∧ nn ≤ 255) ∧ (q + 1 ≤ L.length ∧ L.length ≤ c ∧ L.length < 9223372036854775808) ∧ ge < 4294967296 ∧ ¬ (∀ s ∈ L.take (q + 1), s.gen = ge)) : Ret Tryd.prog 47 #[.pointer (some ⟨b, 0, none⟩), .slice A (L.length) (c), .agg ([.int .i64 ((q + 1 : Nat) : Int), .int .i64 ((nn : Nat) : Int), .int .u32 ((ge : Nat) : Int)] : List Value).toArray, .int .u8 ((x : Nat) : Int)] w (fun v w' => v = .tuple #[.slice none 0 0, errE 14] ∧ Kp No w w') := by
  obtain ⟨hP, ⟨hl1, hl2, hl3⟩, hge, hx1⟩ := hm
  have kk0 := Kp.refl No w
  refine enter (n := 92) [.pointer (some ⟨b, 0, none⟩), .slice A (L.length) (c), .agg ([.int .i64 ((q + 1 : Nat) : Int), .int .i64 ((nn : Nat) : Int), .int .u32 ((ge : Nat) : Int)] : List Value).toArray, .int .u8 ((x : Nat) : Int)] Tryd.func47 rfl rfl rfl ?_
  show Cw _ _ _ _ [(0, .pointer (some ⟨b, 0, none⟩)), (1, .slice A (L.length) (c)), (2, .agg ([.int .i64 ((q + 1 : Nat) : Int), .int .i64 ((nn : Nat) : Int), .int .u32 ((ge : Nat) : Int)] : List Value).toArray), (3, .int .u8 ((x : Nat) : Int))] _
  refine C_seq (fun K1 hK1 => ?_)
  refine C_region ?_
  refine R_lo (lo_box (L := [.int .i64 ((q + 1 : Nat) : Int), .int .i64 ((nn : Nat) : Int), .int .u32 ((ge : Nat) : Int)]) rfl rfl) rfl ?_
  rintro _ w1 ⟨p0_0, rfl, N1⟩
  have k1 := N1.kp
  have kk1 := kk0.then_ k1
  have f_p0_0_1 : Bk w1 p0_0 ([.int .i64 ((q + 1 : Nat) : Int), .int .i64 ((nn : Nat) : Int), .int .u32 ((ge : Nat) : Int)]) 28 := N1.bk
  refine R_pu (pu_assign rfl) rfl ?_
  refine R_pu (pu_assign rfl) rfl ?_
  refine R_nil ?_
  refine X_then hK1 ?_
  refine C_seq (fun K2 hK2 => ?_)
  refine C_block ?_
  refine C_seq (fun K3 hK3 => ?_)
  refine C_region ?_
  refine R_pu (pu_move rfl) rfl ?_
  refine R_pu (pu_eqlpn (by kernel_rfl) rfl rfl) rfl ?_
  refine R_pu (pu_move rfl) rfl ?_
  refine R_gpu rfl rfl (pu_loadRow (len := 3) f_p0_0_1 (by kernel_rfl) (by kernel_rfl) rfl rfl) rfl ?_
  refine R_glo rfl rfl (lo_call (by kernel_rfl) rfl (shamir_check_yes q nn ge _ hP)) rfl ?_
  rintro _ w2 ⟨rfl, k2⟩
  have kk2 := kk1.then_ k2
  refine R_gpu rfl rfl (pu_neqnn (by kernel_rfl) rfl) rfl ?_
  refine R_pu (pu_pickf rfl rfl) rfl ?_
  refine R_pu (pu_assign rfl) rfl ?_
  refine R_nil ?_
  refine X_then hK3 ?_
  refine C_false rfl ?_
  refine C_seq (fun K4 hK4 => ?_)
  refine C_region ?_
  refine R_pu (pu_move rfl) rfl ?_
  refine R_pu (pu_len Tryd.underlying29 rfl) rfl ?_
  refine R_pu (pu_fieldAddr (off := 0) (o' := 0) (by kernel_rfl) rfl rfl) rfl ?_
  have f5 : Bk w2 p0_0 ([.int .i64 ((q + 1 : Nat) : Int), .int .i64 ((nn : Nat) : Int), .int .u32 ((ge : Nat) : Int)]) 28 := (f_p0_0_1.no k2)
  refine R_pu (pu_loadK f5 (by kernel_rfl) rfl rfl) rfl ?_
  refine R_pu (pu_false (pu_lss (p := L.length < (q + 1)) rfl rfl (by omega)) (by omega)) rfl ?_
  refine R_pu (pu_assign rfl) rfl ?_
  refine R_nil ?_
  refine X_then hK4 ?_
  refine C_false rfl ?_
  refine C_skip ?_
  refine X_in_normal ?_
  refine X_then hK2 ?_
  refine C_seq (fun K6 hK6 => ?_)
  refine C_region ?_
  refine R_pu (pu_move rfl) rfl ?_
  refine R_pu (pu_fieldAddr (off := 0) (o' := 0) (by kernel_rfl) rfl rfl) rfl ?_
  refine R_pu (pu_loadK f5 (by kernel_rfl) rfl rfl) rfl ?_
  have HSt7 := HS.take (q + 1)
  have ln_HSt7 : (L.take (q + 1)).length = q + 1 := by rw [List.length_take]; omega
  refine R_pu (pu_sliceHi (hi := q + 1) (s := 3) Tryd.underlying29 (by kernel_rfl) rfl rfl rfl (by omega)) rfl ?_
  refine R_pu (pu_assign rfl) rfl ?_
  refine R_nil ?_
  refine X_then hK6 ?_
  refine C_seq (fun K8 hK8 => ?_)
  obtain ⟨M, hM⟩ : ∃ M, M = L.take (q + 1) := ⟨_, rfl⟩
  have hML : M.length = q + 1 := by rw [hM, List.length_take]; omega
  have HSM : Ss w A M := by rw [hM]; exact HS.take _
  rw [← hM] at hx1
  refine C_region ?_
  refine R_pu (pu_move rfl) rfl ?_
  refine R_pu (pu_loadRow (len := 3) f5 (by kernel_rfl) (by kernel_rfl) rfl rfl) rfl ?_
  refine R_lo (lo_callE (by kernel_rfl) rfl (by rw [hML] <;> rfl) (shamir_places_gen A M c q nn ge _ (HSM.keptNo kk2) ⟨⟨by omega, by omega, by omega⟩, hge, hx1⟩)) rfl ?_
  rintro _ w3 ⟨rfl, k3⟩
  have kk3 := kk2.then_ k3
  refine R_pu (pu_move rfl) rfl ?_
  refine R_pu (pu_extract rfl rfl) rfl ?_
  refine R_pu (pu_extract rfl rfl) rfl ?_
  refine R_pu (pu_assign rfl) rfl ?_
  refine R_pu (pu_assign rfl) rfl ?_
  refine R_nil ?_
  refine X_then hK8 ?_
  refine C_seq (fun K9 hK9 => ?_)
  refine C_seq (fun K10 hK10 => ?_)
  refine C_region ?_
  refine R_pu (pu_move rfl) rfl ?_
  refine R_pu (pu_neqin (by kernel_rfl) rfl rfl) rfl ?_
  refine R_nil ?_
  refine X_then hK10 ?_
  refine C_true rfl ?_
  refine C_seq (fun K11 hK11 => ?_)
  refine C_region ?_
  refine R_pu (pu_move rfl) rfl ?_
  refine R_pu (pu_assign rfl) rfl ?_
  refine R_pu (pu_assign rfl) rfl ?_
  refine R_nil ?_
  refine X_then hK11 ?_
  refine C_ret ?_
  refine X_then_ret ?_
  exact X_ret2 (.inl rfl) rfl rfl rfl ⟨rfl, kk3⟩
set_option maxRecDepth 100000 in
set_option maxHeartbeats 2000000 in
theorem shamir_combine_gen (b : Nat) (A : Option Addr) (L : List Shr) (c q nn ge : Nat) (w : World) (HS : Ss w A L) (hm : (2 ≤ q + 1 ∧ q + 1 ≤ nn ∧ nn ≤ 255) ∧ (q + 1 ≤ L.length ∧ L.length ≤ c ∧ L.length < 9223372036854775808) ∧ ge < 4294967296 ∧ ¬ (∀ s ∈ L.take (q + 1), s.gen = ge)) : Ret Tryd.prog 24 #[.pointer (some ⟨b, 0, none⟩), .slice A (L.length) (c), .agg ([.int .i64 ((q + 1 : Nat) : Int), .int .i64 ((nn : Nat) : Int), .int .u32 ((ge : Nat) : Int)] : List Value).toArray] w (fun v w' => v = .tuple #[.slice none 0 0, errE 14] ∧ Kp No w w') := by
  have kk0 := Kp.refl No w
  refine enter (n := 14) [.pointer (some ⟨b, 0, none⟩), .slice A (L.length) (c), .agg ([.int .i64 ((q + 1 : Nat) : Int), .int .i64 ((nn : Nat) : Int), .int .u32 ((ge : Nat) : Int)] : List Value).toArray] Tryd.func24 rfl rfl rfl ?_
  show Cw _ _ _ _ [(0, .pointer (some ⟨b, 0, none⟩)), (1, .slice A (L.length) (c)), (2, .agg ([.int .i64 ((q + 1 : Nat) : Int), .int .i64 ((nn : Nat) : Int), .int .u32 ((ge : Nat) : Int)] : List Value).toArray)] _
  refine C_seq (fun K1 hK1 => ?_)
  refine C_region ?_
  refine R_lo (lo_box (L := [.int .i64 ((q + 1 : Nat) : Int), .int .i64 ((nn : Nat) : Int), .int .u32 ((ge : Nat) : Int)]) rfl rfl) rfl ?_
  rintro _ w1 ⟨p0_0, rfl, N1⟩
  have k1 := N1.kp
  have kk1 := kk0.then_ k1
  have f_p0_0_1 : Bk w1 p0_0 ([.int .i64 ((q + 1 : Nat) : Int), .int .i64 ((nn : Nat) : Int), .int .u32 ((ge : Nat) : Int)]) 28 := N1.bk
  refine R_pu (pu_assign rfl) rfl ?_
  refine R_pu (pu_assign rfl) rfl ?_
  refine R_nil ?_
  refine X_then hK1 ?_
  refine C_seq (fun K2 hK2 => ?_)
  refine C_region ?_
  refine R_pu (pu_move rfl) rfl ?_
  refine R_pu (pu_move rfl) rfl ?_
  refine R_pu (pu_loadRow (len := 3) f_p0_0_1 (by kernel_rfl) (by kernel_rfl) rfl rfl) rfl ?_
  refine R_lo (lo_call (by kernel_rfl) rfl (shamir_through_gen b A L c q nn ge 0 _ (HS.keptNo kk1) hm)) rfl ?_
  rintro _ w2 ⟨rfl, k2⟩
  have kk2 := kk1.then_ k2
  refine R_pu (pu_extract rfl rfl) rfl ?_
  refine R_pu (pu_extract rfl rfl) rfl ?_
  refine R_pu (pu_assign rfl) rfl ?_
  refine R_pu (pu_assign rfl) rfl ?_
  refine R_nil ?_
  refine X_then hK2 ?_
  refine C_ret ?_
  exact X_ret2 (.inl rfl) rfl rfl rfl ⟨rfl, kk2⟩
set_option maxRecDepth 100000 in
set_option maxHeartbeats 2000000 in
theorem shamir_through_share (b : Nat) (A : Option Addr) (L : List Shr) (c q nn ge : Nat) (x : Nat) (w : World) (HS : Ss w A L) (hm : (2 ≤ q + 1 ∧ q + 1 ≤ nn ∧ nn ≤ 255) ∧ (q + 1 ≤ L.length ∧ L.length ≤ c ∧ L.length < 9223372036854775808) ∧ ge < 4294967296 ∧ (∀ s ∈ L.take (q + 1), s.gen = ge) ∧ ¬ ShOk (L.take (q + 1))) : Ret Tryd.prog 47 #[.pointer (some ⟨b, 0, none⟩), .slice A (L.length) (c), .agg ([.int .i64 ((q + 1 : Nat) : Int), .int .i64 ((nn : Nat) : Int), .int .u32 ((ge : Nat) : Int)] : List Value).toArray, .int .u8 ((x : Nat) : Int)] w (fun v w' => v = .tuple #[.slice none 0 0, errE 12] ∧ Kp No w w') := by
  obtain ⟨hP, ⟨hl1, hl2, hl3⟩, hge, hx1, hx2⟩ := hm
  have kk0 := Kp.refl No w
  refine enter (n := 92) [.pointer (some ⟨b, 0, none⟩), .slice A (L.length) (c), .agg ([.int .i64 ((q + 1 : Nat) : Int), .int .i64 ((nn : Nat) : Int), .int .u32 ((ge : Nat) : Int)] : List Value).toArray, .int .u8 ((x : Nat) : Int)] Tryd.func47 rfl rfl rfl ?_
  show Cw _ _ _ _ [(0, .pointer (some ⟨b, 0, none⟩)), (1, .slice A (L.length) (c)), (2, .agg ([.int .i64 ((q + 1 : Nat) : Int), .int .i64 ((nn : Nat) : Int), .int .u32 ((ge : Nat) : Int)] : List Value).toArray), (3, .int .u8 ((x : Nat) : Int))] _
  refine C_seq (fun K1 hK1 => ?_)
  refine C_region ?_
  refine R_lo (lo_box (L := [.int .i64 ((q + 1 : Nat) : Int), .int .i64 ((nn : Nat) : Int), .int .u32 ((ge : Nat) : Int)]) rfl rfl) rfl ?_
  rintro _ w1 ⟨p0_0, rfl, N1⟩
  have k1 := N1.kp
  have kk1 := kk0.then_ k1
  have f_p0_0_1 : Bk w1 p0_0 ([.int .i64 ((q + 1 : Nat) : Int), .int .i64 ((nn : Nat) : Int), .int .u32 ((ge : Nat) : Int)]) 28 := N1.bk
  refine R_pu (pu_assign rfl) rfl ?_
  refine R_pu (pu_assign rfl) rfl ?_
  refine R_nil ?_
  refine X_then hK1 ?_
  refine C_seq (fun K2 hK2 => ?_)
  refine C_block ?_
  refine C_seq (fun K3 hK3 => ?_)
  refine C_region ?_
  refine R_pu (pu_move rfl) rfl ?_
  refine R_pu (pu_eqlpn (by kernel_rfl) rfl rfl) rfl ?_
  refine R_pu (pu_move rfl) rfl ?_
  refine R_gpu rfl rfl (pu_loadRow (len := 3) f_p0_0_1 (by kernel_rfl) (by kernel_rfl) rfl rfl) rfl ?_
  refine R_glo rfl rfl (lo_call (by kernel_rfl) rfl (shamir_check_yes q nn ge _ hP)) rfl ?_
  rintro _ w2 ⟨rfl, k2⟩
  have kk2 := kk1.then_ k2
  refine R_gpu rfl rfl (pu_neqnn (by kernel_rfl) rfl) rfl ?_
  refine R_pu (pu_pickf rfl rfl) rfl ?_
  refine R_pu (pu_assign rfl) rfl ?_
  refine R_nil ?_
  refine X_then hK3 ?_
  refine C_false rfl ?_
  refine C_seq (fun K4 hK4 => ?_)
  refine C_region ?_
  refine R_pu (pu_move rfl) rfl ?_
  refine R_pu (pu_len Tryd.underlying29 rfl) rfl ?_
  refine R_pu (pu_fieldAddr (off := 0) (o' := 0) (by kernel_rfl) rfl rfl) rfl ?_
  have f5 : Bk w2 p0_0 ([.int .i64 ((q + 1 : Nat) : Int), .int .i64 ((nn : Nat) : Int), .int .u32 ((ge : Nat) : Int)]) 28 := (f_p0_0_1.no k2)
  refine R_pu (pu_loadK f5 (by kernel_rfl) rfl rfl) rfl ?_
  refine R_pu (pu_false (pu_lss (p := L.length < (q + 1)) rfl rfl (by omega)) (by omega)) rfl ?_
  refine R_pu (pu_assign rfl) rfl ?_
  refine R_nil ?_
  refine X_then hK4 ?_
  refine C_false rfl ?_
  refine C_skip ?_
  refine X_in_normal ?_
  refine X_then hK2 ?_
  refine C_seq (fun K6 hK6 => ?_)
  refine C_region ?_
  refine R_pu (pu_move rfl) rfl ?_
  refine R_pu (pu_fieldAddr (off := 0) (o' := 0) (by kernel_rfl) rfl rfl) rfl ?_
  refine R_pu (pu_loadK f5 (by kernel_rfl) rfl rfl) rfl ?_
  have HSt7 := HS.take (q + 1)
  have ln_HSt7 : (L.take (q + 1)).length = q + 1 := by rw [List.length_take]; omega
  refine R_pu (pu_sliceHi (hi := q + 1) (s := 3) Tryd.underlying29 (by kernel_rfl) rfl rfl rfl (by omega)) rfl ?_
  refine R_pu (pu_assign rfl) rfl ?_
  refine R_nil ?_
  refine X_then hK6 ?_
  refine C_seq (fun K8 hK8 => ?_)
  obtain ⟨M, hM⟩ : ∃ M, M = L.take (q + 1) := ⟨_, rfl⟩
  have hML : M.length = q + 1 := by rw [hM, List.length_take]; omega
  have HSM : Ss w A M := by rw [hM]; exact HS.take _
  rw [← hM] at hx1 hx2
  refine C_region ?_
  refine R_pu (pu_move rfl) rfl ?_
  refine R_pu (pu_loadRow (len := 3) f5 (by kernel_rfl) (by kernel_rfl) rfl rfl) rfl ?_
  refine R_lo (lo_callE (by kernel_rfl) rfl (by rw [hML] <;> rfl) (shamir_places_share A M c q nn ge _ (HSM.keptNo kk2) ⟨⟨by omega, by omega, by omega⟩, hge, hx1, hx2⟩)) rfl ?_
  rintro _ w3 ⟨rfl, k3⟩
  have kk3 := kk2.then_ k3
  refine R_pu (pu_move rfl) rfl ?_
  refine R_pu (pu_extract rfl rfl) rfl ?_
  refine R_pu (pu_extract rfl rfl) rfl ?_
  refine R_pu (pu_assign rfl) rfl ?_
  refine R_pu (pu_assign rfl) rfl ?_
  refine R_nil ?_
  refine X_then hK8 ?_
  refine C_seq (fun K9 hK9 => ?_)
  refine C_seq (fun K10 hK10 => ?_)
  refine C_region ?_
  refine R_pu (pu_move rfl) rfl ?_
  refine R_pu (pu_neqin (by kernel_rfl) rfl rfl) rfl ?_
  refine R_nil ?_
  refine X_then hK10 ?_
  refine C_true rfl ?_
  refine C_seq (fun K11 hK11 => ?_)
  refine C_region ?_
  refine R_pu (pu_move rfl) rfl ?_
  refine R_pu (pu_assign rfl) rfl ?_
  refine R_pu (pu_assign rfl) rfl ?_
  refine R_nil ?_
  refine X_then hK11 ?_
  refine C_ret ?_
  refine X_then_ret ?_
  exact X_ret2 (.inl rfl) rfl rfl rfl ⟨rfl, kk3⟩
set_option maxRecDepth 100000 in
set_option maxHeartbeats 2000000 in
theorem shamir_combine_share (b : Nat) (A : Option Addr) (L : List Shr) (c q nn ge : Nat) (w : World) (HS : Ss w A L) (hm : (2 ≤ q + 1 ∧ q + 1 ≤ nn ∧ nn ≤ 255) ∧ (q + 1 ≤ L.length ∧ L.length ≤ c ∧ L.length < 9223372036854775808) ∧ ge < 4294967296 ∧ (∀ s ∈ L.take (q + 1), s.gen = ge) ∧ ¬ ShOk (L.take (q + 1))) : Ret Tryd.prog 24 #[.pointer (some ⟨b, 0, none⟩), .slice A (L.length) (c), .agg ([.int .i64 ((q + 1 : Nat) : Int), .int .i64 ((nn : Nat) : Int), .int .u32 ((ge : Nat) : Int)] : List Value).toArray] w (fun v w' => v = .tuple #[.slice none 0 0, errE 12] ∧ Kp No w w') := by
  have kk0 := Kp.refl No w
  refine enter (n := 14) [.pointer (some ⟨b, 0, none⟩), .slice A (L.length) (c), .agg ([.int .i64 ((q + 1 : Nat) : Int), .int .i64 ((nn : Nat) : Int), .int .u32 ((ge : Nat) : Int)] : List Value).toArray] Tryd.func24 rfl rfl rfl ?_
  show Cw _ _ _ _ [(0, .pointer (some ⟨b, 0, none⟩)), (1, .slice A (L.length) (c)), (2, .agg ([.int .i64 ((q + 1 : Nat) : Int), .int .i64 ((nn : Nat) : Int), .int .u32 ((ge : Nat) : Int)] : List Value).toArray)] _
  refine C_seq (fun K1 hK1 => ?_)
  refine C_region ?_
  refine R_lo (lo_box (L := [.int .i64 ((q + 1 : Nat) : Int), .int .i64 ((nn : Nat) : Int), .int .u32 ((ge : Nat) : Int)]) rfl rfl) rfl ?_
  rintro _ w1 ⟨p0_0, rfl, N1⟩
  have k1 := N1.kp
  have kk1 := kk0.then_ k1
  have f_p0_0_1 : Bk w1 p0_0 ([.int .i64 ((q + 1 : Nat) : Int), .int .i64 ((nn : Nat) : Int), .int .u32 ((ge : Nat) : Int)]) 28 := N1.bk
  refine R_pu (pu_assign rfl) rfl ?_
  refine R_pu (pu_assign rfl) rfl ?_
  refine R_nil ?_
  refine X_then hK1 ?_
  refine C_seq (fun K2 hK2 => ?_)
  refine C_region ?_
  refine R_pu (pu_move rfl) rfl ?_
  refine R_pu (pu_move rfl) rfl ?_
  refine R_pu (pu_loadRow (len := 3) f_p0_0_1 (by kernel_rfl) (by kernel_rfl) rfl rfl) rfl ?_
  refine R_lo (lo_call (by kernel_rfl) rfl (shamir_through_share b A L c q nn ge 0 _ (HS.keptNo kk1) hm)) rfl ?_
  rintro _ w2 ⟨rfl, k2⟩
  have kk2 := kk1.then_ k2
  refine R_pu (pu_extract rfl rfl) rfl ?_
  refine R_pu (pu_extract rfl rfl) rfl ?_
  refine R_pu (pu_assign rfl) rfl ?_
  refine R_pu (pu_assign rfl) rfl ?_
  refine R_nil ?_
  refine X_then hK2 ?_
  refine C_ret ?_
  exact X_ret2 (.inl rfl) rfl rfl rfl ⟨rfl, kk2⟩
set_option maxRecDepth 100000 in
set_option maxHeartbeats 2000000 in
theorem shamir_at_idx (b : Nat) (A : Option Addr) (L : List Shr) (c : Nat) (ka nn : Int) (ge : Nat) (x : Nat) (w : World) (HS : Ss w A L) (hx : x < 256 ∧ (x = 0 ∨ nn < (x : Int))) : Ret Tryd.prog 27 #[.pointer (some ⟨b, 0, none⟩), .slice A (L.length) (c), .agg ([.int .i64 (ka), .int .i64 (nn), .int .u32 ((ge : Nat) : Int)] : List Value).toArray, .int .u8 ((x : Nat) : Int)] w (fun v w' => v = .tuple #[.agg (shC ⟨0, 0, none, [], 0⟩).toArray, errE 1] ∧ Kp No w w') := by
  have hxb := hx.1
  have kk0 := Kp.refl No w
  refine enter (n := 40) [.pointer (some ⟨b, 0, none⟩), .slice A (L.length) (c), .agg ([.int .i64 (ka), .int .i64 (nn), .int .u32 ((ge : Nat) : Int)] : List Value).toArray, .int .u8 ((x : Nat) : Int)] Tryd.func27 rfl rfl rfl ?_
  show Cw _ _ _ _ [(0, .pointer (some ⟨b, 0, none⟩)), (1, .slice A (L.length) (c)), (2, .agg ([.int .i64 (ka), .int .i64 (nn), .int .u32 ((ge : Nat) : Int)] : List Value).toArray), (3, .int .u8 ((x : Nat) : Int))] _
  refine C_seq (fun K1 hK1 => ?_)
  refine C_region ?_
  refine R_lo (lo_box (L := [.int .i64 (ka), .int .i64 (nn), .int .u32 ((ge : Nat) : Int)]) rfl rfl) rfl ?_
  rintro _ w1 ⟨p0_0, rfl, N1⟩
  have k1 := N1.kp
  have kk1 := kk0.then_ k1
  have f_p0_0_1 : Bk w1 p0_0 ([.int .i64 (ka), .int .i64 (nn), .int .u32 ((ge : Nat) : Int)]) 28 := N1.bk
  refine R_lo (lo_alloc (L := [.int .u8 0, .int .u32 0, .slice none (0) (0)]) (by kernel_rfl)) rfl ?_
  rintro _ w2 ⟨rs, rfl, N2⟩
  have k2 := N2.kp
  have kk2 := kk1.then_ k2
  have ne_rs_p0_0 : rs ≠ p0_0 := Nat.ne_of_gt (Nat.lt_of_lt_of_le f_p0_0_1.lt N2.le)
  have f_rs_2 : Bk w2 rs ([.int .u8 0, .int .u32 0, .slice none (0) (0)]) 50 := N2.bk
  refine R_pu (pu_assign rfl) rfl ?_
  refine R_nil ?_
  refine X_then hK1 ?_
  refine C_seq (fun K2 hK2 => ?_)
  refine C_seq (fun K3 hK3 => ?_)
  refine C_region ?_
  refine R_pu (pu_move rfl) rfl ?_
  refine R_pu (pu_eql (p := x = 0) rfl rfl (by omega)) rfl ?_
  by_cases g1_2 : x = 0
  · refine R_pu (pu_true (pu_move rfl) g1_2) rfl ?_
    refine R_gno rfl rfl rfl rfl ?_
    refine R_gno rfl rfl rfl rfl ?_
    refine R_gno rfl rfl rfl rfl ?_
    refine R_gno rfl rfl rfl rfl ?_
    refine R_gno rfl rfl rfl rfl ?_
    refine R_pu (pu_pickt rfl rfl) rfl ?_
    refine R_nil ?_
    refine X_then hK3 ?_
    refine C_true rfl ?_
    refine C_seq (fun K4 hK4 => ?_)
    refine C_region ?_
    refine R_pu (pu_build (L := [.int .u8 0, .int .u32 0, .slice none (0) (0)]) rfl (by kernel_rfl)) rfl ?_
    refine R_pu (pu_makeInterface Tryd.underlying91 rfl rfl) rfl ?_
    refine R_lo0 (lo_storeRow (C := [.int .u8 0, .int .u32 0, .slice none (0) (0)]) f_rs_2 (by kernel_rfl) rfl rfl (by intro u hu; simp at hu; rcases hu with rfl | rfl | rfl <;> rfl) rfl) ?_
    rintro _ w3 kf3
    obtain ⟨k3, f_rs_3⟩ := kf3
    replace f_rs_3 : Bk w3 rs ([.int .u8 0, .int .u32 0, .slice none (0) (0)]) 50 := f_rs_3
    have kk3 := kk2.trans k3 (fun i hi => .inr (hi ▸ (Nat.le_trans kk1.size N2.le)))
    refine R_pu (pu_assign rfl) rfl ?_
    refine R_nil ?_
    refine X_then hK4 ?_
    refine C_ret ?_
    refine X_then_ret ?_
    exact X_retCT (len := 3) (.inl rfl) rfl rfl f_rs_3 (by kernel_rfl) (by kernel_rfl) rfl rfl ⟨rfl, kk3⟩
  · refine R_pu (pu_false (pu_move rfl) g1_2) rfl ?_
    refine R_gpu rfl rfl (pu_move rfl) rfl ?_
    refine R_gpu rfl rfl (pu_conv (z := ((x : Nat) : Int)) Tryd.underlying5 Tryd.underlying3 rfl (by have : x < 256 := hx.1; rw [IntKind.wrap_i64]; omega)) rfl ?_
    refine R_gpu rfl rfl (pu_fieldAddr (off := 1) (o' := 1) (by kernel_rfl) rfl rfl) rfl ?_
    have f5 : Bk w2 p0_0 ([.int .i64 (ka), .int .i64 (nn), .int .u32 ((ge : Nat) : Int)]) 28 := (f_p0_0_1.no k2)
    refine R_gpu rfl rfl (pu_loadK f5 (by kernel_rfl) rfl rfl) rfl ?_
    refine R_gpu rfl rfl (pu_true (pu_gtr (p := ((x : Nat) : Int) > nn) rfl rfl (by omega)) (by omega)) rfl ?_
    refine R_pu (pu_pickf rfl rfl) rfl ?_
    refine R_nil ?_
    refine X_then hK3 ?_
    refine C_true rfl ?_
    refine C_seq (fun K6 hK6 => ?_)
    refine C_region ?_
    refine R_pu (pu_build (L := [.int .u8 0, .int .u32 0, .slice none (0) (0)]) rfl (by kernel_rfl)) rfl ?_
    refine R_pu (pu_makeInterface Tryd.underlying91 rfl rfl) rfl ?_
    refine R_lo0 (lo_storeRow (C := [.int .u8 0, .int .u32 0, .slice none (0) (0)]) f_rs_2 (by kernel_rfl) rfl rfl (by intro u hu; simp at hu; rcases hu with rfl | rfl | rfl <;> rfl) rfl) ?_
    rintro _ w4 kf4
    obtain ⟨k4, f_rs_4⟩ := kf4
    replace f_rs_4 : Bk w4 rs ([.int .u8 0, .int .u32 0, .slice none (0) (0)]) 50 := f_rs_4
    have kk4 := kk2.trans k4 (fun i hi => .inr (hi ▸ (Nat.le_trans kk1.size N2.le)))
    refine R_pu (pu_assign rfl) rfl ?_
    refine R_nil ?_
    refine X_then hK6 ?_
    refine C_ret ?_
    refine X_then_ret ?_
    exact X_retCT (len := 3) (.inl rfl) rfl rfl f_rs_4 (by kernel_rfl) (by kernel_rfl) rfl rfl ⟨rfl, kk4⟩
set_option maxRecDepth 100000 in
set_option maxHeartbeats 2000000 in
theorem shamir_at_plan (b : Nat) (A : Option Addr) (L : List Shr) (c : Nat) (ka nn : Int) (ge : Nat) (x : Nat) (w : World) (HS : Ss w A L) (hm : ((¬ (2 ≤ ka ∧ ka ≤ nn ∧ nn ≤ 255)) ∧ ge < 4294967296 ∧ L.length < 9223372036854775808) ∧ x < 256 ∧ x ≠ 0 ∧ (x : Int) ≤ nn) : Ret Tryd.prog 27 #[.pointer (some ⟨b, 0, none⟩), .slice A (L.length) (c), .agg ([.int .i64 (ka), .int .i64 (nn), .int .u32 ((ge : Nat) : Int)] : List Value).toArray, .int .u8 ((x : Nat) : Int)] w (fun v w' => v = .tuple #[.agg (shC ⟨0, 0, none, [], 0⟩).toArray, errE 1] ∧ Kp No w w') := by
  have kk0 := Kp.refl No w
  refine enter (n := 40) [.pointer (some ⟨b, 0, none⟩), .slice A (L.length) (c), .agg ([.int .i64 (ka), .int .i64 (nn), .int .u32 ((ge : Nat) : Int)] : List Value).toArray, .int .u8 ((x : Nat) : Int)] Tryd.func27 rfl rfl rfl ?_
  show Cw _ _ _ _ [(0, .pointer (some ⟨b, 0, none⟩)), (1, .slice A (L.length) (c)), (2, .agg ([.int .i64 (ka), .int .i64 (nn), .int .u32 ((ge : Nat) : Int)] : List Value).toArray), (3, .int .u8 ((x : Nat) : Int))] _
  refine C_seq (fun K1 hK1 => ?_)
  refine C_region ?_
  refine R_lo (lo_box (L := [.int .i64 (ka), .int .i64 (nn), .int .u32 ((ge : Nat) : Int)]) rfl rfl) rfl ?_
  rintro _ w1 ⟨p0_0, rfl, N1⟩
  have k1 := N1.kp
  have kk1 := kk0.then_ k1
  have f_p0_0_1 : Bk w1 p0_0 ([.int .i64 (ka), .int .i64 (nn), .int .u32 ((ge : Nat) : Int)]) 28 := N1.bk
  refine R_lo (lo_alloc (L := [.int .u8 0, .int .u32 0, .slice none (0) (0)]) (by kernel_rfl)) rfl ?_
  rintro _ w2 ⟨rs, rfl, N2⟩
  have k2 := N2.kp
  have kk2 := kk1.then_ k2
  have ne_rs_p0_0 : rs ≠ p0_0 := Nat.ne_of_gt (Nat.lt_of_lt_of_le f_p0_0_1.lt N2.le)
  have f_rs_2 : Bk w2 rs ([.int .u8 0, .int .u32 0, .slice none (0) (0)]) 50 := N2.bk
  refine R_pu (pu_assign rfl) rfl ?_
  refine R_nil ?_
  refine X_then hK1 ?_
  refine C_seq (fun K2 hK2 => ?_)
  refine C_seq (fun K3 hK3 => ?_)
  refine C_region ?_
  refine R_pu (pu_move rfl) rfl ?_
  refine R_pu (pu_false (pu_eql (p := x = 0) rfl rfl (by omega)) hm.2.2.1) rfl ?_
  refine R_pu (pu_move rfl) rfl ?_
  refine R_gpu rfl rfl (pu_move rfl) rfl ?_
  refine R_gpu rfl rfl (pu_conv (z := ((x : Nat) : Int)) Tryd.underlying5 Tryd.underlying3 rfl (by have : x < 256 := hm.2.1; rw [IntKind.wrap_i64]; omega)) rfl ?_
  refine R_gpu rfl rfl (pu_fieldAddr (off := 1) (o' := 1) (by kernel_rfl) rfl rfl) rfl ?_
  have f4 : Bk w2 p0_0 ([.int .i64 (ka), .int .i64 (nn), .int .u32 ((ge : Nat) : Int)]) 28 := (f_p0_0_1.no k2)
  refine R_gpu rfl rfl (pu_loadK f4 (by kernel_rfl) rfl rfl) rfl ?_
  refine R_gpu rfl rfl (pu_false (pu_gtr (p := ((x : Nat) : Int) > nn) rfl rfl (by omega)) (by omega)) rfl ?_
  refine R_pu (pu_pickf rfl rfl) rfl ?_
  refine R_nil ?_
  refine X_then hK3 ?_
  refine C_false rfl ?_
  refine C_skip ?_
  refine X_then hK2 ?_
  refine C_seq (fun K5 hK5 => ?_)
  refine C_region ?_
  refine R_pu (pu_move rfl) rfl ?_
  refine R_pu (pu_move rfl) rfl ?_
  refine R_pu (pu_loadRow (len := 3) f4 (by kernel_rfl) (by kernel_rfl) rfl rfl) rfl ?_
  refine R_pu (pu_move rfl) rfl ?_
  refine R_lo (lo_call (by kernel_rfl) rfl (shamir_through_plan b A L c ka nn ge x _ (HS.keptNo kk2) hm.1)) rfl ?_
  rintro _ w3 ⟨rfl, k3⟩
  have kk3 := kk2.then_ k3
  refine R_pu (pu_move rfl) rfl ?_
  refine R_pu (pu_extract rfl rfl) rfl ?_
  refine R_pu (pu_extract rfl rfl) rfl ?_
  refine R_pu (pu_assign rfl) rfl ?_
  refine R_pu (pu_assign rfl) rfl ?_
  refine R_nil ?_
  refine X_then hK5 ?_
  refine C_seq (fun K6 hK6 => ?_)
  refine C_seq (fun K7 hK7 => ?_)
  refine C_region ?_
  refine R_pu (pu_move rfl) rfl ?_
  refine R_pu (pu_neqin (by kernel_rfl) rfl rfl) rfl ?_
  refine R_nil ?_
  refine X_then hK7 ?_
  refine C_true rfl ?_
  refine C_seq (fun K8 hK8 => ?_)
  refine C_region ?_
  refine R_pu (pu_build (L := [.int .u8 0, .int .u32 0, .slice none (0) (0)]) rfl (by kernel_rfl)) rfl ?_
  refine R_pu (pu_move rfl) rfl ?_
  have f9 : Bk w3 rs ([.int .u8 0, .int .u32 0, .slice none (0) (0)]) 50 := (f_rs_2.no k3)
  refine R_lo0 (lo_storeRow (C := [.int .u8 0, .int .u32 0, .slice none (0) (0)]) f9 (by kernel_rfl) rfl rfl (by intro u hu; simp at hu; rcases hu with rfl | rfl | rfl <;> rfl) rfl) ?_
  rintro _ w4 kf4
  obtain ⟨k4, f_rs_4⟩ := kf4
  replace f_rs_4 : Bk w4 rs ([.int .u8 0, .int .u32 0, .slice none (0) (0)]) 50 := f_rs_4
  have kk4 := kk3.trans k4 (fun i hi => .inr (hi ▸ (Nat.le_trans kk1.size N2.le)))
  refine R_pu (pu_assign rfl) rfl ?_
  refine R_nil ?_
  refine X_then hK8 ?_
  refine C_ret ?_
  refine X_then_ret ?_
  exact X_retCT (len := 3) (.inl rfl) rfl rfl f_rs_4 (by kernel_rfl) (by kernel_rfl) rfl rfl ⟨rfl, kk4⟩
set_option maxRecDepth 100000 in
set_option maxHeartbeats 2000000 in
theorem shamir_at_short (b : Nat) (A : Option Addr) (L : List Shr) (c q nn ge : Nat) (x : Nat) (w : World) (HS : Ss w A L) (hm : ((2 ≤ q + 1 ∧ q + 1 ≤ nn ∧ nn ≤ 255) ∧ L.length < q + 1 ∧ ge < 4294967296 ∧ L.length < 9223372036854775808) ∧ x < 256 ∧ x ≠ 0 ∧ x ≤ nn) : Ret Tryd.prog 27 #[.pointer (some ⟨b, 0, none⟩), .slice A (L.length) (c), .agg ([.int .i64 ((q + 1 : Nat) : Int), .int .i64 ((nn : Nat) : Int), .int .u32 ((ge : Nat) : Int)] : List Value).toArray, .int .u8 ((x : Nat) : Int)] w (fun v w' => v = .tuple #[.agg (shC ⟨0, 0, none, [], 0⟩).toArray, errE 2] ∧ Kp No w w') := by
  have kk0 := Kp.refl No w
  refine enter (n := 40) [.pointer (some ⟨b, 0, none⟩), .slice A (L.length) (c), .agg ([.int .i64 ((q + 1 : Nat) : Int), .int .i64 ((nn : Nat) : Int), .int .u32 ((ge : Nat) : Int)] : List Value).toArray, .int .u8 ((x : Nat) : Int)] Tryd.func27 rfl rfl rfl ?_
  show Cw _ _ _ _ [(0, .pointer (some ⟨b, 0, none⟩)), (1, .slice A (L.length) (c)), (2, .agg ([.int .i64 ((q + 1 : Nat) : Int), .int .i64 ((nn : Nat) : Int), .int .u32 ((ge : Nat) : Int)] : List Value).toArray), (3, .int .u8 ((x : Nat) : Int))] _
  refine C_seq (fun K1 hK1 => ?_)
  refine C_region ?_
  refine R_lo (lo_box (L := [.int .i64 ((q + 1 : Nat) : Int), .int .i64 ((nn : Nat) : Int), .int .u32 ((ge : Nat) : Int)]) rfl rfl) rfl ?_
  rintro _ w1 ⟨p0_0, rfl, N1⟩
  have k1 := N1.kp
  have kk1 := kk0.then_ k1
  have f_p0_0_1 : Bk w1 p0_0 ([.int .i64 ((q + 1 : Nat) : Int), .int .i64 ((nn : Nat) : Int), .int .u32 ((ge : Nat) : Int)]) 28 := N1.bk
  refine R_lo (lo_alloc (L := [.int .u8 0, .int .u32 0, .slice none (0) (0)]) (by kernel_rfl)) rfl ?_
  rintro _ w2 ⟨rs, rfl, N2⟩
  have k2 := N2.kp
  have kk2 := kk1.then_ k2
  have ne_rs_p0_0 : rs ≠ p0_0 := Nat.ne_of_gt (Nat.lt_of_lt_of_le f_p0_0_1.lt N2.le)
  have f_rs_2 : Bk w2 rs ([.int .u8 0, .int .u32 0, .slice none (0) (0)]) 50 := N2.bk
  refine R_pu (pu_assign rfl) rfl ?_
  refine R_nil ?_
  refine X_then hK1 ?_
  refine C_seq (fun K2 hK2 => ?_)
  refine C_seq (fun K3 hK3 => ?_)
  refine C_region ?_
  refine R_pu (pu_move rfl) rfl ?_
  refine R_pu (pu_false (pu_eql (p := x = 0) rfl rfl (by omega)) hm.2.2.1) rfl ?_
  refine R_pu (pu_move rfl) rfl ?_
  refine R_gpu rfl rfl (pu_move rfl) rfl ?_
  refine R_gpu rfl rfl (pu_conv (z := ((x : Nat) : Int)) Tryd.underlying5 Tryd.underlying3 rfl (by have : x < 256 := hm.2.1; rw [IntKind.wrap_i64]; omega)) rfl ?_
  refine R_gpu rfl rfl (pu_fieldAddr (off := 1) (o' := 1) (by kernel_rfl) rfl rfl) rfl ?_
  have f4 : Bk w2 p0_0 ([.int .i64 ((q + 1 : Nat) : Int), .int .i64 ((nn : Nat) : Int), .int .u32 ((ge : Nat) : Int)]) 28 := (f_p0_0_1.no k2)
  refine R_gpu rfl rfl (pu_loadK f4 (by kernel_rfl) rfl rfl) rfl ?_
  refine R_gpu rfl rfl (pu_false (pu_gtr (p := x > nn) rfl rfl (by omega)) (by omega)) rfl ?_
  refine R_pu (pu_pickf rfl rfl) rfl ?_
  refine R_nil ?_
  refine X_then hK3 ?_
  refine C_false rfl ?_
  refine C_skip ?_
  refine X_then hK2 ?_
  refine C_seq (fun K5 hK5 => ?_)
  refine C_region ?_
  refine R_pu (pu_move rfl) rfl ?_
  refine R_pu (pu_move rfl) rfl ?_
  refine R_pu (pu_loadRow (len := 3) f4 (by kernel_rfl) (by kernel_rfl) rfl rfl) rfl ?_
  refine R_pu (pu_move rfl) rfl ?_
  refine R_lo (lo_call (by kernel_rfl) rfl (shamir_through_short b A L c q nn ge x _ (HS.keptNo kk2) hm.1)) rfl ?_
  rintro _ w3 ⟨rfl, k3⟩
  have kk3 := kk2.then_ k3
  refine R_pu (pu_move rfl) rfl ?_
  refine R_pu (pu_extract rfl rfl) rfl ?_
  refine R_pu (pu_extract rfl rfl) rfl ?_
  refine R_pu (pu_assign rfl) rfl ?_
  refine R_pu (pu_assign rfl) rfl ?_
  refine R_nil ?_
  refine X_then hK5 ?_
  refine C_seq (fun K6 hK6 => ?_)
  refine C_seq (fun K7 hK7 => ?_)
  refine C_region ?_
  refine R_pu (pu_move rfl) rfl ?_
  refine R_pu (pu_neqin (by kernel_rfl) rfl rfl) rfl ?_
  refine R_nil ?_
  refine X_then hK7 ?_
  refine C_true rfl ?_
  refine C_seq (fun K8 hK8 => ?_)
  refine C_region ?_
  refine R_pu (pu_build (L := [.int .u8 0, .int .u32 0, .slice none (0) (0)]) rfl (by kernel_rfl)) rfl ?_
  refine R_pu (pu_move rfl) rfl ?_
  have f9 : Bk w3 rs ([.int .u8 0, .int .u32 0, .slice none (0) (0)]) 50 := (f_rs_2.no k3)
  refine R_lo0 (lo_storeRow (C := [.int .u8 0, .int .u32 0, .slice none (0) (0)]) f9 (by kernel_rfl) rfl rfl (by intro u hu; simp at hu; rcases hu with rfl | rfl | rfl <;> rfl) rfl) ?_
  rintro _ w4 kf4
  obtain ⟨k4, f_rs_4⟩ := kf4
  replace f_rs_4 : Bk w4 rs ([.int .u8 0, .int .u32 0, .slice none (0) (0)]) 50 := f_rs_4
  have kk4 := kk3.trans k4 (fun i hi => .inr (hi ▸ (Nat.le_trans kk1.size N2.le)))
  refine R_pu (pu_assign rfl) rfl ?_
  refine R_nil ?_
  refine X_then hK8 ?_
  refine C_ret ?_
  refine X_then_ret ?_
  exact X_retCT (len := 3) (.inl rfl) rfl rfl f_rs_4 (by kernel_rfl) (by kernel_rfl) rfl rfl ⟨rfl, kk4⟩
set_option maxRecDepth 100000 in
set_option maxHeartbeats 2000000 in
theorem shamir_at_gen (b : Nat) (A : Option Addr) (L : List Shr) (c q nn ge : Nat) (x : Nat) (w : World) (HS : Ss w A L) (hm : ((2 ≤ q + 1 ∧ q + 1 ≤ nn ∧ nn ≤ 255) ∧ (q + 1 ≤ L.length ∧ L.length ≤ c ∧ L.length < 9223372036854775808) ∧ ge < 4294967296 ∧ ¬ (∀ s ∈ L.take (q + 1), s.gen = ge)) ∧ x < 256 ∧ x ≠ 0 ∧ x ≤ nn) : Ret Tryd.prog 27 #[.pointer (some ⟨b, 0, none⟩), .slice A (L.length) (c), .agg ([.int .i64 ((q + 1 : Nat) : Int), .int .i64 ((nn : Nat) : Int), .int .u32 ((ge : Nat) : Int)] : List Value).toArray, .int .u8 ((x : Nat) : Int)] w (fun v w' => v = .tuple #[.agg (shC ⟨0, 0, none, [], 0⟩).toArray, errE 14] ∧ Kp No w w') := by
  have kk0 := Kp.refl No w
  refine enter (n := 40) [.pointer (some ⟨b, 0, none⟩), .slice A (L.length) (c), .agg ([.int .i64 ((q + 1 : Nat) : Int), .int .i64 ((nn : Nat) : Int), .int .u32 ((ge : Nat) : Int)] : List Value).toArray, .int .u8 ((x : Nat) : Int)] Tryd.func27 rfl rfl rfl ?_
  show Cw _ _ _ _ [(0, .pointer (some ⟨b, 0, none⟩)), (1, .slice A (L.length) (c)), (2, .agg ([.int .i64 ((q + 1 : Nat) : Int), .int .i64 ((nn : Nat) : Int), .int .u32 ((ge : Nat) : Int)] : List Value).toArray), (3, .int .u8 ((x : Nat) : Int))] _
  refine C_seq (fun K1 hK1 => ?_)
  refine C_region ?_
  refine R_lo (lo_box (L := [.int .i64 ((q + 1 : Nat) : Int), .int .i64 ((nn : Nat) : Int), .int .u32 ((ge : Nat) : Int)]) rfl rfl) rfl ?_
  rintro _ w1 ⟨p0_0, rfl, N1⟩
  have k1 := N1.kp
  have kk1 := kk0.then_ k1
  have f_p0_0_1 : Bk w1 p0_0 ([.int .i64 ((q + 1 : Nat) : Int), .int .i64 ((nn : Nat) : Int), .int .u32 ((ge : Nat) : Int)]) 28 := N1.bk
  refine R_lo (lo_alloc (L := [.int .u8 0, .int .u32 0, .slice none (0) (0)]) (by kernel_rfl)) rfl ?_
  rintro _ w2 ⟨rs, rfl, N2⟩
  have k2 := N2.kp
  have kk2 := kk1.then_ k2
  have ne_rs_p0_0 : rs ≠ p0_0 := Nat.ne_of_gt (Nat.lt_of_lt_of_le f_p0_0_1.lt N2.le)
  have f_rs_2 : Bk w2 rs ([.int .u8 0, .int .u32 0, .slice none (0) (0)]) 50 := N2.bk
  refine R_pu (pu_assign rfl) rfl ?_
  refine R_nil ?_
  refine X_then hK1 ?_
  refine C_seq (fun K2 hK2 => ?_)
  refine C_seq (fun K3 hK3 => ?_)
  refine C_region ?_
  refine R_pu (pu_move rfl) rfl ?_
  refine R_pu (pu_false (pu_eql (p := x = 0) rfl rfl (by omega)) hm.2.2.1) rfl ?_
  refine R_pu (pu_move rfl) rfl ?_
  refine R_gpu rfl rfl (pu_move rfl) rfl ?_
  refine R_gpu rfl rfl (pu_conv (z := ((x : Nat) : Int)) Tryd.underlying5 Tryd.underlying3 rfl (by have : x < 256 := hm.2.1; rw [IntKind.wrap_i64]; omega)) rfl ?_
  refine R_gpu rfl rfl (pu_fieldAddr (off := 1) (o' := 1) (by kernel_rfl) rfl rfl) rfl ?_
  have f4 : Bk w2 p0_0 ([.int .i64 ((q + 1 : Nat) : Int), .int .i64 ((nn : Nat) : Int), .int .u32 ((ge : Nat) : Int)]) 28 := (f_p0_0_1.no k2)
  refine R_gpu rfl rfl (pu_loadK f4 (by kernel_rfl) rfl rfl) rfl ?_
  refine R_gpu rfl rfl (pu_false (pu_gtr (p := x > nn) rfl rfl (by omega)) (by omega)) rfl ?_
  refine R_pu (pu_pickf rfl rfl) rfl ?_
  refine R_nil ?_
  refine X_then hK3 ?_
  refine C_false rfl ?_
  refine C_skip ?_
  refine X_then hK2 ?_
  refine C_seq (fun K5 hK5 => ?_)
  refine C_region ?_
  refine R_pu (pu_move rfl) rfl ?_
  refine R_pu (pu_move rfl) rfl ?_
  refine R_pu (pu_loadRow (len := 3) f4 (by kernel_rfl) (by kernel_rfl) rfl rfl) rfl ?_
  refine R_pu (pu_move rfl) rfl ?_
  refine R_lo (lo_call (by kernel_rfl) rfl (shamir_through_gen b A L c q nn ge x _ (HS.keptNo kk2) hm.1)) rfl ?_
  rintro _ w3 ⟨rfl, k3⟩
  have kk3 := kk2.then_ k3
  refine R_pu (pu_move rfl) rfl ?_
  refine R_pu (pu_extract rfl rfl) rfl ?_
  refine R_pu (pu_extract rfl rfl) rfl ?_
  refine R_pu (pu_assign rfl) rfl ?_
  refine R_pu (pu_assign rfl) rfl ?_
  refine R_nil ?_
  refine X_then hK5 ?_
  refine C_seq (fun K6 hK6 => ?_)
  refine C_seq (fun K7 hK7 => ?_)
  refine C_region ?_
  refine R_pu (pu_move rfl) rfl ?_
  refine R_pu (pu_neqin (by kernel_rfl) rfl rfl) rfl ?_
  refine R_nil ?_
  refine X_then hK7 ?_
  refine C_true rfl ?_
  refine C_seq (fun K8 hK8 => ?_)
  refine C_region ?_
  refine R_pu (pu_build (L := [.int .u8 0, .int .u32 0, .slice none (0) (0)]) rfl (by kernel_rfl)) rfl ?_
  refine R_pu (pu_move rfl) rfl ?_
  have f9 : Bk w3 rs ([.int .u8 0, .int .u32 0, .slice none (0) (0)]) 50 := (f_rs_2.no k3)
  refine R_lo0 (lo_storeRow (C := [.int .u8 0, .int .u32 0, .slice none (0) (0)]) f9 (by kernel_rfl) rfl rfl (by intro u hu; simp at hu; rcases hu with rfl | rfl | rfl <;> rfl) rfl) ?_
  rintro _ w4 kf4
  obtain ⟨k4, f_rs_4⟩ := kf4
  replace f_rs_4 : Bk w4 rs ([.int .u8 0, .int .u32 0, .slice none (0) (0)]) 50 := f_rs_4
  have kk4 := kk3.trans k4 (fun i hi => .inr (hi ▸ (Nat.le_trans kk1.size N2.le)))
  refine R_pu (pu_assign rfl) rfl ?_
  refine R_nil ?_
  refine X_then hK8 ?_
  refine C_ret ?_
  refine X_then_ret ?_
  exact X_retCT (len := 3) (.inl rfl) rfl rfl f_rs_4 (by kernel_rfl) (by kernel_rfl) rfl rfl ⟨rfl, kk4⟩
set_option maxRecDepth 100000 in
set_option maxHeartbeats 2000000 in
theorem shamir_at_share (b : Nat) (A : Option Addr) (L : List Shr) (c q nn ge : Nat) (x : Nat) (w : World) (HS : Ss w A L) (hm : ((2 ≤ q + 1 ∧ q + 1 ≤ nn ∧ nn ≤ 255) ∧ (q + 1 ≤ L.length ∧ L.length ≤ c ∧ L.length < 9223372036854775808) ∧ ge < 4294967296 ∧ (∀ s ∈ L.take (q + 1), s.gen = ge) ∧ ¬ ShOk (L.take (q + 1))) ∧ x < 256 ∧ x ≠ 0 ∧ x ≤ nn) : Ret Tryd.prog 27 #[.pointer (some ⟨b, 0, none⟩), .slice A (L.length) (c), .agg ([.int .i64 ((q + 1 : Nat) : Int), .int .i64 ((nn : Nat) : Int), .int .u32 ((ge : Nat) : Int)] : List Value).toArray, .int .u8 ((x : Nat) : Int)] w (fun v w' => v = .tuple #[.agg (shC ⟨0, 0, none, [], 0⟩).toArray, errE 12] ∧ Kp No w w') := by
  have kk0 := Kp.refl No w
  refine enter (n := 40) [.pointer (some ⟨b, 0, none⟩), .slice A (L.length) (c), .agg ([.int .i64 ((q + 1 : Nat) : Int), .int .i64 ((nn : Nat) : Int), .int .u32 ((ge : Nat) : Int)] : List Value).toArray, .int .u8 ((x : Nat) : Int)] Tryd.func27 rfl rfl rfl ?_
  show Cw _ _ _ _ [(0, .pointer (some ⟨b, 0, none⟩)), (1, .slice A (L.length) (c)), (2, .agg ([.int .i64 ((q + 1 : Nat) : Int), .int .i64 ((nn : Nat) : Int), .int .u32 ((ge : Nat) : Int)] : List Value).toArray), (3, .int .u8 ((x : Nat) : Int))] _
  refine C_seq (fun K1 hK1 => ?_)
  refine C_region ?_
  refine R_lo (lo_box (L := [.int .i64 ((q + 1 : Nat) : Int), .int .i64 ((nn : Nat) : Int), .int .u32 ((ge : Nat) : Int)]) rfl rfl) rfl ?_
  rintro _ w1 ⟨p0_0, rfl, N1⟩
  have k1 := N1.kp
  have kk1 := kk0.then_ k1
  have f_p0_0_1 : Bk w1 p0_0 ([.int .i64 ((q + 1 : Nat) : Int), .int .i64 ((nn : Nat) : Int), .int .u32 ((ge : Nat) : Int)]) 28 := N1.bk
  refine R_lo (lo_alloc (L := [.int .u8 0, .int .u32 0, .slice none (0) (0)]) (by kernel_rfl)) rfl ?_
  rintro _ w2 ⟨rs, rfl, N2⟩
  have k2 := N2.kp
  have kk2 := kk1.then_ k2
  have ne_rs_p0_0 : rs ≠ p0_0 := Nat.ne_of_gt (Nat.lt_of_lt_of_le f_p0_0_1.lt N2.le)
  have f_rs_2 : Bk w2 rs ([.int .u8 0, .int .u32 0, .slice none (0) (0)]) 50 := N2.bk
  refine R_pu (pu_assign rfl) rfl ?_
  refine R_nil ?_
  refine X_then hK1 ?_
  refine C_seq (fun K2 hK2 => ?_)
  refine C_seq (fun K3 hK3 => ?_)
  refine C_region ?_
  refine R_pu (pu_move rfl) rfl ?_
  refine R_pu (pu_false (pu_eql (p := x = 0) rfl rfl (by omega)) hm.2.2.1) rfl ?_
  refine R_pu (pu_move rfl) rfl ?_
  refine R_gpu rfl rfl (pu_move rfl) rfl ?_
  refine R_gpu rfl rfl (pu_conv (z := ((x : Nat) : Int)) Tryd.underlying5 Tryd.underlying3 rfl (by have : x < 256 := hm.2.1; rw [IntKind.wrap_i64]; omega)) rfl ?_
  refine R_gpu rfl rfl (pu_fieldAddr (off := 1) (o' := 1) (by kernel_rfl) rfl rfl) rfl ?_
  have f4 : Bk w2 p0_0 ([.int .i64 ((q + 1 : Nat) : Int), .int .i64 ((nn : Nat) : Int), .int .u32 ((ge : Nat) : Int)]) 28 := (f_p0_0_1.no k2)
  refine R_gpu rfl rfl (pu_loadK f4 (by kernel_rfl) rfl rfl) rfl ?_
  refine R_gpu rfl rfl (pu_false (pu_gtr (p := x > nn) rfl rfl (by omega)) (by omega)) rfl ?_
  refine R_pu (pu_pickf rfl rfl) rfl ?_
  refine R_nil ?_
  refine X_then hK3 ?_
  refine C_false rfl ?_
  refine C_skip ?_
  refine X_then hK2 ?_
  refine C_seq (fun K5 hK5 => ?_)
  refine C_region ?_
  refine R_pu (pu_move rfl) rfl ?_
  refine R_pu (pu_move rfl) rfl ?_
  refine R_pu (pu_loadRow (len := 3) f4 (by kernel_rfl) (by kernel_rfl) rfl rfl) rfl ?_
  refine R_pu (pu_move rfl) rfl ?_
  refine R_lo (lo_call (by kernel_rfl) rfl (shamir_through_share b A L c q nn ge x _ (HS.keptNo kk2) hm.1)) rfl ?_
  rintro _ w3 ⟨rfl, k3⟩
  have kk3 := kk2.then_ k3
  refine R_pu (pu_move rfl) rfl ?_
  refine R_pu (pu_extract rfl rfl) rfl ?_
  refine R_pu (pu_extract rfl rfl) rfl ?_
  refine R_pu (pu_assign rfl) rfl ?_
  refine R_pu (pu_assign rfl) rfl ?_
  refine R_nil ?_
  refine X_then hK5 ?_
  refine C_seq (fun K6 hK6 => ?_)
  refine C_seq (fun K7 hK7 => ?_)
  refine C_region ?_
  refine R_pu (pu_move rfl) rfl ?_
  refine R_pu (pu_neqin (by kernel_rfl) rfl rfl) rfl ?_
  refine R_nil ?_
  refine X_then hK7 ?_
  refine C_true rfl ?_
  refine C_seq (fun K8 hK8 => ?_)
  refine C_region ?_
  refine R_pu (pu_build (L := [.int .u8 0, .int .u32 0, .slice none (0) (0)]) rfl (by kernel_rfl)) rfl ?_
  refine R_pu (pu_move rfl) rfl ?_
  have f9 : Bk w3 rs ([.int .u8 0, .int .u32 0, .slice none (0) (0)]) 50 := (f_rs_2.no k3)
  refine R_lo0 (lo_storeRow (C := [.int .u8 0, .int .u32 0, .slice none (0) (0)]) f9 (by kernel_rfl) rfl rfl (by intro u hu; simp at hu; rcases hu with rfl | rfl | rfl <;> rfl) rfl) ?_
  rintro _ w4 kf4
  obtain ⟨k4, f_rs_4⟩ := kf4
  replace f_rs_4 : Bk w4 rs ([.int .u8 0, .int .u32 0, .slice none (0) (0)]) 50 := f_rs_4
  have kk4 := kk3.trans k4 (fun i hi => .inr (hi ▸ (Nat.le_trans kk1.size N2.le)))
  refine R_pu (pu_assign rfl) rfl ?_
  refine R_nil ?_
  refine X_then hK8 ?_
  refine C_ret ?_
  refine X_then_ret ?_
  exact X_retCT (len := 3) (.inl rfl) rfl rfl f_rs_4 (by kernel_rfl) (by kernel_rfl) rfl rfl ⟨rfl, kk4⟩
set_option maxRecDepth 100000 in
set_option maxHeartbeats 2000000 in
theorem ref03_wrong_plan (A : Option Addr) (L : List Shr) (c : Nat) (ka nn : Int) (ge : Nat) (w : World) (HS : Ss w A L) (hm : (¬ (2 ≤ ka ∧ ka ≤ nn ∧ nn ≤ 255)) ∧ ge < 4294967296 ∧ L.length < 9223372036854775808) : Ret Tryd.prog 48 #[.slice A (L.length) (c), .agg ([.int .i64 (ka), .int .i64 (nn), .int .u32 ((ge : Nat) : Int)] : List Value).toArray] w (fun v w' => v = .int .i64 1 ∧ Kp No w w') := by
  have kk0 := Kp.refl No w
  refine enter (n := 90) [.slice A (L.length) (c), .agg ([.int .i64 (ka), .int .i64 (nn), .int .u32 ((ge : Nat) : Int)] : List Value).toArray] Tryd.func48 rfl rfl rfl ?_
  show Cw _ _ _ _ [(0, .slice A (L.length) (c)), (1, .agg ([.int .i64 (ka), .int .i64 (nn), .int .u32 ((ge : Nat) : Int)] : List Value).toArray)] _
  refine C_seq (fun K1 hK1 => ?_)
  refine C_region ?_
  refine R_lo (lo_box (L := [.int .i64 (ka), .int .i64 (nn), .int .u32 ((ge : Nat) : Int)]) rfl rfl) rfl ?_
  rintro _ w1 ⟨p0_0, rfl, N1⟩
  have k1 := N1.kp
  have kk1 := kk0.then_ k1
  have f_p0_0_1 : Bk w1 p0_0 ([.int .i64 (ka), .int .i64 (nn), .int .u32 ((ge : Nat) : Int)]) 25 := N1.bk
  refine R_pu (pu_assign rfl) rfl ?_
  refine R_nil ?_
  refine X_then hK1 ?_
  refine C_seq (fun K2 hK2 => ?_)
  refine C_seq (fun K3 hK3 => ?_)
  refine C_region ?_
  refine R_pu (pu_loadRow (len := 3) f_p0_0_1 (by kernel_rfl) (by kernel_rfl) rfl rfl) rfl ?_
  refine R_lo (lo_call (by kernel_rfl) rfl (ref03_may_no ka nn ge _ hm.1)) rfl ?_
  rintro _ w2 ⟨rfl, k2⟩
  have kk2 := kk1.then_ k2
  refine R_pu (pu_not rfl) rfl ?_
  refine R_nil ?_
  refine X_then hK3 ?_
  refine C_true rfl ?_
  refine C_seq (fun K4 hK4 => ?_)
  refine C_region ?_
  refine R_pu (pu_assign rfl) rfl ?_
  refine R_nil ?_
  refine X_then hK4 ?_
  refine C_ret ?_
  refine X_then_ret ?_
  exact X_ret1 (.inl rfl) rfl rfl ⟨rfl, kk2⟩
set_option maxRecDepth 100000 in
set_option maxHeartbeats 2000000 in
theorem ref03_wrong_short (A : Option Addr) (L : List Shr) (c q nn ge : Nat) (w : World) (HS : Ss w A L) (hm : (2 ≤ q + 1 ∧ q + 1 ≤ nn ∧ nn ≤ 255) ∧ L.length < q + 1 ∧ ge < 4294967296 ∧ L.length < 9223372036854775808) : Ret Tryd.prog 48 #[.slice A (L.length) (c), .agg ([.int .i64 ((q + 1 : Nat) : Int), .int .i64 ((nn : Nat) : Int), .int .u32 ((ge : Nat) : Int)] : List Value).toArray] w (fun v w' => v = .int .i64 2 ∧ Kp No w w') := by
  have kk0 := Kp.refl No w
  refine enter (n := 90) [.slice A (L.length) (c), .agg ([.int .i64 ((q + 1 : Nat) : Int), .int .i64 ((nn : Nat) : Int), .int .u32 ((ge : Nat) : Int)] : List Value).toArray] Tryd.func48 rfl rfl rfl ?_
  show Cw _ _ _ _ [(0, .slice A (L.length) (c)), (1, .agg ([.int .i64 ((q + 1 : Nat) : Int), .int .i64 ((nn : Nat) : Int), .int .u32 ((ge : Nat) : Int)] : List Value).toArray)] _
  refine C_seq (fun K1 hK1 => ?_)
  refine C_region ?_
  refine R_lo (lo_box (L := [.int .i64 ((q + 1 : Nat) : Int), .int .i64 ((nn : Nat) : Int), .int .u32 ((ge : Nat) : Int)]) rfl rfl) rfl ?_
  rintro _ w1 ⟨p0_0, rfl, N1⟩
  have k1 := N1.kp
  have kk1 := kk0.then_ k1
  have f_p0_0_1 : Bk w1 p0_0 ([.int .i64 ((q + 1 : Nat) : Int), .int .i64 ((nn : Nat) : Int), .int .u32 ((ge : Nat) : Int)]) 25 := N1.bk
  refine R_pu (pu_assign rfl) rfl ?_
  refine R_nil ?_
  refine X_then hK1 ?_
  refine C_seq (fun K2 hK2 => ?_)
  refine C_seq (fun K3 hK3 => ?_)
  refine C_region ?_
  refine R_pu (pu_loadRow (len := 3) f_p0_0_1 (by kernel_rfl) (by kernel_rfl) rfl rfl) rfl ?_
  refine R_lo (lo_call (by kernel_rfl) rfl (ref03_may_yes q nn ge _ hm.1)) rfl ?_
  rintro _ w2 ⟨rfl, k2⟩
  have kk2 := kk1.then_ k2
  refine R_pu (pu_not rfl) rfl ?_
  refine R_nil ?_
  refine X_then hK3 ?_
  refine C_false rfl ?_
  refine C_skip ?_
  refine X_then hK2 ?_
  refine C_seq (fun K4 hK4 => ?_)
  refine C_seq (fun K5 hK5 => ?_)
  refine C_region ?_
  refine R_pu (pu_move rfl) rfl ?_
  refine R_pu (pu_len Tryd.underlying36 rfl) rfl ?_
  refine R_pu (pu_fieldAddr (off := 0) (o' := 0) (by kernel_rfl) rfl rfl) rfl ?_
  have f6 : Bk w2 p0_0 ([.int .i64 ((q + 1 : Nat) : Int), .int .i64 ((nn : Nat) : Int), .int .u32 ((ge : Nat) : Int)]) 25 := (f_p0_0_1.no k2)
  refine R_pu (pu_loadK f6 (by kernel_rfl) rfl rfl) rfl ?_
  refine R_pu (pu_true (pu_lss (p := L.length < (q + 1)) rfl rfl (by omega)) hm.2.1) rfl ?_
  refine R_nil ?_
  refine X_then hK5 ?_
  refine C_true rfl ?_
  refine C_seq (fun K7 hK7 => ?_)
  refine C_region ?_
  refine R_pu (pu_assign rfl) rfl ?_
  refine R_nil ?_
  refine X_then hK7 ?_
  refine C_ret ?_
  refine X_then_ret ?_
  exact X_ret1 (.inl rfl) rfl rfl ⟨rfl, kk2⟩
set_option maxRecDepth 100000 in
set_option maxHeartbeats 2000000 in
theorem ref03_wrong_gen (A : Option Addr) (L : List Shr) (c q nn ge : Nat) (w : World) (HS : Ss w A L) (hm : (2 ≤ q + 1 ∧ q + 1 ≤ nn ∧ nn ≤ 255) ∧ (q + 1 ≤ L.length ∧ L.length ≤ c ∧ L.length < 9223372036854775808) ∧ ge < 4294967296 ∧ ¬ (∀ s ∈ L.take (q + 1), s.gen = ge)) : Ret Tryd.prog 48 #[.slice A (L.length) (c), .agg ([.int .i64 ((q + 1 : Nat) : Int), .int .i64 ((nn : Nat) : Int), .int .u32 ((ge : Nat) : Int)] : List Value).toArray] w (fun v w' => v = .int .i64 14 ∧ Kp No w w') := by
  obtain ⟨hP, ⟨hl1, hl2, hl3⟩, hge, hx1⟩ := hm
  have kk0 := Kp.refl No w
  refine enter (n := 90) [.slice A (L.length) (c), .agg ([.int .i64 ((q + 1 : Nat) : Int), .int .i64 ((nn : Nat) : Int), .int .u32 ((ge : Nat) : Int)] : List Value).toArray] Tryd.func48 rfl rfl rfl ?_
  show Cw _ _ _ _ [(0, .slice A (L.length) (c)), (1, .agg ([.int .i64 ((q + 1 : Nat) : Int), .int .i64 ((nn : Nat) : Int), .int .u32 ((ge : Nat) : Int)] : List Value).toArray)] _
  refine C_seq (fun K1 hK1 => ?_)
  refine C_region ?_
  refine R_lo (lo_box (L := [.int .i64 ((q + 1 : Nat) : Int), .int .i64 ((nn : Nat) : Int), .int .u32 ((ge : Nat) : Int)]) rfl rfl) rfl ?_
  rintro _ w1 ⟨p0_0, rfl, N1⟩
  have k1 := N1.kp
  have kk1 := kk0.then_ k1
  have f_p0_0_1 : Bk w1 p0_0 ([.int .i64 ((q + 1 : Nat) : Int), .int .i64 ((nn : Nat) : Int), .int .u32 ((ge : Nat) : Int)]) 25 := N1.bk
  refine R_pu (pu_assign rfl) rfl ?_
  refine R_nil ?_
  refine X_then hK1 ?_
  refine C_seq (fun K2 hK2 => ?_)
  refine C_seq (fun K3 hK3 => ?_)
  refine C_region ?_
  refine R_pu (pu_loadRow (len := 3) f_p0_0_1 (by kernel_rfl) (by kernel_rfl) rfl rfl) rfl ?_
  refine R_lo (lo_call (by kernel_rfl) rfl (ref03_may_yes q nn ge _ hP)) rfl ?_
  rintro _ w2 ⟨rfl, k2⟩
  have kk2 := kk1.then_ k2
  refine R_pu (pu_not rfl) rfl ?_
  refine R_nil ?_
  refine X_then hK3 ?_
  refine C_false rfl ?_
  refine C_skip ?_
  refine X_then hK2 ?_
  refine C_seq (fun K4 hK4 => ?_)
  refine C_seq (fun K5 hK5 => ?_)
  refine C_region ?_
  refine R_pu (pu_move rfl) rfl ?_
  refine R_pu (pu_len Tryd.underlying36 rfl) rfl ?_
  refine R_pu (pu_fieldAddr (off := 0) (o' := 0) (by kernel_rfl) rfl rfl) rfl ?_
  have f6 : Bk w2 p0_0 ([.int .i64 ((q + 1 : Nat) : Int), .int .i64 ((nn : Nat) : Int), .int .u32 ((ge : Nat) : Int)]) 25 := (f_p0_0_1.no k2)
  refine R_pu (pu_loadK f6 (by kernel_rfl) rfl rfl) rfl ?_
  refine R_pu (pu_false (pu_lss (p := L.length < (q + 1)) rfl rfl (by omega)) (by omega)) rfl ?_
  refine R_nil ?_
  refine X_then hK5 ?_
  refine C_false rfl ?_
  refine C_skip ?_
  refine X_then hK4 ?_
  refine C_seq (fun K7 hK7 => ?_)
  refine C_seq (fun K8 hK8 => ?_)
  obtain ⟨M, hM⟩ : ∃ M, M = L.take (q + 1) := ⟨_, rfl⟩
  have hML : M.length = q + 1 := by rw [hM, List.length_take]; omega
  have HSM : Ss w A M := by rw [hM]; exact HS.take _
  rw [← hM] at hx1
  have hMl : M.length ≤ L.length := by omega
  refine C_region ?_
  refine R_pu (pu_assign rfl) rfl ?_
  refine R_nil ?_
  refine X_then hK8 ?_
  refine C_block ?_
  refine C_loop (fun m_ l_ wr => ∃ i : Nat, (m_ = q + 1 - i) ∧ (l_ = [(0, .slice A (L.length) (c)), (3, .pointer (some ⟨p0_0, 0, none⟩)), (5, .int .i64 ((i : Nat) : Int))]) ∧ (i ≤ q + 1) ∧ (∀ s ∈ M.take i, s.gen = ge) ∧ (Kp No w wr) ∧ (Bk wr p0_0 ([.int .i64 ((q + 1 : Nat) : Int), .int .i64 ((nn : Nat) : Int), .int .u32 ((ge : Nat) : Int)]) 25)) (q + 1 - 0) [(0, .slice A (L.length) (c)), (3, .pointer (some ⟨p0_0, 0, none⟩)), (5, .int .i64 0)] (Sub.cons rfl (Sub.cons rfl (Sub.cons rfl (Sub.nil _)))) ⟨0, rfl, rfl, by omega, (by simp), kk2, f6⟩ ?_
  rintro _ _ w3 ⟨i, rfl, rfl, hi, hg, kk3, f_p0_0_3⟩
  refine C_seq (fun K9 hK9 => ?_)
  refine C_seq (fun K10 hK10 => ?_)
  refine C_region ?_
  refine R_pu (pu_move rfl) rfl ?_
  refine R_pu (pu_fieldAddr (off := 0) (o' := 0) (by kernel_rfl) rfl rfl) rfl ?_
  refine R_pu (pu_loadK f_p0_0_3 (by kernel_rfl) rfl rfl) rfl ?_
  refine R_pu (pu_lss (p := i < (q + 1)) rfl rfl (by omega)) rfl ?_
  refine R_nil ?_
  refine X_then hK10 ?_
  refine C_dec rfl (fun h19 => ?_) (fun h19 => ?_)
  · refine C_skip ?_
    refine X_then hK9 ?_
    refine C_seq (fun K11 hK11 => ?_)
    refine C_block ?_
    refine C_seq (fun K12 hK12 => ?_)
    refine D_begin (fun W => Kp No w W ∧ Bk W p0_0 ([.int .i64 ((q + 1 : Nat) : Int), .int .i64 ((nn : Nat) : Int), .int .u32 ((ge : Nat) : Int)]) 25) 8 rfl (by kernel_rfl) ⟨kk3.drew, f_p0_0_3.draw⟩ ?_
    intro w4 k4 _
    have kk4 := kk3.then_ k4
    refine D_take 0 rfl (by kernel_rfl) (by kernel_rfl) (by kernel_rfl) (fun _ _ _ h => h) rfl (fun W hS => pu_move rfl) ?_
    refine D_take 1 rfl (by kernel_rfl) (by kernel_rfl) (by kernel_rfl) (fun _ _ _ h => h) rfl (fun W hS => pu_move rfl) ?_
    obtain ⟨s1, e_s1⟩ : ∃ q_, (M)[i]? = some q_ := ⟨_, List.getElem?_eq_getElem (by first | omega | (simp; done) | (simp; omega))⟩
    have ok_s1 := HSM.get e_s1
    have okb_s1 := ok_s1.bs
    have bi_s1 : s1.ix < 256 := ok_s1.ix
    refine D_take 2 rfl (by kernel_rfl) (by kernel_rfl) (by kernel_rfl) (fun _ _ _ h => h) rfl (fun W hS => pu_indexAddrL (HSM.keptNo hS.1) Tryd.underlying36 (by kernel_rfl) rfl hMl rfl rfl e_s1) ?_
    refine D_take 3 rfl (by kernel_rfl) (by kernel_rfl) (by kernel_rfl) (fun _ _ _ h => h) rfl (fun W hS => pu_fieldAddrH (off := 1) (HSM.keptNo hS.1) e_s1 (by kernel_rfl) rfl) ?_
    refine D_take 4 rfl (by kernel_rfl) (by kernel_rfl) (by kernel_rfl) (fun _ _ _ h => h) rfl (fun W hS => pu_loadH (HSM.keptNo hS.1) e_s1 (by kernel_rfl) rfl rfl) ?_
    refine D_take 5 rfl (by kernel_rfl) (by kernel_rfl) (by kernel_rfl) (fun _ _ _ h => h) rfl (fun W hS => pu_fieldAddr (off := 2) (o' := 2) (by kernel_rfl) rfl rfl) ?_
    refine D_take 6 rfl (by kernel_rfl) (by kernel_rfl) (by kernel_rfl) (fun _ _ _ h => h) rfl (fun W hS => pu_loadK hS.2 (by kernel_rfl) rfl rfl) ?_
    refine D_take 7 rfl (by kernel_rfl) (by kernel_rfl) (by kernel_rfl) (fun _ _ _ h => h) rfl (fun W hS => pu_neq (p := s1.gen = ge) rfl rfl (by omega)) ?_
    refine D_done (by kernel_rfl) ?_
    refine X_then hK12 ?_
    refine C_dec rfl (fun h29 => ?_) (fun h29 => ?_)
    · refine C_seq (fun K13 hK13 => ?_)
      refine C_region ?_
      refine R_pu (pu_assign rfl) rfl ?_
      refine R_nil ?_
      refine X_then hK13 ?_
      refine C_ret ?_
      refine X_in_ret (X_then_ret (X_then_ret (X_in_ret (X_then_ret ?_))))
      exact X_ret1 (.inl rfl) rfl rfl ⟨rfl, kk4⟩
    · refine C_skip ?_
      refine X_in_normal ?_
      refine X_then hK11 ?_
      refine C_region ?_
      refine R_pu (pu_move rfl) rfl ?_
      refine R_pu (pu_add (z := ((i + 1 : Nat) : Int)) rfl rfl (by rw [IntKind.wrap_i64]; omega)) rfl ?_
      refine R_pu (pu_assign rfl) rfl ?_
      refine R_nil ?_
      have f14 : Bk w4 p0_0 ([.int .i64 ((q + 1 : Nat) : Int), .int .i64 ((nn : Nat) : Int), .int .u32 ((ge : Nat) : Int)]) 25 := (f_p0_0_3.no k4)
      refine X_round (q + 1 - (i + 1)) [(0, .slice A (L.length) (c)), (3, .pointer (some ⟨p0_0, 0, none⟩)), (5, .int .i64 (((i + 1) : Nat) : Int))] (by omega) (Sub.cons rfl (Sub.cons rfl (Sub.cons rfl (Sub.nil _)))) ⟨i + 1, rfl, rfl, by omega, (gens_step hg e_s1 (by omega)), kk4, f14⟩
  · refine C_exit ?_
    refine X_then_exit (X_then_exit (X_in_eq ?_))
    refine X_then hK7 ?_
    refine C_seq (fun K15 hK15 => ?_)
    refine C_seq (fun K16 hK16 => ?_)
    exact absurd (gens_end hg (by omega)) hx1
set_option maxRecDepth 100000 in
set_option maxHeartbeats 2000000 in
theorem ref03_wrong_share (A : Option Addr) (L : List Shr) (c q nn ge : Nat) (w : World) (HS : Ss w A L) (hm : (2 ≤ q + 1 ∧ q + 1 ≤ nn ∧ nn ≤ 255) ∧ (q + 1 ≤ L.length ∧ L.length ≤ c ∧ L.length < 9223372036854775808) ∧ ge < 4294967296 ∧ (∀ s ∈ L.take (q + 1), s.gen = ge) ∧ ¬ ShOk (L.take (q + 1))) : Ret Tryd.prog 48 #[.slice A (L.length) (c), .agg ([.int .i64 ((q + 1 : Nat) : Int), .int .i64 ((nn : Nat) : Int), .int .u32 ((ge : Nat) : Int)] : List Value).toArray] w (fun v w' => v = .int .i64 12 ∧ Kp No w w') := by
  obtain ⟨hP, ⟨hl1, hl2, hl3⟩, hge, hx1, hx2⟩ := hm
  have kk0 := Kp.refl No w
  refine enter (n := 90) [.slice A (L.length) (c), .agg ([.int .i64 ((q + 1 : Nat) : Int), .int .i64 ((nn : Nat) : Int), .int .u32 ((ge : Nat) : Int)] : List Value).toArray] Tryd.func48 rfl rfl rfl ?_
  show Cw _ _ _ _ [(0, .slice A (L.length) (c)), (1, .agg ([.int .i64 ((q + 1 : Nat) : Int), .int .i64 ((nn : Nat) : Int), .int .u32 ((ge : Nat) : Int)] : List Value).toArray)] _
  refine C_seq (fun K1 hK1 => ?_)
  refine C_region ?_
  refine R_lo (lo_box (L := [.int .i64 ((q + 1 : Nat) : Int), .int .i64 ((nn : Nat) : Int), .int .u32 ((ge : Nat) : Int)]) rfl rfl) rfl ?_
  rintro _ w1 ⟨p0_0, rfl, N1⟩
  have k1 := N1.kp
  have kk1 := kk0.then_ k1
  have f_p0_0_1 : Bk w1 p0_0 ([.int .i64 ((q + 1 : Nat) : Int), .int .i64 ((nn : Nat) : Int), .int .u32 ((ge : Nat) : Int)]) 25 := N1.bk
  refine R_pu (pu_assign rfl) rfl ?_
  refine R_nil ?_
  refine X_then hK1 ?_
  refine C_seq (fun K2 hK2 => ?_)
  refine C_seq (fun K3 hK3 => ?_)
  refine C_region ?_
  refine R_pu (pu_loadRow (len := 3) f_p0_0_1 (by kernel_rfl) (by kernel_rfl) rfl rfl) rfl ?_
  refine R_lo (lo_call (by kernel_rfl) rfl (ref03_may_yes q nn ge _ hP)) rfl ?_
  rintro _ w2 ⟨rfl, k2⟩
  have kk2 := kk1.then_ k2
  refine R_pu (pu_not rfl) rfl ?_
  refine R_nil ?_
  refine X_then hK3 ?_
  refine C_false rfl ?_
  refine C_skip ?_
  refine X_then hK2 ?_
  refine C_seq (fun K4 hK4 => ?_)
  refine C_seq (fun K5 hK5 => ?_)
  refine C_region ?_
  refine R_pu (pu_move rfl) rfl ?_
  refine R_pu (pu_len Tryd.underlying36 rfl) rfl ?_
  refine R_pu (pu_fieldAddr (off := 0) (o' := 0) (by kernel_rfl) rfl rfl) rfl ?_
  have f6 : Bk w2 p0_0 ([.int .i64 ((q + 1 : Nat) : Int), .int .i64 ((nn : Nat) : Int), .int .u32 ((ge : Nat) : Int)]) 25 := (f_p0_0_1.no k2)
  refine R_pu (pu_loadK f6 (by kernel_rfl) rfl rfl) rfl ?_
  refine R_pu (pu_false (pu_lss (p := L.length < (q + 1)) rfl rfl (by omega)) (by omega)) rfl ?_
  refine R_nil ?_
  refine X_then hK5 ?_
  refine C_false rfl ?_
  refine C_skip ?_
  refine X_then hK4 ?_
  refine C_seq (fun K7 hK7 => ?_)
  refine C_seq (fun K8 hK8 => ?_)
  obtain ⟨M, hM⟩ : ∃ M, M = L.take (q + 1) := ⟨_, rfl⟩
  have hML : M.length = q + 1 := by rw [hM, List.length_take]; omega
  have HSM : Ss w A M := by rw [hM]; exact HS.take _
  rw [← hM] at hx1 hx2
  have hMl : M.length ≤ L.length := by omega
  refine C_region ?_
  refine R_pu (pu_assign rfl) rfl ?_
  refine R_nil ?_
  refine X_then hK8 ?_
  refine C_block ?_
  refine C_loop (fun m_ l_ wr => ∃ i : Nat, (m_ = q + 1 - i) ∧ (l_ = [(0, .slice A (L.length) (c)), (3, .pointer (some ⟨p0_0, 0, none⟩)), (5, .int .i64 ((i : Nat) : Int))]) ∧ (i ≤ q + 1) ∧ (Kp No w wr) ∧ (Bk wr p0_0 ([.int .i64 ((q + 1 : Nat) : Int), .int .i64 ((nn : Nat) : Int), .int .u32 ((ge : Nat) : Int)]) 25)) (q + 1 - 0) [(0, .slice A (L.length) (c)), (3, .pointer (some ⟨p0_0, 0, none⟩)), (5, .int .i64 0)] (Sub.cons rfl (Sub.cons rfl (Sub.cons rfl (Sub.nil _)))) ⟨0, rfl, rfl, by omega, kk2, f6⟩ ?_
  rintro _ _ w3 ⟨i, rfl, rfl, hi, kk3, f_p0_0_3⟩
  refine C_seq (fun K9 hK9 => ?_)
  refine C_seq (fun K10 hK10 => ?_)
  refine C_region ?_
  refine R_pu (pu_move rfl) rfl ?_
  refine R_pu (pu_fieldAddr (off := 0) (o' := 0) (by kernel_rfl) rfl rfl) rfl ?_
  refine R_pu (pu_loadK f_p0_0_3 (by kernel_rfl) rfl rfl) rfl ?_
  refine R_pu (pu_lss (p := i < (q + 1)) rfl rfl (by omega)) rfl ?_
  refine R_nil ?_
  refine X_then hK10 ?_
  refine C_dec rfl (fun h19 => ?_) (fun h19 => ?_)
  · refine C_skip ?_
    refine X_then hK9 ?_
    refine C_seq (fun K11 hK11 => ?_)
    refine C_block ?_
    refine C_seq (fun K12 hK12 => ?_)
    refine D_begin (fun W => Kp No w W ∧ Bk W p0_0 ([.int .i64 ((q + 1 : Nat) : Int), .int .i64 ((nn : Nat) : Int), .int .u32 ((ge : Nat) : Int)]) 25) 8 rfl (by kernel_rfl) ⟨kk3.drew, f_p0_0_3.draw⟩ ?_
    intro w4 k4 _
    have kk4 := kk3.then_ k4
    refine D_take 0 rfl (by kernel_rfl) (by kernel_rfl) (by kernel_rfl) (fun _ _ _ h => h) rfl (fun W hS => pu_move rfl) ?_
    refine D_take 1 rfl (by kernel_rfl) (by kernel_rfl) (by kernel_rfl) (fun _ _ _ h => h) rfl (fun W hS => pu_move rfl) ?_
    obtain ⟨s1, e_s1⟩ : ∃ q_, (M)[i]? = some q_ := ⟨_, List.getElem?_eq_getElem (by first | omega | (simp; done) | (simp; omega))⟩
    have ok_s1 := HSM.get e_s1
    have okb_s1 := ok_s1.bs
    have bi_s1 : s1.ix < 256 := ok_s1.ix
    refine D_take 2 rfl (by kernel_rfl) (by kernel_rfl) (by kernel_rfl) (fun _ _ _ h => h) rfl (fun W hS => pu_indexAddrL (HSM.keptNo hS.1) Tryd.underlying36 (by kernel_rfl) rfl hMl rfl rfl e_s1) ?_
    refine D_take 3 rfl (by kernel_rfl) (by kernel_rfl) (by kernel_rfl) (fun _ _ _ h => h) rfl (fun W hS => pu_fieldAddrH (off := 1) (HSM.keptNo hS.1) e_s1 (by kernel_rfl) rfl) ?_
    refine D_take 4 rfl (by kernel_rfl) (by kernel_rfl) (by kernel_rfl) (fun _ _ _ h => h) rfl (fun W hS => pu_loadH (HSM.keptNo hS.1) e_s1 (by kernel_rfl) rfl rfl) ?_
    refine D_take 5 rfl (by kernel_rfl) (by kernel_rfl) (by kernel_rfl) (fun _ _ _ h => h) rfl (fun W hS => pu_fieldAddr (off := 2) (o' := 2) (by kernel_rfl) rfl rfl) ?_
    refine D_take 6 rfl (by kernel_rfl) (by kernel_rfl) (by kernel_rfl) (fun _ _ _ h => h) rfl (fun W hS => pu_loadK hS.2 (by kernel_rfl) rfl rfl) ?_
    refine D_take 7 rfl (by kernel_rfl) (by kernel_rfl) (by kernel_rfl) (fun _ _ _ h => h) rfl (fun W hS => pu_neq (p := s1.gen = ge) rfl rfl (by omega)) ?_
    refine D_done (by kernel_rfl) ?_
    refine X_then hK12 ?_
    refine C_decf rfl (fun h => h (hx1 _ (List.mem_of_getElem? e_s1))) ?_
    refine C_skip ?_
    refine X_in_normal ?_
    refine X_then hK11 ?_
    refine C_region ?_
    refine R_pu (pu_move rfl) rfl ?_
    refine R_pu (pu_add (z := ((i + 1 : Nat) : Int)) rfl rfl (by rw [IntKind.wrap_i64]; omega)) rfl ?_
    refine R_pu (pu_assign rfl) rfl ?_
    refine R_nil ?_
    have f13 : Bk w4 p0_0 ([.int .i64 ((q + 1 : Nat) : Int), .int .i64 ((nn : Nat) : Int), .int .u32 ((ge : Nat) : Int)]) 25 := (f_p0_0_3.no k4)
    refine X_round (q + 1 - (i + 1)) [(0, .slice A (L.length) (c)), (3, .pointer (some ⟨p0_0, 0, none⟩)), (5, .int .i64 (((i + 1) : Nat) : Int))] (by omega) (Sub.cons rfl (Sub.cons rfl (Sub.cons rfl (Sub.nil _)))) ⟨i + 1, rfl, rfl, by omega, kk4, f13⟩
  · refine C_exit ?_
    refine X_then_exit (X_then_exit (X_in_eq ?_))
    refine X_then hK7 ?_
    refine C_seq (fun K14 hK14 => ?_)
    refine C_seq (fun K15 hK15 => ?_)
    refine C_region ?_
    refine R_pu (pu_assign rfl) rfl ?_
    refine R_nil ?_
    refine X_then hK15 ?_
    refine C_block ?_
    refine C_loop (fun m_ l_ wr => ∃ i : Nat, (m_ = q + 1 - i) ∧ (l_ = [(0, .slice A (L.length) (c)), (3, .pointer (some ⟨p0_0, 0, none⟩)), (6, .int .i64 ((i : Nat) : Int))]) ∧ (i ≤ q + 1) ∧ (Sk M i) ∧ (Kp No w wr) ∧ (Bk wr p0_0 ([.int .i64 ((q + 1 : Nat) : Int), .int .i64 ((nn : Nat) : Int), .int .u32 ((ge : Nat) : Int)]) 25)) (q + 1 - 0) [(0, .slice A (L.length) (c)), (3, .pointer (some ⟨p0_0, 0, none⟩)), (6, .int .i64 0)] (Sub.cons rfl (Sub.cons rfl (Sub.cons rfl (Sub.nil _)))) ⟨0, rfl, rfl, by omega, (Sk.zero M), kk3, f_p0_0_3⟩ ?_
    rintro _ _ w5 ⟨i, rfl, rfl, hi, hSk, kk5, f_p0_0_5⟩
    refine C_seq (fun K16 hK16 => ?_)
    refine C_seq (fun K17 hK17 => ?_)
    refine C_region ?_
    refine R_pu (pu_move rfl) rfl ?_
    refine R_pu (pu_fieldAddr (off := 0) (o' := 0) (by kernel_rfl) rfl rfl) rfl ?_
    refine R_pu (pu_loadK f_p0_0_5 (by kernel_rfl) rfl rfl) rfl ?_
    refine R_pu (pu_lss (p := i < (q + 1)) rfl rfl (by omega)) rfl ?_
    refine R_nil ?_
    refine X_then hK17 ?_
    refine C_dec rfl (fun h33 => ?_) (fun h33 => ?_)
    · refine C_skip ?_
      refine X_then hK16 ?_
      refine C_seq (fun K18 hK18 => ?_)
      refine C_block ?_
      refine C_seq (fun K19 hK19 => ?_)
      refine C_seq (fun K20 hK20 => ?_)
      refine D_begin (fun W => Kp No w W ∧ Bk W p0_0 ([.int .i64 ((q + 1 : Nat) : Int), .int .i64 ((nn : Nat) : Int), .int .u32 ((ge : Nat) : Int)]) 25) 38 rfl (by kernel_rfl) ⟨kk5.drew, f_p0_0_5.draw⟩ ?_
      intro w6 k6 _
      have kk6 := kk5.then_ k6
      refine D_take 0 rfl (by kernel_rfl) (by kernel_rfl) (by kernel_rfl) (fun _ _ _ h => h) rfl (fun W hS => pu_move rfl) ?_
      refine D_take 1 rfl (by kernel_rfl) (by kernel_rfl) (by kernel_rfl) (fun _ _ _ h => h) rfl (fun W hS => pu_move rfl) ?_
      obtain ⟨s2, e_s2⟩ : ∃ q_, (M)[i]? = some q_ := ⟨_, List.getElem?_eq_getElem (by first | omega | (simp; done) | (simp; omega))⟩
      have ok_s2 := HSM.get e_s2
      have okb_s2 := ok_s2.bs
      have bi_s2 : s2.ix < 256 := ok_s2.ix
      refine D_take 2 rfl (by kernel_rfl) (by kernel_rfl) (by kernel_rfl) (fun _ _ _ h => h) rfl (fun W hS => pu_indexAddrL (HSM.keptNo hS.1) Tryd.underlying36 (by kernel_rfl) rfl hMl rfl rfl e_s2) ?_
      refine D_take 3 rfl (by kernel_rfl) (by kernel_rfl) (by kernel_rfl) (fun _ _ _ h => h) rfl (fun W hS => pu_fieldAddrH (off := 0) (HSM.keptNo hS.1) e_s2 (by kernel_rfl) rfl) ?_
      refine D_take 4 rfl (by kernel_rfl) (by kernel_rfl) (by kernel_rfl) (fun _ _ _ h => h) rfl (fun W hS => pu_loadH (HSM.keptNo hS.1) e_s2 (by kernel_rfl) rfl rfl) ?_
      refine D_take 5 rfl (by kernel_rfl) (by kernel_rfl) (by kernel_rfl) (fun _ _ _ h => h) rfl (fun W hS => pu_eql (p := s2.ix = 0) rfl rfl (by omega)) ?_
      by_cases g13_6 : s2.ix = 0
      · refine D_take 6 rfl (by kernel_rfl) (by kernel_rfl) (by kernel_rfl) (fun _ _ _ h => h) rfl (fun W hS => pu_true (pu_move rfl) g13_6) ?_
        refine D_gno 7 rfl rfl rfl rfl (by kernel_rfl) (by kernel_rfl) (by kernel_rfl) (fun _ _ _ h => h) rfl ?_
        refine D_gno 8 rfl rfl rfl rfl (by kernel_rfl) (by kernel_rfl) (by kernel_rfl) (fun _ _ _ h => h) rfl ?_
        refine D_gno 9 rfl rfl rfl rfl (by kernel_rfl) (by kernel_rfl) (by kernel_rfl) (fun _ _ _ h => h) rfl ?_
        refine D_gno 10 rfl rfl rfl rfl (by kernel_rfl) (by kernel_rfl) (by kernel_rfl) (fun _ _ _ h => h) rfl ?_
        refine D_gno 11 rfl rfl rfl rfl (by kernel_rfl) (by kernel_rfl) (by kernel_rfl) (fun _ _ _ h => h) rfl ?_
        refine D_gno 12 rfl rfl rfl rfl (by kernel_rfl) (by kernel_rfl) (by kernel_rfl) (fun _ _ _ h => h) rfl ?_
        refine D_gno 13 rfl rfl rfl rfl (by kernel_rfl) (by kernel_rfl) (by kernel_rfl) (fun _ _ _ h => h) rfl ?_
        refine D_gno 14 rfl rfl rfl rfl (by kernel_rfl) (by kernel_rfl) (by kernel_rfl) (fun _ _ _ h => h) rfl ?_
        refine D_gno 15 rfl rfl rfl rfl (by kernel_rfl) (by kernel_rfl) (by kernel_rfl) (fun _ _ _ h => h) rfl ?_
        refine D_gno 16 rfl rfl rfl rfl (by kernel_rfl) (by kernel_rfl) (by kernel_rfl) (fun _ _ _ h => h) rfl ?_
        refine D_gno 17 rfl rfl rfl rfl (by kernel_rfl) (by kernel_rfl) (by kernel_rfl) (fun _ _ _ h => h) rfl ?_
        refine D_gno 18 rfl rfl rfl rfl (by kernel_rfl) (by kernel_rfl) (by kernel_rfl) (fun _ _ _ h => h) rfl ?_
        refine D_take 19 rfl (by kernel_rfl) (by kernel_rfl) (by kernel_rfl) (fun _ _ _ h => h) rfl (fun W hS => pu_pickt rfl rfl) ?_
        refine D_take 20 rfl (by kernel_rfl) (by kernel_rfl) (by kernel_rfl) (fun _ _ _ h => h) rfl (fun W hS => pu_move rfl) ?_
        refine D_gno 21 rfl rfl rfl rfl (by kernel_rfl) (by kernel_rfl) (by kernel_rfl) (fun _ _ _ h => h) rfl ?_
        refine D_gno 22 rfl rfl rfl rfl (by kernel_rfl) (by kernel_rfl) (by kernel_rfl) (fun _ _ _ h => h) rfl ?_
        refine D_gno 23 rfl rfl rfl rfl (by kernel_rfl) (by kernel_rfl) (by kernel_rfl) (fun _ _ _ h => h) rfl ?_
        refine D_gno 24 rfl rfl rfl rfl (by kernel_rfl) (by kernel_rfl) (by kernel_rfl) (fun _ _ _ h => h) rfl ?_
        refine D_gno 25 rfl rfl rfl rfl (by kernel_rfl) (by kernel_rfl) (by kernel_rfl) (fun _ _ _ h => h) rfl ?_
        refine D_gno 26 rfl rfl rfl rfl (by kernel_rfl) (by kernel_rfl) (by kernel_rfl) (fun _ _ _ h => h) rfl ?_
        refine D_gno 27 rfl rfl rfl rfl (by kernel_rfl) (by kernel_rfl) (by kernel_rfl) (fun _ _ _ h => h) rfl ?_
        refine D_take 28 rfl (by kernel_rfl) (by kernel_rfl) (by kernel_rfl) (fun _ _ _ h => h) rfl (fun W hS => pu_pickt rfl rfl) ?_
        refine D_take 29 rfl (by kernel_rfl) (by kernel_rfl) (by kernel_rfl) (fun _ _ _ h => h) rfl (fun W hS => pu_move rfl) ?_
        refine D_gno 30 rfl rfl rfl rfl (by kernel_rfl) (by kernel_rfl) (by kernel_rfl) (fun _ _ _ h => h) rfl ?_
        refine D_gno 31 rfl rfl rfl rfl (by kernel_rfl) (by kernel_rfl) (by kernel_rfl) (fun _ _ _ h => h) rfl ?_
        refine D_gno 32 rfl rfl rfl rfl (by kernel_rfl) (by kernel_rfl) (by kernel_rfl) (fun _ _ _ h => h) rfl ?_
        refine D_gno 33 rfl rfl rfl rfl (by kernel_rfl) (by kernel_rfl) (by kernel_rfl) (fun _ _ _ h => h) rfl ?_
        refine D_gno 34 rfl rfl rfl rfl (by kernel_rfl) (by kernel_rfl) (by kernel_rfl) (fun _ _ _ h => h) rfl ?_
        refine D_gno 35 rfl rfl rfl rfl (by kernel_rfl) (by kernel_rfl) (by kernel_rfl) (fun _ _ _ h => h) rfl ?_
        refine D_gno 36 rfl rfl rfl rfl (by kernel_rfl) (by kernel_rfl) (by kernel_rfl) (fun _ _ _ h => h) rfl ?_
        refine D_take 37 rfl (by kernel_rfl) (by kernel_rfl) (by kernel_rfl) (fun _ _ _ h => h) rfl (fun W hS => pu_pickt rfl rfl) ?_
        refine D_done (by kernel_rfl) ?_
        refine X_then hK20 ?_
        refine C_true rfl ?_
        refine C_seq (fun K21 hK21 => ?_)
        refine C_region ?_
        refine R_pu (pu_assign rfl) rfl ?_
        refine R_nil ?_
        refine X_then hK21 ?_
        refine C_ret ?_
        refine X_then_ret (X_in_ret (X_then_ret (X_then_ret (X_in_ret (X_then_ret ?_)))))
        exact X_ret1 (.inl rfl) rfl rfl ⟨rfl, kk6⟩
      · refine D_take 6 rfl (by kernel_rfl) (by kernel_rfl) (by kernel_rfl) (fun _ _ _ h => h) rfl (fun W hS => pu_false (pu_move rfl) g13_6) ?_
        refine D_gtake 7 rfl rfl rfl (by kernel_rfl) (by kernel_rfl) (by kernel_rfl) (fun _ _ _ h => h) rfl (fun W hS => pu_move rfl) ?_
        refine D_gtake 8 rfl rfl rfl (by kernel_rfl) (by kernel_rfl) (by kernel_rfl) (fun _ _ _ h => h) rfl (fun W hS => pu_move rfl) ?_
        refine D_gtake 9 rfl rfl rfl (by kernel_rfl) (by kernel_rfl) (by kernel_rfl) (fun _ _ _ h => h) rfl (fun W hS => pu_indexAddrL (HSM.keptNo hS.1) Tryd.underlying36 (by kernel_rfl) rfl hMl rfl rfl e_s2) ?_
        refine D_gtake 10 rfl rfl rfl (by kernel_rfl) (by kernel_rfl) (by kernel_rfl) (fun _ _ _ h => h) rfl (fun W hS => pu_fieldAddrH (off := 2) (HSM.keptNo hS.1) e_s2 (by kernel_rfl) rfl) ?_
        refine D_gtake 11 rfl rfl rfl (by kernel_rfl) (by kernel_rfl) (by kernel_rfl) (fun _ _ _ h => h) rfl (fun W hS => pu_loadH (HSM.keptNo hS.1) e_s2 (by kernel_rfl) rfl rfl) ?_
        refine D_gtake 12 rfl rfl rfl (by kernel_rfl) (by kernel_rfl) (by kernel_rfl) (fun _ _ _ h => h) rfl (fun W hS => pu_len Tryd.underlying22 rfl) ?_
        refine D_gtake 13 rfl rfl rfl (by kernel_rfl) (by kernel_rfl) (by kernel_rfl) (fun _ _ _ h => h) rfl (fun W hS => pu_move rfl) ?_
        obtain ⟨s0, e_s0⟩ : ∃ q_, (M)[0]? = some q_ := ⟨_, List.getElem?_eq_getElem (by first | omega | (simp; done) | (simp; omega))⟩
        have ok_s0 := HSM.get e_s0
        have okb_s0 := ok_s0.bs
        have bi_s0 : s0.ix < 256 := ok_s0.ix
        refine D_gtake 14 rfl rfl rfl (by kernel_rfl) (by kernel_rfl) (by kernel_rfl) (fun _ _ _ h => h) rfl (fun W hS => pu_indexAddrL (HSM.keptNo hS.1) Tryd.underlying36 (by kernel_rfl) rfl hMl rfl rfl e_s0) ?_
        refine D_gtake 15 rfl rfl rfl (by kernel_rfl) (by kernel_rfl) (by kernel_rfl) (fun _ _ _ h => h) rfl (fun W hS => pu_fieldAddrH (off := 2) (HSM.keptNo hS.1) e_s0 (by kernel_rfl) rfl) ?_
        refine D_gtake 16 rfl rfl rfl (by kernel_rfl) (by kernel_rfl) (by kernel_rfl) (fun _ _ _ h => h) rfl (fun W hS => pu_loadH (HSM.keptNo hS.1) e_s0 (by kernel_rfl) rfl rfl) ?_
        refine D_gtake 17 rfl rfl rfl (by kernel_rfl) (by kernel_rfl) (by kernel_rfl) (fun _ _ _ h => h) rfl (fun W hS => pu_len Tryd.underlying22 rfl) ?_
        refine D_gtake 18 rfl rfl rfl (by kernel_rfl) (by kernel_rfl) (by kernel_rfl) (fun _ _ _ h => h) rfl (fun W hS => pu_neq (p := s2.X.length = s0.X.length) rfl rfl (by omega)) ?_
        refine D_take 19 rfl (by kernel_rfl) (by kernel_rfl) (by kernel_rfl) (fun _ _ _ h => h) rfl (fun W hS => pu_pickf rfl rfl) ?_
        by_cases g13_20 : ¬ (s2.X.length = s0.X.length)
        · refine D_take 20 rfl (by kernel_rfl) (by kernel_rfl) (by kernel_rfl) (fun _ _ _ h => h) rfl (fun W hS => pu_true (pu_move rfl) g13_20) ?_
          refine D_gno 21 rfl rfl rfl rfl (by kernel_rfl) (by kernel_rfl) (by kernel_rfl) (fun _ _ _ h => h) rfl ?_
          refine D_gno 22 rfl rfl rfl rfl (by kernel_rfl) (by kernel_rfl) (by kernel_rfl) (fun _ _ _ h => h) rfl ?_
          refine D_gno 23 rfl rfl rfl rfl (by kernel_rfl) (by kernel_rfl) (by kernel_rfl) (fun _ _ _ h => h) rfl ?_
          refine D_gno 24 rfl rfl rfl rfl (by kernel_rfl) (by kernel_rfl) (by kernel_rfl) (fun _ _ _ h => h) rfl ?_
          refine D_gno 25 rfl rfl rfl rfl (by kernel_rfl) (by kernel_rfl) (by kernel_rfl) (fun _ _ _ h => h) rfl ?_
          refine D_gno 26 rfl rfl rfl rfl (by kernel_rfl) (by kernel_rfl) (by kernel_rfl) (fun _ _ _ h => h) rfl ?_
          refine D_gno 27 rfl rfl rfl rfl (by kernel_rfl) (by kernel_rfl) (by kernel_rfl) (fun _ _ _ h => h) rfl ?_
          refine D_take 28 rfl (by kernel_rfl) (by kernel_rfl) (by kernel_rfl) (fun _ _ _ h => h) rfl (fun W hS => pu_pickt rfl rfl) ?_
          refine D_take 29 rfl (by kernel_rfl) (by kernel_rfl) (by kernel_rfl) (fun _ _ _ h => h) rfl (fun W hS => pu_move rfl) ?_
          refine D_gno 30 rfl rfl rfl rfl (by kernel_rfl) (by kernel_rfl) (by kernel_rfl) (fun _ _ _ h => h) rfl ?_
          refine D_gno 31 rfl rfl rfl rfl (by kernel_rfl) (by kernel_rfl) (by kernel_rfl) (fun _ _ _ h => h) rfl ?_
          refine D_gno 32 rfl rfl rfl rfl (by kernel_rfl) (by kernel_rfl) (by kernel_rfl) (fun _ _ _ h => h) rfl ?_
          refine D_gno 33 rfl rfl rfl rfl (by kernel_rfl) (by kernel_rfl) (by kernel_rfl) (fun _ _ _ h => h) rfl ?_
          refine D_gno 34 rfl rfl rfl rfl (by kernel_rfl) (by kernel_rfl) (by kernel_rfl) (fun _ _ _ h => h) rfl ?_
          refine D_gno 35 rfl rfl rfl rfl (by kernel_rfl) (by kernel_rfl) (by kernel_rfl) (fun _ _ _ h => h) rfl ?_
          refine D_gno 36 rfl rfl rfl rfl (by kernel_rfl) (by kernel_rfl) (by kernel_rfl) (fun _ _ _ h => h) rfl ?_
          refine D_take 37 rfl (by kernel_rfl) (by kernel_rfl) (by kernel_rfl) (fun _ _ _ h => h) rfl (fun W hS => pu_pickt rfl rfl) ?_
          refine D_done (by kernel_rfl) ?_
          refine X_then hK20 ?_
          refine C_true rfl ?_
          refine C_seq (fun K22 hK22 => ?_)
          refine C_region ?_
          refine R_pu (pu_assign rfl) rfl ?_
          refine R_nil ?_
          refine X_then hK22 ?_
          refine C_ret ?_
          refine X_then_ret (X_in_ret (X_then_ret (X_then_ret (X_in_ret (X_then_ret ?_)))))
          exact X_ret1 (.inl rfl) rfl rfl ⟨rfl, kk6⟩
        · refine D_take 20 rfl (by kernel_rfl) (by kernel_rfl) (by kernel_rfl) (fun _ _ _ h => h) rfl (fun W hS => pu_false (pu_move rfl) g13_20) ?_
          refine D_gtake 21 rfl rfl rfl (by kernel_rfl) (by kernel_rfl) (by kernel_rfl) (fun _ _ _ h => h) rfl (fun W hS => pu_move rfl) ?_
          refine D_gtake 22 rfl rfl rfl (by kernel_rfl) (by kernel_rfl) (by kernel_rfl) (fun _ _ _ h => h) rfl (fun W hS => pu_move rfl) ?_
          refine D_gtake 23 rfl rfl rfl (by kernel_rfl) (by kernel_rfl) (by kernel_rfl) (fun _ _ _ h => h) rfl (fun W hS => pu_indexAddrL (HSM.keptNo hS.1) Tryd.underlying36 (by kernel_rfl) rfl hMl rfl rfl e_s2) ?_
          refine D_gtake 24 rfl rfl rfl (by kernel_rfl) (by kernel_rfl) (by kernel_rfl) (fun _ _ _ h => h) rfl (fun W hS => pu_fieldAddrH (off := 2) (HSM.keptNo hS.1) e_s2 (by kernel_rfl) rfl) ?_
          refine D_gtake 25 rfl rfl rfl (by kernel_rfl) (by kernel_rfl) (by kernel_rfl) (fun _ _ _ h => h) rfl (fun W hS => pu_loadH (HSM.keptNo hS.1) e_s2 (by kernel_rfl) rfl rfl) ?_
          refine D_gtake 26 rfl rfl rfl (by kernel_rfl) (by kernel_rfl) (by kernel_rfl) (fun _ _ _ h => h) rfl (fun W hS => pu_len Tryd.underlying22 rfl) ?_
          refine D_gtake 27 rfl rfl rfl (by kernel_rfl) (by kernel_rfl) (by kernel_rfl) (fun _ _ _ h => h) rfl (fun W hS => pu_lss (p := s2.X.length < 1) rfl rfl (by omega)) ?_
          refine D_take 28 rfl (by kernel_rfl) (by kernel_rfl) (by kernel_rfl) (fun _ _ _ h => h) rfl (fun W hS => pu_pickf rfl rfl) ?_
          by_cases g13_29 : s2.X.length < 1
          · refine D_take 29 rfl (by kernel_rfl) (by kernel_rfl) (by kernel_rfl) (fun _ _ _ h => h) rfl (fun W hS => pu_true (pu_move rfl) g13_29) ?_
            refine D_gno 30 rfl rfl rfl rfl (by kernel_rfl) (by kernel_rfl) (by kernel_rfl) (fun _ _ _ h => h) rfl ?_
            refine D_gno 31 rfl rfl rfl rfl (by kernel_rfl) (by kernel_rfl) (by kernel_rfl) (fun _ _ _ h => h) rfl ?_
            refine D_gno 32 rfl rfl rfl rfl (by kernel_rfl) (by kernel_rfl) (by kernel_rfl) (fun _ _ _ h => h) rfl ?_
            refine D_gno 33 rfl rfl rfl rfl (by kernel_rfl) (by kernel_rfl) (by kernel_rfl) (fun _ _ _ h => h) rfl ?_
            refine D_gno 34 rfl rfl rfl rfl (by kernel_rfl) (by kernel_rfl) (by kernel_rfl) (fun _ _ _ h => h) rfl ?_
            refine D_gno 35 rfl rfl rfl rfl (by kernel_rfl) (by kernel_rfl) (by kernel_rfl) (fun _ _ _ h => h) rfl ?_
            refine D_gno 36 rfl rfl rfl rfl (by kernel_rfl) (by kernel_rfl) (by kernel_rfl) (fun _ _ _ h => h) rfl ?_
            refine D_take 37 rfl (by kernel_rfl) (by kernel_rfl) (by kernel_rfl) (fun _ _ _ h => h) rfl (fun W hS => pu_pickt rfl rfl) ?_
            refine D_done (by kernel_rfl) ?_
            refine X_then hK20 ?_
            refine C_true rfl ?_
            refine C_seq (fun K23 hK23 => ?_)
            refine C_region ?_
            refine R_pu (pu_assign rfl) rfl ?_
            refine R_nil ?_
            refine X_then hK23 ?_
            refine C_ret ?_
            refine X_then_ret (X_in_ret (X_then_ret (X_then_ret (X_in_ret (X_then_ret ?_)))))
            exact X_ret1 (.inl rfl) rfl rfl ⟨rfl, kk6⟩
          · refine D_take 29 rfl (by kernel_rfl) (by kernel_rfl) (by kernel_rfl) (fun _ _ _ h => h) rfl (fun W hS => pu_false (pu_move rfl) g13_29) ?_
            refine D_gtake 30 rfl rfl rfl (by kernel_rfl) (by kernel_rfl) (by kernel_rfl) (fun _ _ _ h => h) rfl (fun W hS => pu_move rfl) ?_
            refine D_gtake 31 rfl rfl rfl (by kernel_rfl) (by kernel_rfl) (by kernel_rfl) (fun _ _ _ h => h) rfl (fun W hS => pu_move rfl) ?_
            refine D_gtake 32 rfl rfl rfl (by kernel_rfl) (by kernel_rfl) (by kernel_rfl) (fun _ _ _ h => h) rfl (fun W hS => pu_indexAddrL (HSM.keptNo hS.1) Tryd.underlying36 (by kernel_rfl) rfl hMl rfl rfl e_s2) ?_
            refine D_gtake 33 rfl rfl rfl (by kernel_rfl) (by kernel_rfl) (by kernel_rfl) (fun _ _ _ h => h) rfl (fun W hS => pu_fieldAddrH (off := 2) (HSM.keptNo hS.1) e_s2 (by kernel_rfl) rfl) ?_
            refine D_gtake 34 rfl rfl rfl (by kernel_rfl) (by kernel_rfl) (by kernel_rfl) (fun _ _ _ h => h) rfl (fun W hS => pu_loadH (HSM.keptNo hS.1) e_s2 (by kernel_rfl) rfl rfl) ?_
            refine D_gtake 35 rfl rfl rfl (by kernel_rfl) (by kernel_rfl) (by kernel_rfl) (fun _ _ _ h => h) rfl (fun W hS => pu_len Tryd.underlying22 rfl) ?_
            refine D_gtake 36 rfl rfl rfl (by kernel_rfl) (by kernel_rfl) (by kernel_rfl) (fun _ _ _ h => h) rfl (fun W hS => pu_gtr (p := s2.X.length > 64) rfl rfl (by omega)) ?_
            refine D_take 37 rfl (by kernel_rfl) (by kernel_rfl) (by kernel_rfl) (fun _ _ _ h => h) rfl (fun W hS => pu_pickf rfl rfl) ?_
            refine D_done (by kernel_rfl) ?_
            refine X_then hK20 ?_
            refine C_dec rfl (fun h73 => ?_) (fun h73 => ?_)
            · refine C_seq (fun K24 hK24 => ?_)
              refine C_region ?_
              refine R_pu (pu_assign rfl) rfl ?_
              refine R_nil ?_
              refine X_then hK24 ?_
              refine C_ret ?_
              refine X_then_ret (X_in_ret (X_then_ret (X_then_ret (X_in_ret (X_then_ret ?_)))))
              exact X_ret1 (.inl rfl) rfl rfl ⟨rfl, kk6⟩
            · refine C_skip ?_
              refine X_then hK19 ?_
              refine C_seq (fun K25 hK25 => ?_)
              refine C_region ?_
              refine R_pu (pu_assign rfl) rfl ?_
              refine R_nil ?_
              refine X_then hK25 ?_
              refine C_block ?_
              have f26 : Bk w6 p0_0 ([.int .i64 ((q + 1 : Nat) : Int), .int .i64 ((nn : Nat) : Int), .int .u32 ((ge : Nat) : Int)]) 25 := (f_p0_0_5.no k6)
              refine C_loop (fun m_ l_ wr => ∃ k : Nat, (m_ = i - k) ∧ (l_ = [(0, .slice A (L.length) (c)), (3, .pointer (some ⟨p0_0, 0, none⟩)), (6, .int .i64 ((i : Nat) : Int)), (7, .int .i64 ((k : Nat) : Int))]) ∧ (k ≤ i) ∧ (∀ a, a < k → (ixs M).getD a 0 ≠ s2.ix) ∧ (Kp No w wr) ∧ (Bk wr p0_0 ([.int .i64 ((q + 1 : Nat) : Int), .int .i64 ((nn : Nat) : Int), .int .u32 ((ge : Nat) : Int)]) 25)) (i - 0) [(0, .slice A (L.length) (c)), (3, .pointer (some ⟨p0_0, 0, none⟩)), (6, .int .i64 ((i : Nat) : Int)), (7, .int .i64 0)] (Sub.cons rfl (Sub.cons rfl (Sub.cons rfl (Sub.cons rfl (Sub.nil _))))) ⟨0, rfl, rfl, by omega, (fun a h => absurd h (Nat.not_lt_zero _)), kk6, f26⟩ ?_
              rintro _ _ w7 ⟨k, rfl, rfl, hk, hI, kk7, f_p0_0_7⟩
              refine C_seq (fun K27 hK27 => ?_)
              refine C_seq (fun K28 hK28 => ?_)
              refine C_region ?_
              refine R_pu (pu_move rfl) rfl ?_
              refine R_pu (pu_move rfl) rfl ?_
              refine R_pu (pu_lss (p := k < i) rfl rfl (by omega)) rfl ?_
              refine R_nil ?_
              refine X_then hK28 ?_
              refine C_dec rfl (fun h76 => ?_) (fun h76 => ?_)
              · refine C_skip ?_
                refine X_then hK27 ?_
                refine C_seq (fun K29 hK29 => ?_)
                refine C_block ?_
                refine C_seq (fun K30 hK30 => ?_)
                refine D_begin (fun W => Kp No w W ∧ Bk W p0_0 ([.int .i64 ((q + 1 : Nat) : Int), .int .i64 ((nn : Nat) : Int), .int .u32 ((ge : Nat) : Int)]) 25) 11 rfl (by kernel_rfl) ⟨kk7.drew, f_p0_0_7.draw⟩ ?_
                intro w8 k8 _
                have kk8 := kk7.then_ k8
                refine D_take 0 rfl (by kernel_rfl) (by kernel_rfl) (by kernel_rfl) (fun _ _ _ h => h) rfl (fun W hS => pu_move rfl) ?_
                refine D_take 1 rfl (by kernel_rfl) (by kernel_rfl) (by kernel_rfl) (fun _ _ _ h => h) rfl (fun W hS => pu_move rfl) ?_
                obtain ⟨s3, e_s3⟩ : ∃ q_, (M)[k]? = some q_ := ⟨_, List.getElem?_eq_getElem (by first | omega | (simp; done) | (simp; omega))⟩
                have ok_s3 := HSM.get e_s3
                have okb_s3 := ok_s3.bs
                have bi_s3 : s3.ix < 256 := ok_s3.ix
                refine D_take 2 rfl (by kernel_rfl) (by kernel_rfl) (by kernel_rfl) (fun _ _ _ h => h) rfl (fun W hS => pu_indexAddrL (HSM.keptNo hS.1) Tryd.underlying36 (by kernel_rfl) rfl hMl rfl rfl e_s3) ?_
                refine D_take 3 rfl (by kernel_rfl) (by kernel_rfl) (by kernel_rfl) (fun _ _ _ h => h) rfl (fun W hS => pu_fieldAddrH (off := 0) (HSM.keptNo hS.1) e_s3 (by kernel_rfl) rfl) ?_
                refine D_take 4 rfl (by kernel_rfl) (by kernel_rfl) (by kernel_rfl) (fun _ _ _ h => h) rfl (fun W hS => pu_loadH (HSM.keptNo hS.1) e_s3 (by kernel_rfl) rfl rfl) ?_
                refine D_take 5 rfl (by kernel_rfl) (by kernel_rfl) (by kernel_rfl) (fun _ _ _ h => h) rfl (fun W hS => pu_move rfl) ?_
                refine D_take 6 rfl (by kernel_rfl) (by kernel_rfl) (by kernel_rfl) (fun _ _ _ h => h) rfl (fun W hS => pu_move rfl) ?_
                obtain ⟨s4, e_s4⟩ : ∃ q_, (M)[i]? = some q_ := ⟨_, List.getElem?_eq_getElem (by first | omega | (simp; done) | (simp; omega))⟩
                have ok_s4 := HSM.get e_s4
                have okb_s4 := ok_s4.bs
                have bi_s4 : s4.ix < 256 := ok_s4.ix
                refine D_take 7 rfl (by kernel_rfl) (by kernel_rfl) (by kernel_rfl) (fun _ _ _ h => h) rfl (fun W hS => pu_indexAddrL (HSM.keptNo hS.1) Tryd.underlying36 (by kernel_rfl) rfl hMl rfl rfl e_s4) ?_
                refine D_take 8 rfl (by kernel_rfl) (by kernel_rfl) (by kernel_rfl) (fun _ _ _ h => h) rfl (fun W hS => pu_fieldAddrH (off := 0) (HSM.keptNo hS.1) e_s4 (by kernel_rfl) rfl) ?_
                refine D_take 9 rfl (by kernel_rfl) (by kernel_rfl) (by kernel_rfl) (fun _ _ _ h => h) rfl (fun W hS => pu_loadH (HSM.keptNo hS.1) e_s4 (by kernel_rfl) rfl rfl) ?_
                refine D_take 10 rfl (by kernel_rfl) (by kernel_rfl) (by kernel_rfl) (fun _ _ _ h => h) rfl (fun W hS => pu_eql (p := s3.ix = s4.ix) rfl rfl (by omega)) ?_
                refine D_done (by kernel_rfl) ?_
                refine X_then hK30 ?_
                refine C_dec rfl (fun h89 => ?_) (fun h89 => ?_)
                · refine C_seq (fun K31 hK31 => ?_)
                  refine C_region ?_
                  refine R_pu (pu_assign rfl) rfl ?_
                  refine R_nil ?_
                  refine X_then hK31 ?_
                  refine C_ret ?_
                  refine X_in_ret (X_then_ret (X_then_ret (X_in_ret (X_in_ret (X_then_ret (X_then_ret (X_in_ret (X_then_ret ?_))))))))
                  exact X_ret1 (.inl rfl) rfl rfl ⟨rfl, kk8⟩
                · refine C_skip ?_
                  refine X_in_normal ?_
                  refine X_then hK29 ?_
                  refine C_region ?_
                  refine R_pu (pu_move rfl) rfl ?_
                  refine R_pu (pu_add (z := ((k + 1 : Nat) : Int)) rfl rfl (by rw [IntKind.wrap_i64]; omega)) rfl ?_
                  refine R_pu (pu_assign rfl) rfl ?_
                  refine R_nil ?_
                  have f32 : Bk w8 p0_0 ([.int .i64 ((q + 1 : Nat) : Int), .int .i64 ((nn : Nat) : Int), .int .u32 ((ge : Nat) : Int)]) 25 := (f_p0_0_7.no k8)
                  refine X_round (i - (k + 1)) [(0, .slice A (L.length) (c)), (3, .pointer (some ⟨p0_0, 0, none⟩)), (6, .int .i64 ((i : Nat) : Int)), (7, .int .i64 (((k + 1) : Nat) : Int))] (by omega) (Sub.cons rfl (Sub.cons rfl (Sub.cons rfl (Sub.cons rfl (Sub.nil _))))) ⟨k + 1, rfl, rfl, by omega, (hI_step hI e_s2 e_s3 e_s4 (by omega)), kk8, f32⟩
              · refine C_exit ?_
                refine X_then_exit (X_then_exit (X_in_eq ?_))
                refine X_in_normal ?_
                refine X_then hK18 ?_
                refine C_region ?_
                refine R_pu (pu_move rfl) rfl ?_
                refine R_pu (pu_add (z := ((i + 1 : Nat) : Int)) rfl rfl (by rw [IntKind.wrap_i64]; omega)) rfl ?_
                refine R_pu (pu_assign rfl) rfl ?_
                refine R_nil ?_
                refine X_round (q + 1 - (i + 1)) [(0, .slice A (L.length) (c)), (3, .pointer (some ⟨p0_0, 0, none⟩)), (6, .int .i64 (((i + 1) : Nat) : Int))] (by omega) (Sub.cons rfl (Sub.cons rfl (Sub.cons rfl (Sub.nil _)))) ⟨i + 1, rfl, rfl, by omega, (hSk.step e_s2 e_s0 (by omega) (by omega) (by omega) (fun a ha => hI a (by omega))), kk7, f_p0_0_7⟩
    · refine C_exit ?_
      refine X_then_exit (X_then_exit (X_in_eq ?_))
      refine X_then hK14 ?_
      refine C_seq (fun K33 hK33 => ?_)
      exact absurd (hSk.ok (by omega)) hx2
set_option maxRecDepth 100000 in
set_option maxHeartbeats 2000000 in
theorem ref03_wrong_ok (A : Option Addr) (L : List Shr) (c q nn ge : Nat) (w : World) (HS : Ss w A L) (hm : (2 ≤ q + 1 ∧ q + 1 ≤ nn ∧ nn ≤ 255) ∧ (q + 1 ≤ L.length ∧ L.length ≤ c ∧ L.length < 9223372036854775808) ∧ ge < 4294967296 ∧ ∃ N, Good (L.take (q + 1)) ge N) : Ret Tryd.prog 48 #[.slice A (L.length) (c), .agg ([.int .i64 ((q + 1 : Nat) : Int), .int .i64 ((nn : Nat) : Int), .int .u32 ((ge : Nat) : Int)] : List Value).toArray] w (fun v w' => v = .int .i64 0 ∧ Kp No w w') := by
  obtain ⟨hP, ⟨hl1, hl2, hl3⟩, hge, N, hG⟩ := hm; have hN1 := hG.n1; have hN2 := hG.n2
  have kk0 := Kp.refl No w
  refine enter (n := 90) [.slice A (L.length) (c), .agg ([.int .i64 ((q + 1 : Nat) : Int), .int .i64 ((nn : Nat) : Int), .int .u32 ((ge : Nat) : Int)] : List Value).toArray] Tryd.func48 rfl rfl rfl ?_
  show Cw _ _ _ _ [(0, .slice A (L.length) (c)), (1, .agg ([.int .i64 ((q + 1 : Nat) : Int), .int .i64 ((nn : Nat) : Int), .int .u32 ((ge : Nat) : Int)] : List Value).toArray)] _
  refine C_seq (fun K1 hK1 => ?_)
  refine C_region ?_
  refine R_lo (lo_box (L := [.int .i64 ((q + 1 : Nat) : Int), .int .i64 ((nn : Nat) : Int), .int .u32 ((ge : Nat) : Int)]) rfl rfl) rfl ?_
  rintro _ w1 ⟨p0_0, rfl, N1⟩
  have k1 := N1.kp
  have kk1 := kk0.then_ k1
  have f_p0_0_1 : Bk w1 p0_0 ([.int .i64 ((q + 1 : Nat) : Int), .int .i64 ((nn : Nat) : Int), .int .u32 ((ge : Nat) : Int)]) 25 := N1.bk
  refine R_pu (pu_assign rfl) rfl ?_
  refine R_nil ?_
  refine X_then hK1 ?_
  refine C_seq (fun K2 hK2 => ?_)
  refine C_seq (fun K3 hK3 => ?_)
  refine C_region ?_
  refine R_pu (pu_loadRow (len := 3) f_p0_0_1 (by kernel_rfl) (by kernel_rfl) rfl rfl) rfl ?_
  refine R_lo (lo_call (by kernel_rfl) rfl (ref03_may_yes q nn ge _ hP)) rfl ?_
  rintro _ w2 ⟨rfl, k2⟩
  have kk2 := kk1.then_ k2
  refine R_pu (pu_not rfl) rfl ?_
  refine R_nil ?_
  refine X_then hK3 ?_
  refine C_false rfl ?_
  refine C_skip ?_
  refine X_then hK2 ?_
  refine C_seq (fun K4 hK4 => ?_)
  refine C_seq (fun K5 hK5 => ?_)
  refine C_region ?_
  refine R_pu (pu_move rfl) rfl ?_
  refine R_pu (pu_len Tryd.underlying36 rfl) rfl ?_
  refine R_pu (pu_fieldAddr (off := 0) (o' := 0) (by kernel_rfl) rfl rfl) rfl ?_
  have f6 : Bk w2 p0_0 ([.int .i64 ((q + 1 : Nat) : Int), .int .i64 ((nn : Nat) : Int), .int .u32 ((ge : Nat) : Int)]) 25 := (f_p0_0_1.no k2)
  refine R_pu (pu_loadK f6 (by kernel_rfl) rfl rfl) rfl ?_
  refine R_pu (pu_false (pu_lss (p := L.length < (q + 1)) rfl rfl (by omega)) (by omega)) rfl ?_
  refine R_nil ?_
  refine X_then hK5 ?_
  refine C_false rfl ?_
  refine C_skip ?_
  refine X_then hK4 ?_
  refine C_seq (fun K7 hK7 => ?_)
  refine C_seq (fun K8 hK8 => ?_)
  obtain ⟨M, hM⟩ : ∃ M, M = L.take (q + 1) := ⟨_, rfl⟩
  have hML : M.length = q + 1 := by rw [hM, List.length_take]; omega
  have HSM : Ss w A M := by rw [hM]; exact HS.take _
  rw [← hM] at hG
  have hMl : M.length ≤ L.length := by omega
  refine C_region ?_
  refine R_pu (pu_assign rfl) rfl ?_
  refine R_nil ?_
  refine X_then hK8 ?_
  refine C_block ?_
  refine C_loop (fun m_ l_ wr => ∃ i : Nat, (m_ = q + 1 - i) ∧ (l_ = [(0, .slice A (L.length) (c)), (3, .pointer (some ⟨p0_0, 0, none⟩)), (5, .int .i64 ((i : Nat) : Int))]) ∧ (i ≤ q + 1) ∧ (Kp No w wr) ∧ (Bk wr p0_0 ([.int .i64 ((q + 1 : Nat) : Int), .int .i64 ((nn : Nat) : Int), .int .u32 ((ge : Nat) : Int)]) 25)) (q + 1 - 0) [(0, .slice A (L.length) (c)), (3, .pointer (some ⟨p0_0, 0, none⟩)), (5, .int .i64 0)] (Sub.cons rfl (Sub.cons rfl (Sub.cons rfl (Sub.nil _)))) ⟨0, rfl, rfl, by omega, kk2, f6⟩ ?_
  rintro _ _ w3 ⟨i, rfl, rfl, hi, kk3, f_p0_0_3⟩
  refine C_seq (fun K9 hK9 => ?_)
  refine C_seq (fun K10 hK10 => ?_)
  refine C_region ?_
  refine R_pu (pu_move rfl) rfl ?_
  refine R_pu (pu_fieldAddr (off := 0) (o' := 0) (by kernel_rfl) rfl rfl) rfl ?_
  refine R_pu (pu_loadK f_p0_0_3 (by kernel_rfl) rfl rfl) rfl ?_
  refine R_pu (pu_lss (p := i < (q + 1)) rfl rfl (by omega)) rfl ?_
  refine R_nil ?_
  refine X_then hK10 ?_
  refine C_dec rfl (fun h19 => ?_) (fun h19 => ?_)
  · refine C_skip ?_
    refine X_then hK9 ?_
    refine C_seq (fun K11 hK11 => ?_)
    refine C_block ?_
    refine C_seq (fun K12 hK12 => ?_)
    refine D_begin (fun W => Kp No w W ∧ Bk W p0_0 ([.int .i64 ((q + 1 : Nat) : Int), .int .i64 ((nn : Nat) : Int), .int .u32 ((ge : Nat) : Int)]) 25) 8 rfl (by kernel_rfl) ⟨kk3.drew, f_p0_0_3.draw⟩ ?_
    intro w4 k4 _
    have kk4 := kk3.then_ k4
    refine D_take 0 rfl (by kernel_rfl) (by kernel_rfl) (by kernel_rfl) (fun _ _ _ h => h) rfl (fun W hS => pu_move rfl) ?_
    refine D_take 1 rfl (by kernel_rfl) (by kernel_rfl) (by kernel_rfl) (fun _ _ _ h => h) rfl (fun W hS => pu_move rfl) ?_
    obtain ⟨s1, e_s1⟩ : ∃ q_, (M)[i]? = some q_ := ⟨_, List.getElem?_eq_getElem (by first | omega | (simp; done) | (simp; omega))⟩
    have ok_s1 := HSM.get e_s1
    have okb_s1 := ok_s1.bs
    have bi_s1 : s1.ix < 256 := ok_s1.ix
    refine D_take 2 rfl (by kernel_rfl) (by kernel_rfl) (by kernel_rfl) (fun _ _ _ h => h) rfl (fun W hS => pu_indexAddrL (HSM.keptNo hS.1) Tryd.underlying36 (by kernel_rfl) rfl hMl rfl rfl e_s1) ?_
    refine D_take 3 rfl (by kernel_rfl) (by kernel_rfl) (by kernel_rfl) (fun _ _ _ h => h) rfl (fun W hS => pu_fieldAddrH (off := 1) (HSM.keptNo hS.1) e_s1 (by kernel_rfl) rfl) ?_
    refine D_take 4 rfl (by kernel_rfl) (by kernel_rfl) (by kernel_rfl) (fun _ _ _ h => h) rfl (fun W hS => pu_loadH (HSM.keptNo hS.1) e_s1 (by kernel_rfl) rfl rfl) ?_
    refine D_take 5 rfl (by kernel_rfl) (by kernel_rfl) (by kernel_rfl) (fun _ _ _ h => h) rfl (fun W hS => pu_fieldAddr (off := 2) (o' := 2) (by kernel_rfl) rfl rfl) ?_
    refine D_take 6 rfl (by kernel_rfl) (by kernel_rfl) (by kernel_rfl) (fun _ _ _ h => h) rfl (fun W hS => pu_loadK hS.2 (by kernel_rfl) rfl rfl) ?_
    refine D_take 7 rfl (by kernel_rfl) (by kernel_rfl) (by kernel_rfl) (fun _ _ _ h => h) rfl (fun W hS => pu_neq (p := s1.gen = ge) rfl rfl (by omega)) ?_
    refine D_done (by kernel_rfl) ?_
    refine X_then hK12 ?_
    refine C_decf rfl (fun h => h (hG.geni e_s1)) ?_
    refine C_skip ?_
    refine X_in_normal ?_
    refine X_then hK11 ?_
    refine C_region ?_
    refine R_pu (pu_move rfl) rfl ?_
    refine R_pu (pu_add (z := ((i + 1 : Nat) : Int)) rfl rfl (by rw [IntKind.wrap_i64]; omega)) rfl ?_
    refine R_pu (pu_assign rfl) rfl ?_
    refine R_nil ?_
    have f13 : Bk w4 p0_0 ([.int .i64 ((q + 1 : Nat) : Int), .int .i64 ((nn : Nat) : Int), .int .u32 ((ge : Nat) : Int)]) 25 := (f_p0_0_3.no k4)
    refine X_round (q + 1 - (i + 1)) [(0, .slice A (L.length) (c)), (3, .pointer (some ⟨p0_0, 0, none⟩)), (5, .int .i64 (((i + 1) : Nat) : Int))] (by omega) (Sub.cons rfl (Sub.cons rfl (Sub.cons rfl (Sub.nil _)))) ⟨i + 1, rfl, rfl, by omega, kk4, f13⟩
  · refine C_exit ?_
    refine X_then_exit (X_then_exit (X_in_eq ?_))
    refine X_then hK7 ?_
    refine C_seq (fun K14 hK14 => ?_)
    refine C_seq (fun K15 hK15 => ?_)
    refine C_region ?_
    refine R_pu (pu_assign rfl) rfl ?_
    refine R_nil ?_
    refine X_then hK15 ?_
    refine C_block ?_
    refine C_loop (fun m_ l_ wr => ∃ i : Nat, (m_ = q + 1 - i) ∧ (l_ = [(0, .slice A (L.length) (c)), (3, .pointer (some ⟨p0_0, 0, none⟩)), (6, .int .i64 ((i : Nat) : Int))]) ∧ (i ≤ q + 1) ∧ (Kp No w wr) ∧ (Bk wr p0_0 ([.int .i64 ((q + 1 : Nat) : Int), .int .i64 ((nn : Nat) : Int), .int .u32 ((ge : Nat) : Int)]) 25)) (q + 1 - 0) [(0, .slice A (L.length) (c)), (3, .pointer (some ⟨p0_0, 0, none⟩)), (6, .int .i64 0)] (Sub.cons rfl (Sub.cons rfl (Sub.cons rfl (Sub.nil _)))) ⟨0, rfl, rfl, by omega, kk3, f_p0_0_3⟩ ?_
    rintro _ _ w5 ⟨i, rfl, rfl, hi, kk5, f_p0_0_5⟩
    refine C_seq (fun K16 hK16 => ?_)
    refine C_seq (fun K17 hK17 => ?_)
    refine C_region ?_
    refine R_pu (pu_move rfl) rfl ?_
    refine R_pu (pu_fieldAddr (off := 0) (o' := 0) (by kernel_rfl) rfl rfl) rfl ?_
    refine R_pu (pu_loadK f_p0_0_5 (by kernel_rfl) rfl rfl) rfl ?_
    refine R_pu (pu_lss (p := i < (q + 1)) rfl rfl (by omega)) rfl ?_
    refine R_nil ?_
    refine X_then hK17 ?_
    refine C_dec rfl (fun h33 => ?_) (fun h33 => ?_)
    · refine C_skip ?_
      refine X_then hK16 ?_
      refine C_seq (fun K18 hK18 => ?_)
      refine C_block ?_
      refine C_seq (fun K19 hK19 => ?_)
      refine C_seq (fun K20 hK20 => ?_)
      refine D_begin (fun W => Kp No w W ∧ Bk W p0_0 ([.int .i64 ((q + 1 : Nat) : Int), .int .i64 ((nn : Nat) : Int), .int .u32 ((ge : Nat) : Int)]) 25) 38 rfl (by kernel_rfl) ⟨kk5.drew, f_p0_0_5.draw⟩ ?_
      intro w6 k6 _
      have kk6 := kk5.then_ k6
      refine D_take 0 rfl (by kernel_rfl) (by kernel_rfl) (by kernel_rfl) (fun _ _ _ h => h) rfl (fun W hS => pu_move rfl) ?_
      refine D_take 1 rfl (by kernel_rfl) (by kernel_rfl) (by kernel_rfl) (fun _ _ _ h => h) rfl (fun W hS => pu_move rfl) ?_
      obtain ⟨s2, e_s2⟩ : ∃ q_, (M)[i]? = some q_ := ⟨_, List.getElem?_eq_getElem (by first | omega | (simp; done) | (simp; omega))⟩
      have ok_s2 := HSM.get e_s2
      have okb_s2 := ok_s2.bs
      have bi_s2 : s2.ix < 256 := ok_s2.ix
      refine D_take 2 rfl (by kernel_rfl) (by kernel_rfl) (by kernel_rfl) (fun _ _ _ h => h) rfl (fun W hS => pu_indexAddrL (HSM.keptNo hS.1) Tryd.underlying36 (by kernel_rfl) rfl hMl rfl rfl e_s2) ?_
      refine D_take 3 rfl (by kernel_rfl) (by kernel_rfl) (by kernel_rfl) (fun _ _ _ h => h) rfl (fun W hS => pu_fieldAddrH (off := 0) (HSM.keptNo hS.1) e_s2 (by kernel_rfl) rfl) ?_
      refine D_take 4 rfl (by kernel_rfl) (by kernel_rfl) (by kernel_rfl) (fun _ _ _ h => h) rfl (fun W hS => pu_loadH (HSM.keptNo hS.1) e_s2 (by kernel_rfl) rfl rfl) ?_
      refine D_take 5 rfl (by kernel_rfl) (by kernel_rfl) (by kernel_rfl) (fun _ _ _ h => h) rfl (fun W hS => pu_false (pu_eql (p := s2.ix = 0) rfl rfl (by omega)) (hG.ixi e_s2)) ?_
      refine D_take 6 rfl (by kernel_rfl) (by kernel_rfl) (by kernel_rfl) (fun _ _ _ h => h) rfl (fun W hS => pu_move rfl) ?_
      refine D_gtake 7 rfl rfl rfl (by kernel_rfl) (by kernel_rfl) (by kernel_rfl) (fun _ _ _ h => h) rfl (fun W hS => pu_move rfl) ?_
      refine D_gtake 8 rfl rfl rfl (by kernel_rfl) (by kernel_rfl) (by kernel_rfl) (fun _ _ _ h => h) rfl (fun W hS => pu_move rfl) ?_
      refine D_gtake 9 rfl rfl rfl (by kernel_rfl) (by kernel_rfl) (by kernel_rfl) (fun _ _ _ h => h) rfl (fun W hS => pu_indexAddrL (HSM.keptNo hS.1) Tryd.underlying36 (by kernel_rfl) rfl hMl rfl rfl e_s2) ?_
      refine D_gtake 10 rfl rfl rfl (by kernel_rfl) (by kernel_rfl) (by kernel_rfl) (fun _ _ _ h => h) rfl (fun W hS => pu_fieldAddrH (off := 2) (HSM.keptNo hS.1) e_s2 (by kernel_rfl) rfl) ?_
      refine D_gtake 11 rfl rfl rfl (by kernel_rfl) (by kernel_rfl) (by kernel_rfl) (fun _ _ _ h => h) rfl (fun W hS => pu_loadH (HSM.keptNo hS.1) e_s2 (by kernel_rfl) rfl rfl) ?_
      refine D_gtake 12 rfl rfl rfl (by kernel_rfl) (by kernel_rfl) (by kernel_rfl) (fun _ _ _ h => h) rfl (fun W hS => pu_len Tryd.underlying22 rfl) ?_
      refine D_gtake 13 rfl rfl rfl (by kernel_rfl) (by kernel_rfl) (by kernel_rfl) (fun _ _ _ h => h) rfl (fun W hS => pu_move rfl) ?_
      obtain ⟨s0, e_s0⟩ : ∃ q_, (M)[0]? = some q_ := ⟨_, List.getElem?_eq_getElem (by first | omega | (simp; done) | (simp; omega))⟩
      have ok_s0 := HSM.get e_s0
      have okb_s0 := ok_s0.bs
      have bi_s0 : s0.ix < 256 := ok_s0.ix
      refine D_gtake 14 rfl rfl rfl (by kernel_rfl) (by kernel_rfl) (by kernel_rfl) (fun _ _ _ h => h) rfl (fun W hS => pu_indexAddrL (HSM.keptNo hS.1) Tryd.underlying36 (by kernel_rfl) rfl hMl rfl rfl e_s0) ?_
      refine D_gtake 15 rfl rfl rfl (by kernel_rfl) (by kernel_rfl) (by kernel_rfl) (fun _ _ _ h => h) rfl (fun W hS => pu_fieldAddrH (off := 2) (HSM.keptNo hS.1) e_s0 (by kernel_rfl) rfl) ?_
      refine D_gtake 16 rfl rfl rfl (by kernel_rfl) (by kernel_rfl) (by kernel_rfl) (fun _ _ _ h => h) rfl (fun W hS => pu_loadH (HSM.keptNo hS.1) e_s0 (by kernel_rfl) rfl rfl) ?_
      refine D_gtake 17 rfl rfl rfl (by kernel_rfl) (by kernel_rfl) (by kernel_rfl) (fun _ _ _ h => h) rfl (fun W hS => pu_len Tryd.underlying22 rfl) ?_
      refine D_gtake 18 rfl rfl rfl (by kernel_rfl) (by kernel_rfl) (by kernel_rfl) (fun _ _ _ h => h) rfl (fun W hS => pu_false (pu_neq (p := s2.X.length = s0.X.length) rfl rfl (by omega)) (fun h => h ((hG.leni e_s2).trans (hG.leni e_s0).symm))) ?_
      refine D_take 19 rfl (by kernel_rfl) (by kernel_rfl) (by kernel_rfl) (fun _ _ _ h => h) rfl (fun W hS => pu_pickf rfl rfl) ?_
      refine D_take 20 rfl (by kernel_rfl) (by kernel_rfl) (by kernel_rfl) (fun _ _ _ h => h) rfl (fun W hS => pu_move rfl) ?_
      refine D_gtake 21 rfl rfl rfl (by kernel_rfl) (by kernel_rfl) (by kernel_rfl) (fun _ _ _ h => h) rfl (fun W hS => pu_move rfl) ?_
      refine D_gtake 22 rfl rfl rfl (by kernel_rfl) (by kernel_rfl) (by kernel_rfl) (fun _ _ _ h => h) rfl (fun W hS => pu_move rfl) ?_
      refine D_gtake 23 rfl rfl rfl (by kernel_rfl) (by kernel_rfl) (by kernel_rfl) (fun _ _ _ h => h) rfl (fun W hS => pu_indexAddrL (HSM.keptNo hS.1) Tryd.underlying36 (by kernel_rfl) rfl hMl rfl rfl e_s2) ?_
      refine D_gtake 24 rfl rfl rfl (by kernel_rfl) (by kernel_rfl) (by kernel_rfl) (fun _ _ _ h => h) rfl (fun W hS => pu_fieldAddrH (off := 2) (HSM.keptNo hS.1) e_s2 (by kernel_rfl) rfl) ?_
      refine D_gtake 25 rfl rfl rfl (by kernel_rfl) (by kernel_rfl) (by kernel_rfl) (fun _ _ _ h => h) rfl (fun W hS => pu_loadH (HSM.keptNo hS.1) e_s2 (by kernel_rfl) rfl rfl) ?_
      refine D_gtake 26 rfl rfl rfl (by kernel_rfl) (by kernel_rfl) (by kernel_rfl) (fun _ _ _ h => h) rfl (fun W hS => pu_len Tryd.underlying22 rfl) ?_
      refine D_gtake 27 rfl rfl rfl (by kernel_rfl) (by kernel_rfl) (by kernel_rfl) (fun _ _ _ h => h) rfl (fun W hS => pu_false (pu_lss (p := s2.X.length < 1) rfl rfl (by omega)) (by have := hG.leni e_s2; omega)) ?_
      refine D_take 28 rfl (by kernel_rfl) (by kernel_rfl) (by kernel_rfl) (fun _ _ _ h => h) rfl (fun W hS => pu_pickf rfl rfl) ?_
      refine D_take 29 rfl (by kernel_rfl) (by kernel_rfl) (by kernel_rfl) (fun _ _ _ h => h) rfl (fun W hS => pu_move rfl) ?_
      refine D_gtake 30 rfl rfl rfl (by kernel_rfl) (by kernel_rfl) (by kernel_rfl) (fun _ _ _ h => h) rfl (fun W hS => pu_move rfl) ?_
      refine D_gtake 31 rfl rfl rfl (by kernel_rfl) (by kernel_rfl) (by kernel_rfl) (fun _ _ _ h => h) rfl (fun W hS => pu_move rfl) ?_
      refine D_gtake 32 rfl rfl rfl (by kernel_rfl) (by kernel_rfl) (by kernel_rfl) (fun _ _ _ h => h) rfl (fun W hS => pu_indexAddrL (HSM.keptNo hS.1) Tryd.underlying36 (by kernel_rfl) rfl hMl rfl rfl e_s2) ?_
      refine D_gtake 33 rfl rfl rfl (by kernel_rfl) (by kernel_rfl) (by kernel_rfl) (fun _ _ _ h => h) rfl (fun W hS => pu_fieldAddrH (off := 2) (HSM.keptNo hS.1) e_s2 (by kernel_rfl) rfl) ?_
      refine D_gtake 34 rfl rfl rfl (by kernel_rfl) (by kernel_rfl) (by kernel_rfl) (fun _ _ _ h => h) rfl (fun W hS => pu_loadH (HSM.keptNo hS.1) e_s2 (by kernel_rfl) rfl rfl) ?_
      refine D_gtake 35 rfl rfl rfl (by kernel_rfl) (by kernel_rfl) (by kernel_rfl) (fun _ _ _ h => h) rfl (fun W hS => pu_len Tryd.underlying22 rfl) ?_
      refine D_gtake 36 rfl rfl rfl (by kernel_rfl) (by kernel_rfl) (by kernel_rfl) (fun _ _ _ h => h) rfl (fun W hS => pu_false (pu_gtr (p := s2.X.length > 64) rfl rfl (by omega)) (by have := hG.leni e_s2; omega)) ?_
      refine D_take 37 rfl (by kernel_rfl) (by kernel_rfl) (by kernel_rfl) (fun _ _ _ h => h) rfl (fun W hS => pu_pickf rfl rfl) ?_
      refine D_done (by kernel_rfl) ?_
      refine X_then hK20 ?_
      refine C_false rfl ?_
      refine C_skip ?_
      refine X_then hK19 ?_
      refine C_seq (fun K21 hK21 => ?_)
      refine C_region ?_
      refine R_pu (pu_assign rfl) rfl ?_
      refine R_nil ?_
      refine X_then hK21 ?_
      refine C_block ?_
      have f22 : Bk w6 p0_0 ([.int .i64 ((q + 1 : Nat) : Int), .int .i64 ((nn : Nat) : Int), .int .u32 ((ge : Nat) : Int)]) 25 := (f_p0_0_5.no k6)
      refine C_loop (fun m_ l_ wr => ∃ k : Nat, (m_ = i - k) ∧ (l_ = [(0, .slice A (L.length) (c)), (3, .pointer (some ⟨p0_0, 0, none⟩)), (6, .int .i64 ((i : Nat) : Int)), (7, .int .i64 ((k : Nat) : Int))]) ∧ (k ≤ i) ∧ (Kp No w wr) ∧ (Bk wr p0_0 ([.int .i64 ((q + 1 : Nat) : Int), .int .i64 ((nn : Nat) : Int), .int .u32 ((ge : Nat) : Int)]) 25)) (i - 0) [(0, .slice A (L.length) (c)), (3, .pointer (some ⟨p0_0, 0, none⟩)), (6, .int .i64 ((i : Nat) : Int)), (7, .int .i64 0)] (Sub.cons rfl (Sub.cons rfl (Sub.cons rfl (Sub.cons rfl (Sub.nil _))))) ⟨0, rfl, rfl, by omega, kk6, f22⟩ ?_
      rintro _ _ w7 ⟨k, rfl, rfl, hk, kk7, f_p0_0_7⟩
      refine C_seq (fun K23 hK23 => ?_)
      refine C_seq (fun K24 hK24 => ?_)
      refine C_region ?_
      refine R_pu (pu_move rfl) rfl ?_
      refine R_pu (pu_move rfl) rfl ?_
      refine R_pu (pu_lss (p := k < i) rfl rfl (by omega)) rfl ?_
      refine R_nil ?_
      refine X_then hK24 ?_
      refine C_dec rfl (fun h76 => ?_) (fun h76 => ?_)
      · refine C_skip ?_
        refine X_then hK23 ?_
        refine C_seq (fun K25 hK25 => ?_)
        refine C_block ?_
        refine C_seq (fun K26 hK26 => ?_)
        refine D_begin (fun W => Kp No w W ∧ Bk W p0_0 ([.int .i64 ((q + 1 : Nat) : Int), .int .i64 ((nn : Nat) : Int), .int .u32 ((ge : Nat) : Int)]) 25) 11 rfl (by kernel_rfl) ⟨kk7.drew, f_p0_0_7.draw⟩ ?_
        intro w8 k8 _
        have kk8 := kk7.then_ k8
        refine D_take 0 rfl (by kernel_rfl) (by kernel_rfl) (by kernel_rfl) (fun _ _ _ h => h) rfl (fun W hS => pu_move rfl) ?_
        refine D_take 1 rfl (by kernel_rfl) (by kernel_rfl) (by kernel_rfl) (fun _ _ _ h => h) rfl (fun W hS => pu_move rfl) ?_
        obtain ⟨s3, e_s3⟩ : ∃ q_, (M)[k]? = some q_ := ⟨_, List.getElem?_eq_getElem (by first | omega | (simp; done) | (simp; omega))⟩
        have ok_s3 := HSM.get e_s3
        have okb_s3 := ok_s3.bs
        have bi_s3 : s3.ix < 256 := ok_s3.ix
        refine D_take 2 rfl (by kernel_rfl) (by kernel_rfl) (by kernel_rfl) (fun _ _ _ h => h) rfl (fun W hS => pu_indexAddrL (HSM.keptNo hS.1) Tryd.underlying36 (by kernel_rfl) rfl hMl rfl rfl e_s3) ?_
        refine D_take 3 rfl (by kernel_rfl) (by kernel_rfl) (by kernel_rfl) (fun _ _ _ h => h) rfl (fun W hS => pu_fieldAddrH (off := 0) (HSM.keptNo hS.1) e_s3 (by kernel_rfl) rfl) ?_
        refine D_take 4 rfl (by kernel_rfl) (by kernel_rfl) (by kernel_rfl) (fun _ _ _ h => h) rfl (fun W hS => pu_loadH (HSM.keptNo hS.1) e_s3 (by kernel_rfl) rfl rfl) ?_
        refine D_take 5 rfl (by kernel_rfl) (by kernel_rfl) (by kernel_rfl) (fun _ _ _ h => h) rfl (fun W hS => pu_move rfl) ?_
        refine D_take 6 rfl (by kernel_rfl) (by kernel_rfl) (by kernel_rfl) (fun _ _ _ h => h) rfl (fun W hS => pu_move rfl) ?_
        obtain ⟨s4, e_s4⟩ : ∃ q_, (M)[i]? = some q_ := ⟨_, List.getElem?_eq_getElem (by first | omega | (simp; done) | (simp; omega))⟩
        have ok_s4 := HSM.get e_s4
        have okb_s4 := ok_s4.bs
        have bi_s4 : s4.ix < 256 := ok_s4.ix
        refine D_take 7 rfl (by kernel_rfl) (by kernel_rfl) (by kernel_rfl) (fun _ _ _ h => h) rfl (fun W hS => pu_indexAddrL (HSM.keptNo hS.1) Tryd.underlying36 (by kernel_rfl) rfl hMl rfl rfl e_s4) ?_
        refine D_take 8 rfl (by kernel_rfl) (by kernel_rfl) (by kernel_rfl) (fun _ _ _ h => h) rfl (fun W hS => pu_fieldAddrH (off := 0) (HSM.keptNo hS.1) e_s4 (by kernel_rfl) rfl) ?_
        refine D_take 9 rfl (by kernel_rfl) (by kernel_rfl) (by kernel_rfl) (fun _ _ _ h => h) rfl (fun W hS => pu_loadH (HSM.keptNo hS.1) e_s4 (by kernel_rfl) rfl rfl) ?_
        refine D_take 10 rfl (by kernel_rfl) (by kernel_rfl) (by kernel_rfl) (fun _ _ _ h => h) rfl (fun W hS => pu_eql (p := s3.ix = s4.ix) rfl rfl (by omega)) ?_
        refine D_done (by kernel_rfl) ?_
        refine X_then hK26 ?_
        refine C_decf rfl (fun h => hG.di k i (by omega) (by rw [ixs_length]; omega) (by rw [getD_some (ixs_get e_s3), getD_some (ixs_get e_s4)]; exact h)) ?_
        refine C_skip ?_
        refine X_in_normal ?_
        refine X_then hK25 ?_
        refine C_region ?_
        refine R_pu (pu_move rfl) rfl ?_
        refine R_pu (pu_add (z := ((k + 1 : Nat) : Int)) rfl rfl (by rw [IntKind.wrap_i64]; omega)) rfl ?_
        refine R_pu (pu_assign rfl) rfl ?_
        refine R_nil ?_
        have f27 : Bk w8 p0_0 ([.int .i64 ((q + 1 : Nat) : Int), .int .i64 ((nn : Nat) : Int), .int .u32 ((ge : Nat) : Int)]) 25 := (f_p0_0_7.no k8)
        refine X_round (i - (k + 1)) [(0, .slice A (L.length) (c)), (3, .pointer (some ⟨p0_0, 0, none⟩)), (6, .int .i64 ((i : Nat) : Int)), (7, .int .i64 (((k + 1) : Nat) : Int))] (by omega) (Sub.cons rfl (Sub.cons rfl (Sub.cons rfl (Sub.cons rfl (Sub.nil _))))) ⟨k + 1, rfl, rfl, by omega, kk8, f27⟩
      · refine C_exit ?_
        refine X_then_exit (X_then_exit (X_in_eq ?_))
        refine X_in_normal ?_
        refine X_then hK18 ?_
        refine C_region ?_
        refine R_pu (pu_move rfl) rfl ?_
        refine R_pu (pu_add (z := ((i + 1 : Nat) : Int)) rfl rfl (by rw [IntKind.wrap_i64]; omega)) rfl ?_
        refine R_pu (pu_assign rfl) rfl ?_
        refine R_nil ?_
        refine X_round (q + 1 - (i + 1)) [(0, .slice A (L.length) (c)), (3, .pointer (some ⟨p0_0, 0, none⟩)), (6, .int .i64 (((i + 1) : Nat) : Int))] (by omega) (Sub.cons rfl (Sub.cons rfl (Sub.cons rfl (Sub.nil _)))) ⟨i + 1, rfl, rfl, by omega, kk7, f_p0_0_7⟩
    · refine C_exit ?_
      refine X_then_exit (X_then_exit (X_in_eq ?_))
      refine X_then hK14 ?_
      refine C_seq (fun K28 hK28 => ?_)
      refine C_region ?_
      refine R_pu (pu_assign rfl) rfl ?_
      refine R_nil ?_
      refine X_then hK28 ?_
      refine C_ret ?_
      exact X_ret1 (.inl rfl) rfl rfl ⟨rfl, kk5⟩
set_option maxRecDepth 100000 in
set_option maxHeartbeats 2000000 in
theorem ref03_combine_plan (A : Option Addr) (L : List Shr) (c : Nat) (ka nn : Int) (ge : Nat) (x : Nat) (w : World) (HS : Ss w A L) (hm : (¬ (2 ≤ ka ∧ ka ≤ nn ∧ nn ≤ 255)) ∧ ge < 4294967296 ∧ L.length < 9223372036854775808) : Ret Tryd.prog 26 #[.slice A (L.length) (c), .agg ([.int .i64 (ka), .int .i64 (nn), .int .u32 ((ge : Nat) : Int)] : List Value).toArray, .int .u8 ((x : Nat) : Int)] w (fun v w' => v = .tuple #[.slice none 0 0, .int .i64 1] ∧ Kp No w w') := by
  have kk0 := Kp.refl No w
  refine enter (n := 79) [.slice A (L.length) (c), .agg ([.int .i64 (ka), .int .i64 (nn), .int .u32 ((ge : Nat) : Int)] : List Value).toArray, .int .u8 ((x : Nat) : Int)] Tryd.func26 rfl rfl rfl ?_
  show Cw _ _ _ _ [(0, .slice A (L.length) (c)), (1, .agg ([.int .i64 (ka), .int .i64 (nn), .int .u32 ((ge : Nat) : Int)] : List Value).toArray), (2, .int .u8 ((x : Nat) : Int))] _
  refine C_seq (fun K1 hK1 => ?_)
  refine C_region ?_
  refine R_lo (lo_box (L := [.int .i64 (ka), .int .i64 (nn), .int .u32 ((ge : Nat) : Int)]) rfl rfl) rfl ?_
  rintro _ w1 ⟨p0_0, rfl, N1⟩
  have k1 := N1.kp
  have kk1 := kk0.then_ k1
  have f_p0_0_1 : Bk w1 p0_0 ([.int .i64 (ka), .int .i64 (nn), .int .u32 ((ge : Nat) : Int)]) 25 := N1.bk
  refine R_pu (pu_assign rfl) rfl ?_
  refine R_pu (pu_assign rfl) rfl ?_
  refine R_nil ?_
  refine X_then hK1 ?_
  refine C_seq (fun K2 hK2 => ?_)
  refine C_region ?_
  refine R_pu (pu_move rfl) rfl ?_
  refine R_pu (pu_loadRow (len := 3) f_p0_0_1 (by kernel_rfl) (by kernel_rfl) rfl rfl) rfl ?_
  refine R_lo (lo_call (by kernel_rfl) rfl (ref03_wrong_plan A L c ka nn ge _ (HS.keptNo kk1) hm)) rfl ?_
  rintro _ w2 ⟨rfl, k2⟩
  have kk2 := kk1.then_ k2
  refine R_pu (pu_assign rfl) rfl ?_
  refine R_nil ?_
  refine X_then hK2 ?_
  refine C_seq (fun K3 hK3 => ?_)
  refine C_seq (fun K4 hK4 => ?_)
  refine C_region ?_
  refine R_pu (pu_move rfl) rfl ?_
  refine R_pu (pu_true (pu_neq (p := (1 : Nat) = 0) rfl rfl (by omega)) (by decide)) rfl ?_
  refine R_nil ?_
  refine X_then hK4 ?_
  refine C_true rfl ?_
  refine C_seq (fun K5 hK5 => ?_)
  refine C_region ?_
  refine R_pu (pu_move rfl) rfl ?_
  refine R_pu (pu_assign rfl) rfl ?_
  refine R_pu (pu_assign rfl) rfl ?_
  refine R_nil ?_
  refine X_then hK5 ?_
  refine C_ret ?_
  refine X_then_ret ?_
  exact X_ret2 (.inl rfl) rfl rfl rfl ⟨rfl, kk2⟩
set_option maxRecDepth 100000 in
set_option maxHeartbeats 2000000 in
theorem ref03_combine_short (A : Option Addr) (L : List Shr) (c q nn ge : Nat) (x : Nat) (w : World) (HS : Ss w A L) (hm : (2 ≤ q + 1 ∧ q + 1 ≤ nn ∧ nn ≤ 255) ∧ L.length < q + 1 ∧ ge < 4294967296 ∧ L.length < 9223372036854775808) : Ret Tryd.prog 26 #[.slice A (L.length) (c), .agg ([.int .i64 ((q + 1 : Nat) : Int), .int .i64 ((nn : Nat) : Int), .int .u32 ((ge : Nat) : Int)] : List Value).toArray, .int .u8 ((x : Nat) : Int)] w (fun v w' => v = .tuple #[.slice none 0 0, .int .i64 2] ∧ Kp No w w') := by
  have kk0 := Kp.refl No w
  refine enter (n := 79) [.slice A (L.length) (c), .agg ([.int .i64 ((q + 1 : Nat) : Int), .int .i64 ((nn : Nat) : Int), .int .u32 ((ge : Nat) : Int)] : List Value).toArray, .int .u8 ((x : Nat) : Int)] Tryd.func26 rfl rfl rfl ?_
  show Cw _ _ _ _ [(0, .slice A (L.length) (c)), (1, .agg ([.int .i64 ((q + 1 : Nat) : Int), .int .i64 ((nn : Nat) : Int), .int .u32 ((ge : Nat) : Int)] : List Value).toArray), (2, .int .u8 ((x : Nat) : Int))] _
  refine C_seq (fun K1 hK1 => ?_)
  refine C_region ?_
  refine R_lo (lo_box (L := [.int .i64 ((q + 1 : Nat) : Int), .int .i64 ((nn : Nat) : Int), .int .u32 ((ge : Nat) : Int)]) rfl rfl) rfl ?_
  rintro _ w1 ⟨p0_0, rfl, N1⟩
  have k1 := N1.kp
  have kk1 := kk0.then_ k1
  have f_p0_0_1 : Bk w1 p0_0 ([.int .i64 ((q + 1 : Nat) : Int), .int .i64 ((nn : Nat) : Int), .int .u32 ((ge : Nat) : Int)]) 25 := N1.bk
  refine R_pu (pu_assign rfl) rfl ?_
  refine R_pu (pu_assign rfl) rfl ?_
  refine R_nil ?_
  refine X_then hK1 ?_
  refine C_seq (fun K2 hK2 => ?_)
  refine C_region ?_
  refine R_pu (pu_move rfl) rfl ?_
  refine R_pu (pu_loadRow (len := 3) f_p0_0_1 (by kernel_rfl) (by kernel_rfl) rfl rfl) rfl ?_
  refine R_lo (lo_call (by kernel_rfl) rfl (ref03_wrong_short A L c q nn ge _ (HS.keptNo kk1) hm)) rfl ?_
  rintro _ w2 ⟨rfl, k2⟩
  have kk2 := kk1.then_ k2
  refine R_pu (pu_assign rfl) rfl ?_
  refine R_nil ?_
  refine X_then hK2 ?_
  refine C_seq (fun K3 hK3 => ?_)
  refine C_seq (fun K4 hK4 => ?_)
  refine C_region ?_
  refine R_pu (pu_move rfl) rfl ?_
  refine R_pu (pu_true (pu_neq (p := (2 : Nat) = 0) rfl rfl (by omega)) (by decide)) rfl ?_
  refine R_nil ?_
  refine X_then hK4 ?_
  refine C_true rfl ?_
  refine C_seq (fun K5 hK5 => ?_)
  refine C_region ?_
  refine R_pu (pu_move rfl) rfl ?_
  refine R_pu (pu_assign rfl) rfl ?_
  refine R_pu (pu_assign rfl) rfl ?_
  refine R_nil ?_
  refine X_then hK5 ?_
  refine C_ret ?_
  refine X_then_ret ?_
  exact X_ret2 (.inl rfl) rfl rfl rfl ⟨rfl, kk2⟩
set_option maxRecDepth 100000 in
set_option maxHeartbeats 2000000 in
theorem ref03_combine_gen (A : Option Addr) (L : List Shr) (c q nn ge : Nat) (x : Nat) (w : World) (HS : Ss w A L) (hm : (2 ≤ q + 1 ∧ q + 1 ≤ nn ∧ nn ≤ 255) ∧ (q + 1 ≤ L.length ∧ L.length ≤ c ∧ L.length < 9223372036854775808) ∧ ge < 4294967296 ∧ ¬ (∀ s ∈ L.take (q + 1), s.gen = ge)) : Ret Tryd.prog 26 #[.slice A (L.length) (c), .agg ([.int .i64 ((q + 1 : Nat) : Int), .int .i64 ((nn : Nat) : Int), .int .u32 ((ge : Nat) : Int)] : List Value).toArray, .int .u8 ((x : Nat) : Int)] w (fun v w' => v = .tuple #[.slice none 0 0, .int .i64 14] ∧ Kp No w w') := by
  have kk0 := Kp.refl No w
  refine enter (n := 79) [.slice A (L.length) (c), .agg ([.int .i64 ((q + 1 : Nat) : Int), .int .i64 ((nn : Nat) : Int), .int .u32 ((ge : Nat) : Int)] : List Value).toArray, .int .u8 ((x : Nat) : Int)] Tryd.func26 rfl rfl rfl ?_
  show Cw _ _ _ _ [(0, .slice A (L.length) (c)), (1, .agg ([.int .i64 ((q + 1 : Nat) : Int), .int .i64 ((nn : Nat) : Int), .int .u32 ((ge : Nat) : Int)] : List Value).toArray), (2, .int .u8 ((x : Nat) : Int))] _
  refine C_seq (fun K1 hK1 => ?_)
  refine C_region ?_
  refine R_lo (lo_box (L := [.int .i64 ((q + 1 : Nat) : Int), .int .i64 ((nn : Nat) : Int), .int .u32 ((ge : Nat) : Int)]) rfl rfl) rfl ?_
  rintro _ w1 ⟨p0_0, rfl, N1⟩
  have k1 := N1.kp
  have kk1 := kk0.then_ k1
  have f_p0_0_1 : Bk w1 p0_0 ([.int .i64 ((q + 1 : Nat) : Int), .int .i64 ((nn : Nat) : Int), .int .u32 ((ge : Nat) : Int)]) 25 := N1.bk
  refine R_pu (pu_assign rfl) rfl ?_
  refine R_pu (pu_assign rfl) rfl ?_
  refine R_nil ?_
  refine X_then hK1 ?_
  refine C_seq (fun K2 hK2 => ?_)
  refine C_region ?_
  refine R_pu (pu_move rfl) rfl ?_
  refine R_pu (pu_loadRow (len := 3) f_p0_0_1 (by kernel_rfl) (by kernel_rfl) rfl rfl) rfl ?_
  refine R_lo (lo_call (by kernel_rfl) rfl (ref03_wrong_gen A L c q nn ge _ (HS.keptNo kk1) hm)) rfl ?_
  rintro _ w2 ⟨rfl, k2⟩
  have kk2 := kk1.then_ k2
  refine R_pu (pu_assign rfl) rfl ?_
  refine R_nil ?_
  refine X_then hK2 ?_
  refine C_seq (fun K3 hK3 => ?_)
  refine C_seq (fun K4 hK4 => ?_)
  refine C_region ?_
  refine R_pu (pu_move rfl) rfl ?_
  refine R_pu (pu_true (pu_neq (p := (14 : Nat) = 0) rfl rfl (by omega)) (by decide)) rfl ?_
  refine R_nil ?_
  refine X_then hK4 ?_
  refine C_true rfl ?_
  refine C_seq (fun K5 hK5 => ?_)
  refine C_region ?_
  refine R_pu (pu_move rfl) rfl ?_
  refine R_pu (pu_assign rfl) rfl ?_
  refine R_pu (pu_assign rfl) rfl ?_
  refine R_nil ?_
  refine X_then hK5 ?_
  refine C_ret ?_
  refine X_then_ret ?_
  exact X_ret2 (.inl rfl) rfl rfl rfl ⟨rfl, kk2⟩
set_option maxRecDepth 100000 in
set_option maxHeartbeats 2000000 in
theorem ref03_combine_share (A : Option Addr) (L : List Shr) (c q nn ge : Nat) (x : Nat) (w : World) (HS : Ss w A L) (hm : (2 ≤ q + 1 ∧ q + 1 ≤ nn ∧ nn ≤ 255) ∧ (q + 1 ≤ L.length ∧ L.length ≤ c ∧ L.length < 9223372036854775808) ∧ ge < 4294967296 ∧ (∀ s ∈ L.take (q + 1), s.gen = ge) ∧ ¬ ShOk (L.take (q + 1))) : Ret Tryd.prog 26 #[.slice A (L.length) (c), .agg ([.int .i64 ((q + 1 : Nat) : Int), .int .i64 ((nn : Nat) : Int), .int .u32 ((ge : Nat) : Int)] : List Value).toArray, .int .u8 ((x : Nat) : Int)] w (fun v w' => v = .tuple #[.slice none 0 0, .int .i64 12] ∧ Kp No w w') := by
  have kk0 := Kp.refl No w
  refine enter (n := 79) [.slice A (L.length) (c), .agg ([.int .i64 ((q + 1 : Nat) : Int), .int .i64 ((nn : Nat) : Int), .int .u32 ((ge : Nat) : Int)] : List Value).toArray, .int .u8 ((x : Nat) : Int)] Tryd.func26 rfl rfl rfl ?_
  show Cw _ _ _ _ [(0, .slice A (L.length) (c)), (1, .agg ([.int .i64 ((q + 1 : Nat) : Int), .int .i64 ((nn : Nat) : Int), .int .u32 ((ge : Nat) : Int)] : List Value).toArray), (2, .int .u8 ((x : Nat) : Int))] _
  refine C_seq (fun K1 hK1 => ?_)
  refine C_region ?_
  refine R_lo (lo_box (L := [.int .i64 ((q + 1 : Nat) : Int), .int .i64 ((nn : Nat) : Int), .int .u32 ((ge : Nat) : Int)]) rfl rfl) rfl ?_
  rintro _ w1 ⟨p0_0, rfl, N1⟩
  have k1 := N1.kp
  have kk1 := kk0.then_ k1
  have f_p0_0_1 : Bk w1 p0_0 ([.int .i64 ((q + 1 : Nat) : Int), .int .i64 ((nn : Nat) : Int), .int .u32 ((ge : Nat) : Int)]) 25 := N1.bk
  refine R_pu (pu_assign rfl) rfl ?_
  refine R_pu (pu_assign rfl) rfl ?_
  refine R_nil ?_
  refine X_then hK1 ?_
  refine C_seq (fun K2 hK2 => ?_)
  refine C_region ?_
  refine R_pu (pu_move rfl) rfl ?_
  refine R_pu (pu_loadRow (len := 3) f_p0_0_1 (by kernel_rfl) (by kernel_rfl) rfl rfl) rfl ?_
  refine R_lo (lo_call (by kernel_rfl) rfl (ref03_wrong_share A L c q nn ge _ (HS.keptNo kk1) hm)) rfl ?_
  rintro _ w2 ⟨rfl, k2⟩
  have kk2 := kk1.then_ k2
  refine R_pu (pu_assign rfl) rfl ?_
  refine R_nil ?_
  refine X_then hK2 ?_
  refine C_seq (fun K3 hK3 => ?_)
  refine C_seq (fun K4 hK4 => ?_)
  refine C_region ?_
  refine R_pu (pu_move rfl) rfl ?_
  refine R_pu (pu_true (pu_neq (p := (12 : Nat) = 0) rfl rfl (by omega)) (by decide)) rfl ?_
  refine R_nil ?_
  refine X_then hK4 ?_
  refine C_true rfl ?_
  refine C_seq (fun K5 hK5 => ?_)
  refine C_region ?_
  refine R_pu (pu_move rfl) rfl ?_
  refine R_pu (pu_assign rfl) rfl ?_
  refine R_pu (pu_assign rfl) rfl ?_
  refine R_nil ?_
  refine X_then hK5 ?_
  refine C_ret ?_
  refine X_then_ret ?_
  exact X_ret2 (.inl rfl) rfl rfl rfl ⟨rfl, kk2⟩
set_option maxRecDepth 100000 in
set_option maxHeartbeats 2000000 in
theorem ref03_combine (A : Option Addr) (L : List Shr) (c q nn ge : Nat) (x N : Nat) (w : World) (HS : Ss w A L) (hm : (2 ≤ q + 1 ∧ q + 1 ≤ nn ∧ nn ≤ 255) ∧ (q + 1 ≤ L.length ∧ L.length ≤ c ∧ L.length < 9223372036854775808) ∧ ge < 4294967296 ∧ Good (L.take (q + 1)) ge N) (hx : x < 256) : Ret Tryd.prog 26 #[.slice A (L.length) (c), .agg ([.int .i64 ((q + 1 : Nat) : Int), .int .i64 ((nn : Nat) : Int), .int .u32 ((ge : Nat) : Int)] : List Value).toArray, .int .u8 ((x : Nat) : Int)] w (fun v w' => ∃ A c, v = .tuple #[.slice A (thX (L.take (q + 1)) N x).length c, .int .i64 0] ∧ Ob w' w.heap.size (.slice A (thX (L.take (q + 1)) N x).length c) (thX (L.take (q + 1)) N x) ∧ Kp No w w') := by
  obtain ⟨hP, ⟨hl1, hl2, hl3⟩, hge, hG⟩ := hm; have hN1 := hG.n1; have hN2 := hG.n2
  have kk0 := Kp.refl No w
  refine enter (n := 79) [.slice A (L.length) (c), .agg ([.int .i64 ((q + 1 : Nat) : Int), .int .i64 ((nn : Nat) : Int), .int .u32 ((ge : Nat) : Int)] : List Value).toArray, .int .u8 ((x : Nat) : Int)] Tryd.func26 rfl rfl rfl ?_
  show Cw _ _ _ _ [(0, .slice A (L.length) (c)), (1, .agg ([.int .i64 ((q + 1 : Nat) : Int), .int .i64 ((nn : Nat) : Int), .int .u32 ((ge : Nat) : Int)] : List Value).toArray), (2, .int .u8 ((x : Nat) : Int))] _
  refine C_seq (fun K1 hK1 => ?_)
  refine C_region ?_
  refine R_lo (lo_box (L := [.int .i64 ((q + 1 : Nat) : Int), .int .i64 ((nn : Nat) : Int), .int .u32 ((ge : Nat) : Int)]) rfl rfl) rfl ?_
  rintro _ w1 ⟨p0_0, rfl, N1⟩
  have k1 := N1.kp
  have kk1 := kk0.then_ k1
  have f_p0_0_1 : Bk w1 p0_0 ([.int .i64 ((q + 1 : Nat) : Int), .int .i64 ((nn : Nat) : Int), .int .u32 ((ge : Nat) : Int)]) 25 := N1.bk
  refine R_pu (pu_assign rfl) rfl ?_
  refine R_pu (pu_assign rfl) rfl ?_
  refine R_nil ?_
  refine X_then hK1 ?_
  refine C_seq (fun K2 hK2 => ?_)
  refine C_region ?_
  refine R_pu (pu_move rfl) rfl ?_
  refine R_pu (pu_loadRow (len := 3) f_p0_0_1 (by kernel_rfl) (by kernel_rfl) rfl rfl) rfl ?_
  refine R_lo (lo_call (by kernel_rfl) rfl (ref03_wrong_ok A L c q nn ge _ (HS.keptNo kk1) ⟨hP, ⟨hl1, hl2, hl3⟩, hge, N, hG⟩)) rfl ?_
  rintro _ w2 ⟨rfl, k2⟩
  have kk2 := kk1.then_ k2
  refine R_pu (pu_assign rfl) rfl ?_
  refine R_nil ?_
  refine X_then hK2 ?_
  refine C_seq (fun K3 hK3 => ?_)
  refine C_seq (fun K4 hK4 => ?_)
  refine C_region ?_
  refine R_pu (pu_move rfl) rfl ?_
  refine R_pu (pu_false (pu_neq (p := (0 : Nat) = 0) rfl rfl (by omega)) (by decide)) rfl ?_
  refine R_nil ?_
  refine X_then hK4 ?_
  refine C_false rfl ?_
  refine C_skip ?_
  refine X_then hK3 ?_
  refine C_seq (fun K5 hK5 => ?_)
  obtain ⟨M, hM⟩ : ∃ M, M = L.take (q + 1) := ⟨_, rfl⟩
  have hML : M.length = q + 1 := by rw [hM, List.length_take]; omega
  have HSM : Ss w A M := by rw [hM]; exact HS.take _
  rw [← hM] at hG
  have hMl : M.length ≤ L.length := by omega
  refine C_region ?_
  refine R_pu (pu_assign rfl) rfl ?_
  refine R_nil ?_
  refine X_then hK5 ?_
  refine C_seq (fun K6 hK6 => ?_)
  refine C_seq (fun K7 hK7 => ?_)
  refine C_region ?_
  refine R_pu (pu_assign rfl) rfl ?_
  refine R_nil ?_
  refine X_then hK7 ?_
  refine C_block ?_
  have f8 : Bk w2 p0_0 ([.int .i64 ((q + 1 : Nat) : Int), .int .i64 ((nn : Nat) : Int), .int .u32 ((ge : Nat) : Int)]) 25 := (f_p0_0_1.no k2)
  have ob9 := Ob.nil w2 w2.heap.size
  have z10 := Nat.le_refl w2.heap.size
  refine C_loop (fun m_ l_ wr => ∃ i : Nat, ∃ An : Option Addr, ∃ cn : Nat, (m_ = q + 1 - i) ∧ (l_ = [(0, .slice A (L.length) (c)), (2, .int .u8 ((x : Nat) : Int)), (4, .pointer (some ⟨p0_0, 0, none⟩)), (6, .slice none (0) (0)), (7, .int .i64 0), (9, .slice An (((ixs M).take i).length) (cn)), (10, .int .i64 ((i : Nat) : Int))]) ∧ (i ≤ q + 1) ∧ (Kp No w wr) ∧ (Bk wr p0_0 ([.int .i64 ((q + 1 : Nat) : Int), .int .i64 ((nn : Nat) : Int), .int .u32 ((ge : Nat) : Int)]) 25) ∧ (Ob wr w2.heap.size (.slice An ((ixs M).take i).length cn) ((ixs M).take i) ∧ w2.heap.size ≤ (wr).heap.size)) (q + 1 - 0) [(0, .slice A (L.length) (c)), (2, .int .u8 ((x : Nat) : Int)), (4, .pointer (some ⟨p0_0, 0, none⟩)), (6, .slice none (0) (0)), (7, .int .i64 0), (9, .slice none (((ixs M).take 0).length) (0)), (10, .int .i64 0)] (Sub.cons rfl (Sub.cons rfl (Sub.cons rfl (Sub.cons rfl (Sub.cons rfl (Sub.cons rfl (Sub.cons rfl (Sub.nil _)))))))) ⟨0, none, 0, rfl, rfl, by omega, kk2, f8, ⟨by exact ob9, z10⟩⟩ ?_
  rintro _ _ w3 ⟨i, An, cn, rfl, rfl, hi, kk3, f_p0_0_3, xs_3⟩
  refine C_seq (fun K11 hK11 => ?_)
  refine C_seq (fun K12 hK12 => ?_)
  refine C_region ?_
  refine R_pu (pu_move rfl) rfl ?_
  refine R_pu (pu_fieldAddr (off := 0) (o' := 0) (by kernel_rfl) rfl rfl) rfl ?_
  refine R_pu (pu_loadK f_p0_0_3 (by kernel_rfl) rfl rfl) rfl ?_
  refine R_pu (pu_lss (p := i < (q + 1)) rfl rfl (by omega)) rfl ?_
  refine R_nil ?_
  refine X_then hK12 ?_
  refine C_dec rfl (fun h26 => ?_) (fun h26 => ?_)
  · refine C_skip ?_
    refine X_then hK11 ?_
    refine C_seq (fun K13 hK13 => ?_)
    refine C_block ?_
    refine C_region ?_
    refine R_pu (pu_move rfl) rfl ?_
    refine R_pu (pu_move rfl) rfl ?_
    refine R_pu (pu_move rfl) rfl ?_
    obtain ⟨s1, e_s1⟩ : ∃ q_, (M)[i]? = some q_ := ⟨_, List.getElem?_eq_getElem (by first | omega | (simp; done) | (simp; omega))⟩
    have ok_s1 := HSM.get e_s1
    have okb_s1 := ok_s1.bs
    have bi_s1 : s1.ix < 256 := ok_s1.ix
    refine R_pu (pu_indexAddrL (HSM.keptNo kk3) Tryd.underlying36 (by kernel_rfl) rfl hMl rfl rfl e_s1) rfl ?_
    refine R_pu (pu_fieldAddrH (off := 0) (HSM.keptNo kk3) e_s1 (by kernel_rfl) rfl) rfl ?_
    refine R_pu (pu_loadH (HSM.keptNo kk3) e_s1 (by kernel_rfl) rfl rfl) rfl ?_
    refine R_lo (lo_buildSlice (L := u8s ([s1.ix])) Tryd.underlying22 rfl (by kernel_rfl)) rfl ?_
    rintro _ w4 ⟨p8_6, rfl, N4⟩
    have k4 := N4.kp
    have kk4 := kk3.then_ k4
    have ne_p8_6_p0_0 : p8_6 ≠ p0_0 := Nat.ne_of_gt (Nat.lt_of_lt_of_le f_p0_0_3.lt N4.le)
    have f_p8_6_4 : Bk w4 p8_6 (u8s ([s1.ix])) 5 := N4.bk
    have ob14 := (xs_3.1.keptNo k4)
    refine R_lo (lo_app (X := (ixs M).take i) (Y := [s1.ix]) ob14 ob14.le.1 rfl rfl (show By 1 [s1.ix] from ⟨rfl, fun n hn => by rw [List.mem_singleton.1 hn]; exact ok_s1.ix⟩).1 (Bs.ofBk f_p8_6_4 (show By 1 [s1.ix] from ⟨rfl, fun n hn => by rw [List.mem_singleton.1 hn]; exact ok_s1.ix⟩)) (by rw [List.length_take, ixs_length]; simp; omega) (Nat.le_trans xs_3.2 k4.size)) rfl ?_
    rintro _ w5 ⟨A_5, c_5, rfl, p5⟩
    have k5 := p5.kp
    have kk5 := kk4.trans k5 (fun i hi => .inr (Nat.le_trans (kk2).size hi))
    refine R_pu (pu_assign rfl) rfl ?_
    refine R_nil ?_
    refine X_in_normal ?_
    refine X_then hK13 ?_
    refine C_region ?_
    refine R_pu (pu_move rfl) rfl ?_
    refine R_pu (pu_add (z := ((i + 1 : Nat) : Int)) rfl rfl (by rw [IntKind.wrap_i64]; omega)) rfl ?_
    refine R_pu (pu_assign rfl) rfl ?_
    refine R_nil ?_
    have f15 : Bk w5 p0_0 ([.int .i64 ((q + 1 : Nat) : Int), .int .i64 ((nn : Nat) : Int), .int .u32 ((ge : Nat) : Int)]) 25 := ((f_p0_0_3.no k4).kept k5 (by have := f8.lt; omega))
    refine X_round (q + 1 - (i + 1)) [(0, .slice A (L.length) (c)), (2, .int .u8 ((x : Nat) : Int)), (4, .pointer (some ⟨p0_0, 0, none⟩)), (6, .slice none (0) (0)), (7, .int .i64 0), (9, .slice A_5 (((ixs M).take (i + 1)).length) (c_5)), (10, .int .i64 (((i + 1) : Nat) : Int))] (by omega) (Sub.cons rfl (Sub.cons rfl (Sub.cons rfl (Sub.cons rfl (Sub.cons rfl (Sub.consE rfl (by rw [take_snoc (ixs_get e_s1)]) (Sub.cons rfl (Sub.nil _)))))))) ⟨i + 1, A_5, c_5, rfl, rfl, by omega, kk5, f15, ⟨by rw [← take_snoc (ixs_get e_s1)]; exact p5.ob, (Nat.le_trans (Nat.le_trans xs_3.2 k4.size) k5.size)⟩⟩
  · refine C_exit ?_
    refine X_then_exit (X_then_exit (X_in_eq ?_))
    refine X_then hK6 ?_
    refine C_seq (fun K16 hK16 => ?_)
    have hX : (ixs M).take i = ixs M := List.take_of_length_le (by rw [ixs_length]; omega)
    have obx : Ob w3 w2.heap.size (.slice An ((ixs M).take i).length cn) (ixs M) := by have h := xs_3.1; rw [hX] at h ⊢; exact h
    refine C_region ?_
    refine R_pu (pu_move rfl) rfl ?_
    refine R_pu (pu_move rfl) rfl ?_
    refine R_lo (lo_callE (by kernel_rfl) rfl (by rw [obx.le.1] <;> rfl) (ref_weights An (ixs M) cn x hx _ obx.bs obx.le.2 (by have hm_ := ((hG.may (by omega) (by omega))).2; omega) (hG.may (by omega) (by omega)))) rfl ?_
    rintro _ w6 ⟨A_wl, c_wl, rfl, Q6, k6⟩
    have kk6 := kk3.then_ k6
    have z17 : w3.heap.size ≤ w6.heap.size := k6.size
    refine R_pu (pu_move rfl) rfl ?_
    refine R_pu (pu_extract rfl rfl) rfl ?_
    refine R_pu (pu_extract rfl rfl) rfl ?_
    refine R_pu (pu_assign rfl) rfl ?_
    refine R_pu (pu_assign rfl) rfl ?_
    refine R_nil ?_
    refine X_then hK16 ?_
    refine C_seq (fun K18 hK18 => ?_)
    refine C_region ?_
    refine R_pu (pu_assign rfl) rfl ?_
    refine R_nil ?_
    refine X_then hK18 ?_
    refine C_seq (fun K19 hK19 => ?_)
    refine C_seq (fun K20 hK20 => ?_)
    refine C_region ?_
    refine R_pu (pu_assign rfl) rfl ?_
    refine R_nil ?_
    refine X_then hK20 ?_
    refine C_block ?_
    have f21 : Bk w6 p0_0 ([.int .i64 ((q + 1 : Nat) : Int), .int .i64 ((nn : Nat) : Int), .int .u32 ((ge : Nat) : Int)]) 25 := (f_p0_0_3.no k6)
    have ob22 := Ob.nil w6 w6.heap.size
    have z23 := Nat.le_refl w6.heap.size
    have ob25 := (obx.keptNo k6)
    have lm24 := ob25.top
    have lm26 := Q6.top
    refine C_loop (fun m_ l_ wr => ∃ j : Nat, ∃ Ao : Option Addr, ∃ co : Nat, (m_ = N - j) ∧ (l_ = [(0, .slice A (L.length) (c)), (4, .pointer (some ⟨p0_0, 0, none⟩)), (6, .slice none (0) (0)), (7, .int .i64 0), (11, .slice A_wl ((wtL (ixs M) x).length) (c_wl)), (13, .slice Ao ((thT M x j).length) (co)), (14, .int .i64 ((j : Nat) : Int))]) ∧ (j ≤ N) ∧ (Kp No w wr) ∧ (Bk wr p0_0 ([.int .i64 ((q + 1 : Nat) : Int), .int .i64 ((nn : Nat) : Int), .int .u32 ((ge : Nat) : Int)]) 25) ∧ (Ob wr w3.heap.size (.slice A_wl ((wtL (ixs M) x).length) (c_wl)) (wtL (ixs M) x) ∧ w3.heap.size ≤ (wr).heap.size) ∧ (Ob wr w6.heap.size (.slice Ao (thT M x j).length co) (thT M x j) ∧ w6.heap.size ≤ (wr).heap.size)) (N - 0) [(0, .slice A (L.length) (c)), (4, .pointer (some ⟨p0_0, 0, none⟩)), (6, .slice none (0) (0)), (7, .int .i64 0), (11, .slice A_wl ((wtL (ixs M) x).length) (c_wl)), (13, .slice none ((thT M x 0).length) (0)), (14, .int .i64 0)] (Sub.cons rfl (Sub.cons rfl (Sub.cons rfl (Sub.cons rfl (Sub.cons rfl (Sub.cons rfl (Sub.cons rfl (Sub.nil _)))))))) ⟨0, none, 0, rfl, rfl, by omega, kk6, f21, ⟨Q6, z17⟩, ⟨by exact ob22, z23⟩⟩ ?_
    rintro _ _ w7 ⟨j, Ao, co, rfl, rfl, hj, kk7, f_p0_0_7, wl_7, n_7⟩
    refine C_seq (fun K27 hK27 => ?_)
    refine C_seq (fun K28 hK28 => ?_)
    refine C_region ?_
    refine R_pu (pu_move rfl) rfl ?_
    refine R_pu (pu_move rfl) rfl ?_
    obtain ⟨s0, e_s0⟩ : ∃ q_, (M)[0]? = some q_ := ⟨_, List.getElem?_eq_getElem (by first | omega | (simp; done) | (simp; omega))⟩
    have ok_s0 := HSM.get e_s0
    have okb_s0 := ok_s0.bs
    have bi_s0 : s0.ix < 256 := ok_s0.ix
    refine R_pu (pu_indexAddrL (HSM.keptNo kk7) Tryd.underlying36 (by kernel_rfl) rfl hMl rfl rfl e_s0) rfl ?_
    refine R_pu (pu_fieldAddrH (off := 2) (HSM.keptNo kk7) e_s0 (by kernel_rfl) rfl) rfl ?_
    refine R_pu (pu_loadH (HSM.keptNo kk7) e_s0 (by kernel_rfl) rfl rfl) rfl ?_
    refine R_pu (pu_len Tryd.underlying22 rfl) rfl ?_
    have l0 := hG.leni e_s0
    refine R_pu (pu_lss (p := j < s0.X.length) rfl rfl (by omega)) rfl ?_
    refine R_nil ?_
    refine X_then hK28 ?_
    refine C_dec rfl (fun h49 => ?_) (fun h49 => ?_)
    · refine C_skip ?_
      refine X_then hK27 ?_
      refine C_seq (fun K29 hK29 => ?_)
      refine C_block ?_
      refine C_seq (fun K30 hK30 => ?_)
      refine C_region ?_
      refine R_pu (pu_assign rfl) rfl ?_
      refine R_nil ?_
      refine X_then hK30 ?_
      refine C_seq (fun K31 hK31 => ?_)
      refine C_seq (fun K32 hK32 => ?_)
      refine C_region ?_
      refine R_pu (pu_assign rfl) rfl ?_
      refine R_nil ?_
      refine X_then hK32 ?_
      refine C_block ?_
      refine C_loop (fun m_ l_ wr => ∃ k : Nat, (m_ = q + 1 - k) ∧ (l_ = [(0, .slice A (L.length) (c)), (4, .pointer (some ⟨p0_0, 0, none⟩)), (6, .slice none (0) (0)), (7, .int .i64 0), (11, .slice A_wl ((wtL (ixs M) x).length) (c_wl)), (13, .slice Ao ((thT M x j).length) (co)), (14, .int .i64 ((j : Nat) : Int)), (15, .int .u8 ((ipN (ixs M) (ysL M j) x k : Nat) : Int)), (16, .int .i64 ((k : Nat) : Int))]) ∧ (k ≤ q + 1) ∧ (Kp No w wr) ∧ (Bk wr p0_0 ([.int .i64 ((q + 1 : Nat) : Int), .int .i64 ((nn : Nat) : Int), .int .u32 ((ge : Nat) : Int)]) 25) ∧ (Ob wr w3.heap.size (.slice A_wl ((wtL (ixs M) x).length) (c_wl)) (wtL (ixs M) x) ∧ w3.heap.size ≤ (wr).heap.size) ∧ (Ob wr w6.heap.size (.slice Ao ((thT M x j).length) (co)) (thT M x j) ∧ w6.heap.size ≤ (wr).heap.size)) (q + 1 - 0) [(0, .slice A (L.length) (c)), (4, .pointer (some ⟨p0_0, 0, none⟩)), (6, .slice none (0) (0)), (7, .int .i64 0), (11, .slice A_wl ((wtL (ixs M) x).length) (c_wl)), (13, .slice Ao ((thT M x j).length) (co)), (14, .int .i64 ((j : Nat) : Int)), (15, .int .u8 ((ipN (ixs M) (ysL M j) x 0 : Nat) : Int)), (16, .int .i64 0)] (Sub.cons rfl (Sub.cons rfl (Sub.cons rfl (Sub.cons rfl (Sub.cons rfl (Sub.cons rfl (Sub.cons rfl (Sub.cons rfl (Sub.cons rfl (Sub.nil _)))))))))) ⟨0, rfl, rfl, by omega, kk7, f_p0_0_7, ⟨wl_7.1, wl_7.2⟩, ⟨n_7.1, n_7.2⟩⟩ ?_
      rintro _ _ w8 ⟨k, rfl, rfl, hk, kk8, f_p0_0_8, wl_8, n_8⟩
      refine C_seq (fun K33 hK33 => ?_)
      refine C_seq (fun K34 hK34 => ?_)
      refine C_region ?_
      refine R_pu (pu_move rfl) rfl ?_
      refine R_pu (pu_fieldAddr (off := 0) (o' := 0) (by kernel_rfl) rfl rfl) rfl ?_
      refine R_pu (pu_loadK f_p0_0_8 (by kernel_rfl) rfl rfl) rfl ?_
      refine R_pu (pu_lss (p := k < (q + 1)) rfl rfl (by omega)) rfl ?_
      refine R_nil ?_
      refine X_then hK34 ?_
      refine C_dec rfl (fun h55 => ?_) (fun h55 => ?_)
      · refine C_skip ?_
        refine X_then hK33 ?_
        refine C_seq (fun K35 hK35 => ?_)
        refine C_block ?_
        refine D_begin (fun W => Kp No w W ∧ Bk W p0_0 ([.int .i64 ((q + 1 : Nat) : Int), .int .i64 ((nn : Nat) : Int), .int .u32 ((ge : Nat) : Int)]) 25 ∧ Ob W w3.heap.size (.slice A_wl ((wtL (ixs M) x).length) (c_wl)) (wtL (ixs M) x)) 17 rfl (by kernel_rfl) ⟨kk8.drew, f_p0_0_8.draw, wl_8.1.draw⟩ ?_
        intro w9 k9 _
        have kk9 := kk8.then_ k9
        refine D_take 0 rfl (by kernel_rfl) (by kernel_rfl) (by kernel_rfl) (fun _ _ _ h => h) rfl (fun W hS => pu_move rfl) ?_
        refine D_take 1 rfl (by kernel_rfl) (by kernel_rfl) (by kernel_rfl) (fun _ _ _ h => h) rfl (fun W hS => pu_move rfl) ?_
        refine D_take 2 rfl (by kernel_rfl) (by kernel_rfl) (by kernel_rfl) (fun _ _ _ h => h) rfl (fun W hS => pu_move rfl) ?_
        obtain ⟨s3, e_s3⟩ : ∃ q_, (M)[k]? = some q_ := ⟨_, List.getElem?_eq_getElem (by first | omega | (simp; done) | (simp; omega))⟩
        have ok_s3 := HSM.get e_s3
        have okb_s3 := ok_s3.bs
        have bi_s3 : s3.ix < 256 := ok_s3.ix
        refine D_take 3 rfl (by kernel_rfl) (by kernel_rfl) (by kernel_rfl) (fun _ _ _ h => h) rfl (fun W hS => pu_indexAddrL (HSM.keptNo hS.1) Tryd.underlying36 (by kernel_rfl) rfl hMl rfl rfl e_s3) ?_
        refine D_take 4 rfl (by kernel_rfl) (by kernel_rfl) (by kernel_rfl) (fun _ _ _ h => h) rfl (fun W hS => pu_fieldAddrH (off := 2) (HSM.keptNo hS.1) e_s3 (by kernel_rfl) rfl) ?_
        refine D_take 5 rfl (by kernel_rfl) (by kernel_rfl) (by kernel_rfl) (fun _ _ _ h => h) rfl (fun W hS => pu_loadH (HSM.keptNo hS.1) e_s3 (by kernel_rfl) rfl rfl) ?_
        refine D_take 6 rfl (by kernel_rfl) (by kernel_rfl) (by kernel_rfl) (fun _ _ _ h => h) rfl (fun W hS => pu_move rfl) ?_
        have l3 := hG.leni e_s3
        refine D_take 7 rfl (by kernel_rfl) (by kernel_rfl) (by kernel_rfl) (fun _ _ _ h => h) rfl (fun W hS => pu_indexAddrB (m := j) (okb_s3.keptNo hS.1) Tryd.underlying22 (by kernel_rfl) rfl rfl rfl rfl (by omega)) ?_
        obtain ⟨y, e_y⟩ : ∃ q_, (s3.X)[j]? = some q_ := ⟨_, List.getElem?_eq_getElem (by omega)⟩
        have b_y : y < 256 := ((okb_s3.keptNo kk9)).lt e_y
        refine D_take 8 rfl (by kernel_rfl) (by kernel_rfl) (by kernel_rfl) (fun _ _ _ h => h) rfl (fun W hS => pu_loadB (okb_s3.keptNo hS.1) (by kernel_rfl) rfl e_y) ?_
        refine D_take 10 rfl (by kernel_rfl) (by kernel_rfl) (by kernel_rfl) (fun _ _ _ h => h) rfl (fun W hS => pu_move rfl) ?_
        refine D_take 11 rfl (by kernel_rfl) (by kernel_rfl) (by kernel_rfl) (fun _ _ _ h => h) rfl (fun W hS => pu_move rfl) ?_
        refine D_take 12 rfl (by kernel_rfl) (by kernel_rfl) (by kernel_rfl) (fun _ _ _ h => h) rfl (fun W hS => pu_indexAddrB (m := k) hS.2.2.bs Tryd.underlying22 (by kernel_rfl) rfl rfl rfl rfl (by rw [wtL_length, ixs_length]; omega)) ?_
        refine D_take 13 rfl (by kernel_rfl) (by kernel_rfl) (by kernel_rfl) (fun _ _ _ h => h) rfl (fun W hS => pu_loadB hS.2.2.bs (by kernel_rfl) rfl (wtL_get (by rw [ixs_length]; omega))) ?_
        have f36 : Bk w9 p0_0 ([.int .i64 ((q + 1 : Nat) : Int), .int .i64 ((nn : Nat) : Int), .int .u32 ((ge : Nat) : Int)]) 25 := (f_p0_0_8.no k9)
        have ob37 := (wl_8.1.keptNo k9)
        have ob38 := (n_8.1.keptNo k9)
        refine D_one 9 (by kernel_rfl) (Nx_lo rfl (lo_buildSlice (L := u8s ([0, y])) Tryd.underlying22 rfl (by kernel_rfl)) rfl ?_)
        rintro _ w10 ⟨p18_9, rfl, N10⟩
        have k10 := N10.kp
        have kk10 := kk9.then_ k10
        have ne_p18_9_p0_0 : p18_9 ≠ p0_0 := Nat.ne_of_gt (Nat.lt_of_lt_of_le f36.lt N10.le)
        have f_p18_9_10 : Bk w10 p18_9 (u8s ([0, y])) 5 := N10.bk
        have f39 : Bk w10 p0_0 ([.int .i64 ((q + 1 : Nat) : Int), .int .i64 ((nn : Nat) : Int), .int .u32 ((ge : Nat) : Int)]) 25 := (f36.no k10)
        have ob40 := (ob37.keptNo k10)
        refine ⟨⟨kk10, f39, ob40⟩, ?_⟩
        refine D_one 14 (by kernel_rfl) (Nx_lo rfl (lo_callE (by kernel_rfl) rfl (by rw [(show By 2 [0, y] from ⟨rfl, by intro n hn; simp at hn; rcases hn with rfl | rfl <;> first | omega | exact (by decide) | exact b_y⟩).1] <;> rfl) (ref_eval (some ⟨p18_9, 0, none⟩) ([0, y]) 2 (wt (ixs M) x k) (wt_lt _ _ _) _ (Bs.ofBk f_p18_9_10 (show By 2 [0, y] from ⟨rfl, by intro n hn; simp at hn; rcases hn with rfl | rfl <;> first | omega | exact (by decide) | exact b_y⟩)) (Nat.le_of_eq (show By 2 [0, y] from ⟨rfl, by intro n hn; simp at hn; rcases hn with rfl | rfl <;> first | omega | exact (by decide) | exact b_y⟩).1) (by have hbl_ := (show By 2 [0, y] from ⟨rfl, by intro n hn; simp at hn; rcases hn with rfl | rfl <;> first | omega | exact (by decide) | exact b_y⟩).1; omega))) rfl ?_)
        rintro _ w11 ⟨rfl, k11⟩
        have kk11 := kk10.then_ k11
        have f41 : Bk w11 p0_0 ([.int .i64 ((q + 1 : Nat) : Int), .int .i64 ((nn : Nat) : Int), .int .u32 ((ge : Nat) : Int)]) 25 := (f39.no k11)
        have ob42 := (ob40.keptNo k11)
        refine ⟨⟨kk11, f41, ob42⟩, ?_⟩
        refine D_one 15 (by kernel_rfl) (Nx_lo rfl (lo_call (by kernel_rfl) rfl (ref_add2 (ipN (ixs M) (ysL M j) x k) (hE ([0, y]) (wt (ixs M) x k)) (ipN_lt _ _ _ _) (hE_lt ((Bs.ofBk f_p18_9_10 (show By 2 [0, y] from ⟨rfl, by intro n hn; simp at hn; rcases hn with rfl | rfl <;> first | omega | exact (by decide) | exact b_y⟩))).byte _) _)) rfl ?_)
        rintro _ w12 ⟨rfl, k12⟩
        have kk12 := kk11.then_ k12
        have f43 : Bk w12 p0_0 ([.int .i64 ((q + 1 : Nat) : Int), .int .i64 ((nn : Nat) : Int), .int .u32 ((ge : Nat) : Int)]) 25 := (f41.no k12)
        have ob44 := (ob42.keptNo k12)
        refine ⟨⟨kk12, f43, ob44⟩, ?_⟩
        refine D_take 16 rfl (by kernel_rfl) (by kernel_rfl) (by kernel_rfl) (fun _ _ _ h => h) rfl (fun W hS => pu_assign rfl) ?_
        refine D_done (by kernel_rfl) ?_
        refine X_in_normal ?_
        refine X_then hK35 ?_
        refine C_region ?_
        refine R_pu (pu_move rfl) rfl ?_
        refine R_pu (pu_add (z := ((k + 1 : Nat) : Int)) rfl rfl (by rw [IntKind.wrap_i64]; omega)) rfl ?_
        refine R_pu (pu_assign rfl) rfl ?_
        refine R_nil ?_
        have ob45 := (((ob38.keptNo k10).keptNo k11).keptNo k12)
        refine X_round (q + 1 - (k + 1)) [(0, .slice A (L.length) (c)), (4, .pointer (some ⟨p0_0, 0, none⟩)), (6, .slice none (0) (0)), (7, .int .i64 0), (11, .slice A_wl ((wtL (ixs M) x).length) (c_wl)), (13, .slice Ao ((thT M x j).length) (co)), (14, .int .i64 ((j : Nat) : Int)), (15, .int .u8 ((ipN (ixs M) (ysL M j) x (k + 1) : Nat) : Int)), (16, .int .i64 (((k + 1) : Nat) : Int))] (by omega) (Sub.cons rfl (Sub.cons rfl (Sub.cons rfl (Sub.cons rfl (Sub.cons rfl (Sub.cons rfl (Sub.cons rfl (Sub.consE rfl (by rw [ipN_step (ysL_get e_s3 e_y) rfl b_y]) (Sub.cons rfl (Sub.nil _)))))))))) ⟨k + 1, rfl, rfl, by omega, kk12, f43, ⟨ob44, (Nat.le_trans (Nat.le_trans (Nat.le_trans (Nat.le_trans wl_8.2 k9.size) k10.size) k11.size) k12.size)⟩, ⟨ob45, (Nat.le_trans (Nat.le_trans (Nat.le_trans (Nat.le_trans n_8.2 k9.size) k10.size) k11.size) k12.size)⟩⟩
      · refine C_exit ?_
        refine X_then_exit (X_then_exit (X_in_eq ?_))
        refine X_then hK31 ?_
        refine C_region ?_
        refine R_pu (pu_move rfl) rfl ?_
        refine R_pu (pu_move rfl) rfl ?_
        refine R_lo (lo_buildSlice (L := u8s ([ipN (ixs M) (ysL M j) x k])) Tryd.underlying22 rfl (by kernel_rfl)) rfl ?_
        rintro _ w13 ⟨p19_2, rfl, N13⟩
        have k13 := N13.kp
        have kk13 := kk8.then_ k13
        have ne_p19_2_p0_0 : p19_2 ≠ p0_0 := Nat.ne_of_gt (Nat.lt_of_lt_of_le f_p0_0_8.lt N13.le)
        have f_p19_2_13 : Bk w13 p19_2 (u8s ([ipN (ixs M) (ysL M j) x k])) 5 := N13.bk
        have ob46 := (n_8.1.keptNo k13)
        refine R_lo (lo_app (X := thT M x j) (Y := [ipN (ixs M) (ysL M j) x k]) ob46 ob46.le.1 rfl rfl (show By 1 [ipN (ixs M) (ysL M j) x k] from ⟨rfl, fun n hn => by rw [List.mem_singleton.1 hn]; exact (ipN_lt _ _ _ _)⟩).1 (Bs.ofBk f_p19_2_13 (show By 1 [ipN (ixs M) (ysL M j) x k] from ⟨rfl, fun n hn => by rw [List.mem_singleton.1 hn]; exact (ipN_lt _ _ _ _)⟩)) (by rw [thT_length]; simp; omega) (Nat.le_trans n_8.2 k13.size)) rfl ?_
        rintro _ w14 ⟨A_14, c_14, rfl, p14⟩
        have k14 := p14.kp
        have kk14 := kk13.trans k14 (fun i hi => .inr (Nat.le_trans (kk6).size hi))
        refine R_pu (pu_assign rfl) rfl ?_
        refine R_nil ?_
        refine X_in_normal ?_
        refine X_then hK29 ?_
        refine C_region ?_
        refine R_pu (pu_move rfl) rfl ?_
        refine R_pu (pu_add (z := ((j + 1 : Nat) : Int)) rfl rfl (by rw [IntKind.wrap_i64]; omega)) rfl ?_
        refine R_pu (pu_assign rfl) rfl ?_
        refine R_nil ?_
        have f47 : Bk w14 p0_0 ([.int .i64 ((q + 1 : Nat) : Int), .int .i64 ((nn : Nat) : Int), .int .u32 ((ge : Nat) : Int)]) 25 := ((f_p0_0_8.no k13).kept k14 (by have := f21.lt; omega))
        have ob48 := ((wl_8.1.keptNo k13).past lm26 k14)
        refine X_round (N - (j + 1)) [(0, .slice A (L.length) (c)), (4, .pointer (some ⟨p0_0, 0, none⟩)), (6, .slice none (0) (0)), (7, .int .i64 0), (11, .slice A_wl ((wtL (ixs M) x).length) (c_wl)), (13, .slice A_14 ((thT M x (j + 1)).length) (c_14)), (14, .int .i64 (((j + 1) : Nat) : Int))] (by omega) (Sub.cons rfl (Sub.cons rfl (Sub.cons rfl (Sub.cons rfl (Sub.cons rfl (Sub.consE rfl (by rw [show ipN (ixs M) (ysL M j) x k = thv M x j by unfold thv; rw [ixs_length, show k = M.length by omega], thT_snoc]) (Sub.cons rfl (Sub.nil _)))))))) ⟨j + 1, A_14, c_14, rfl, rfl, by omega, kk14, f47, ⟨ob48, (Nat.le_trans (Nat.le_trans wl_8.2 k13.size) k14.size)⟩, ⟨by rw [← thT_snoc, ← show ipN (ixs M) (ysL M j) x k = thv M x j by unfold thv; rw [ixs_length, show k = M.length by omega]]; exact p14.ob, (Nat.le_trans (Nat.le_trans n_8.2 k13.size) k14.size)⟩⟩
    · refine C_exit ?_
      refine X_then_exit (X_then_exit (X_in_eq ?_))
      refine X_then hK19 ?_
      refine C_seq (fun K49 hK49 => ?_)
      refine C_region ?_
      refine R_pu (pu_move rfl) rfl ?_
      refine R_pu (pu_assign rfl) rfl ?_
      refine R_pu (pu_assign rfl) rfl ?_
      refine R_nil ?_
      refine X_then hK49 ?_
      refine C_ret ?_
      exact X_ret2 (.inl rfl) rfl rfl rfl (by rw [← show thT M x j = thX (L.take (q + 1)) N x by rw [← hM]; exact thT_end (by omega)]; exact ⟨Ao, co, rfl, n_7.1.low ((kk6).size), kk7⟩)
set_option maxRecDepth 100000 in
set_option maxHeartbeats 2000000 in
theorem give_shares (A : Option Addr) (L : List Shr) (c : Nat) (w : World) (HS : Ss w A L) (hs : L.length ≤ 100000) : Ret Tryd.prog 25 #[.slice A (L.length) (c)] w (fun v w' => ∃ A' c', v = .slice A' L.length c' ∧ Ss w' A' L ∧ L.length ≤ c' ∧ (∀ x, A' = some x → w.heap.size ≤ x.block) ∧ Kp No w w') := by
  have kk0 := Kp.refl No w
  refine enter (n := 19) [.slice A (L.length) (c)] Tryd.func25 rfl rfl rfl ?_
  show Cw _ _ _ _ [(0, .slice A (L.length) (c))] _
  refine C_seq (fun K1 hK1 => ?_)
  refine C_region ?_
  refine R_pu (pu_assign rfl) rfl ?_
  refine R_nil ?_
  refine X_then hK1 ?_
  refine C_seq (fun K2 hK2 => ?_)
  refine C_region ?_
  refine R_pu (pu_assign rfl) rfl ?_
  refine R_nil ?_
  refine X_then hK2 ?_
  refine C_seq (fun K3 hK3 => ?_)
  refine C_seq (fun K4 hK4 => ?_)
  refine C_region ?_
  refine R_pu (pu_assign rfl) rfl ?_
  refine R_nil ?_
  refine X_then hK4 ?_
  refine C_block ?_
  have sp0 := Sp.nil 50 w w.heap.size
  have zs0 := Nat.le_refl w.heap.size
  refine C_loop (fun m_ l_ wr => ∃ i : Nat, ∃ An : Option Addr, ∃ cn : Nat, (m_ = L.length - i) ∧ (l_ = [(0, .slice A (L.length) (c)), (2, .slice none (0) (0)), (3, .slice An ((L.take i).length) (cn)), (4, .int .i64 ((i : Nat) : Int))]) ∧ (i ≤ L.length) ∧ (Kp No w wr) ∧ (Sp 50 wr w.heap.size (.slice An ((L.take i).length) (cn)) (L.take i) ∧ w.heap.size ≤ (wr).heap.size)) (L.length - 0) [(0, .slice A (L.length) (c)), (2, .slice none (0) (0)), (3, .slice none ((L.take 0).length) (0)), (4, .int .i64 0)] (Sub.cons rfl (Sub.cons rfl (Sub.cons rfl (Sub.cons rfl (Sub.nil _))))) ⟨0, none, 0, rfl, rfl, by omega, kk0, ⟨by exact sp0, zs0⟩⟩ ?_
  rintro _ _ w1 ⟨i, An, cn, rfl, rfl, hi, kk1, out_1⟩
  refine C_seq (fun K5 hK5 => ?_)
  refine C_seq (fun K6 hK6 => ?_)
  refine C_region ?_
  refine R_pu (pu_move rfl) rfl ?_
  refine R_pu (pu_move rfl) rfl ?_
  refine R_pu (pu_len Tryd.underlying36 rfl) rfl ?_
  refine R_pu (pu_lss (p := i < L.length) rfl rfl (by omega)) rfl ?_
  refine R_nil ?_
  refine X_then hK6 ?_
  refine C_dec rfl (fun h8 => ?_) (fun h8 => ?_)
  · refine C_skip ?_
    refine X_then hK5 ?_
    refine C_seq (fun K7 hK7 => ?_)
    refine C_block ?_
    refine C_region ?_
    refine R_pu (pu_move rfl) rfl ?_
    refine R_pu (pu_move rfl) rfl ?_
    refine R_pu (pu_move rfl) rfl ?_
    obtain ⟨s1, e_s1⟩ : ∃ q_, (L)[i]? = some q_ := ⟨_, List.getElem?_eq_getElem (by first | omega | (simp; done) | (simp; omega))⟩
    have ok_s1 := HS.get e_s1
    have okb_s1 := ok_s1.bs
    have bi_s1 : s1.ix < 256 := ok_s1.ix
    refine R_pu (pu_indexAddrH (HS.keptNo kk1) Tryd.underlying36 (by kernel_rfl) rfl rfl rfl rfl e_s1) rfl ?_
    refine R_pu (pu_loadHr (HS.keptNo kk1) e_s1 (by kernel_rfl) (by kernel_rfl) rfl) rfl ?_
    refine R_lo (lo_buildSlice (L := [.int .u8 ((s1.ix : Nat) : Int), .int .u32 ((s1.gen : Nat) : Int), .slice s1.A (s1.X.length) (s1.c)]) Tryd.underlying29 rfl (by kernel_rfl)) rfl ?_
    rintro _ w2 ⟨lit, rfl, N2⟩
    have k2 := N2.kp
    have kk2 := kk1.then_ k2
    have f_lit_2 : Bk w2 lit ([.int .u8 ((s1.ix : Nat) : Int), .int .u32 ((s1.gen : Nat) : Int), .slice s1.A (s1.X.length) (s1.c)]) 50 := N2.bk
    have ob8 := (out_1.1.keptNo k2)
    refine R_lo (lo_appq (L := L.take i) (M := [s1]) Tryd.underlying29 (by kernel_rfl) ob8 ob8.le.1 rfl rfl rfl (by exact f_lit_2) (by rw [List.length_take]; simp; omega) (Nat.le_trans out_1.2 k2.size)) rfl ?_
    rintro _ w3 ⟨A_3, c_3, rfl, p3⟩
    have k3 := p3.kp
    have kk3 := kk2.trans k3 (fun i hi => .inr (Nat.le_trans (kk0).size hi))
    refine R_pu (pu_assign rfl) rfl ?_
    refine R_nil ?_
    refine X_in_normal ?_
    refine X_then hK7 ?_
    refine C_region ?_
    refine R_pu (pu_move rfl) rfl ?_
    refine R_pu (pu_add (z := ((i + 1 : Nat) : Int)) rfl rfl (by rw [IntKind.wrap_i64]; omega)) rfl ?_
    refine R_pu (pu_assign rfl) rfl ?_
    refine R_nil ?_
    refine X_round (L.length - (i + 1)) [(0, .slice A (L.length) (c)), (2, .slice none (0) (0)), (3, .slice A_3 ((L.take (i + 1)).length) (c_3)), (4, .int .i64 (((i + 1) : Nat) : Int))] (by omega) (Sub.cons rfl (Sub.cons rfl (Sub.consE rfl (by rw [takeS e_s1]) (Sub.cons rfl (Sub.nil _))))) ⟨i + 1, A_3, c_3, rfl, rfl, by omega, kk3, ⟨by rw [← takeS e_s1]; exact p3.ob, (Nat.le_trans (Nat.le_trans out_1.2 k2.size) k3.size)⟩⟩
  · refine C_exit ?_
    refine X_then_exit (X_then_exit (X_in_eq ?_))
    refine X_then hK3 ?_
    refine C_seq (fun K9 hK9 => ?_)
    refine C_region ?_
    refine R_pu (pu_move rfl) rfl ?_
    refine R_pu (pu_assign rfl) rfl ?_
    refine R_nil ?_
    refine X_then hK9 ?_
    refine C_ret ?_
    exact X_ret1 (.inl rfl) rfl rfl (by have hE : L.take i = L := List.take_of_length_le (by omega); have h1 := out_1.1; have h2 : Ss w1 An (L.take i) := h1.ss (fun s hs => (HS.keptNo kk1).ok s (List.mem_of_mem_take hs)); have h3 := h1.le; rw [hE] at h2 h3 ⊢; exact ⟨An, cn, rfl, h2, h3.2, fun x hx => Nat.le_trans ((kk0).size) (h1.lowx x hx), kk1⟩)
end Go.Proofs.YtjbdimfpjbmggaaDoor
