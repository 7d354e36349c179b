/- Walks of slices.Grow and slices.Concat. -/
import Derived.Test.YtlkbkgghfhoggaaGreatDoorKh
set_option linter.unusedVariables false
set_option linter.unusedSimpArgs false
namespace Go.Proofs.YtlkbkgghfhoggaaGreatDoor
open Go.RowKit Gm
set_option maxRecDepth 100000 in
set_option maxHeartbeats 2000000 in
theorem slices_grow (n : Nat) (w : World) (hn : n ≤ 1099511627776) : Ret Tryz.prog 58 #[.slice none (0) (0), .int .i64 ((n : Nat) : Int)] w (fun v w' => ∃ A c, v = .slice A ([] : List Nat).length c ∧ Ob w' w.heap.size (.slice A ([] : List Nat).length c) [] ∧ Kp No w w') := by
  have kk0 := Kp.refl No w
  refine enter (n := 27) [.slice none (0) (0), .int .i64 ((n : Nat) : Int)] Tryz.func58 rfl rfl rfl ?_
  show Cw _ _ _ _ [(0, .slice none (0) (0)), (1, .int .i64 ((n : Nat) : Int))] _
  refine C_seq (fun K1 hK1 => ?_)
  refine C_region ?_
  refine R_pu (pu_assign rfl) rfl ?_
  refine R_nil ?_
  refine X_then hK1 ?_
  refine C_seq (fun K2 hK2 => ?_)
  refine C_seq (fun K3 hK3 => ?_)
  refine C_region ?_
  refine R_pu (pu_move rfl) rfl ?_
  refine R_pu (pu_lss (p := n < 0) rfl rfl (by omega)) rfl ?_
  refine R_nil ?_
  refine X_then hK3 ?_
  refine C_decf rfl (by omega) ?_
  refine C_skip ?_
  refine X_then hK2 ?_
  refine C_seq (fun K4 hK4 => ?_)
  refine C_seq (fun K5 hK5 => ?_)
  refine C_region ?_
  refine R_pu (pu_move rfl) rfl ?_
  refine R_pu (pu_move rfl) rfl ?_
  refine R_pu (pu_cap Tryz.underlying22 rfl) rfl ?_
  refine R_pu (pu_move rfl) rfl ?_
  refine R_pu (pu_len Tryz.underlying22 rfl) rfl ?_
  refine R_pu (pu_sub rfl rfl (by rw [IntKind.wrap_i64] <;> omega)) rfl ?_
  refine R_pu (pu_sub (z := ((n : Nat) : Int)) rfl rfl (by rw [IntKind.wrap_i64]; omega)) rfl ?_
  refine R_pu (pu_assign rfl) rfl ?_
  refine R_nil ?_
  refine X_then hK5 ?_
  refine C_seq (fun K6 hK6 => ?_)
  refine C_region ?_
  refine R_pu (pu_move rfl) rfl ?_
  refine R_pu (pu_gtr (p := n > 0) rfl rfl (by omega)) rfl ?_
  refine R_nil ?_
  refine X_then hK6 ?_
  refine C_dec rfl (fun h16 => ?_) (fun h16 => ?_)
  · refine C_region ?_
    refine R_pu (pu_move rfl) rfl ?_
    refine R_pu (pu_move rfl) rfl ?_
    refine R_pu (pu_cap Tryz.underlying22 rfl) rfl ?_
    refine R_pu (pu_sliceHi (hi := 0) (s := 1) Tryz.underlying22 (by kernel_rfl) rfl rfl rfl (Nat.zero_le _)) rfl ?_
    refine R_pu (pu_move rfl) rfl ?_
    refine R_lo (lo_growZ rfl rfl (by omega) (by omega)) rfl ?_
    rintro _ w1 ⟨pz, cz, rfl, hmz, hcz, Nz⟩
    have k1 := Nz.kp
    have kk1 := kk0.then_ k1
    have obz : Ob w1 w.heap.size (.slice (some ⟨pz, 0, none⟩) ([] : List Nat).length cz) [] := Ob.of_block (k := 0) Nz.bk (Nat.le_trans kk0.size Nz.le) (List.length_replicate ..) hcz (fun n hn => by rw [(List.mem_replicate.1 hn).2]; decide) (Nat.zero_le _)
    refine R_pu (pu_move rfl) rfl ?_
    refine R_pu (pu_len Tryz.underlying22 rfl) rfl ?_
    refine R_pu (pu_sliceHi (hi := 0) (s := 1) Tryz.underlying22 (by kernel_rfl) rfl rfl rfl (Nat.zero_le _)) rfl ?_
    refine R_pu (pu_assign rfl) rfl ?_
    refine R_nil ?_
    refine X_then hK4 ?_
    refine C_seq (fun K7 hK7 => ?_)
    refine C_region ?_
    refine R_pu (pu_move rfl) rfl ?_
    refine R_pu (pu_assign rfl) rfl ?_
    refine R_nil ?_
    refine X_then hK7 ?_
    refine C_ret ?_
    exact X_ret1 (.inl rfl) rfl rfl ⟨_, _, rfl, obz, kk1⟩
  · refine C_skip ?_
    refine X_then hK4 ?_
    refine C_seq (fun K8 hK8 => ?_)
    refine C_region ?_
    refine R_pu (pu_move rfl) rfl ?_
    refine R_pu (pu_assign rfl) rfl ?_
    refine R_nil ?_
    refine X_then hK8 ?_
    refine C_ret ?_
    exact X_ret1 (.inl rfl) rfl rfl ⟨none, 0, rfl, Ob.nil _ _, kk0⟩
set_option maxRecDepth 100000 in
set_option maxHeartbeats 2000000 in
theorem slices_concat (p : Nat) (L : List (Option Addr × List Nat × Nat)) (w : World) (hp : Bk w p (partsL L) 22) (hL : ∀ q ∈ L, Bs w q.1 q.2.1 ∧ q.2.1.length ≤ q.2.2) (ht : (catL L).length ≤ 1099511627776) (hn : L.length ≤ 1099511627776) : Ret Tryz.prog 37 #[.slice (some ⟨p, 0, none⟩) (L.length) (L.length)] w (fun v w' => ∃ A c, v = .slice A (catL L).length c ∧ Ob w' w.heap.size (.slice A (catL L).length c) (catL L) ∧ Kp No w w') := by
  have hT := catL_le L
  have kk0 := Kp.refl No w
  refine enter (n := 36) [.slice (some ⟨p, 0, none⟩) (L.length) (L.length)] Tryz.func37 rfl rfl rfl ?_
  show Cw _ _ _ _ [(0, .slice (some ⟨p, 0, none⟩) (L.length) (L.length))] _
  refine C_seq (fun K1 hK1 => ?_)
  refine C_region ?_
  refine R_pu (pu_assign rfl) rfl ?_
  refine R_nil ?_
  refine X_then hK1 ?_
  refine C_seq (fun K2 hK2 => ?_)
  refine C_region ?_
  refine R_pu (pu_assign rfl) rfl ?_
  refine R_nil ?_
  refine X_then hK2 ?_
  refine C_seq (fun K3 hK3 => ?_)
  refine C_seq (fun K4 hK4 => ?_)
  refine C_region ?_
  refine R_pu (pu_move rfl) rfl ?_
  refine R_pu (pu_len Tryz.underlying136 rfl) rfl ?_
  refine R_pu (pu_move rfl) rfl ?_
  refine R_nil ?_
  refine X_then hK4 ?_
  refine C_block ?_
  refine C_loop (fun m_ l_ wr => ∃ i : Nat, (m_ = L.length - i) ∧ (l_ = [(0, .slice (some ⟨p, 0, none⟩) (L.length) (L.length)), (2, .slice none (0) (0)), (3, .int .i64 (((catL (L.take i)).length : Nat) : Int)), (9, .slice (some ⟨p, 0, none⟩) (L.length) (L.length)), (10, .int .i64 ((L.length : Nat) : Int)), (11, .int .i64 ((i : Nat) : Int))]) ∧ (i ≤ L.length) ∧ (Kp No w wr) ∧ (Bk wr p (partsL L) 22)) (L.length - 0) [(0, .slice (some ⟨p, 0, none⟩) (L.length) (L.length)), (2, .slice none (0) (0)), (3, .int .i64 (((catL (L.take 0)).length : Nat) : Int)), (9, .slice (some ⟨p, 0, none⟩) (L.length) (L.length)), (10, .int .i64 ((L.length : Nat) : Int)), (11, .int .i64 0)] (Sub.cons rfl (Sub.cons rfl (Sub.cons rfl (Sub.cons rfl (Sub.cons rfl (Sub.cons rfl (Sub.nil _))))))) ⟨0, rfl, rfl, by omega, kk0, hp⟩ ?_
  rintro _ _ w1 ⟨i, rfl, rfl, hi, kk1, f_p_1⟩
  refine C_seq (fun K5 hK5 => ?_)
  refine C_region ?_
  refine R_pu (pu_lss (p := i < L.length) rfl rfl (by omega)) rfl ?_
  refine R_nil ?_
  refine X_then hK5 ?_
  refine C_seq (fun K6 hK6 => ?_)
  refine C_dec rfl (fun h12 => ?_) (fun h12 => ?_)
  · refine C_skip ?_
    refine X_then hK6 ?_
    refine C_seq (fun K7 hK7 => ?_)
    refine C_block ?_
    refine C_seq (fun K8 hK8 => ?_)
    refine C_region ?_
    refine R_pu (pu_indexAddrP (m := i) (s := 1) (o' := i) Tryz.underlying136 (by kernel_rfl) rfl rfl rfl (by omega) (by omega)) rfl ?_
    obtain ⟨q4_1, e_q4_1⟩ : ∃ q_, (L)[i]? = some q_ := ⟨_, List.getElem?_eq_getElem (by omega)⟩
    have h_q4_1 := hL q4_1 (List.mem_of_getElem? e_q4_1); have s_q4_1 := congrArg List.length (catL_step e_q4_1); rw [List.length_append] at s_q4_1; have l_q4_1 := catL_le L (i + 1)
    refine R_pu (pu_loadK f_p_1 (by kernel_rfl) rfl (partsL_get e_q4_1)) rfl ?_
    refine R_pu (pu_assign rfl) rfl ?_
    refine R_nil ?_
    refine X_then hK8 ?_
    refine C_seq (fun K9 hK9 => ?_)
    refine C_region ?_
    refine R_pu (pu_move rfl) rfl ?_
    refine R_pu (pu_move rfl) rfl ?_
    refine R_pu (pu_len Tryz.underlying22 rfl) rfl ?_
    refine R_pu (pu_add (z := ((((catL (L.take i)).length) + q4_1.2.1.length : Nat) : Int)) rfl rfl (by rw [IntKind.wrap_i64]; omega)) rfl ?_
    refine R_pu (pu_assign rfl) rfl ?_
    refine R_nil ?_
    refine X_then hK9 ?_
    refine C_seq (fun K10 hK10 => ?_)
    refine C_region ?_
    refine R_pu (pu_move rfl) rfl ?_
    refine R_pu (pu_lss (p := (((catL (L.take i)).length) + q4_1.2.1.length) < 0) rfl rfl (by omega)) rfl ?_
    refine R_nil ?_
    refine X_then hK10 ?_
    refine C_decf rfl (by omega) ?_
    refine C_skip ?_
    refine X_in_normal ?_
    refine X_then hK7 ?_
    refine C_region ?_
    refine R_pu (pu_add (z := ((i + 1 : Nat) : Int)) rfl rfl (by rw [IntKind.wrap_i64]; omega)) rfl ?_
    refine R_pu (pu_move rfl) rfl ?_
    refine R_nil ?_
    refine X_round (L.length - (i + 1)) [(0, .slice (some ⟨p, 0, none⟩) (L.length) (L.length)), (2, .slice none (0) (0)), (3, .int .i64 (((catL (L.take (i + 1))).length : Nat) : Int)), (9, .slice (some ⟨p, 0, none⟩) (L.length) (L.length)), (10, .int .i64 ((L.length : Nat) : Int)), (11, .int .i64 (((i + 1) : Nat) : Int))] (by omega) (Sub.cons rfl (Sub.cons rfl (Sub.consE rfl (by rw [← s_q4_1]) (Sub.cons rfl (Sub.cons rfl (Sub.cons rfl (Sub.nil _))))))) ⟨i + 1, rfl, rfl, by omega, kk1, f_p_1⟩
  · refine C_exit ?_
    refine X_then_exit (X_then_exit (X_in_eq ?_))
    refine X_then hK3 ?_
    refine C_seq (fun K11 hK11 => ?_)
    have hti := catL_le L i
    refine C_region ?_
    refine R_pu (pu_move rfl) rfl ?_
    refine R_lo (lo_call (by kernel_rfl) rfl (slices_grow ((catL (L.take i)).length) _ (by omega))) rfl ?_
    rintro _ w2 ⟨A_gr9, c_gr9, rfl, Q2, k2⟩
    have kk2 := kk1.then_ k2
    have z12 : w1.heap.size ≤ w2.heap.size := k2.size
    refine R_pu (pu_assign rfl) rfl ?_
    refine R_nil ?_
    refine X_then hK11 ?_
    refine C_seq (fun K13 hK13 => ?_)
    refine C_seq (fun K14 hK14 => ?_)
    refine C_region ?_
    refine R_pu (pu_move rfl) rfl ?_
    refine R_pu (pu_len Tryz.underlying136 rfl) rfl ?_
    refine R_pu (pu_move rfl) rfl ?_
    refine R_nil ?_
    refine X_then hK14 ?_
    refine C_block ?_
    have f15 : Bk w2 p (partsL L) 22 := (f_p_1.no k2)
    refine C_loop (fun m_ l_ wr => ∃ j : Nat, ∃ Ag : Option Addr, ∃ cg : Nat, (m_ = L.length - j) ∧ (l_ = [(2, .slice none (0) (0)), (6, .slice Ag ((catL (L.take j)).length) (cg)), (25, .slice (some ⟨p, 0, none⟩) (L.length) (L.length)), (26, .int .i64 ((L.length : Nat) : Int)), (27, .int .i64 ((j : Nat) : Int))]) ∧ (j ≤ L.length) ∧ (Kp No w wr) ∧ (Bk wr p (partsL L) 22) ∧ (Ob wr w1.heap.size (.slice Ag (catL (L.take j)).length cg) (catL (L.take j)) ∧ w1.heap.size ≤ (wr).heap.size)) (L.length - 0) [(2, .slice none (0) (0)), (6, .slice A_gr9 ((catL (L.take 0)).length) (c_gr9)), (25, .slice (some ⟨p, 0, none⟩) (L.length) (L.length)), (26, .int .i64 ((L.length : Nat) : Int)), (27, .int .i64 0)] (Sub.cons rfl (Sub.cons rfl (Sub.cons rfl (Sub.cons rfl (Sub.cons rfl (Sub.nil _)))))) ⟨0, A_gr9, c_gr9, rfl, rfl, by omega, kk2, f15, ⟨Q2, z12⟩⟩ ?_
    rintro _ _ w3 ⟨j, Ag, cg, rfl, rfl, hj, kk3, f_p_3, gr9_3⟩
    refine C_seq (fun K16 hK16 => ?_)
    refine C_region ?_
    refine R_pu (pu_lss (p := j < L.length) rfl rfl (by omega)) rfl ?_
    refine R_nil ?_
    refine X_then hK16 ?_
    refine C_seq (fun K17 hK17 => ?_)
    refine C_dec rfl (fun h28 => ?_) (fun h28 => ?_)
    · refine C_skip ?_
      refine X_then hK17 ?_
      refine C_seq (fun K18 hK18 => ?_)
      refine C_block ?_
      refine C_seq (fun K19 hK19 => ?_)
      refine C_region ?_
      refine R_pu (pu_indexAddrP (m := j) (s := 1) (o' := j) Tryz.underlying136 (by kernel_rfl) rfl rfl rfl (by omega) (by omega)) rfl ?_
      obtain ⟨q12_1, e_q12_1⟩ : ∃ q_, (L)[j]? = some q_ := ⟨_, List.getElem?_eq_getElem (by omega)⟩
      have h_q12_1 := hL q12_1 (List.mem_of_getElem? e_q12_1); have s_q12_1 := congrArg List.length (catL_step e_q12_1); rw [List.length_append] at s_q12_1; have l_q12_1 := catL_le L (j + 1)
      refine R_pu (pu_loadK f_p_3 (by kernel_rfl) rfl (partsL_get e_q12_1)) rfl ?_
      refine R_pu (pu_assign rfl) rfl ?_
      refine R_nil ?_
      refine X_then hK19 ?_
      refine C_region ?_
      refine R_pu (pu_move rfl) rfl ?_
      refine R_pu (pu_move rfl) rfl ?_
      refine R_lo (lo_app (X := catL (L.take j)) (Y := q12_1.2.1) gr9_3.1 gr9_3.1.le.1 rfl rfl rfl (h_q12_1.1.keptNo kk3) (by omega) gr9_3.2) rfl ?_
      rintro _ w4 ⟨A_4, c_4, rfl, p4⟩
      have k4 := p4.kp
      have kk4 := kk3.trans k4 (fun i hi => .inr (Nat.le_trans (kk1).size hi))
      refine R_pu (pu_assign rfl) rfl ?_
      refine R_nil ?_
      refine X_in_normal ?_
      refine X_then hK18 ?_
      refine C_region ?_
      refine R_pu (pu_add (z := ((j + 1 : Nat) : Int)) rfl rfl (by rw [IntKind.wrap_i64]; omega)) rfl ?_
      refine R_pu (pu_move rfl) rfl ?_
      refine R_nil ?_
      have f20 : Bk w4 p (partsL L) 22 := (f_p_3.kept k4 (by have := f_p_1.lt; omega))
      refine X_round (L.length - (j + 1)) [(2, .slice none (0) (0)), (6, .slice A_4 ((catL (L.take (j + 1))).length) (c_4)), (25, .slice (some ⟨p, 0, none⟩) (L.length) (L.length)), (26, .int .i64 ((L.length : Nat) : Int)), (27, .int .i64 (((j + 1) : Nat) : Int))] (by omega) (Sub.cons rfl (Sub.consE rfl (by rw [catL_step e_q12_1]) (Sub.cons rfl (Sub.cons rfl (Sub.cons rfl (Sub.nil _)))))) ⟨j + 1, A_4, c_4, rfl, rfl, by omega, kk4, f20, ⟨by rw [← catL_step e_q12_1]; exact p4.ob, (Nat.le_trans gr9_3.2 k4.size)⟩⟩
    · refine C_exit ?_
      refine X_then_exit (X_then_exit (X_in_eq ?_))
      refine X_then hK13 ?_
      refine C_seq (fun K21 hK21 => ?_)
      refine C_region ?_
      refine R_pu (pu_move rfl) rfl ?_
      refine R_pu (pu_assign rfl) rfl ?_
      refine R_nil ?_
      refine X_then hK21 ?_
      refine C_ret ?_
      exact X_ret1 (.inl rfl) rfl rfl (have hE : catL (L.take j) = catL L := (by rw [show j = L.length by omega, List.take_length]); ⟨Ag, cg, by rw [← hE], by rw [← hE]; exact gr9_3.1.low ((kk1).size), kk3⟩)
end Go.Proofs.YtlkbkgghfhoggaaGreatDoor
