/- The body of ProgressSteps. -/
import Derived.Test.YtjbdimfpjbmggaaDoorQd
set_option linter.unusedVariables false
set_option linter.unusedSimpArgs false
namespace Go.Proofs.YtjbdimfpjbmggaaDoor
open Go.RowKit Gm
set_option maxRecDepth 100000 in
set_option maxHeartbeats 2000000 in
theorem give_shares23 (A : Option Addr) (L : List Shr) (c : Nat) (w : World) (HS : Ss w A L) (hs : L.length ≤ 100000) : Ret Tryd.prog 51 #[.slice A (L.length) (c)] w (fun v w' => ∃ A' c', v = .slice A' L.length c' ∧ Sp 50 w' w.heap.size (.slice A' L.length c') L ∧ Kp No w w') := by
  have kk0 := Kp.refl No w
  refine enter (n := 19) [.slice A (L.length) (c)] Tryd.func51 rfl rfl rfl ?_
  show Cw _ _ _ _ [(0, .slice A (L.length) (c))] _
  refine C_seq (fun K1 hK1 => ?_)
  refine C_region ?_
  refine R_pu (pu_assign rfl) rfl ?_
  refine R_nil ?_
  refine X_then hK1 ?_
  refine C_seq (fun K2 hK2 => ?_)
  refine C_region ?_
  refine R_pu (pu_assign rfl) rfl ?_
  refine R_nil ?_
  refine X_then hK2 ?_
  refine C_seq (fun K3 hK3 => ?_)
  refine C_seq (fun K4 hK4 => ?_)
  refine C_region ?_
  refine R_pu (pu_assign rfl) rfl ?_
  refine R_nil ?_
  refine X_then hK4 ?_
  refine C_block ?_
  have sp5 := Sp.nil 50 w w.heap.size
  have z6 := Nat.le_refl w.heap.size
  refine C_loop (fun m_ l_ wr => ∃ i : Nat, ∃ An : Option Addr, ∃ cn : Nat, (m_ = L.length - i) ∧ (l_ = [(0, .slice A (L.length) (c)), (2, .slice none (0) (0)), (3, .slice An ((L.take i).length) (cn)), (4, .int .i64 ((i : Nat) : Int))]) ∧ (i ≤ L.length) ∧ (Kp No w wr) ∧ (Sp 50 wr w.heap.size (.slice An ((L.take i).length) (cn)) (L.take i) ∧ w.heap.size ≤ (wr).heap.size)) (L.length - 0) [(0, .slice A (L.length) (c)), (2, .slice none (0) (0)), (3, .slice none ((L.take 0).length) (0)), (4, .int .i64 0)] (Sub.cons rfl (Sub.cons rfl (Sub.cons rfl (Sub.cons rfl (Sub.nil _))))) ⟨0, none, 0, rfl, rfl, by omega, kk0, ⟨by exact sp5, z6⟩⟩ ?_
  rintro _ _ w1 ⟨i, An, cn, rfl, rfl, hi, kk1, out_1⟩
  refine C_seq (fun K7 hK7 => ?_)
  refine C_seq (fun K8 hK8 => ?_)
  refine C_region ?_
  refine R_pu (pu_move rfl) rfl ?_
  refine R_pu (pu_move rfl) rfl ?_
  refine R_pu (pu_len Tryd.underlying36 rfl) rfl ?_
  refine R_pu (pu_lss (p := i < L.length) rfl rfl (by omega)) rfl ?_
  refine R_nil ?_
  refine X_then hK8 ?_
  refine C_dec rfl (fun h8 => ?_) (fun h8 => ?_)
  · refine C_skip ?_
    refine X_then hK7 ?_
    refine C_seq (fun K9 hK9 => ?_)
    refine C_block ?_
    refine C_region ?_
    refine R_pu (pu_move rfl) rfl ?_
    refine R_pu (pu_move rfl) rfl ?_
    refine R_pu (pu_move rfl) rfl ?_
    obtain ⟨s1, e_s1⟩ : ∃ q_, (L)[i]? = some q_ := ⟨_, List.getElem?_eq_getElem (by first | omega | (simp; done) | (simp; omega))⟩
    have ok_s1 := HS.get e_s1
    have okb_s1 := ok_s1.bs
    have bi_s1 : s1.ix < 256 := ok_s1.ix
    refine R_pu (pu_indexAddrH (HS.keptNo kk1) Tryd.underlying36 (by kernel_rfl) rfl rfl rfl rfl e_s1) rfl ?_
    refine R_pu (pu_loadHr (HS.keptNo kk1) e_s1 (by kernel_rfl) (by kernel_rfl) rfl) rfl ?_
    refine R_lo (lo_buildSlice (L := [.int .u8 ((s1.ix : Nat) : Int), .int .u32 ((s1.gen : Nat) : Int), .slice s1.A (s1.X.length) (s1.c)]) Tryd.underlying29 rfl (by kernel_rfl)) rfl ?_
    rintro _ w2 ⟨lit, rfl, N2⟩
    have k2 := N2.kp
    have kk2 := kk1.then_ k2
    have f_lit_2 : Bk w2 lit ([.int .u8 ((s1.ix : Nat) : Int), .int .u32 ((s1.gen : Nat) : Int), .slice s1.A (s1.X.length) (s1.c)]) 50 := N2.bk
    have ob10 := (out_1.1.keptNo k2)
    refine R_lo (lo_appq (L := L.take i) (M := [s1]) Tryd.underlying29 (by kernel_rfl) ob10 ob10.le.1 rfl rfl rfl (by exact f_lit_2) (by rw [List.length_take]; simp; omega) (Nat.le_trans out_1.2 k2.size)) rfl ?_
    rintro _ w3 ⟨A_3, c_3, rfl, p3⟩
    have k3 := p3.kp
    have kk3 := kk2.trans k3 (fun i hi => .inr (Nat.le_trans (kk0).size hi))
    refine R_pu (pu_assign rfl) rfl ?_
    refine R_nil ?_
    refine X_in_normal ?_
    refine X_then hK9 ?_
    refine C_region ?_
    refine R_pu (pu_move rfl) rfl ?_
    refine R_pu (pu_add (z := ((i + 1 : Nat) : Int)) rfl rfl (by rw [IntKind.wrap_i64]; omega)) rfl ?_
    refine R_pu (pu_assign rfl) rfl ?_
    refine R_nil ?_
    refine X_round (L.length - (i + 1)) [(0, .slice A (L.length) (c)), (2, .slice none (0) (0)), (3, .slice A_3 ((L.take (i + 1)).length) (c_3)), (4, .int .i64 (((i + 1) : Nat) : Int))] (by omega) (Sub.cons rfl (Sub.cons rfl (Sub.consE rfl (by rw [takeS e_s1]) (Sub.cons rfl (Sub.nil _))))) ⟨i + 1, A_3, c_3, rfl, rfl, by omega, kk3, ⟨by rw [← takeS e_s1]; exact p3.ob, (Nat.le_trans (Nat.le_trans out_1.2 k2.size) k3.size)⟩⟩
  · refine C_exit ?_
    refine X_then_exit (X_then_exit (X_in_eq ?_))
    refine X_then hK3 ?_
    refine C_seq (fun K11 hK11 => ?_)
    refine C_region ?_
    refine R_pu (pu_move rfl) rfl ?_
    refine R_pu (pu_assign rfl) rfl ?_
    refine R_nil ?_
    refine X_then hK11 ?_
    refine C_ret ?_
    exact X_ret1 (.inl rfl) rfl rfl (by have hE : L.take i = L := List.take_of_length_le (by omega); have h1 := out_1.1.lowb ((kk0).size); rw [hE] at h1 ⊢; exact ⟨An, cn, rfl, h1, kk1⟩)
set_option maxRecDepth 100000 in
set_option maxHeartbeats 2000000 in
theorem give_progress23 (ka nn : Int) (ge : Nat) (mk : ByteArray) (A : Option Addr) (L : List Shr) (c : Nat) (w : World) (HS : Ss w A L) (hs : L.length ≤ 100000) : Ret Tryd.prog 29 #[.agg ([.int .i64 (ka), .int .i64 (nn), .int .u32 ((ge : Nat) : Int), .string mk, .slice A (L.length) (c)] : List Value).toArray] w (fun v w' => ∃ A' c', v = .agg ([.int .i64 ka, .int .i64 nn, .int .u32 ((ge : Nat) : Int), .string mk, .slice A' L.length c'] : List Value).toArray ∧ Sp 50 w' w.heap.size (.slice A' L.length c') L ∧ Kp No w w') := by
  have kk0 := Kp.refl No w
  refine enter (n := 11) [.agg ([.int .i64 (ka), .int .i64 (nn), .int .u32 ((ge : Nat) : Int), .string mk, .slice A (L.length) (c)] : List Value).toArray] Tryd.func29 rfl rfl rfl ?_
  show Cw _ _ _ _ [(0, .agg ([.int .i64 (ka), .int .i64 (nn), .int .u32 ((ge : Nat) : Int), .string mk, .slice A (L.length) (c)] : List Value).toArray)] _
  refine C_seq (fun K1 hK1 => ?_)
  refine C_region ?_
  refine R_lo (lo_box (L := [.int .i64 (ka), .int .i64 (nn), .int .u32 ((ge : Nat) : Int), .string mk, .slice A (L.length) (c)]) rfl rfl) rfl ?_
  rintro _ w1 ⟨pb, rfl, N1⟩
  have k1 := N1.kp
  have kk1 := kk0.then_ k1
  have f_pb_1 : Bk w1 pb ([.int .i64 (ka), .int .i64 (nn), .int .u32 ((ge : Nat) : Int), .string mk, .slice A (L.length) (c)]) 68 := N1.bk
  refine R_lo (lo_alloc (L := [.int .i64 0, .int .i64 0, .int .u32 0, .string ByteArray.empty, .slice none (0) (0)]) (by kernel_rfl)) rfl ?_
  rintro _ w2 ⟨rs, rfl, N2⟩
  have k2 := N2.kp
  have kk2 := kk1.then_ k2
  have ne_rs_pb : rs ≠ pb := Nat.ne_of_gt (Nat.lt_of_lt_of_le f_pb_1.lt N2.le)
  have f_rs_2 : Bk w2 rs ([.int .i64 0, .int .i64 0, .int .u32 0, .string ByteArray.empty, .slice none (0) (0)]) 70 := N2.bk
  refine R_nil ?_
  refine X_then hK1 ?_
  refine C_seq (fun K2 hK2 => ?_)
  have f3 : Bk w2 pb ([.int .i64 (ka), .int .i64 (nn), .int .u32 ((ge : Nat) : Int), .string mk, .slice A (L.length) (c)]) 68 := (f_pb_1.no k2)
  refine Z_begin (fun W => Kp No w W ∧ Bk W pb ([.int .i64 (ka), .int .i64 (nn), .int .u32 ((ge : Nat) : Int), .string mk, .slice A (L.length) (c)]) 68 ∧ Bk W rs ([.int .i64 0, .int .i64 0, .int .u32 0, .string ByteArray.empty, .slice none (0) (0)]) 70) 8 9 rfl (by kernel_rfl) ⟨kk2.drew, f3.draw, f_rs_2.draw⟩ ?_
  intro w3 k3 _
  have kk3 := kk2.then_ k3
  refine Z_take 0 rfl (by kernel_rfl) (by kernel_rfl) (by kernel_rfl) (by kernel_rfl) (by kernel_rfl) (fun _ _ _ h => h) rfl (fun W hS => pu_fieldAddr (off := 0) (o' := 0) (by kernel_rfl) rfl rfl) ?_
  refine Z_take 1 rfl (by kernel_rfl) (by kernel_rfl) (by kernel_rfl) (by kernel_rfl) (by kernel_rfl) (fun _ _ _ h => h) rfl (fun W hS => pu_loadMid (len := 3) (C := [.int .i64 (ka), .int .i64 (nn), .int .u32 ((ge : Nat) : Int)]) hS.2.1 (by kernel_rfl) (by kernel_rfl) rfl rfl rfl) ?_
  refine Z_take 2 rfl (by kernel_rfl) (by kernel_rfl) (by kernel_rfl) (by kernel_rfl) (by kernel_rfl) (fun _ _ _ h => h) rfl (fun W hS => pu_fieldAddr (off := 3) (o' := 3) (by kernel_rfl) rfl rfl) ?_
  refine Z_take 3 rfl (by kernel_rfl) (by kernel_rfl) (by kernel_rfl) (by kernel_rfl) (by kernel_rfl) (fun _ _ _ h => h) rfl (fun W hS => pu_loadK hS.2.1 (by kernel_rfl) rfl rfl) ?_
  refine Z_take 4 rfl (by kernel_rfl) (by kernel_rfl) (by kernel_rfl) (by kernel_rfl) (by kernel_rfl) (fun _ _ _ h => h) rfl (fun W hS => pu_fieldAddr (off := 4) (o' := 4) (by kernel_rfl) rfl rfl) ?_
  refine Z_take 5 rfl (by kernel_rfl) (by kernel_rfl) (by kernel_rfl) (by kernel_rfl) (by kernel_rfl) (fun _ _ _ h => h) rfl (fun W hS => pu_loadK hS.2.1 (by kernel_rfl) rfl rfl) ?_
  have f4 : Bk w3 pb ([.int .i64 (ka), .int .i64 (nn), .int .u32 ((ge : Nat) : Int), .string mk, .slice A (L.length) (c)]) 68 := (f3.no k3)
  have f5 : Bk w3 rs ([.int .i64 0, .int .i64 0, .int .u32 0, .string ByteArray.empty, .slice none (0) (0)]) 70 := (f_rs_2.no k3)
  refine Z_one 6 (by kernel_rfl) (Nz_lo rfl (lo_call (by kernel_rfl) rfl (give_shares23 A L c _ (HS.keptNo kk3) (by omega))) rfl ?_)
  rintro _ w4 ⟨A_gv1, c_gv1, rfl, Q4, k4⟩
  have kk4 := kk3.then_ k4
  have z6 : w3.heap.size ≤ w4.heap.size := k4.size
  have f7 : Bk w4 pb ([.int .i64 (ka), .int .i64 (nn), .int .u32 ((ge : Nat) : Int), .string mk, .slice A (L.length) (c)]) 68 := (f4.no k4)
  have f8 : Bk w4 rs ([.int .i64 0, .int .i64 0, .int .u32 0, .string ByteArray.empty, .slice none (0) (0)]) 70 := (f5.no k4)
  refine ⟨⟨kk4, f7, f8⟩, ?_⟩
  refine Z_take 7 rfl (by kernel_rfl) (by kernel_rfl) (by kernel_rfl) (by kernel_rfl) (by kernel_rfl) (fun _ _ _ h => h) rfl (fun W hS => pu_build (L := [.int .i64 (ka), .int .i64 (nn), .int .u32 ((ge : Nat) : Int), .string mk, .slice A_gv1 ((L).length) (c_gv1)]) rfl (by kernel_rfl)) ?_
  refine Z_last 8 (by kernel_rfl) rfl (by kernel_rfl) (by kernel_rfl) (lo_storeRow (C := [.int .i64 (ka), .int .i64 (nn), .int .u32 ((ge : Nat) : Int), .string mk, .slice A_gv1 ((L).length) (c_gv1)]) f8 (by kernel_rfl) rfl rfl (by intro u hu; simp at hu; rcases hu with rfl | rfl | rfl | rfl | rfl <;> rfl) rfl) ?_
  rintro _ w5 kf5
  obtain ⟨k5, f_rs_5⟩ := kf5
  replace f_rs_5 : Bk w5 rs ([.int .i64 (ka), .int .i64 (nn), .int .u32 ((ge : Nat) : Int), .string mk, .slice A_gv1 ((L).length) (c_gv1)]) 70 := f_rs_5
  have kk5 := kk4.trans k5 (fun i hi => .inr (hi ▸ (Nat.le_trans kk1.size N2.le)))
  refine X_then hK2 ?_
  refine C_ret ?_
  have ob9 := (Q4.on k5 (by have := f5.lt; omega))
  exact X_retRow (len := 5) (.inl rfl) rfl rfl f_rs_5 (by kernel_rfl) (by kernel_rfl) rfl ⟨_, _, rfl, ob9.lowb ((kk3).size), kk5⟩
set_option maxRecDepth 100000 in
set_option maxHeartbeats 2000000 in
theorem are_shares23 (A : Option Addr) (L : List Shr) (c : Nat) (A2 : Option Addr) (M : List Shr) (c2 : Nat) (w : World) (HS : Ss w A L) (HS2 : Ss w A2 M) (hkey : L.map Shr.key = M.map Shr.key) (hs : L.length < 1000000) : Ret Tryd.prog 55 #[.slice A (L.length) (c), .slice A2 (M.length) (c2)] w (fun v w' => v = .bool true ∧ Kp No w w') := by
  have hlen : L.length = M.length := by have := congrArg List.length hkey; rwa [List.length_map, List.length_map] at this
  have kk0 := Kp.refl No w
  refine enter (n := 56) [.slice A (L.length) (c), .slice A2 (M.length) (c2)] Tryd.func55 rfl rfl rfl ?_
  show Cw _ _ _ _ [(0, .slice A (L.length) (c)), (1, .slice A2 (M.length) (c2))] _
  refine C_seq (fun K1 hK1 => ?_)
  refine C_region ?_
  refine R_pu (pu_assign rfl) rfl ?_
  refine R_nil ?_
  refine X_then hK1 ?_
  refine C_seq (fun K2 hK2 => ?_)
  refine C_seq (fun K3 hK3 => ?_)
  refine C_region ?_
  refine R_pu (pu_move rfl) rfl ?_
  refine R_pu (pu_len Tryd.underlying29 rfl) rfl ?_
  refine R_pu (pu_move rfl) rfl ?_
  refine R_pu (pu_len Tryd.underlying36 rfl) rfl ?_
  refine R_pu (pu_neq (p := L.length = M.length) rfl rfl (by omega)) rfl ?_
  refine R_nil ?_
  refine X_then hK3 ?_
  refine C_decf rfl (fun h => h hlen) ?_
  refine C_skip ?_
  refine X_then hK2 ?_
  refine C_seq (fun K4 hK4 => ?_)
  refine C_seq (fun K5 hK5 => ?_)
  refine C_region ?_
  refine R_pu (pu_assign rfl) rfl ?_
  refine R_nil ?_
  refine X_then hK5 ?_
  refine C_block ?_
  refine C_loop (fun m_ l_ wr => ∃ i : Nat, (m_ = L.length - i) ∧ (l_ = [(0, .slice A (L.length) (c)), (1, .slice A2 (M.length) (c2)), (5, .int .i64 ((i : Nat) : Int))]) ∧ (i ≤ L.length) ∧ (Kp No w wr)) (L.length - 0) [(0, .slice A (L.length) (c)), (1, .slice A2 (M.length) (c2)), (5, .int .i64 0)] (Sub.cons rfl (Sub.cons rfl (Sub.cons rfl (Sub.nil _)))) ⟨0, rfl, rfl, by omega, kk0⟩ ?_
  rintro _ _ w1 ⟨i, rfl, rfl, hi, kk1⟩
  refine C_seq (fun K6 hK6 => ?_)
  refine C_seq (fun K7 hK7 => ?_)
  refine C_region ?_
  refine R_pu (pu_move rfl) rfl ?_
  refine R_pu (pu_move rfl) rfl ?_
  refine R_pu (pu_len Tryd.underlying29 rfl) rfl ?_
  refine R_pu (pu_lss (p := i < L.length) rfl rfl (by omega)) rfl ?_
  refine R_nil ?_
  refine X_then hK7 ?_
  refine C_dec rfl (fun h14 => ?_) (fun h14 => ?_)
  · refine C_skip ?_
    refine X_then hK6 ?_
    refine C_seq (fun K8 hK8 => ?_)
    refine C_block ?_
    refine C_seq (fun K9 hK9 => ?_)
    refine D_begin (fun W => Kp No w W) 39 rfl (by kernel_rfl) kk1.drew ?_
    intro w2 k2 _
    have kk2 := kk1.then_ k2
    refine D_take 0 rfl (by kernel_rfl) (by kernel_rfl) (by kernel_rfl) (fun _ _ _ h => h) rfl (fun W hS => pu_move rfl) ?_
    refine D_take 1 rfl (by kernel_rfl) (by kernel_rfl) (by kernel_rfl) (fun _ _ _ h => h) rfl (fun W hS => pu_move rfl) ?_
    obtain ⟨s1, e_s1⟩ : ∃ q_, (L)[i]? = some q_ := ⟨_, List.getElem?_eq_getElem (by first | omega | (simp; done) | (simp; omega))⟩
    have ok_s1 := HS.get e_s1
    have okb_s1 := ok_s1.bs
    have bi_s1 : s1.ix < 256 := ok_s1.ix
    refine D_take 2 rfl (by kernel_rfl) (by kernel_rfl) (by kernel_rfl) (fun _ _ _ h => h) rfl (fun W hS => pu_indexAddrH (HS.keptNo hS) Tryd.underlying29 (by kernel_rfl) rfl rfl rfl rfl e_s1) ?_
    refine D_take 3 rfl (by kernel_rfl) (by kernel_rfl) (by kernel_rfl) (fun _ _ _ h => h) rfl (fun W hS => pu_fieldAddrH (off := 0) (HS.keptNo hS) e_s1 (by kernel_rfl) rfl) ?_
    refine D_take 4 rfl (by kernel_rfl) (by kernel_rfl) (by kernel_rfl) (fun _ _ _ h => h) rfl (fun W hS => pu_loadH (HS.keptNo hS) e_s1 (by kernel_rfl) rfl rfl) ?_
    refine D_take 5 rfl (by kernel_rfl) (by kernel_rfl) (by kernel_rfl) (fun _ _ _ h => h) rfl (fun W hS => pu_move rfl) ?_
    refine D_take 6 rfl (by kernel_rfl) (by kernel_rfl) (by kernel_rfl) (fun _ _ _ h => h) rfl (fun W hS => pu_move rfl) ?_
    obtain ⟨s2, e_s2⟩ : ∃ q_, (M)[i]? = some q_ := ⟨_, List.getElem?_eq_getElem (by first | omega | (simp; done) | (simp; omega))⟩
    have ok_s2 := HS2.get e_s2
    have okb_s2 := ok_s2.bs
    have bi_s2 : s2.ix < 256 := ok_s2.ix
    refine D_take 7 rfl (by kernel_rfl) (by kernel_rfl) (by kernel_rfl) (fun _ _ _ h => h) rfl (fun W hS => pu_indexAddrH (HS2.keptNo hS) Tryd.underlying36 (by kernel_rfl) rfl rfl rfl rfl e_s2) ?_
    refine D_take 8 rfl (by kernel_rfl) (by kernel_rfl) (by kernel_rfl) (fun _ _ _ h => h) rfl (fun W hS => pu_fieldAddrH (off := 0) (HS2.keptNo hS) e_s2 (by kernel_rfl) rfl) ?_
    refine D_take 9 rfl (by kernel_rfl) (by kernel_rfl) (by kernel_rfl) (fun _ _ _ h => h) rfl (fun W hS => pu_loadH (HS2.keptNo hS) e_s2 (by kernel_rfl) rfl rfl) ?_
    have hk := shr_key hkey e_s1 e_s2
    refine D_take 10 rfl (by kernel_rfl) (by kernel_rfl) (by kernel_rfl) (fun _ _ _ h => h) rfl (fun W hS => pu_false (pu_neq (p := s1.ix = s2.ix) rfl rfl (by omega)) (fun h => h hk.1)) ?_
    refine D_take 11 rfl (by kernel_rfl) (by kernel_rfl) (by kernel_rfl) (fun _ _ _ h => h) rfl (fun W hS => pu_move rfl) ?_
    refine D_gtake 12 rfl rfl rfl (by kernel_rfl) (by kernel_rfl) (by kernel_rfl) (fun _ _ _ h => h) rfl (fun W hS => pu_move rfl) ?_
    refine D_gtake 13 rfl rfl rfl (by kernel_rfl) (by kernel_rfl) (by kernel_rfl) (fun _ _ _ h => h) rfl (fun W hS => pu_move rfl) ?_
    refine D_gtake 14 rfl rfl rfl (by kernel_rfl) (by kernel_rfl) (by kernel_rfl) (fun _ _ _ h => h) rfl (fun W hS => pu_indexAddrH (HS.keptNo hS) Tryd.underlying29 (by kernel_rfl) rfl rfl rfl rfl e_s1) ?_
    refine D_gtake 15 rfl rfl rfl (by kernel_rfl) (by kernel_rfl) (by kernel_rfl) (fun _ _ _ h => h) rfl (fun W hS => pu_fieldAddrH (off := 1) (HS.keptNo hS) e_s1 (by kernel_rfl) rfl) ?_
    refine D_gtake 16 rfl rfl rfl (by kernel_rfl) (by kernel_rfl) (by kernel_rfl) (fun _ _ _ h => h) rfl (fun W hS => pu_loadH (HS.keptNo hS) e_s1 (by kernel_rfl) rfl rfl) ?_
    refine D_gtake 17 rfl rfl rfl (by kernel_rfl) (by kernel_rfl) (by kernel_rfl) (fun _ _ _ h => h) rfl (fun W hS => pu_move rfl) ?_
    refine D_gtake 18 rfl rfl rfl (by kernel_rfl) (by kernel_rfl) (by kernel_rfl) (fun _ _ _ h => h) rfl (fun W hS => pu_move rfl) ?_
    refine D_gtake 19 rfl rfl rfl (by kernel_rfl) (by kernel_rfl) (by kernel_rfl) (fun _ _ _ h => h) rfl (fun W hS => pu_indexAddrH (HS2.keptNo hS) Tryd.underlying36 (by kernel_rfl) rfl rfl rfl rfl e_s2) ?_
    refine D_gtake 20 rfl rfl rfl (by kernel_rfl) (by kernel_rfl) (by kernel_rfl) (fun _ _ _ h => h) rfl (fun W hS => pu_fieldAddrH (off := 1) (HS2.keptNo hS) e_s2 (by kernel_rfl) rfl) ?_
    refine D_gtake 21 rfl rfl rfl (by kernel_rfl) (by kernel_rfl) (by kernel_rfl) (fun _ _ _ h => h) rfl (fun W hS => pu_loadH (HS2.keptNo hS) e_s2 (by kernel_rfl) rfl rfl) ?_
    refine D_gtake 22 rfl rfl rfl (by kernel_rfl) (by kernel_rfl) (by kernel_rfl) (fun _ _ _ h => h) rfl (fun W hS => pu_false (pu_neq (p := s1.gen = s2.gen) rfl rfl (by omega)) (fun h => h hk.2.1)) ?_
    refine D_take 23 rfl (by kernel_rfl) (by kernel_rfl) (by kernel_rfl) (fun _ _ _ h => h) rfl (fun W hS => pu_pickf rfl rfl) ?_
    refine D_take 24 rfl (by kernel_rfl) (by kernel_rfl) (by kernel_rfl) (fun _ _ _ h => h) rfl (fun W hS => pu_move rfl) ?_
    refine D_gtake 25 rfl rfl rfl (by kernel_rfl) (by kernel_rfl) (by kernel_rfl) (fun _ _ _ h => h) rfl (fun W hS => pu_move rfl) ?_
    refine D_gtake 26 rfl rfl rfl (by kernel_rfl) (by kernel_rfl) (by kernel_rfl) (fun _ _ _ h => h) rfl (fun W hS => pu_move rfl) ?_
    refine D_gtake 27 rfl rfl rfl (by kernel_rfl) (by kernel_rfl) (by kernel_rfl) (fun _ _ _ h => h) rfl (fun W hS => pu_indexAddrH (HS.keptNo hS) Tryd.underlying29 (by kernel_rfl) rfl rfl rfl rfl e_s1) ?_
    refine D_gtake 28 rfl rfl rfl (by kernel_rfl) (by kernel_rfl) (by kernel_rfl) (fun _ _ _ h => h) rfl (fun W hS => pu_fieldAddrH (off := 2) (HS.keptNo hS) e_s1 (by kernel_rfl) rfl) ?_
    refine D_gtake 29 rfl rfl rfl (by kernel_rfl) (by kernel_rfl) (by kernel_rfl) (fun _ _ _ h => h) rfl (fun W hS => pu_loadH (HS.keptNo hS) e_s1 (by kernel_rfl) rfl rfl) ?_
    refine D_gtake 30 rfl rfl rfl (by kernel_rfl) (by kernel_rfl) (by kernel_rfl) (fun _ _ _ h => h) rfl (fun W hS => pu_bstr (okb_s1.keptNo hS) Tryd.underlying22 Tryd.underlying5 Tryd.underlying9 rfl rfl) ?_
    refine D_gtake 31 rfl rfl rfl (by kernel_rfl) (by kernel_rfl) (by kernel_rfl) (fun _ _ _ h => h) rfl (fun W hS => pu_move rfl) ?_
    refine D_gtake 32 rfl rfl rfl (by kernel_rfl) (by kernel_rfl) (by kernel_rfl) (fun _ _ _ h => h) rfl (fun W hS => pu_move rfl) ?_
    refine D_gtake 33 rfl rfl rfl (by kernel_rfl) (by kernel_rfl) (by kernel_rfl) (fun _ _ _ h => h) rfl (fun W hS => pu_indexAddrH (HS2.keptNo hS) Tryd.underlying36 (by kernel_rfl) rfl rfl rfl rfl e_s2) ?_
    refine D_gtake 34 rfl rfl rfl (by kernel_rfl) (by kernel_rfl) (by kernel_rfl) (fun _ _ _ h => h) rfl (fun W hS => pu_fieldAddrH (off := 2) (HS2.keptNo hS) e_s2 (by kernel_rfl) rfl) ?_
    refine D_gtake 35 rfl rfl rfl (by kernel_rfl) (by kernel_rfl) (by kernel_rfl) (fun _ _ _ h => h) rfl (fun W hS => pu_loadH (HS2.keptNo hS) e_s2 (by kernel_rfl) rfl rfl) ?_
    refine D_gtake 36 rfl rfl rfl (by kernel_rfl) (by kernel_rfl) (by kernel_rfl) (fun _ _ _ h => h) rfl (fun W hS => pu_bstr (okb_s2.keptNo hS) Tryd.underlying22 Tryd.underlying5 Tryd.underlying9 rfl rfl) ?_
    refine D_gtake 37 rfl rfl rfl (by kernel_rfl) (by kernel_rfl) (by kernel_rfl) (fun _ _ _ h => h) rfl (fun W hS => pu_neqs (p := s1.X = s2.X) rfl rfl (bstr_inj ((okb_s1.keptNo kk2)).byte ((okb_s2.keptNo kk2)).byte)) ?_
    refine D_take 38 rfl (by kernel_rfl) (by kernel_rfl) (by kernel_rfl) (fun _ _ _ h => h) rfl (fun W hS => pu_pickf rfl rfl) ?_
    refine D_done (by kernel_rfl) ?_
    refine X_then hK9 ?_
    refine C_decf rfl (fun h => h hk.2.2) ?_
    refine C_skip ?_
    refine X_in_normal ?_
    refine X_then hK8 ?_
    refine C_region ?_
    refine R_pu (pu_move rfl) rfl ?_
    refine R_pu (pu_add (z := ((i + 1 : Nat) : Int)) rfl rfl (by rw [IntKind.wrap_i64]; omega)) rfl ?_
    refine R_pu (pu_assign rfl) rfl ?_
    refine R_nil ?_
    refine X_round (L.length - (i + 1)) [(0, .slice A (L.length) (c)), (1, .slice A2 (M.length) (c2)), (5, .int .i64 (((i + 1) : Nat) : Int))] (by omega) (Sub.cons rfl (Sub.cons rfl (Sub.cons rfl (Sub.nil _)))) ⟨i + 1, rfl, rfl, by omega, kk2⟩
  · refine C_exit ?_
    refine X_then_exit (X_then_exit (X_in_eq ?_))
    refine X_then hK4 ?_
    refine C_seq (fun K10 hK10 => ?_)
    refine C_region ?_
    refine R_pu (pu_assign rfl) rfl ?_
    refine R_nil ?_
    refine X_then hK10 ?_
    refine C_ret ?_
    exact X_ret1 (.inl rfl) rfl rfl ⟨rfl, kk1⟩
set_option maxRecDepth 100000 in
set_option maxHeartbeats 2000000 in
theorem is_progress23 (ka nn : Int) (ge : Nat) (mk : ByteArray) (A : Option Addr) (L : List Shr) (c : Nat) (A2 : Option Addr) (M : List Shr) (c2 : Nat) (w : World) (HS : Ss w A L) (HS2 : Ss w A2 M) (hkey : L.map Shr.key = M.map Shr.key) (hs : L.length < 1000000) : Ret Tryd.prog 37 #[.agg ([.int .i64 (ka), .int .i64 (nn), .int .u32 ((ge : Nat) : Int), .string mk, .slice A (L.length) (c)] : List Value).toArray, .agg ([.int .i64 (ka), .int .i64 (nn), .int .u32 ((ge : Nat) : Int), .string mk, .slice A2 (M.length) (c2)] : List Value).toArray] w (fun v w' => v = .bool true ∧ Kp No w w') := by
  have kk0 := Kp.refl No w
  refine enter (n := 24) [.agg ([.int .i64 (ka), .int .i64 (nn), .int .u32 ((ge : Nat) : Int), .string mk, .slice A (L.length) (c)] : List Value).toArray, .agg ([.int .i64 (ka), .int .i64 (nn), .int .u32 ((ge : Nat) : Int), .string mk, .slice A2 (M.length) (c2)] : List Value).toArray] Tryd.func37 rfl rfl rfl ?_
  show Cw _ _ _ _ [(0, .agg ([.int .i64 (ka), .int .i64 (nn), .int .u32 ((ge : Nat) : Int), .string mk, .slice A (L.length) (c)] : List Value).toArray), (1, .agg ([.int .i64 (ka), .int .i64 (nn), .int .u32 ((ge : Nat) : Int), .string mk, .slice A2 (M.length) (c2)] : List Value).toArray)] _
  refine C_seq (fun K1 hK1 => ?_)
  refine C_region ?_
  refine R_lo (lo_box (L := [.int .i64 (ka), .int .i64 (nn), .int .u32 ((ge : Nat) : Int), .string mk, .slice A (L.length) (c)]) rfl rfl) rfl ?_
  rintro _ w1 ⟨pa, rfl, N1⟩
  have k1 := N1.kp
  have kk1 := kk0.then_ k1
  have f_pa_1 : Bk w1 pa ([.int .i64 (ka), .int .i64 (nn), .int .u32 ((ge : Nat) : Int), .string mk, .slice A (L.length) (c)]) 70 := N1.bk
  refine R_lo (lo_box (L := [.int .i64 (ka), .int .i64 (nn), .int .u32 ((ge : Nat) : Int), .string mk, .slice A2 (M.length) (c2)]) rfl rfl) rfl ?_
  rintro _ w2 ⟨pb, rfl, N2⟩
  have k2 := N2.kp
  have kk2 := kk1.then_ k2
  have ne_pb_pa : pb ≠ pa := Nat.ne_of_gt (Nat.lt_of_lt_of_le f_pa_1.lt N2.le)
  have f_pb_2 : Bk w2 pb ([.int .i64 (ka), .int .i64 (nn), .int .u32 ((ge : Nat) : Int), .string mk, .slice A2 (M.length) (c2)]) 68 := N2.bk
  refine R_pu (pu_assign rfl) rfl ?_
  refine R_nil ?_
  refine X_then hK1 ?_
  refine C_seq (fun K2 hK2 => ?_)
  refine C_region ?_
  refine R_pu (pu_fieldAddr (off := 0) (o' := 0) (by kernel_rfl) rfl rfl) rfl ?_
  have f3 : Bk w2 pa ([.int .i64 (ka), .int .i64 (nn), .int .u32 ((ge : Nat) : Int), .string mk, .slice A (L.length) (c)]) 70 := (f_pa_1.no k2)
  refine R_pu (pu_loadMid (len := 3) (C := [.int .i64 (ka), .int .i64 (nn), .int .u32 ((ge : Nat) : Int)]) f3 (by kernel_rfl) (by kernel_rfl) rfl rfl rfl) rfl ?_
  refine R_pu (pu_fieldAddr (off := 0) (o' := 0) (by kernel_rfl) rfl rfl) rfl ?_
  refine R_pu (pu_loadMid (len := 3) (C := [.int .i64 (ka), .int .i64 (nn), .int .u32 ((ge : Nat) : Int)]) f_pb_2 (by kernel_rfl) (by kernel_rfl) rfl rfl rfl) rfl ?_
  refine R_pu (pu_true (pu_eqlS3 Tryd.underlying28 (by kernel_rfl) (by kernel_rfl) (by decide) (by decide) (by decide) Tryd.underlying3 Tryd.underlying3 Tryd.underlying23 rfl rfl rfl rfl rfl) ⟨rfl, rfl, rfl⟩) rfl ?_
  refine R_pu (pu_move rfl) rfl ?_
  refine R_gpu rfl rfl (pu_fieldAddr (off := 3) (o' := 3) (by kernel_rfl) rfl rfl) rfl ?_
  refine R_gpu rfl rfl (pu_loadK f3 (by kernel_rfl) rfl rfl) rfl ?_
  refine R_gpu rfl rfl (pu_fieldAddr (off := 3) (o' := 3) (by kernel_rfl) rfl rfl) rfl ?_
  refine R_gpu rfl rfl (pu_loadK f_pb_2 (by kernel_rfl) rfl rfl) rfl ?_
  refine R_gpu rfl rfl (pu_true (pu_eqls (p := mk = mk) rfl rfl Iff.rfl) rfl) rfl ?_
  refine R_pu (pu_pickt rfl rfl) rfl ?_
  refine R_pu (pu_move rfl) rfl ?_
  refine R_gpu rfl rfl (pu_fieldAddr (off := 4) (o' := 4) (by kernel_rfl) rfl rfl) rfl ?_
  refine R_gpu rfl rfl (pu_loadK f3 (by kernel_rfl) rfl rfl) rfl ?_
  refine R_gpu rfl rfl (pu_fieldAddr (off := 4) (o' := 4) (by kernel_rfl) rfl rfl) rfl ?_
  refine R_gpu rfl rfl (pu_loadK f_pb_2 (by kernel_rfl) rfl rfl) rfl ?_
  refine R_glo rfl rfl (lo_call (by kernel_rfl) rfl (are_shares23 A L c A2 M c2 _ (HS.keptNo kk2) (HS2.keptNo kk2) hkey (by omega))) rfl ?_
  rintro _ w3 ⟨rfl, k3⟩
  have kk3 := kk2.then_ k3
  refine R_pu (pu_pickt rfl rfl) rfl ?_
  refine R_pu (pu_assign rfl) rfl ?_
  refine R_nil ?_
  refine X_then hK2 ?_
  refine C_ret ?_
  exact X_ret1 (.inl rfl) rfl rfl ⟨rfl, kk3⟩
set_option maxRecDepth 100000 in
set_option maxHeartbeats 2000000 in
theorem reset_all (ka nn : Int) (ge : Nat) (mk : ByteArray) (A0 : Option Addr) (n0 c0 : Nat) (w : World)  : Ret Tryd.prog 36 #[.agg ([.int .i64 (ka), .int .i64 (nn), .int .u32 ((ge : Nat) : Int), .string mk, .slice A0 (n0) (c0)] : List Value).toArray] w (fun v w' => v = .agg ([.int .i64 (ka), .int .i64 (nn), .int .u32 ((ge : Nat) : Int), .string mk, .slice none (0) (0)] : List Value).toArray ∧ Kp No w w') := by
  have kk0 := Kp.refl No w
  refine enter (n := 8) [.agg ([.int .i64 (ka), .int .i64 (nn), .int .u32 ((ge : Nat) : Int), .string mk, .slice A0 (n0) (c0)] : List Value).toArray] Tryd.func36 rfl rfl rfl ?_
  show Cw _ _ _ _ [(0, .agg ([.int .i64 (ka), .int .i64 (nn), .int .u32 ((ge : Nat) : Int), .string mk, .slice A0 (n0) (c0)] : List Value).toArray)] _
  refine C_seq (fun K1 hK1 => ?_)
  refine C_region ?_
  refine R_lo (lo_box (L := [.int .i64 (ka), .int .i64 (nn), .int .u32 ((ge : Nat) : Int), .string mk, .slice A0 (n0) (c0)]) rfl rfl) rfl ?_
  rintro _ w1 ⟨p0_0, rfl, N1⟩
  have k1 := N1.kp
  have kk1 := kk0.then_ k1
  have f_p0_0_1 : Bk w1 p0_0 ([.int .i64 (ka), .int .i64 (nn), .int .u32 ((ge : Nat) : Int), .string mk, .slice A0 (n0) (c0)]) 70 := N1.bk
  refine R_lo (lo_alloc (L := [.int .i64 0, .int .i64 0, .int .u32 0, .string ByteArray.empty, .slice none (0) (0)]) (by kernel_rfl)) rfl ?_
  rintro _ w2 ⟨rs, rfl, N2⟩
  have k2 := N2.kp
  have kk2 := kk1.then_ k2
  have ne_rs_p0_0 : rs ≠ p0_0 := Nat.ne_of_gt (Nat.lt_of_lt_of_le f_p0_0_1.lt N2.le)
  have f_rs_2 : Bk w2 rs ([.int .i64 0, .int .i64 0, .int .u32 0, .string ByteArray.empty, .slice none (0) (0)]) 70 := N2.bk
  refine R_nil ?_
  refine X_then hK1 ?_
  refine C_seq (fun K2 hK2 => ?_)
  refine C_region ?_
  refine R_pu (pu_fieldAddr (off := 0) (o' := 0) (by kernel_rfl) rfl rfl) rfl ?_
  have f3 : Bk w2 p0_0 ([.int .i64 (ka), .int .i64 (nn), .int .u32 ((ge : Nat) : Int), .string mk, .slice A0 (n0) (c0)]) 70 := (f_p0_0_1.no k2)
  refine R_pu (pu_loadMid (len := 3) (C := [.int .i64 (ka), .int .i64 (nn), .int .u32 ((ge : Nat) : Int)]) f3 (by kernel_rfl) (by kernel_rfl) rfl rfl rfl) rfl ?_
  refine R_pu (pu_fieldAddr (off := 3) (o' := 3) (by kernel_rfl) rfl rfl) rfl ?_
  refine R_pu (pu_loadK f3 (by kernel_rfl) rfl rfl) rfl ?_
  refine R_pu (pu_build (L := [.int .i64 (ka), .int .i64 (nn), .int .u32 ((ge : Nat) : Int), .string mk, .slice none (0) (0)]) rfl (by kernel_rfl)) rfl ?_
  refine R_lo0 (lo_storeRow (C := [.int .i64 (ka), .int .i64 (nn), .int .u32 ((ge : Nat) : Int), .string mk, .slice none (0) (0)]) f_rs_2 (by kernel_rfl) rfl rfl (by intro u hu; simp at hu; rcases hu with rfl | rfl | rfl | rfl | rfl <;> rfl) rfl) ?_
  rintro _ w3 kf3
  obtain ⟨k3, f_rs_3⟩ := kf3
  replace f_rs_3 : Bk w3 rs ([.int .i64 (ka), .int .i64 (nn), .int .u32 ((ge : Nat) : Int), .string mk, .slice none (0) (0)]) 70 := f_rs_3
  have kk3 := kk2.trans k3 (fun i hi => .inr (hi ▸ (Nat.le_trans kk1.size N2.le)))
  refine R_nil ?_
  refine X_then hK2 ?_
  refine C_ret ?_
  exact X_retRow (len := 5) (.inl rfl) rfl rfl f_rs_3 (by kernel_rfl) (by kernel_rfl) rfl ⟨rfl, kk3⟩
theorem ok_subI {w : World} {E : Nat} {L : List Shr} {s : Shr} (h : ∀ t ∈ L, t.ok w) (hs : s.ok w) : ∀ t ∈ subI E (L ++ [s]) [], t.ok w := fun t ht => by
  unfold subI at ht
  split at ht
  · rcases List.mem_append.1 ht with h1 | h1
    · exact h t h1
    · rw [List.mem_singleton.1 h1]; exact hs
  · cases ht
theorem subI_map {α β : Type} (f : α → β) (E : Nat) (l m : List α) : (subI E l m).map f = subI E (l.map f) (m.map f) := by unfold subI; split <;> rfl
theorem subI_len {E : Nat} {L : List Shr} {s : Shr} : (subI E (L ++ [s]) []).length ≤ L.length + 1 := by unfold subI; split <;> simp
theorem chkE_n {b : Bool} : (!(decide (chkE b = 0) == b)) = false := by cases b <;> rfl
theorem subI_may {α : Type} {b : Bool} (h : (!b) = false) (a z : α) : subI (chkE b) a z = a := by cases b; cases h; rfl
set_option maxRecDepth 100000 in
set_option maxHeartbeats 2000000 in
theorem progressSteps_ (ka : Int) (hka : (Lit.int .i64 ka).wf = true) (nn : Int) (hnn : (Lit.int .i64 nn).wf = true) (ge : Nat) (hge : ge < 4294967296) (mk : ByteArray) (A : Option Addr) (L : List Shr) (c : Nat) (mk2 : ByteArray) (ix : Nat) (hix : ix < 256) (gn : Nat) (hgn : gn < 4294967296) (A1 : Option Addr) (X1 : List Nat) (c1 : Nat) (w : World) (hmk : mk.size ≤ maxLen) (HS : Ss w A L) (hc : L.length ≤ c) (hcm0 : c ≤ maxLen) (hmk2 : mk2.size ≤ 140737488351232) (HB : Bs w A1 X1) (hc1 : X1.length ≤ c1) (hcm : c1 ≤ maxLen) (hG : Gt w) : Ret Tryd.prog 8 #[.agg ([.int .i64 (ka), .int .i64 (nn), .int .u32 ((ge : Nat) : Int), .string mk, .slice A (L.length) (c)] : List Value).toArray, .string mk2, .agg ([.int .u8 ((ix : Nat) : Int), .int .u32 ((gn : Nat) : Int), .slice A1 (X1.length) (c1)] : List Value).toArray] w (fun v w' => v = .bool true ∧ Kp No w w') := by
  have hX1 : X1.length < 9223372036854775808 := by have := hcm; unfold maxLen at this; omega
  have hLs : L.length < 9223372036854775808 := by have := hcm0; unfold maxLen at this; omega
  have hm1 : mk.size < 9223372036854775808 := by have := hmk; unfold maxLen at this; omega
  have hm2 : mk2.size < 9223372036854775808 := by have := hmk2; omega
  have kk0 := Kp.refl No w
  refine enter (n := 198) [.agg ([.int .i64 (ka), .int .i64 (nn), .int .u32 ((ge : Nat) : Int), .string mk, .slice A (L.length) (c)] : List Value).toArray, .string mk2, .agg ([.int .u8 ((ix : Nat) : Int), .int .u32 ((gn : Nat) : Int), .slice A1 (X1.length) (c1)] : List Value).toArray] Tryd.func8 rfl rfl rfl ?_
  show Cw _ _ _ _ [(0, .agg ([.int .i64 (ka), .int .i64 (nn), .int .u32 ((ge : Nat) : Int), .string mk, .slice A (L.length) (c)] : List Value).toArray), (1, .string mk2), (2, .agg ([.int .u8 ((ix : Nat) : Int), .int .u32 ((gn : Nat) : Int), .slice A1 (X1.length) (c1)] : List Value).toArray)] _
  refine C_seq (fun K1 hK1 => ?_)
  refine C_region ?_
  refine R_lo (lo_box (L := [.int .i64 (ka), .int .i64 (nn), .int .u32 ((ge : Nat) : Int), .string mk, .slice A (L.length) (c)]) rfl rfl) rfl ?_
  rintro _ w1 ⟨pp, rfl, N1⟩
  have k1 := N1.kp
  have kk1 := kk0.then_ k1
  have ne_pp_0 : pp ≠ 0 := Nat.ne_of_gt (Nat.lt_of_lt_of_le hG.lt N1.le)
  have f_pp_1 : Bk w1 pp ([.int .i64 (ka), .int .i64 (nn), .int .u32 ((ge : Nat) : Int), .string mk, .slice A (L.length) (c)]) 68 := N1.bk
  have o2 : Gt w1 := (hG.no k1)
  refine R_lo (lo_box (L := [.int .u8 ((ix : Nat) : Int), .int .u32 ((gn : Nat) : Int), .slice A1 (X1.length) (c1)]) rfl rfl) rfl ?_
  rintro _ w2 ⟨ps, rfl, N2⟩
  have k2 := N2.kp
  have kk2 := kk1.then_ k2
  have ne_ps_pp : ps ≠ pp := Nat.ne_of_gt (Nat.lt_of_lt_of_le f_pp_1.lt N2.le)
  have ne_ps_0 : ps ≠ 0 := Nat.ne_of_gt (Nat.lt_of_lt_of_le o2.lt N2.le)
  have f_ps_2 : Bk w2 ps ([.int .u8 ((ix : Nat) : Int), .int .u32 ((gn : Nat) : Int), .slice A1 (X1.length) (c1)]) 56 := N2.bk
  refine R_pu (pu_assign rfl) rfl ?_
  refine R_nil ?_
  refine X_then hK1 ?_
  refine C_seq (fun K3 hK3 => ?_)
  refine C_seq (fun K4 hK4 => ?_)
  refine C_region ?_
  refine R_pu (pu_fieldAddr (off := 4) (o' := 4) (by kernel_rfl) rfl rfl) rfl ?_
  have f5 : Bk w2 pp ([.int .i64 (ka), .int .i64 (nn), .int .u32 ((ge : Nat) : Int), .string mk, .slice A (L.length) (c)]) 68 := (f_pp_1.no k2)
  refine R_pu (pu_loadK f5 (by kernel_rfl) rfl rfl) rfl ?_
  refine R_pu (pu_len Tryd.underlying36 rfl) rfl ?_
  refine R_pu (pu_gtr (p := L.length > 20) rfl rfl (by omega)) rfl ?_
  by_cases g1_4 : L.length > 20
  · refine R_pu (pu_true (pu_move rfl) g1_4) rfl ?_
    refine R_gno rfl rfl rfl rfl ?_
    refine R_gno rfl rfl rfl rfl ?_
    refine R_gno rfl rfl rfl rfl ?_
    refine R_gno rfl rfl rfl rfl ?_
    refine R_pu (pu_pickt rfl rfl) rfl ?_
    refine R_pu (pu_move rfl) rfl ?_
    refine R_gno rfl rfl rfl rfl ?_
    refine R_gno rfl rfl rfl rfl ?_
    refine R_gno rfl rfl rfl rfl ?_
    refine R_pu (pu_pickt rfl rfl) rfl ?_
    refine R_pu (pu_move rfl) rfl ?_
    refine R_gno rfl rfl rfl rfl ?_
    refine R_gno rfl rfl rfl rfl ?_
    refine R_gno rfl rfl rfl rfl ?_
    refine R_gno rfl rfl rfl rfl ?_
    refine R_pu (pu_pickt rfl rfl) rfl ?_
    refine R_nil ?_
    refine X_then hK4 ?_
    refine C_true rfl ?_
    refine C_seq (fun K6 hK6 => ?_)
    refine C_region ?_
    have o7 : Gt w2 := (o2.no k2)
    refine R_lo (lo_call (by kernel_rfl) rfl (sure23 _ o7)) rfl ?_
    rintro _ w3 ⟨rfl, k3⟩
    have kk3 := kk2.then_ k3
    refine R_pu (pu_assign rfl) rfl ?_
    refine R_nil ?_
    refine X_then hK6 ?_
    refine C_ret ?_
    refine X_then_ret ?_
    exact X_ret1 (.inl rfl) rfl rfl ⟨rfl, kk3⟩
  · refine R_pu (pu_false (pu_move rfl) g1_4) rfl ?_
    refine R_gpu rfl rfl (pu_fieldAddr (off := 3) (o' := 3) (by kernel_rfl) rfl rfl) rfl ?_
    refine R_gpu rfl rfl (pu_loadK f5 (by kernel_rfl) rfl rfl) rfl ?_
    refine R_gpu rfl rfl (pu_lens Tryd.underlying9 rfl) rfl ?_
    refine R_gpu rfl rfl (pu_gtr (p := mk.size > 100) rfl rfl (by omega)) rfl ?_
    refine R_pu (pu_pickf rfl rfl) rfl ?_
    by_cases g1_10 : mk.size > 100
    · refine R_pu (pu_true (pu_move rfl) g1_10) rfl ?_
      refine R_gno rfl rfl rfl rfl ?_
      refine R_gno rfl rfl rfl rfl ?_
      refine R_gno rfl rfl rfl rfl ?_
      refine R_pu (pu_pickt rfl rfl) rfl ?_
      refine R_pu (pu_move rfl) rfl ?_
      refine R_gno rfl rfl rfl rfl ?_
      refine R_gno rfl rfl rfl rfl ?_
      refine R_gno rfl rfl rfl rfl ?_
      refine R_gno rfl rfl rfl rfl ?_
      refine R_pu (pu_pickt rfl rfl) rfl ?_
      refine R_nil ?_
      refine X_then hK4 ?_
      refine C_true rfl ?_
      refine C_seq (fun K8 hK8 => ?_)
      refine C_region ?_
      have o9 : Gt w2 := (o2.no k2)
      refine R_lo (lo_call (by kernel_rfl) rfl (sure23 _ o9)) rfl ?_
      rintro _ w4 ⟨rfl, k4⟩
      have kk4 := kk2.then_ k4
      refine R_pu (pu_assign rfl) rfl ?_
      refine R_nil ?_
      refine X_then hK8 ?_
      refine C_ret ?_
      refine X_then_ret ?_
      exact X_ret1 (.inl rfl) rfl rfl ⟨rfl, kk4⟩
    · refine R_pu (pu_false (pu_move rfl) g1_10) rfl ?_
      refine R_gpu rfl rfl (pu_move rfl) rfl ?_
      refine R_gpu rfl rfl (pu_lens Tryd.underlying9 rfl) rfl ?_
      refine R_gpu rfl rfl (pu_gtr (p := mk2.size > 100) rfl rfl (by omega)) rfl ?_
      refine R_pu (pu_pickf rfl rfl) rfl ?_
      by_cases g1_15 : mk2.size > 100
      · refine R_pu (pu_true (pu_move rfl) g1_15) rfl ?_
        refine R_gno rfl rfl rfl rfl ?_
        refine R_gno rfl rfl rfl rfl ?_
        refine R_gno rfl rfl rfl rfl ?_
        refine R_gno rfl rfl rfl rfl ?_
        refine R_pu (pu_pickt rfl rfl) rfl ?_
        refine R_nil ?_
        refine X_then hK4 ?_
        refine C_true rfl ?_
        refine C_seq (fun K10 hK10 => ?_)
        refine C_region ?_
        have o11 : Gt w2 := (o2.no k2)
        refine R_lo (lo_call (by kernel_rfl) rfl (sure23 _ o11)) rfl ?_
        rintro _ w5 ⟨rfl, k5⟩
        have kk5 := kk2.then_ k5
        refine R_pu (pu_assign rfl) rfl ?_
        refine R_nil ?_
        refine X_then hK10 ?_
        refine C_ret ?_
        refine X_then_ret ?_
        exact X_ret1 (.inl rfl) rfl rfl ⟨rfl, kk5⟩
      · refine R_pu (pu_false (pu_move rfl) g1_15) rfl ?_
        refine R_gpu rfl rfl (pu_fieldAddr (off := 2) (o' := 2) (by kernel_rfl) rfl rfl) rfl ?_
        refine R_gpu rfl rfl (pu_loadK f_ps_2 (by kernel_rfl) rfl rfl) rfl ?_
        refine R_gpu rfl rfl (pu_len Tryd.underlying22 rfl) rfl ?_
        refine R_gpu rfl rfl (pu_gtr (p := X1.length > 100) rfl rfl (by omega)) rfl ?_
        refine R_pu (pu_pickf rfl rfl) rfl ?_
        refine R_nil ?_
        refine X_then hK4 ?_
        refine C_dec rfl (fun h43 => ?_) (fun h43 => ?_)
        · refine C_seq (fun K12 hK12 => ?_)
          refine C_region ?_
          have o13 : Gt w2 := (o2.no k2)
          refine R_lo (lo_call (by kernel_rfl) rfl (sure23 _ o13)) rfl ?_
          rintro _ w6 ⟨rfl, k6⟩
          have kk6 := kk2.then_ k6
          refine R_pu (pu_assign rfl) rfl ?_
          refine R_nil ?_
          refine X_then hK12 ?_
          refine C_ret ?_
          refine X_then_ret ?_
          exact X_ret1 (.inl rfl) rfl rfl ⟨rfl, kk6⟩
        · refine C_skip ?_
          refine X_then hK3 ?_
          refine C_seq (fun K14 hK14 => ?_)
          refine C_seq (fun K15 hK15 => ?_)
          refine C_region ?_
          refine R_pu (pu_assign rfl) rfl ?_
          refine R_nil ?_
          refine X_then hK15 ?_
          refine C_block ?_
          have o16 : Gt w2 := (o2.no k2)
          refine C_loop (fun m_ l_ wr => ∃ i : Nat, (m_ = L.length - i) ∧ (l_ = [(1, .string mk2), (3, .pointer (some ⟨pp, 0, none⟩)), (5, .pointer (some ⟨ps, 0, none⟩)), (7, .int .i64 ((i : Nat) : Int))]) ∧ (i ≤ L.length) ∧ (Kp No w wr) ∧ (Bk wr pp ([.int .i64 (ka), .int .i64 (nn), .int .u32 ((ge : Nat) : Int), .string mk, .slice A (L.length) (c)]) 68) ∧ (Bk wr ps ([.int .u8 ((ix : Nat) : Int), .int .u32 ((gn : Nat) : Int), .slice A1 (X1.length) (c1)]) 56) ∧ (Gt wr)) (L.length - 0) [(1, .string mk2), (3, .pointer (some ⟨pp, 0, none⟩)), (5, .pointer (some ⟨ps, 0, none⟩)), (7, .int .i64 0)] (Sub.cons rfl (Sub.cons rfl (Sub.cons rfl (Sub.cons rfl (Sub.nil _))))) ⟨0, rfl, rfl, by omega, kk2, f5, f_ps_2, o16⟩ ?_
          rintro _ _ w7 ⟨i, rfl, rfl, hi, kk7, f_pp_7, f_ps_7, G_7⟩
          refine C_seq (fun K17 hK17 => ?_)
          refine C_seq (fun K18 hK18 => ?_)
          refine C_region ?_
          refine R_pu (pu_move rfl) rfl ?_
          refine R_pu (pu_fieldAddr (off := 4) (o' := 4) (by kernel_rfl) rfl rfl) rfl ?_
          refine R_pu (pu_loadK f_pp_7 (by kernel_rfl) rfl rfl) rfl ?_
          refine R_pu (pu_len Tryd.underlying36 rfl) rfl ?_
          refine R_pu (pu_lss (p := i < L.length) rfl rfl (by omega)) rfl ?_
          refine R_nil ?_
          refine X_then hK18 ?_
          refine C_dec rfl (fun h49 => ?_) (fun h49 => ?_)
          · refine C_skip ?_
            refine X_then hK17 ?_
            refine C_seq (fun K19 hK19 => ?_)
            refine C_block ?_
            refine C_seq (fun K20 hK20 => ?_)
            refine C_region ?_
            refine R_pu (pu_fieldAddr (off := 4) (o' := 4) (by kernel_rfl) rfl rfl) rfl ?_
            refine R_pu (pu_loadK f_pp_7 (by kernel_rfl) rfl rfl) rfl ?_
            refine R_pu (pu_move rfl) rfl ?_
            obtain ⟨s0, e_s0⟩ : ∃ q_, (L)[i]? = some q_ := ⟨_, List.getElem?_eq_getElem (by first | omega | (simp; done) | (simp; omega))⟩
            have ok_s0 := HS.get e_s0
            have okb_s0 := ok_s0.bs
            have bi_s0 : s0.ix < 256 := ok_s0.ix
            refine R_pu (pu_indexAddrH (HS.keptNo kk7) Tryd.underlying36 (by kernel_rfl) rfl rfl rfl rfl e_s0) rfl ?_
            refine R_pu (pu_fieldAddrH (off := 2) (HS.keptNo kk7) e_s0 (by kernel_rfl) rfl) rfl ?_
            refine R_pu (pu_loadH (HS.keptNo kk7) e_s0 (by kernel_rfl) rfl rfl) rfl ?_
            refine R_pu (pu_len Tryd.underlying22 rfl) rfl ?_
            refine R_pu (pu_gtr (p := s0.X.length > 100) rfl rfl (by omega)) rfl ?_
            refine R_nil ?_
            refine X_then hK20 ?_
            refine C_dec rfl (fun h59 => ?_) (fun h59 => ?_)
            · refine C_seq (fun K21 hK21 => ?_)
              refine C_region ?_
              refine R_lo (lo_call (by kernel_rfl) rfl (sure23 _ G_7)) rfl ?_
              rintro _ w8 ⟨rfl, k8⟩
              have kk8 := kk7.then_ k8
              refine R_pu (pu_assign rfl) rfl ?_
              refine R_nil ?_
              refine X_then hK21 ?_
              refine C_ret ?_
              refine X_in_ret (X_then_ret (X_then_ret (X_in_ret (X_then_ret ?_))))
              exact X_ret1 (.inl rfl) rfl rfl ⟨rfl, kk8⟩
            · refine C_skip ?_
              refine X_in_normal ?_
              refine X_then hK19 ?_
              refine C_region ?_
              refine R_pu (pu_move rfl) rfl ?_
              refine R_pu (pu_add (z := ((i + 1 : Nat) : Int)) rfl rfl (by rw [IntKind.wrap_i64]; omega)) rfl ?_
              refine R_pu (pu_assign rfl) rfl ?_
              refine R_nil ?_
              refine X_round (L.length - (i + 1)) [(1, .string mk2), (3, .pointer (some ⟨pp, 0, none⟩)), (5, .pointer (some ⟨ps, 0, none⟩)), (7, .int .i64 (((i + 1) : Nat) : Int))] (by omega) (Sub.cons rfl (Sub.cons rfl (Sub.cons rfl (Sub.cons rfl (Sub.nil _))))) ⟨i + 1, rfl, rfl, by omega, kk7, f_pp_7, f_ps_7, G_7⟩
          · refine C_exit ?_
            refine X_then_exit (X_then_exit (X_in_eq ?_))
            refine X_then hK14 ?_
            refine C_seq (fun K22 hK22 => ?_)
            obtain ⟨E, hE⟩ : ∃ E, E = subE ka nn ge mk L mk2 ix gn X1.length := ⟨_, rfl⟩
            obtain ⟨F, hF⟩ : ∃ F, F = secE ka nn ge mk L := ⟨_, rfl⟩
            refine C_region ?_
            refine R_pu (pu_loadRow (len := 5) f_pp_7 (by kernel_rfl) (by kernel_rfl) rfl rfl) rfl ?_
            refine R_lo (lo_call (by kernel_rfl) rfl (give_progress23 ka nn ge mk A L c _ (HS.keptNo kk7) (by omega))) rfl ?_
            rintro _ w9 ⟨A_x, c_x, rfl, Q9, k9⟩
            have kk9 := kk7.then_ k9
            have z23 : w7.heap.size ≤ w9.heap.size := k9.size
            have f24 : Bk w9 pp ([.int .i64 (ka), .int .i64 (nn), .int .u32 ((ge : Nat) : Int), .string mk, .slice A (L.length) (c)]) 68 := (f_pp_7.no k9)
            have f25 : Bk w9 ps ([.int .u8 ((ix : Nat) : Int), .int .u32 ((gn : Nat) : Int), .slice A1 (X1.length) (c1)]) 56 := (f_ps_7.no k9)
            have o26 : Gt w9 := (G_7.no k9)
            refine R_lo (lo_alloc (L := [.int .i64 0, .int .i64 0, .int .u32 0, .string ByteArray.empty, .slice none (0) (0)]) (by kernel_rfl)) rfl ?_
            rintro _ w10 ⟨px, rfl, N10⟩
            have k10 := N10.kp
            have kk10 := kk9.then_ k10
            have ne_px_pp : px ≠ pp := Nat.ne_of_gt (Nat.lt_of_lt_of_le f24.lt N10.le)
            have ne_px_ps : px ≠ ps := Nat.ne_of_gt (Nat.lt_of_lt_of_le f25.lt N10.le)
            have ne_px_0 : px ≠ 0 := Nat.ne_of_gt (Nat.lt_of_lt_of_le o26.lt N10.le)
            have f_px_10 : Bk w10 px ([.int .i64 0, .int .i64 0, .int .u32 0, .string ByteArray.empty, .slice none (0) (0)]) 70 := N10.bk
            refine R_lo0 (lo_storeRow (C := [.int .i64 (ka), .int .i64 (nn), .int .u32 ((ge : Nat) : Int), .string mk, .slice A_x ((L).length) (c_x)]) f_px_10 (by kernel_rfl) rfl rfl (by intro u hu; simp at hu; rcases hu with rfl | rfl | rfl | rfl | rfl <;> rfl) rfl) ?_
            rintro _ w11 kf11
            obtain ⟨k11, f_px_11⟩ := kf11
            replace f_px_11 : Bk w11 px ([.int .i64 (ka), .int .i64 (nn), .int .u32 ((ge : Nat) : Int), .string mk, .slice A_x ((L).length) (c_x)]) 70 := f_px_11
            have kk11 := kk10.trans k11 (fun i hi => .inr (hi ▸ (Nat.le_trans kk9.size N10.le)))
            refine R_nil ?_
            refine X_then hK22 ?_
            refine C_seq (fun K27 hK27 => ?_)
            refine C_region ?_
            refine R_pu (pu_loadRow (len := 5) f_px_11 (by kernel_rfl) (by kernel_rfl) rfl rfl) rfl ?_
            refine R_pu (pu_move rfl) rfl ?_
            have f28 : Bk w11 ps ([.int .u8 ((ix : Nat) : Int), .int .u32 ((gn : Nat) : Int), .slice A1 (X1.length) (c1)]) 56 := ((f25.no k10).on k11 (Ne.symm ne_px_ps))
            refine R_pu (pu_loadRow (len := 3) f28 (by kernel_rfl) (by kernel_rfl) rfl rfl) rfl ?_
            have ob29 := ((Q9.keptNo k10).onN k11 Q9 N10.le)
            have f30 : Bk w11 pp ([.int .i64 (ka), .int .i64 (nn), .int .u32 ((ge : Nat) : Int), .string mk, .slice A (L.length) (c)]) 68 := ((f24.no k10).on k11 (Ne.symm ne_px_pp))
            have o31 : Gt w11 := ((o26.no k10).on k11 (Ne.symm ne_px_0))
            have lm32 := ob29.top
            refine R_lo (lo_call (by kernel_rfl) rfl (submit_all ka nn ge mk A_x L c_x mk2 ix gn A1 X1 c1 E _ (ob29.ss (HS.keptNo kk11).ok) (HB.keptNo kk11) hc1 ⟨⟨ob29.le.2, by omega⟩, hix, by omega, hge⟩ hE)) rfl ?_
            rintro _ w12 ⟨A_a, c_a, L_a, ev_a, rfl, he_a, Q12, hK_a, k12⟩
            have kk12 := kk11.then_ k12
            have z33 : w11.heap.size ≤ w12.heap.size := k12.size
            refine R_pu (pu_move rfl) rfl ?_
            refine R_pu (pu_extract rfl rfl) rfl ?_
            refine R_pu (pu_extract rfl rfl) rfl ?_
            refine R_pu (pu_extract rfl rfl) rfl ?_
            have f34 : Bk w12 pp ([.int .i64 (ka), .int .i64 (nn), .int .u32 ((ge : Nat) : Int), .string mk, .slice A (L.length) (c)]) 68 := (f30.no k12)
            have f35 : Bk w12 ps ([.int .u8 ((ix : Nat) : Int), .int .u32 ((gn : Nat) : Int), .slice A1 (X1.length) (c1)]) 56 := (f28.no k12)
            have f36 : Bk w12 px ([.int .i64 (ka), .int .i64 (nn), .int .u32 ((ge : Nat) : Int), .string mk, .slice A_x ((L).length) (c_x)]) 70 := (f_px_11.no k12)
            have o37 : Gt w12 := (o31.no k12)
            have ob38 := (ob29.keptNo k12)
            refine R_lo (lo_alloc (L := [.int .i64 0, .int .i64 0, .int .u32 0, .string ByteArray.empty, .slice none (0) (0)]) (by kernel_rfl)) rfl ?_
            rintro _ w13 ⟨pa, rfl, N13⟩
            have k13 := N13.kp
            have kk13 := kk12.then_ k13
            have ne_pa_pp : pa ≠ pp := Nat.ne_of_gt (Nat.lt_of_lt_of_le f34.lt N13.le)
            have ne_pa_ps : pa ≠ ps := Nat.ne_of_gt (Nat.lt_of_lt_of_le f35.lt N13.le)
            have ne_pa_px : pa ≠ px := Nat.ne_of_gt (Nat.lt_of_lt_of_le f36.lt N13.le)
            have ne_pa_0 : pa ≠ 0 := Nat.ne_of_gt (Nat.lt_of_lt_of_le o37.lt N13.le)
            have f_pa_13 : Bk w13 pa ([.int .i64 0, .int .i64 0, .int .u32 0, .string ByteArray.empty, .slice none (0) (0)]) 70 := N13.bk
            refine R_lo0 (lo_storeRow (C := [.int .i64 (subI E ka 0), .int .i64 (subI E nn 0), .int .u32 ((subI E ge 0 : Nat) : Int), .string (subI E mk ByteArray.empty), .slice A_a ((L_a).length) (c_a)]) f_pa_13 (by kernel_rfl) rfl rfl (by intro u hu; simp at hu; rcases hu with rfl | rfl | rfl | rfl | rfl <;> rfl) rfl) ?_
            rintro _ w14 kf14
            obtain ⟨k14, f_pa_14⟩ := kf14
            replace f_pa_14 : Bk w14 pa ([.int .i64 (subI E ka 0), .int .i64 (subI E nn 0), .int .u32 ((subI E ge 0 : Nat) : Int), .string (subI E mk ByteArray.empty), .slice A_a ((L_a).length) (c_a)]) 70 := f_pa_14
            have kk14 := kk13.trans k14 (fun i hi => .inr (hi ▸ (Nat.le_trans kk12.size N13.le)))
            refine R_pu (pu_assign rfl) rfl ?_
            refine R_pu (pu_assign rfl) rfl ?_
            refine R_nil ?_
            refine X_then hK27 ?_
            refine C_seq (fun K39 hK39 => ?_)
            refine C_region ?_
            have f40 : Bk w14 pp ([.int .i64 (ka), .int .i64 (nn), .int .u32 ((ge : Nat) : Int), .string mk, .slice A (L.length) (c)]) 68 := ((f34.no k13).on k14 (Ne.symm ne_pa_pp))
            refine R_pu (pu_loadRow (len := 5) f40 (by kernel_rfl) (by kernel_rfl) rfl rfl) rfl ?_
            refine R_pu (pu_move rfl) rfl ?_
            have f41 : Bk w14 ps ([.int .u8 ((ix : Nat) : Int), .int .u32 ((gn : Nat) : Int), .slice A1 (X1.length) (c1)]) 56 := ((f35.no k13).on k14 (Ne.symm ne_pa_ps))
            refine R_pu (pu_loadRow (len := 3) f41 (by kernel_rfl) (by kernel_rfl) rfl rfl) rfl ?_
            have f42 : Bk w14 px ([.int .i64 (ka), .int .i64 (nn), .int .u32 ((ge : Nat) : Int), .string mk, .slice A_x ((L).length) (c_x)]) 70 := ((f36.no k13).on k14 (Ne.symm ne_pa_px))
            have o43 : Gt w14 := ((o37.no k13).on k14 (Ne.symm ne_pa_0))
            have ob45 := ((ob38.keptNo k13).onN k14 ob38 N13.le)
            have lm44 := ob45.top
            have ob47 := ((Q12.keptNo k13).onN k14 Q12 N13.le)
            have lm46 := ob47.top
            refine R_lo (lo_call (by kernel_rfl) rfl (rsub_all ka nn ge mk A L c mk2 ix gn A1 X1 c1 E _ (HS.keptNo kk14) ⟨⟨hc, by omega⟩, hix, by omega⟩ hE)) rfl ?_
            rintro _ w15 ⟨A_b, c_b, rfl, Q15, k15⟩
            have kk15 := kk14.then_ k15
            have z48 : w14.heap.size ≤ w15.heap.size := k15.size
            refine R_pu (pu_move rfl) rfl ?_
            refine R_pu (pu_extract rfl rfl) rfl ?_
            refine R_pu (pu_extract rfl rfl) rfl ?_
            refine R_pu (pu_extract rfl rfl) rfl ?_
            have f49 : Bk w15 pp ([.int .i64 (ka), .int .i64 (nn), .int .u32 ((ge : Nat) : Int), .string mk, .slice A (L.length) (c)]) 68 := (f40.no k15)
            have f50 : Bk w15 ps ([.int .u8 ((ix : Nat) : Int), .int .u32 ((gn : Nat) : Int), .slice A1 (X1.length) (c1)]) 56 := (f41.no k15)
            have f51 : Bk w15 px ([.int .i64 (ka), .int .i64 (nn), .int .u32 ((ge : Nat) : Int), .string mk, .slice A_x ((L).length) (c_x)]) 70 := (f42.no k15)
            have f52 : Bk w15 pa ([.int .i64 (subI E ka 0), .int .i64 (subI E nn 0), .int .u32 ((subI E ge 0 : Nat) : Int), .string (subI E mk ByteArray.empty), .slice A_a ((L_a).length) (c_a)]) 70 := (f_pa_14.no k15)
            have o53 : Gt w15 := (o43.no k15)
            have ob54 := (ob45.keptNo k15)
            have ob55 := (ob47.keptNo k15)
            refine R_lo (lo_alloc (L := [.int .i64 0, .int .i64 0, .int .u32 0, .string ByteArray.empty, .slice none (0) (0)]) (by kernel_rfl)) rfl ?_
            rintro _ w16 ⟨pb, rfl, N16⟩
            have k16 := N16.kp
            have kk16 := kk15.then_ k16
            have ne_pb_pp : pb ≠ pp := Nat.ne_of_gt (Nat.lt_of_lt_of_le f49.lt N16.le)
            have ne_pb_ps : pb ≠ ps := Nat.ne_of_gt (Nat.lt_of_lt_of_le f50.lt N16.le)
            have ne_pb_px : pb ≠ px := Nat.ne_of_gt (Nat.lt_of_lt_of_le f51.lt N16.le)
            have ne_pb_pa : pb ≠ pa := Nat.ne_of_gt (Nat.lt_of_lt_of_le f52.lt N16.le)
            have ne_pb_0 : pb ≠ 0 := Nat.ne_of_gt (Nat.lt_of_lt_of_le o53.lt N16.le)
            have f_pb_16 : Bk w16 pb ([.int .i64 0, .int .i64 0, .int .u32 0, .string ByteArray.empty, .slice none (0) (0)]) 68 := N16.bk
            refine R_lo0 (lo_storeRow (C := [.int .i64 (subI E ka 0), .int .i64 (subI E nn 0), .int .u32 ((subI E ge 0 : Nat) : Int), .string (subI E mk ByteArray.empty), .slice A_b ((subI E (L ++ [(⟨ix, gn, A1, X1, c1⟩ : Shr)]) []).length) (c_b)]) f_pb_16 (by kernel_rfl) rfl rfl (by intro u hu; simp at hu; rcases hu with rfl | rfl | rfl | rfl | rfl <;> rfl) rfl) ?_
            rintro _ w17 kf17
            obtain ⟨k17, f_pb_17⟩ := kf17
            replace f_pb_17 : Bk w17 pb ([.int .i64 (subI E ka 0), .int .i64 (subI E nn 0), .int .u32 ((subI E ge 0 : Nat) : Int), .string (subI E mk ByteArray.empty), .slice A_b ((subI E (L ++ [(⟨ix, gn, A1, X1, c1⟩ : Shr)]) []).length) (c_b)]) 68 := f_pb_17
            have kk17 := kk16.trans k17 (fun i hi => .inr (hi ▸ (Nat.le_trans kk15.size N16.le)))
            refine R_pu (pu_assign rfl) rfl ?_
            refine R_pu (pu_assign rfl) rfl ?_
            refine R_nil ?_
            refine X_then hK39 ?_
            refine C_seq (fun K56 hK56 => ?_)
            have f57 : Bk w17 pp ([.int .i64 (ka), .int .i64 (nn), .int .u32 ((ge : Nat) : Int), .string mk, .slice A (L.length) (c)]) 68 := ((f49.no k16).on k17 (Ne.symm ne_pb_pp))
            have f58 : Bk w17 ps ([.int .u8 ((ix : Nat) : Int), .int .u32 ((gn : Nat) : Int), .slice A1 (X1.length) (c1)]) 56 := ((f50.no k16).on k17 (Ne.symm ne_pb_ps))
            have f59 : Bk w17 px ([.int .i64 (ka), .int .i64 (nn), .int .u32 ((ge : Nat) : Int), .string mk, .slice A_x ((L).length) (c_x)]) 70 := ((f51.no k16).on k17 (Ne.symm ne_pb_px))
            have f60 : Bk w17 pa ([.int .i64 (subI E ka 0), .int .i64 (subI E nn 0), .int .u32 ((subI E ge 0 : Nat) : Int), .string (subI E mk ByteArray.empty), .slice A_a ((L_a).length) (c_a)]) 70 := ((f52.no k16).on k17 (Ne.symm ne_pb_pa))
            have o61 : Gt w17 := ((o53.no k16).on k17 (Ne.symm ne_pb_0))
            refine D_begin (fun W => Kp No w W ∧ Bk W pp ([.int .i64 (ka), .int .i64 (nn), .int .u32 ((ge : Nat) : Int), .string mk, .slice A (L.length) (c)]) 68 ∧ Bk W ps ([.int .u8 ((ix : Nat) : Int), .int .u32 ((gn : Nat) : Int), .slice A1 (X1.length) (c1)]) 56 ∧ Bk W px ([.int .i64 (ka), .int .i64 (nn), .int .u32 ((ge : Nat) : Int), .string mk, .slice A_x ((L).length) (c_x)]) 70 ∧ Bk W pa ([.int .i64 (subI E ka 0), .int .i64 (subI E nn 0), .int .u32 ((subI E ge 0 : Nat) : Int), .string (subI E mk ByteArray.empty), .slice A_a ((L_a).length) (c_a)]) 70 ∧ Bk W pb ([.int .i64 (subI E ka 0), .int .i64 (subI E nn 0), .int .u32 ((subI E ge 0 : Nat) : Int), .string (subI E mk ByteArray.empty), .slice A_b ((subI E (L ++ [(⟨ix, gn, A1, X1, c1⟩ : Shr)]) []).length) (c_b)]) 68 ∧ Gt W) 8 rfl (by kernel_rfl) ⟨kk17.drew, f57.draw, f58.draw, f59.draw, f60.draw, f_pb_17.draw, o61.draw⟩ ?_
            intro w18 k18 _
            have kk18 := kk17.then_ k18
            refine D_take 1 rfl (by kernel_rfl) (by kernel_rfl) (by kernel_rfl) (fun _ _ _ h => h) rfl (fun W hS => pu_loadRow (len := 5) hS.2.2.2.1 (by kernel_rfl) (by kernel_rfl) rfl rfl) ?_
            have f62 : Bk w18 pp ([.int .i64 (ka), .int .i64 (nn), .int .u32 ((ge : Nat) : Int), .string mk, .slice A (L.length) (c)]) 68 := (f57.no k18)
            have f63 : Bk w18 ps ([.int .u8 ((ix : Nat) : Int), .int .u32 ((gn : Nat) : Int), .slice A1 (X1.length) (c1)]) 56 := (f58.no k18)
            have f64 : Bk w18 px ([.int .i64 (ka), .int .i64 (nn), .int .u32 ((ge : Nat) : Int), .string mk, .slice A_x ((L).length) (c_x)]) 70 := (f59.no k18)
            have f65 : Bk w18 pa ([.int .i64 (subI E ka 0), .int .i64 (subI E nn 0), .int .u32 ((subI E ge 0 : Nat) : Int), .string (subI E mk ByteArray.empty), .slice A_a ((L_a).length) (c_a)]) 70 := (f60.no k18)
            have f66 : Bk w18 pb ([.int .i64 (subI E ka 0), .int .i64 (subI E nn 0), .int .u32 ((subI E ge 0 : Nat) : Int), .string (subI E mk ByteArray.empty), .slice A_b ((subI E (L ++ [(⟨ix, gn, A1, X1, c1⟩ : Shr)]) []).length) (c_b)]) 68 := (f_pb_17.no k18)
            have o67 : Gt w18 := (o61.no k18)
            have ob68 := (((ob54.keptNo k16).onN k17 ob54 N16.le).keptNo k18)
            have ob69 := (((ob55.keptNo k16).onN k17 ob55 N16.le).keptNo k18)
            have ob70 := (((Q15.keptNo k16).onN k17 Q15 N16.le).keptNo k18)
            refine D_one 0 (by kernel_rfl) (Nx_lo rfl (lo_call (by kernel_rfl) rfl (gf_new _)) rfl ?_)
            rintro _ w19 ⟨b11_0, rfl, le19, T19, k19⟩
            have kk19 := kk18.then_ k19
            have ne_b11_0_pp : b11_0 ≠ pp := Nat.ne_of_gt (Nat.lt_of_lt_of_le f62.lt le19)
            have ne_b11_0_ps : b11_0 ≠ ps := Nat.ne_of_gt (Nat.lt_of_lt_of_le f63.lt le19)
            have ne_b11_0_px : b11_0 ≠ px := Nat.ne_of_gt (Nat.lt_of_lt_of_le f64.lt le19)
            have ne_b11_0_pa : b11_0 ≠ pa := Nat.ne_of_gt (Nat.lt_of_lt_of_le f65.lt le19)
            have ne_b11_0_pb : b11_0 ≠ pb := Nat.ne_of_gt (Nat.lt_of_lt_of_le f66.lt le19)
            have ne_b11_0_0 : b11_0 ≠ 0 := Nat.ne_of_gt (Nat.lt_of_lt_of_le o67.lt le19)
            have f71 : Bk w19 pp ([.int .i64 (ka), .int .i64 (nn), .int .u32 ((ge : Nat) : Int), .string mk, .slice A (L.length) (c)]) 68 := (f62.no k19)
            have f72 : Bk w19 ps ([.int .u8 ((ix : Nat) : Int), .int .u32 ((gn : Nat) : Int), .slice A1 (X1.length) (c1)]) 56 := (f63.no k19)
            have f73 : Bk w19 px ([.int .i64 (ka), .int .i64 (nn), .int .u32 ((ge : Nat) : Int), .string mk, .slice A_x ((L).length) (c_x)]) 70 := (f64.no k19)
            have f74 : Bk w19 pa ([.int .i64 (subI E ka 0), .int .i64 (subI E nn 0), .int .u32 ((subI E ge 0 : Nat) : Int), .string (subI E mk ByteArray.empty), .slice A_a ((L_a).length) (c_a)]) 70 := (f65.no k19)
            have f75 : Bk w19 pb ([.int .i64 (subI E ka 0), .int .i64 (subI E nn 0), .int .u32 ((subI E ge 0 : Nat) : Int), .string (subI E mk ByteArray.empty), .slice A_b ((subI E (L ++ [(⟨ix, gn, A1, X1, c1⟩ : Shr)]) []).length) (c_b)]) 68 := (f66.no k19)
            have o76 : Gt w19 := (o67.no k19)
            refine ⟨⟨kk19, f71, f72, f73, f74, f75, o76⟩, ?_⟩
            have ob77 := (ob68.keptNo k19)
            have lm78 := ob77.top
            have ob80 := (ob69.keptNo k19)
            have lm79 := ob80.top
            have ob82 := (ob70.keptNo k19)
            have lm81 := ob82.top
            refine D_one 2 (by kernel_rfl) (Nx_lo rfl (lo_call (by kernel_rfl) rfl (secret_all b11_0 ka nn ge mk A_x L c_x F _ (ob77.ss (HS.keptNo kk19).ok) ⟨⟨ob77.le.2, by omega⟩, hge⟩ hF (Aws.sp ob68 le19 (HS.aw (Nat.le_trans kk18.size le19))) T19)) rfl ?_)
            rintro _ w20 ⟨A_cc, c_cc, ev_cc, rfl, he_cc, Q20, T20, k20⟩
            have kk20 := kk19.trans k20 (fun i hi => .inr (hi ▸ (Nat.le_trans kk18.size le19)))
            have z83 : w19.heap.size ≤ w20.heap.size := k20.size
            have f84 : Bk w20 pp ([.int .i64 (ka), .int .i64 (nn), .int .u32 ((ge : Nat) : Int), .string mk, .slice A (L.length) (c)]) 68 := (f71.on k20 (Ne.symm ne_b11_0_pp))
            have f85 : Bk w20 ps ([.int .u8 ((ix : Nat) : Int), .int .u32 ((gn : Nat) : Int), .slice A1 (X1.length) (c1)]) 56 := (f72.on k20 (Ne.symm ne_b11_0_ps))
            have f86 : Bk w20 px ([.int .i64 (ka), .int .i64 (nn), .int .u32 ((ge : Nat) : Int), .string mk, .slice A_x ((L).length) (c_x)]) 70 := (f73.on k20 (Ne.symm ne_b11_0_px))
            have f87 : Bk w20 pa ([.int .i64 (subI E ka 0), .int .i64 (subI E nn 0), .int .u32 ((subI E ge 0 : Nat) : Int), .string (subI E mk ByteArray.empty), .slice A_a ((L_a).length) (c_a)]) 70 := (f74.on k20 (Ne.symm ne_b11_0_pa))
            have f88 : Bk w20 pb ([.int .i64 (subI E ka 0), .int .i64 (subI E nn 0), .int .u32 ((subI E ge 0 : Nat) : Int), .string (subI E mk ByteArray.empty), .slice A_b ((subI E (L ++ [(⟨ix, gn, A1, X1, c1⟩ : Shr)]) []).length) (c_b)]) 68 := (f75.on k20 (Ne.symm ne_b11_0_pb))
            have o89 : Gt w20 := (o76.on k20 (Ne.symm ne_b11_0_0))
            refine ⟨⟨kk20, f84, f85, f86, f87, f88, o89⟩, ?_⟩
            refine D_take 3 rfl (by kernel_rfl) (by kernel_rfl) (by kernel_rfl) (fun _ _ _ h => h) rfl (fun W hS => pu_move rfl) ?_
            refine D_take 4 rfl (by kernel_rfl) (by kernel_rfl) (by kernel_rfl) (fun _ _ _ h => h) rfl (fun W hS => pu_extract rfl rfl) ?_
            refine D_take 5 rfl (by kernel_rfl) (by kernel_rfl) (by kernel_rfl) (fun _ _ _ h => h) rfl (fun W hS => pu_extract rfl rfl) ?_
            refine D_take 6 rfl (by kernel_rfl) (by kernel_rfl) (by kernel_rfl) (fun _ _ _ h => h) rfl (fun W hS => pu_assign rfl) ?_
            refine D_take 7 rfl (by kernel_rfl) (by kernel_rfl) (by kernel_rfl) (fun _ _ _ h => h) rfl (fun W hS => pu_assign rfl) ?_
            refine D_done (by kernel_rfl) ?_
            refine X_then hK56 ?_
            refine C_seq (fun K90 hK90 => ?_)
            refine C_region ?_
            refine R_pu (pu_loadRow (len := 5) f84 (by kernel_rfl) (by kernel_rfl) rfl rfl) rfl ?_
            have ob92 := (ob77.onN k20 ob68 le19)
            have lm91 := ob92.top
            have ob94 := (ob80.onN k20 ob69 le19)
            have lm93 := ob94.top
            have ob96 := (ob82.onN k20 ob70 le19)
            have lm95 := ob96.top
            have lm97 := Q20.top
            refine R_lo (lo_call (by kernel_rfl) rfl (rsec_all ka nn ge mk A L c F _ (HS.keptNo kk20) ⟨⟨hc, by omega⟩, hge⟩ hF)) rfl ?_
            rintro _ w21 ⟨A_d, c_d, rfl, Q21, k21⟩
            have kk21 := kk20.then_ k21
            have z98 : w20.heap.size ≤ w21.heap.size := k21.size
            refine R_pu (pu_move rfl) rfl ?_
            refine R_pu (pu_extract rfl rfl) rfl ?_
            refine R_pu (pu_extract rfl rfl) rfl ?_
            refine R_pu (pu_assign rfl) rfl ?_
            refine R_pu (pu_assign rfl) rfl ?_
            refine R_nil ?_
            refine X_then hK90 ?_
            refine C_seq (fun K99 hK99 => ?_)
            refine C_region ?_
            refine R_pu (pu_fieldAddr (off := 0) (o' := 0) (by kernel_rfl) rfl rfl) rfl ?_
            have f100 : Bk w21 px ([.int .i64 (ka), .int .i64 (nn), .int .u32 ((ge : Nat) : Int), .string mk, .slice A_x ((L).length) (c_x)]) 70 := (f86.no k21)
            refine R_pu (pu_loadMid (len := 3) (C := [.int .i64 (ka), .int .i64 (nn), .int .u32 ((ge : Nat) : Int)]) f100 (by kernel_rfl) (by kernel_rfl) rfl rfl rfl) rfl ?_
            refine R_pu (pu_move rfl) rfl ?_
            refine R_lo (lo_call (by kernel_rfl) rfl (start_all ka nn ge mk2 _)) rfl ?_
            rintro _ w22 ⟨ev_st13, rfl, he_st13, k22⟩
            have kk22 := kk21.then_ k22
            refine R_pu (pu_move rfl) rfl ?_
            refine R_pu (pu_extract rfl rfl) rfl ?_
            refine R_pu (pu_extract rfl rfl) rfl ?_
            have f101 : Bk w22 pp ([.int .i64 (ka), .int .i64 (nn), .int .u32 ((ge : Nat) : Int), .string mk, .slice A (L.length) (c)]) 68 := ((f84.no k21).no k22)
            have f102 : Bk w22 ps ([.int .u8 ((ix : Nat) : Int), .int .u32 ((gn : Nat) : Int), .slice A1 (X1.length) (c1)]) 56 := ((f85.no k21).no k22)
            have f103 : Bk w22 px ([.int .i64 (ka), .int .i64 (nn), .int .u32 ((ge : Nat) : Int), .string mk, .slice A_x ((L).length) (c_x)]) 70 := (f100.no k22)
            have f104 : Bk w22 pa ([.int .i64 (subI E ka 0), .int .i64 (subI E nn 0), .int .u32 ((subI E ge 0 : Nat) : Int), .string (subI E mk ByteArray.empty), .slice A_a ((L_a).length) (c_a)]) 70 := ((f87.no k21).no k22)
            have f105 : Bk w22 pb ([.int .i64 (subI E ka 0), .int .i64 (subI E nn 0), .int .u32 ((subI E ge 0 : Nat) : Int), .string (subI E mk ByteArray.empty), .slice A_b ((subI E (L ++ [(⟨ix, gn, A1, X1, c1⟩ : Shr)]) []).length) (c_b)]) 68 := ((f88.no k21).no k22)
            have o106 : Gt w22 := ((o89.no k21).no k22)
            have o107 : Tb w22 b11_0 := ((T20.no k21).no k22)
            have ob108 := ((ob92.keptNo k21).keptNo k22)
            have ob109 := ((ob94.keptNo k21).keptNo k22)
            have ob110 := ((ob96.keptNo k21).keptNo k22)
            have ob111 := ((Q20.keptNo k21).keptNo k22)
            have ob112 := (Q21.keptNo k22)
            refine R_lo (lo_alloc (L := [.int .i64 0, .int .i64 0, .int .u32 0, .string ByteArray.empty, .slice none (0) (0)]) (by kernel_rfl)) rfl ?_
            rintro _ w23 ⟨po, rfl, N23⟩
            have k23 := N23.kp
            have kk23 := kk22.then_ k23
            have ne_po_pp : po ≠ pp := Nat.ne_of_gt (Nat.lt_of_lt_of_le f101.lt N23.le)
            have ne_po_ps : po ≠ ps := Nat.ne_of_gt (Nat.lt_of_lt_of_le f102.lt N23.le)
            have ne_po_px : po ≠ px := Nat.ne_of_gt (Nat.lt_of_lt_of_le f103.lt N23.le)
            have ne_po_pa : po ≠ pa := Nat.ne_of_gt (Nat.lt_of_lt_of_le f104.lt N23.le)
            have ne_po_pb : po ≠ pb := Nat.ne_of_gt (Nat.lt_of_lt_of_le f105.lt N23.le)
            have ne_po_0 : po ≠ 0 := Nat.ne_of_gt (Nat.lt_of_lt_of_le o106.lt N23.le)
            have ne_po_b11_0 : po ≠ b11_0 := Nat.ne_of_gt (Nat.lt_of_lt_of_le o107.lt N23.le)
            have f_po_23 : Bk w23 po ([.int .i64 0, .int .i64 0, .int .u32 0, .string ByteArray.empty, .slice none (0) (0)]) 70 := N23.bk
            refine R_lo0 (lo_storeRow (C := [.int .i64 (subI (chkE (mayB ka nn ge mk2 [])) ka 0), .int .i64 (subI (chkE (mayB ka nn ge mk2 [])) nn 0), .int .u32 ((subI (chkE (mayB ka nn ge mk2 [])) ge 0 : Nat) : Int), .string (subI (chkE (mayB ka nn ge mk2 [])) mk2 ByteArray.empty), .slice none (0) (0)]) f_po_23 (by kernel_rfl) rfl rfl (by intro u hu; simp at hu; rcases hu with rfl | rfl | rfl | rfl | rfl <;> rfl) rfl) ?_
            rintro _ w24 kf24
            obtain ⟨k24, f_po_24⟩ := kf24
            replace f_po_24 : Bk w24 po ([.int .i64 (subI (chkE (mayB ka nn ge mk2 [])) ka 0), .int .i64 (subI (chkE (mayB ka nn ge mk2 [])) nn 0), .int .u32 ((subI (chkE (mayB ka nn ge mk2 [])) ge 0 : Nat) : Int), .string (subI (chkE (mayB ka nn ge mk2 [])) mk2 ByteArray.empty), .slice none (0) (0)]) 70 := f_po_24
            have kk24 := kk23.trans k24 (fun i hi => .inr (hi ▸ (Nat.le_trans kk22.size N23.le)))
            refine R_pu (pu_assign rfl) rfl ?_
            refine R_nil ?_
            refine X_then hK99 ?_
            refine C_seq (fun K113 hK113 => ?_)
            refine C_region ?_
            refine R_pu (pu_fieldAddr (off := 0) (o' := 0) (by kernel_rfl) rfl rfl) rfl ?_
            have f114 : Bk w24 pp ([.int .i64 (ka), .int .i64 (nn), .int .u32 ((ge : Nat) : Int), .string mk, .slice A (L.length) (c)]) 68 := ((f101.no k23).on k24 (Ne.symm ne_po_pp))
            refine R_pu (pu_loadMid (len := 3) (C := [.int .i64 (ka), .int .i64 (nn), .int .u32 ((ge : Nat) : Int)]) f114 (by kernel_rfl) (by kernel_rfl) rfl rfl rfl) rfl ?_
            refine R_pu (pu_move rfl) rfl ?_
            refine R_pu (pu_build (L := [.int .i64 (ka), .int .i64 (nn), .int .u32 ((ge : Nat) : Int), .string mk2, .slice none (0) (0)]) rfl (by kernel_rfl)) rfl ?_
            refine R_lo (lo_call (by kernel_rfl) rfl (rmay_all ka nn ge mk2 none ([] : List Shr) 0 _ (Ss.nil _ none) ⟨⟨Nat.zero_le _, by decide⟩, trivial⟩)) rfl ?_
            rintro _ w25 ⟨rfl, k25⟩
            have kk25 := kk24.then_ k25
            refine R_pu (pu_assign rfl) rfl ?_
            refine R_nil ?_
            refine X_then hK113 ?_
            refine C_seq (fun K115 hK115 => ?_)
            refine C_region ?_
            have f116 : Bk w25 px ([.int .i64 (ka), .int .i64 (nn), .int .u32 ((ge : Nat) : Int), .string mk, .slice A_x ((L).length) (c_x)]) 70 := (((f103.no k23).on k24 (Ne.symm ne_po_px)).no k25)
            refine R_pu (pu_loadRow (len := 5) f116 (by kernel_rfl) (by kernel_rfl) rfl rfl) rfl ?_
            refine R_lo (lo_call (by kernel_rfl) rfl (reset_all ka nn ge mk A_x ((L).length) c_x _)) rfl ?_
            rintro _ w26 ⟨rfl, k26⟩
            have kk26 := kk25.then_ k26
            have f117 : Bk w26 pp ([.int .i64 (ka), .int .i64 (nn), .int .u32 ((ge : Nat) : Int), .string mk, .slice A (L.length) (c)]) 68 := ((f114.no k25).no k26)
            have f118 : Bk w26 ps ([.int .u8 ((ix : Nat) : Int), .int .u32 ((gn : Nat) : Int), .slice A1 (X1.length) (c1)]) 56 := ((((f102.no k23).on k24 (Ne.symm ne_po_ps)).no k25).no k26)
            have f119 : Bk w26 px ([.int .i64 (ka), .int .i64 (nn), .int .u32 ((ge : Nat) : Int), .string mk, .slice A_x ((L).length) (c_x)]) 70 := (f116.no k26)
            have f120 : Bk w26 pa ([.int .i64 (subI E ka 0), .int .i64 (subI E nn 0), .int .u32 ((subI E ge 0 : Nat) : Int), .string (subI E mk ByteArray.empty), .slice A_a ((L_a).length) (c_a)]) 70 := ((((f104.no k23).on k24 (Ne.symm ne_po_pa)).no k25).no k26)
            have f121 : Bk w26 pb ([.int .i64 (subI E ka 0), .int .i64 (subI E nn 0), .int .u32 ((subI E ge 0 : Nat) : Int), .string (subI E mk ByteArray.empty), .slice A_b ((subI E (L ++ [(⟨ix, gn, A1, X1, c1⟩ : Shr)]) []).length) (c_b)]) 68 := ((((f105.no k23).on k24 (Ne.symm ne_po_pb)).no k25).no k26)
            have f122 : Bk w26 po ([.int .i64 (subI (chkE (mayB ka nn ge mk2 [])) ka 0), .int .i64 (subI (chkE (mayB ka nn ge mk2 [])) nn 0), .int .u32 ((subI (chkE (mayB ka nn ge mk2 [])) ge 0 : Nat) : Int), .string (subI (chkE (mayB ka nn ge mk2 [])) mk2 ByteArray.empty), .slice none (0) (0)]) 70 := ((f_po_24.no k25).no k26)
            have o123 : Gt w26 := ((((o106.no k23).on k24 (Ne.symm ne_po_0)).no k25).no k26)
            have o124 : Tb w26 b11_0 := ((((o107.no k23).on k24 (Ne.symm ne_po_b11_0)).no k25).no k26)
            have ob125 := ((((ob108.keptNo k23).onN k24 ob108 N23.le).keptNo k25).keptNo k26)
            have ob126 := ((((ob109.keptNo k23).onN k24 ob109 N23.le).keptNo k25).keptNo k26)
            have ob127 := ((((ob110.keptNo k23).onN k24 ob110 N23.le).keptNo k25).keptNo k26)
            have ob128 := ((((ob111.keptNo k23).onN k24 ob111 N23.le).keptNo k25).keptNo k26)
            have ob129 := ((((ob112.keptNo k23).onN k24 ob112 N23.le).keptNo k25).keptNo k26)
            refine R_lo (lo_alloc (L := [.int .i64 0, .int .i64 0, .int .u32 0, .string ByteArray.empty, .slice none (0) (0)]) (by kernel_rfl)) rfl ?_
            rintro _ w27 ⟨pr, rfl, N27⟩
            have k27 := N27.kp
            have kk27 := kk26.then_ k27
            have ne_pr_pp : pr ≠ pp := Nat.ne_of_gt (Nat.lt_of_lt_of_le f117.lt N27.le)
            have ne_pr_ps : pr ≠ ps := Nat.ne_of_gt (Nat.lt_of_lt_of_le f118.lt N27.le)
            have ne_pr_px : pr ≠ px := Nat.ne_of_gt (Nat.lt_of_lt_of_le f119.lt N27.le)
            have ne_pr_pa : pr ≠ pa := Nat.ne_of_gt (Nat.lt_of_lt_of_le f120.lt N27.le)
            have ne_pr_pb : pr ≠ pb := Nat.ne_of_gt (Nat.lt_of_lt_of_le f121.lt N27.le)
            have ne_pr_po : pr ≠ po := Nat.ne_of_gt (Nat.lt_of_lt_of_le f122.lt N27.le)
            have ne_pr_0 : pr ≠ 0 := Nat.ne_of_gt (Nat.lt_of_lt_of_le o123.lt N27.le)
            have ne_pr_b11_0 : pr ≠ b11_0 := Nat.ne_of_gt (Nat.lt_of_lt_of_le o124.lt N27.le)
            have f_pr_27 : Bk w27 pr ([.int .i64 0, .int .i64 0, .int .u32 0, .string ByteArray.empty, .slice none (0) (0)]) 70 := N27.bk
            refine R_lo0 (lo_storeRow (C := [.int .i64 (ka), .int .i64 (nn), .int .u32 ((ge : Nat) : Int), .string mk, .slice none (0) (0)]) f_pr_27 (by kernel_rfl) rfl rfl (by intro u hu; simp at hu; rcases hu with rfl | rfl | rfl | rfl | rfl <;> rfl) rfl) ?_
            rintro _ w28 kf28
            obtain ⟨k28, f_pr_28⟩ := kf28
            replace f_pr_28 : Bk w28 pr ([.int .i64 (ka), .int .i64 (nn), .int .u32 ((ge : Nat) : Int), .string mk, .slice none (0) (0)]) 70 := f_pr_28
            have kk28 := kk27.trans k28 (fun i hi => .inr (hi ▸ (Nat.le_trans kk26.size N27.le)))
            refine R_nil ?_
            refine X_then hK115 ?_
            refine C_seq (fun K130 hK130 => ?_)
            refine C_seq (fun K131 hK131 => ?_)
            have f132 : Bk w28 pp ([.int .i64 (ka), .int .i64 (nn), .int .u32 ((ge : Nat) : Int), .string mk, .slice A (L.length) (c)]) 68 := ((f117.no k27).on k28 (Ne.symm ne_pr_pp))
            have f133 : Bk w28 ps ([.int .u8 ((ix : Nat) : Int), .int .u32 ((gn : Nat) : Int), .slice A1 (X1.length) (c1)]) 56 := ((f118.no k27).on k28 (Ne.symm ne_pr_ps))
            have f134 : Bk w28 px ([.int .i64 (ka), .int .i64 (nn), .int .u32 ((ge : Nat) : Int), .string mk, .slice A_x ((L).length) (c_x)]) 70 := ((f119.no k27).on k28 (Ne.symm ne_pr_px))
            have f135 : Bk w28 pa ([.int .i64 (subI E ka 0), .int .i64 (subI E nn 0), .int .u32 ((subI E ge 0 : Nat) : Int), .string (subI E mk ByteArray.empty), .slice A_a ((L_a).length) (c_a)]) 70 := ((f120.no k27).on k28 (Ne.symm ne_pr_pa))
            have f136 : Bk w28 pb ([.int .i64 (subI E ka 0), .int .i64 (subI E nn 0), .int .u32 ((subI E ge 0 : Nat) : Int), .string (subI E mk ByteArray.empty), .slice A_b ((subI E (L ++ [(⟨ix, gn, A1, X1, c1⟩ : Shr)]) []).length) (c_b)]) 68 := ((f121.no k27).on k28 (Ne.symm ne_pr_pb))
            have f137 : Bk w28 po ([.int .i64 (subI (chkE (mayB ka nn ge mk2 [])) ka 0), .int .i64 (subI (chkE (mayB ka nn ge mk2 [])) nn 0), .int .u32 ((subI (chkE (mayB ka nn ge mk2 [])) ge 0 : Nat) : Int), .string (subI (chkE (mayB ka nn ge mk2 [])) mk2 ByteArray.empty), .slice none (0) (0)]) 70 := ((f122.no k27).on k28 (Ne.symm ne_pr_po))
            have o138 : Gt w28 := ((o123.no k27).on k28 (Ne.symm ne_pr_0))
            have o139 : Tb w28 b11_0 := ((o124.no k27).on k28 (Ne.symm ne_pr_b11_0))
            have ob140 := ((ob128.keptNo k27).onN k28 ob128 N27.le)
            have ob141 := ((ob129.keptNo k27).onN k28 ob129 N27.le)
            refine D_begin (fun W => Kp No w W ∧ Bk W pp ([.int .i64 (ka), .int .i64 (nn), .int .u32 ((ge : Nat) : Int), .string mk, .slice A (L.length) (c)]) 68 ∧ Bk W ps ([.int .u8 ((ix : Nat) : Int), .int .u32 ((gn : Nat) : Int), .slice A1 (X1.length) (c1)]) 56 ∧ Bk W px ([.int .i64 (ka), .int .i64 (nn), .int .u32 ((ge : Nat) : Int), .string mk, .slice A_x ((L).length) (c_x)]) 70 ∧ Bk W pa ([.int .i64 (subI E ka 0), .int .i64 (subI E nn 0), .int .u32 ((subI E ge 0 : Nat) : Int), .string (subI E mk ByteArray.empty), .slice A_a ((L_a).length) (c_a)]) 70 ∧ Bk W pb ([.int .i64 (subI E ka 0), .int .i64 (subI E nn 0), .int .u32 ((subI E ge 0 : Nat) : Int), .string (subI E mk ByteArray.empty), .slice A_b ((subI E (L ++ [(⟨ix, gn, A1, X1, c1⟩ : Shr)]) []).length) (c_b)]) 68 ∧ Bk W po ([.int .i64 (subI (chkE (mayB ka nn ge mk2 [])) ka 0), .int .i64 (subI (chkE (mayB ka nn ge mk2 [])) nn 0), .int .u32 ((subI (chkE (mayB ka nn ge mk2 [])) ge 0 : Nat) : Int), .string (subI (chkE (mayB ka nn ge mk2 [])) mk2 ByteArray.empty), .slice none (0) (0)]) 70 ∧ Bk W pr ([.int .i64 (ka), .int .i64 (nn), .int .u32 ((ge : Nat) : Int), .string mk, .slice none (0) (0)]) 70 ∧ Gt W ∧ Tb W b11_0 ∧ Ob W w19.heap.size (.slice A_cc ((subI F (thX (L.take ka.toNat) 32 0) []).length) (c_cc)) (subI F (thX (L.take ka.toNat) 32 0) []) ∧ Ob W w20.heap.size (.slice A_d ((subI F (thX (L.take ka.toNat) 32 0) []).length) (c_d)) (subI F (thX (L.take ka.toNat) 32 0) [])) 48 rfl (by kernel_rfl) ⟨kk28.drew, f132.draw, f133.draw, f134.draw, f135.draw, f136.draw, f137.draw, f_pr_28.draw, o138.draw, o139.draw, ob140.draw, ob141.draw⟩ ?_
            intro w29 k29 _
            have kk29 := kk28.then_ k29
            refine D_take 0 rfl (by kernel_rfl) (by kernel_rfl) (by kernel_rfl) (fun _ _ _ h => h) rfl (fun W hS => pu_loadRow (len := 5) hS.2.2.2.2.1 (by kernel_rfl) (by kernel_rfl) rfl rfl) ?_
            refine D_take 1 rfl (by kernel_rfl) (by kernel_rfl) (by kernel_rfl) (fun _ _ _ h => h) rfl (fun W hS => pu_loadRow (len := 5) hS.2.2.2.2.2.1 (by kernel_rfl) (by kernel_rfl) rfl rfl) ?_
            have ob142 := (((ob126.keptNo k27).onN k28 ob126 N27.le).keptNo k29)
            have ob143 := (((ob127.keptNo k27).onN k28 ob127 N27.le).keptNo k29)
            refine D_one 2 (by kernel_rfl) (Nx_lo rfl (lo_call (by kernel_rfl) rfl (is_progress23 (subI E ka 0) (subI E nn 0) (subI E ge 0) (subI E mk ByteArray.empty) A_a L_a c_a A_b (subI E (L ++ [(⟨ix, gn, A1, X1, c1⟩ : Shr)]) []) c_b _ ob142.ss (ob143.ss (ok_subI ((HS.keptNo kk29).ok) (Shr.ok.mk hix hgn (HB.keptNo kk29) hc1 hcm))) (by rw [hK_a]; exact (subI_map Shr.key E (L ++ [(⟨ix, gn, A1, X1, c1⟩ : Shr)]) []).trans (by rw [List.map_append]; rfl) |>.symm) (by have h := congrArg List.length hK_a; rw [List.length_map] at h; rw [h]; unfold subI; split <;> simp; omega))) rfl ?_)
            rintro _ w30 ⟨rfl, k30⟩
            have kk30 := kk29.then_ k30
            have f144 : Bk w30 pp ([.int .i64 (ka), .int .i64 (nn), .int .u32 ((ge : Nat) : Int), .string mk, .slice A (L.length) (c)]) 68 := ((f132.no k29).no k30)
            have f145 : Bk w30 ps ([.int .u8 ((ix : Nat) : Int), .int .u32 ((gn : Nat) : Int), .slice A1 (X1.length) (c1)]) 56 := ((f133.no k29).no k30)
            have f146 : Bk w30 px ([.int .i64 (ka), .int .i64 (nn), .int .u32 ((ge : Nat) : Int), .string mk, .slice A_x ((L).length) (c_x)]) 70 := ((f134.no k29).no k30)
            have f147 : Bk w30 pa ([.int .i64 (subI E ka 0), .int .i64 (subI E nn 0), .int .u32 ((subI E ge 0 : Nat) : Int), .string (subI E mk ByteArray.empty), .slice A_a ((L_a).length) (c_a)]) 70 := ((f135.no k29).no k30)
            have f148 : Bk w30 pb ([.int .i64 (subI E ka 0), .int .i64 (subI E nn 0), .int .u32 ((subI E ge 0 : Nat) : Int), .string (subI E mk ByteArray.empty), .slice A_b ((subI E (L ++ [(⟨ix, gn, A1, X1, c1⟩ : Shr)]) []).length) (c_b)]) 68 := ((f136.no k29).no k30)
            have f149 : Bk w30 po ([.int .i64 (subI (chkE (mayB ka nn ge mk2 [])) ka 0), .int .i64 (subI (chkE (mayB ka nn ge mk2 [])) nn 0), .int .u32 ((subI (chkE (mayB ka nn ge mk2 [])) ge 0 : Nat) : Int), .string (subI (chkE (mayB ka nn ge mk2 [])) mk2 ByteArray.empty), .slice none (0) (0)]) 70 := ((f137.no k29).no k30)
            have f150 : Bk w30 pr ([.int .i64 (ka), .int .i64 (nn), .int .u32 ((ge : Nat) : Int), .string mk, .slice none (0) (0)]) 70 := ((f_pr_28.no k29).no k30)
            have o151 : Gt w30 := ((o138.no k29).no k30)
            have o152 : Tb w30 b11_0 := ((o139.no k29).no k30)
            have ob153 := ((ob140.keptNo k29).keptNo k30)
            have ob154 := ((ob141.keptNo k29).keptNo k30)
            refine ⟨⟨kk30, f144, f145, f146, f147, f148, f149, f150, o151, o152, ob153, ob154⟩, ?_⟩
            refine D_take 3 rfl (by kernel_rfl) (by kernel_rfl) (by kernel_rfl) (fun _ _ _ h => h) rfl (fun W hS => pu_not rfl) ?_
            refine D_take 4 rfl (by kernel_rfl) (by kernel_rfl) (by kernel_rfl) (fun _ _ _ h => h) rfl (fun W hS => pu_move rfl) ?_
            refine D_gtake 5 rfl rfl rfl (by kernel_rfl) (by kernel_rfl) (by kernel_rfl) (fun _ _ _ h => h) rfl (fun W hS => pu_move rfl) ?_
            refine D_gtake 6 rfl rfl rfl (by kernel_rfl) (by kernel_rfl) (by kernel_rfl) (fun _ _ _ h => h) rfl (fun W hS => pu_move rfl) ?_
            refine D_gtake 7 rfl rfl rfl (by kernel_rfl) (by kernel_rfl) (by kernel_rfl) (fun _ _ _ h => h) rfl (fun W hS => pu_b (pu_neqb Tryd.underlying4 rfl rfl) (bne_self_eq_false _)) ?_
            refine D_take 8 rfl (by kernel_rfl) (by kernel_rfl) (by kernel_rfl) (fun _ _ _ h => h) rfl (fun W hS => pu_pickf rfl rfl) ?_
            refine D_take 9 rfl (by kernel_rfl) (by kernel_rfl) (by kernel_rfl) (fun _ _ _ h => h) rfl (fun W hS => pu_move rfl) ?_
            refine D_gtake 10 rfl rfl rfl (by kernel_rfl) (by kernel_rfl) (by kernel_rfl) (fun _ _ _ h => h) rfl (fun W hS => pu_move rfl) ?_
            refine D_gtake 12 rfl rfl rfl (by kernel_rfl) (by kernel_rfl) (by kernel_rfl) (fun _ _ _ h => h) rfl (fun W hS => pu_move rfl) ?_
            refine D_one 11 (by kernel_rfl) (Nx_glo rfl rfl rfl (lo_call (by kernel_rfl) rfl (num_errv E ev_a _ he_a o151)) rfl ?_)
            rintro _ w31 ⟨rfl, k31⟩
            have kk31 := kk30.then_ k31
            have f155 : Bk w31 pp ([.int .i64 (ka), .int .i64 (nn), .int .u32 ((ge : Nat) : Int), .string mk, .slice A (L.length) (c)]) 68 := (f144.no k31)
            have f156 : Bk w31 ps ([.int .u8 ((ix : Nat) : Int), .int .u32 ((gn : Nat) : Int), .slice A1 (X1.length) (c1)]) 56 := (f145.no k31)
            have f157 : Bk w31 px ([.int .i64 (ka), .int .i64 (nn), .int .u32 ((ge : Nat) : Int), .string mk, .slice A_x ((L).length) (c_x)]) 70 := (f146.no k31)
            have f158 : Bk w31 pa ([.int .i64 (subI E ka 0), .int .i64 (subI E nn 0), .int .u32 ((subI E ge 0 : Nat) : Int), .string (subI E mk ByteArray.empty), .slice A_a ((L_a).length) (c_a)]) 70 := (f147.no k31)
            have f159 : Bk w31 pb ([.int .i64 (subI E ka 0), .int .i64 (subI E nn 0), .int .u32 ((subI E ge 0 : Nat) : Int), .string (subI E mk ByteArray.empty), .slice A_b ((subI E (L ++ [(⟨ix, gn, A1, X1, c1⟩ : Shr)]) []).length) (c_b)]) 68 := (f148.no k31)
            have f160 : Bk w31 po ([.int .i64 (subI (chkE (mayB ka nn ge mk2 [])) ka 0), .int .i64 (subI (chkE (mayB ka nn ge mk2 [])) nn 0), .int .u32 ((subI (chkE (mayB ka nn ge mk2 [])) ge 0 : Nat) : Int), .string (subI (chkE (mayB ka nn ge mk2 [])) mk2 ByteArray.empty), .slice none (0) (0)]) 70 := (f149.no k31)
            have f161 : Bk w31 pr ([.int .i64 (ka), .int .i64 (nn), .int .u32 ((ge : Nat) : Int), .string mk, .slice none (0) (0)]) 70 := (f150.no k31)
            have o162 : Gt w31 := (o151.no k31)
            have o163 : Tb w31 b11_0 := (o152.no k31)
            have ob164 := (ob153.keptNo k31)
            have ob165 := (ob154.keptNo k31)
            refine ⟨⟨kk31, f155, f156, f157, f158, f159, f160, f161, o162, o163, ob164, ob165⟩, ?_⟩
            refine D_gtake 13 rfl rfl rfl (by kernel_rfl) (by kernel_rfl) (by kernel_rfl) (fun _ _ _ h => h) rfl (fun W hS => pu_false (pu_neq (p := E = E) rfl rfl (by omega)) (fun h => h rfl)) ?_
            refine D_take 14 rfl (by kernel_rfl) (by kernel_rfl) (by kernel_rfl) (fun _ _ _ h => h) rfl (fun W hS => pu_pickf rfl rfl) ?_
            refine D_take 15 rfl (by kernel_rfl) (by kernel_rfl) (by kernel_rfl) (fun _ _ _ h => h) rfl (fun W hS => pu_move rfl) ?_
            refine D_gtake 16 rfl rfl rfl (by kernel_rfl) (by kernel_rfl) (by kernel_rfl) (fun _ _ _ h => h) rfl (fun W hS => pu_move rfl) ?_
            refine D_gtake 17 rfl rfl rfl (by kernel_rfl) (by kernel_rfl) (by kernel_rfl) (fun _ _ _ h => h) rfl (fun W hS => pu_bstr hS.2.2.2.2.2.2.2.2.2.2.1.bs Tryd.underlying22 Tryd.underlying5 Tryd.underlying9 rfl rfl) ?_
            refine D_gtake 18 rfl rfl rfl (by kernel_rfl) (by kernel_rfl) (by kernel_rfl) (fun _ _ _ h => h) rfl (fun W hS => pu_move rfl) ?_
            refine D_gtake 19 rfl rfl rfl (by kernel_rfl) (by kernel_rfl) (by kernel_rfl) (fun _ _ _ h => h) rfl (fun W hS => pu_bstr hS.2.2.2.2.2.2.2.2.2.2.2.bs Tryd.underlying22 Tryd.underlying5 Tryd.underlying9 rfl rfl) ?_
            refine D_gtake 20 rfl rfl rfl (by kernel_rfl) (by kernel_rfl) (by kernel_rfl) (fun _ _ _ h => h) rfl (fun W hS => pu_false (pu_neqs (p := (subI F (thX (L.take ka.toNat) 32 0) []) = (subI F (thX (L.take ka.toNat) 32 0) [])) rfl rfl (bstr_inj (hS.2.2.2.2.2.2.2.2.2.2.1.bs).byte (hS.2.2.2.2.2.2.2.2.2.2.2.bs).byte)) (fun h => h rfl)) ?_
            refine D_take 21 rfl (by kernel_rfl) (by kernel_rfl) (by kernel_rfl) (fun _ _ _ h => h) rfl (fun W hS => pu_pickf rfl rfl) ?_
            refine D_take 22 rfl (by kernel_rfl) (by kernel_rfl) (by kernel_rfl) (fun _ _ _ h => h) rfl (fun W hS => pu_move rfl) ?_
            refine D_gtake 23 rfl rfl rfl (by kernel_rfl) (by kernel_rfl) (by kernel_rfl) (fun _ _ _ h => h) rfl (fun W hS => pu_move rfl) ?_
            refine D_gtake 25 rfl rfl rfl (by kernel_rfl) (by kernel_rfl) (by kernel_rfl) (fun _ _ _ h => h) rfl (fun W hS => pu_move rfl) ?_
            refine D_one 24 (by kernel_rfl) (Nx_glo rfl rfl rfl (lo_call (by kernel_rfl) rfl (num_errv F ev_cc _ he_cc o162)) rfl ?_)
            rintro _ w32 ⟨rfl, k32⟩
            have kk32 := kk31.then_ k32
            have f166 : Bk w32 pp ([.int .i64 (ka), .int .i64 (nn), .int .u32 ((ge : Nat) : Int), .string mk, .slice A (L.length) (c)]) 68 := (f155.no k32)
            have f167 : Bk w32 ps ([.int .u8 ((ix : Nat) : Int), .int .u32 ((gn : Nat) : Int), .slice A1 (X1.length) (c1)]) 56 := (f156.no k32)
            have f168 : Bk w32 px ([.int .i64 (ka), .int .i64 (nn), .int .u32 ((ge : Nat) : Int), .string mk, .slice A_x ((L).length) (c_x)]) 70 := (f157.no k32)
            have f169 : Bk w32 pa ([.int .i64 (subI E ka 0), .int .i64 (subI E nn 0), .int .u32 ((subI E ge 0 : Nat) : Int), .string (subI E mk ByteArray.empty), .slice A_a ((L_a).length) (c_a)]) 70 := (f158.no k32)
            have f170 : Bk w32 pb ([.int .i64 (subI E ka 0), .int .i64 (subI E nn 0), .int .u32 ((subI E ge 0 : Nat) : Int), .string (subI E mk ByteArray.empty), .slice A_b ((subI E (L ++ [(⟨ix, gn, A1, X1, c1⟩ : Shr)]) []).length) (c_b)]) 68 := (f159.no k32)
            have f171 : Bk w32 po ([.int .i64 (subI (chkE (mayB ka nn ge mk2 [])) ka 0), .int .i64 (subI (chkE (mayB ka nn ge mk2 [])) nn 0), .int .u32 ((subI (chkE (mayB ka nn ge mk2 [])) ge 0 : Nat) : Int), .string (subI (chkE (mayB ka nn ge mk2 [])) mk2 ByteArray.empty), .slice none (0) (0)]) 70 := (f160.no k32)
            have f172 : Bk w32 pr ([.int .i64 (ka), .int .i64 (nn), .int .u32 ((ge : Nat) : Int), .string mk, .slice none (0) (0)]) 70 := (f161.no k32)
            have o173 : Gt w32 := (o162.no k32)
            have o174 : Tb w32 b11_0 := (o163.no k32)
            have ob175 := (ob164.keptNo k32)
            have ob176 := (ob165.keptNo k32)
            refine ⟨⟨kk32, f166, f167, f168, f169, f170, f171, f172, o173, o174, ob175, ob176⟩, ?_⟩
            refine D_gtake 26 rfl rfl rfl (by kernel_rfl) (by kernel_rfl) (by kernel_rfl) (fun _ _ _ h => h) rfl (fun W hS => pu_false (pu_neq (p := F = F) rfl rfl (by omega)) (fun h => h rfl)) ?_
            refine D_take 27 rfl (by kernel_rfl) (by kernel_rfl) (by kernel_rfl) (fun _ _ _ h => h) rfl (fun W hS => pu_pickf rfl rfl) ?_
            refine D_take 28 rfl (by kernel_rfl) (by kernel_rfl) (by kernel_rfl) (fun _ _ _ h => h) rfl (fun W hS => pu_move rfl) ?_
            refine D_gtake 29 rfl rfl rfl (by kernel_rfl) (by kernel_rfl) (by kernel_rfl) (fun _ _ _ h => h) rfl (fun W hS => pu_move rfl) ?_
            refine D_gtake 30 rfl rfl rfl (by kernel_rfl) (by kernel_rfl) (by kernel_rfl) (fun _ _ _ h => h) rfl (fun W hS => pu_eqlEV he_st13 (by kernel_rfl) rfl) ?_
            refine D_gtake 31 rfl rfl rfl (by kernel_rfl) (by kernel_rfl) (by kernel_rfl) (fun _ _ _ h => h) rfl (fun W hS => pu_move rfl) ?_
            refine D_gtake 32 rfl rfl rfl (by kernel_rfl) (by kernel_rfl) (by kernel_rfl) (fun _ _ _ h => h) rfl (fun W hS => pu_b (pu_neqb Tryd.underlying4 rfl rfl) chkE_n) ?_
            refine D_take 33 rfl (by kernel_rfl) (by kernel_rfl) (by kernel_rfl) (fun _ _ _ h => h) rfl (fun W hS => pu_pickf rfl rfl) ?_
            refine D_take 34 rfl (by kernel_rfl) (by kernel_rfl) (by kernel_rfl) (fun _ _ _ h => h) rfl (fun W hS => pu_move rfl) ?_
            refine D_gtake 35 rfl rfl rfl (by kernel_rfl) (by kernel_rfl) (by kernel_rfl) (fun _ _ _ h => h) rfl (fun W hS => pu_loadRow (len := 5) hS.2.2.2.1 (by kernel_rfl) (by kernel_rfl) rfl rfl) ?_
            refine D_gtake 38 rfl rfl rfl (by kernel_rfl) (by kernel_rfl) (by kernel_rfl) (fun _ _ _ h => h) rfl (fun W hS => pu_loadRow (len := 5) hS.2.1 (by kernel_rfl) (by kernel_rfl) rfl rfl) ?_
            have ob177 := ((((((ob125.keptNo k27).onN k28 ob125 N27.le).keptNo k29).keptNo k30).keptNo k31).keptNo k32)
            refine D_one 36 (by kernel_rfl) (Nx_glo rfl rfl rfl (lo_call (by kernel_rfl) rfl (check_all ka nn ge mk A_x L c_x _ (ob177.ss (HS.keptNo kk32).ok) ⟨⟨ob177.le.2, by omega⟩, trivial⟩)) rfl ?_)
            rintro _ w33 ⟨ev_ck16, rfl, he_ck16, k33⟩
            have kk33 := kk32.then_ k33
            have f178 : Bk w33 pp ([.int .i64 (ka), .int .i64 (nn), .int .u32 ((ge : Nat) : Int), .string mk, .slice A (L.length) (c)]) 68 := (f166.no k33)
            have f179 : Bk w33 ps ([.int .u8 ((ix : Nat) : Int), .int .u32 ((gn : Nat) : Int), .slice A1 (X1.length) (c1)]) 56 := (f167.no k33)
            have f180 : Bk w33 px ([.int .i64 (ka), .int .i64 (nn), .int .u32 ((ge : Nat) : Int), .string mk, .slice A_x ((L).length) (c_x)]) 70 := (f168.no k33)
            have f181 : Bk w33 pa ([.int .i64 (subI E ka 0), .int .i64 (subI E nn 0), .int .u32 ((subI E ge 0 : Nat) : Int), .string (subI E mk ByteArray.empty), .slice A_a ((L_a).length) (c_a)]) 70 := (f169.no k33)
            have f182 : Bk w33 pb ([.int .i64 (subI E ka 0), .int .i64 (subI E nn 0), .int .u32 ((subI E ge 0 : Nat) : Int), .string (subI E mk ByteArray.empty), .slice A_b ((subI E (L ++ [(⟨ix, gn, A1, X1, c1⟩ : Shr)]) []).length) (c_b)]) 68 := (f170.no k33)
            have f183 : Bk w33 po ([.int .i64 (subI (chkE (mayB ka nn ge mk2 [])) ka 0), .int .i64 (subI (chkE (mayB ka nn ge mk2 [])) nn 0), .int .u32 ((subI (chkE (mayB ka nn ge mk2 [])) ge 0 : Nat) : Int), .string (subI (chkE (mayB ka nn ge mk2 [])) mk2 ByteArray.empty), .slice none (0) (0)]) 70 := (f171.no k33)
            have f184 : Bk w33 pr ([.int .i64 (ka), .int .i64 (nn), .int .u32 ((ge : Nat) : Int), .string mk, .slice none (0) (0)]) 70 := (f172.no k33)
            have o185 : Gt w33 := (o173.no k33)
            have o186 : Tb w33 b11_0 := (o174.no k33)
            have ob187 := (ob175.keptNo k33)
            have ob188 := (ob176.keptNo k33)
            refine ⟨⟨kk33, f178, f179, f180, f181, f182, f183, f184, o185, o186, ob187, ob188⟩, ?_⟩
            refine D_gtake 37 rfl rfl rfl (by kernel_rfl) (by kernel_rfl) (by kernel_rfl) (fun _ _ _ h => h) rfl (fun W hS => pu_eqlEV he_ck16 (by kernel_rfl) rfl) ?_
            refine D_one 39 (by kernel_rfl) (Nx_glo rfl rfl rfl (lo_call (by kernel_rfl) rfl (rmay_all ka nn ge mk A L c _ (HS.keptNo kk33) ⟨⟨hc, by omega⟩, trivial⟩)) rfl ?_)
            rintro _ w34 ⟨rfl, k34⟩
            have kk34 := kk33.then_ k34
            have f189 : Bk w34 pp ([.int .i64 (ka), .int .i64 (nn), .int .u32 ((ge : Nat) : Int), .string mk, .slice A (L.length) (c)]) 68 := (f178.no k34)
            have f190 : Bk w34 ps ([.int .u8 ((ix : Nat) : Int), .int .u32 ((gn : Nat) : Int), .slice A1 (X1.length) (c1)]) 56 := (f179.no k34)
            have f191 : Bk w34 px ([.int .i64 (ka), .int .i64 (nn), .int .u32 ((ge : Nat) : Int), .string mk, .slice A_x ((L).length) (c_x)]) 70 := (f180.no k34)
            have f192 : Bk w34 pa ([.int .i64 (subI E ka 0), .int .i64 (subI E nn 0), .int .u32 ((subI E ge 0 : Nat) : Int), .string (subI E mk ByteArray.empty), .slice A_a ((L_a).length) (c_a)]) 70 := (f181.no k34)
            have f193 : Bk w34 pb ([.int .i64 (subI E ka 0), .int .i64 (subI E nn 0), .int .u32 ((subI E ge 0 : Nat) : Int), .string (subI E mk ByteArray.empty), .slice A_b ((subI E (L ++ [(⟨ix, gn, A1, X1, c1⟩ : Shr)]) []).length) (c_b)]) 68 := (f182.no k34)
            have f194 : Bk w34 po ([.int .i64 (subI (chkE (mayB ka nn ge mk2 [])) ka 0), .int .i64 (subI (chkE (mayB ka nn ge mk2 [])) nn 0), .int .u32 ((subI (chkE (mayB ka nn ge mk2 [])) ge 0 : Nat) : Int), .string (subI (chkE (mayB ka nn ge mk2 [])) mk2 ByteArray.empty), .slice none (0) (0)]) 70 := (f183.no k34)
            have f195 : Bk w34 pr ([.int .i64 (ka), .int .i64 (nn), .int .u32 ((ge : Nat) : Int), .string mk, .slice none (0) (0)]) 70 := (f184.no k34)
            have o196 : Gt w34 := (o185.no k34)
            have o197 : Tb w34 b11_0 := (o186.no k34)
            have ob198 := (ob187.keptNo k34)
            have ob199 := (ob188.keptNo k34)
            refine ⟨⟨kk34, f189, f190, f191, f192, f193, f194, f195, o196, o197, ob198, ob199⟩, ?_⟩
            refine D_gtake 40 rfl rfl rfl (by kernel_rfl) (by kernel_rfl) (by kernel_rfl) (fun _ _ _ h => h) rfl (fun W hS => pu_b (pu_neqb Tryd.underlying4 rfl rfl) chkE_n) ?_
            refine D_take 41 rfl (by kernel_rfl) (by kernel_rfl) (by kernel_rfl) (fun _ _ _ h => h) rfl (fun W hS => pu_pickf rfl rfl) ?_
            refine D_take 42 rfl (by kernel_rfl) (by kernel_rfl) (by kernel_rfl) (fun _ _ _ h => h) rfl (fun W hS => pu_move rfl) ?_
            refine D_gtake 43 rfl rfl rfl (by kernel_rfl) (by kernel_rfl) (by kernel_rfl) (fun _ _ _ h => h) rfl (fun W hS => pu_loadRow (len := 5) hS.2.2.2.1 (by kernel_rfl) (by kernel_rfl) rfl rfl) ?_
            refine D_gtake 44 rfl rfl rfl (by kernel_rfl) (by kernel_rfl) (by kernel_rfl) (fun _ _ _ h => h) rfl (fun W hS => pu_loadRow (len := 5) hS.2.1 (by kernel_rfl) (by kernel_rfl) rfl rfl) ?_
            have ob200 := ((ob177.keptNo k33).keptNo k34)
            refine D_one 45 (by kernel_rfl) (Nx_glo rfl rfl rfl (lo_call (by kernel_rfl) rfl (is_progress23 ka nn ge mk A_x L c_x A L c _ (ob200.ss (HS.keptNo kk34).ok) (HS.keptNo kk34) rfl (by omega))) rfl ?_)
            rintro _ w35 ⟨rfl, k35⟩
            have kk35 := kk34.then_ k35
            have f201 : Bk w35 pp ([.int .i64 (ka), .int .i64 (nn), .int .u32 ((ge : Nat) : Int), .string mk, .slice A (L.length) (c)]) 68 := (f189.no k35)
            have f202 : Bk w35 ps ([.int .u8 ((ix : Nat) : Int), .int .u32 ((gn : Nat) : Int), .slice A1 (X1.length) (c1)]) 56 := (f190.no k35)
            have f203 : Bk w35 px ([.int .i64 (ka), .int .i64 (nn), .int .u32 ((ge : Nat) : Int), .string mk, .slice A_x ((L).length) (c_x)]) 70 := (f191.no k35)
            have f204 : Bk w35 pa ([.int .i64 (subI E ka 0), .int .i64 (subI E nn 0), .int .u32 ((subI E ge 0 : Nat) : Int), .string (subI E mk ByteArray.empty), .slice A_a ((L_a).length) (c_a)]) 70 := (f192.no k35)
            have f205 : Bk w35 pb ([.int .i64 (subI E ka 0), .int .i64 (subI E nn 0), .int .u32 ((subI E ge 0 : Nat) : Int), .string (subI E mk ByteArray.empty), .slice A_b ((subI E (L ++ [(⟨ix, gn, A1, X1, c1⟩ : Shr)]) []).length) (c_b)]) 68 := (f193.no k35)
            have f206 : Bk w35 po ([.int .i64 (subI (chkE (mayB ka nn ge mk2 [])) ka 0), .int .i64 (subI (chkE (mayB ka nn ge mk2 [])) nn 0), .int .u32 ((subI (chkE (mayB ka nn ge mk2 [])) ge 0 : Nat) : Int), .string (subI (chkE (mayB ka nn ge mk2 [])) mk2 ByteArray.empty), .slice none (0) (0)]) 70 := (f194.no k35)
            have f207 : Bk w35 pr ([.int .i64 (ka), .int .i64 (nn), .int .u32 ((ge : Nat) : Int), .string mk, .slice none (0) (0)]) 70 := (f195.no k35)
            have o208 : Gt w35 := (o196.no k35)
            have o209 : Tb w35 b11_0 := (o197.no k35)
            have ob210 := (ob198.keptNo k35)
            have ob211 := (ob199.keptNo k35)
            refine ⟨⟨kk35, f201, f202, f203, f204, f205, f206, f207, o208, o209, ob210, ob211⟩, ?_⟩
            refine D_gtake 46 rfl rfl rfl (by kernel_rfl) (by kernel_rfl) (by kernel_rfl) (fun _ _ _ h => h) rfl (fun W hS => pu_not rfl) ?_
            refine D_take 47 rfl (by kernel_rfl) (by kernel_rfl) (by kernel_rfl) (fun _ _ _ h => h) rfl (fun W hS => pu_pickf rfl rfl) ?_
            refine D_done (by kernel_rfl) ?_
            refine X_then hK131 ?_
            refine C_false rfl ?_
            refine C_skip ?_
            refine X_then hK130 ?_
            refine C_seq (fun K212 hK212 => ?_)
            refine C_region ?_
            refine R_pu (pu_fieldAddr (off := 4) (o' := 4) (by kernel_rfl) rfl rfl) rfl ?_
            refine R_pu (pu_loadK f207 (by kernel_rfl) rfl rfl) rfl ?_
            refine R_pu (pu_len Tryd.underlying29 rfl) rfl ?_
            refine R_pu (pu_true (pu_eql (p := (0 : Nat) = 0) rfl rfl (by omega)) (by decide)) rfl ?_
            refine R_pu (pu_move rfl) rfl ?_
            refine R_gpu rfl rfl (pu_fieldAddr (off := 0) (o' := 0) (by kernel_rfl) rfl rfl) rfl ?_
            refine R_gpu rfl rfl (pu_loadMid (len := 3) (C := [.int .i64 (ka), .int .i64 (nn), .int .u32 ((ge : Nat) : Int)]) f207 (by kernel_rfl) (by kernel_rfl) rfl rfl rfl) rfl ?_
            refine R_gpu rfl rfl (pu_fieldAddr (off := 0) (o' := 0) (by kernel_rfl) rfl rfl) rfl ?_
            refine R_gpu rfl rfl (pu_loadMid (len := 3) (C := [.int .i64 (ka), .int .i64 (nn), .int .u32 ((ge : Nat) : Int)]) f203 (by kernel_rfl) (by kernel_rfl) rfl rfl rfl) rfl ?_
            refine R_gpu rfl rfl (pu_true (pu_eqlS3 Tryd.underlying28 (by kernel_rfl) (by kernel_rfl) (by decide) (by decide) (by decide) Tryd.underlying3 Tryd.underlying3 Tryd.underlying23 rfl rfl rfl rfl rfl) ⟨rfl, rfl, rfl⟩) rfl ?_
            refine R_pu (pu_pickt rfl rfl) rfl ?_
            refine R_pu (pu_move rfl) rfl ?_
            refine R_gpu rfl rfl (pu_fieldAddr (off := 3) (o' := 3) (by kernel_rfl) rfl rfl) rfl ?_
            refine R_gpu rfl rfl (pu_loadK f207 (by kernel_rfl) rfl rfl) rfl ?_
            refine R_gpu rfl rfl (pu_fieldAddr (off := 3) (o' := 3) (by kernel_rfl) rfl rfl) rfl ?_
            refine R_gpu rfl rfl (pu_loadK f203 (by kernel_rfl) rfl rfl) rfl ?_
            refine R_gpu rfl rfl (pu_true (pu_eqls (p := mk = mk) rfl rfl Iff.rfl) rfl) rfl ?_
            refine R_pu (pu_pickt rfl rfl) rfl ?_
            refine R_pu (pu_move rfl) rfl ?_
            refine R_gpu rfl rfl (pu_move rfl) rfl ?_
            refine R_gpu rfl rfl (pu_not rfl) rfl ?_
            rcases Bool.eq_false_or_eq_true (!(mayB ka nn ge mk2 ([] : List Shr))) with g18_21 | g18_21
            · refine R_gpu rfl rfl (pu_b (pu_move rfl) g18_21) rfl ?_
              refine R_gno rfl rfl rfl rfl ?_
              refine R_gno rfl rfl rfl rfl ?_
              refine R_gno rfl rfl rfl rfl ?_
              refine R_gno rfl rfl rfl rfl ?_
              refine R_gno rfl rfl rfl rfl ?_
              refine R_gno rfl rfl rfl rfl ?_
              refine R_gun rfl rfl rfl ?_
              refine R_gun rfl rfl rfl ?_
              refine R_gun rfl rfl rfl ?_
              refine R_gun rfl rfl rfl ?_
              refine R_gno rfl rfl rfl rfl ?_
              refine R_gpu rfl rfl (pu_pickt rfl rfl) rfl ?_
              refine R_pu (pu_pickt rfl rfl) rfl ?_
              refine R_pu (pu_move rfl) rfl ?_
              refine R_gpu rfl rfl (pu_move rfl) rfl ?_
              rcases Bool.eq_false_or_eq_true (mayB ka nn ge mk2 ([] : List Shr)) with g18_37 | g18_37
              · refine R_gpu rfl rfl (pu_b (pu_move rfl) g18_37) rfl ?_
                refine R_gno rfl rfl rfl rfl ?_
                refine R_gno rfl rfl rfl rfl ?_
                refine R_gno rfl rfl rfl rfl ?_
                refine R_gpu rfl rfl (pu_pickt rfl rfl) rfl ?_
                refine R_pu (pu_pickt rfl rfl) rfl ?_
                refine R_pu (pu_move rfl) rfl ?_
                refine R_glo rfl rfl (lo_call (by kernel_rfl) rfl (sure23 _ o208)) rfl ?_
                rintro _ w36 ⟨rfl, k36⟩
                have kk36 := kk35.then_ k36
                refine R_pu (pu_pickt rfl rfl) rfl ?_
                refine R_pu (pu_assign rfl) rfl ?_
                refine R_nil ?_
                refine X_then hK212 ?_
                refine C_ret ?_
                exact X_ret1 (.inl rfl) rfl rfl ⟨rfl, kk36⟩
              · refine R_gpu rfl rfl (pu_b (pu_move rfl) g18_37) rfl ?_
                refine R_gpu rfl rfl (pu_move rfl) rfl ?_
                refine R_glo rfl rfl (lo_call (by kernel_rfl) rfl (num_errv (chkE (mayB ka nn ge mk2 [])) ev_st13 _ he_st13 o208)) rfl ?_
                rintro _ w37 ⟨rfl, k37⟩
                have kk37 := kk35.then_ k37
                refine R_gpu rfl rfl (pu_true (pu_eql (p := (chkE (mayB ka nn ge mk2 [])) = 1) rfl rfl (by omega)) (by rw [g18_37]; rfl)) rfl ?_
                refine R_gpu rfl rfl (pu_pickf rfl rfl) rfl ?_
                refine R_pu (pu_pickt rfl rfl) rfl ?_
                refine R_pu (pu_move rfl) rfl ?_
                have o213 : Gt w37 := (o208.no k37)
                refine R_glo rfl rfl (lo_call (by kernel_rfl) rfl (sure23 _ o213)) rfl ?_
                rintro _ w38 ⟨rfl, k38⟩
                have kk38 := kk37.then_ k38
                refine R_pu (pu_pickt rfl rfl) rfl ?_
                refine R_pu (pu_assign rfl) rfl ?_
                refine R_nil ?_
                refine X_then hK212 ?_
                refine C_ret ?_
                exact X_ret1 (.inl rfl) rfl rfl ⟨rfl, kk38⟩
            · refine R_gpu rfl rfl (pu_b (pu_move rfl) g18_21) rfl ?_
              refine R_gpu rfl rfl (pu_fieldAddr (off := 0) (o' := 0) (by kernel_rfl) rfl rfl) rfl ?_
              refine R_gpu rfl rfl (pu_loadMid (len := 3) (C := [.int .i64 (subI (chkE (mayB ka nn ge mk2 [])) ka 0), .int .i64 (subI (chkE (mayB ka nn ge mk2 [])) nn 0), .int .u32 ((subI (chkE (mayB ka nn ge mk2 [])) ge 0 : Nat) : Int)]) f206 (by kernel_rfl) (by kernel_rfl) rfl rfl rfl) rfl ?_
              refine R_gpu rfl rfl (pu_fieldAddr (off := 0) (o' := 0) (by kernel_rfl) rfl rfl) rfl ?_
              refine R_gpu rfl rfl (pu_loadMid (len := 3) (C := [.int .i64 (ka), .int .i64 (nn), .int .u32 ((ge : Nat) : Int)]) f203 (by kernel_rfl) (by kernel_rfl) rfl rfl rfl) rfl ?_
              refine R_gpu rfl rfl (pu_true (pu_eqlS3 Tryd.underlying28 (by kernel_rfl) (by kernel_rfl) (by decide) (by decide) (by decide) Tryd.underlying3 Tryd.underlying3 Tryd.underlying23 rfl rfl rfl rfl rfl) ⟨subI_may g18_21 _ _, subI_may g18_21 _ _, congrArg (fun n : Nat => (n : Int)) (subI_may g18_21 _ _)⟩) rfl ?_
              refine R_gpu rfl rfl (pu_move rfl) rfl ?_
              refine R_gpu rfl rfl (pu_fieldAddr (off := 3) (o' := 3) (by kernel_rfl) rfl rfl) rfl ?_
              refine R_gpu rfl rfl (pu_loadK f206 (by kernel_rfl) rfl rfl) rfl ?_
              refine R_gpu rfl rfl (pu_move rfl) rfl ?_
              refine R_gpu rfl rfl (pu_true (pu_eqls (p := (subI (chkE (mayB ka nn ge mk2 [])) mk2 ByteArray.empty) = mk2) rfl rfl Iff.rfl) (subI_may g18_21 _ _)) rfl ?_
              refine R_gpu rfl rfl (pu_pickt rfl rfl) rfl ?_
              refine R_gpu rfl rfl (pu_pickf rfl rfl) rfl ?_
              refine R_pu (pu_pickt rfl rfl) rfl ?_
              refine R_pu (pu_move rfl) rfl ?_
              refine R_gpu rfl rfl (pu_move rfl) rfl ?_
              rcases Bool.eq_false_or_eq_true (mayB ka nn ge mk2 ([] : List Shr)) with g18_37 | g18_37
              · refine R_gpu rfl rfl (pu_b (pu_move rfl) g18_37) rfl ?_
                refine R_gno rfl rfl rfl rfl ?_
                refine R_gno rfl rfl rfl rfl ?_
                refine R_gno rfl rfl rfl rfl ?_
                refine R_gpu rfl rfl (pu_pickt rfl rfl) rfl ?_
                refine R_pu (pu_pickt rfl rfl) rfl ?_
                refine R_pu (pu_move rfl) rfl ?_
                refine R_glo rfl rfl (lo_call (by kernel_rfl) rfl (sure23 _ o208)) rfl ?_
                rintro _ w39 ⟨rfl, k39⟩
                have kk39 := kk35.then_ k39
                refine R_pu (pu_pickt rfl rfl) rfl ?_
                refine R_pu (pu_assign rfl) rfl ?_
                refine R_nil ?_
                refine X_then hK212 ?_
                refine C_ret ?_
                exact X_ret1 (.inl rfl) rfl rfl ⟨rfl, kk39⟩
              · refine R_gpu rfl rfl (pu_b (pu_move rfl) g18_37) rfl ?_
                refine R_gpu rfl rfl (pu_move rfl) rfl ?_
                refine R_glo rfl rfl (lo_call (by kernel_rfl) rfl (num_errv (chkE (mayB ka nn ge mk2 [])) ev_st13 _ he_st13 o208)) rfl ?_
                rintro _ w40 ⟨rfl, k40⟩
                have kk40 := kk35.then_ k40
                refine R_gpu rfl rfl (pu_true (pu_eql (p := (chkE (mayB ka nn ge mk2 [])) = 1) rfl rfl (by omega)) (by rw [g18_37]; rfl)) rfl ?_
                refine R_gpu rfl rfl (pu_pickf rfl rfl) rfl ?_
                refine R_pu (pu_pickt rfl rfl) rfl ?_
                refine R_pu (pu_move rfl) rfl ?_
                have o214 : Gt w40 := (o208.no k40)
                refine R_glo rfl rfl (lo_call (by kernel_rfl) rfl (sure23 _ o214)) rfl ?_
                rintro _ w41 ⟨rfl, k41⟩
                have kk41 := kk40.then_ k41
                refine R_pu (pu_pickt rfl rfl) rfl ?_
                refine R_pu (pu_assign rfl) rfl ?_
                refine R_nil ?_
                refine X_then hK212 ?_
                refine C_ret ?_
                exact X_ret1 (.inl rfl) rfl rfl ⟨rfl, kk41⟩
end Go.Proofs.YtjbdimfpjbmggaaDoor
