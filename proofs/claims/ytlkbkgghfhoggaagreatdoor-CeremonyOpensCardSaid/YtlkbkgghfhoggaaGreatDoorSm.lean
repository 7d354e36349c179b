/- Walks of shamir and of bursaryref03. -/
import Derived.Test.YtlkbkgghfhoggaaGreatDoorPt
import Derived.Test.YtlkbkgghfhoggaaGreatDoorPo
import Derived.Test.YtlkbkgghfhoggaaGreatDoorSh
import Derived.Test.YtlkbkgghfhoggaaGreatDoorLs
import Derived.Test.YtlkbkgghfhoggaaGreatDoorLz
set_option linter.unusedVariables false
set_option linter.unusedSimpArgs false
set_option maxHeartbeats 2000000
set_option maxRecDepth 100000
namespace Go.Proofs.YtlkbkgghfhoggaaGreatDoor
open Go.RowKit Gm
theorem shamir_check_yes (q nn ge : Nat) (w : World) (hP : 2 ≤ q + 1 ∧ q + 1 ≤ nn ∧ nn ≤ 255) : Ret Tryz.prog 29 #[.agg ([.int .i64 ((q + 1 : Nat) : Int), .int .i64 ((nn : Nat) : Int), .int .u32 ((ge : Nat) : Int)] : List Value).toArray] w (fun v w' => v = .nilIface ∧ Kp No w w') := by
 have kk0 := Kp.refl No w
 refine enter (n := 19) [.agg ([.int .i64 ((q + 1 : Nat) : Int), .int .i64 ((nn : Nat) : Int), .int .u32 ((ge : Nat) : Int)] : List Value).toArray] Tryz.func29 rfl rfl rfl ?_
 show Cw _ _ _ _ [(0, .agg ([.int .i64 ((q + 1 : Nat) : Int), .int .i64 ((nn : Nat) : Int), .int .u32 ((ge : Nat) : Int)] : List Value).toArray)] _
 refine C_seq fun K1 hK1 => C_region <| R_lo (lo_box (L := [.int .i64 ((q + 1 : Nat) : Int), .int .i64 ((nn : Nat) : Int), .int .u32 ((ge : Nat) : Int)]) rfl rfl) rfl ?_
 rintro _ w1 ⟨p0_0, rfl, N1⟩
 have k1 := N1.kp
 have kk1 := kk0.then_ k1
 have f_p0_0_1 := N1.bk
 exact Rp (pu_assign rfl) <| R_nil <| X_then hK1 <| C_seq fun K2 hK2 => C_seq fun K3 hK3 => C_region <| Rp (pu_fieldAddr (off := 0) (o' := 0) (by kernel_rfl) rfl rfl) <| Rp (pu_loadK f_p0_0_1 (by kernel_rfl) rfl rfl) <| Rp (pu_false (pu_lss (p := (q + 1) < 2) rfl rfl (by omega)) (by omega)) <| Rp (pu_move rfl) <| Rg (pu_fieldAddr (off := 0) (o' := 0) (by kernel_rfl) rfl rfl) <| Rg (pu_loadK f_p0_0_1 (by kernel_rfl) rfl rfl) <| Rg (pu_fieldAddr (off := 1) (o' := 1) (by kernel_rfl) rfl rfl) <| Rg (pu_loadK f_p0_0_1 (by kernel_rfl) rfl rfl) <| Rg (pu_false (pu_gtr (p := (q + 1) > nn) rfl rfl (by omega)) (by omega)) <| Rp (pu_pickf rfl rfl) <| Rp (pu_move rfl) <| Rg (pu_fieldAddr (off := 1) (o' := 1) (by kernel_rfl) rfl rfl) <| Rg (pu_loadK f_p0_0_1 (by kernel_rfl) rfl rfl) <| Rg (pu_false (pu_gtr (p := nn > 255) rfl rfl (by omega)) (by omega)) <| Rp (pu_pickf rfl rfl) <| R_nil <| X_then hK3 <| C_false rfl <| C_skip <| X_then hK2 <| C_seq fun K4 hK4 => C_region <| Rp (pu_assign rfl) <| R_nil <| X_then hK4 <| C_ret <| X_ret1 (.inl rfl) rfl rfl ⟨rfl, kk1⟩
theorem shamir_sized (n : Nat) (w : World)  : Ret Tryz.prog 49 #[.int .i64 ((n : Nat) : Int)] w (fun v w' => v = .bool (decide (1 ≤ n ∧ n ≤ 64)) ∧ Kp No w w') := by
 have kk0 := Kp.refl No w
 refine enter (n := 9) [.int .i64 ((n : Nat) : Int)] Tryz.func49 rfl rfl rfl ?_
 show Cw _ _ _ _ [(0, .int .i64 ((n : Nat) : Int))] _
 refine C_seq fun K1 hK1 => C_region <| Rp (pu_assign rfl) <| R_nil <| X_then hK1 <| C_seq fun K2 hK2 => C_region <| Rp (pu_move rfl) <| Rp (pu_geq (p := n ≥ 1) rfl rfl (by omega)) ?_
 by_cases g1_2 : n ≥ 1
 ·
  exact Rp (pu_true (pu_move rfl) g1_2) <| Rg (pu_move rfl) <| Rg (pu_leq (p := n ≤ 64) rfl rfl (by omega)) <| Rp (pu_pickt rfl rfl) <| Rp (pu_assign rfl) <| R_nil <| X_then hK2 <| C_ret <| X_ret1 (.inl rfl) rfl rfl ⟨congrArg Value.bool (decide_eq_decide.2 (by omega)), kk0⟩
 ·
  exact Rp (pu_false (pu_move rfl) g1_2) <| R_gno rfl rfl rfl rfl <| R_gno rfl rfl rfl rfl <| Rp (pu_pickf rfl rfl) <| Rp (pu_assign rfl) <| R_nil <| X_then hK2 <| C_ret <| X_ret1 (.inl rfl) rfl rfl ⟨congrArg Value.bool (decide_eq_false (by omega)).symm, kk0⟩
theorem shamir_draws_yes (q nn ge n : Nat) (w : World) (hP : 2 ≤ q + 1 ∧ q + 1 ≤ nn ∧ nn ≤ 255) (hs : 1 ≤ n ∧ n ≤ 64) : Ret Tryz.prog 50 #[.agg ([.int .i64 ((q + 1 : Nat) : Int), .int .i64 ((nn : Nat) : Int), .int .u32 ((ge : Nat) : Int)] : List Value).toArray, .int .i64 ((n : Nat) : Int)] w (fun v w' => v = .int .i64 ((q * n : Nat) : Int) ∧ Kp No w w') := by
 have kk0 := Kp.refl No w
 refine enter (n := 18) [.agg ([.int .i64 ((q + 1 : Nat) : Int), .int .i64 ((nn : Nat) : Int), .int .u32 ((ge : Nat) : Int)] : List Value).toArray, .int .i64 ((n : Nat) : Int)] Tryz.func50 rfl rfl rfl ?_
 show Cw _ _ _ _ [(0, .agg ([.int .i64 ((q + 1 : Nat) : Int), .int .i64 ((nn : Nat) : Int), .int .u32 ((ge : Nat) : Int)] : List Value).toArray), (1, .int .i64 ((n : Nat) : Int))] _
 refine C_seq fun K1 hK1 => C_region <| R_lo (lo_box (L := [.int .i64 ((q + 1 : Nat) : Int), .int .i64 ((nn : Nat) : Int), .int .u32 ((ge : Nat) : Int)]) rfl rfl) rfl ?_
 rintro _ w1 ⟨p0_0, rfl, N1⟩
 have k1 := N1.kp
 have kk1 := kk0.then_ k1
 have f_p0_0_1 := N1.bk
 refine Rp (pu_assign rfl) <| R_nil <| X_then hK1 <| C_seq fun K2 hK2 => C_seq fun K3 hK3 => C_region <| Rp (pu_loadRow (len := 3) f_p0_0_1 (by kernel_rfl) (by kernel_rfl) rfl rfl) <| R_lo (lo_call (by kernel_rfl) rfl (shamir_check_yes q nn ge _ hP)) rfl ?_
 rintro _ w2 ⟨rfl, k2⟩
 have kk2 := kk1.then_ k2
 refine Rp (pu_neqnn (by kernel_rfl) rfl) <| Rp (pu_move rfl) <| Rg (pu_move rfl) <| R_glo rfl rfl (lo_call (by kernel_rfl) rfl (shamir_sized n _)) rfl ?_
 rintro _ w3 ⟨rfl, k3⟩
 have kk3 := kk2.then_ k3
 refine Rg (pu_false (pu_notd rfl) (by omega)) <| Rp (pu_pickf rfl rfl) <| R_nil <| X_then hK3 <| C_false rfl <| C_skip <| X_then hK2 <| C_seq (fun K4 hK4 => ?_)
 have hm : q * n ≤ 16256 := mul_most rfl (by omega) (by omega)
 refine C_region <| Rp (pu_fieldAddr (off := 0) (o' := 0) (by kernel_rfl) rfl rfl) ?_
 have f5 := ((f_p0_0_1.no k2).no k3)
 exact Rp (pu_loadK f5 (by kernel_rfl) rfl rfl) <| Rp (pu_sub (z := ((q : Nat) : Int)) rfl rfl (by rw [IntKind.wrap_i64]; omega)) <| Rp (pu_move rfl) <| Rp (pu_mul (z := ((q * n : Nat) : Int)) rfl rfl (mul_i64 (by omega))) <| Rp (pu_assign rfl) <| R_nil <| X_then hK4 <| C_ret <| X_ret1 (.inl rfl) rfl rfl ⟨rfl, kk3⟩
theorem shamir_part (b : Nat) (A : Option Addr) (l : List Nat) (c q nn ge : Nat) (A2 : Option Addr) (d2 : List Nat) (c2 x : Nat) (w : World) (hP : (1 ≤ q ∧ q ≤ 254) ∧ (1 ≤ l.length ∧ l.length ≤ 64) ∧ d2.length = q * l.length) (HB : Bs w A l) (hc : l.length ≤ c) (HB2 : Bs w A2 d2) (hc2 : d2.length ≤ c2) (hx : x < 256) (hge : ge < 4294967296) (aw_HB : Aw (On b) A l) (aw_HB2 : Aw (On b) A2 d2) (hT : Tb w b) : Ret Tryz.prog 51 #[.pointer (some ⟨b, 0, none⟩), .slice A (l.length) (c), .agg ([.int .i64 ((q + 1 : Nat) : Int), .int .i64 ((nn : Nat) : Int), .int .u32 ((ge : Nat) : Int)] : List Value).toArray, .slice A2 (d2.length) (c2), .int .u8 ((x : Nat) : Int)] w (fun v w' => ∃ A c, v = .agg (shC ⟨x, ge, A, ptX l d2 q x, c⟩).toArray ∧ Ob w' w.heap.size (.slice A (ptX l d2 q x).length c) (ptX l d2 q x) ∧ Tb w' b ∧ Kp (On b) w w') := by
 have hd := mul_most hP.2.2 hP.1.2 hP.2.1.2
 have kk0 := Kp.refl (On b) w
 refine enter (n := 56) [.pointer (some ⟨b, 0, none⟩), .slice A (l.length) (c), .agg ([.int .i64 ((q + 1 : Nat) : Int), .int .i64 ((nn : Nat) : Int), .int .u32 ((ge : Nat) : Int)] : List Value).toArray, .slice A2 (d2.length) (c2), .int .u8 ((x : Nat) : Int)] Tryz.func51 rfl rfl rfl ?_
 show Cw _ _ _ _ [(0, .pointer (some ⟨b, 0, none⟩)), (1, .slice A (l.length) (c)), (2, .agg ([.int .i64 ((q + 1 : Nat) : Int), .int .i64 ((nn : Nat) : Int), .int .u32 ((ge : Nat) : Int)] : List Value).toArray), (3, .slice A2 (d2.length) (c2)), (4, .int .u8 ((x : Nat) : Int))] _
 refine C_seq fun K1 hK1 => C_region <| R_lo (lo_box (L := [.int .i64 ((q + 1 : Nat) : Int), .int .i64 ((nn : Nat) : Int), .int .u32 ((ge : Nat) : Int)]) rfl rfl) rfl ?_
 rintro _ w1 ⟨p0_0, rfl, N1⟩
 have k1 := N1.kp
 have kk1 := kk0.thenNo k1
 have ne_p0_0_b := Nat.ne_of_gt (Nat.lt_of_lt_of_le hT.lt N1.le)
 have f_p0_0_1 := N1.bk
 have o2 := (hT.no k1)
 refine R_lo (lo_alloc (L := [.int .u8 0, .int .u32 0, .slice none (0) (0)]) (by kernel_rfl)) rfl ?_
 rintro _ w2 ⟨p0_1, rfl, N2⟩
 have k2 := N2.kp
 have kk2 := kk1.thenNo k2
 have ne_p0_1_b := Nat.ne_of_gt (Nat.lt_of_lt_of_le o2.lt N2.le)
 have f_p0_1_2 := N2.bk
 refine R_nil <| X_then hK1 <| C_seq (fun K3 hK3 => ?_)
 have f4 := (f_p0_0_1.no k2)
 have o5 := (o2.no k2)
 refine D_begin (fun W => Kp (On b) w W ∧ Bk W p0_0 ([.int .i64 ((q + 1 : Nat) : Int), .int .i64 ((nn : Nat) : Int), .int .u32 ((ge : Nat) : Int)]) 34 ∧ Bk W p0_1 ([.int .u8 0, .int .u32 0, .slice none (0) (0)]) 51 ∧ Tb W b) 9 rfl (by kernel_rfl) ⟨kk2.drew, f4.draw, f_p0_1_2.draw, o5.draw⟩ ?_
 intro w3 k3 _
 have kk3 := kk2.thenNo k3
 refine Dt 0 rfl (fun W hS => pu_move rfl) <| Dt 1 rfl (fun W hS => pu_fieldAddr (off := 2) (o' := 2) (by kernel_rfl) rfl rfl) <| Dt 2 rfl (fun W hS => pu_loadK hS.2.1 (by kernel_rfl) rfl rfl) <| Dt 3 rfl (fun W hS => pu_move rfl) <| Dt 4 rfl (fun W hS => pu_len Tryz.underlying22 rfl) <| D_two 5 7 (by kernel_rfl) ?_ ?_
 ·
  have f6 : Bk w3 p0_0 ([.int .i64 ((q + 1 : Nat) : Int), .int .i64 ((nn : Nat) : Int), .int .u32 ((ge : Nat) : Int)]) 34 := (f4.no k3)
  have f7 := (f_p0_1_2.no k3)
  have o8 := (o5.no k3)
  refine Nx_lo rfl (lo_make (z := .int .u8 0) (bytes := 1) (ln := 0) (cp := l.length) Tryz.underlying22 (by kernel_rfl) rfl rfl rfl rfl rfl (by omega) (by omega) (by omega)) rfl ?_
  rintro _ w4 ⟨d, rfl, N4⟩
  have k4 := N4.kp
  have kk4 := kk3.thenNo k4
  have ne_d_p0_0 := Nat.ne_of_gt (Nat.lt_of_lt_of_le f6.lt N4.le)
  have ne_d_p0_1 := Nat.ne_of_gt (Nat.lt_of_lt_of_le f7.lt N4.le)
  have ne_d_b := Nat.ne_of_gt (Nat.lt_of_lt_of_le o8.lt N4.le)
  have f_d_4 : Bk w4 d (u8s (List.replicate l.length 0)) 5 := by rw [u8s_rep]; exact N4.bk
  have f9 := (f6.no k4)
  have f10 := (f7.no k4)
  have o11 := (o8.no k4)
  refine ⟨⟨kk4, f9, f10, o11⟩, ?_⟩
  refine Dt 6 rfl (fun W hS => pu_build (L := [.int .u8 ((x : Nat) : Int), .int .u32 ((ge : Nat) : Int), .slice (some ⟨d, 0, none⟩) (0) (l.length)]) rfl (by kernel_rfl)) <| D_one 7 (by kernel_rfl) (Nx_lo rfl (lo_alloc (L := [.int .u8 0, .int .u32 0, .slice none (0) (0)]) (by kernel_rfl)) rfl ?_)
  rintro _ w5 ⟨s, rfl, N5⟩
  have k5 := N5.kp
  have kk5 := kk4.thenNo k5
  have ne_s_p0_0 := Nat.ne_of_gt (Nat.lt_of_lt_of_le f9.lt N5.le)
  have ne_s_p0_1 := Nat.ne_of_gt (Nat.lt_of_lt_of_le f10.lt N5.le)
  have ne_s_d := Nat.ne_of_gt (Nat.lt_of_lt_of_le f_d_4.lt N5.le)
  have ne_s_b := Nat.ne_of_gt (Nat.lt_of_lt_of_le o11.lt N5.le)
  have f_s_5 := N5.bk
  have f12 := (f9.no k5)
  have f13 := (f10.no k5)
  have o14 := (o11.no k5)
  refine ⟨⟨kk5, f12, f13, o14⟩, ?_⟩
  refine D_one 8 (by kernel_rfl) (Nx_lo0 rfl (lo_storeRow (C := [.int .u8 ((x : Nat) : Int), .int .u32 ((ge : Nat) : Int), .slice (some ⟨d, 0, none⟩) (0) (l.length)]) f_s_5 (by kernel_rfl) rfl rfl (by intro u hu; simp at hu; rcases hu with rfl | rfl | rfl <;> rfl) rfl) ?_)
  rintro _ w6 kf6
  obtain ⟨k6, f_s_6⟩ := kf6
  replace f_s_6 : Bk w6 s ([.int .u8 ((x : Nat) : Int), .int .u32 ((ge : Nat) : Int), .slice (some ⟨d, 0, none⟩) (0) (l.length)]) 51 := f_s_6
  have kk6 := kk5.trans k6 (fun i hi => .inr (hi ▸ (Nat.le_trans kk4.size N5.le)))
  have f15 := (f12.on k6 (Ne.symm ne_s_p0_0))
  have f16 := (f13.on k6 (Ne.symm ne_s_p0_1))
  have o17 := (o14.on k6 (Ne.symm ne_s_b))
  refine ⟨⟨kk6, f15, f16, o17⟩, ?_⟩
  refine D_done (by kernel_rfl) <| X_then hK3 <| C_seq (fun K18 hK18 => ?_)
  have f19 := ((f_d_4.no k5).on k6 (Ne.symm ne_s_d))
  have ob0 : Ob w6 w.heap.size (.slice (some ⟨d, 0, none⟩) ([] : List Nat).length l.length) [] := Ob.of_block (base := w.heap.size) (k := 0) f19 (Nat.le_trans kk3.size N4.le) (List.length_replicate ..) (by unfold maxLen; omega) (fun n hn => by rw [(List.mem_replicate.1 hn).2]; decide) (Nat.zero_le _)
  refine C_region <| Rp (pu_fieldAddr (off := 0) (o' := 0) (by kernel_rfl) rfl rfl) <| Rp (pu_loadK f15 (by kernel_rfl) rfl rfl) <| R_lo (lo_make (z := .int .u8 0) (bytes := 1) (ln := q + 1) (cp := q + 1) Tryz.underlying22 (by kernel_rfl) rfl rfl rfl rfl rfl (by omega) (by omega) (by omega)) rfl ?_
  rintro _ w7 ⟨p, rfl, N7⟩
  have k7 := N7.kp
  have kk7 := kk6.thenNo k7
  have ne_p_p0_0 := Nat.ne_of_gt (Nat.lt_of_lt_of_le f15.lt N7.le)
  have ne_p_p0_1 := Nat.ne_of_gt (Nat.lt_of_lt_of_le f16.lt N7.le)
  have ne_p_s := Nat.ne_of_gt (Nat.lt_of_lt_of_le f_s_6.lt N7.le)
  have ne_p_b := Nat.ne_of_gt (Nat.lt_of_lt_of_le o17.lt N7.le)
  have ne_p_d := ob0.ne N7.le
  have f_p_7 : Bk w7 p (u8s (List.replicate (q + 1) 0)) 5 := by rw [u8s_rep]; exact N7.bk
  refine Rp (pu_assign rfl) <| R_nil <| X_then hK18 <| C_seq fun K20 hK20 => C_seq fun K21 hK21 => C_region <| Rp (pu_move rfl) <| Rp (pu_len Tryz.underlying22 rfl) <| Rp (pu_move rfl) <| R_nil <| X_then hK21 <| C_block ?_
  have f22 := (f15.no k7)
  have f23 := (f16.no k7)
  have f24 := (f_s_6.no k7)
  have ob25 := (ob0.keptNo k7)
  have o26 := (o17.no k7)
  refine C_loop (fun m_ l_ wr => ∃ i : Nat, ∃ cc : List Nat, (m_ = l.length - i) ∧ (l_ = [(0, .pointer (some ⟨b, 0, none⟩)), (3, .slice A2 (d2.length) (c2)), (4, .int .u8 ((x : Nat) : Int)), (7, .pointer (some ⟨p0_0, 0, none⟩)), (10, .pointer (some ⟨p0_1, 0, none⟩)), (11, .pointer (some ⟨s, 0, none⟩)), (12, .slice (some ⟨p, 0, none⟩) (q + 1) (q + 1)), (25, .slice A (l.length) (c)), (26, .int .i64 ((l.length : Nat) : Int)), (27, .int .i64 ((i : Nat) : Int))]) ∧ (i ≤ l.length) ∧ (By (q + 1) cc) ∧ (Kp (On b) w wr) ∧ (Bk wr p0_0 ([.int .i64 ((q + 1 : Nat) : Int), .int .i64 ((nn : Nat) : Int), .int .u32 ((ge : Nat) : Int)]) 34) ∧ (Bk wr p0_1 ([.int .u8 0, .int .u32 0, .slice none (0) (0)]) 51) ∧ (Bk wr s ([.int .u8 ((x : Nat) : Int), .int .u32 ((ge : Nat) : Int), .slice (some ⟨d, 0, none⟩) ((ptT l d2 q x i).length) (l.length)]) 51) ∧ (Bk wr p (u8s cc) 5) ∧ (Ob wr w.heap.size (.slice (some ⟨d, 0, none⟩) (ptT l d2 q x i).length l.length) (ptT l d2 q x i) ∧ w.heap.size ≤ (wr).heap.size) ∧ (Tb wr b)) (l.length - 0) [(0, .pointer (some ⟨b, 0, none⟩)), (3, .slice A2 (d2.length) (c2)), (4, .int .u8 ((x : Nat) : Int)), (7, .pointer (some ⟨p0_0, 0, none⟩)), (10, .pointer (some ⟨p0_1, 0, none⟩)), (11, .pointer (some ⟨s, 0, none⟩)), (12, .slice (some ⟨p, 0, none⟩) (q + 1) (q + 1)), (25, .slice A (l.length) (c)), (26, .int .i64 ((l.length : Nat) : Int)), (27, .int .i64 0)] (Sub.cons rfl (Sub.cons rfl (Sub.cons rfl (Sub.cons rfl (Sub.cons rfl (Sub.cons rfl (Sub.cons rfl (Sub.cons rfl (Sub.cons rfl (Sub.cons rfl (Sub.nil _))))))))))) ⟨0, List.replicate (q + 1) 0, rfl, rfl, by omega, (rep_by (q + 1)), kk7, f22, f23, Bk.eq f24 rfl, Bk.eq f_p_7 (congrArg u8s rfl), ⟨by exact ob25, (Nat.le_trans kk6.size k7.size)⟩, o26⟩ ?_
  rintro _ _ w8 ⟨i, cc, rfl, rfl, hi, hcc, kk8, f_p0_0_8, f_p0_1_8, f_s_8, f_p_8, n_8, T_8⟩
  refine C_seq fun K27 hK27 => C_region <| Rp (pu_lss (p := i < l.length) rfl rfl (by omega)) <| R_nil <| X_then hK27 <| C_seq fun K28 hK28 => C_dec rfl (fun h28 => ?_) (fun h28 => ?_)
  ·
   refine C_skip <| X_then hK28 <| C_seq fun K29 hK29 => C_block <| C_seq fun K30 hK30 => C_region <| Rp (pu_move rfl) <| Rp (pu_indexAddrB (m := i) (HB.keptS kk8 aw_HB) Tryz.underlying22 (by kernel_rfl) rfl rfl rfl rfl (by omega)) ?_
   obtain ⟨n, e_n⟩ : ∃ q_, (l)[i]? = some q_ := ⟨_, List.getElem?_eq_getElem (by omega)⟩
   have b_n : n < 256 := ((HB.keptS kk8 aw_HB)).lt e_n
   refine Rp (pu_loadB (HB.keptS kk8 aw_HB) (by kernel_rfl) rfl e_n) <| Rp (pu_assign rfl) <| Rp (pu_assign rfl) <| R_nil <| X_then hK30 <| C_seq fun K31 hK31 => C_region <| Rp (pu_move rfl) <| Rp (pu_move rfl) <| Rp (pu_indexAddrP (m := 0) (s := 1) (o' := 0) Tryz.underlying22 (by kernel_rfl) rfl rfl rfl (by omega) (by omega)) <| R_lo0 (lo_store f_p_8 (by kernel_rfl) rfl rfl rfl (by rw [u8s_length, hcc.1]; omega)) ?_
   rintro _ w9 kf9
   obtain ⟨k9, f_p_9⟩ := kf9
   replace f_p_9 := Bk.eq f_p_9 (u8s_set _ _ n)
   replace f_p_9 : Bk w9 p (u8s (cc.set 0 n)) 5 := f_p_9
   have kk9 := kk8.trans k9 (fun i hi => .inr (hi ▸ (Nat.le_trans kk6.size N7.le)))
   refine R_nil <| X_then hK31 <| C_seq (fun K32 hK32 => ?_)
   have hf := mul_fit (show i < l.length by omega) hP.2.2
   have f33 := (f_p0_0_8.on k9 (Ne.symm ne_p_p0_0))
   have f34 := (f_p0_1_8.on k9 (Ne.symm ne_p_p0_1))
   have f35 := (f_s_8.on k9 (Ne.symm ne_p_s))
   have o36 := (T_8.on k9 (Ne.symm ne_p_b))
   refine D_begin (fun W => Kp (On b) w W ∧ Bk W p0_0 ([.int .i64 ((q + 1 : Nat) : Int), .int .i64 ((nn : Nat) : Int), .int .u32 ((ge : Nat) : Int)]) 34 ∧ Bk W p0_1 ([.int .u8 0, .int .u32 0, .slice none (0) (0)]) 51 ∧ Bk W s ([.int .u8 ((x : Nat) : Int), .int .u32 ((ge : Nat) : Int), .slice (some ⟨d, 0, none⟩) ((ptT l d2 q x i).length) (l.length)]) 51 ∧ Tb W b) 10 rfl (by kernel_rfl) ⟨kk9.drew, f33.draw, f34.draw, f35.draw, o36.draw⟩ ?_
   intro w10 k10 _
   have kk10 := kk9.thenNo k10
   refine Dt 0 rfl (fun W hS => pu_move rfl) <| Dt 1 rfl (fun W hS => pu_sliceLoP (lo := 1) (s := 1) Tryz.underlying22 (by kernel_rfl) rfl rfl rfl (by omega) (by omega) (by omega)) <| Dt 2 rfl (fun W hS => pu_move rfl) <| Dt 3 rfl (fun W hS => pu_move rfl) <| Dt 4 rfl (fun W hS => pu_fieldAddr (off := 0) (o' := 0) (by kernel_rfl) rfl rfl) <| Dt 5 rfl (fun W hS => pu_loadK hS.2.1 (by kernel_rfl) rfl rfl) <| Dt 6 rfl (fun W hS => pu_sub (z := ((q : Nat) : Int)) rfl rfl (by rw [IntKind.wrap_i64]; omega)) <| Dt 7 rfl (fun W hS => pu_mul (z := ((i * q : Nat) : Int)) rfl rfl (mul_i64 (by omega))) ?_
   have HB2c37 := Bs.cut HB2 hc2 (i * q)
   have aw_HB2c37 := Aw.cut aw_HB2 (i * q) c2 1
   refine Dt 8 rfl (fun W hS => pu_sliceLo (lo := i * q) (s := 1) Tryz.underlying22 (by kernel_rfl) rfl rfl rfl (by omega) (by have := hc2; omega)) ?_
   have f38 := (f_p_9.no k10)
   refine D_one 9 (by kernel_rfl) (Nx_lo rfl (lo_copy (m' := q) f38 rfl rfl (HB2c37.keptS kk10 aw_HB2c37) List.length_drop (by rw [List.length_drop]; omega) (by omega) (by rw [(by_set hcc b_n).1]; omega)) rfl ?_)
   rintro _ w11 kg11
   obtain ⟨rfl, kf11⟩ := kg11
   obtain ⟨k11, f_p_11⟩ := kf11
   replace f_p_11 := Bk.eq f_p_11 (congrArg u8s (cw_eq hcc.1))
   replace f_p_11 : Bk w11 p (u8s (n :: (d2.drop (i * q)).take q)) 5 := f_p_11
   have kk11 := kk10.trans k11 (fun i hi => .inr (hi ▸ (Nat.le_trans kk6.size N7.le)))
   have f39 := ((f33.no k10).on k11 (Ne.symm ne_p_p0_0))
   have f40 := ((f34.no k10).on k11 (Ne.symm ne_p_p0_1))
   have f41 := ((f35.no k10).on k11 (Ne.symm ne_p_s))
   have o42 := ((o36.no k10).on k11 (Ne.symm ne_p_b))
   refine ⟨⟨kk11, f39, f40, f41, o42⟩, ?_⟩
   refine D_done (by kernel_rfl) <| X_then hK32 <| Z_begin (fun W => Kp (On b) w W ∧ Bk W p0_0 ([.int .i64 ((q + 1 : Nat) : Int), .int .i64 ((nn : Nat) : Int), .int .u32 ((ge : Nat) : Int)]) 34 ∧ Bk W p0_1 ([.int .u8 0, .int .u32 0, .slice none (0) (0)]) 51 ∧ Bk W s ([.int .u8 ((x : Nat) : Int), .int .u32 ((ge : Nat) : Int), .slice (some ⟨d, 0, none⟩) ((ptT l d2 q x i).length) (l.length)]) 51 ∧ Bk W p (u8s (n :: (d2.drop (i * q)).take q)) 5 ∧ Tb W b) 9 10 rfl (by kernel_rfl) ⟨kk11.drew, f39.draw, f40.draw, f41.draw, f_p_11.draw, o42.draw⟩ ?_
   intro w12 k12 _
   have kk12 := kk11.thenNo k12
   refine Z_take 0 rfl (by kernel_rfl) (by kernel_rfl) (by kernel_rfl) (by kernel_rfl) (by kernel_rfl) (fun _ _ _ h => h) rfl (fun W hS => pu_fieldAddr (off := 2) (o' := 2) (by kernel_rfl) rfl rfl) <| Z_take 1 rfl (by kernel_rfl) (by kernel_rfl) (by kernel_rfl) (by kernel_rfl) (by kernel_rfl) (fun _ _ _ h => h) rfl (fun W hS => pu_loadK hS.2.2.2.1 (by kernel_rfl) rfl rfl) <| Z_take 2 rfl (by kernel_rfl) (by kernel_rfl) (by kernel_rfl) (by kernel_rfl) (by kernel_rfl) (fun _ _ _ h => h) rfl (fun W hS => pu_move rfl) <| Z_take 3 rfl (by kernel_rfl) (by kernel_rfl) (by kernel_rfl) (by kernel_rfl) (by kernel_rfl) (fun _ _ _ h => h) rfl (fun W hS => pu_move rfl) <| Z_take 4 rfl (by kernel_rfl) (by kernel_rfl) (by kernel_rfl) (by kernel_rfl) (by kernel_rfl) (fun _ _ _ h => h) rfl (fun W hS => pu_move rfl) ?_
   have f43 := (f_p_11.no k12)
   have o44 := (o42.no k12)
   refine Z_one 5 (by kernel_rfl) (Nz_lo rfl (lo_callE (by kernel_rfl) rfl (by rw [(coef_by b_n HB2.byte hf).1] <;> rfl) (poly_eval b (some ⟨p, 0, none⟩) (n :: (d2.drop (i * q)).take q) (q + 1) x hx _ (Bs.ofBk f43 (coef_by b_n HB2.byte hf)) (Nat.le_of_eq (coef_by b_n HB2.byte hf).1) (by have hbl_ := (coef_by b_n HB2.byte hf).1; omega) (Aw.ofBk ne_p_b) o44)) rfl ?_)
   rintro _ w13 ⟨rfl, T13, k13⟩
   have kk13 := kk12.trans k13 (fun i hi => .inl hi)
   have f45 := ((f39.no k12).on k13 ne_p0_0_b)
   have f46 := ((f40.no k12).on k13 ne_p0_1_b)
   have f47 := ((f41.no k12).on k13 ne_s_b)
   have f48 := (f43.on k13 ne_p_b)
   refine ⟨⟨kk13, f45, f46, f47, f48, T13⟩, ?_⟩
   have ob49 := (((((n_8.1.onF k9 (Ne.symm ne_p_d)).keptNo k10).onF k11 (Ne.symm ne_p_d)).keptNo k12).onF k13 ne_d_b)
   refine Z_one 6 (by kernel_rfl) (Nz_lo rfl (lo_buildSlice (L := u8s ([hE (n :: (d2.drop (i * q)).take q) x])) Tryz.underlying22 rfl (by kernel_rfl)) rfl ?_)
   rintro _ w14 ⟨p8_6, rfl, N14⟩
   have k14 := N14.kp
   have kk14 := kk13.thenNo k14
   have ne_p8_6_p0_0 := Nat.ne_of_gt (Nat.lt_of_lt_of_le f45.lt N14.le)
   have ne_p8_6_p0_1 := Nat.ne_of_gt (Nat.lt_of_lt_of_le f46.lt N14.le)
   have ne_p8_6_s := Nat.ne_of_gt (Nat.lt_of_lt_of_le f47.lt N14.le)
   have ne_p8_6_p := Nat.ne_of_gt (Nat.lt_of_lt_of_le f48.lt N14.le)
   have ne_p8_6_b := Nat.ne_of_gt (Nat.lt_of_lt_of_le T13.lt N14.le)
   have ne_p8_6_d := ob49.ne N14.le
   have f_p8_6_14 := N14.bk
   have f50 := (f45.no k14)
   have f51 := (f46.no k14)
   have f52 := (f47.no k14)
   have f53 := (f48.no k14)
   have o54 := (T13.no k14)
   refine ⟨⟨kk14, f50, f51, f52, f53, o54⟩, ?_⟩
   have ob55 := (ob49.keptNo k14)
   refine Z_one 7 (by kernel_rfl) (Nz_lo rfl (lo_appFit (X := ptT l d2 q x i) (Y := [hE (n :: (d2.drop (i * q)).take q) x]) ob55 ob55.le.1 rfl rfl (show By 1 [hE (n :: (d2.drop (i * q)).take q) x] from ⟨rfl, fun n hn => by rw [List.mem_singleton.1 hn]; exact (hE_lt ((Bs.ofBk f43 (coef_by b_n HB2.byte hf))).byte _)⟩).1 (Bs.ofBk f_p8_6_14 (show By 1 [hE (n :: (d2.drop (i * q)).take q) x] from ⟨rfl, fun n hn => by rw [List.mem_singleton.1 hn]; exact (hE_lt ((Bs.ofBk f43 (coef_by b_n HB2.byte hf))).byte _)⟩)) (by simp) (by rw [ptT_length]; simp; omega)) rfl ?_)
   rintro _ w15 ⟨rfl, q15, k15⟩
   have kk15 := kk14.trans k15 (fun i hi => .inr (hi ▸ (Nat.le_trans kk3.size N4.le)))
   have f56 := (f50.on k15 (Ne.symm ne_d_p0_0))
   have f57 := (f51.on k15 (Ne.symm ne_d_p0_1))
   have f58 := (f52.on k15 ne_s_d)
   have f59 := (f53.on k15 ne_p_d)
   have o60 := (o54.on k15 (Ne.symm ne_d_b))
   refine ⟨⟨kk15, f56, f57, f58, f59, o60⟩, ?_⟩
   refine Z_take 8 rfl (by kernel_rfl) (by kernel_rfl) (by kernel_rfl) (by kernel_rfl) (by kernel_rfl) (fun _ _ _ h => h) rfl (fun W hS => pu_fieldAddr (off := 2) (o' := 2) (by kernel_rfl) rfl rfl) <| Z_last 9 (by kernel_rfl) rfl (by kernel_rfl) (by kernel_rfl) (lo_store f58 (by kernel_rfl) rfl rfl rfl (show 2 < 3 by decide)) ?_
   rintro _ w16 kf16
   obtain ⟨k16, f_s_16⟩ := kf16
   replace f_s_16 : Bk w16 s ([.int .u8 ((x : Nat) : Int), .int .u32 ((ge : Nat) : Int), .slice (some ⟨d, 0, none⟩) (((ptT l d2 q x i) ++ ([hE (n :: (d2.drop (i * q)).take q) x])).length) (l.length)]) 51 := f_s_16
   have kk16 := kk15.trans k16 (fun i hi => .inr (hi ▸ (Nat.le_trans kk4.size N5.le)))
   refine X_in_normal <| X_then hK29 <| C_region <| Rp (pu_add (z := ((i + 1 : Nat) : Int)) rfl rfl (by rw [IntKind.wrap_i64]; omega)) <| Rp (pu_move rfl) <| R_nil ?_
   have f61 := (f56.on k16 (Ne.symm ne_s_p0_0))
   have f62 := (f57.on k16 (Ne.symm ne_s_p0_1))
   have f63 := (f59.on k16 ne_p_s)
   have ob64 := (q15.onF k16 (Ne.symm ne_s_d))
   have o65 := (o60.on k16 (Ne.symm ne_s_b))
   refine X_round (l.length - (i + 1)) [(0, .pointer (some ⟨b, 0, none⟩)), (3, .slice A2 (d2.length) (c2)), (4, .int .u8 ((x : Nat) : Int)), (7, .pointer (some ⟨p0_0, 0, none⟩)), (10, .pointer (some ⟨p0_1, 0, none⟩)), (11, .pointer (some ⟨s, 0, none⟩)), (12, .slice (some ⟨p, 0, none⟩) (q + 1) (q + 1)), (25, .slice A (l.length) (c)), (26, .int .i64 ((l.length : Nat) : Int)), (27, .int .i64 (((i + 1) : Nat) : Int))] (by omega) (Sub.cons rfl (Sub.cons rfl (Sub.cons rfl (Sub.cons rfl (Sub.cons rfl (Sub.cons rfl (Sub.cons rfl (Sub.cons rfl (Sub.cons rfl (Sub.cons rfl (Sub.nil _))))))))))) ⟨i + 1, n :: (d2.drop (i * q)).take q, rfl, rfl, by omega, (coef_by b_n HB2.byte hf), kk16, f61, f62, Bk.eq f_s_16 (by rw [ptT_snoc e_n]), f63, ⟨by rw [← ptT_snoc e_n]; exact ob64, (Nat.le_trans (Nat.le_trans (Nat.le_trans (Nat.le_trans (Nat.le_trans (Nat.le_trans (Nat.le_trans (Nat.le_trans n_8.2 k9.size) k10.size) k11.size) k12.size) k13.size) k14.size) k15.size) k16.size)⟩, o65⟩
  ·
   refine C_exit <| X_then_exit (X_then_exit (X_in_eq ?_))
   refine X_then hK20 <| C_seq fun K66 hK66 => C_region <| Rp (pu_loadRow (len := 3) f_s_8 (by kernel_rfl) (by kernel_rfl) rfl rfl) <| R_lo0 (lo_storeRow (C := [.int .u8 ((x : Nat) : Int), .int .u32 ((ge : Nat) : Int), .slice (some ⟨d, 0, none⟩) ((ptT l d2 q x i).length) (l.length)]) f_p0_1_8 (by kernel_rfl) rfl rfl (by intro u hu; simp at hu; rcases hu with rfl | rfl | rfl <;> rfl) rfl) ?_
   rintro _ w17 kf17
   obtain ⟨k17, f_p0_1_17⟩ := kf17
   replace f_p0_1_17 : Bk w17 p0_1 ([.int .u8 ((x : Nat) : Int), .int .u32 ((ge : Nat) : Int), .slice (some ⟨d, 0, none⟩) ((ptT l d2 q x i).length) (l.length)]) 51 := f_p0_1_17
   have kk17 := kk8.trans k17 (fun i hi => .inr (hi ▸ (Nat.le_trans kk1.size N2.le)))
   refine R_nil <| X_then hK66 <| C_ret ?_
   have ob67 := (n_8.1.onF k17 ne_d_p0_1)
   have o68 := (T_8.on k17 (Ne.symm ne_p0_1_b))
   exact X_retRow (len := 3) (.inl rfl) rfl rfl f_p0_1_17 (by kernel_rfl) (by kernel_rfl) rfl ⟨_, _, by rw [show i = l.length by omega]; rfl, by rw [show ptX l d2 q x = ptT l d2 q x i by rw [show i = l.length by omega]; rfl]; exact ob67, o68, kk17⟩
 ·
  have f69 : Bk w3 p0_0 ([.int .i64 ((q + 1 : Nat) : Int), .int .i64 ((nn : Nat) : Int), .int .u32 ((ge : Nat) : Int)]) 34 := (f4.no k3)
  have f70 := (f_p0_1_2.no k3)
  have o71 := (o5.no k3)
  refine Nx_lo rfl (lo_alloc (L := [.int .u8 0, .int .u32 0, .slice none (0) (0)]) (by kernel_rfl)) rfl ?_
  rintro _ w18 ⟨s, rfl, N18⟩
  have k18 := N18.kp
  have kk18 := kk3.thenNo k18
  have ne_s_p0_0 := Nat.ne_of_gt (Nat.lt_of_lt_of_le f69.lt N18.le)
  have ne_s_p0_1 := Nat.ne_of_gt (Nat.lt_of_lt_of_le f70.lt N18.le)
  have ne_s_b := Nat.ne_of_gt (Nat.lt_of_lt_of_le o71.lt N18.le)
  have f_s_18 := N18.bk
  have f72 := (f69.no k18)
  have f73 := (f70.no k18)
  have o74 := (o71.no k18)
  refine ⟨⟨kk18, f72, f73, o74⟩, ?_⟩
  refine D_one 5 (by kernel_rfl) (Nx_lo rfl (lo_make (z := .int .u8 0) (bytes := 1) (ln := 0) (cp := l.length) Tryz.underlying22 (by kernel_rfl) rfl rfl rfl rfl rfl (by omega) (by omega) (by omega)) rfl ?_)
  rintro _ w19 ⟨d, rfl, N19⟩
  have k19 := N19.kp
  have kk19 := kk18.thenNo k19
  have ne_d_p0_0 := Nat.ne_of_gt (Nat.lt_of_lt_of_le f72.lt N19.le)
  have ne_d_p0_1 := Nat.ne_of_gt (Nat.lt_of_lt_of_le f73.lt N19.le)
  have ne_d_s := Nat.ne_of_gt (Nat.lt_of_lt_of_le f_s_18.lt N19.le)
  have ne_d_b := Nat.ne_of_gt (Nat.lt_of_lt_of_le o74.lt N19.le)
  have f_d_19 : Bk w19 d (u8s (List.replicate l.length 0)) 5 := by rw [u8s_rep]; exact N19.bk
  have f75 := (f72.no k19)
  have f76 := (f73.no k19)
  have o77 := (o74.no k19)
  refine ⟨⟨kk19, f75, f76, o77⟩, ?_⟩
  refine Dt 6 rfl (fun W hS => pu_build (L := [.int .u8 ((x : Nat) : Int), .int .u32 ((ge : Nat) : Int), .slice (some ⟨d, 0, none⟩) (0) (l.length)]) rfl (by kernel_rfl)) ?_
  have f78 := (f_s_18.no k19)
  refine D_one 8 (by kernel_rfl) (Nx_lo0 rfl (lo_storeRow (C := [.int .u8 ((x : Nat) : Int), .int .u32 ((ge : Nat) : Int), .slice (some ⟨d, 0, none⟩) (0) (l.length)]) f78 (by kernel_rfl) rfl rfl (by intro u hu; simp at hu; rcases hu with rfl | rfl | rfl <;> rfl) rfl) ?_)
  rintro _ w20 kf20
  obtain ⟨k20, f_s_20⟩ := kf20
  replace f_s_20 : Bk w20 s ([.int .u8 ((x : Nat) : Int), .int .u32 ((ge : Nat) : Int), .slice (some ⟨d, 0, none⟩) (0) (l.length)]) 51 := f_s_20
  have kk20 := kk19.trans k20 (fun i hi => .inr (hi ▸ (Nat.le_trans kk3.size N18.le)))
  have f79 := (f75.on k20 (Ne.symm ne_s_p0_0))
  have f80 := (f76.on k20 (Ne.symm ne_s_p0_1))
  have o81 := (o77.on k20 (Ne.symm ne_s_b))
  refine ⟨⟨kk20, f79, f80, o81⟩, ?_⟩
  refine D_done (by kernel_rfl) <| X_then hK3 <| C_seq (fun K82 hK82 => ?_)
  have f83 := (f_d_19.on k20 ne_d_s)
  have ob0 : Ob w20 w.heap.size (.slice (some ⟨d, 0, none⟩) ([] : List Nat).length l.length) [] := Ob.of_block (base := w.heap.size) (k := 0) f83 (Nat.le_trans kk18.size N19.le) (List.length_replicate ..) (by unfold maxLen; omega) (fun n hn => by rw [(List.mem_replicate.1 hn).2]; decide) (Nat.zero_le _)
  refine C_region <| Rp (pu_fieldAddr (off := 0) (o' := 0) (by kernel_rfl) rfl rfl) <| Rp (pu_loadK f79 (by kernel_rfl) rfl rfl) <| R_lo (lo_make (z := .int .u8 0) (bytes := 1) (ln := q + 1) (cp := q + 1) Tryz.underlying22 (by kernel_rfl) rfl rfl rfl rfl rfl (by omega) (by omega) (by omega)) rfl ?_
  rintro _ w21 ⟨p, rfl, N21⟩
  have k21 := N21.kp
  have kk21 := kk20.thenNo k21
  have ne_p_p0_0 := Nat.ne_of_gt (Nat.lt_of_lt_of_le f79.lt N21.le)
  have ne_p_p0_1 := Nat.ne_of_gt (Nat.lt_of_lt_of_le f80.lt N21.le)
  have ne_p_s := Nat.ne_of_gt (Nat.lt_of_lt_of_le f_s_20.lt N21.le)
  have ne_p_b := Nat.ne_of_gt (Nat.lt_of_lt_of_le o81.lt N21.le)
  have ne_p_d := ob0.ne N21.le
  have f_p_21 : Bk w21 p (u8s (List.replicate (q + 1) 0)) 5 := by rw [u8s_rep]; exact N21.bk
  refine Rp (pu_assign rfl) <| R_nil <| X_then hK82 <| C_seq fun K84 hK84 => C_seq fun K85 hK85 => C_region <| Rp (pu_move rfl) <| Rp (pu_len Tryz.underlying22 rfl) <| Rp (pu_move rfl) <| R_nil <| X_then hK85 <| C_block ?_
  have f86 := (f79.no k21)
  have f87 := (f80.no k21)
  have f88 := (f_s_20.no k21)
  have ob89 := (ob0.keptNo k21)
  have o90 := (o81.no k21)
  refine C_loop (fun m_ l_ wr => ∃ i : Nat, ∃ cc : List Nat, (m_ = l.length - i) ∧ (l_ = [(0, .pointer (some ⟨b, 0, none⟩)), (3, .slice A2 (d2.length) (c2)), (4, .int .u8 ((x : Nat) : Int)), (7, .pointer (some ⟨p0_0, 0, none⟩)), (10, .pointer (some ⟨p0_1, 0, none⟩)), (11, .pointer (some ⟨s, 0, none⟩)), (12, .slice (some ⟨p, 0, none⟩) (q + 1) (q + 1)), (25, .slice A (l.length) (c)), (26, .int .i64 ((l.length : Nat) : Int)), (27, .int .i64 ((i : Nat) : Int))]) ∧ (i ≤ l.length) ∧ (By (q + 1) cc) ∧ (Kp (On b) w wr) ∧ (Bk wr p0_0 ([.int .i64 ((q + 1 : Nat) : Int), .int .i64 ((nn : Nat) : Int), .int .u32 ((ge : Nat) : Int)]) 34) ∧ (Bk wr p0_1 ([.int .u8 0, .int .u32 0, .slice none (0) (0)]) 51) ∧ (Bk wr s ([.int .u8 ((x : Nat) : Int), .int .u32 ((ge : Nat) : Int), .slice (some ⟨d, 0, none⟩) ((ptT l d2 q x i).length) (l.length)]) 51) ∧ (Bk wr p (u8s cc) 5) ∧ (Ob wr w.heap.size (.slice (some ⟨d, 0, none⟩) (ptT l d2 q x i).length l.length) (ptT l d2 q x i) ∧ w.heap.size ≤ (wr).heap.size) ∧ (Tb wr b)) (l.length - 0) [(0, .pointer (some ⟨b, 0, none⟩)), (3, .slice A2 (d2.length) (c2)), (4, .int .u8 ((x : Nat) : Int)), (7, .pointer (some ⟨p0_0, 0, none⟩)), (10, .pointer (some ⟨p0_1, 0, none⟩)), (11, .pointer (some ⟨s, 0, none⟩)), (12, .slice (some ⟨p, 0, none⟩) (q + 1) (q + 1)), (25, .slice A (l.length) (c)), (26, .int .i64 ((l.length : Nat) : Int)), (27, .int .i64 0)] (Sub.cons rfl (Sub.cons rfl (Sub.cons rfl (Sub.cons rfl (Sub.cons rfl (Sub.cons rfl (Sub.cons rfl (Sub.cons rfl (Sub.cons rfl (Sub.cons rfl (Sub.nil _))))))))))) ⟨0, List.replicate (q + 1) 0, rfl, rfl, by omega, (rep_by (q + 1)), kk21, f86, f87, Bk.eq f88 rfl, Bk.eq f_p_21 (congrArg u8s rfl), ⟨by exact ob89, (Nat.le_trans kk20.size k21.size)⟩, o90⟩ ?_
  rintro _ _ w22 ⟨i, cc, rfl, rfl, hi, hcc, kk22, f_p0_0_22, f_p0_1_22, f_s_22, f_p_22, n_22, T_22⟩
  refine C_seq fun K91 hK91 => C_region <| Rp (pu_lss (p := i < l.length) rfl rfl (by omega)) <| R_nil <| X_then hK91 <| C_seq fun K92 hK92 => C_dec rfl (fun h28 => ?_) (fun h28 => ?_)
  ·
   refine C_skip <| X_then hK92 <| C_seq fun K93 hK93 => C_block <| C_seq fun K94 hK94 => C_region <| Rp (pu_move rfl) <| Rp (pu_indexAddrB (m := i) (HB.keptS kk22 aw_HB) Tryz.underlying22 (by kernel_rfl) rfl rfl rfl rfl (by omega)) ?_
   obtain ⟨n, e_n⟩ : ∃ q_, (l)[i]? = some q_ := ⟨_, List.getElem?_eq_getElem (by omega)⟩
   have b_n : n < 256 := ((HB.keptS kk22 aw_HB)).lt e_n
   refine Rp (pu_loadB (HB.keptS kk22 aw_HB) (by kernel_rfl) rfl e_n) <| Rp (pu_assign rfl) <| Rp (pu_assign rfl) <| R_nil <| X_then hK94 <| C_seq fun K95 hK95 => C_region <| Rp (pu_move rfl) <| Rp (pu_move rfl) <| Rp (pu_indexAddrP (m := 0) (s := 1) (o' := 0) Tryz.underlying22 (by kernel_rfl) rfl rfl rfl (by omega) (by omega)) <| R_lo0 (lo_store f_p_22 (by kernel_rfl) rfl rfl rfl (by rw [u8s_length, hcc.1]; omega)) ?_
   rintro _ w23 kf23
   obtain ⟨k23, f_p_23⟩ := kf23
   replace f_p_23 := Bk.eq f_p_23 (u8s_set _ _ n)
   replace f_p_23 : Bk w23 p (u8s (cc.set 0 n)) 5 := f_p_23
   have kk23 := kk22.trans k23 (fun i hi => .inr (hi ▸ (Nat.le_trans kk20.size N21.le)))
   refine R_nil <| X_then hK95 <| C_seq (fun K96 hK96 => ?_)
   have hf := mul_fit (show i < l.length by omega) hP.2.2
   have f97 := (f_p0_0_22.on k23 (Ne.symm ne_p_p0_0))
   have f98 := (f_p0_1_22.on k23 (Ne.symm ne_p_p0_1))
   have f99 := (f_s_22.on k23 (Ne.symm ne_p_s))
   have o100 := (T_22.on k23 (Ne.symm ne_p_b))
   refine D_begin (fun W => Kp (On b) w W ∧ Bk W p0_0 ([.int .i64 ((q + 1 : Nat) : Int), .int .i64 ((nn : Nat) : Int), .int .u32 ((ge : Nat) : Int)]) 34 ∧ Bk W p0_1 ([.int .u8 0, .int .u32 0, .slice none (0) (0)]) 51 ∧ Bk W s ([.int .u8 ((x : Nat) : Int), .int .u32 ((ge : Nat) : Int), .slice (some ⟨d, 0, none⟩) ((ptT l d2 q x i).length) (l.length)]) 51 ∧ Tb W b) 10 rfl (by kernel_rfl) ⟨kk23.drew, f97.draw, f98.draw, f99.draw, o100.draw⟩ ?_
   intro w24 k24 _
   have kk24 := kk23.thenNo k24
   refine Dt 0 rfl (fun W hS => pu_move rfl) <| Dt 1 rfl (fun W hS => pu_sliceLoP (lo := 1) (s := 1) Tryz.underlying22 (by kernel_rfl) rfl rfl rfl (by omega) (by omega) (by omega)) <| Dt 2 rfl (fun W hS => pu_move rfl) <| Dt 3 rfl (fun W hS => pu_move rfl) <| Dt 4 rfl (fun W hS => pu_fieldAddr (off := 0) (o' := 0) (by kernel_rfl) rfl rfl) <| Dt 5 rfl (fun W hS => pu_loadK hS.2.1 (by kernel_rfl) rfl rfl) <| Dt 6 rfl (fun W hS => pu_sub (z := ((q : Nat) : Int)) rfl rfl (by rw [IntKind.wrap_i64]; omega)) <| Dt 7 rfl (fun W hS => pu_mul (z := ((i * q : Nat) : Int)) rfl rfl (mul_i64 (by omega))) ?_
   have HB2c101 := Bs.cut HB2 hc2 (i * q)
   have aw_HB2c101 := Aw.cut aw_HB2 (i * q) c2 1
   refine Dt 8 rfl (fun W hS => pu_sliceLo (lo := i * q) (s := 1) Tryz.underlying22 (by kernel_rfl) rfl rfl rfl (by omega) (by have := hc2; omega)) ?_
   have f102 := (f_p_23.no k24)
   refine D_one 9 (by kernel_rfl) (Nx_lo rfl (lo_copy (m' := q) f102 rfl rfl (HB2c101.keptS kk24 aw_HB2c101) List.length_drop (by rw [List.length_drop]; omega) (by omega) (by rw [(by_set hcc b_n).1]; omega)) rfl ?_)
   rintro _ w25 kg25
   obtain ⟨rfl, kf25⟩ := kg25
   obtain ⟨k25, f_p_25⟩ := kf25
   replace f_p_25 := Bk.eq f_p_25 (congrArg u8s (cw_eq hcc.1))
   replace f_p_25 : Bk w25 p (u8s (n :: (d2.drop (i * q)).take q)) 5 := f_p_25
   have kk25 := kk24.trans k25 (fun i hi => .inr (hi ▸ (Nat.le_trans kk20.size N21.le)))
   have f103 := ((f97.no k24).on k25 (Ne.symm ne_p_p0_0))
   have f104 := ((f98.no k24).on k25 (Ne.symm ne_p_p0_1))
   have f105 := ((f99.no k24).on k25 (Ne.symm ne_p_s))
   have o106 := ((o100.no k24).on k25 (Ne.symm ne_p_b))
   refine ⟨⟨kk25, f103, f104, f105, o106⟩, ?_⟩
   refine D_done (by kernel_rfl) <| X_then hK96 <| Z_begin (fun W => Kp (On b) w W ∧ Bk W p0_0 ([.int .i64 ((q + 1 : Nat) : Int), .int .i64 ((nn : Nat) : Int), .int .u32 ((ge : Nat) : Int)]) 34 ∧ Bk W p0_1 ([.int .u8 0, .int .u32 0, .slice none (0) (0)]) 51 ∧ Bk W s ([.int .u8 ((x : Nat) : Int), .int .u32 ((ge : Nat) : Int), .slice (some ⟨d, 0, none⟩) ((ptT l d2 q x i).length) (l.length)]) 51 ∧ Bk W p (u8s (n :: (d2.drop (i * q)).take q)) 5 ∧ Tb W b) 9 10 rfl (by kernel_rfl) ⟨kk25.drew, f103.draw, f104.draw, f105.draw, f_p_25.draw, o106.draw⟩ ?_
   intro w26 k26 _
   have kk26 := kk25.thenNo k26
   refine Z_take 0 rfl (by kernel_rfl) (by kernel_rfl) (by kernel_rfl) (by kernel_rfl) (by kernel_rfl) (fun _ _ _ h => h) rfl (fun W hS => pu_fieldAddr (off := 2) (o' := 2) (by kernel_rfl) rfl rfl) <| Z_take 1 rfl (by kernel_rfl) (by kernel_rfl) (by kernel_rfl) (by kernel_rfl) (by kernel_rfl) (fun _ _ _ h => h) rfl (fun W hS => pu_loadK hS.2.2.2.1 (by kernel_rfl) rfl rfl) <| Z_take 2 rfl (by kernel_rfl) (by kernel_rfl) (by kernel_rfl) (by kernel_rfl) (by kernel_rfl) (fun _ _ _ h => h) rfl (fun W hS => pu_move rfl) <| Z_take 3 rfl (by kernel_rfl) (by kernel_rfl) (by kernel_rfl) (by kernel_rfl) (by kernel_rfl) (fun _ _ _ h => h) rfl (fun W hS => pu_move rfl) <| Z_take 4 rfl (by kernel_rfl) (by kernel_rfl) (by kernel_rfl) (by kernel_rfl) (by kernel_rfl) (fun _ _ _ h => h) rfl (fun W hS => pu_move rfl) ?_
   have f107 := (f_p_25.no k26)
   have o108 := (o106.no k26)
   refine Z_one 5 (by kernel_rfl) (Nz_lo rfl (lo_callE (by kernel_rfl) rfl (by rw [(coef_by b_n HB2.byte hf).1] <;> rfl) (poly_eval b (some ⟨p, 0, none⟩) (n :: (d2.drop (i * q)).take q) (q + 1) x hx _ (Bs.ofBk f107 (coef_by b_n HB2.byte hf)) (Nat.le_of_eq (coef_by b_n HB2.byte hf).1) (by have hbl_ := (coef_by b_n HB2.byte hf).1; omega) (Aw.ofBk ne_p_b) o108)) rfl ?_)
   rintro _ w27 ⟨rfl, T27, k27⟩
   have kk27 := kk26.trans k27 (fun i hi => .inl hi)
   have f109 := ((f103.no k26).on k27 ne_p0_0_b)
   have f110 := ((f104.no k26).on k27 ne_p0_1_b)
   have f111 := ((f105.no k26).on k27 ne_s_b)
   have f112 := (f107.on k27 ne_p_b)
   refine ⟨⟨kk27, f109, f110, f111, f112, T27⟩, ?_⟩
   have ob113 := (((((n_22.1.onF k23 (Ne.symm ne_p_d)).keptNo k24).onF k25 (Ne.symm ne_p_d)).keptNo k26).onF k27 ne_d_b)
   refine Z_one 6 (by kernel_rfl) (Nz_lo rfl (lo_buildSlice (L := u8s ([hE (n :: (d2.drop (i * q)).take q) x])) Tryz.underlying22 rfl (by kernel_rfl)) rfl ?_)
   rintro _ w28 ⟨p8_6, rfl, N28⟩
   have k28 := N28.kp
   have kk28 := kk27.thenNo k28
   have ne_p8_6_p0_0 := Nat.ne_of_gt (Nat.lt_of_lt_of_le f109.lt N28.le)
   have ne_p8_6_p0_1 := Nat.ne_of_gt (Nat.lt_of_lt_of_le f110.lt N28.le)
   have ne_p8_6_s := Nat.ne_of_gt (Nat.lt_of_lt_of_le f111.lt N28.le)
   have ne_p8_6_p := Nat.ne_of_gt (Nat.lt_of_lt_of_le f112.lt N28.le)
   have ne_p8_6_b := Nat.ne_of_gt (Nat.lt_of_lt_of_le T27.lt N28.le)
   have ne_p8_6_d := ob113.ne N28.le
   have f_p8_6_28 := N28.bk
   have f114 := (f109.no k28)
   have f115 := (f110.no k28)
   have f116 := (f111.no k28)
   have f117 := (f112.no k28)
   have o118 := (T27.no k28)
   refine ⟨⟨kk28, f114, f115, f116, f117, o118⟩, ?_⟩
   have ob119 := (ob113.keptNo k28)
   refine Z_one 7 (by kernel_rfl) (Nz_lo rfl (lo_appFit (X := ptT l d2 q x i) (Y := [hE (n :: (d2.drop (i * q)).take q) x]) ob119 ob119.le.1 rfl rfl (show By 1 [hE (n :: (d2.drop (i * q)).take q) x] from ⟨rfl, fun n hn => by rw [List.mem_singleton.1 hn]; exact (hE_lt ((Bs.ofBk f107 (coef_by b_n HB2.byte hf))).byte _)⟩).1 (Bs.ofBk f_p8_6_28 (show By 1 [hE (n :: (d2.drop (i * q)).take q) x] from ⟨rfl, fun n hn => by rw [List.mem_singleton.1 hn]; exact (hE_lt ((Bs.ofBk f107 (coef_by b_n HB2.byte hf))).byte _)⟩)) (by simp) (by rw [ptT_length]; simp; omega)) rfl ?_)
   rintro _ w29 ⟨rfl, q29, k29⟩
   have kk29 := kk28.trans k29 (fun i hi => .inr (hi ▸ (Nat.le_trans kk18.size N19.le)))
   have f120 := (f114.on k29 (Ne.symm ne_d_p0_0))
   have f121 := (f115.on k29 (Ne.symm ne_d_p0_1))
   have f122 := (f116.on k29 (Ne.symm ne_d_s))
   have f123 := (f117.on k29 ne_p_d)
   have o124 := (o118.on k29 (Ne.symm ne_d_b))
   refine ⟨⟨kk29, f120, f121, f122, f123, o124⟩, ?_⟩
   refine Z_take 8 rfl (by kernel_rfl) (by kernel_rfl) (by kernel_rfl) (by kernel_rfl) (by kernel_rfl) (fun _ _ _ h => h) rfl (fun W hS => pu_fieldAddr (off := 2) (o' := 2) (by kernel_rfl) rfl rfl) <| Z_last 9 (by kernel_rfl) rfl (by kernel_rfl) (by kernel_rfl) (lo_store f122 (by kernel_rfl) rfl rfl rfl (show 2 < 3 by decide)) ?_
   rintro _ w30 kf30
   obtain ⟨k30, f_s_30⟩ := kf30
   replace f_s_30 : Bk w30 s ([.int .u8 ((x : Nat) : Int), .int .u32 ((ge : Nat) : Int), .slice (some ⟨d, 0, none⟩) (((ptT l d2 q x i) ++ ([hE (n :: (d2.drop (i * q)).take q) x])).length) (l.length)]) 51 := f_s_30
   have kk30 := kk29.trans k30 (fun i hi => .inr (hi ▸ (Nat.le_trans kk3.size N18.le)))
   refine X_in_normal <| X_then hK93 <| C_region <| Rp (pu_add (z := ((i + 1 : Nat) : Int)) rfl rfl (by rw [IntKind.wrap_i64]; omega)) <| Rp (pu_move rfl) <| R_nil ?_
   have f125 := (f120.on k30 (Ne.symm ne_s_p0_0))
   have f126 := (f121.on k30 (Ne.symm ne_s_p0_1))
   have f127 := (f123.on k30 ne_p_s)
   have ob128 := (q29.onF k30 ne_d_s)
   have o129 := (o124.on k30 (Ne.symm ne_s_b))
   refine X_round (l.length - (i + 1)) [(0, .pointer (some ⟨b, 0, none⟩)), (3, .slice A2 (d2.length) (c2)), (4, .int .u8 ((x : Nat) : Int)), (7, .pointer (some ⟨p0_0, 0, none⟩)), (10, .pointer (some ⟨p0_1, 0, none⟩)), (11, .pointer (some ⟨s, 0, none⟩)), (12, .slice (some ⟨p, 0, none⟩) (q + 1) (q + 1)), (25, .slice A (l.length) (c)), (26, .int .i64 ((l.length : Nat) : Int)), (27, .int .i64 (((i + 1) : Nat) : Int))] (by omega) (Sub.cons rfl (Sub.cons rfl (Sub.cons rfl (Sub.cons rfl (Sub.cons rfl (Sub.cons rfl (Sub.cons rfl (Sub.cons rfl (Sub.cons rfl (Sub.cons rfl (Sub.nil _))))))))))) ⟨i + 1, n :: (d2.drop (i * q)).take q, rfl, rfl, by omega, (coef_by b_n HB2.byte hf), kk30, f125, f126, Bk.eq f_s_30 (by rw [ptT_snoc e_n]), f127, ⟨by rw [← ptT_snoc e_n]; exact ob128, (Nat.le_trans (Nat.le_trans (Nat.le_trans (Nat.le_trans (Nat.le_trans (Nat.le_trans (Nat.le_trans (Nat.le_trans n_22.2 k23.size) k24.size) k25.size) k26.size) k27.size) k28.size) k29.size) k30.size)⟩, o129⟩
  ·
   refine C_exit <| X_then_exit (X_then_exit (X_in_eq ?_))
   refine X_then hK84 <| C_seq fun K130 hK130 => C_region <| Rp (pu_loadRow (len := 3) f_s_22 (by kernel_rfl) (by kernel_rfl) rfl rfl) <| R_lo0 (lo_storeRow (C := [.int .u8 ((x : Nat) : Int), .int .u32 ((ge : Nat) : Int), .slice (some ⟨d, 0, none⟩) ((ptT l d2 q x i).length) (l.length)]) f_p0_1_22 (by kernel_rfl) rfl rfl (by intro u hu; simp at hu; rcases hu with rfl | rfl | rfl <;> rfl) rfl) ?_
   rintro _ w31 kf31
   obtain ⟨k31, f_p0_1_31⟩ := kf31
   replace f_p0_1_31 : Bk w31 p0_1 ([.int .u8 ((x : Nat) : Int), .int .u32 ((ge : Nat) : Int), .slice (some ⟨d, 0, none⟩) ((ptT l d2 q x i).length) (l.length)]) 51 := f_p0_1_31
   have kk31 := kk22.trans k31 (fun i hi => .inr (hi ▸ (Nat.le_trans kk1.size N2.le)))
   refine R_nil <| X_then hK130 <| C_ret ?_
   have ob131 := (n_22.1.onF k31 ne_d_p0_1)
   have o132 := (T_22.on k31 (Ne.symm ne_p0_1_b))
   exact X_retRow (len := 3) (.inl rfl) rfl rfl f_p0_1_31 (by kernel_rfl) (by kernel_rfl) rfl ⟨_, _, by rw [show i = l.length by omega]; rfl, by rw [show ptX l d2 q x = ptT l d2 q x i by rw [show i = l.length by omega]; rfl]; exact ob131, o132, kk31⟩
theorem shamir_split (b : Nat) (A : Option Addr) (l : List Nat) (c : Nat) (q nn : Nat) (ge : Nat) (A2 : Option Addr) (d2 : List Nat) (c2 : Nat) (w : World) (HB : Bs w A l) (hc : l.length ≤ c) (HB2 : Bs w A2 d2) (hc2 : d2.length ≤ c2) (hge : ge < 4294967296) (hP : 2 ≤ q + 1 ∧ q + 1 ≤ nn ∧ nn ≤ 255) (hl : 1 ≤ l.length ∧ l.length ≤ 64) (hd : d2.length = q * l.length) (aw_HB : Aw (On b) A l) (aw_HB2 : Aw (On b) A2 d2) (hT : Tb w b) : Ret Tryz.prog 32 #[.pointer (some ⟨b, 0, none⟩), .slice A (l.length) (c), .agg ([.int .i64 ((q + 1 : Nat) : Int), .int .i64 ((nn : Nat) : Int), .int .u32 ((ge : Nat) : Int)] : List Value).toArray, .slice A2 (d2.length) (c2)] w (fun v w' => ∃ A c L, v = .tuple #[.slice A (L : List Shr).length c, .nilIface] ∧ Sw 51 w.heap.size w' w.heap.size (.slice A L.length c) L ∧ L.map Shr.key = ptK l d2 q ge nn ∧ Tb w' b ∧ Kp (On b) w w') := by
 have hdm := mul_most hd (by omega) hl.2
 have kk0 := Kp.refl (On b) w
 refine enter (n := 56) [.pointer (some ⟨b, 0, none⟩), .slice A (l.length) (c), .agg ([.int .i64 ((q + 1 : Nat) : Int), .int .i64 ((nn : Nat) : Int), .int .u32 ((ge : Nat) : Int)] : List Value).toArray, .slice A2 (d2.length) (c2)] Tryz.func32 rfl rfl rfl ?_
 show Cw _ _ _ _ [(0, .pointer (some ⟨b, 0, none⟩)), (1, .slice A (l.length) (c)), (2, .agg ([.int .i64 ((q + 1 : Nat) : Int), .int .i64 ((nn : Nat) : Int), .int .u32 ((ge : Nat) : Int)] : List Value).toArray), (3, .slice A2 (d2.length) (c2))] _
 refine C_seq fun K1 hK1 => C_region <| R_lo (lo_box (L := [.int .i64 ((q + 1 : Nat) : Int), .int .i64 ((nn : Nat) : Int), .int .u32 ((ge : Nat) : Int)]) rfl rfl) rfl ?_
 rintro _ w1 ⟨p0_0, rfl, N1⟩
 have k1 := N1.kp
 have kk1 := kk0.thenNo k1
 have ne_p0_0_b := Nat.ne_of_gt (Nat.lt_of_lt_of_le hT.lt N1.le)
 have f_p0_0_1 := N1.bk
 refine Rp (pu_assign rfl) <| Rp (pu_assign rfl) <| R_nil <| X_then hK1 <| C_seq fun K2 hK2 => C_seq fun K3 hK3 => C_region <| Rp (pu_move rfl) <| Rp (pu_eqlpn (by kernel_rfl) rfl rfl) <| Rp (pu_move rfl) <| Rg (pu_loadRow (len := 3) f_p0_0_1 (by kernel_rfl) (by kernel_rfl) rfl rfl) <| R_glo rfl rfl (lo_call (by kernel_rfl) rfl (shamir_check_yes q nn ge _ hP)) rfl ?_
 rintro _ w2 ⟨rfl, k2⟩
 have kk2 := kk1.thenNo k2
 refine Rg (pu_neqnn (by kernel_rfl) rfl) <| Rp (pu_pickf rfl rfl) <| Rp (pu_move rfl) <| Rg (pu_move rfl) <| Rg (pu_len Tryz.underlying22 rfl) <| R_glo rfl rfl (lo_call (by kernel_rfl) rfl (shamir_sized l.length _)) rfl ?_
 rintro _ w3 ⟨rfl, k3⟩
 have kk3 := kk2.thenNo k3
 refine Rg (pu_false (pu_notd rfl) (fun h => h hl)) <| Rp (pu_pickf rfl rfl) <| Rp (pu_move rfl) <| Rg (pu_move rfl) <| Rg (pu_len Tryz.underlying22 rfl) ?_
 have f4 := ((f_p0_0_1.no k2).no k3)
 refine Rg (pu_loadRow (len := 3) f4 (by kernel_rfl) (by kernel_rfl) rfl rfl) <| Rg (pu_move rfl) <| Rg (pu_len Tryz.underlying22 rfl) <| R_glo rfl rfl (lo_call (by kernel_rfl) rfl (shamir_draws_yes q nn ge l.length _ hP hl)) rfl ?_
 rintro _ w4 ⟨rfl, k4⟩
 have kk4 := kk3.thenNo k4
 refine Rg (pu_false (pu_neq (p := d2.length = (q * l.length)) rfl rfl (by omega)) (fun h => h hd)) <| Rp (pu_pickf rfl rfl) <| R_nil <| X_then hK3 <| C_false rfl <| C_skip <| X_then hK2 <| C_seq fun K5 hK5 => C_region <| Rp (pu_fieldAddr (off := 1) (o' := 1) (by kernel_rfl) rfl rfl) ?_
 have f6 := (f4.no k4)
 refine Rp (pu_loadK f6 (by kernel_rfl) rfl rfl) ?_
 have o7 := ((((hT.no k1).no k2).no k3).no k4)
 refine R_lo (lo_makeS (T := 51) (low := w4.heap.size) (c := nn) Tryz.underlying37 (by kernel_rfl) rfl rfl rfl (by omega)) rfl ?_
 rintro _ w5 ⟨A_out, rfl, q5, k5⟩
 have kk5 := kk4.thenNo k5
 refine Rp (pu_assign rfl) <| R_nil <| X_then hK5 <| C_seq fun K8 hK8 => C_seq fun K9 hK9 => C_region <| Rp (pu_fieldAddr (off := 1) (o' := 1) (by kernel_rfl) rfl rfl) ?_
 have f10 := (f6.no k5)
 refine Rp (pu_loadK f10 (by kernel_rfl) rfl rfl) <| Rp (pu_move rfl) <| R_nil <| X_then hK9 <| C_block ?_
 have o11 := (o7.no k5)
 refine C_loop (fun m_ l_ wr => ∃ i : Nat, ∃ An : Option Addr, ∃ cn : Nat, ∃ L : List Shr, (m_ = nn - i) ∧ (l_ = [(0, .pointer (some ⟨b, 0, none⟩)), (1, .slice A (l.length) (c)), (3, .slice A2 (d2.length) (c2)), (6, .pointer (some ⟨p0_0, 0, none⟩)), (8, .slice none (0) (0)), (9, .nilIface), (10, .slice An ((L).length) (cn)), (39, .int .i64 ((nn : Nat) : Int)), (40, .int .i64 ((i : Nat) : Int))]) ∧ (i ≤ nn) ∧ (L.map Shr.key = ptK l d2 q ge i) ∧ (Kp (On b) w wr) ∧ (Bk wr p0_0 ([.int .i64 ((q + 1 : Nat) : Int), .int .i64 ((nn : Nat) : Int), .int .u32 ((ge : Nat) : Int)]) 34) ∧ (Sw 51 w4.heap.size wr w4.heap.size (.slice An ((L).length) (cn)) (L) ∧ w4.heap.size ≤ (wr).heap.size) ∧ (Tb wr b)) (nn - 0) [(0, .pointer (some ⟨b, 0, none⟩)), (1, .slice A (l.length) (c)), (3, .slice A2 (d2.length) (c2)), (6, .pointer (some ⟨p0_0, 0, none⟩)), (8, .slice none (0) (0)), (9, .nilIface), (10, .slice A_out ((([])).length) (nn)), (39, .int .i64 ((nn : Nat) : Int)), (40, .int .i64 0)] (Sub.cons rfl (Sub.cons rfl (Sub.cons rfl (Sub.cons rfl (Sub.cons rfl (Sub.cons rfl (Sub.cons rfl (Sub.cons rfl (Sub.cons rfl (Sub.nil _)))))))))) ⟨0, A_out, nn, [], rfl, rfl, by omega, rfl, kk5, f10, ⟨by exact q5, k5.size⟩, o11⟩ ?_
 rintro _ _ w6 ⟨i, An, cn, L, rfl, rfl, hi, hL, kk6, f_p0_0_6, out_6, T_6⟩
 have hLl : L.length = i := (key_len hL).trans (ptK_length ..)
 refine C_seq fun K12 hK12 => C_region <| Rp (pu_lss (p := i < nn) rfl rfl (by omega)) <| R_nil <| X_then hK12 <| C_seq fun K13 hK13 => C_dec rfl (fun h41 => ?_) (fun h41 => ?_)
 ·
  refine C_skip <| X_then hK13 <| C_seq fun K14 hK14 => C_block <| C_seq fun K15 hK15 => C_region <| Rp (pu_move rfl) <| Rp (pu_assign rfl) <| R_nil <| X_then hK15 <| C_region <| Rp (pu_move rfl) <| Rp (pu_move rfl) <| Rp (pu_move rfl) <| Rp (pu_loadRow (len := 3) f_p0_0_6 (by kernel_rfl) (by kernel_rfl) rfl rfl) <| Rp (pu_move rfl) <| Rp (pu_move rfl) <| Rp (pu_add (z := ((i + 1 : Nat) : Int)) rfl rfl (by rw [IntKind.wrap_i64]; omega)) <| Rp (pu_conv (z := ((i + 1 : Nat) : Int)) Tryz.underlying3 Tryz.underlying5 rfl (by rw [IntKind.wrap_u8]; omega)) <| R_lo (lo_call (by kernel_rfl) rfl (shamir_part b A l c q nn ge A2 d2 c2 (i + 1) _ ⟨⟨by omega, by omega⟩, hl, hd⟩ (HB.keptS kk6 aw_HB) hc (HB2.keptS kk6 aw_HB2) hc2 (by omega) hge aw_HB aw_HB2 T_6)) rfl ?_
  rintro _ w7 ⟨A_pt7, c_pt7, rfl, Q7, T7, k7⟩
  have kk7 := kk6.trans k7 (fun i hi => .inl hi)
  have f18 := (f_p0_0_6.on k7 ne_p0_0_b)
  have ob19 := (out_6.1.on k7 (by have := o7.lt; omega))
  refine R_lo (lo_buildSlice (L := [.int .u8 ((i + 1 : Nat) : Int), .int .u32 ((ge : Nat) : Int), .slice A_pt7 ((ptX l d2 q (i + 1)).length) (c_pt7)]) Tryz.underlying37 rfl (by kernel_rfl)) rfl ?_
  rintro _ w8 ⟨lit, rfl, N8⟩
  have k8 := N8.kp
  have kk8 := kk7.thenNo k8
  have f_lit_8 := N8.bk
  have ob20 := (ob19.keptNo k8)
  have ob21 := (Q7.keptNo k8)
  refine R_lo (lo_apps (L := L) (M := [(⟨i + 1, ge, A_pt7, ptX l d2 q (i + 1), c_pt7⟩ : Shr)]) Tryz.underlying37 (by kernel_rfl) ob20 ob20.le.1 rfl rfl rfl (Ss.one (s := ⟨i + 1, ge, A_pt7, ptX l d2 q (i + 1), c_pt7⟩) f_lit_8 (Shr.okOb ob21 (by omega) hge)) (Sw.fresh out_6.1 ob21 out_6.2) (by simp) (by simp; omega) (Nat.le_trans (Nat.le_trans out_6.2 k7.size) k8.size)) rfl ?_
  rintro _ w9 ⟨A_9, c_9, rfl, p9⟩
  have k9 := p9.kp
  have kk9 := kk8.trans k9 (fun i hi => .inr (Nat.le_trans (kk4).size hi))
  refine Rp (pu_assign rfl) <| R_nil <| X_in_normal <| X_then hK14 <| C_region <| Rp (pu_add (z := ((i + 1 : Nat) : Int)) rfl rfl (by rw [IntKind.wrap_i64]; omega)) <| Rp (pu_move rfl) <| R_nil ?_
  have f22 : Bk w9 p0_0 ([.int .i64 ((q + 1 : Nat) : Int), .int .i64 ((nn : Nat) : Int), .int .u32 ((ge : Nat) : Int)]) 34 := ((f18.no k8).kept k9 (by have := f6.lt; omega))
  have o23 : Tb w9 b := ((T7.no k8).kept k9 (by have := o7.lt; omega))
  refine X_round (nn - (i + 1)) [(0, .pointer (some ⟨b, 0, none⟩)), (1, .slice A (l.length) (c)), (3, .slice A2 (d2.length) (c2)), (6, .pointer (some ⟨p0_0, 0, none⟩)), (8, .slice none (0) (0)), (9, .nilIface), (10, .slice A_9 (((L ++ ([(⟨i + 1, ge, A_pt7, ptX l d2 q (i + 1), c_pt7⟩ : Shr)]))).length) (c_9)), (39, .int .i64 ((nn : Nat) : Int)), (40, .int .i64 (((i + 1) : Nat) : Int))] (by omega) (Sub.cons rfl (Sub.cons rfl (Sub.cons rfl (Sub.cons rfl (Sub.cons rfl (Sub.cons rfl (Sub.cons rfl (Sub.cons rfl (Sub.cons rfl (Sub.nil _)))))))))) ⟨i + 1, A_9, c_9, L ++ ([(⟨i + 1, ge, A_pt7, ptX l d2 q (i + 1), c_pt7⟩ : Shr)]), rfl, rfl, by omega, (by rw [List.map_append, hL, ← ptK_snoc]; rfl), kk9, f22, ⟨by exact p9.ob, (Nat.le_trans (Nat.le_trans (Nat.le_trans out_6.2 k7.size) k8.size) k9.size)⟩, o23⟩
 ·
  refine C_exit <| X_then_exit (X_then_exit (X_in_eq ?_))
  exact X_then hK8 <| C_seq fun K24 hK24 => C_region <| Rp (pu_move rfl) <| Rp (pu_assign rfl) <| Rp (pu_assign rfl) <| R_nil <| X_then hK24 <| C_ret <| X_ret2 (.inl rfl) rfl rfl rfl ⟨An, cn, L, rfl, ((out_6.1).lowb (kk4).size).lowd (kk4).size, by rw [hL, show i = nn by omega], T_6, kk6⟩
end Go.Proofs.YtlkbkgghfhoggaaGreatDoor
