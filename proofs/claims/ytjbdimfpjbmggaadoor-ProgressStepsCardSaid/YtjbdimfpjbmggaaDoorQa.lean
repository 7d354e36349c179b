/- The bodies of bursarylaw23's sure. -/
import Derived.Test.YtjbdimfpjbmggaaDoorPr
set_option linter.unusedVariables false
set_option linter.unusedSimpArgs false
namespace Go.Proofs.YtjbdimfpjbmggaaDoor
open Go.RowKit Gm
set_option maxRecDepth 100000 in
set_option maxHeartbeats 2000000 in
theorem sure23  (w : World) (hG : Gt w) : Ret Tryd.prog 28 #[] w (fun v w' => v = .bool true ∧ Kp No w w') := by
  have kk0 := Kp.refl No w
  refine enter (n := 71) [] Tryd.func28 rfl rfl rfl ?_
  show Cw _ _ _ _ [] _
  refine C_seq (fun K1 hK1 => ?_)
  refine C_region ?_
  refine R_pu (pu_assign rfl) rfl ?_
  refine R_nil ?_
  refine X_then hK1 ?_
  refine C_seq (fun K2 hK2 => ?_)
  refine C_region ?_
  refine R_pu (pu_build (L := [.int .i64 2, .int .i64 3, .int .u32 1]) rfl (by kernel_rfl)) rfl ?_
  refine R_lo (lo_call (by kernel_rfl) rfl (start_ok 1 3 1 ({ data := #[120] }) _ ⟨by decide, by decide⟩)) rfl ?_
  rintro _ w1 ⟨rfl, k1⟩
  have kk1 := kk0.then_ k1
  refine R_pu (pu_move rfl) rfl ?_
  refine R_pu (pu_extract rfl rfl) rfl ?_
  refine R_pu (pu_extract rfl rfl) rfl ?_
  have o3 : Gt w1 := (hG.no k1)
  refine R_lo (lo_alloc (L := [.int .i64 0, .int .i64 0, .int .u32 0, .string ByteArray.empty, .slice none (0) (0)]) (by kernel_rfl)) rfl ?_
  rintro _ w2 ⟨p, rfl, N2⟩
  have k2 := N2.kp
  have kk2 := kk1.then_ k2
  have ne_p_0 : p ≠ 0 := Nat.ne_of_gt (Nat.lt_of_lt_of_le o3.lt N2.le)
  have f_p_2 : Bk w2 p ([.int .i64 0, .int .i64 0, .int .u32 0, .string ByteArray.empty, .slice none (0) (0)]) 70 := N2.bk
  refine R_lo0 (lo_storeRow (C := [.int .i64 2, .int .i64 3, .int .u32 1, .string ({ data := #[120] }), .slice none (0) (0)]) f_p_2 (by kernel_rfl) rfl rfl (by intro u hu; simp at hu; rcases hu with rfl | rfl | rfl | rfl | rfl <;> rfl) rfl) ?_
  rintro _ w3 kf3
  obtain ⟨k3, f_p_3⟩ := kf3
  replace f_p_3 : Bk w3 p ([.int .i64 2, .int .i64 3, .int .u32 1, .string ({ data := #[120] }), .slice none (0) (0)]) 70 := f_p_3
  have kk3 := kk2.trans k3 (fun i hi => .inr (hi ▸ (Nat.le_trans kk1.size N2.le)))
  refine R_pu (pu_assign rfl) rfl ?_
  refine R_nil ?_
  refine X_then hK2 ?_
  have o4 : Gt w3 := ((o3.no k2).on k3 (Ne.symm ne_p_0))
  have sw5 := Sw.nil 50 w3.heap.size w3 w3.heap.size
  have z6 := Nat.le_refl w3.heap.size
  refine C_cut (fun l_ wr => ∃ qb : Nat, ∃ A_q : Option Addr, ∃ c_q : Nat, ∃ L_q : List Shr, (l_ = [(0, .bool false), (2, .nilIface), (3, .pointer (some ⟨qb, 0, none⟩)), (4, .bool (decide (([] : List Shr).length + 1 = 2))), (5, .nilIface)]) ∧ (Came 3 1 L_q) ∧ (2 ∈ ixs L_q) ∧ (L_q.length = 1) ∧ (qb ≠ 0) ∧ (qb ≠ p) ∧ (Kp No w wr) ∧ (Bk wr p ([.int .i64 2, .int .i64 3, .int .u32 1, .string ({ data := #[120] }), .slice none (0) (0)]) 70) ∧ (Bk wr qb ([.int .i64 2, .int .i64 3, .int .u32 1, .string ({ data := #[120] }), .slice A_q ((L_q).length) (c_q)]) 70) ∧ (Sw 50 w3.heap.size wr w3.heap.size (.slice A_q ((L_q).length) (c_q)) (L_q) ∧ w3.heap.size ≤ (wr).heap.size) ∧ (Gt wr)) (fun K_ hK_ => ?_) ?_
  · refine D_begin (fun W => Kp No w W ∧ Bk W p ([.int .i64 2, .int .i64 3, .int .u32 1, .string ({ data := #[120] }), .slice none (0) (0)]) 70 ∧ Gt W) 12 rfl (by kernel_rfl) ⟨kk3.drew, f_p_3.draw, o4.draw⟩ ?_
    intro w4 k4 _
    have kk4 := kk3.then_ k4
    refine D_take 0 rfl (by kernel_rfl) (by kernel_rfl) (by kernel_rfl) (fun _ _ _ h => h) rfl (fun W hS => pu_loadRow (len := 5) hS.2.1 (by kernel_rfl) (by kernel_rfl) rfl rfl) ?_
    refine D_two 1 8 (by kernel_rfl) ?_ ?_
    · have f7 : Bk w4 p ([.int .i64 2, .int .i64 3, .int .u32 1, .string ({ data := #[120] }), .slice none (0) (0)]) 70 := (f_p_3.no k4)
      have o8 : Gt w4 := (o4.no k4)
      have ob9 := (sw5.keptNo k4)
      refine Nx_lo rfl (lo_make (z := .int .u8 0) (bytes := 1) (ln := 32) (cp := 32) Tryd.underlying22 (by kernel_rfl) rfl rfl rfl rfl rfl (by omega) (by omega) (by omega)) rfl ?_
      rintro _ w5 ⟨d1, rfl, N5⟩
      have k5 := N5.kp
      have kk5 := kk4.then_ k5
      have ne_d1_p : d1 ≠ p := Nat.ne_of_gt (Nat.lt_of_lt_of_le f7.lt N5.le)
      have ne_d1_0 : d1 ≠ 0 := Nat.ne_of_gt (Nat.lt_of_lt_of_le o8.lt N5.le)
      have f_d1_5 : Bk w5 d1 (u8s (List.replicate 32 0)) 5 := by rw [u8s_rep]; exact N5.bk
      have f10 : Bk w5 p ([.int .i64 2, .int .i64 3, .int .u32 1, .string ({ data := #[120] }), .slice none (0) (0)]) 70 := (f7.no k5)
      have o11 : Gt w5 := (o8.no k5)
      refine ⟨⟨kk5, f10, o11⟩, ?_⟩
      refine D_take 2 rfl (by kernel_rfl) (by kernel_rfl) (by kernel_rfl) (fun _ _ _ h => h) rfl (fun W hS => pu_build (L := [.int .u8 2, .int .u32 1, .slice (some ⟨d1, 0, none⟩) (32) (32)]) rfl (by kernel_rfl)) ?_
      refine D_two 3 8 (by kernel_rfl) ?_ ?_
      · have ob13 := (ob9.keptNo k5)
        have lm12 := ob13.top
        refine Nx_lo rfl (lo_callE (by kernel_rfl) rfl (by rw [(rep_by 32).1] <;> rfl) (submit_ok 1 3 1 ({ data := #[120] }) none ([] : List Shr) 0 2 1 (some ⟨d1, 0, none⟩) (List.replicate 32 0) 32 _ (Ss.nil _ none) (Bs.ofBk f_d1_5 (rep_by 32)) (Nat.le_of_eq (rep_by 32).1) ⟨⟨⟨by decide, by decide, by decide, by decide⟩, (fun i s h => by cases h)⟩, ⟨by decide, rfl, by simp [ixs], by decide, by decide, rfl⟩, by decide, by decide⟩)) rfl ?_
        rintro _ w6 ⟨A_q1, c_q1, L_q1, rfl, Q6, hK_q1, k6⟩
        have kk6 := kk5.then_ k6
        have z14 : w5.heap.size ≤ w6.heap.size := k6.size
        have hl_q1 : L_q1.length = 1 := by have := congrArg List.length hK_q1; simpa using this
        have f15 : Bk w6 p ([.int .i64 2, .int .i64 3, .int .u32 1, .string ({ data := #[120] }), .slice none (0) (0)]) 70 := (f10.no k6)
        have o16 : Gt w6 := (o11.no k6)
        refine ⟨⟨kk6, f15, o16⟩, ?_⟩
        refine D_take 4 rfl (by kernel_rfl) (by kernel_rfl) (by kernel_rfl) (fun _ _ _ h => h) rfl (fun W hS => pu_move rfl) ?_
        refine D_take 5 rfl (by kernel_rfl) (by kernel_rfl) (by kernel_rfl) (fun _ _ _ h => h) rfl (fun W hS => pu_extract rfl rfl) ?_
        refine D_take 6 rfl (by kernel_rfl) (by kernel_rfl) (by kernel_rfl) (fun _ _ _ h => h) rfl (fun W hS => pu_extract rfl rfl) ?_
        refine D_take 7 rfl (by kernel_rfl) (by kernel_rfl) (by kernel_rfl) (fun _ _ _ h => h) rfl (fun W hS => pu_extract rfl rfl) ?_
        have f17 : Bk w6 d1 (u8s (List.replicate 32 0)) 5 := (f_d1_5.no k6)
        have ob18 := (ob13.keptNo k6)
        refine D_one 8 (by kernel_rfl) (Nx_lo rfl (lo_alloc (L := [.int .i64 0, .int .i64 0, .int .u32 0, .string ByteArray.empty, .slice none (0) (0)]) (by kernel_rfl)) rfl ?_)
        rintro _ w7 ⟨qb1, rfl, N7⟩
        have k7 := N7.kp
        have kk7 := kk6.then_ k7
        have ne_qb1_p : qb1 ≠ p := Nat.ne_of_gt (Nat.lt_of_lt_of_le f15.lt N7.le)
        have ne_qb1_d1 : qb1 ≠ d1 := Nat.ne_of_gt (Nat.lt_of_lt_of_le f17.lt N7.le)
        have ne_qb1_0 : qb1 ≠ 0 := Nat.ne_of_gt (Nat.lt_of_lt_of_le o16.lt N7.le)
        have f_qb1_7 : Bk w7 qb1 ([.int .i64 0, .int .i64 0, .int .u32 0, .string ByteArray.empty, .slice none (0) (0)]) 70 := N7.bk
        have f19 : Bk w7 p ([.int .i64 2, .int .i64 3, .int .u32 1, .string ({ data := #[120] }), .slice none (0) (0)]) 70 := (f15.no k7)
        have o20 : Gt w7 := (o16.no k7)
        refine ⟨⟨kk7, f19, o20⟩, ?_⟩
        refine D_one 9 (by kernel_rfl) (Nx_lo0 rfl (lo_storeRow (C := [.int .i64 2, .int .i64 3, .int .u32 1, .string ({ data := #[120] }), .slice A_q1 ((L_q1).length) (c_q1)]) f_qb1_7 (by kernel_rfl) rfl rfl (by intro u hu; simp at hu; rcases hu with rfl | rfl | rfl | rfl | rfl <;> rfl) rfl) ?_)
        rintro _ w8 kf8
        obtain ⟨k8, f_qb1_8⟩ := kf8
        replace f_qb1_8 : Bk w8 qb1 ([.int .i64 2, .int .i64 3, .int .u32 1, .string ({ data := #[120] }), .slice A_q1 ((L_q1).length) (c_q1)]) 70 := f_qb1_8
        have kk8 := kk7.trans k8 (fun i hi => .inr (hi ▸ (Nat.le_trans kk6.size N7.le)))
        have f21 : Bk w8 p ([.int .i64 2, .int .i64 3, .int .u32 1, .string ({ data := #[120] }), .slice none (0) (0)]) 70 := (f19.on k8 (Ne.symm ne_qb1_p))
        have o22 : Gt w8 := (o20.on k8 (Ne.symm ne_qb1_0))
        refine ⟨⟨kk8, f21, o22⟩, ?_⟩
        refine D_take 10 rfl (by kernel_rfl) (by kernel_rfl) (by kernel_rfl) (fun _ _ _ h => h) rfl (fun W hS => pu_assign rfl) ?_
        refine D_take 11 rfl (by kernel_rfl) (by kernel_rfl) (by kernel_rfl) (fun _ _ _ h => h) rfl (fun W hS => pu_assign rfl) ?_
        refine D_done (by kernel_rfl) ?_
        have ob23 := ((Q6.keptNo k7).onN k8 Q6 N7.le)
        refine X_cut hK_ [(0, .bool false), (2, .nilIface), (3, .pointer (some ⟨qb1, 0, none⟩)), (4, .bool (decide (([] : List Shr).length + 1 = 2))), (5, .nilIface)] (Sub.cons rfl (Sub.cons rfl (Sub.cons rfl (Sub.cons rfl (Sub.cons rfl (Sub.nil _)))))) ⟨qb1, A_q1, c_q1, L_q1, rfl, (came_snoc (s := ⟨2, 1, none, List.replicate 32 0, 32⟩) (fun i s h => by cases h) hK_q1 ⟨rfl, by simp [ixs], by decide, by decide, rfl⟩), (ixs_in hK_q1), hl_q1, ne_qb1_0, ne_qb1_p, kk8, f21, f_qb1_8, ⟨((ob23).lowb (Nat.le_trans (Nat.le_trans z6 k4.size) k5.size)).lowd (Nat.le_trans (Nat.le_trans z6 k4.size) k5.size), (Nat.le_trans (Nat.le_trans (Nat.le_trans (Nat.le_trans (Nat.le_trans z6 k4.size) k5.size) k6.size) k7.size) k8.size)⟩, o22⟩
      · have ob24 := (ob9.keptNo k5)
        refine Nx_lo rfl (lo_alloc (L := [.int .i64 0, .int .i64 0, .int .u32 0, .string ByteArray.empty, .slice none (0) (0)]) (by kernel_rfl)) rfl ?_
        rintro _ w9 ⟨qb1, rfl, N9⟩
        have k9 := N9.kp
        have kk9 := kk5.then_ k9
        have ne_qb1_p : qb1 ≠ p := Nat.ne_of_gt (Nat.lt_of_lt_of_le f10.lt N9.le)
        have ne_qb1_d1 : qb1 ≠ d1 := Nat.ne_of_gt (Nat.lt_of_lt_of_le f_d1_5.lt N9.le)
        have ne_qb1_0 : qb1 ≠ 0 := Nat.ne_of_gt (Nat.lt_of_lt_of_le o11.lt N9.le)
        have f_qb1_9 : Bk w9 qb1 ([.int .i64 0, .int .i64 0, .int .u32 0, .string ByteArray.empty, .slice none (0) (0)]) 70 := N9.bk
        have f25 : Bk w9 p ([.int .i64 2, .int .i64 3, .int .u32 1, .string ({ data := #[120] }), .slice none (0) (0)]) 70 := (f10.no k9)
        have o26 : Gt w9 := (o11.no k9)
        refine ⟨⟨kk9, f25, o26⟩, ?_⟩
        have f27 : Bk w9 d1 (u8s (List.replicate 32 0)) 5 := (f_d1_5.no k9)
        have ob29 := (ob24.keptNo k9)
        have lm28 := ob29.top
        refine D_one 3 (by kernel_rfl) (Nx_lo rfl (lo_callE (by kernel_rfl) rfl (by rw [(rep_by 32).1] <;> rfl) (submit_ok 1 3 1 ({ data := #[120] }) none ([] : List Shr) 0 2 1 (some ⟨d1, 0, none⟩) (List.replicate 32 0) 32 _ (Ss.nil _ none) (Bs.ofBk f27 (rep_by 32)) (Nat.le_of_eq (rep_by 32).1) ⟨⟨⟨by decide, by decide, by decide, by decide⟩, (fun i s h => by cases h)⟩, ⟨by decide, rfl, by simp [ixs], by decide, by decide, rfl⟩, by decide, by decide⟩)) rfl ?_)
        rintro _ w10 ⟨A_q1, c_q1, L_q1, rfl, Q10, hK_q1, k10⟩
        have kk10 := kk9.then_ k10
        have z30 : w9.heap.size ≤ w10.heap.size := k10.size
        have hl_q1 : L_q1.length = 1 := by have := congrArg List.length hK_q1; simpa using this
        have f31 : Bk w10 p ([.int .i64 2, .int .i64 3, .int .u32 1, .string ({ data := #[120] }), .slice none (0) (0)]) 70 := (f25.no k10)
        have o32 : Gt w10 := (o26.no k10)
        refine ⟨⟨kk10, f31, o32⟩, ?_⟩
        refine D_take 4 rfl (by kernel_rfl) (by kernel_rfl) (by kernel_rfl) (fun _ _ _ h => h) rfl (fun W hS => pu_move rfl) ?_
        refine D_take 5 rfl (by kernel_rfl) (by kernel_rfl) (by kernel_rfl) (fun _ _ _ h => h) rfl (fun W hS => pu_extract rfl rfl) ?_
        refine D_take 6 rfl (by kernel_rfl) (by kernel_rfl) (by kernel_rfl) (fun _ _ _ h => h) rfl (fun W hS => pu_extract rfl rfl) ?_
        refine D_take 7 rfl (by kernel_rfl) (by kernel_rfl) (by kernel_rfl) (fun _ _ _ h => h) rfl (fun W hS => pu_extract rfl rfl) ?_
        have f33 : Bk w10 qb1 ([.int .i64 0, .int .i64 0, .int .u32 0, .string ByteArray.empty, .slice none (0) (0)]) 70 := (f_qb1_9.no k10)
        refine D_one 9 (by kernel_rfl) (Nx_lo0 rfl (lo_storeRow (C := [.int .i64 2, .int .i64 3, .int .u32 1, .string ({ data := #[120] }), .slice A_q1 ((L_q1).length) (c_q1)]) f33 (by kernel_rfl) rfl rfl (by intro u hu; simp at hu; rcases hu with rfl | rfl | rfl | rfl | rfl <;> rfl) rfl) ?_)
        rintro _ w11 kf11
        obtain ⟨k11, f_qb1_11⟩ := kf11
        replace f_qb1_11 : Bk w11 qb1 ([.int .i64 2, .int .i64 3, .int .u32 1, .string ({ data := #[120] }), .slice A_q1 ((L_q1).length) (c_q1)]) 70 := f_qb1_11
        have kk11 := kk10.trans k11 (fun i hi => .inr (hi ▸ (Nat.le_trans kk5.size N9.le)))
        have f34 : Bk w11 p ([.int .i64 2, .int .i64 3, .int .u32 1, .string ({ data := #[120] }), .slice none (0) (0)]) 70 := (f31.on k11 (Ne.symm ne_qb1_p))
        have o35 : Gt w11 := (o32.on k11 (Ne.symm ne_qb1_0))
        refine ⟨⟨kk11, f34, o35⟩, ?_⟩
        refine D_take 10 rfl (by kernel_rfl) (by kernel_rfl) (by kernel_rfl) (fun _ _ _ h => h) rfl (fun W hS => pu_assign rfl) ?_
        refine D_take 11 rfl (by kernel_rfl) (by kernel_rfl) (by kernel_rfl) (fun _ _ _ h => h) rfl (fun W hS => pu_assign rfl) ?_
        refine D_done (by kernel_rfl) ?_
        have ob36 := (Q10.on k11 (by have := f_qb1_9.lt; omega))
        refine X_cut hK_ [(0, .bool false), (2, .nilIface), (3, .pointer (some ⟨qb1, 0, none⟩)), (4, .bool (decide (([] : List Shr).length + 1 = 2))), (5, .nilIface)] (Sub.cons rfl (Sub.cons rfl (Sub.cons rfl (Sub.cons rfl (Sub.cons rfl (Sub.nil _)))))) ⟨qb1, A_q1, c_q1, L_q1, rfl, (came_snoc (s := ⟨2, 1, none, List.replicate 32 0, 32⟩) (fun i s h => by cases h) hK_q1 ⟨rfl, by simp [ixs], by decide, by decide, rfl⟩), (ixs_in hK_q1), hl_q1, ne_qb1_0, ne_qb1_p, kk11, f34, f_qb1_11, ⟨((ob36).lowb (Nat.le_trans (Nat.le_trans (Nat.le_trans z6 k4.size) k5.size) k9.size)).lowd (Nat.le_trans (Nat.le_trans (Nat.le_trans z6 k4.size) k5.size) k9.size), (Nat.le_trans (Nat.le_trans (Nat.le_trans (Nat.le_trans (Nat.le_trans z6 k4.size) k5.size) k9.size) k10.size) k11.size)⟩, o35⟩
    · have f37 : Bk w4 p ([.int .i64 2, .int .i64 3, .int .u32 1, .string ({ data := #[120] }), .slice none (0) (0)]) 70 := (f_p_3.no k4)
      have o38 : Gt w4 := (o4.no k4)
      have ob39 := (sw5.keptNo k4)
      refine Nx_lo rfl (lo_alloc (L := [.int .i64 0, .int .i64 0, .int .u32 0, .string ByteArray.empty, .slice none (0) (0)]) (by kernel_rfl)) rfl ?_
      rintro _ w12 ⟨qb1, rfl, N12⟩
      have k12 := N12.kp
      have kk12 := kk4.then_ k12
      have ne_qb1_p : qb1 ≠ p := Nat.ne_of_gt (Nat.lt_of_lt_of_le f37.lt N12.le)
      have ne_qb1_0 : qb1 ≠ 0 := Nat.ne_of_gt (Nat.lt_of_lt_of_le o38.lt N12.le)
      have f_qb1_12 : Bk w12 qb1 ([.int .i64 0, .int .i64 0, .int .u32 0, .string ByteArray.empty, .slice none (0) (0)]) 70 := N12.bk
      have f40 : Bk w12 p ([.int .i64 2, .int .i64 3, .int .u32 1, .string ({ data := #[120] }), .slice none (0) (0)]) 70 := (f37.no k12)
      have o41 : Gt w12 := (o38.no k12)
      refine ⟨⟨kk12, f40, o41⟩, ?_⟩
      have ob42 := (ob39.keptNo k12)
      refine D_one 1 (by kernel_rfl) (Nx_lo rfl (lo_make (z := .int .u8 0) (bytes := 1) (ln := 32) (cp := 32) Tryd.underlying22 (by kernel_rfl) rfl rfl rfl rfl rfl (by omega) (by omega) (by omega)) rfl ?_)
      rintro _ w13 ⟨d1, rfl, N13⟩
      have k13 := N13.kp
      have kk13 := kk12.then_ k13
      have ne_d1_p : d1 ≠ p := Nat.ne_of_gt (Nat.lt_of_lt_of_le f40.lt N13.le)
      have ne_d1_qb1 : d1 ≠ qb1 := Nat.ne_of_gt (Nat.lt_of_lt_of_le f_qb1_12.lt N13.le)
      have ne_d1_0 : d1 ≠ 0 := Nat.ne_of_gt (Nat.lt_of_lt_of_le o41.lt N13.le)
      have f_d1_13 : Bk w13 d1 (u8s (List.replicate 32 0)) 5 := by rw [u8s_rep]; exact N13.bk
      have f43 : Bk w13 p ([.int .i64 2, .int .i64 3, .int .u32 1, .string ({ data := #[120] }), .slice none (0) (0)]) 70 := (f40.no k13)
      have o44 : Gt w13 := (o41.no k13)
      refine ⟨⟨kk13, f43, o44⟩, ?_⟩
      refine D_take 2 rfl (by kernel_rfl) (by kernel_rfl) (by kernel_rfl) (fun _ _ _ h => h) rfl (fun W hS => pu_build (L := [.int .u8 2, .int .u32 1, .slice (some ⟨d1, 0, none⟩) (32) (32)]) rfl (by kernel_rfl)) ?_
      have f45 : Bk w13 qb1 ([.int .i64 0, .int .i64 0, .int .u32 0, .string ByteArray.empty, .slice none (0) (0)]) 70 := (f_qb1_12.no k13)
      have ob47 := (ob42.keptNo k13)
      have lm46 := ob47.top
      refine D_one 3 (by kernel_rfl) (Nx_lo rfl (lo_callE (by kernel_rfl) rfl (by rw [(rep_by 32).1] <;> rfl) (submit_ok 1 3 1 ({ data := #[120] }) none ([] : List Shr) 0 2 1 (some ⟨d1, 0, none⟩) (List.replicate 32 0) 32 _ (Ss.nil _ none) (Bs.ofBk f_d1_13 (rep_by 32)) (Nat.le_of_eq (rep_by 32).1) ⟨⟨⟨by decide, by decide, by decide, by decide⟩, (fun i s h => by cases h)⟩, ⟨by decide, rfl, by simp [ixs], by decide, by decide, rfl⟩, by decide, by decide⟩)) rfl ?_)
      rintro _ w14 ⟨A_q1, c_q1, L_q1, rfl, Q14, hK_q1, k14⟩
      have kk14 := kk13.then_ k14
      have z48 : w13.heap.size ≤ w14.heap.size := k14.size
      have hl_q1 : L_q1.length = 1 := by have := congrArg List.length hK_q1; simpa using this
      have f49 : Bk w14 p ([.int .i64 2, .int .i64 3, .int .u32 1, .string ({ data := #[120] }), .slice none (0) (0)]) 70 := (f43.no k14)
      have o50 : Gt w14 := (o44.no k14)
      refine ⟨⟨kk14, f49, o50⟩, ?_⟩
      refine D_take 4 rfl (by kernel_rfl) (by kernel_rfl) (by kernel_rfl) (fun _ _ _ h => h) rfl (fun W hS => pu_move rfl) ?_
      refine D_take 5 rfl (by kernel_rfl) (by kernel_rfl) (by kernel_rfl) (fun _ _ _ h => h) rfl (fun W hS => pu_extract rfl rfl) ?_
      refine D_take 6 rfl (by kernel_rfl) (by kernel_rfl) (by kernel_rfl) (fun _ _ _ h => h) rfl (fun W hS => pu_extract rfl rfl) ?_
      refine D_take 7 rfl (by kernel_rfl) (by kernel_rfl) (by kernel_rfl) (fun _ _ _ h => h) rfl (fun W hS => pu_extract rfl rfl) ?_
      have f51 : Bk w14 qb1 ([.int .i64 0, .int .i64 0, .int .u32 0, .string ByteArray.empty, .slice none (0) (0)]) 70 := (f45.no k14)
      refine D_one 9 (by kernel_rfl) (Nx_lo0 rfl (lo_storeRow (C := [.int .i64 2, .int .i64 3, .int .u32 1, .string ({ data := #[120] }), .slice A_q1 ((L_q1).length) (c_q1)]) f51 (by kernel_rfl) rfl rfl (by intro u hu; simp at hu; rcases hu with rfl | rfl | rfl | rfl | rfl <;> rfl) rfl) ?_)
      rintro _ w15 kf15
      obtain ⟨k15, f_qb1_15⟩ := kf15
      replace f_qb1_15 : Bk w15 qb1 ([.int .i64 2, .int .i64 3, .int .u32 1, .string ({ data := #[120] }), .slice A_q1 ((L_q1).length) (c_q1)]) 70 := f_qb1_15
      have kk15 := kk14.trans k15 (fun i hi => .inr (hi ▸ (Nat.le_trans kk4.size N12.le)))
      have f52 : Bk w15 p ([.int .i64 2, .int .i64 3, .int .u32 1, .string ({ data := #[120] }), .slice none (0) (0)]) 70 := (f49.on k15 (Ne.symm ne_qb1_p))
      have o53 : Gt w15 := (o50.on k15 (Ne.symm ne_qb1_0))
      refine ⟨⟨kk15, f52, o53⟩, ?_⟩
      refine D_take 10 rfl (by kernel_rfl) (by kernel_rfl) (by kernel_rfl) (fun _ _ _ h => h) rfl (fun W hS => pu_assign rfl) ?_
      refine D_take 11 rfl (by kernel_rfl) (by kernel_rfl) (by kernel_rfl) (fun _ _ _ h => h) rfl (fun W hS => pu_assign rfl) ?_
      refine D_done (by kernel_rfl) ?_
      have ob54 := (Q14.on k15 (by have := f45.lt; omega))
      refine X_cut hK_ [(0, .bool false), (2, .nilIface), (3, .pointer (some ⟨qb1, 0, none⟩)), (4, .bool (decide (([] : List Shr).length + 1 = 2))), (5, .nilIface)] (Sub.cons rfl (Sub.cons rfl (Sub.cons rfl (Sub.cons rfl (Sub.cons rfl (Sub.nil _)))))) ⟨qb1, A_q1, c_q1, L_q1, rfl, (came_snoc (s := ⟨2, 1, none, List.replicate 32 0, 32⟩) (fun i s h => by cases h) hK_q1 ⟨rfl, by simp [ixs], by decide, by decide, rfl⟩), (ixs_in hK_q1), hl_q1, ne_qb1_0, ne_qb1_p, kk15, f52, f_qb1_15, ⟨((ob54).lowb (Nat.le_trans (Nat.le_trans (Nat.le_trans z6 k4.size) k12.size) k13.size)).lowd (Nat.le_trans (Nat.le_trans (Nat.le_trans z6 k4.size) k12.size) k13.size), (Nat.le_trans (Nat.le_trans (Nat.le_trans (Nat.le_trans (Nat.le_trans z6 k4.size) k12.size) k13.size) k14.size) k15.size)⟩, o53⟩
  · rintro _ w16 ⟨qb, A_q, c_q, L_q, rfl, hcq, hiq, hl_q, ne_qb_0, ne_qb_p, kk16, f_p_16, f_qb_16, q_16, G_16⟩
    refine C_cut (fun l_ wr => (l_ = [(0, .bool false), (2, .nilIface), (3, .pointer (some ⟨qb, 0, none⟩)), (4, .bool (decide (([] : List Shr).length + 1 = 2))), (5, .nilIface), (8, .iface 91 (.int .i64 12))]) ∧ (Kp No w wr) ∧ (Bk wr p ([.int .i64 2, .int .i64 3, .int .u32 1, .string ({ data := #[120] }), .slice none (0) (0)]) 70) ∧ (Bk wr qb ([.int .i64 2, .int .i64 3, .int .u32 1, .string ({ data := #[120] }), .slice A_q ((L_q).length) (c_q)]) 70) ∧ (Sw 50 w3.heap.size wr w3.heap.size (.slice A_q ((L_q).length) (c_q)) (L_q) ∧ w3.heap.size ≤ (wr).heap.size) ∧ (Gt wr)) (fun K_ hK_ => ?_) ?_
    · refine D_begin (fun W => Kp No w W ∧ Bk W p ([.int .i64 2, .int .i64 3, .int .u32 1, .string ({ data := #[120] }), .slice none (0) (0)]) 70 ∧ Bk W qb ([.int .i64 2, .int .i64 3, .int .u32 1, .string ({ data := #[120] }), .slice A_q ((L_q).length) (c_q)]) 70 ∧ Gt W) 12 rfl (by kernel_rfl) ⟨kk16.drew, f_p_16.draw, f_qb_16.draw, G_16.draw⟩ ?_
      intro w17 k17 _
      have kk17 := kk16.then_ k17
      refine D_take 0 rfl (by kernel_rfl) (by kernel_rfl) (by kernel_rfl) (fun _ _ _ h => h) rfl (fun W hS => pu_loadRow (len := 5) hS.2.2.1 (by kernel_rfl) (by kernel_rfl) rfl rfl) ?_
      refine D_two 1 8 (by kernel_rfl) ?_ ?_
      · have f55 : Bk w17 p ([.int .i64 2, .int .i64 3, .int .u32 1, .string ({ data := #[120] }), .slice none (0) (0)]) 70 := (f_p_16.no k17)
        have f56 : Bk w17 qb ([.int .i64 2, .int .i64 3, .int .u32 1, .string ({ data := #[120] }), .slice A_q ((L_q).length) (c_q)]) 70 := (f_qb_16.no k17)
        have o57 : Gt w17 := (G_16.no k17)
        have ob58 := (q_16.1.keptNo k17)
        refine Nx_lo rfl (lo_make (z := .int .u8 0) (bytes := 1) (ln := 32) (cp := 32) Tryd.underlying22 (by kernel_rfl) rfl rfl rfl rfl rfl (by omega) (by omega) (by omega)) rfl ?_
        rintro _ w18 ⟨d2, rfl, N18⟩
        have k18 := N18.kp
        have kk18 := kk17.then_ k18
        have ne_d2_p : d2 ≠ p := Nat.ne_of_gt (Nat.lt_of_lt_of_le f55.lt N18.le)
        have ne_d2_qb : d2 ≠ qb := Nat.ne_of_gt (Nat.lt_of_lt_of_le f56.lt N18.le)
        have ne_d2_0 : d2 ≠ 0 := Nat.ne_of_gt (Nat.lt_of_lt_of_le o57.lt N18.le)
        have f_d2_18 : Bk w18 d2 (u8s (List.replicate 32 0)) 5 := by rw [u8s_rep]; exact N18.bk
        have f59 : Bk w18 p ([.int .i64 2, .int .i64 3, .int .u32 1, .string ({ data := #[120] }), .slice none (0) (0)]) 70 := (f55.no k18)
        have f60 : Bk w18 qb ([.int .i64 2, .int .i64 3, .int .u32 1, .string ({ data := #[120] }), .slice A_q ((L_q).length) (c_q)]) 70 := (f56.no k18)
        have o61 : Gt w18 := (o57.no k18)
        refine ⟨⟨kk18, f59, f60, o61⟩, ?_⟩
        refine D_take 2 rfl (by kernel_rfl) (by kernel_rfl) (by kernel_rfl) (fun _ _ _ h => h) rfl (fun W hS => pu_build (L := [.int .u8 2, .int .u32 1, .slice (some ⟨d2, 0, none⟩) (32) (32)]) rfl (by kernel_rfl)) ?_
        refine D_two 3 8 (by kernel_rfl) ?_ ?_
        · have ob62 := (ob58.keptNo k18)
          refine Nx_lo rfl (lo_callE (by kernel_rfl) rfl (by rw [(rep_by 32).1] <;> rfl) (submit_share 1 3 1 ({ data := #[120] }) A_q L_q c_q ({ data := #[120] }) 2 1 (some ⟨d2, 0, none⟩) (List.replicate 32 0) 32 _ ob62.ss ⟨⟨⟨by decide, by decide, by omega, by have := ob62.le; omega⟩, hcq⟩, rfl, ⟨by omega, rfl, fun h => h.1 hiq⟩, by decide, by decide, by decide⟩)) rfl ?_
          rintro _ w19 ⟨rfl, k19⟩
          have kk19 := kk18.then_ k19
          have f63 : Bk w19 p ([.int .i64 2, .int .i64 3, .int .u32 1, .string ({ data := #[120] }), .slice none (0) (0)]) 70 := (f59.no k19)
          have f64 : Bk w19 qb ([.int .i64 2, .int .i64 3, .int .u32 1, .string ({ data := #[120] }), .slice A_q ((L_q).length) (c_q)]) 70 := (f60.no k19)
          have o65 : Gt w19 := (o61.no k19)
          refine ⟨⟨kk19, f63, f64, o65⟩, ?_⟩
          refine D_take 4 rfl (by kernel_rfl) (by kernel_rfl) (by kernel_rfl) (fun _ _ _ h => h) rfl (fun W hS => pu_move rfl) ?_
          refine D_take 5 rfl (by kernel_rfl) (by kernel_rfl) (by kernel_rfl) (fun _ _ _ h => h) rfl (fun W hS => pu_extract rfl rfl) ?_
          refine D_take 6 rfl (by kernel_rfl) (by kernel_rfl) (by kernel_rfl) (fun _ _ _ h => h) rfl (fun W hS => pu_extract rfl rfl) ?_
          refine D_take 7 rfl (by kernel_rfl) (by kernel_rfl) (by kernel_rfl) (fun _ _ _ h => h) rfl (fun W hS => pu_extract rfl rfl) ?_
          have f66 : Bk w19 d2 (u8s (List.replicate 32 0)) 5 := (f_d2_18.no k19)
          have ob67 := (ob62.keptNo k19)
          refine D_one 8 (by kernel_rfl) (Nx_lo rfl (lo_alloc (L := [.int .i64 0, .int .i64 0, .int .u32 0, .string ByteArray.empty, .slice none (0) (0)]) (by kernel_rfl)) rfl ?_)
          rintro _ w20 ⟨z, rfl, N20⟩
          have k20 := N20.kp
          have kk20 := kk19.then_ k20
          have ne_z_p : z ≠ p := Nat.ne_of_gt (Nat.lt_of_lt_of_le f63.lt N20.le)
          have ne_z_qb : z ≠ qb := Nat.ne_of_gt (Nat.lt_of_lt_of_le f64.lt N20.le)
          have ne_z_d2 : z ≠ d2 := Nat.ne_of_gt (Nat.lt_of_lt_of_le f66.lt N20.le)
          have ne_z_0 : z ≠ 0 := Nat.ne_of_gt (Nat.lt_of_lt_of_le o65.lt N20.le)
          have f_z_20 : Bk w20 z ([.int .i64 0, .int .i64 0, .int .u32 0, .string ByteArray.empty, .slice none (0) (0)]) 70 := N20.bk
          have f68 : Bk w20 p ([.int .i64 2, .int .i64 3, .int .u32 1, .string ({ data := #[120] }), .slice none (0) (0)]) 70 := (f63.no k20)
          have f69 : Bk w20 qb ([.int .i64 2, .int .i64 3, .int .u32 1, .string ({ data := #[120] }), .slice A_q ((L_q).length) (c_q)]) 70 := (f64.no k20)
          have o70 : Gt w20 := (o65.no k20)
          refine ⟨⟨kk20, f68, f69, o70⟩, ?_⟩
          refine D_one 9 (by kernel_rfl) (Nx_lo0 rfl (lo_storeRow (C := [.int .i64 0, .int .i64 0, .int .u32 0, .string ByteArray.empty, .slice none (0) (0)]) f_z_20 (by kernel_rfl) rfl rfl (by intro u hu; simp at hu; rcases hu with rfl | rfl | rfl | rfl | rfl <;> rfl) rfl) ?_)
          rintro _ w21 kf21
          obtain ⟨k21, f_z_21⟩ := kf21
          replace f_z_21 : Bk w21 z ([.int .i64 0, .int .i64 0, .int .u32 0, .string ByteArray.empty, .slice none (0) (0)]) 70 := f_z_21
          have kk21 := kk20.trans k21 (fun i hi => .inr (hi ▸ (Nat.le_trans kk19.size N20.le)))
          have f71 : Bk w21 p ([.int .i64 2, .int .i64 3, .int .u32 1, .string ({ data := #[120] }), .slice none (0) (0)]) 70 := (f68.on k21 (Ne.symm ne_z_p))
          have f72 : Bk w21 qb ([.int .i64 2, .int .i64 3, .int .u32 1, .string ({ data := #[120] }), .slice A_q ((L_q).length) (c_q)]) 70 := (f69.on k21 (Ne.symm ne_z_qb))
          have o73 : Gt w21 := (o70.on k21 (Ne.symm ne_z_0))
          refine ⟨⟨kk21, f71, f72, o73⟩, ?_⟩
          refine D_take 10 rfl (by kernel_rfl) (by kernel_rfl) (by kernel_rfl) (fun _ _ _ h => h) rfl (fun W hS => pu_assign rfl) ?_
          refine D_take 11 rfl (by kernel_rfl) (by kernel_rfl) (by kernel_rfl) (fun _ _ _ h => h) rfl (fun W hS => pu_assign rfl) ?_
          refine D_done (by kernel_rfl) ?_
          have ob74 := ((ob67.keptNo k20).onN k21 ob67 N20.le)
          refine X_cut hK_ [(0, .bool false), (2, .nilIface), (3, .pointer (some ⟨qb, 0, none⟩)), (4, .bool (decide (([] : List Shr).length + 1 = 2))), (5, .nilIface), (8, .iface 91 (.int .i64 12))] (Sub.cons rfl (Sub.cons rfl (Sub.cons rfl (Sub.cons rfl (Sub.cons rfl (Sub.cons rfl (Sub.nil _))))))) ⟨rfl, kk21, f71, f72, ⟨ob74, (Nat.le_trans (Nat.le_trans (Nat.le_trans (Nat.le_trans (Nat.le_trans q_16.2 k17.size) k18.size) k19.size) k20.size) k21.size)⟩, o73⟩
        · have ob75 := (ob58.keptNo k18)
          refine Nx_lo rfl (lo_alloc (L := [.int .i64 0, .int .i64 0, .int .u32 0, .string ByteArray.empty, .slice none (0) (0)]) (by kernel_rfl)) rfl ?_
          rintro _ w22 ⟨z, rfl, N22⟩
          have k22 := N22.kp
          have kk22 := kk18.then_ k22
          have ne_z_p : z ≠ p := Nat.ne_of_gt (Nat.lt_of_lt_of_le f59.lt N22.le)
          have ne_z_qb : z ≠ qb := Nat.ne_of_gt (Nat.lt_of_lt_of_le f60.lt N22.le)
          have ne_z_d2 : z ≠ d2 := Nat.ne_of_gt (Nat.lt_of_lt_of_le f_d2_18.lt N22.le)
          have ne_z_0 : z ≠ 0 := Nat.ne_of_gt (Nat.lt_of_lt_of_le o61.lt N22.le)
          have f_z_22 : Bk w22 z ([.int .i64 0, .int .i64 0, .int .u32 0, .string ByteArray.empty, .slice none (0) (0)]) 70 := N22.bk
          have f76 : Bk w22 p ([.int .i64 2, .int .i64 3, .int .u32 1, .string ({ data := #[120] }), .slice none (0) (0)]) 70 := (f59.no k22)
          have f77 : Bk w22 qb ([.int .i64 2, .int .i64 3, .int .u32 1, .string ({ data := #[120] }), .slice A_q ((L_q).length) (c_q)]) 70 := (f60.no k22)
          have o78 : Gt w22 := (o61.no k22)
          refine ⟨⟨kk22, f76, f77, o78⟩, ?_⟩
          have ob79 := (ob75.keptNo k22)
          have f80 : Bk w22 d2 (u8s (List.replicate 32 0)) 5 := (f_d2_18.no k22)
          refine D_one 3 (by kernel_rfl) (Nx_lo rfl (lo_callE (by kernel_rfl) rfl (by rw [(rep_by 32).1] <;> rfl) (submit_share 1 3 1 ({ data := #[120] }) A_q L_q c_q ({ data := #[120] }) 2 1 (some ⟨d2, 0, none⟩) (List.replicate 32 0) 32 _ ob79.ss ⟨⟨⟨by decide, by decide, by omega, by have := ob79.le; omega⟩, hcq⟩, rfl, ⟨by omega, rfl, fun h => h.1 hiq⟩, by decide, by decide, by decide⟩)) rfl ?_)
          rintro _ w23 ⟨rfl, k23⟩
          have kk23 := kk22.then_ k23
          have f81 : Bk w23 p ([.int .i64 2, .int .i64 3, .int .u32 1, .string ({ data := #[120] }), .slice none (0) (0)]) 70 := (f76.no k23)
          have f82 : Bk w23 qb ([.int .i64 2, .int .i64 3, .int .u32 1, .string ({ data := #[120] }), .slice A_q ((L_q).length) (c_q)]) 70 := (f77.no k23)
          have o83 : Gt w23 := (o78.no k23)
          refine ⟨⟨kk23, f81, f82, o83⟩, ?_⟩
          refine D_take 4 rfl (by kernel_rfl) (by kernel_rfl) (by kernel_rfl) (fun _ _ _ h => h) rfl (fun W hS => pu_move rfl) ?_
          refine D_take 5 rfl (by kernel_rfl) (by kernel_rfl) (by kernel_rfl) (fun _ _ _ h => h) rfl (fun W hS => pu_extract rfl rfl) ?_
          refine D_take 6 rfl (by kernel_rfl) (by kernel_rfl) (by kernel_rfl) (fun _ _ _ h => h) rfl (fun W hS => pu_extract rfl rfl) ?_
          refine D_take 7 rfl (by kernel_rfl) (by kernel_rfl) (by kernel_rfl) (fun _ _ _ h => h) rfl (fun W hS => pu_extract rfl rfl) ?_
          have f84 : Bk w23 z ([.int .i64 0, .int .i64 0, .int .u32 0, .string ByteArray.empty, .slice none (0) (0)]) 70 := (f_z_22.no k23)
          refine D_one 9 (by kernel_rfl) (Nx_lo0 rfl (lo_storeRow (C := [.int .i64 0, .int .i64 0, .int .u32 0, .string ByteArray.empty, .slice none (0) (0)]) f84 (by kernel_rfl) rfl rfl (by intro u hu; simp at hu; rcases hu with rfl | rfl | rfl | rfl | rfl <;> rfl) rfl) ?_)
          rintro _ w24 kf24
          obtain ⟨k24, f_z_24⟩ := kf24
          replace f_z_24 : Bk w24 z ([.int .i64 0, .int .i64 0, .int .u32 0, .string ByteArray.empty, .slice none (0) (0)]) 70 := f_z_24
          have kk24 := kk23.trans k24 (fun i hi => .inr (hi ▸ (Nat.le_trans kk18.size N22.le)))
          have f85 : Bk w24 p ([.int .i64 2, .int .i64 3, .int .u32 1, .string ({ data := #[120] }), .slice none (0) (0)]) 70 := (f81.on k24 (Ne.symm ne_z_p))
          have f86 : Bk w24 qb ([.int .i64 2, .int .i64 3, .int .u32 1, .string ({ data := #[120] }), .slice A_q ((L_q).length) (c_q)]) 70 := (f82.on k24 (Ne.symm ne_z_qb))
          have o87 : Gt w24 := (o83.on k24 (Ne.symm ne_z_0))
          refine ⟨⟨kk24, f85, f86, o87⟩, ?_⟩
          refine D_take 10 rfl (by kernel_rfl) (by kernel_rfl) (by kernel_rfl) (fun _ _ _ h => h) rfl (fun W hS => pu_assign rfl) ?_
          refine D_take 11 rfl (by kernel_rfl) (by kernel_rfl) (by kernel_rfl) (fun _ _ _ h => h) rfl (fun W hS => pu_assign rfl) ?_
          refine D_done (by kernel_rfl) ?_
          have ob88 := ((ob79.keptNo k23).onN k24 ob75 N22.le)
          refine X_cut hK_ [(0, .bool false), (2, .nilIface), (3, .pointer (some ⟨qb, 0, none⟩)), (4, .bool (decide (([] : List Shr).length + 1 = 2))), (5, .nilIface), (8, .iface 91 (.int .i64 12))] (Sub.cons rfl (Sub.cons rfl (Sub.cons rfl (Sub.cons rfl (Sub.cons rfl (Sub.cons rfl (Sub.nil _))))))) ⟨rfl, kk24, f85, f86, ⟨ob88, (Nat.le_trans (Nat.le_trans (Nat.le_trans (Nat.le_trans (Nat.le_trans q_16.2 k17.size) k18.size) k22.size) k23.size) k24.size)⟩, o87⟩
      · have f89 : Bk w17 p ([.int .i64 2, .int .i64 3, .int .u32 1, .string ({ data := #[120] }), .slice none (0) (0)]) 70 := (f_p_16.no k17)
        have f90 : Bk w17 qb ([.int .i64 2, .int .i64 3, .int .u32 1, .string ({ data := #[120] }), .slice A_q ((L_q).length) (c_q)]) 70 := (f_qb_16.no k17)
        have o91 : Gt w17 := (G_16.no k17)
        have ob92 := (q_16.1.keptNo k17)
        refine Nx_lo rfl (lo_alloc (L := [.int .i64 0, .int .i64 0, .int .u32 0, .string ByteArray.empty, .slice none (0) (0)]) (by kernel_rfl)) rfl ?_
        rintro _ w25 ⟨z, rfl, N25⟩
        have k25 := N25.kp
        have kk25 := kk17.then_ k25
        have ne_z_p : z ≠ p := Nat.ne_of_gt (Nat.lt_of_lt_of_le f89.lt N25.le)
        have ne_z_qb : z ≠ qb := Nat.ne_of_gt (Nat.lt_of_lt_of_le f90.lt N25.le)
        have ne_z_0 : z ≠ 0 := Nat.ne_of_gt (Nat.lt_of_lt_of_le o91.lt N25.le)
        have f_z_25 : Bk w25 z ([.int .i64 0, .int .i64 0, .int .u32 0, .string ByteArray.empty, .slice none (0) (0)]) 70 := N25.bk
        have f93 : Bk w25 p ([.int .i64 2, .int .i64 3, .int .u32 1, .string ({ data := #[120] }), .slice none (0) (0)]) 70 := (f89.no k25)
        have f94 : Bk w25 qb ([.int .i64 2, .int .i64 3, .int .u32 1, .string ({ data := #[120] }), .slice A_q ((L_q).length) (c_q)]) 70 := (f90.no k25)
        have o95 : Gt w25 := (o91.no k25)
        refine ⟨⟨kk25, f93, f94, o95⟩, ?_⟩
        have ob96 := (ob92.keptNo k25)
        refine D_one 1 (by kernel_rfl) (Nx_lo rfl (lo_make (z := .int .u8 0) (bytes := 1) (ln := 32) (cp := 32) Tryd.underlying22 (by kernel_rfl) rfl rfl rfl rfl rfl (by omega) (by omega) (by omega)) rfl ?_)
        rintro _ w26 ⟨d2, rfl, N26⟩
        have k26 := N26.kp
        have kk26 := kk25.then_ k26
        have ne_d2_p : d2 ≠ p := Nat.ne_of_gt (Nat.lt_of_lt_of_le f93.lt N26.le)
        have ne_d2_qb : d2 ≠ qb := Nat.ne_of_gt (Nat.lt_of_lt_of_le f94.lt N26.le)
        have ne_d2_z : d2 ≠ z := Nat.ne_of_gt (Nat.lt_of_lt_of_le f_z_25.lt N26.le)
        have ne_d2_0 : d2 ≠ 0 := Nat.ne_of_gt (Nat.lt_of_lt_of_le o95.lt N26.le)
        have f_d2_26 : Bk w26 d2 (u8s (List.replicate 32 0)) 5 := by rw [u8s_rep]; exact N26.bk
        have f97 : Bk w26 p ([.int .i64 2, .int .i64 3, .int .u32 1, .string ({ data := #[120] }), .slice none (0) (0)]) 70 := (f93.no k26)
        have f98 : Bk w26 qb ([.int .i64 2, .int .i64 3, .int .u32 1, .string ({ data := #[120] }), .slice A_q ((L_q).length) (c_q)]) 70 := (f94.no k26)
        have o99 : Gt w26 := (o95.no k26)
        refine ⟨⟨kk26, f97, f98, o99⟩, ?_⟩
        refine D_take 2 rfl (by kernel_rfl) (by kernel_rfl) (by kernel_rfl) (fun _ _ _ h => h) rfl (fun W hS => pu_build (L := [.int .u8 2, .int .u32 1, .slice (some ⟨d2, 0, none⟩) (32) (32)]) rfl (by kernel_rfl)) ?_
        have ob100 := (ob96.keptNo k26)
        refine D_one 3 (by kernel_rfl) (Nx_lo rfl (lo_callE (by kernel_rfl) rfl (by rw [(rep_by 32).1] <;> rfl) (submit_share 1 3 1 ({ data := #[120] }) A_q L_q c_q ({ data := #[120] }) 2 1 (some ⟨d2, 0, none⟩) (List.replicate 32 0) 32 _ ob100.ss ⟨⟨⟨by decide, by decide, by omega, by have := ob100.le; omega⟩, hcq⟩, rfl, ⟨by omega, rfl, fun h => h.1 hiq⟩, by decide, by decide, by decide⟩)) rfl ?_)
        rintro _ w27 ⟨rfl, k27⟩
        have kk27 := kk26.then_ k27
        have f101 : Bk w27 p ([.int .i64 2, .int .i64 3, .int .u32 1, .string ({ data := #[120] }), .slice none (0) (0)]) 70 := (f97.no k27)
        have f102 : Bk w27 qb ([.int .i64 2, .int .i64 3, .int .u32 1, .string ({ data := #[120] }), .slice A_q ((L_q).length) (c_q)]) 70 := (f98.no k27)
        have o103 : Gt w27 := (o99.no k27)
        refine ⟨⟨kk27, f101, f102, o103⟩, ?_⟩
        refine D_take 4 rfl (by kernel_rfl) (by kernel_rfl) (by kernel_rfl) (fun _ _ _ h => h) rfl (fun W hS => pu_move rfl) ?_
        refine D_take 5 rfl (by kernel_rfl) (by kernel_rfl) (by kernel_rfl) (fun _ _ _ h => h) rfl (fun W hS => pu_extract rfl rfl) ?_
        refine D_take 6 rfl (by kernel_rfl) (by kernel_rfl) (by kernel_rfl) (fun _ _ _ h => h) rfl (fun W hS => pu_extract rfl rfl) ?_
        refine D_take 7 rfl (by kernel_rfl) (by kernel_rfl) (by kernel_rfl) (fun _ _ _ h => h) rfl (fun W hS => pu_extract rfl rfl) ?_
        have f104 : Bk w27 z ([.int .i64 0, .int .i64 0, .int .u32 0, .string ByteArray.empty, .slice none (0) (0)]) 70 := ((f_z_25.no k26).no k27)
        refine D_one 9 (by kernel_rfl) (Nx_lo0 rfl (lo_storeRow (C := [.int .i64 0, .int .i64 0, .int .u32 0, .string ByteArray.empty, .slice none (0) (0)]) f104 (by kernel_rfl) rfl rfl (by intro u hu; simp at hu; rcases hu with rfl | rfl | rfl | rfl | rfl <;> rfl) rfl) ?_)
        rintro _ w28 kf28
        obtain ⟨k28, f_z_28⟩ := kf28
        replace f_z_28 : Bk w28 z ([.int .i64 0, .int .i64 0, .int .u32 0, .string ByteArray.empty, .slice none (0) (0)]) 70 := f_z_28
        have kk28 := kk27.trans k28 (fun i hi => .inr (hi ▸ (Nat.le_trans kk17.size N25.le)))
        have f105 : Bk w28 p ([.int .i64 2, .int .i64 3, .int .u32 1, .string ({ data := #[120] }), .slice none (0) (0)]) 70 := (f101.on k28 (Ne.symm ne_z_p))
        have f106 : Bk w28 qb ([.int .i64 2, .int .i64 3, .int .u32 1, .string ({ data := #[120] }), .slice A_q ((L_q).length) (c_q)]) 70 := (f102.on k28 (Ne.symm ne_z_qb))
        have o107 : Gt w28 := (o103.on k28 (Ne.symm ne_z_0))
        refine ⟨⟨kk28, f105, f106, o107⟩, ?_⟩
        refine D_take 10 rfl (by kernel_rfl) (by kernel_rfl) (by kernel_rfl) (fun _ _ _ h => h) rfl (fun W hS => pu_assign rfl) ?_
        refine D_take 11 rfl (by kernel_rfl) (by kernel_rfl) (by kernel_rfl) (fun _ _ _ h => h) rfl (fun W hS => pu_assign rfl) ?_
        refine D_done (by kernel_rfl) ?_
        have ob108 := ((ob100.keptNo k27).onN k28 ob92 N25.le)
        refine X_cut hK_ [(0, .bool false), (2, .nilIface), (3, .pointer (some ⟨qb, 0, none⟩)), (4, .bool (decide (([] : List Shr).length + 1 = 2))), (5, .nilIface), (8, .iface 91 (.int .i64 12))] (Sub.cons rfl (Sub.cons rfl (Sub.cons rfl (Sub.cons rfl (Sub.cons rfl (Sub.cons rfl (Sub.nil _))))))) ⟨rfl, kk28, f105, f106, ⟨ob108, (Nat.le_trans (Nat.le_trans (Nat.le_trans (Nat.le_trans (Nat.le_trans q_16.2 k17.size) k25.size) k26.size) k27.size) k28.size)⟩, o107⟩
    · rintro _ w29 ⟨rfl, kk29, f_p_29, f_qb_29, q_29, G_29⟩
      refine C_seq (fun K109 hK109 => ?_)
      refine D_begin (fun W => Kp No w W ∧ Bk W p ([.int .i64 2, .int .i64 3, .int .u32 1, .string ({ data := #[120] }), .slice none (0) (0)]) 70 ∧ Bk W qb ([.int .i64 2, .int .i64 3, .int .u32 1, .string ({ data := #[120] }), .slice A_q ((L_q).length) (c_q)]) 70 ∧ Gt W) 8 rfl (by kernel_rfl) ⟨kk29.drew, f_p_29.draw, f_qb_29.draw, G_29.draw⟩ ?_
      intro w30 k30 _
      have kk30 := kk29.then_ k30
      refine D_take 1 rfl (by kernel_rfl) (by kernel_rfl) (by kernel_rfl) (fun _ _ _ h => h) rfl (fun W hS => pu_loadRow (len := 5) hS.2.2.1 (by kernel_rfl) (by kernel_rfl) rfl rfl) ?_
      have f110 : Bk w30 p ([.int .i64 2, .int .i64 3, .int .u32 1, .string ({ data := #[120] }), .slice none (0) (0)]) 70 := (f_p_29.no k30)
      have f111 : Bk w30 qb ([.int .i64 2, .int .i64 3, .int .u32 1, .string ({ data := #[120] }), .slice A_q ((L_q).length) (c_q)]) 70 := (f_qb_29.no k30)
      have o112 : Gt w30 := (G_29.no k30)
      have ob113 := (q_29.1.keptNo k30)
      refine D_one 0 (by kernel_rfl) (Nx_lo rfl (lo_call (by kernel_rfl) rfl (gf_new _)) rfl ?_)
      rintro _ w31 ⟨b4_0, rfl, le31, T31, k31⟩
      have kk31 := kk30.then_ k31
      have ne_b4_0_p : b4_0 ≠ p := Nat.ne_of_gt (Nat.lt_of_lt_of_le f110.lt le31)
      have ne_b4_0_qb : b4_0 ≠ qb := Nat.ne_of_gt (Nat.lt_of_lt_of_le f111.lt le31)
      have ne_b4_0_0 : b4_0 ≠ 0 := Nat.ne_of_gt (Nat.lt_of_lt_of_le o112.lt le31)
      have f114 : Bk w31 p ([.int .i64 2, .int .i64 3, .int .u32 1, .string ({ data := #[120] }), .slice none (0) (0)]) 70 := (f110.no k31)
      have f115 : Bk w31 qb ([.int .i64 2, .int .i64 3, .int .u32 1, .string ({ data := #[120] }), .slice A_q ((L_q).length) (c_q)]) 70 := (f111.no k31)
      have o116 : Gt w31 := (o112.no k31)
      refine ⟨⟨kk31, f114, f115, o116⟩, ?_⟩
      have ob117 := (ob113.keptNo k31)
      refine D_one 2 (by kernel_rfl) (Nx_lo rfl (lo_call (by kernel_rfl) rfl (secret_short b4_0 1 3 1 ({ data := #[120] }) A_q L_q c_q _ ob117.ss ⟨⟨⟨by decide, by decide, by omega, by have := ob117.le; omega⟩, hcq⟩, by omega⟩)) rfl ?_)
      rintro _ w32 ⟨rfl, k32⟩
      have kk32 := kk31.then_ k32
      have f118 : Bk w32 p ([.int .i64 2, .int .i64 3, .int .u32 1, .string ({ data := #[120] }), .slice none (0) (0)]) 70 := (f114.no k32)
      have f119 : Bk w32 qb ([.int .i64 2, .int .i64 3, .int .u32 1, .string ({ data := #[120] }), .slice A_q ((L_q).length) (c_q)]) 70 := (f115.no k32)
      have o120 : Gt w32 := (o116.no k32)
      refine ⟨⟨kk32, f118, f119, o120⟩, ?_⟩
      refine D_take 3 rfl (by kernel_rfl) (by kernel_rfl) (by kernel_rfl) (fun _ _ _ h => h) rfl (fun W hS => pu_move rfl) ?_
      refine D_take 4 rfl (by kernel_rfl) (by kernel_rfl) (by kernel_rfl) (fun _ _ _ h => h) rfl (fun W hS => pu_extract rfl rfl) ?_
      refine D_take 5 rfl (by kernel_rfl) (by kernel_rfl) (by kernel_rfl) (fun _ _ _ h => h) rfl (fun W hS => pu_extract rfl rfl) ?_
      refine D_take 6 rfl (by kernel_rfl) (by kernel_rfl) (by kernel_rfl) (fun _ _ _ h => h) rfl (fun W hS => pu_assign rfl) ?_
      refine D_take 7 rfl (by kernel_rfl) (by kernel_rfl) (by kernel_rfl) (fun _ _ _ h => h) rfl (fun W hS => pu_assign rfl) ?_
      refine D_done (by kernel_rfl) ?_
      refine X_then hK109 ?_
      refine C_seq (fun K121 hK121 => ?_)
      refine C_region ?_
      refine R_pu (pu_move rfl) rfl ?_
      refine R_pu (pu_eqlnn (by kernel_rfl) rfl) rfl ?_
      refine R_pu (pu_move rfl) rfl ?_
      refine R_gpu rfl rfl (pu_move rfl) rfl ?_
      refine R_gpu rfl rfl (pu_eqlnn (by kernel_rfl) rfl) rfl ?_
      refine R_pu (pu_pickt rfl rfl) rfl ?_
      refine R_pu (pu_move rfl) rfl ?_
      refine R_gpu rfl rfl (pu_move rfl) rfl ?_
      refine R_gpu rfl rfl (pu_true (pu_notd rfl) (by simp)) rfl ?_
      refine R_pu (pu_pickt rfl rfl) rfl ?_
      refine R_pu (pu_move rfl) rfl ?_
      refine R_gpu rfl rfl (pu_fieldAddr (off := 4) (o' := 4) (by kernel_rfl) rfl rfl) rfl ?_
      refine R_gpu rfl rfl (pu_loadK f119 (by kernel_rfl) rfl rfl) rfl ?_
      refine R_gpu rfl rfl (pu_len Tryd.underlying29 rfl) rfl ?_
      refine R_gpu rfl rfl (pu_true (pu_eql (p := ((L_q).length) = 1) rfl rfl (by omega)) hl_q) rfl ?_
      refine R_pu (pu_pickt rfl rfl) rfl ?_
      refine R_pu (pu_move rfl) rfl ?_
      refine R_gpu rfl rfl (pu_move rfl) rfl ?_
      refine R_glo rfl rfl (lo_call (by kernel_rfl) rfl (num23_err 12 _ o120)) rfl ?_
      rintro _ w33 ⟨rfl, k33⟩
      have kk33 := kk32.then_ k33
      refine R_gpu rfl rfl (pu_true (pu_eql (p := (12 : Nat) = 12) rfl rfl (by omega)) (by decide)) rfl ?_
      refine R_pu (pu_pickt rfl rfl) rfl ?_
      refine R_pu (pu_move rfl) rfl ?_
      refine R_gpu rfl rfl (pu_move rfl) rfl ?_
      have o122 : Gt w33 := (o120.no k33)
      refine R_glo rfl rfl (lo_call (by kernel_rfl) rfl (num23_err 2 _ o122)) rfl ?_
      rintro _ w34 ⟨rfl, k34⟩
      have kk34 := kk33.then_ k34
      refine R_gpu rfl rfl (pu_true (pu_eql (p := (2 : Nat) = 2) rfl rfl (by omega)) (by decide)) rfl ?_
      refine R_pu (pu_pickt rfl rfl) rfl ?_
      refine R_pu (pu_move rfl) rfl ?_
      have f123 : Bk w34 qb ([.int .i64 2, .int .i64 3, .int .u32 1, .string ({ data := #[120] }), .slice A_q ((L_q).length) (c_q)]) 70 := ((f119.no k33).no k34)
      refine R_gpu rfl rfl (pu_loadRow (len := 5) f123 (by kernel_rfl) (by kernel_rfl) rfl rfl) rfl ?_
      refine R_glo rfl rfl (lo_call (by kernel_rfl) rfl (reset_ 1 3 1 ({ data := #[120] }) A_q ((L_q).length) c_q _)) rfl ?_
      rintro _ w35 ⟨rfl, k35⟩
      have kk35 := kk34.then_ k35
      refine R_gpu rfl rfl (pu_field (off := 0) Tryd.underlying70 rfl rfl rfl rfl) rfl ?_
      refine R_gpu rfl rfl (pu_len Tryd.underlying29 rfl) rfl ?_
      refine R_gpu rfl rfl (pu_true (pu_eql (p := (0 : Nat) = 0) rfl rfl (by omega)) (by decide)) rfl ?_
      refine R_pu (pu_pickt rfl rfl) rfl ?_
      refine R_pu (pu_assign rfl) rfl ?_
      refine R_nil ?_
      refine X_then hK121 ?_
      refine C_ret ?_
      exact X_ret1 (.inl rfl) rfl rfl ⟨rfl, kk35⟩
end Go.Proofs.YtjbdimfpjbmggaaDoor
