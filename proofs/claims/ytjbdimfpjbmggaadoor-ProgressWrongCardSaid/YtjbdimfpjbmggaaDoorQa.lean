/- The bodies of bursarylaw23's sure. -/
import Derived.Test.YtjbdimfpjbmggaaDoorPr
set_option linter.unusedVariables false
set_option linter.unusedSimpArgs false
namespace Go.Proofs.YtjbdimfpjbmggaaDoor
open Go.RowKit Gm
set_option maxRecDepth 100000 in
set_option maxHeartbeats 2000000 in
theorem sure23  (w : World) (hG : Gt w) : Ret Tryd.prog 28 #[] w (fun v w' => v = .bool true ∧ Kp No w w') := by
  have kk0 := Kp.refl No w
  refine enter (n := 71) [] Tryd.func28 rfl rfl rfl ?_
  show Cw _ _ _ _ [] _
  refine C_seq (fun K1 hK1 => ?_)
  refine C_region ?_
  refine R_pu (pu_assign rfl) rfl ?_
  refine R_nil ?_
  refine X_then hK1 ?_
  refine C_seq (fun K2 hK2 => ?_)
  refine C_region ?_
  refine R_pu (pu_build (L := [.int .i64 2, .int .i64 3, .int .u32 1]) rfl (by kernel_rfl)) rfl ?_
  refine R_lo (lo_call (by kernel_rfl) rfl (start_ok 1 3 1 ({ data := #[120] }) _ ⟨by decide, by decide⟩)) rfl ?_
  rintro _ w1 ⟨rfl, k1⟩
  have kk1 := kk0.then_ k1
  refine R_pu (pu_move rfl) rfl ?_
  refine R_pu (pu_extract rfl rfl) rfl ?_
  refine R_pu (pu_extract rfl rfl) rfl ?_
  have o3 : Gt w1 := (hG.no k1)
  refine R_lo (lo_alloc (L := [.int .i64 0, .int .i64 0, .int .u32 0, .string ByteArray.empty, .slice none (0) (0)]) (by kernel_rfl)) rfl ?_
  rintro _ w2 ⟨p, rfl, N2⟩
  have k2 := N2.kp
  have kk2 := kk1.then_ k2
  have ne_p_0 : p ≠ 0 := Nat.ne_of_gt (Nat.lt_of_lt_of_le o3.lt N2.le)
  have f_p_2 : Bk w2 p ([.int .i64 0, .int .i64 0, .int .u32 0, .string ByteArray.empty, .slice none (0) (0)]) 70 := N2.bk
  refine R_lo0 (lo_storeRow (C := [.int .i64 2, .int .i64 3, .int .u32 1, .string ({ data := #[120] }), .slice none (0) (0)]) f_p_2 (by kernel_rfl) rfl rfl (by intro u hu; simp at hu; rcases hu with rfl | rfl | rfl | rfl | rfl <;> rfl) rfl) ?_
  rintro _ w3 kf3
  obtain ⟨k3, f_p_3⟩ := kf3
  replace f_p_3 : Bk w3 p ([.int .i64 2, .int .i64 3, .int .u32 1, .string ({ data := #[120] }), .slice none (0) (0)]) 70 := f_p_3
  have kk3 := kk2.trans k3 (fun i hi => .inr (hi ▸ (Nat.le_trans kk1.size N2.le)))
  refine R_pu (pu_assign rfl) rfl ?_
  refine R_nil ?_
  refine X_then hK2 ?_
  refine C_seq (fun K4 hK4 => ?_)
  have o5 : Gt w3 := ((o3.no k2).on k3 (Ne.symm ne_p_0))
  refine D_begin (fun W => Kp No w W ∧ Bk W p ([.int .i64 2, .int .i64 3, .int .u32 1, .string ({ data := #[120] }), .slice none (0) (0)]) 70 ∧ Gt W) 12 rfl (by kernel_rfl) ⟨kk3.drew, f_p_3.draw, o5.draw⟩ ?_
  intro w4 k4 _
  have kk4 := kk3.then_ k4
  refine D_take 0 rfl (by kernel_rfl) (by kernel_rfl) (by kernel_rfl) (fun _ _ _ h => h) rfl (fun W hS => pu_loadRow (len := 5) hS.2.1 (by kernel_rfl) (by kernel_rfl) rfl rfl) ?_
  refine D_two 1 8 (by kernel_rfl) ?_ ?_
  · have f6 : Bk w4 p ([.int .i64 2, .int .i64 3, .int .u32 1, .string ({ data := #[120] }), .slice none (0) (0)]) 70 := (f_p_3.no k4)
    have o7 : Gt w4 := (o5.no k4)
    refine Nx_lo rfl (lo_make (z := .int .u8 0) (bytes := 1) (ln := 32) (cp := 32) Tryd.underlying22 (by kernel_rfl) rfl rfl rfl rfl rfl (by omega) (by omega) (by omega)) rfl ?_
    rintro _ w5 ⟨d1, rfl, N5⟩
    have k5 := N5.kp
    have kk5 := kk4.then_ k5
    have ne_d1_p : d1 ≠ p := Nat.ne_of_gt (Nat.lt_of_lt_of_le f6.lt N5.le)
    have ne_d1_0 : d1 ≠ 0 := Nat.ne_of_gt (Nat.lt_of_lt_of_le o7.lt N5.le)
    have f_d1_5 : Bk w5 d1 (u8s (List.replicate 32 0)) 5 := by rw [u8s_rep]; exact N5.bk
    have f8 : Bk w5 p ([.int .i64 2, .int .i64 3, .int .u32 1, .string ({ data := #[120] }), .slice none (0) (0)]) 70 := (f6.no k5)
    have o9 : Gt w5 := (o7.no k5)
    refine ⟨⟨kk5, f8, o9⟩, ?_⟩
    refine D_take 2 rfl (by kernel_rfl) (by kernel_rfl) (by kernel_rfl) (fun _ _ _ h => h) rfl (fun W hS => pu_build (L := [.int .u8 2, .int .u32 1, .slice (some ⟨d1, 0, none⟩) (32) (32)]) rfl (by kernel_rfl)) ?_
    refine D_two 3 8 (by kernel_rfl) ?_ ?_
    · refine Nx_lo rfl (lo_callE (by kernel_rfl) rfl (by rw [(rep_by 32).1] <;> rfl) (submit_ok 1 3 1 ({ data := #[120] }) none ([] : List Shr) 0 2 1 (some ⟨d1, 0, none⟩) (List.replicate 32 0) 32 _ (Ss.nil _ none) (Bs.ofBk f_d1_5 (rep_by 32)) (Nat.le_of_eq (rep_by 32).1) ⟨⟨⟨by decide, by decide, by decide, by decide⟩, (fun i s h => by cases h)⟩, ⟨by decide, rfl, by simp [ixs], by decide, by decide, rfl⟩, by decide, by decide⟩)) rfl ?_
      rintro _ w6 ⟨A_q, c_q, L_q, rfl, Q6, hK_q, k6⟩
      have kk6 := kk5.then_ k6
      have z10 : w5.heap.size ≤ w6.heap.size := k6.size
      have hl_q : L_q.length = 1 := by have := congrArg List.length hK_q; simpa using this
      have f11 : Bk w6 p ([.int .i64 2, .int .i64 3, .int .u32 1, .string ({ data := #[120] }), .slice none (0) (0)]) 70 := (f8.no k6)
      have o12 : Gt w6 := (o9.no k6)
      refine ⟨⟨kk6, f11, o12⟩, ?_⟩
      refine D_take 4 rfl (by kernel_rfl) (by kernel_rfl) (by kernel_rfl) (fun _ _ _ h => h) rfl (fun W hS => pu_move rfl) ?_
      refine D_take 5 rfl (by kernel_rfl) (by kernel_rfl) (by kernel_rfl) (fun _ _ _ h => h) rfl (fun W hS => pu_extract rfl rfl) ?_
      refine D_take 6 rfl (by kernel_rfl) (by kernel_rfl) (by kernel_rfl) (fun _ _ _ h => h) rfl (fun W hS => pu_extract rfl rfl) ?_
      refine D_take 7 rfl (by kernel_rfl) (by kernel_rfl) (by kernel_rfl) (fun _ _ _ h => h) rfl (fun W hS => pu_extract rfl rfl) ?_
      have f13 : Bk w6 d1 (u8s (List.replicate 32 0)) 5 := (f_d1_5.no k6)
      refine D_one 8 (by kernel_rfl) (Nx_lo rfl (lo_alloc (L := [.int .i64 0, .int .i64 0, .int .u32 0, .string ByteArray.empty, .slice none (0) (0)]) (by kernel_rfl)) rfl ?_)
      rintro _ w7 ⟨qb, rfl, N7⟩
      have k7 := N7.kp
      have kk7 := kk6.then_ k7
      have ne_qb_p : qb ≠ p := Nat.ne_of_gt (Nat.lt_of_lt_of_le f11.lt N7.le)
      have ne_qb_d1 : qb ≠ d1 := Nat.ne_of_gt (Nat.lt_of_lt_of_le f13.lt N7.le)
      have ne_qb_0 : qb ≠ 0 := Nat.ne_of_gt (Nat.lt_of_lt_of_le o12.lt N7.le)
      have f_qb_7 : Bk w7 qb ([.int .i64 0, .int .i64 0, .int .u32 0, .string ByteArray.empty, .slice none (0) (0)]) 70 := N7.bk
      have f14 : Bk w7 p ([.int .i64 2, .int .i64 3, .int .u32 1, .string ({ data := #[120] }), .slice none (0) (0)]) 70 := (f11.no k7)
      have o15 : Gt w7 := (o12.no k7)
      refine ⟨⟨kk7, f14, o15⟩, ?_⟩
      refine D_one 9 (by kernel_rfl) (Nx_lo0 rfl (lo_storeRow (C := [.int .i64 2, .int .i64 3, .int .u32 1, .string ({ data := #[120] }), .slice A_q ((L_q).length) (c_q)]) f_qb_7 (by kernel_rfl) rfl rfl (by intro u hu; simp at hu; rcases hu with rfl | rfl | rfl | rfl | rfl <;> rfl) rfl) ?_)
      rintro _ w8 kf8
      obtain ⟨k8, f_qb_8⟩ := kf8
      replace f_qb_8 : Bk w8 qb ([.int .i64 2, .int .i64 3, .int .u32 1, .string ({ data := #[120] }), .slice A_q ((L_q).length) (c_q)]) 70 := f_qb_8
      have kk8 := kk7.trans k8 (fun i hi => .inr (hi ▸ (Nat.le_trans kk6.size N7.le)))
      have f16 : Bk w8 p ([.int .i64 2, .int .i64 3, .int .u32 1, .string ({ data := #[120] }), .slice none (0) (0)]) 70 := (f14.on k8 (Ne.symm ne_qb_p))
      have o17 : Gt w8 := (o15.on k8 (Ne.symm ne_qb_0))
      refine ⟨⟨kk8, f16, o17⟩, ?_⟩
      refine D_take 10 rfl (by kernel_rfl) (by kernel_rfl) (by kernel_rfl) (fun _ _ _ h => h) rfl (fun W hS => pu_assign rfl) ?_
      refine D_take 11 rfl (by kernel_rfl) (by kernel_rfl) (by kernel_rfl) (fun _ _ _ h => h) rfl (fun W hS => pu_assign rfl) ?_
      refine D_done (by kernel_rfl) ?_
      refine X_then hK4 ?_
      refine C_seq (fun K18 hK18 => ?_)
      have f19 : Bk w8 d1 (u8s (List.replicate 32 0)) 5 := ((f13.no k7).on k8 (Ne.symm ne_qb_d1))
      refine D_begin (fun W => Kp No w W ∧ Bk W p ([.int .i64 2, .int .i64 3, .int .u32 1, .string ({ data := #[120] }), .slice none (0) (0)]) 70 ∧ Bk W d1 (u8s (List.replicate 32 0)) 5 ∧ Bk W qb ([.int .i64 2, .int .i64 3, .int .u32 1, .string ({ data := #[120] }), .slice A_q ((L_q).length) (c_q)]) 70 ∧ Gt W) 12 rfl (by kernel_rfl) ⟨kk8.drew, f16.draw, f19.draw, f_qb_8.draw, o17.draw⟩ ?_
      intro w9 k9 _
      have kk9 := kk8.then_ k9
      refine D_take 0 rfl (by kernel_rfl) (by kernel_rfl) (by kernel_rfl) (fun _ _ _ h => h) rfl (fun W hS => pu_loadRow (len := 5) hS.2.2.2.1 (by kernel_rfl) (by kernel_rfl) rfl rfl) ?_
      refine D_two 1 8 (by kernel_rfl) ?_ ?_
      · have f20 : Bk w9 p ([.int .i64 2, .int .i64 3, .int .u32 1, .string ({ data := #[120] }), .slice none (0) (0)]) 70 := (f16.no k9)
        have f21 : Bk w9 d1 (u8s (List.replicate 32 0)) 5 := (f19.no k9)
        have f22 : Bk w9 qb ([.int .i64 2, .int .i64 3, .int .u32 1, .string ({ data := #[120] }), .slice A_q ((L_q).length) (c_q)]) 70 := (f_qb_8.no k9)
        have o23 : Gt w9 := (o17.no k9)
        have ob24 := (((Q6.keptNo k7).onN k8 Q6 N7.le).keptNo k9)
        refine Nx_lo rfl (lo_make (z := .int .u8 0) (bytes := 1) (ln := 32) (cp := 32) Tryd.underlying22 (by kernel_rfl) rfl rfl rfl rfl rfl (by omega) (by omega) (by omega)) rfl ?_
        rintro _ w10 ⟨d2, rfl, N10⟩
        have k10 := N10.kp
        have kk10 := kk9.then_ k10
        have ne_d2_p : d2 ≠ p := Nat.ne_of_gt (Nat.lt_of_lt_of_le f20.lt N10.le)
        have ne_d2_d1 : d2 ≠ d1 := Nat.ne_of_gt (Nat.lt_of_lt_of_le f21.lt N10.le)
        have ne_d2_qb : d2 ≠ qb := Nat.ne_of_gt (Nat.lt_of_lt_of_le f22.lt N10.le)
        have ne_d2_0 : d2 ≠ 0 := Nat.ne_of_gt (Nat.lt_of_lt_of_le o23.lt N10.le)
        have f_d2_10 : Bk w10 d2 (u8s (List.replicate 32 0)) 5 := by rw [u8s_rep]; exact N10.bk
        have f25 : Bk w10 p ([.int .i64 2, .int .i64 3, .int .u32 1, .string ({ data := #[120] }), .slice none (0) (0)]) 70 := (f20.no k10)
        have f26 : Bk w10 d1 (u8s (List.replicate 32 0)) 5 := (f21.no k10)
        have f27 : Bk w10 qb ([.int .i64 2, .int .i64 3, .int .u32 1, .string ({ data := #[120] }), .slice A_q ((L_q).length) (c_q)]) 70 := (f22.no k10)
        have o28 : Gt w10 := (o23.no k10)
        refine ⟨⟨kk10, f25, f26, f27, o28⟩, ?_⟩
        refine D_take 2 rfl (by kernel_rfl) (by kernel_rfl) (by kernel_rfl) (fun _ _ _ h => h) rfl (fun W hS => pu_build (L := [.int .u8 2, .int .u32 1, .slice (some ⟨d2, 0, none⟩) (32) (32)]) rfl (by kernel_rfl)) ?_
        refine D_two 3 8 (by kernel_rfl) ?_ ?_
        · have ob29 := (ob24.keptNo k10)
          refine Nx_lo rfl (lo_callE (by kernel_rfl) rfl (by rw [(rep_by 32).1] <;> rfl) (submit_share 1 3 1 ({ data := #[120] }) A_q L_q c_q ({ data := #[120] }) 2 1 (some ⟨d2, 0, none⟩) (List.replicate 32 0) 32 _ ob29.ss ⟨⟨⟨by decide, by decide, by omega, by have := ob29.le; omega⟩, (came_snoc (s := ⟨2, 1, none, List.replicate 32 0, 32⟩) (fun i s h => by cases h) hK_q ⟨rfl, by simp [ixs], by decide, by decide, rfl⟩)⟩, rfl, ⟨by omega, rfl, fun h => h.1 (ixs_in hK_q)⟩, by decide, by decide, by decide⟩)) rfl ?_
          rintro _ w11 ⟨rfl, k11⟩
          have kk11 := kk10.then_ k11
          have f30 : Bk w11 p ([.int .i64 2, .int .i64 3, .int .u32 1, .string ({ data := #[120] }), .slice none (0) (0)]) 70 := (f25.no k11)
          have f31 : Bk w11 d1 (u8s (List.replicate 32 0)) 5 := (f26.no k11)
          have f32 : Bk w11 qb ([.int .i64 2, .int .i64 3, .int .u32 1, .string ({ data := #[120] }), .slice A_q ((L_q).length) (c_q)]) 70 := (f27.no k11)
          have o33 : Gt w11 := (o28.no k11)
          refine ⟨⟨kk11, f30, f31, f32, o33⟩, ?_⟩
          refine D_take 4 rfl (by kernel_rfl) (by kernel_rfl) (by kernel_rfl) (fun _ _ _ h => h) rfl (fun W hS => pu_move rfl) ?_
          refine D_take 5 rfl (by kernel_rfl) (by kernel_rfl) (by kernel_rfl) (fun _ _ _ h => h) rfl (fun W hS => pu_extract rfl rfl) ?_
          refine D_take 6 rfl (by kernel_rfl) (by kernel_rfl) (by kernel_rfl) (fun _ _ _ h => h) rfl (fun W hS => pu_extract rfl rfl) ?_
          refine D_take 7 rfl (by kernel_rfl) (by kernel_rfl) (by kernel_rfl) (fun _ _ _ h => h) rfl (fun W hS => pu_extract rfl rfl) ?_
          have f34 : Bk w11 d2 (u8s (List.replicate 32 0)) 5 := (f_d2_10.no k11)
          have ob35 := (ob29.keptNo k11)
          refine D_one 8 (by kernel_rfl) (Nx_lo rfl (lo_alloc (L := [.int .i64 0, .int .i64 0, .int .u32 0, .string ByteArray.empty, .slice none (0) (0)]) (by kernel_rfl)) rfl ?_)
          rintro _ w12 ⟨z, rfl, N12⟩
          have k12 := N12.kp
          have kk12 := kk11.then_ k12
          have ne_z_p : z ≠ p := Nat.ne_of_gt (Nat.lt_of_lt_of_le f30.lt N12.le)
          have ne_z_d1 : z ≠ d1 := Nat.ne_of_gt (Nat.lt_of_lt_of_le f31.lt N12.le)
          have ne_z_qb : z ≠ qb := Nat.ne_of_gt (Nat.lt_of_lt_of_le f32.lt N12.le)
          have ne_z_d2 : z ≠ d2 := Nat.ne_of_gt (Nat.lt_of_lt_of_le f34.lt N12.le)
          have ne_z_0 : z ≠ 0 := Nat.ne_of_gt (Nat.lt_of_lt_of_le o33.lt N12.le)
          have f_z_12 : Bk w12 z ([.int .i64 0, .int .i64 0, .int .u32 0, .string ByteArray.empty, .slice none (0) (0)]) 70 := N12.bk
          have f36 : Bk w12 p ([.int .i64 2, .int .i64 3, .int .u32 1, .string ({ data := #[120] }), .slice none (0) (0)]) 70 := (f30.no k12)
          have f37 : Bk w12 d1 (u8s (List.replicate 32 0)) 5 := (f31.no k12)
          have f38 : Bk w12 qb ([.int .i64 2, .int .i64 3, .int .u32 1, .string ({ data := #[120] }), .slice A_q ((L_q).length) (c_q)]) 70 := (f32.no k12)
          have o39 : Gt w12 := (o33.no k12)
          refine ⟨⟨kk12, f36, f37, f38, o39⟩, ?_⟩
          refine D_one 9 (by kernel_rfl) (Nx_lo0 rfl (lo_storeRow (C := [.int .i64 0, .int .i64 0, .int .u32 0, .string ByteArray.empty, .slice none (0) (0)]) f_z_12 (by kernel_rfl) rfl rfl (by intro u hu; simp at hu; rcases hu with rfl | rfl | rfl | rfl | rfl <;> rfl) rfl) ?_)
          rintro _ w13 kf13
          obtain ⟨k13, f_z_13⟩ := kf13
          replace f_z_13 : Bk w13 z ([.int .i64 0, .int .i64 0, .int .u32 0, .string ByteArray.empty, .slice none (0) (0)]) 70 := f_z_13
          have kk13 := kk12.trans k13 (fun i hi => .inr (hi ▸ (Nat.le_trans kk11.size N12.le)))
          have f40 : Bk w13 p ([.int .i64 2, .int .i64 3, .int .u32 1, .string ({ data := #[120] }), .slice none (0) (0)]) 70 := (f36.on k13 (Ne.symm ne_z_p))
          have f41 : Bk w13 d1 (u8s (List.replicate 32 0)) 5 := (f37.on k13 (Ne.symm ne_z_d1))
          have f42 : Bk w13 qb ([.int .i64 2, .int .i64 3, .int .u32 1, .string ({ data := #[120] }), .slice A_q ((L_q).length) (c_q)]) 70 := (f38.on k13 (Ne.symm ne_z_qb))
          have o43 : Gt w13 := (o39.on k13 (Ne.symm ne_z_0))
          refine ⟨⟨kk13, f40, f41, f42, o43⟩, ?_⟩
          refine D_take 10 rfl (by kernel_rfl) (by kernel_rfl) (by kernel_rfl) (fun _ _ _ h => h) rfl (fun W hS => pu_assign rfl) ?_
          refine D_take 11 rfl (by kernel_rfl) (by kernel_rfl) (by kernel_rfl) (fun _ _ _ h => h) rfl (fun W hS => pu_assign rfl) ?_
          refine D_done (by kernel_rfl) ?_
          refine X_then hK18 ?_
          refine C_seq (fun K44 hK44 => ?_)
          have f45 : Bk w13 d2 (u8s (List.replicate 32 0)) 5 := ((f34.no k12).on k13 (Ne.symm ne_z_d2))
          refine D_begin (fun W => Kp No w W ∧ Bk W p ([.int .i64 2, .int .i64 3, .int .u32 1, .string ({ data := #[120] }), .slice none (0) (0)]) 70 ∧ Bk W d1 (u8s (List.replicate 32 0)) 5 ∧ Bk W qb ([.int .i64 2, .int .i64 3, .int .u32 1, .string ({ data := #[120] }), .slice A_q ((L_q).length) (c_q)]) 70 ∧ Bk W d2 (u8s (List.replicate 32 0)) 5 ∧ Bk W z ([.int .i64 0, .int .i64 0, .int .u32 0, .string ByteArray.empty, .slice none (0) (0)]) 70 ∧ Gt W) 8 rfl (by kernel_rfl) ⟨kk13.drew, f40.draw, f41.draw, f42.draw, f45.draw, f_z_13.draw, o43.draw⟩ ?_
          intro w14 k14 _
          have kk14 := kk13.then_ k14
          refine D_take 1 rfl (by kernel_rfl) (by kernel_rfl) (by kernel_rfl) (fun _ _ _ h => h) rfl (fun W hS => pu_loadRow (len := 5) hS.2.2.2.1 (by kernel_rfl) (by kernel_rfl) rfl rfl) ?_
          have f46 : Bk w14 p ([.int .i64 2, .int .i64 3, .int .u32 1, .string ({ data := #[120] }), .slice none (0) (0)]) 70 := (f40.no k14)
          have f47 : Bk w14 d1 (u8s (List.replicate 32 0)) 5 := (f41.no k14)
          have f48 : Bk w14 qb ([.int .i64 2, .int .i64 3, .int .u32 1, .string ({ data := #[120] }), .slice A_q ((L_q).length) (c_q)]) 70 := (f42.no k14)
          have f49 : Bk w14 d2 (u8s (List.replicate 32 0)) 5 := (f45.no k14)
          have f50 : Bk w14 z ([.int .i64 0, .int .i64 0, .int .u32 0, .string ByteArray.empty, .slice none (0) (0)]) 70 := (f_z_13.no k14)
          have o51 : Gt w14 := (o43.no k14)
          have ob52 := (((ob35.keptNo k12).onN k13 ob35 N12.le).keptNo k14)
          refine D_one 0 (by kernel_rfl) (Nx_lo rfl (lo_call (by kernel_rfl) rfl (gf_new _)) rfl ?_)
          rintro _ w15 ⟨b4_0, rfl, le15, T15, k15⟩
          have kk15 := kk14.then_ k15
          have ne_b4_0_p : b4_0 ≠ p := Nat.ne_of_gt (Nat.lt_of_lt_of_le f46.lt le15)
          have ne_b4_0_d1 : b4_0 ≠ d1 := Nat.ne_of_gt (Nat.lt_of_lt_of_le f47.lt le15)
          have ne_b4_0_qb : b4_0 ≠ qb := Nat.ne_of_gt (Nat.lt_of_lt_of_le f48.lt le15)
          have ne_b4_0_d2 : b4_0 ≠ d2 := Nat.ne_of_gt (Nat.lt_of_lt_of_le f49.lt le15)
          have ne_b4_0_z : b4_0 ≠ z := Nat.ne_of_gt (Nat.lt_of_lt_of_le f50.lt le15)
          have ne_b4_0_0 : b4_0 ≠ 0 := Nat.ne_of_gt (Nat.lt_of_lt_of_le o51.lt le15)
          have f53 : Bk w15 p ([.int .i64 2, .int .i64 3, .int .u32 1, .string ({ data := #[120] }), .slice none (0) (0)]) 70 := (f46.no k15)
          have f54 : Bk w15 d1 (u8s (List.replicate 32 0)) 5 := (f47.no k15)
          have f55 : Bk w15 qb ([.int .i64 2, .int .i64 3, .int .u32 1, .string ({ data := #[120] }), .slice A_q ((L_q).length) (c_q)]) 70 := (f48.no k15)
          have f56 : Bk w15 d2 (u8s (List.replicate 32 0)) 5 := (f49.no k15)
          have f57 : Bk w15 z ([.int .i64 0, .int .i64 0, .int .u32 0, .string ByteArray.empty, .slice none (0) (0)]) 70 := (f50.no k15)
          have o58 : Gt w15 := (o51.no k15)
          refine ⟨⟨kk15, f53, f54, f55, f56, f57, o58⟩, ?_⟩
          have ob59 := (ob52.keptNo k15)
          refine D_one 2 (by kernel_rfl) (Nx_lo rfl (lo_call (by kernel_rfl) rfl (secret_short b4_0 1 3 1 ({ data := #[120] }) A_q L_q c_q _ ob59.ss ⟨⟨⟨by decide, by decide, by omega, by have := ob59.le; omega⟩, (came_snoc (s := ⟨2, 1, none, List.replicate 32 0, 32⟩) (fun i s h => by cases h) hK_q ⟨rfl, by simp [ixs], by decide, by decide, rfl⟩)⟩, by omega⟩)) rfl ?_)
          rintro _ w16 ⟨rfl, k16⟩
          have kk16 := kk15.then_ k16
          have f60 : Bk w16 p ([.int .i64 2, .int .i64 3, .int .u32 1, .string ({ data := #[120] }), .slice none (0) (0)]) 70 := (f53.no k16)
          have f61 : Bk w16 d1 (u8s (List.replicate 32 0)) 5 := (f54.no k16)
          have f62 : Bk w16 qb ([.int .i64 2, .int .i64 3, .int .u32 1, .string ({ data := #[120] }), .slice A_q ((L_q).length) (c_q)]) 70 := (f55.no k16)
          have f63 : Bk w16 d2 (u8s (List.replicate 32 0)) 5 := (f56.no k16)
          have f64 : Bk w16 z ([.int .i64 0, .int .i64 0, .int .u32 0, .string ByteArray.empty, .slice none (0) (0)]) 70 := (f57.no k16)
          have o65 : Gt w16 := (o58.no k16)
          refine ⟨⟨kk16, f60, f61, f62, f63, f64, o65⟩, ?_⟩
          refine D_take 3 rfl (by kernel_rfl) (by kernel_rfl) (by kernel_rfl) (fun _ _ _ h => h) rfl (fun W hS => pu_move rfl) ?_
          refine D_take 4 rfl (by kernel_rfl) (by kernel_rfl) (by kernel_rfl) (fun _ _ _ h => h) rfl (fun W hS => pu_extract rfl rfl) ?_
          refine D_take 5 rfl (by kernel_rfl) (by kernel_rfl) (by kernel_rfl) (fun _ _ _ h => h) rfl (fun W hS => pu_extract rfl rfl) ?_
          refine D_take 6 rfl (by kernel_rfl) (by kernel_rfl) (by kernel_rfl) (fun _ _ _ h => h) rfl (fun W hS => pu_assign rfl) ?_
          refine D_take 7 rfl (by kernel_rfl) (by kernel_rfl) (by kernel_rfl) (fun _ _ _ h => h) rfl (fun W hS => pu_assign rfl) ?_
          refine D_done (by kernel_rfl) ?_
          refine X_then hK44 ?_
          refine C_seq (fun K66 hK66 => ?_)
          refine C_region ?_
          refine R_pu (pu_move rfl) rfl ?_
          refine R_pu (pu_eqlnn (by kernel_rfl) rfl) rfl ?_
          refine R_pu (pu_move rfl) rfl ?_
          refine R_gpu rfl rfl (pu_move rfl) rfl ?_
          refine R_gpu rfl rfl (pu_eqlnn (by kernel_rfl) rfl) rfl ?_
          refine R_pu (pu_pickt rfl rfl) rfl ?_
          refine R_pu (pu_move rfl) rfl ?_
          refine R_gpu rfl rfl (pu_move rfl) rfl ?_
          refine R_gpu rfl rfl (pu_true (pu_notd rfl) (by simp)) rfl ?_
          refine R_pu (pu_pickt rfl rfl) rfl ?_
          refine R_pu (pu_move rfl) rfl ?_
          refine R_gpu rfl rfl (pu_fieldAddr (off := 4) (o' := 4) (by kernel_rfl) rfl rfl) rfl ?_
          refine R_gpu rfl rfl (pu_loadK f62 (by kernel_rfl) rfl rfl) rfl ?_
          refine R_gpu rfl rfl (pu_len Tryd.underlying29 rfl) rfl ?_
          refine R_gpu rfl rfl (pu_true (pu_eql (p := ((L_q).length) = 1) rfl rfl (by omega)) hl_q) rfl ?_
          refine R_pu (pu_pickt rfl rfl) rfl ?_
          refine R_pu (pu_move rfl) rfl ?_
          refine R_gpu rfl rfl (pu_move rfl) rfl ?_
          refine R_glo rfl rfl (lo_call (by kernel_rfl) rfl (num23_err 12 _ o65)) rfl ?_
          rintro _ w17 ⟨rfl, k17⟩
          have kk17 := kk16.then_ k17
          refine R_gpu rfl rfl (pu_true (pu_eql (p := (12 : Nat) = 12) rfl rfl (by omega)) (by decide)) rfl ?_
          refine R_pu (pu_pickt rfl rfl) rfl ?_
          refine R_pu (pu_move rfl) rfl ?_
          refine R_gpu rfl rfl (pu_move rfl) rfl ?_
          have o67 : Gt w17 := (o65.no k17)
          refine R_glo rfl rfl (lo_call (by kernel_rfl) rfl (num23_err 2 _ o67)) rfl ?_
          rintro _ w18 ⟨rfl, k18⟩
          have kk18 := kk17.then_ k18
          refine R_gpu rfl rfl (pu_true (pu_eql (p := (2 : Nat) = 2) rfl rfl (by omega)) (by decide)) rfl ?_
          refine R_pu (pu_pickt rfl rfl) rfl ?_
          refine R_pu (pu_move rfl) rfl ?_
          have f68 : Bk w18 qb ([.int .i64 2, .int .i64 3, .int .u32 1, .string ({ data := #[120] }), .slice A_q ((L_q).length) (c_q)]) 70 := ((f62.no k17).no k18)
          refine R_gpu rfl rfl (pu_loadRow (len := 5) f68 (by kernel_rfl) (by kernel_rfl) rfl rfl) rfl ?_
          refine R_glo rfl rfl (lo_call (by kernel_rfl) rfl (reset_ 1 3 1 ({ data := #[120] }) A_q ((L_q).length) c_q _)) rfl ?_
          rintro _ w19 ⟨rfl, k19⟩
          have kk19 := kk18.then_ k19
          refine R_gpu rfl rfl (pu_field (off := 0) Tryd.underlying70 rfl rfl rfl rfl) rfl ?_
          refine R_gpu rfl rfl (pu_len Tryd.underlying29 rfl) rfl ?_
          refine R_gpu rfl rfl (pu_true (pu_eql (p := (0 : Nat) = 0) rfl rfl (by omega)) (by decide)) rfl ?_
          refine R_pu (pu_pickt rfl rfl) rfl ?_
          refine R_pu (pu_assign rfl) rfl ?_
          refine R_nil ?_
          refine X_then hK66 ?_
          refine C_ret ?_
          exact X_ret1 (.inl rfl) rfl rfl ⟨rfl, kk19⟩
        · have ob69 := (ob24.keptNo k10)
          refine Nx_lo rfl (lo_alloc (L := [.int .i64 0, .int .i64 0, .int .u32 0, .string ByteArray.empty, .slice none (0) (0)]) (by kernel_rfl)) rfl ?_
          rintro _ w20 ⟨z, rfl, N20⟩
          have k20 := N20.kp
          have kk20 := kk10.then_ k20
          have ne_z_p : z ≠ p := Nat.ne_of_gt (Nat.lt_of_lt_of_le f25.lt N20.le)
          have ne_z_d1 : z ≠ d1 := Nat.ne_of_gt (Nat.lt_of_lt_of_le f26.lt N20.le)
          have ne_z_qb : z ≠ qb := Nat.ne_of_gt (Nat.lt_of_lt_of_le f27.lt N20.le)
          have ne_z_d2 : z ≠ d2 := Nat.ne_of_gt (Nat.lt_of_lt_of_le f_d2_10.lt N20.le)
          have ne_z_0 : z ≠ 0 := Nat.ne_of_gt (Nat.lt_of_lt_of_le o28.lt N20.le)
          have f_z_20 : Bk w20 z ([.int .i64 0, .int .i64 0, .int .u32 0, .string ByteArray.empty, .slice none (0) (0)]) 70 := N20.bk
          have f70 : Bk w20 p ([.int .i64 2, .int .i64 3, .int .u32 1, .string ({ data := #[120] }), .slice none (0) (0)]) 70 := (f25.no k20)
          have f71 : Bk w20 d1 (u8s (List.replicate 32 0)) 5 := (f26.no k20)
          have f72 : Bk w20 qb ([.int .i64 2, .int .i64 3, .int .u32 1, .string ({ data := #[120] }), .slice A_q ((L_q).length) (c_q)]) 70 := (f27.no k20)
          have o73 : Gt w20 := (o28.no k20)
          refine ⟨⟨kk20, f70, f71, f72, o73⟩, ?_⟩
          have ob74 := (ob69.keptNo k20)
          have f75 : Bk w20 d2 (u8s (List.replicate 32 0)) 5 := (f_d2_10.no k20)
          refine D_one 3 (by kernel_rfl) (Nx_lo rfl (lo_callE (by kernel_rfl) rfl (by rw [(rep_by 32).1] <;> rfl) (submit_share 1 3 1 ({ data := #[120] }) A_q L_q c_q ({ data := #[120] }) 2 1 (some ⟨d2, 0, none⟩) (List.replicate 32 0) 32 _ ob74.ss ⟨⟨⟨by decide, by decide, by omega, by have := ob74.le; omega⟩, (came_snoc (s := ⟨2, 1, none, List.replicate 32 0, 32⟩) (fun i s h => by cases h) hK_q ⟨rfl, by simp [ixs], by decide, by decide, rfl⟩)⟩, rfl, ⟨by omega, rfl, fun h => h.1 (ixs_in hK_q)⟩, by decide, by decide, by decide⟩)) rfl ?_)
          rintro _ w21 ⟨rfl, k21⟩
          have kk21 := kk20.then_ k21
          have f76 : Bk w21 p ([.int .i64 2, .int .i64 3, .int .u32 1, .string ({ data := #[120] }), .slice none (0) (0)]) 70 := (f70.no k21)
          have f77 : Bk w21 d1 (u8s (List.replicate 32 0)) 5 := (f71.no k21)
          have f78 : Bk w21 qb ([.int .i64 2, .int .i64 3, .int .u32 1, .string ({ data := #[120] }), .slice A_q ((L_q).length) (c_q)]) 70 := (f72.no k21)
          have o79 : Gt w21 := (o73.no k21)
          refine ⟨⟨kk21, f76, f77, f78, o79⟩, ?_⟩
          refine D_take 4 rfl (by kernel_rfl) (by kernel_rfl) (by kernel_rfl) (fun _ _ _ h => h) rfl (fun W hS => pu_move rfl) ?_
          refine D_take 5 rfl (by kernel_rfl) (by kernel_rfl) (by kernel_rfl) (fun _ _ _ h => h) rfl (fun W hS => pu_extract rfl rfl) ?_
          refine D_take 6 rfl (by kernel_rfl) (by kernel_rfl) (by kernel_rfl) (fun _ _ _ h => h) rfl (fun W hS => pu_extract rfl rfl) ?_
          refine D_take 7 rfl (by kernel_rfl) (by kernel_rfl) (by kernel_rfl) (fun _ _ _ h => h) rfl (fun W hS => pu_extract rfl rfl) ?_
          have f80 : Bk w21 z ([.int .i64 0, .int .i64 0, .int .u32 0, .string ByteArray.empty, .slice none (0) (0)]) 70 := (f_z_20.no k21)
          refine D_one 9 (by kernel_rfl) (Nx_lo0 rfl (lo_storeRow (C := [.int .i64 0, .int .i64 0, .int .u32 0, .string ByteArray.empty, .slice none (0) (0)]) f80 (by kernel_rfl) rfl rfl (by intro u hu; simp at hu; rcases hu with rfl | rfl | rfl | rfl | rfl <;> rfl) rfl) ?_)
          rintro _ w22 kf22
          obtain ⟨k22, f_z_22⟩ := kf22
          replace f_z_22 : Bk w22 z ([.int .i64 0, .int .i64 0, .int .u32 0, .string ByteArray.empty, .slice none (0) (0)]) 70 := f_z_22
          have kk22 := kk21.trans k22 (fun i hi => .inr (hi ▸ (Nat.le_trans kk10.size N20.le)))
          have f81 : Bk w22 p ([.int .i64 2, .int .i64 3, .int .u32 1, .string ({ data := #[120] }), .slice none (0) (0)]) 70 := (f76.on k22 (Ne.symm ne_z_p))
          have f82 : Bk w22 d1 (u8s (List.replicate 32 0)) 5 := (f77.on k22 (Ne.symm ne_z_d1))
          have f83 : Bk w22 qb ([.int .i64 2, .int .i64 3, .int .u32 1, .string ({ data := #[120] }), .slice A_q ((L_q).length) (c_q)]) 70 := (f78.on k22 (Ne.symm ne_z_qb))
          have o84 : Gt w22 := (o79.on k22 (Ne.symm ne_z_0))
          refine ⟨⟨kk22, f81, f82, f83, o84⟩, ?_⟩
          refine D_take 10 rfl (by kernel_rfl) (by kernel_rfl) (by kernel_rfl) (fun _ _ _ h => h) rfl (fun W hS => pu_assign rfl) ?_
          refine D_take 11 rfl (by kernel_rfl) (by kernel_rfl) (by kernel_rfl) (fun _ _ _ h => h) rfl (fun W hS => pu_assign rfl) ?_
          refine D_done (by kernel_rfl) ?_
          refine X_then hK18 ?_
          refine C_seq (fun K85 hK85 => ?_)
          have f86 : Bk w22 d2 (u8s (List.replicate 32 0)) 5 := ((f75.no k21).on k22 (Ne.symm ne_z_d2))
          refine D_begin (fun W => Kp No w W ∧ Bk W p ([.int .i64 2, .int .i64 3, .int .u32 1, .string ({ data := #[120] }), .slice none (0) (0)]) 70 ∧ Bk W d1 (u8s (List.replicate 32 0)) 5 ∧ Bk W qb ([.int .i64 2, .int .i64 3, .int .u32 1, .string ({ data := #[120] }), .slice A_q ((L_q).length) (c_q)]) 70 ∧ Bk W d2 (u8s (List.replicate 32 0)) 5 ∧ Bk W z ([.int .i64 0, .int .i64 0, .int .u32 0, .string ByteArray.empty, .slice none (0) (0)]) 70 ∧ Gt W) 8 rfl (by kernel_rfl) ⟨kk22.drew, f81.draw, f82.draw, f83.draw, f86.draw, f_z_22.draw, o84.draw⟩ ?_
          intro w23 k23 _
          have kk23 := kk22.then_ k23
          refine D_take 1 rfl (by kernel_rfl) (by kernel_rfl) (by kernel_rfl) (fun _ _ _ h => h) rfl (fun W hS => pu_loadRow (len := 5) hS.2.2.2.1 (by kernel_rfl) (by kernel_rfl) rfl rfl) ?_
          have f87 : Bk w23 p ([.int .i64 2, .int .i64 3, .int .u32 1, .string ({ data := #[120] }), .slice none (0) (0)]) 70 := (f81.no k23)
          have f88 : Bk w23 d1 (u8s (List.replicate 32 0)) 5 := (f82.no k23)
          have f89 : Bk w23 qb ([.int .i64 2, .int .i64 3, .int .u32 1, .string ({ data := #[120] }), .slice A_q ((L_q).length) (c_q)]) 70 := (f83.no k23)
          have f90 : Bk w23 d2 (u8s (List.replicate 32 0)) 5 := (f86.no k23)
          have f91 : Bk w23 z ([.int .i64 0, .int .i64 0, .int .u32 0, .string ByteArray.empty, .slice none (0) (0)]) 70 := (f_z_22.no k23)
          have o92 : Gt w23 := (o84.no k23)
          have ob93 := (((ob74.keptNo k21).onN k22 ob69 N20.le).keptNo k23)
          refine D_one 0 (by kernel_rfl) (Nx_lo rfl (lo_call (by kernel_rfl) rfl (gf_new _)) rfl ?_)
          rintro _ w24 ⟨b4_0, rfl, le24, T24, k24⟩
          have kk24 := kk23.then_ k24
          have ne_b4_0_p : b4_0 ≠ p := Nat.ne_of_gt (Nat.lt_of_lt_of_le f87.lt le24)
          have ne_b4_0_d1 : b4_0 ≠ d1 := Nat.ne_of_gt (Nat.lt_of_lt_of_le f88.lt le24)
          have ne_b4_0_qb : b4_0 ≠ qb := Nat.ne_of_gt (Nat.lt_of_lt_of_le f89.lt le24)
          have ne_b4_0_d2 : b4_0 ≠ d2 := Nat.ne_of_gt (Nat.lt_of_lt_of_le f90.lt le24)
          have ne_b4_0_z : b4_0 ≠ z := Nat.ne_of_gt (Nat.lt_of_lt_of_le f91.lt le24)
          have ne_b4_0_0 : b4_0 ≠ 0 := Nat.ne_of_gt (Nat.lt_of_lt_of_le o92.lt le24)
          have f94 : Bk w24 p ([.int .i64 2, .int .i64 3, .int .u32 1, .string ({ data := #[120] }), .slice none (0) (0)]) 70 := (f87.no k24)
          have f95 : Bk w24 d1 (u8s (List.replicate 32 0)) 5 := (f88.no k24)
          have f96 : Bk w24 qb ([.int .i64 2, .int .i64 3, .int .u32 1, .string ({ data := #[120] }), .slice A_q ((L_q).length) (c_q)]) 70 := (f89.no k24)
          have f97 : Bk w24 d2 (u8s (List.replicate 32 0)) 5 := (f90.no k24)
          have f98 : Bk w24 z ([.int .i64 0, .int .i64 0, .int .u32 0, .string ByteArray.empty, .slice none (0) (0)]) 70 := (f91.no k24)
          have o99 : Gt w24 := (o92.no k24)
          refine ⟨⟨kk24, f94, f95, f96, f97, f98, o99⟩, ?_⟩
          have ob100 := (ob93.keptNo k24)
          refine D_one 2 (by kernel_rfl) (Nx_lo rfl (lo_call (by kernel_rfl) rfl (secret_short b4_0 1 3 1 ({ data := #[120] }) A_q L_q c_q _ ob100.ss ⟨⟨⟨by decide, by decide, by omega, by have := ob100.le; omega⟩, (came_snoc (s := ⟨2, 1, none, List.replicate 32 0, 32⟩) (fun i s h => by cases h) hK_q ⟨rfl, by simp [ixs], by decide, by decide, rfl⟩)⟩, by omega⟩)) rfl ?_)
          rintro _ w25 ⟨rfl, k25⟩
          have kk25 := kk24.then_ k25
          have f101 : Bk w25 p ([.int .i64 2, .int .i64 3, .int .u32 1, .string ({ data := #[120] }), .slice none (0) (0)]) 70 := (f94.no k25)
          have f102 : Bk w25 d1 (u8s (List.replicate 32 0)) 5 := (f95.no k25)
          have f103 : Bk w25 qb ([.int .i64 2, .int .i64 3, .int .u32 1, .string ({ data := #[120] }), .slice A_q ((L_q).length) (c_q)]) 70 := (f96.no k25)
          have f104 : Bk w25 d2 (u8s (List.replicate 32 0)) 5 := (f97.no k25)
          have f105 : Bk w25 z ([.int .i64 0, .int .i64 0, .int .u32 0, .string ByteArray.empty, .slice none (0) (0)]) 70 := (f98.no k25)
          have o106 : Gt w25 := (o99.no k25)
          refine ⟨⟨kk25, f101, f102, f103, f104, f105, o106⟩, ?_⟩
          refine D_take 3 rfl (by kernel_rfl) (by kernel_rfl) (by kernel_rfl) (fun _ _ _ h => h) rfl (fun W hS => pu_move rfl) ?_
          refine D_take 4 rfl (by kernel_rfl) (by kernel_rfl) (by kernel_rfl) (fun _ _ _ h => h) rfl (fun W hS => pu_extract rfl rfl) ?_
          refine D_take 5 rfl (by kernel_rfl) (by kernel_rfl) (by kernel_rfl) (fun _ _ _ h => h) rfl (fun W hS => pu_extract rfl rfl) ?_
          refine D_take 6 rfl (by kernel_rfl) (by kernel_rfl) (by kernel_rfl) (fun _ _ _ h => h) rfl (fun W hS => pu_assign rfl) ?_
          refine D_take 7 rfl (by kernel_rfl) (by kernel_rfl) (by kernel_rfl) (fun _ _ _ h => h) rfl (fun W hS => pu_assign rfl) ?_
          refine D_done (by kernel_rfl) ?_
          refine X_then hK85 ?_
          refine C_seq (fun K107 hK107 => ?_)
          refine C_region ?_
          refine R_pu (pu_move rfl) rfl ?_
          refine R_pu (pu_eqlnn (by kernel_rfl) rfl) rfl ?_
          refine R_pu (pu_move rfl) rfl ?_
          refine R_gpu rfl rfl (pu_move rfl) rfl ?_
          refine R_gpu rfl rfl (pu_eqlnn (by kernel_rfl) rfl) rfl ?_
          refine R_pu (pu_pickt rfl rfl) rfl ?_
          refine R_pu (pu_move rfl) rfl ?_
          refine R_gpu rfl rfl (pu_move rfl) rfl ?_
          refine R_gpu rfl rfl (pu_true (pu_notd rfl) (by simp)) rfl ?_
          refine R_pu (pu_pickt rfl rfl) rfl ?_
          refine R_pu (pu_move rfl) rfl ?_
          refine R_gpu rfl rfl (pu_fieldAddr (off := 4) (o' := 4) (by kernel_rfl) rfl rfl) rfl ?_
          refine R_gpu rfl rfl (pu_loadK f103 (by kernel_rfl) rfl rfl) rfl ?_
          refine R_gpu rfl rfl (pu_len Tryd.underlying29 rfl) rfl ?_
          refine R_gpu rfl rfl (pu_true (pu_eql (p := ((L_q).length) = 1) rfl rfl (by omega)) hl_q) rfl ?_
          refine R_pu (pu_pickt rfl rfl) rfl ?_
          refine R_pu (pu_move rfl) rfl ?_
          refine R_gpu rfl rfl (pu_move rfl) rfl ?_
          refine R_glo rfl rfl (lo_call (by kernel_rfl) rfl (num23_err 12 _ o106)) rfl ?_
          rintro _ w26 ⟨rfl, k26⟩
          have kk26 := kk25.then_ k26
          refine R_gpu rfl rfl (pu_true (pu_eql (p := (12 : Nat) = 12) rfl rfl (by omega)) (by decide)) rfl ?_
          refine R_pu (pu_pickt rfl rfl) rfl ?_
          refine R_pu (pu_move rfl) rfl ?_
          refine R_gpu rfl rfl (pu_move rfl) rfl ?_
          have o108 : Gt w26 := (o106.no k26)
          refine R_glo rfl rfl (lo_call (by kernel_rfl) rfl (num23_err 2 _ o108)) rfl ?_
          rintro _ w27 ⟨rfl, k27⟩
          have kk27 := kk26.then_ k27
          refine R_gpu rfl rfl (pu_true (pu_eql (p := (2 : Nat) = 2) rfl rfl (by omega)) (by decide)) rfl ?_
          refine R_pu (pu_pickt rfl rfl) rfl ?_
          refine R_pu (pu_move rfl) rfl ?_
          have f109 : Bk w27 qb ([.int .i64 2, .int .i64 3, .int .u32 1, .string ({ data := #[120] }), .slice A_q ((L_q).length) (c_q)]) 70 := ((f103.no k26).no k27)
          refine R_gpu rfl rfl (pu_loadRow (len := 5) f109 (by kernel_rfl) (by kernel_rfl) rfl rfl) rfl ?_
          refine R_glo rfl rfl (lo_call (by kernel_rfl) rfl (reset_ 1 3 1 ({ data := #[120] }) A_q ((L_q).length) c_q _)) rfl ?_
          rintro _ w28 ⟨rfl, k28⟩
          have kk28 := kk27.then_ k28
          refine R_gpu rfl rfl (pu_field (off := 0) Tryd.underlying70 rfl rfl rfl rfl) rfl ?_
          refine R_gpu rfl rfl (pu_len Tryd.underlying29 rfl) rfl ?_
          refine R_gpu rfl rfl (pu_true (pu_eql (p := (0 : Nat) = 0) rfl rfl (by omega)) (by decide)) rfl ?_
          refine R_pu (pu_pickt rfl rfl) rfl ?_
          refine R_pu (pu_assign rfl) rfl ?_
          refine R_nil ?_
          refine X_then hK107 ?_
          refine C_ret ?_
          exact X_ret1 (.inl rfl) rfl rfl ⟨rfl, kk28⟩
      · have f110 : Bk w9 p ([.int .i64 2, .int .i64 3, .int .u32 1, .string ({ data := #[120] }), .slice none (0) (0)]) 70 := (f16.no k9)
        have f111 : Bk w9 d1 (u8s (List.replicate 32 0)) 5 := (f19.no k9)
        have f112 : Bk w9 qb ([.int .i64 2, .int .i64 3, .int .u32 1, .string ({ data := #[120] }), .slice A_q ((L_q).length) (c_q)]) 70 := (f_qb_8.no k9)
        have o113 : Gt w9 := (o17.no k9)
        have ob114 := (((Q6.keptNo k7).onN k8 Q6 N7.le).keptNo k9)
        refine Nx_lo rfl (lo_alloc (L := [.int .i64 0, .int .i64 0, .int .u32 0, .string ByteArray.empty, .slice none (0) (0)]) (by kernel_rfl)) rfl ?_
        rintro _ w29 ⟨z, rfl, N29⟩
        have k29 := N29.kp
        have kk29 := kk9.then_ k29
        have ne_z_p : z ≠ p := Nat.ne_of_gt (Nat.lt_of_lt_of_le f110.lt N29.le)
        have ne_z_d1 : z ≠ d1 := Nat.ne_of_gt (Nat.lt_of_lt_of_le f111.lt N29.le)
        have ne_z_qb : z ≠ qb := Nat.ne_of_gt (Nat.lt_of_lt_of_le f112.lt N29.le)
        have ne_z_0 : z ≠ 0 := Nat.ne_of_gt (Nat.lt_of_lt_of_le o113.lt N29.le)
        have f_z_29 : Bk w29 z ([.int .i64 0, .int .i64 0, .int .u32 0, .string ByteArray.empty, .slice none (0) (0)]) 70 := N29.bk
        have f115 : Bk w29 p ([.int .i64 2, .int .i64 3, .int .u32 1, .string ({ data := #[120] }), .slice none (0) (0)]) 70 := (f110.no k29)
        have f116 : Bk w29 d1 (u8s (List.replicate 32 0)) 5 := (f111.no k29)
        have f117 : Bk w29 qb ([.int .i64 2, .int .i64 3, .int .u32 1, .string ({ data := #[120] }), .slice A_q ((L_q).length) (c_q)]) 70 := (f112.no k29)
        have o118 : Gt w29 := (o113.no k29)
        refine ⟨⟨kk29, f115, f116, f117, o118⟩, ?_⟩
        have ob119 := (ob114.keptNo k29)
        refine D_one 1 (by kernel_rfl) (Nx_lo rfl (lo_make (z := .int .u8 0) (bytes := 1) (ln := 32) (cp := 32) Tryd.underlying22 (by kernel_rfl) rfl rfl rfl rfl rfl (by omega) (by omega) (by omega)) rfl ?_)
        rintro _ w30 ⟨d2, rfl, N30⟩
        have k30 := N30.kp
        have kk30 := kk29.then_ k30
        have ne_d2_p : d2 ≠ p := Nat.ne_of_gt (Nat.lt_of_lt_of_le f115.lt N30.le)
        have ne_d2_d1 : d2 ≠ d1 := Nat.ne_of_gt (Nat.lt_of_lt_of_le f116.lt N30.le)
        have ne_d2_qb : d2 ≠ qb := Nat.ne_of_gt (Nat.lt_of_lt_of_le f117.lt N30.le)
        have ne_d2_z : d2 ≠ z := Nat.ne_of_gt (Nat.lt_of_lt_of_le f_z_29.lt N30.le)
        have ne_d2_0 : d2 ≠ 0 := Nat.ne_of_gt (Nat.lt_of_lt_of_le o118.lt N30.le)
        have f_d2_30 : Bk w30 d2 (u8s (List.replicate 32 0)) 5 := by rw [u8s_rep]; exact N30.bk
        have f120 : Bk w30 p ([.int .i64 2, .int .i64 3, .int .u32 1, .string ({ data := #[120] }), .slice none (0) (0)]) 70 := (f115.no k30)
        have f121 : Bk w30 d1 (u8s (List.replicate 32 0)) 5 := (f116.no k30)
        have f122 : Bk w30 qb ([.int .i64 2, .int .i64 3, .int .u32 1, .string ({ data := #[120] }), .slice A_q ((L_q).length) (c_q)]) 70 := (f117.no k30)
        have o123 : Gt w30 := (o118.no k30)
        refine ⟨⟨kk30, f120, f121, f122, o123⟩, ?_⟩
        refine D_take 2 rfl (by kernel_rfl) (by kernel_rfl) (by kernel_rfl) (fun _ _ _ h => h) rfl (fun W hS => pu_build (L := [.int .u8 2, .int .u32 1, .slice (some ⟨d2, 0, none⟩) (32) (32)]) rfl (by kernel_rfl)) ?_
        have ob124 := (ob119.keptNo k30)
        refine D_one 3 (by kernel_rfl) (Nx_lo rfl (lo_callE (by kernel_rfl) rfl (by rw [(rep_by 32).1] <;> rfl) (submit_share 1 3 1 ({ data := #[120] }) A_q L_q c_q ({ data := #[120] }) 2 1 (some ⟨d2, 0, none⟩) (List.replicate 32 0) 32 _ ob124.ss ⟨⟨⟨by decide, by decide, by omega, by have := ob124.le; omega⟩, (came_snoc (s := ⟨2, 1, none, List.replicate 32 0, 32⟩) (fun i s h => by cases h) hK_q ⟨rfl, by simp [ixs], by decide, by decide, rfl⟩)⟩, rfl, ⟨by omega, rfl, fun h => h.1 (ixs_in hK_q)⟩, by decide, by decide, by decide⟩)) rfl ?_)
        rintro _ w31 ⟨rfl, k31⟩
        have kk31 := kk30.then_ k31
        have f125 : Bk w31 p ([.int .i64 2, .int .i64 3, .int .u32 1, .string ({ data := #[120] }), .slice none (0) (0)]) 70 := (f120.no k31)
        have f126 : Bk w31 d1 (u8s (List.replicate 32 0)) 5 := (f121.no k31)
        have f127 : Bk w31 qb ([.int .i64 2, .int .i64 3, .int .u32 1, .string ({ data := #[120] }), .slice A_q ((L_q).length) (c_q)]) 70 := (f122.no k31)
        have o128 : Gt w31 := (o123.no k31)
        refine ⟨⟨kk31, f125, f126, f127, o128⟩, ?_⟩
        refine D_take 4 rfl (by kernel_rfl) (by kernel_rfl) (by kernel_rfl) (fun _ _ _ h => h) rfl (fun W hS => pu_move rfl) ?_
        refine D_take 5 rfl (by kernel_rfl) (by kernel_rfl) (by kernel_rfl) (fun _ _ _ h => h) rfl (fun W hS => pu_extract rfl rfl) ?_
        refine D_take 6 rfl (by kernel_rfl) (by kernel_rfl) (by kernel_rfl) (fun _ _ _ h => h) rfl (fun W hS => pu_extract rfl rfl) ?_
        refine D_take 7 rfl (by kernel_rfl) (by kernel_rfl) (by kernel_rfl) (fun _ _ _ h => h) rfl (fun W hS => pu_extract rfl rfl) ?_
        have f129 : Bk w31 z ([.int .i64 0, .int .i64 0, .int .u32 0, .string ByteArray.empty, .slice none (0) (0)]) 70 := ((f_z_29.no k30).no k31)
        refine D_one 9 (by kernel_rfl) (Nx_lo0 rfl (lo_storeRow (C := [.int .i64 0, .int .i64 0, .int .u32 0, .string ByteArray.empty, .slice none (0) (0)]) f129 (by kernel_rfl) rfl rfl (by intro u hu; simp at hu; rcases hu with rfl | rfl | rfl | rfl | rfl <;> rfl) rfl) ?_)
        rintro _ w32 kf32
        obtain ⟨k32, f_z_32⟩ := kf32
        replace f_z_32 : Bk w32 z ([.int .i64 0, .int .i64 0, .int .u32 0, .string ByteArray.empty, .slice none (0) (0)]) 70 := f_z_32
        have kk32 := kk31.trans k32 (fun i hi => .inr (hi ▸ (Nat.le_trans kk9.size N29.le)))
        have f130 : Bk w32 p ([.int .i64 2, .int .i64 3, .int .u32 1, .string ({ data := #[120] }), .slice none (0) (0)]) 70 := (f125.on k32 (Ne.symm ne_z_p))
        have f131 : Bk w32 d1 (u8s (List.replicate 32 0)) 5 := (f126.on k32 (Ne.symm ne_z_d1))
        have f132 : Bk w32 qb ([.int .i64 2, .int .i64 3, .int .u32 1, .string ({ data := #[120] }), .slice A_q ((L_q).length) (c_q)]) 70 := (f127.on k32 (Ne.symm ne_z_qb))
        have o133 : Gt w32 := (o128.on k32 (Ne.symm ne_z_0))
        refine ⟨⟨kk32, f130, f131, f132, o133⟩, ?_⟩
        refine D_take 10 rfl (by kernel_rfl) (by kernel_rfl) (by kernel_rfl) (fun _ _ _ h => h) rfl (fun W hS => pu_assign rfl) ?_
        refine D_take 11 rfl (by kernel_rfl) (by kernel_rfl) (by kernel_rfl) (fun _ _ _ h => h) rfl (fun W hS => pu_assign rfl) ?_
        refine D_done (by kernel_rfl) ?_
        refine X_then hK18 ?_
        refine C_seq (fun K134 hK134 => ?_)
        have f135 : Bk w32 d2 (u8s (List.replicate 32 0)) 5 := ((f_d2_30.no k31).on k32 ne_d2_z)
        refine D_begin (fun W => Kp No w W ∧ Bk W p ([.int .i64 2, .int .i64 3, .int .u32 1, .string ({ data := #[120] }), .slice none (0) (0)]) 70 ∧ Bk W d1 (u8s (List.replicate 32 0)) 5 ∧ Bk W qb ([.int .i64 2, .int .i64 3, .int .u32 1, .string ({ data := #[120] }), .slice A_q ((L_q).length) (c_q)]) 70 ∧ Bk W z ([.int .i64 0, .int .i64 0, .int .u32 0, .string ByteArray.empty, .slice none (0) (0)]) 70 ∧ Bk W d2 (u8s (List.replicate 32 0)) 5 ∧ Gt W) 8 rfl (by kernel_rfl) ⟨kk32.drew, f130.draw, f131.draw, f132.draw, f_z_32.draw, f135.draw, o133.draw⟩ ?_
        intro w33 k33 _
        have kk33 := kk32.then_ k33
        refine D_take 1 rfl (by kernel_rfl) (by kernel_rfl) (by kernel_rfl) (fun _ _ _ h => h) rfl (fun W hS => pu_loadRow (len := 5) hS.2.2.2.1 (by kernel_rfl) (by kernel_rfl) rfl rfl) ?_
        have f136 : Bk w33 p ([.int .i64 2, .int .i64 3, .int .u32 1, .string ({ data := #[120] }), .slice none (0) (0)]) 70 := (f130.no k33)
        have f137 : Bk w33 d1 (u8s (List.replicate 32 0)) 5 := (f131.no k33)
        have f138 : Bk w33 qb ([.int .i64 2, .int .i64 3, .int .u32 1, .string ({ data := #[120] }), .slice A_q ((L_q).length) (c_q)]) 70 := (f132.no k33)
        have f139 : Bk w33 z ([.int .i64 0, .int .i64 0, .int .u32 0, .string ByteArray.empty, .slice none (0) (0)]) 70 := (f_z_32.no k33)
        have f140 : Bk w33 d2 (u8s (List.replicate 32 0)) 5 := (f135.no k33)
        have o141 : Gt w33 := (o133.no k33)
        have ob142 := (((ob124.keptNo k31).onN k32 ob114 N29.le).keptNo k33)
        refine D_one 0 (by kernel_rfl) (Nx_lo rfl (lo_call (by kernel_rfl) rfl (gf_new _)) rfl ?_)
        rintro _ w34 ⟨b4_0, rfl, le34, T34, k34⟩
        have kk34 := kk33.then_ k34
        have ne_b4_0_p : b4_0 ≠ p := Nat.ne_of_gt (Nat.lt_of_lt_of_le f136.lt le34)
        have ne_b4_0_d1 : b4_0 ≠ d1 := Nat.ne_of_gt (Nat.lt_of_lt_of_le f137.lt le34)
        have ne_b4_0_qb : b4_0 ≠ qb := Nat.ne_of_gt (Nat.lt_of_lt_of_le f138.lt le34)
        have ne_b4_0_z : b4_0 ≠ z := Nat.ne_of_gt (Nat.lt_of_lt_of_le f139.lt le34)
        have ne_b4_0_d2 : b4_0 ≠ d2 := Nat.ne_of_gt (Nat.lt_of_lt_of_le f140.lt le34)
        have ne_b4_0_0 : b4_0 ≠ 0 := Nat.ne_of_gt (Nat.lt_of_lt_of_le o141.lt le34)
        have f143 : Bk w34 p ([.int .i64 2, .int .i64 3, .int .u32 1, .string ({ data := #[120] }), .slice none (0) (0)]) 70 := (f136.no k34)
        have f144 : Bk w34 d1 (u8s (List.replicate 32 0)) 5 := (f137.no k34)
        have f145 : Bk w34 qb ([.int .i64 2, .int .i64 3, .int .u32 1, .string ({ data := #[120] }), .slice A_q ((L_q).length) (c_q)]) 70 := (f138.no k34)
        have f146 : Bk w34 z ([.int .i64 0, .int .i64 0, .int .u32 0, .string ByteArray.empty, .slice none (0) (0)]) 70 := (f139.no k34)
        have f147 : Bk w34 d2 (u8s (List.replicate 32 0)) 5 := (f140.no k34)
        have o148 : Gt w34 := (o141.no k34)
        refine ⟨⟨kk34, f143, f144, f145, f146, f147, o148⟩, ?_⟩
        have ob149 := (ob142.keptNo k34)
        refine D_one 2 (by kernel_rfl) (Nx_lo rfl (lo_call (by kernel_rfl) rfl (secret_short b4_0 1 3 1 ({ data := #[120] }) A_q L_q c_q _ ob149.ss ⟨⟨⟨by decide, by decide, by omega, by have := ob149.le; omega⟩, (came_snoc (s := ⟨2, 1, none, List.replicate 32 0, 32⟩) (fun i s h => by cases h) hK_q ⟨rfl, by simp [ixs], by decide, by decide, rfl⟩)⟩, by omega⟩)) rfl ?_)
        rintro _ w35 ⟨rfl, k35⟩
        have kk35 := kk34.then_ k35
        have f150 : Bk w35 p ([.int .i64 2, .int .i64 3, .int .u32 1, .string ({ data := #[120] }), .slice none (0) (0)]) 70 := (f143.no k35)
        have f151 : Bk w35 d1 (u8s (List.replicate 32 0)) 5 := (f144.no k35)
        have f152 : Bk w35 qb ([.int .i64 2, .int .i64 3, .int .u32 1, .string ({ data := #[120] }), .slice A_q ((L_q).length) (c_q)]) 70 := (f145.no k35)
        have f153 : Bk w35 z ([.int .i64 0, .int .i64 0, .int .u32 0, .string ByteArray.empty, .slice none (0) (0)]) 70 := (f146.no k35)
        have f154 : Bk w35 d2 (u8s (List.replicate 32 0)) 5 := (f147.no k35)
        have o155 : Gt w35 := (o148.no k35)
        refine ⟨⟨kk35, f150, f151, f152, f153, f154, o155⟩, ?_⟩
        refine D_take 3 rfl (by kernel_rfl) (by kernel_rfl) (by kernel_rfl) (fun _ _ _ h => h) rfl (fun W hS => pu_move rfl) ?_
        refine D_take 4 rfl (by kernel_rfl) (by kernel_rfl) (by kernel_rfl) (fun _ _ _ h => h) rfl (fun W hS => pu_extract rfl rfl) ?_
        refine D_take 5 rfl (by kernel_rfl) (by kernel_rfl) (by kernel_rfl) (fun _ _ _ h => h) rfl (fun W hS => pu_extract rfl rfl) ?_
        refine D_take 6 rfl (by kernel_rfl) (by kernel_rfl) (by kernel_rfl) (fun _ _ _ h => h) rfl (fun W hS => pu_assign rfl) ?_
        refine D_take 7 rfl (by kernel_rfl) (by kernel_rfl) (by kernel_rfl) (fun _ _ _ h => h) rfl (fun W hS => pu_assign rfl) ?_
        refine D_done (by kernel_rfl) ?_
        refine X_then hK134 ?_
        refine C_seq (fun K156 hK156 => ?_)
        refine C_region ?_
        refine R_pu (pu_move rfl) rfl ?_
        refine R_pu (pu_eqlnn (by kernel_rfl) rfl) rfl ?_
        refine R_pu (pu_move rfl) rfl ?_
        refine R_gpu rfl rfl (pu_move rfl) rfl ?_
        refine R_gpu rfl rfl (pu_eqlnn (by kernel_rfl) rfl) rfl ?_
        refine R_pu (pu_pickt rfl rfl) rfl ?_
        refine R_pu (pu_move rfl) rfl ?_
        refine R_gpu rfl rfl (pu_move rfl) rfl ?_
        refine R_gpu rfl rfl (pu_true (pu_notd rfl) (by simp)) rfl ?_
        refine R_pu (pu_pickt rfl rfl) rfl ?_
        refine R_pu (pu_move rfl) rfl ?_
        refine R_gpu rfl rfl (pu_fieldAddr (off := 4) (o' := 4) (by kernel_rfl) rfl rfl) rfl ?_
        refine R_gpu rfl rfl (pu_loadK f152 (by kernel_rfl) rfl rfl) rfl ?_
        refine R_gpu rfl rfl (pu_len Tryd.underlying29 rfl) rfl ?_
        refine R_gpu rfl rfl (pu_true (pu_eql (p := ((L_q).length) = 1) rfl rfl (by omega)) hl_q) rfl ?_
        refine R_pu (pu_pickt rfl rfl) rfl ?_
        refine R_pu (pu_move rfl) rfl ?_
        refine R_gpu rfl rfl (pu_move rfl) rfl ?_
        refine R_glo rfl rfl (lo_call (by kernel_rfl) rfl (num23_err 12 _ o155)) rfl ?_
        rintro _ w36 ⟨rfl, k36⟩
        have kk36 := kk35.then_ k36
        refine R_gpu rfl rfl (pu_true (pu_eql (p := (12 : Nat) = 12) rfl rfl (by omega)) (by decide)) rfl ?_
        refine R_pu (pu_pickt rfl rfl) rfl ?_
        refine R_pu (pu_move rfl) rfl ?_
        refine R_gpu rfl rfl (pu_move rfl) rfl ?_
        have o157 : Gt w36 := (o155.no k36)
        refine R_glo rfl rfl (lo_call (by kernel_rfl) rfl (num23_err 2 _ o157)) rfl ?_
        rintro _ w37 ⟨rfl, k37⟩
        have kk37 := kk36.then_ k37
        refine R_gpu rfl rfl (pu_true (pu_eql (p := (2 : Nat) = 2) rfl rfl (by omega)) (by decide)) rfl ?_
        refine R_pu (pu_pickt rfl rfl) rfl ?_
        refine R_pu (pu_move rfl) rfl ?_
        have f158 : Bk w37 qb ([.int .i64 2, .int .i64 3, .int .u32 1, .string ({ data := #[120] }), .slice A_q ((L_q).length) (c_q)]) 70 := ((f152.no k36).no k37)
        refine R_gpu rfl rfl (pu_loadRow (len := 5) f158 (by kernel_rfl) (by kernel_rfl) rfl rfl) rfl ?_
        refine R_glo rfl rfl (lo_call (by kernel_rfl) rfl (reset_ 1 3 1 ({ data := #[120] }) A_q ((L_q).length) c_q _)) rfl ?_
        rintro _ w38 ⟨rfl, k38⟩
        have kk38 := kk37.then_ k38
        refine R_gpu rfl rfl (pu_field (off := 0) Tryd.underlying70 rfl rfl rfl rfl) rfl ?_
        refine R_gpu rfl rfl (pu_len Tryd.underlying29 rfl) rfl ?_
        refine R_gpu rfl rfl (pu_true (pu_eql (p := (0 : Nat) = 0) rfl rfl (by omega)) (by decide)) rfl ?_
        refine R_pu (pu_pickt rfl rfl) rfl ?_
        refine R_pu (pu_assign rfl) rfl ?_
        refine R_nil ?_
        refine X_then hK156 ?_
        refine C_ret ?_
        exact X_ret1 (.inl rfl) rfl rfl ⟨rfl, kk38⟩
    · refine Nx_lo rfl (lo_alloc (L := [.int .i64 0, .int .i64 0, .int .u32 0, .string ByteArray.empty, .slice none (0) (0)]) (by kernel_rfl)) rfl ?_
      rintro _ w39 ⟨qb, rfl, N39⟩
      have k39 := N39.kp
      have kk39 := kk5.then_ k39
      have ne_qb_p : qb ≠ p := Nat.ne_of_gt (Nat.lt_of_lt_of_le f8.lt N39.le)
      have ne_qb_d1 : qb ≠ d1 := Nat.ne_of_gt (Nat.lt_of_lt_of_le f_d1_5.lt N39.le)
      have ne_qb_0 : qb ≠ 0 := Nat.ne_of_gt (Nat.lt_of_lt_of_le o9.lt N39.le)
      have f_qb_39 : Bk w39 qb ([.int .i64 0, .int .i64 0, .int .u32 0, .string ByteArray.empty, .slice none (0) (0)]) 70 := N39.bk
      have f159 : Bk w39 p ([.int .i64 2, .int .i64 3, .int .u32 1, .string ({ data := #[120] }), .slice none (0) (0)]) 70 := (f8.no k39)
      have o160 : Gt w39 := (o9.no k39)
      refine ⟨⟨kk39, f159, o160⟩, ?_⟩
      have f161 : Bk w39 d1 (u8s (List.replicate 32 0)) 5 := (f_d1_5.no k39)
      refine D_one 3 (by kernel_rfl) (Nx_lo rfl (lo_callE (by kernel_rfl) rfl (by rw [(rep_by 32).1] <;> rfl) (submit_ok 1 3 1 ({ data := #[120] }) none ([] : List Shr) 0 2 1 (some ⟨d1, 0, none⟩) (List.replicate 32 0) 32 _ (Ss.nil _ none) (Bs.ofBk f161 (rep_by 32)) (Nat.le_of_eq (rep_by 32).1) ⟨⟨⟨by decide, by decide, by decide, by decide⟩, (fun i s h => by cases h)⟩, ⟨by decide, rfl, by simp [ixs], by decide, by decide, rfl⟩, by decide, by decide⟩)) rfl ?_)
      rintro _ w40 ⟨A_q, c_q, L_q, rfl, Q40, hK_q, k40⟩
      have kk40 := kk39.then_ k40
      have z162 : w39.heap.size ≤ w40.heap.size := k40.size
      have hl_q : L_q.length = 1 := by have := congrArg List.length hK_q; simpa using this
      have f163 : Bk w40 p ([.int .i64 2, .int .i64 3, .int .u32 1, .string ({ data := #[120] }), .slice none (0) (0)]) 70 := (f159.no k40)
      have o164 : Gt w40 := (o160.no k40)
      refine ⟨⟨kk40, f163, o164⟩, ?_⟩
      refine D_take 4 rfl (by kernel_rfl) (by kernel_rfl) (by kernel_rfl) (fun _ _ _ h => h) rfl (fun W hS => pu_move rfl) ?_
      refine D_take 5 rfl (by kernel_rfl) (by kernel_rfl) (by kernel_rfl) (fun _ _ _ h => h) rfl (fun W hS => pu_extract rfl rfl) ?_
      refine D_take 6 rfl (by kernel_rfl) (by kernel_rfl) (by kernel_rfl) (fun _ _ _ h => h) rfl (fun W hS => pu_extract rfl rfl) ?_
      refine D_take 7 rfl (by kernel_rfl) (by kernel_rfl) (by kernel_rfl) (fun _ _ _ h => h) rfl (fun W hS => pu_extract rfl rfl) ?_
      have f165 : Bk w40 qb ([.int .i64 0, .int .i64 0, .int .u32 0, .string ByteArray.empty, .slice none (0) (0)]) 70 := (f_qb_39.no k40)
      refine D_one 9 (by kernel_rfl) (Nx_lo0 rfl (lo_storeRow (C := [.int .i64 2, .int .i64 3, .int .u32 1, .string ({ data := #[120] }), .slice A_q ((L_q).length) (c_q)]) f165 (by kernel_rfl) rfl rfl (by intro u hu; simp at hu; rcases hu with rfl | rfl | rfl | rfl | rfl <;> rfl) rfl) ?_)
      rintro _ w41 kf41
      obtain ⟨k41, f_qb_41⟩ := kf41
      replace f_qb_41 : Bk w41 qb ([.int .i64 2, .int .i64 3, .int .u32 1, .string ({ data := #[120] }), .slice A_q ((L_q).length) (c_q)]) 70 := f_qb_41
      have kk41 := kk40.trans k41 (fun i hi => .inr (hi ▸ (Nat.le_trans kk5.size N39.le)))
      have f166 : Bk w41 p ([.int .i64 2, .int .i64 3, .int .u32 1, .string ({ data := #[120] }), .slice none (0) (0)]) 70 := (f163.on k41 (Ne.symm ne_qb_p))
      have o167 : Gt w41 := (o164.on k41 (Ne.symm ne_qb_0))
      refine ⟨⟨kk41, f166, o167⟩, ?_⟩
      refine D_take 10 rfl (by kernel_rfl) (by kernel_rfl) (by kernel_rfl) (fun _ _ _ h => h) rfl (fun W hS => pu_assign rfl) ?_
      refine D_take 11 rfl (by kernel_rfl) (by kernel_rfl) (by kernel_rfl) (fun _ _ _ h => h) rfl (fun W hS => pu_assign rfl) ?_
      refine D_done (by kernel_rfl) ?_
      refine X_then hK4 ?_
      refine C_seq (fun K168 hK168 => ?_)
      have f169 : Bk w41 d1 (u8s (List.replicate 32 0)) 5 := ((f161.no k40).on k41 (Ne.symm ne_qb_d1))
      refine D_begin (fun W => Kp No w W ∧ Bk W p ([.int .i64 2, .int .i64 3, .int .u32 1, .string ({ data := #[120] }), .slice none (0) (0)]) 70 ∧ Bk W d1 (u8s (List.replicate 32 0)) 5 ∧ Bk W qb ([.int .i64 2, .int .i64 3, .int .u32 1, .string ({ data := #[120] }), .slice A_q ((L_q).length) (c_q)]) 70 ∧ Gt W) 12 rfl (by kernel_rfl) ⟨kk41.drew, f166.draw, f169.draw, f_qb_41.draw, o167.draw⟩ ?_
      intro w42 k42 _
      have kk42 := kk41.then_ k42
      refine D_take 0 rfl (by kernel_rfl) (by kernel_rfl) (by kernel_rfl) (fun _ _ _ h => h) rfl (fun W hS => pu_loadRow (len := 5) hS.2.2.2.1 (by kernel_rfl) (by kernel_rfl) rfl rfl) ?_
      refine D_two 1 8 (by kernel_rfl) ?_ ?_
      · have f170 : Bk w42 p ([.int .i64 2, .int .i64 3, .int .u32 1, .string ({ data := #[120] }), .slice none (0) (0)]) 70 := (f166.no k42)
        have f171 : Bk w42 d1 (u8s (List.replicate 32 0)) 5 := (f169.no k42)
        have f172 : Bk w42 qb ([.int .i64 2, .int .i64 3, .int .u32 1, .string ({ data := #[120] }), .slice A_q ((L_q).length) (c_q)]) 70 := (f_qb_41.no k42)
        have o173 : Gt w42 := (o167.no k42)
        have ob174 := ((Q40.on k41 (by have := f_qb_39.lt; omega)).keptNo k42)
        refine Nx_lo rfl (lo_make (z := .int .u8 0) (bytes := 1) (ln := 32) (cp := 32) Tryd.underlying22 (by kernel_rfl) rfl rfl rfl rfl rfl (by omega) (by omega) (by omega)) rfl ?_
        rintro _ w43 ⟨d2, rfl, N43⟩
        have k43 := N43.kp
        have kk43 := kk42.then_ k43
        have ne_d2_p : d2 ≠ p := Nat.ne_of_gt (Nat.lt_of_lt_of_le f170.lt N43.le)
        have ne_d2_d1 : d2 ≠ d1 := Nat.ne_of_gt (Nat.lt_of_lt_of_le f171.lt N43.le)
        have ne_d2_qb : d2 ≠ qb := Nat.ne_of_gt (Nat.lt_of_lt_of_le f172.lt N43.le)
        have ne_d2_0 : d2 ≠ 0 := Nat.ne_of_gt (Nat.lt_of_lt_of_le o173.lt N43.le)
        have f_d2_43 : Bk w43 d2 (u8s (List.replicate 32 0)) 5 := by rw [u8s_rep]; exact N43.bk
        have f175 : Bk w43 p ([.int .i64 2, .int .i64 3, .int .u32 1, .string ({ data := #[120] }), .slice none (0) (0)]) 70 := (f170.no k43)
        have f176 : Bk w43 d1 (u8s (List.replicate 32 0)) 5 := (f171.no k43)
        have f177 : Bk w43 qb ([.int .i64 2, .int .i64 3, .int .u32 1, .string ({ data := #[120] }), .slice A_q ((L_q).length) (c_q)]) 70 := (f172.no k43)
        have o178 : Gt w43 := (o173.no k43)
        refine ⟨⟨kk43, f175, f176, f177, o178⟩, ?_⟩
        refine D_take 2 rfl (by kernel_rfl) (by kernel_rfl) (by kernel_rfl) (fun _ _ _ h => h) rfl (fun W hS => pu_build (L := [.int .u8 2, .int .u32 1, .slice (some ⟨d2, 0, none⟩) (32) (32)]) rfl (by kernel_rfl)) ?_
        refine D_two 3 8 (by kernel_rfl) ?_ ?_
        · have ob179 := (ob174.keptNo k43)
          refine Nx_lo rfl (lo_callE (by kernel_rfl) rfl (by rw [(rep_by 32).1] <;> rfl) (submit_share 1 3 1 ({ data := #[120] }) A_q L_q c_q ({ data := #[120] }) 2 1 (some ⟨d2, 0, none⟩) (List.replicate 32 0) 32 _ ob179.ss ⟨⟨⟨by decide, by decide, by omega, by have := ob179.le; omega⟩, (came_snoc (s := ⟨2, 1, none, List.replicate 32 0, 32⟩) (fun i s h => by cases h) hK_q ⟨rfl, by simp [ixs], by decide, by decide, rfl⟩)⟩, rfl, ⟨by omega, rfl, fun h => h.1 (ixs_in hK_q)⟩, by decide, by decide, by decide⟩)) rfl ?_
          rintro _ w44 ⟨rfl, k44⟩
          have kk44 := kk43.then_ k44
          have f180 : Bk w44 p ([.int .i64 2, .int .i64 3, .int .u32 1, .string ({ data := #[120] }), .slice none (0) (0)]) 70 := (f175.no k44)
          have f181 : Bk w44 d1 (u8s (List.replicate 32 0)) 5 := (f176.no k44)
          have f182 : Bk w44 qb ([.int .i64 2, .int .i64 3, .int .u32 1, .string ({ data := #[120] }), .slice A_q ((L_q).length) (c_q)]) 70 := (f177.no k44)
          have o183 : Gt w44 := (o178.no k44)
          refine ⟨⟨kk44, f180, f181, f182, o183⟩, ?_⟩
          refine D_take 4 rfl (by kernel_rfl) (by kernel_rfl) (by kernel_rfl) (fun _ _ _ h => h) rfl (fun W hS => pu_move rfl) ?_
          refine D_take 5 rfl (by kernel_rfl) (by kernel_rfl) (by kernel_rfl) (fun _ _ _ h => h) rfl (fun W hS => pu_extract rfl rfl) ?_
          refine D_take 6 rfl (by kernel_rfl) (by kernel_rfl) (by kernel_rfl) (fun _ _ _ h => h) rfl (fun W hS => pu_extract rfl rfl) ?_
          refine D_take 7 rfl (by kernel_rfl) (by kernel_rfl) (by kernel_rfl) (fun _ _ _ h => h) rfl (fun W hS => pu_extract rfl rfl) ?_
          have f184 : Bk w44 d2 (u8s (List.replicate 32 0)) 5 := (f_d2_43.no k44)
          have ob185 := (ob179.keptNo k44)
          refine D_one 8 (by kernel_rfl) (Nx_lo rfl (lo_alloc (L := [.int .i64 0, .int .i64 0, .int .u32 0, .string ByteArray.empty, .slice none (0) (0)]) (by kernel_rfl)) rfl ?_)
          rintro _ w45 ⟨z, rfl, N45⟩
          have k45 := N45.kp
          have kk45 := kk44.then_ k45
          have ne_z_p : z ≠ p := Nat.ne_of_gt (Nat.lt_of_lt_of_le f180.lt N45.le)
          have ne_z_d1 : z ≠ d1 := Nat.ne_of_gt (Nat.lt_of_lt_of_le f181.lt N45.le)
          have ne_z_qb : z ≠ qb := Nat.ne_of_gt (Nat.lt_of_lt_of_le f182.lt N45.le)
          have ne_z_d2 : z ≠ d2 := Nat.ne_of_gt (Nat.lt_of_lt_of_le f184.lt N45.le)
          have ne_z_0 : z ≠ 0 := Nat.ne_of_gt (Nat.lt_of_lt_of_le o183.lt N45.le)
          have f_z_45 : Bk w45 z ([.int .i64 0, .int .i64 0, .int .u32 0, .string ByteArray.empty, .slice none (0) (0)]) 70 := N45.bk
          have f186 : Bk w45 p ([.int .i64 2, .int .i64 3, .int .u32 1, .string ({ data := #[120] }), .slice none (0) (0)]) 70 := (f180.no k45)
          have f187 : Bk w45 d1 (u8s (List.replicate 32 0)) 5 := (f181.no k45)
          have f188 : Bk w45 qb ([.int .i64 2, .int .i64 3, .int .u32 1, .string ({ data := #[120] }), .slice A_q ((L_q).length) (c_q)]) 70 := (f182.no k45)
          have o189 : Gt w45 := (o183.no k45)
          refine ⟨⟨kk45, f186, f187, f188, o189⟩, ?_⟩
          refine D_one 9 (by kernel_rfl) (Nx_lo0 rfl (lo_storeRow (C := [.int .i64 0, .int .i64 0, .int .u32 0, .string ByteArray.empty, .slice none (0) (0)]) f_z_45 (by kernel_rfl) rfl rfl (by intro u hu; simp at hu; rcases hu with rfl | rfl | rfl | rfl | rfl <;> rfl) rfl) ?_)
          rintro _ w46 kf46
          obtain ⟨k46, f_z_46⟩ := kf46
          replace f_z_46 : Bk w46 z ([.int .i64 0, .int .i64 0, .int .u32 0, .string ByteArray.empty, .slice none (0) (0)]) 70 := f_z_46
          have kk46 := kk45.trans k46 (fun i hi => .inr (hi ▸ (Nat.le_trans kk44.size N45.le)))
          have f190 : Bk w46 p ([.int .i64 2, .int .i64 3, .int .u32 1, .string ({ data := #[120] }), .slice none (0) (0)]) 70 := (f186.on k46 (Ne.symm ne_z_p))
          have f191 : Bk w46 d1 (u8s (List.replicate 32 0)) 5 := (f187.on k46 (Ne.symm ne_z_d1))
          have f192 : Bk w46 qb ([.int .i64 2, .int .i64 3, .int .u32 1, .string ({ data := #[120] }), .slice A_q ((L_q).length) (c_q)]) 70 := (f188.on k46 (Ne.symm ne_z_qb))
          have o193 : Gt w46 := (o189.on k46 (Ne.symm ne_z_0))
          refine ⟨⟨kk46, f190, f191, f192, o193⟩, ?_⟩
          refine D_take 10 rfl (by kernel_rfl) (by kernel_rfl) (by kernel_rfl) (fun _ _ _ h => h) rfl (fun W hS => pu_assign rfl) ?_
          refine D_take 11 rfl (by kernel_rfl) (by kernel_rfl) (by kernel_rfl) (fun _ _ _ h => h) rfl (fun W hS => pu_assign rfl) ?_
          refine D_done (by kernel_rfl) ?_
          refine X_then hK168 ?_
          refine C_seq (fun K194 hK194 => ?_)
          have f195 : Bk w46 d2 (u8s (List.replicate 32 0)) 5 := ((f184.no k45).on k46 (Ne.symm ne_z_d2))
          refine D_begin (fun W => Kp No w W ∧ Bk W p ([.int .i64 2, .int .i64 3, .int .u32 1, .string ({ data := #[120] }), .slice none (0) (0)]) 70 ∧ Bk W d1 (u8s (List.replicate 32 0)) 5 ∧ Bk W qb ([.int .i64 2, .int .i64 3, .int .u32 1, .string ({ data := #[120] }), .slice A_q ((L_q).length) (c_q)]) 70 ∧ Bk W d2 (u8s (List.replicate 32 0)) 5 ∧ Bk W z ([.int .i64 0, .int .i64 0, .int .u32 0, .string ByteArray.empty, .slice none (0) (0)]) 70 ∧ Gt W) 8 rfl (by kernel_rfl) ⟨kk46.drew, f190.draw, f191.draw, f192.draw, f195.draw, f_z_46.draw, o193.draw⟩ ?_
          intro w47 k47 _
          have kk47 := kk46.then_ k47
          refine D_take 1 rfl (by kernel_rfl) (by kernel_rfl) (by kernel_rfl) (fun _ _ _ h => h) rfl (fun W hS => pu_loadRow (len := 5) hS.2.2.2.1 (by kernel_rfl) (by kernel_rfl) rfl rfl) ?_
          have f196 : Bk w47 p ([.int .i64 2, .int .i64 3, .int .u32 1, .string ({ data := #[120] }), .slice none (0) (0)]) 70 := (f190.no k47)
          have f197 : Bk w47 d1 (u8s (List.replicate 32 0)) 5 := (f191.no k47)
          have f198 : Bk w47 qb ([.int .i64 2, .int .i64 3, .int .u32 1, .string ({ data := #[120] }), .slice A_q ((L_q).length) (c_q)]) 70 := (f192.no k47)
          have f199 : Bk w47 d2 (u8s (List.replicate 32 0)) 5 := (f195.no k47)
          have f200 : Bk w47 z ([.int .i64 0, .int .i64 0, .int .u32 0, .string ByteArray.empty, .slice none (0) (0)]) 70 := (f_z_46.no k47)
          have o201 : Gt w47 := (o193.no k47)
          have ob202 := (((ob185.keptNo k45).onN k46 ob185 N45.le).keptNo k47)
          refine D_one 0 (by kernel_rfl) (Nx_lo rfl (lo_call (by kernel_rfl) rfl (gf_new _)) rfl ?_)
          rintro _ w48 ⟨b4_0, rfl, le48, T48, k48⟩
          have kk48 := kk47.then_ k48
          have ne_b4_0_p : b4_0 ≠ p := Nat.ne_of_gt (Nat.lt_of_lt_of_le f196.lt le48)
          have ne_b4_0_d1 : b4_0 ≠ d1 := Nat.ne_of_gt (Nat.lt_of_lt_of_le f197.lt le48)
          have ne_b4_0_qb : b4_0 ≠ qb := Nat.ne_of_gt (Nat.lt_of_lt_of_le f198.lt le48)
          have ne_b4_0_d2 : b4_0 ≠ d2 := Nat.ne_of_gt (Nat.lt_of_lt_of_le f199.lt le48)
          have ne_b4_0_z : b4_0 ≠ z := Nat.ne_of_gt (Nat.lt_of_lt_of_le f200.lt le48)
          have ne_b4_0_0 : b4_0 ≠ 0 := Nat.ne_of_gt (Nat.lt_of_lt_of_le o201.lt le48)
          have f203 : Bk w48 p ([.int .i64 2, .int .i64 3, .int .u32 1, .string ({ data := #[120] }), .slice none (0) (0)]) 70 := (f196.no k48)
          have f204 : Bk w48 d1 (u8s (List.replicate 32 0)) 5 := (f197.no k48)
          have f205 : Bk w48 qb ([.int .i64 2, .int .i64 3, .int .u32 1, .string ({ data := #[120] }), .slice A_q ((L_q).length) (c_q)]) 70 := (f198.no k48)
          have f206 : Bk w48 d2 (u8s (List.replicate 32 0)) 5 := (f199.no k48)
          have f207 : Bk w48 z ([.int .i64 0, .int .i64 0, .int .u32 0, .string ByteArray.empty, .slice none (0) (0)]) 70 := (f200.no k48)
          have o208 : Gt w48 := (o201.no k48)
          refine ⟨⟨kk48, f203, f204, f205, f206, f207, o208⟩, ?_⟩
          have ob209 := (ob202.keptNo k48)
          refine D_one 2 (by kernel_rfl) (Nx_lo rfl (lo_call (by kernel_rfl) rfl (secret_short b4_0 1 3 1 ({ data := #[120] }) A_q L_q c_q _ ob209.ss ⟨⟨⟨by decide, by decide, by omega, by have := ob209.le; omega⟩, (came_snoc (s := ⟨2, 1, none, List.replicate 32 0, 32⟩) (fun i s h => by cases h) hK_q ⟨rfl, by simp [ixs], by decide, by decide, rfl⟩)⟩, by omega⟩)) rfl ?_)
          rintro _ w49 ⟨rfl, k49⟩
          have kk49 := kk48.then_ k49
          have f210 : Bk w49 p ([.int .i64 2, .int .i64 3, .int .u32 1, .string ({ data := #[120] }), .slice none (0) (0)]) 70 := (f203.no k49)
          have f211 : Bk w49 d1 (u8s (List.replicate 32 0)) 5 := (f204.no k49)
          have f212 : Bk w49 qb ([.int .i64 2, .int .i64 3, .int .u32 1, .string ({ data := #[120] }), .slice A_q ((L_q).length) (c_q)]) 70 := (f205.no k49)
          have f213 : Bk w49 d2 (u8s (List.replicate 32 0)) 5 := (f206.no k49)
          have f214 : Bk w49 z ([.int .i64 0, .int .i64 0, .int .u32 0, .string ByteArray.empty, .slice none (0) (0)]) 70 := (f207.no k49)
          have o215 : Gt w49 := (o208.no k49)
          refine ⟨⟨kk49, f210, f211, f212, f213, f214, o215⟩, ?_⟩
          refine D_take 3 rfl (by kernel_rfl) (by kernel_rfl) (by kernel_rfl) (fun _ _ _ h => h) rfl (fun W hS => pu_move rfl) ?_
          refine D_take 4 rfl (by kernel_rfl) (by kernel_rfl) (by kernel_rfl) (fun _ _ _ h => h) rfl (fun W hS => pu_extract rfl rfl) ?_
          refine D_take 5 rfl (by kernel_rfl) (by kernel_rfl) (by kernel_rfl) (fun _ _ _ h => h) rfl (fun W hS => pu_extract rfl rfl) ?_
          refine D_take 6 rfl (by kernel_rfl) (by kernel_rfl) (by kernel_rfl) (fun _ _ _ h => h) rfl (fun W hS => pu_assign rfl) ?_
          refine D_take 7 rfl (by kernel_rfl) (by kernel_rfl) (by kernel_rfl) (fun _ _ _ h => h) rfl (fun W hS => pu_assign rfl) ?_
          refine D_done (by kernel_rfl) ?_
          refine X_then hK194 ?_
          refine C_seq (fun K216 hK216 => ?_)
          refine C_region ?_
          refine R_pu (pu_move rfl) rfl ?_
          refine R_pu (pu_eqlnn (by kernel_rfl) rfl) rfl ?_
          refine R_pu (pu_move rfl) rfl ?_
          refine R_gpu rfl rfl (pu_move rfl) rfl ?_
          refine R_gpu rfl rfl (pu_eqlnn (by kernel_rfl) rfl) rfl ?_
          refine R_pu (pu_pickt rfl rfl) rfl ?_
          refine R_pu (pu_move rfl) rfl ?_
          refine R_gpu rfl rfl (pu_move rfl) rfl ?_
          refine R_gpu rfl rfl (pu_true (pu_notd rfl) (by simp)) rfl ?_
          refine R_pu (pu_pickt rfl rfl) rfl ?_
          refine R_pu (pu_move rfl) rfl ?_
          refine R_gpu rfl rfl (pu_fieldAddr (off := 4) (o' := 4) (by kernel_rfl) rfl rfl) rfl ?_
          refine R_gpu rfl rfl (pu_loadK f212 (by kernel_rfl) rfl rfl) rfl ?_
          refine R_gpu rfl rfl (pu_len Tryd.underlying29 rfl) rfl ?_
          refine R_gpu rfl rfl (pu_true (pu_eql (p := ((L_q).length) = 1) rfl rfl (by omega)) hl_q) rfl ?_
          refine R_pu (pu_pickt rfl rfl) rfl ?_
          refine R_pu (pu_move rfl) rfl ?_
          refine R_gpu rfl rfl (pu_move rfl) rfl ?_
          refine R_glo rfl rfl (lo_call (by kernel_rfl) rfl (num23_err 12 _ o215)) rfl ?_
          rintro _ w50 ⟨rfl, k50⟩
          have kk50 := kk49.then_ k50
          refine R_gpu rfl rfl (pu_true (pu_eql (p := (12 : Nat) = 12) rfl rfl (by omega)) (by decide)) rfl ?_
          refine R_pu (pu_pickt rfl rfl) rfl ?_
          refine R_pu (pu_move rfl) rfl ?_
          refine R_gpu rfl rfl (pu_move rfl) rfl ?_
          have o217 : Gt w50 := (o215.no k50)
          refine R_glo rfl rfl (lo_call (by kernel_rfl) rfl (num23_err 2 _ o217)) rfl ?_
          rintro _ w51 ⟨rfl, k51⟩
          have kk51 := kk50.then_ k51
          refine R_gpu rfl rfl (pu_true (pu_eql (p := (2 : Nat) = 2) rfl rfl (by omega)) (by decide)) rfl ?_
          refine R_pu (pu_pickt rfl rfl) rfl ?_
          refine R_pu (pu_move rfl) rfl ?_
          have f218 : Bk w51 qb ([.int .i64 2, .int .i64 3, .int .u32 1, .string ({ data := #[120] }), .slice A_q ((L_q).length) (c_q)]) 70 := ((f212.no k50).no k51)
          refine R_gpu rfl rfl (pu_loadRow (len := 5) f218 (by kernel_rfl) (by kernel_rfl) rfl rfl) rfl ?_
          refine R_glo rfl rfl (lo_call (by kernel_rfl) rfl (reset_ 1 3 1 ({ data := #[120] }) A_q ((L_q).length) c_q _)) rfl ?_
          rintro _ w52 ⟨rfl, k52⟩
          have kk52 := kk51.then_ k52
          refine R_gpu rfl rfl (pu_field (off := 0) Tryd.underlying70 rfl rfl rfl rfl) rfl ?_
          refine R_gpu rfl rfl (pu_len Tryd.underlying29 rfl) rfl ?_
          refine R_gpu rfl rfl (pu_true (pu_eql (p := (0 : Nat) = 0) rfl rfl (by omega)) (by decide)) rfl ?_
          refine R_pu (pu_pickt rfl rfl) rfl ?_
          refine R_pu (pu_assign rfl) rfl ?_
          refine R_nil ?_
          refine X_then hK216 ?_
          refine C_ret ?_
          exact X_ret1 (.inl rfl) rfl rfl ⟨rfl, kk52⟩
        · have ob219 := (ob174.keptNo k43)
          refine Nx_lo rfl (lo_alloc (L := [.int .i64 0, .int .i64 0, .int .u32 0, .string ByteArray.empty, .slice none (0) (0)]) (by kernel_rfl)) rfl ?_
          rintro _ w53 ⟨z, rfl, N53⟩
          have k53 := N53.kp
          have kk53 := kk43.then_ k53
          have ne_z_p : z ≠ p := Nat.ne_of_gt (Nat.lt_of_lt_of_le f175.lt N53.le)
          have ne_z_d1 : z ≠ d1 := Nat.ne_of_gt (Nat.lt_of_lt_of_le f176.lt N53.le)
          have ne_z_qb : z ≠ qb := Nat.ne_of_gt (Nat.lt_of_lt_of_le f177.lt N53.le)
          have ne_z_d2 : z ≠ d2 := Nat.ne_of_gt (Nat.lt_of_lt_of_le f_d2_43.lt N53.le)
          have ne_z_0 : z ≠ 0 := Nat.ne_of_gt (Nat.lt_of_lt_of_le o178.lt N53.le)
          have f_z_53 : Bk w53 z ([.int .i64 0, .int .i64 0, .int .u32 0, .string ByteArray.empty, .slice none (0) (0)]) 70 := N53.bk
          have f220 : Bk w53 p ([.int .i64 2, .int .i64 3, .int .u32 1, .string ({ data := #[120] }), .slice none (0) (0)]) 70 := (f175.no k53)
          have f221 : Bk w53 d1 (u8s (List.replicate 32 0)) 5 := (f176.no k53)
          have f222 : Bk w53 qb ([.int .i64 2, .int .i64 3, .int .u32 1, .string ({ data := #[120] }), .slice A_q ((L_q).length) (c_q)]) 70 := (f177.no k53)
          have o223 : Gt w53 := (o178.no k53)
          refine ⟨⟨kk53, f220, f221, f222, o223⟩, ?_⟩
          have ob224 := (ob219.keptNo k53)
          have f225 : Bk w53 d2 (u8s (List.replicate 32 0)) 5 := (f_d2_43.no k53)
          refine D_one 3 (by kernel_rfl) (Nx_lo rfl (lo_callE (by kernel_rfl) rfl (by rw [(rep_by 32).1] <;> rfl) (submit_share 1 3 1 ({ data := #[120] }) A_q L_q c_q ({ data := #[120] }) 2 1 (some ⟨d2, 0, none⟩) (List.replicate 32 0) 32 _ ob224.ss ⟨⟨⟨by decide, by decide, by omega, by have := ob224.le; omega⟩, (came_snoc (s := ⟨2, 1, none, List.replicate 32 0, 32⟩) (fun i s h => by cases h) hK_q ⟨rfl, by simp [ixs], by decide, by decide, rfl⟩)⟩, rfl, ⟨by omega, rfl, fun h => h.1 (ixs_in hK_q)⟩, by decide, by decide, by decide⟩)) rfl ?_)
          rintro _ w54 ⟨rfl, k54⟩
          have kk54 := kk53.then_ k54
          have f226 : Bk w54 p ([.int .i64 2, .int .i64 3, .int .u32 1, .string ({ data := #[120] }), .slice none (0) (0)]) 70 := (f220.no k54)
          have f227 : Bk w54 d1 (u8s (List.replicate 32 0)) 5 := (f221.no k54)
          have f228 : Bk w54 qb ([.int .i64 2, .int .i64 3, .int .u32 1, .string ({ data := #[120] }), .slice A_q ((L_q).length) (c_q)]) 70 := (f222.no k54)
          have o229 : Gt w54 := (o223.no k54)
          refine ⟨⟨kk54, f226, f227, f228, o229⟩, ?_⟩
          refine D_take 4 rfl (by kernel_rfl) (by kernel_rfl) (by kernel_rfl) (fun _ _ _ h => h) rfl (fun W hS => pu_move rfl) ?_
          refine D_take 5 rfl (by kernel_rfl) (by kernel_rfl) (by kernel_rfl) (fun _ _ _ h => h) rfl (fun W hS => pu_extract rfl rfl) ?_
          refine D_take 6 rfl (by kernel_rfl) (by kernel_rfl) (by kernel_rfl) (fun _ _ _ h => h) rfl (fun W hS => pu_extract rfl rfl) ?_
          refine D_take 7 rfl (by kernel_rfl) (by kernel_rfl) (by kernel_rfl) (fun _ _ _ h => h) rfl (fun W hS => pu_extract rfl rfl) ?_
          have f230 : Bk w54 z ([.int .i64 0, .int .i64 0, .int .u32 0, .string ByteArray.empty, .slice none (0) (0)]) 70 := (f_z_53.no k54)
          refine D_one 9 (by kernel_rfl) (Nx_lo0 rfl (lo_storeRow (C := [.int .i64 0, .int .i64 0, .int .u32 0, .string ByteArray.empty, .slice none (0) (0)]) f230 (by kernel_rfl) rfl rfl (by intro u hu; simp at hu; rcases hu with rfl | rfl | rfl | rfl | rfl <;> rfl) rfl) ?_)
          rintro _ w55 kf55
          obtain ⟨k55, f_z_55⟩ := kf55
          replace f_z_55 : Bk w55 z ([.int .i64 0, .int .i64 0, .int .u32 0, .string ByteArray.empty, .slice none (0) (0)]) 70 := f_z_55
          have kk55 := kk54.trans k55 (fun i hi => .inr (hi ▸ (Nat.le_trans kk43.size N53.le)))
          have f231 : Bk w55 p ([.int .i64 2, .int .i64 3, .int .u32 1, .string ({ data := #[120] }), .slice none (0) (0)]) 70 := (f226.on k55 (Ne.symm ne_z_p))
          have f232 : Bk w55 d1 (u8s (List.replicate 32 0)) 5 := (f227.on k55 (Ne.symm ne_z_d1))
          have f233 : Bk w55 qb ([.int .i64 2, .int .i64 3, .int .u32 1, .string ({ data := #[120] }), .slice A_q ((L_q).length) (c_q)]) 70 := (f228.on k55 (Ne.symm ne_z_qb))
          have o234 : Gt w55 := (o229.on k55 (Ne.symm ne_z_0))
          refine ⟨⟨kk55, f231, f232, f233, o234⟩, ?_⟩
          refine D_take 10 rfl (by kernel_rfl) (by kernel_rfl) (by kernel_rfl) (fun _ _ _ h => h) rfl (fun W hS => pu_assign rfl) ?_
          refine D_take 11 rfl (by kernel_rfl) (by kernel_rfl) (by kernel_rfl) (fun _ _ _ h => h) rfl (fun W hS => pu_assign rfl) ?_
          refine D_done (by kernel_rfl) ?_
          refine X_then hK168 ?_
          refine C_seq (fun K235 hK235 => ?_)
          have f236 : Bk w55 d2 (u8s (List.replicate 32 0)) 5 := ((f225.no k54).on k55 (Ne.symm ne_z_d2))
          refine D_begin (fun W => Kp No w W ∧ Bk W p ([.int .i64 2, .int .i64 3, .int .u32 1, .string ({ data := #[120] }), .slice none (0) (0)]) 70 ∧ Bk W d1 (u8s (List.replicate 32 0)) 5 ∧ Bk W qb ([.int .i64 2, .int .i64 3, .int .u32 1, .string ({ data := #[120] }), .slice A_q ((L_q).length) (c_q)]) 70 ∧ Bk W d2 (u8s (List.replicate 32 0)) 5 ∧ Bk W z ([.int .i64 0, .int .i64 0, .int .u32 0, .string ByteArray.empty, .slice none (0) (0)]) 70 ∧ Gt W) 8 rfl (by kernel_rfl) ⟨kk55.drew, f231.draw, f232.draw, f233.draw, f236.draw, f_z_55.draw, o234.draw⟩ ?_
          intro w56 k56 _
          have kk56 := kk55.then_ k56
          refine D_take 1 rfl (by kernel_rfl) (by kernel_rfl) (by kernel_rfl) (fun _ _ _ h => h) rfl (fun W hS => pu_loadRow (len := 5) hS.2.2.2.1 (by kernel_rfl) (by kernel_rfl) rfl rfl) ?_
          have f237 : Bk w56 p ([.int .i64 2, .int .i64 3, .int .u32 1, .string ({ data := #[120] }), .slice none (0) (0)]) 70 := (f231.no k56)
          have f238 : Bk w56 d1 (u8s (List.replicate 32 0)) 5 := (f232.no k56)
          have f239 : Bk w56 qb ([.int .i64 2, .int .i64 3, .int .u32 1, .string ({ data := #[120] }), .slice A_q ((L_q).length) (c_q)]) 70 := (f233.no k56)
          have f240 : Bk w56 d2 (u8s (List.replicate 32 0)) 5 := (f236.no k56)
          have f241 : Bk w56 z ([.int .i64 0, .int .i64 0, .int .u32 0, .string ByteArray.empty, .slice none (0) (0)]) 70 := (f_z_55.no k56)
          have o242 : Gt w56 := (o234.no k56)
          have ob243 := (((ob224.keptNo k54).onN k55 ob219 N53.le).keptNo k56)
          refine D_one 0 (by kernel_rfl) (Nx_lo rfl (lo_call (by kernel_rfl) rfl (gf_new _)) rfl ?_)
          rintro _ w57 ⟨b4_0, rfl, le57, T57, k57⟩
          have kk57 := kk56.then_ k57
          have ne_b4_0_p : b4_0 ≠ p := Nat.ne_of_gt (Nat.lt_of_lt_of_le f237.lt le57)
          have ne_b4_0_d1 : b4_0 ≠ d1 := Nat.ne_of_gt (Nat.lt_of_lt_of_le f238.lt le57)
          have ne_b4_0_qb : b4_0 ≠ qb := Nat.ne_of_gt (Nat.lt_of_lt_of_le f239.lt le57)
          have ne_b4_0_d2 : b4_0 ≠ d2 := Nat.ne_of_gt (Nat.lt_of_lt_of_le f240.lt le57)
          have ne_b4_0_z : b4_0 ≠ z := Nat.ne_of_gt (Nat.lt_of_lt_of_le f241.lt le57)
          have ne_b4_0_0 : b4_0 ≠ 0 := Nat.ne_of_gt (Nat.lt_of_lt_of_le o242.lt le57)
          have f244 : Bk w57 p ([.int .i64 2, .int .i64 3, .int .u32 1, .string ({ data := #[120] }), .slice none (0) (0)]) 70 := (f237.no k57)
          have f245 : Bk w57 d1 (u8s (List.replicate 32 0)) 5 := (f238.no k57)
          have f246 : Bk w57 qb ([.int .i64 2, .int .i64 3, .int .u32 1, .string ({ data := #[120] }), .slice A_q ((L_q).length) (c_q)]) 70 := (f239.no k57)
          have f247 : Bk w57 d2 (u8s (List.replicate 32 0)) 5 := (f240.no k57)
          have f248 : Bk w57 z ([.int .i64 0, .int .i64 0, .int .u32 0, .string ByteArray.empty, .slice none (0) (0)]) 70 := (f241.no k57)
          have o249 : Gt w57 := (o242.no k57)
          refine ⟨⟨kk57, f244, f245, f246, f247, f248, o249⟩, ?_⟩
          have ob250 := (ob243.keptNo k57)
          refine D_one 2 (by kernel_rfl) (Nx_lo rfl (lo_call (by kernel_rfl) rfl (secret_short b4_0 1 3 1 ({ data := #[120] }) A_q L_q c_q _ ob250.ss ⟨⟨⟨by decide, by decide, by omega, by have := ob250.le; omega⟩, (came_snoc (s := ⟨2, 1, none, List.replicate 32 0, 32⟩) (fun i s h => by cases h) hK_q ⟨rfl, by simp [ixs], by decide, by decide, rfl⟩)⟩, by omega⟩)) rfl ?_)
          rintro _ w58 ⟨rfl, k58⟩
          have kk58 := kk57.then_ k58
          have f251 : Bk w58 p ([.int .i64 2, .int .i64 3, .int .u32 1, .string ({ data := #[120] }), .slice none (0) (0)]) 70 := (f244.no k58)
          have f252 : Bk w58 d1 (u8s (List.replicate 32 0)) 5 := (f245.no k58)
          have f253 : Bk w58 qb ([.int .i64 2, .int .i64 3, .int .u32 1, .string ({ data := #[120] }), .slice A_q ((L_q).length) (c_q)]) 70 := (f246.no k58)
          have f254 : Bk w58 d2 (u8s (List.replicate 32 0)) 5 := (f247.no k58)
          have f255 : Bk w58 z ([.int .i64 0, .int .i64 0, .int .u32 0, .string ByteArray.empty, .slice none (0) (0)]) 70 := (f248.no k58)
          have o256 : Gt w58 := (o249.no k58)
          refine ⟨⟨kk58, f251, f252, f253, f254, f255, o256⟩, ?_⟩
          refine D_take 3 rfl (by kernel_rfl) (by kernel_rfl) (by kernel_rfl) (fun _ _ _ h => h) rfl (fun W hS => pu_move rfl) ?_
          refine D_take 4 rfl (by kernel_rfl) (by kernel_rfl) (by kernel_rfl) (fun _ _ _ h => h) rfl (fun W hS => pu_extract rfl rfl) ?_
          refine D_take 5 rfl (by kernel_rfl) (by kernel_rfl) (by kernel_rfl) (fun _ _ _ h => h) rfl (fun W hS => pu_extract rfl rfl) ?_
          refine D_take 6 rfl (by kernel_rfl) (by kernel_rfl) (by kernel_rfl) (fun _ _ _ h => h) rfl (fun W hS => pu_assign rfl) ?_
          refine D_take 7 rfl (by kernel_rfl) (by kernel_rfl) (by kernel_rfl) (fun _ _ _ h => h) rfl (fun W hS => pu_assign rfl) ?_
          refine D_done (by kernel_rfl) ?_
          refine X_then hK235 ?_
          refine C_seq (fun K257 hK257 => ?_)
          refine C_region ?_
          refine R_pu (pu_move rfl) rfl ?_
          refine R_pu (pu_eqlnn (by kernel_rfl) rfl) rfl ?_
          refine R_pu (pu_move rfl) rfl ?_
          refine R_gpu rfl rfl (pu_move rfl) rfl ?_
          refine R_gpu rfl rfl (pu_eqlnn (by kernel_rfl) rfl) rfl ?_
          refine R_pu (pu_pickt rfl rfl) rfl ?_
          refine R_pu (pu_move rfl) rfl ?_
          refine R_gpu rfl rfl (pu_move rfl) rfl ?_
          refine R_gpu rfl rfl (pu_true (pu_notd rfl) (by simp)) rfl ?_
          refine R_pu (pu_pickt rfl rfl) rfl ?_
          refine R_pu (pu_move rfl) rfl ?_
          refine R_gpu rfl rfl (pu_fieldAddr (off := 4) (o' := 4) (by kernel_rfl) rfl rfl) rfl ?_
          refine R_gpu rfl rfl (pu_loadK f253 (by kernel_rfl) rfl rfl) rfl ?_
          refine R_gpu rfl rfl (pu_len Tryd.underlying29 rfl) rfl ?_
          refine R_gpu rfl rfl (pu_true (pu_eql (p := ((L_q).length) = 1) rfl rfl (by omega)) hl_q) rfl ?_
          refine R_pu (pu_pickt rfl rfl) rfl ?_
          refine R_pu (pu_move rfl) rfl ?_
          refine R_gpu rfl rfl (pu_move rfl) rfl ?_
          refine R_glo rfl rfl (lo_call (by kernel_rfl) rfl (num23_err 12 _ o256)) rfl ?_
          rintro _ w59 ⟨rfl, k59⟩
          have kk59 := kk58.then_ k59
          refine R_gpu rfl rfl (pu_true (pu_eql (p := (12 : Nat) = 12) rfl rfl (by omega)) (by decide)) rfl ?_
          refine R_pu (pu_pickt rfl rfl) rfl ?_
          refine R_pu (pu_move rfl) rfl ?_
          refine R_gpu rfl rfl (pu_move rfl) rfl ?_
          have o258 : Gt w59 := (o256.no k59)
          refine R_glo rfl rfl (lo_call (by kernel_rfl) rfl (num23_err 2 _ o258)) rfl ?_
          rintro _ w60 ⟨rfl, k60⟩
          have kk60 := kk59.then_ k60
          refine R_gpu rfl rfl (pu_true (pu_eql (p := (2 : Nat) = 2) rfl rfl (by omega)) (by decide)) rfl ?_
          refine R_pu (pu_pickt rfl rfl) rfl ?_
          refine R_pu (pu_move rfl) rfl ?_
          have f259 : Bk w60 qb ([.int .i64 2, .int .i64 3, .int .u32 1, .string ({ data := #[120] }), .slice A_q ((L_q).length) (c_q)]) 70 := ((f253.no k59).no k60)
          refine R_gpu rfl rfl (pu_loadRow (len := 5) f259 (by kernel_rfl) (by kernel_rfl) rfl rfl) rfl ?_
          refine R_glo rfl rfl (lo_call (by kernel_rfl) rfl (reset_ 1 3 1 ({ data := #[120] }) A_q ((L_q).length) c_q _)) rfl ?_
          rintro _ w61 ⟨rfl, k61⟩
          have kk61 := kk60.then_ k61
          refine R_gpu rfl rfl (pu_field (off := 0) Tryd.underlying70 rfl rfl rfl rfl) rfl ?_
          refine R_gpu rfl rfl (pu_len Tryd.underlying29 rfl) rfl ?_
          refine R_gpu rfl rfl (pu_true (pu_eql (p := (0 : Nat) = 0) rfl rfl (by omega)) (by decide)) rfl ?_
          refine R_pu (pu_pickt rfl rfl) rfl ?_
          refine R_pu (pu_assign rfl) rfl ?_
          refine R_nil ?_
          refine X_then hK257 ?_
          refine C_ret ?_
          exact X_ret1 (.inl rfl) rfl rfl ⟨rfl, kk61⟩
      · have f260 : Bk w42 p ([.int .i64 2, .int .i64 3, .int .u32 1, .string ({ data := #[120] }), .slice none (0) (0)]) 70 := (f166.no k42)
        have f261 : Bk w42 d1 (u8s (List.replicate 32 0)) 5 := (f169.no k42)
        have f262 : Bk w42 qb ([.int .i64 2, .int .i64 3, .int .u32 1, .string ({ data := #[120] }), .slice A_q ((L_q).length) (c_q)]) 70 := (f_qb_41.no k42)
        have o263 : Gt w42 := (o167.no k42)
        have ob264 := ((Q40.on k41 (by have := f_qb_39.lt; omega)).keptNo k42)
        refine Nx_lo rfl (lo_alloc (L := [.int .i64 0, .int .i64 0, .int .u32 0, .string ByteArray.empty, .slice none (0) (0)]) (by kernel_rfl)) rfl ?_
        rintro _ w62 ⟨z, rfl, N62⟩
        have k62 := N62.kp
        have kk62 := kk42.then_ k62
        have ne_z_p : z ≠ p := Nat.ne_of_gt (Nat.lt_of_lt_of_le f260.lt N62.le)
        have ne_z_d1 : z ≠ d1 := Nat.ne_of_gt (Nat.lt_of_lt_of_le f261.lt N62.le)
        have ne_z_qb : z ≠ qb := Nat.ne_of_gt (Nat.lt_of_lt_of_le f262.lt N62.le)
        have ne_z_0 : z ≠ 0 := Nat.ne_of_gt (Nat.lt_of_lt_of_le o263.lt N62.le)
        have f_z_62 : Bk w62 z ([.int .i64 0, .int .i64 0, .int .u32 0, .string ByteArray.empty, .slice none (0) (0)]) 70 := N62.bk
        have f265 : Bk w62 p ([.int .i64 2, .int .i64 3, .int .u32 1, .string ({ data := #[120] }), .slice none (0) (0)]) 70 := (f260.no k62)
        have f266 : Bk w62 d1 (u8s (List.replicate 32 0)) 5 := (f261.no k62)
        have f267 : Bk w62 qb ([.int .i64 2, .int .i64 3, .int .u32 1, .string ({ data := #[120] }), .slice A_q ((L_q).length) (c_q)]) 70 := (f262.no k62)
        have o268 : Gt w62 := (o263.no k62)
        refine ⟨⟨kk62, f265, f266, f267, o268⟩, ?_⟩
        have ob269 := (ob264.keptNo k62)
        refine D_one 1 (by kernel_rfl) (Nx_lo rfl (lo_make (z := .int .u8 0) (bytes := 1) (ln := 32) (cp := 32) Tryd.underlying22 (by kernel_rfl) rfl rfl rfl rfl rfl (by omega) (by omega) (by omega)) rfl ?_)
        rintro _ w63 ⟨d2, rfl, N63⟩
        have k63 := N63.kp
        have kk63 := kk62.then_ k63
        have ne_d2_p : d2 ≠ p := Nat.ne_of_gt (Nat.lt_of_lt_of_le f265.lt N63.le)
        have ne_d2_d1 : d2 ≠ d1 := Nat.ne_of_gt (Nat.lt_of_lt_of_le f266.lt N63.le)
        have ne_d2_qb : d2 ≠ qb := Nat.ne_of_gt (Nat.lt_of_lt_of_le f267.lt N63.le)
        have ne_d2_z : d2 ≠ z := Nat.ne_of_gt (Nat.lt_of_lt_of_le f_z_62.lt N63.le)
        have ne_d2_0 : d2 ≠ 0 := Nat.ne_of_gt (Nat.lt_of_lt_of_le o268.lt N63.le)
        have f_d2_63 : Bk w63 d2 (u8s (List.replicate 32 0)) 5 := by rw [u8s_rep]; exact N63.bk
        have f270 : Bk w63 p ([.int .i64 2, .int .i64 3, .int .u32 1, .string ({ data := #[120] }), .slice none (0) (0)]) 70 := (f265.no k63)
        have f271 : Bk w63 d1 (u8s (List.replicate 32 0)) 5 := (f266.no k63)
        have f272 : Bk w63 qb ([.int .i64 2, .int .i64 3, .int .u32 1, .string ({ data := #[120] }), .slice A_q ((L_q).length) (c_q)]) 70 := (f267.no k63)
        have o273 : Gt w63 := (o268.no k63)
        refine ⟨⟨kk63, f270, f271, f272, o273⟩, ?_⟩
        refine D_take 2 rfl (by kernel_rfl) (by kernel_rfl) (by kernel_rfl) (fun _ _ _ h => h) rfl (fun W hS => pu_build (L := [.int .u8 2, .int .u32 1, .slice (some ⟨d2, 0, none⟩) (32) (32)]) rfl (by kernel_rfl)) ?_
        have ob274 := (ob269.keptNo k63)
        refine D_one 3 (by kernel_rfl) (Nx_lo rfl (lo_callE (by kernel_rfl) rfl (by rw [(rep_by 32).1] <;> rfl) (submit_share 1 3 1 ({ data := #[120] }) A_q L_q c_q ({ data := #[120] }) 2 1 (some ⟨d2, 0, none⟩) (List.replicate 32 0) 32 _ ob274.ss ⟨⟨⟨by decide, by decide, by omega, by have := ob274.le; omega⟩, (came_snoc (s := ⟨2, 1, none, List.replicate 32 0, 32⟩) (fun i s h => by cases h) hK_q ⟨rfl, by simp [ixs], by decide, by decide, rfl⟩)⟩, rfl, ⟨by omega, rfl, fun h => h.1 (ixs_in hK_q)⟩, by decide, by decide, by decide⟩)) rfl ?_)
        rintro _ w64 ⟨rfl, k64⟩
        have kk64 := kk63.then_ k64
        have f275 : Bk w64 p ([.int .i64 2, .int .i64 3, .int .u32 1, .string ({ data := #[120] }), .slice none (0) (0)]) 70 := (f270.no k64)
        have f276 : Bk w64 d1 (u8s (List.replicate 32 0)) 5 := (f271.no k64)
        have f277 : Bk w64 qb ([.int .i64 2, .int .i64 3, .int .u32 1, .string ({ data := #[120] }), .slice A_q ((L_q).length) (c_q)]) 70 := (f272.no k64)
        have o278 : Gt w64 := (o273.no k64)
        refine ⟨⟨kk64, f275, f276, f277, o278⟩, ?_⟩
        refine D_take 4 rfl (by kernel_rfl) (by kernel_rfl) (by kernel_rfl) (fun _ _ _ h => h) rfl (fun W hS => pu_move rfl) ?_
        refine D_take 5 rfl (by kernel_rfl) (by kernel_rfl) (by kernel_rfl) (fun _ _ _ h => h) rfl (fun W hS => pu_extract rfl rfl) ?_
        refine D_take 6 rfl (by kernel_rfl) (by kernel_rfl) (by kernel_rfl) (fun _ _ _ h => h) rfl (fun W hS => pu_extract rfl rfl) ?_
        refine D_take 7 rfl (by kernel_rfl) (by kernel_rfl) (by kernel_rfl) (fun _ _ _ h => h) rfl (fun W hS => pu_extract rfl rfl) ?_
        have f279 : Bk w64 z ([.int .i64 0, .int .i64 0, .int .u32 0, .string ByteArray.empty, .slice none (0) (0)]) 70 := ((f_z_62.no k63).no k64)
        refine D_one 9 (by kernel_rfl) (Nx_lo0 rfl (lo_storeRow (C := [.int .i64 0, .int .i64 0, .int .u32 0, .string ByteArray.empty, .slice none (0) (0)]) f279 (by kernel_rfl) rfl rfl (by intro u hu; simp at hu; rcases hu with rfl | rfl | rfl | rfl | rfl <;> rfl) rfl) ?_)
        rintro _ w65 kf65
        obtain ⟨k65, f_z_65⟩ := kf65
        replace f_z_65 : Bk w65 z ([.int .i64 0, .int .i64 0, .int .u32 0, .string ByteArray.empty, .slice none (0) (0)]) 70 := f_z_65
        have kk65 := kk64.trans k65 (fun i hi => .inr (hi ▸ (Nat.le_trans kk42.size N62.le)))
        have f280 : Bk w65 p ([.int .i64 2, .int .i64 3, .int .u32 1, .string ({ data := #[120] }), .slice none (0) (0)]) 70 := (f275.on k65 (Ne.symm ne_z_p))
        have f281 : Bk w65 d1 (u8s (List.replicate 32 0)) 5 := (f276.on k65 (Ne.symm ne_z_d1))
        have f282 : Bk w65 qb ([.int .i64 2, .int .i64 3, .int .u32 1, .string ({ data := #[120] }), .slice A_q ((L_q).length) (c_q)]) 70 := (f277.on k65 (Ne.symm ne_z_qb))
        have o283 : Gt w65 := (o278.on k65 (Ne.symm ne_z_0))
        refine ⟨⟨kk65, f280, f281, f282, o283⟩, ?_⟩
        refine D_take 10 rfl (by kernel_rfl) (by kernel_rfl) (by kernel_rfl) (fun _ _ _ h => h) rfl (fun W hS => pu_assign rfl) ?_
        refine D_take 11 rfl (by kernel_rfl) (by kernel_rfl) (by kernel_rfl) (fun _ _ _ h => h) rfl (fun W hS => pu_assign rfl) ?_
        refine D_done (by kernel_rfl) ?_
        refine X_then hK168 ?_
        refine C_seq (fun K284 hK284 => ?_)
        have f285 : Bk w65 d2 (u8s (List.replicate 32 0)) 5 := ((f_d2_63.no k64).on k65 ne_d2_z)
        refine D_begin (fun W => Kp No w W ∧ Bk W p ([.int .i64 2, .int .i64 3, .int .u32 1, .string ({ data := #[120] }), .slice none (0) (0)]) 70 ∧ Bk W d1 (u8s (List.replicate 32 0)) 5 ∧ Bk W qb ([.int .i64 2, .int .i64 3, .int .u32 1, .string ({ data := #[120] }), .slice A_q ((L_q).length) (c_q)]) 70 ∧ Bk W z ([.int .i64 0, .int .i64 0, .int .u32 0, .string ByteArray.empty, .slice none (0) (0)]) 70 ∧ Bk W d2 (u8s (List.replicate 32 0)) 5 ∧ Gt W) 8 rfl (by kernel_rfl) ⟨kk65.drew, f280.draw, f281.draw, f282.draw, f_z_65.draw, f285.draw, o283.draw⟩ ?_
        intro w66 k66 _
        have kk66 := kk65.then_ k66
        refine D_take 1 rfl (by kernel_rfl) (by kernel_rfl) (by kernel_rfl) (fun _ _ _ h => h) rfl (fun W hS => pu_loadRow (len := 5) hS.2.2.2.1 (by kernel_rfl) (by kernel_rfl) rfl rfl) ?_
        have f286 : Bk w66 p ([.int .i64 2, .int .i64 3, .int .u32 1, .string ({ data := #[120] }), .slice none (0) (0)]) 70 := (f280.no k66)
        have f287 : Bk w66 d1 (u8s (List.replicate 32 0)) 5 := (f281.no k66)
        have f288 : Bk w66 qb ([.int .i64 2, .int .i64 3, .int .u32 1, .string ({ data := #[120] }), .slice A_q ((L_q).length) (c_q)]) 70 := (f282.no k66)
        have f289 : Bk w66 z ([.int .i64 0, .int .i64 0, .int .u32 0, .string ByteArray.empty, .slice none (0) (0)]) 70 := (f_z_65.no k66)
        have f290 : Bk w66 d2 (u8s (List.replicate 32 0)) 5 := (f285.no k66)
        have o291 : Gt w66 := (o283.no k66)
        have ob292 := (((ob274.keptNo k64).onN k65 ob264 N62.le).keptNo k66)
        refine D_one 0 (by kernel_rfl) (Nx_lo rfl (lo_call (by kernel_rfl) rfl (gf_new _)) rfl ?_)
        rintro _ w67 ⟨b4_0, rfl, le67, T67, k67⟩
        have kk67 := kk66.then_ k67
        have ne_b4_0_p : b4_0 ≠ p := Nat.ne_of_gt (Nat.lt_of_lt_of_le f286.lt le67)
        have ne_b4_0_d1 : b4_0 ≠ d1 := Nat.ne_of_gt (Nat.lt_of_lt_of_le f287.lt le67)
        have ne_b4_0_qb : b4_0 ≠ qb := Nat.ne_of_gt (Nat.lt_of_lt_of_le f288.lt le67)
        have ne_b4_0_z : b4_0 ≠ z := Nat.ne_of_gt (Nat.lt_of_lt_of_le f289.lt le67)
        have ne_b4_0_d2 : b4_0 ≠ d2 := Nat.ne_of_gt (Nat.lt_of_lt_of_le f290.lt le67)
        have ne_b4_0_0 : b4_0 ≠ 0 := Nat.ne_of_gt (Nat.lt_of_lt_of_le o291.lt le67)
        have f293 : Bk w67 p ([.int .i64 2, .int .i64 3, .int .u32 1, .string ({ data := #[120] }), .slice none (0) (0)]) 70 := (f286.no k67)
        have f294 : Bk w67 d1 (u8s (List.replicate 32 0)) 5 := (f287.no k67)
        have f295 : Bk w67 qb ([.int .i64 2, .int .i64 3, .int .u32 1, .string ({ data := #[120] }), .slice A_q ((L_q).length) (c_q)]) 70 := (f288.no k67)
        have f296 : Bk w67 z ([.int .i64 0, .int .i64 0, .int .u32 0, .string ByteArray.empty, .slice none (0) (0)]) 70 := (f289.no k67)
        have f297 : Bk w67 d2 (u8s (List.replicate 32 0)) 5 := (f290.no k67)
        have o298 : Gt w67 := (o291.no k67)
        refine ⟨⟨kk67, f293, f294, f295, f296, f297, o298⟩, ?_⟩
        have ob299 := (ob292.keptNo k67)
        refine D_one 2 (by kernel_rfl) (Nx_lo rfl (lo_call (by kernel_rfl) rfl (secret_short b4_0 1 3 1 ({ data := #[120] }) A_q L_q c_q _ ob299.ss ⟨⟨⟨by decide, by decide, by omega, by have := ob299.le; omega⟩, (came_snoc (s := ⟨2, 1, none, List.replicate 32 0, 32⟩) (fun i s h => by cases h) hK_q ⟨rfl, by simp [ixs], by decide, by decide, rfl⟩)⟩, by omega⟩)) rfl ?_)
        rintro _ w68 ⟨rfl, k68⟩
        have kk68 := kk67.then_ k68
        have f300 : Bk w68 p ([.int .i64 2, .int .i64 3, .int .u32 1, .string ({ data := #[120] }), .slice none (0) (0)]) 70 := (f293.no k68)
        have f301 : Bk w68 d1 (u8s (List.replicate 32 0)) 5 := (f294.no k68)
        have f302 : Bk w68 qb ([.int .i64 2, .int .i64 3, .int .u32 1, .string ({ data := #[120] }), .slice A_q ((L_q).length) (c_q)]) 70 := (f295.no k68)
        have f303 : Bk w68 z ([.int .i64 0, .int .i64 0, .int .u32 0, .string ByteArray.empty, .slice none (0) (0)]) 70 := (f296.no k68)
        have f304 : Bk w68 d2 (u8s (List.replicate 32 0)) 5 := (f297.no k68)
        have o305 : Gt w68 := (o298.no k68)
        refine ⟨⟨kk68, f300, f301, f302, f303, f304, o305⟩, ?_⟩
        refine D_take 3 rfl (by kernel_rfl) (by kernel_rfl) (by kernel_rfl) (fun _ _ _ h => h) rfl (fun W hS => pu_move rfl) ?_
        refine D_take 4 rfl (by kernel_rfl) (by kernel_rfl) (by kernel_rfl) (fun _ _ _ h => h) rfl (fun W hS => pu_extract rfl rfl) ?_
        refine D_take 5 rfl (by kernel_rfl) (by kernel_rfl) (by kernel_rfl) (fun _ _ _ h => h) rfl (fun W hS => pu_extract rfl rfl) ?_
        refine D_take 6 rfl (by kernel_rfl) (by kernel_rfl) (by kernel_rfl) (fun _ _ _ h => h) rfl (fun W hS => pu_assign rfl) ?_
        refine D_take 7 rfl (by kernel_rfl) (by kernel_rfl) (by kernel_rfl) (fun _ _ _ h => h) rfl (fun W hS => pu_assign rfl) ?_
        refine D_done (by kernel_rfl) ?_
        refine X_then hK284 ?_
        refine C_seq (fun K306 hK306 => ?_)
        refine C_region ?_
        refine R_pu (pu_move rfl) rfl ?_
        refine R_pu (pu_eqlnn (by kernel_rfl) rfl) rfl ?_
        refine R_pu (pu_move rfl) rfl ?_
        refine R_gpu rfl rfl (pu_move rfl) rfl ?_
        refine R_gpu rfl rfl (pu_eqlnn (by kernel_rfl) rfl) rfl ?_
        refine R_pu (pu_pickt rfl rfl) rfl ?_
        refine R_pu (pu_move rfl) rfl ?_
        refine R_gpu rfl rfl (pu_move rfl) rfl ?_
        refine R_gpu rfl rfl (pu_true (pu_notd rfl) (by simp)) rfl ?_
        refine R_pu (pu_pickt rfl rfl) rfl ?_
        refine R_pu (pu_move rfl) rfl ?_
        refine R_gpu rfl rfl (pu_fieldAddr (off := 4) (o' := 4) (by kernel_rfl) rfl rfl) rfl ?_
        refine R_gpu rfl rfl (pu_loadK f302 (by kernel_rfl) rfl rfl) rfl ?_
        refine R_gpu rfl rfl (pu_len Tryd.underlying29 rfl) rfl ?_
        refine R_gpu rfl rfl (pu_true (pu_eql (p := ((L_q).length) = 1) rfl rfl (by omega)) hl_q) rfl ?_
        refine R_pu (pu_pickt rfl rfl) rfl ?_
        refine R_pu (pu_move rfl) rfl ?_
        refine R_gpu rfl rfl (pu_move rfl) rfl ?_
        refine R_glo rfl rfl (lo_call (by kernel_rfl) rfl (num23_err 12 _ o305)) rfl ?_
        rintro _ w69 ⟨rfl, k69⟩
        have kk69 := kk68.then_ k69
        refine R_gpu rfl rfl (pu_true (pu_eql (p := (12 : Nat) = 12) rfl rfl (by omega)) (by decide)) rfl ?_
        refine R_pu (pu_pickt rfl rfl) rfl ?_
        refine R_pu (pu_move rfl) rfl ?_
        refine R_gpu rfl rfl (pu_move rfl) rfl ?_
        have o307 : Gt w69 := (o305.no k69)
        refine R_glo rfl rfl (lo_call (by kernel_rfl) rfl (num23_err 2 _ o307)) rfl ?_
        rintro _ w70 ⟨rfl, k70⟩
        have kk70 := kk69.then_ k70
        refine R_gpu rfl rfl (pu_true (pu_eql (p := (2 : Nat) = 2) rfl rfl (by omega)) (by decide)) rfl ?_
        refine R_pu (pu_pickt rfl rfl) rfl ?_
        refine R_pu (pu_move rfl) rfl ?_
        have f308 : Bk w70 qb ([.int .i64 2, .int .i64 3, .int .u32 1, .string ({ data := #[120] }), .slice A_q ((L_q).length) (c_q)]) 70 := ((f302.no k69).no k70)
        refine R_gpu rfl rfl (pu_loadRow (len := 5) f308 (by kernel_rfl) (by kernel_rfl) rfl rfl) rfl ?_
        refine R_glo rfl rfl (lo_call (by kernel_rfl) rfl (reset_ 1 3 1 ({ data := #[120] }) A_q ((L_q).length) c_q _)) rfl ?_
        rintro _ w71 ⟨rfl, k71⟩
        have kk71 := kk70.then_ k71
        refine R_gpu rfl rfl (pu_field (off := 0) Tryd.underlying70 rfl rfl rfl rfl) rfl ?_
        refine R_gpu rfl rfl (pu_len Tryd.underlying29 rfl) rfl ?_
        refine R_gpu rfl rfl (pu_true (pu_eql (p := (0 : Nat) = 0) rfl rfl (by omega)) (by decide)) rfl ?_
        refine R_pu (pu_pickt rfl rfl) rfl ?_
        refine R_pu (pu_assign rfl) rfl ?_
        refine R_nil ?_
        refine X_then hK306 ?_
        refine C_ret ?_
        exact X_ret1 (.inl rfl) rfl rfl ⟨rfl, kk71⟩
  · have f309 : Bk w4 p ([.int .i64 2, .int .i64 3, .int .u32 1, .string ({ data := #[120] }), .slice none (0) (0)]) 70 := (f_p_3.no k4)
    have o310 : Gt w4 := (o5.no k4)
    refine Nx_lo rfl (lo_alloc (L := [.int .i64 0, .int .i64 0, .int .u32 0, .string ByteArray.empty, .slice none (0) (0)]) (by kernel_rfl)) rfl ?_
    rintro _ w72 ⟨qb, rfl, N72⟩
    have k72 := N72.kp
    have kk72 := kk4.then_ k72
    have ne_qb_p : qb ≠ p := Nat.ne_of_gt (Nat.lt_of_lt_of_le f309.lt N72.le)
    have ne_qb_0 : qb ≠ 0 := Nat.ne_of_gt (Nat.lt_of_lt_of_le o310.lt N72.le)
    have f_qb_72 : Bk w72 qb ([.int .i64 0, .int .i64 0, .int .u32 0, .string ByteArray.empty, .slice none (0) (0)]) 70 := N72.bk
    have f311 : Bk w72 p ([.int .i64 2, .int .i64 3, .int .u32 1, .string ({ data := #[120] }), .slice none (0) (0)]) 70 := (f309.no k72)
    have o312 : Gt w72 := (o310.no k72)
    refine ⟨⟨kk72, f311, o312⟩, ?_⟩
    refine D_one 1 (by kernel_rfl) (Nx_lo rfl (lo_make (z := .int .u8 0) (bytes := 1) (ln := 32) (cp := 32) Tryd.underlying22 (by kernel_rfl) rfl rfl rfl rfl rfl (by omega) (by omega) (by omega)) rfl ?_)
    rintro _ w73 ⟨d1, rfl, N73⟩
    have k73 := N73.kp
    have kk73 := kk72.then_ k73
    have ne_d1_p : d1 ≠ p := Nat.ne_of_gt (Nat.lt_of_lt_of_le f311.lt N73.le)
    have ne_d1_qb : d1 ≠ qb := Nat.ne_of_gt (Nat.lt_of_lt_of_le f_qb_72.lt N73.le)
    have ne_d1_0 : d1 ≠ 0 := Nat.ne_of_gt (Nat.lt_of_lt_of_le o312.lt N73.le)
    have f_d1_73 : Bk w73 d1 (u8s (List.replicate 32 0)) 5 := by rw [u8s_rep]; exact N73.bk
    have f313 : Bk w73 p ([.int .i64 2, .int .i64 3, .int .u32 1, .string ({ data := #[120] }), .slice none (0) (0)]) 70 := (f311.no k73)
    have o314 : Gt w73 := (o312.no k73)
    refine ⟨⟨kk73, f313, o314⟩, ?_⟩
    refine D_take 2 rfl (by kernel_rfl) (by kernel_rfl) (by kernel_rfl) (fun _ _ _ h => h) rfl (fun W hS => pu_build (L := [.int .u8 2, .int .u32 1, .slice (some ⟨d1, 0, none⟩) (32) (32)]) rfl (by kernel_rfl)) ?_
    have f315 : Bk w73 qb ([.int .i64 0, .int .i64 0, .int .u32 0, .string ByteArray.empty, .slice none (0) (0)]) 70 := (f_qb_72.no k73)
    refine D_one 3 (by kernel_rfl) (Nx_lo rfl (lo_callE (by kernel_rfl) rfl (by rw [(rep_by 32).1] <;> rfl) (submit_ok 1 3 1 ({ data := #[120] }) none ([] : List Shr) 0 2 1 (some ⟨d1, 0, none⟩) (List.replicate 32 0) 32 _ (Ss.nil _ none) (Bs.ofBk f_d1_73 (rep_by 32)) (Nat.le_of_eq (rep_by 32).1) ⟨⟨⟨by decide, by decide, by decide, by decide⟩, (fun i s h => by cases h)⟩, ⟨by decide, rfl, by simp [ixs], by decide, by decide, rfl⟩, by decide, by decide⟩)) rfl ?_)
    rintro _ w74 ⟨A_q, c_q, L_q, rfl, Q74, hK_q, k74⟩
    have kk74 := kk73.then_ k74
    have z316 : w73.heap.size ≤ w74.heap.size := k74.size
    have hl_q : L_q.length = 1 := by have := congrArg List.length hK_q; simpa using this
    have f317 : Bk w74 p ([.int .i64 2, .int .i64 3, .int .u32 1, .string ({ data := #[120] }), .slice none (0) (0)]) 70 := (f313.no k74)
    have o318 : Gt w74 := (o314.no k74)
    refine ⟨⟨kk74, f317, o318⟩, ?_⟩
    refine D_take 4 rfl (by kernel_rfl) (by kernel_rfl) (by kernel_rfl) (fun _ _ _ h => h) rfl (fun W hS => pu_move rfl) ?_
    refine D_take 5 rfl (by kernel_rfl) (by kernel_rfl) (by kernel_rfl) (fun _ _ _ h => h) rfl (fun W hS => pu_extract rfl rfl) ?_
    refine D_take 6 rfl (by kernel_rfl) (by kernel_rfl) (by kernel_rfl) (fun _ _ _ h => h) rfl (fun W hS => pu_extract rfl rfl) ?_
    refine D_take 7 rfl (by kernel_rfl) (by kernel_rfl) (by kernel_rfl) (fun _ _ _ h => h) rfl (fun W hS => pu_extract rfl rfl) ?_
    have f319 : Bk w74 qb ([.int .i64 0, .int .i64 0, .int .u32 0, .string ByteArray.empty, .slice none (0) (0)]) 70 := (f315.no k74)
    refine D_one 9 (by kernel_rfl) (Nx_lo0 rfl (lo_storeRow (C := [.int .i64 2, .int .i64 3, .int .u32 1, .string ({ data := #[120] }), .slice A_q ((L_q).length) (c_q)]) f319 (by kernel_rfl) rfl rfl (by intro u hu; simp at hu; rcases hu with rfl | rfl | rfl | rfl | rfl <;> rfl) rfl) ?_)
    rintro _ w75 kf75
    obtain ⟨k75, f_qb_75⟩ := kf75
    replace f_qb_75 : Bk w75 qb ([.int .i64 2, .int .i64 3, .int .u32 1, .string ({ data := #[120] }), .slice A_q ((L_q).length) (c_q)]) 70 := f_qb_75
    have kk75 := kk74.trans k75 (fun i hi => .inr (hi ▸ (Nat.le_trans kk4.size N72.le)))
    have f320 : Bk w75 p ([.int .i64 2, .int .i64 3, .int .u32 1, .string ({ data := #[120] }), .slice none (0) (0)]) 70 := (f317.on k75 (Ne.symm ne_qb_p))
    have o321 : Gt w75 := (o318.on k75 (Ne.symm ne_qb_0))
    refine ⟨⟨kk75, f320, o321⟩, ?_⟩
    refine D_take 10 rfl (by kernel_rfl) (by kernel_rfl) (by kernel_rfl) (fun _ _ _ h => h) rfl (fun W hS => pu_assign rfl) ?_
    refine D_take 11 rfl (by kernel_rfl) (by kernel_rfl) (by kernel_rfl) (fun _ _ _ h => h) rfl (fun W hS => pu_assign rfl) ?_
    refine D_done (by kernel_rfl) ?_
    refine X_then hK4 ?_
    refine C_seq (fun K322 hK322 => ?_)
    have f323 : Bk w75 d1 (u8s (List.replicate 32 0)) 5 := ((f_d1_73.no k74).on k75 ne_d1_qb)
    refine D_begin (fun W => Kp No w W ∧ Bk W p ([.int .i64 2, .int .i64 3, .int .u32 1, .string ({ data := #[120] }), .slice none (0) (0)]) 70 ∧ Bk W qb ([.int .i64 2, .int .i64 3, .int .u32 1, .string ({ data := #[120] }), .slice A_q ((L_q).length) (c_q)]) 70 ∧ Bk W d1 (u8s (List.replicate 32 0)) 5 ∧ Gt W) 12 rfl (by kernel_rfl) ⟨kk75.drew, f320.draw, f_qb_75.draw, f323.draw, o321.draw⟩ ?_
    intro w76 k76 _
    have kk76 := kk75.then_ k76
    refine D_take 0 rfl (by kernel_rfl) (by kernel_rfl) (by kernel_rfl) (fun _ _ _ h => h) rfl (fun W hS => pu_loadRow (len := 5) hS.2.2.1 (by kernel_rfl) (by kernel_rfl) rfl rfl) ?_
    refine D_two 1 8 (by kernel_rfl) ?_ ?_
    · have f324 : Bk w76 p ([.int .i64 2, .int .i64 3, .int .u32 1, .string ({ data := #[120] }), .slice none (0) (0)]) 70 := (f320.no k76)
      have f325 : Bk w76 qb ([.int .i64 2, .int .i64 3, .int .u32 1, .string ({ data := #[120] }), .slice A_q ((L_q).length) (c_q)]) 70 := (f_qb_75.no k76)
      have f326 : Bk w76 d1 (u8s (List.replicate 32 0)) 5 := (f323.no k76)
      have o327 : Gt w76 := (o321.no k76)
      have ob328 := ((Q74.on k75 (by have := f315.lt; omega)).keptNo k76)
      refine Nx_lo rfl (lo_make (z := .int .u8 0) (bytes := 1) (ln := 32) (cp := 32) Tryd.underlying22 (by kernel_rfl) rfl rfl rfl rfl rfl (by omega) (by omega) (by omega)) rfl ?_
      rintro _ w77 ⟨d2, rfl, N77⟩
      have k77 := N77.kp
      have kk77 := kk76.then_ k77
      have ne_d2_p : d2 ≠ p := Nat.ne_of_gt (Nat.lt_of_lt_of_le f324.lt N77.le)
      have ne_d2_qb : d2 ≠ qb := Nat.ne_of_gt (Nat.lt_of_lt_of_le f325.lt N77.le)
      have ne_d2_d1 : d2 ≠ d1 := Nat.ne_of_gt (Nat.lt_of_lt_of_le f326.lt N77.le)
      have ne_d2_0 : d2 ≠ 0 := Nat.ne_of_gt (Nat.lt_of_lt_of_le o327.lt N77.le)
      have f_d2_77 : Bk w77 d2 (u8s (List.replicate 32 0)) 5 := by rw [u8s_rep]; exact N77.bk
      have f329 : Bk w77 p ([.int .i64 2, .int .i64 3, .int .u32 1, .string ({ data := #[120] }), .slice none (0) (0)]) 70 := (f324.no k77)
      have f330 : Bk w77 qb ([.int .i64 2, .int .i64 3, .int .u32 1, .string ({ data := #[120] }), .slice A_q ((L_q).length) (c_q)]) 70 := (f325.no k77)
      have f331 : Bk w77 d1 (u8s (List.replicate 32 0)) 5 := (f326.no k77)
      have o332 : Gt w77 := (o327.no k77)
      refine ⟨⟨kk77, f329, f330, f331, o332⟩, ?_⟩
      refine D_take 2 rfl (by kernel_rfl) (by kernel_rfl) (by kernel_rfl) (fun _ _ _ h => h) rfl (fun W hS => pu_build (L := [.int .u8 2, .int .u32 1, .slice (some ⟨d2, 0, none⟩) (32) (32)]) rfl (by kernel_rfl)) ?_
      refine D_two 3 8 (by kernel_rfl) ?_ ?_
      · have ob333 := (ob328.keptNo k77)
        refine Nx_lo rfl (lo_callE (by kernel_rfl) rfl (by rw [(rep_by 32).1] <;> rfl) (submit_share 1 3 1 ({ data := #[120] }) A_q L_q c_q ({ data := #[120] }) 2 1 (some ⟨d2, 0, none⟩) (List.replicate 32 0) 32 _ ob333.ss ⟨⟨⟨by decide, by decide, by omega, by have := ob333.le; omega⟩, (came_snoc (s := ⟨2, 1, none, List.replicate 32 0, 32⟩) (fun i s h => by cases h) hK_q ⟨rfl, by simp [ixs], by decide, by decide, rfl⟩)⟩, rfl, ⟨by omega, rfl, fun h => h.1 (ixs_in hK_q)⟩, by decide, by decide, by decide⟩)) rfl ?_
        rintro _ w78 ⟨rfl, k78⟩
        have kk78 := kk77.then_ k78
        have f334 : Bk w78 p ([.int .i64 2, .int .i64 3, .int .u32 1, .string ({ data := #[120] }), .slice none (0) (0)]) 70 := (f329.no k78)
        have f335 : Bk w78 qb ([.int .i64 2, .int .i64 3, .int .u32 1, .string ({ data := #[120] }), .slice A_q ((L_q).length) (c_q)]) 70 := (f330.no k78)
        have f336 : Bk w78 d1 (u8s (List.replicate 32 0)) 5 := (f331.no k78)
        have o337 : Gt w78 := (o332.no k78)
        refine ⟨⟨kk78, f334, f335, f336, o337⟩, ?_⟩
        refine D_take 4 rfl (by kernel_rfl) (by kernel_rfl) (by kernel_rfl) (fun _ _ _ h => h) rfl (fun W hS => pu_move rfl) ?_
        refine D_take 5 rfl (by kernel_rfl) (by kernel_rfl) (by kernel_rfl) (fun _ _ _ h => h) rfl (fun W hS => pu_extract rfl rfl) ?_
        refine D_take 6 rfl (by kernel_rfl) (by kernel_rfl) (by kernel_rfl) (fun _ _ _ h => h) rfl (fun W hS => pu_extract rfl rfl) ?_
        refine D_take 7 rfl (by kernel_rfl) (by kernel_rfl) (by kernel_rfl) (fun _ _ _ h => h) rfl (fun W hS => pu_extract rfl rfl) ?_
        have f338 : Bk w78 d2 (u8s (List.replicate 32 0)) 5 := (f_d2_77.no k78)
        have ob339 := (ob333.keptNo k78)
        refine D_one 8 (by kernel_rfl) (Nx_lo rfl (lo_alloc (L := [.int .i64 0, .int .i64 0, .int .u32 0, .string ByteArray.empty, .slice none (0) (0)]) (by kernel_rfl)) rfl ?_)
        rintro _ w79 ⟨z, rfl, N79⟩
        have k79 := N79.kp
        have kk79 := kk78.then_ k79
        have ne_z_p : z ≠ p := Nat.ne_of_gt (Nat.lt_of_lt_of_le f334.lt N79.le)
        have ne_z_qb : z ≠ qb := Nat.ne_of_gt (Nat.lt_of_lt_of_le f335.lt N79.le)
        have ne_z_d1 : z ≠ d1 := Nat.ne_of_gt (Nat.lt_of_lt_of_le f336.lt N79.le)
        have ne_z_d2 : z ≠ d2 := Nat.ne_of_gt (Nat.lt_of_lt_of_le f338.lt N79.le)
        have ne_z_0 : z ≠ 0 := Nat.ne_of_gt (Nat.lt_of_lt_of_le o337.lt N79.le)
        have f_z_79 : Bk w79 z ([.int .i64 0, .int .i64 0, .int .u32 0, .string ByteArray.empty, .slice none (0) (0)]) 70 := N79.bk
        have f340 : Bk w79 p ([.int .i64 2, .int .i64 3, .int .u32 1, .string ({ data := #[120] }), .slice none (0) (0)]) 70 := (f334.no k79)
        have f341 : Bk w79 qb ([.int .i64 2, .int .i64 3, .int .u32 1, .string ({ data := #[120] }), .slice A_q ((L_q).length) (c_q)]) 70 := (f335.no k79)
        have f342 : Bk w79 d1 (u8s (List.replicate 32 0)) 5 := (f336.no k79)
        have o343 : Gt w79 := (o337.no k79)
        refine ⟨⟨kk79, f340, f341, f342, o343⟩, ?_⟩
        refine D_one 9 (by kernel_rfl) (Nx_lo0 rfl (lo_storeRow (C := [.int .i64 0, .int .i64 0, .int .u32 0, .string ByteArray.empty, .slice none (0) (0)]) f_z_79 (by kernel_rfl) rfl rfl (by intro u hu; simp at hu; rcases hu with rfl | rfl | rfl | rfl | rfl <;> rfl) rfl) ?_)
        rintro _ w80 kf80
        obtain ⟨k80, f_z_80⟩ := kf80
        replace f_z_80 : Bk w80 z ([.int .i64 0, .int .i64 0, .int .u32 0, .string ByteArray.empty, .slice none (0) (0)]) 70 := f_z_80
        have kk80 := kk79.trans k80 (fun i hi => .inr (hi ▸ (Nat.le_trans kk78.size N79.le)))
        have f344 : Bk w80 p ([.int .i64 2, .int .i64 3, .int .u32 1, .string ({ data := #[120] }), .slice none (0) (0)]) 70 := (f340.on k80 (Ne.symm ne_z_p))
        have f345 : Bk w80 qb ([.int .i64 2, .int .i64 3, .int .u32 1, .string ({ data := #[120] }), .slice A_q ((L_q).length) (c_q)]) 70 := (f341.on k80 (Ne.symm ne_z_qb))
        have f346 : Bk w80 d1 (u8s (List.replicate 32 0)) 5 := (f342.on k80 (Ne.symm ne_z_d1))
        have o347 : Gt w80 := (o343.on k80 (Ne.symm ne_z_0))
        refine ⟨⟨kk80, f344, f345, f346, o347⟩, ?_⟩
        refine D_take 10 rfl (by kernel_rfl) (by kernel_rfl) (by kernel_rfl) (fun _ _ _ h => h) rfl (fun W hS => pu_assign rfl) ?_
        refine D_take 11 rfl (by kernel_rfl) (by kernel_rfl) (by kernel_rfl) (fun _ _ _ h => h) rfl (fun W hS => pu_assign rfl) ?_
        refine D_done (by kernel_rfl) ?_
        refine X_then hK322 ?_
        refine C_seq (fun K348 hK348 => ?_)
        have f349 : Bk w80 d2 (u8s (List.replicate 32 0)) 5 := ((f338.no k79).on k80 (Ne.symm ne_z_d2))
        refine D_begin (fun W => Kp No w W ∧ Bk W p ([.int .i64 2, .int .i64 3, .int .u32 1, .string ({ data := #[120] }), .slice none (0) (0)]) 70 ∧ Bk W qb ([.int .i64 2, .int .i64 3, .int .u32 1, .string ({ data := #[120] }), .slice A_q ((L_q).length) (c_q)]) 70 ∧ Bk W d1 (u8s (List.replicate 32 0)) 5 ∧ Bk W d2 (u8s (List.replicate 32 0)) 5 ∧ Bk W z ([.int .i64 0, .int .i64 0, .int .u32 0, .string ByteArray.empty, .slice none (0) (0)]) 70 ∧ Gt W) 8 rfl (by kernel_rfl) ⟨kk80.drew, f344.draw, f345.draw, f346.draw, f349.draw, f_z_80.draw, o347.draw⟩ ?_
        intro w81 k81 _
        have kk81 := kk80.then_ k81
        refine D_take 1 rfl (by kernel_rfl) (by kernel_rfl) (by kernel_rfl) (fun _ _ _ h => h) rfl (fun W hS => pu_loadRow (len := 5) hS.2.2.1 (by kernel_rfl) (by kernel_rfl) rfl rfl) ?_
        have f350 : Bk w81 p ([.int .i64 2, .int .i64 3, .int .u32 1, .string ({ data := #[120] }), .slice none (0) (0)]) 70 := (f344.no k81)
        have f351 : Bk w81 qb ([.int .i64 2, .int .i64 3, .int .u32 1, .string ({ data := #[120] }), .slice A_q ((L_q).length) (c_q)]) 70 := (f345.no k81)
        have f352 : Bk w81 d1 (u8s (List.replicate 32 0)) 5 := (f346.no k81)
        have f353 : Bk w81 d2 (u8s (List.replicate 32 0)) 5 := (f349.no k81)
        have f354 : Bk w81 z ([.int .i64 0, .int .i64 0, .int .u32 0, .string ByteArray.empty, .slice none (0) (0)]) 70 := (f_z_80.no k81)
        have o355 : Gt w81 := (o347.no k81)
        have ob356 := (((ob339.keptNo k79).onN k80 ob339 N79.le).keptNo k81)
        refine D_one 0 (by kernel_rfl) (Nx_lo rfl (lo_call (by kernel_rfl) rfl (gf_new _)) rfl ?_)
        rintro _ w82 ⟨b4_0, rfl, le82, T82, k82⟩
        have kk82 := kk81.then_ k82
        have ne_b4_0_p : b4_0 ≠ p := Nat.ne_of_gt (Nat.lt_of_lt_of_le f350.lt le82)
        have ne_b4_0_qb : b4_0 ≠ qb := Nat.ne_of_gt (Nat.lt_of_lt_of_le f351.lt le82)
        have ne_b4_0_d1 : b4_0 ≠ d1 := Nat.ne_of_gt (Nat.lt_of_lt_of_le f352.lt le82)
        have ne_b4_0_d2 : b4_0 ≠ d2 := Nat.ne_of_gt (Nat.lt_of_lt_of_le f353.lt le82)
        have ne_b4_0_z : b4_0 ≠ z := Nat.ne_of_gt (Nat.lt_of_lt_of_le f354.lt le82)
        have ne_b4_0_0 : b4_0 ≠ 0 := Nat.ne_of_gt (Nat.lt_of_lt_of_le o355.lt le82)
        have f357 : Bk w82 p ([.int .i64 2, .int .i64 3, .int .u32 1, .string ({ data := #[120] }), .slice none (0) (0)]) 70 := (f350.no k82)
        have f358 : Bk w82 qb ([.int .i64 2, .int .i64 3, .int .u32 1, .string ({ data := #[120] }), .slice A_q ((L_q).length) (c_q)]) 70 := (f351.no k82)
        have f359 : Bk w82 d1 (u8s (List.replicate 32 0)) 5 := (f352.no k82)
        have f360 : Bk w82 d2 (u8s (List.replicate 32 0)) 5 := (f353.no k82)
        have f361 : Bk w82 z ([.int .i64 0, .int .i64 0, .int .u32 0, .string ByteArray.empty, .slice none (0) (0)]) 70 := (f354.no k82)
        have o362 : Gt w82 := (o355.no k82)
        refine ⟨⟨kk82, f357, f358, f359, f360, f361, o362⟩, ?_⟩
        have ob363 := (ob356.keptNo k82)
        refine D_one 2 (by kernel_rfl) (Nx_lo rfl (lo_call (by kernel_rfl) rfl (secret_short b4_0 1 3 1 ({ data := #[120] }) A_q L_q c_q _ ob363.ss ⟨⟨⟨by decide, by decide, by omega, by have := ob363.le; omega⟩, (came_snoc (s := ⟨2, 1, none, List.replicate 32 0, 32⟩) (fun i s h => by cases h) hK_q ⟨rfl, by simp [ixs], by decide, by decide, rfl⟩)⟩, by omega⟩)) rfl ?_)
        rintro _ w83 ⟨rfl, k83⟩
        have kk83 := kk82.then_ k83
        have f364 : Bk w83 p ([.int .i64 2, .int .i64 3, .int .u32 1, .string ({ data := #[120] }), .slice none (0) (0)]) 70 := (f357.no k83)
        have f365 : Bk w83 qb ([.int .i64 2, .int .i64 3, .int .u32 1, .string ({ data := #[120] }), .slice A_q ((L_q).length) (c_q)]) 70 := (f358.no k83)
        have f366 : Bk w83 d1 (u8s (List.replicate 32 0)) 5 := (f359.no k83)
        have f367 : Bk w83 d2 (u8s (List.replicate 32 0)) 5 := (f360.no k83)
        have f368 : Bk w83 z ([.int .i64 0, .int .i64 0, .int .u32 0, .string ByteArray.empty, .slice none (0) (0)]) 70 := (f361.no k83)
        have o369 : Gt w83 := (o362.no k83)
        refine ⟨⟨kk83, f364, f365, f366, f367, f368, o369⟩, ?_⟩
        refine D_take 3 rfl (by kernel_rfl) (by kernel_rfl) (by kernel_rfl) (fun _ _ _ h => h) rfl (fun W hS => pu_move rfl) ?_
        refine D_take 4 rfl (by kernel_rfl) (by kernel_rfl) (by kernel_rfl) (fun _ _ _ h => h) rfl (fun W hS => pu_extract rfl rfl) ?_
        refine D_take 5 rfl (by kernel_rfl) (by kernel_rfl) (by kernel_rfl) (fun _ _ _ h => h) rfl (fun W hS => pu_extract rfl rfl) ?_
        refine D_take 6 rfl (by kernel_rfl) (by kernel_rfl) (by kernel_rfl) (fun _ _ _ h => h) rfl (fun W hS => pu_assign rfl) ?_
        refine D_take 7 rfl (by kernel_rfl) (by kernel_rfl) (by kernel_rfl) (fun _ _ _ h => h) rfl (fun W hS => pu_assign rfl) ?_
        refine D_done (by kernel_rfl) ?_
        refine X_then hK348 ?_
        refine C_seq (fun K370 hK370 => ?_)
        refine C_region ?_
        refine R_pu (pu_move rfl) rfl ?_
        refine R_pu (pu_eqlnn (by kernel_rfl) rfl) rfl ?_
        refine R_pu (pu_move rfl) rfl ?_
        refine R_gpu rfl rfl (pu_move rfl) rfl ?_
        refine R_gpu rfl rfl (pu_eqlnn (by kernel_rfl) rfl) rfl ?_
        refine R_pu (pu_pickt rfl rfl) rfl ?_
        refine R_pu (pu_move rfl) rfl ?_
        refine R_gpu rfl rfl (pu_move rfl) rfl ?_
        refine R_gpu rfl rfl (pu_true (pu_notd rfl) (by simp)) rfl ?_
        refine R_pu (pu_pickt rfl rfl) rfl ?_
        refine R_pu (pu_move rfl) rfl ?_
        refine R_gpu rfl rfl (pu_fieldAddr (off := 4) (o' := 4) (by kernel_rfl) rfl rfl) rfl ?_
        refine R_gpu rfl rfl (pu_loadK f365 (by kernel_rfl) rfl rfl) rfl ?_
        refine R_gpu rfl rfl (pu_len Tryd.underlying29 rfl) rfl ?_
        refine R_gpu rfl rfl (pu_true (pu_eql (p := ((L_q).length) = 1) rfl rfl (by omega)) hl_q) rfl ?_
        refine R_pu (pu_pickt rfl rfl) rfl ?_
        refine R_pu (pu_move rfl) rfl ?_
        refine R_gpu rfl rfl (pu_move rfl) rfl ?_
        refine R_glo rfl rfl (lo_call (by kernel_rfl) rfl (num23_err 12 _ o369)) rfl ?_
        rintro _ w84 ⟨rfl, k84⟩
        have kk84 := kk83.then_ k84
        refine R_gpu rfl rfl (pu_true (pu_eql (p := (12 : Nat) = 12) rfl rfl (by omega)) (by decide)) rfl ?_
        refine R_pu (pu_pickt rfl rfl) rfl ?_
        refine R_pu (pu_move rfl) rfl ?_
        refine R_gpu rfl rfl (pu_move rfl) rfl ?_
        have o371 : Gt w84 := (o369.no k84)
        refine R_glo rfl rfl (lo_call (by kernel_rfl) rfl (num23_err 2 _ o371)) rfl ?_
        rintro _ w85 ⟨rfl, k85⟩
        have kk85 := kk84.then_ k85
        refine R_gpu rfl rfl (pu_true (pu_eql (p := (2 : Nat) = 2) rfl rfl (by omega)) (by decide)) rfl ?_
        refine R_pu (pu_pickt rfl rfl) rfl ?_
        refine R_pu (pu_move rfl) rfl ?_
        have f372 : Bk w85 qb ([.int .i64 2, .int .i64 3, .int .u32 1, .string ({ data := #[120] }), .slice A_q ((L_q).length) (c_q)]) 70 := ((f365.no k84).no k85)
        refine R_gpu rfl rfl (pu_loadRow (len := 5) f372 (by kernel_rfl) (by kernel_rfl) rfl rfl) rfl ?_
        refine R_glo rfl rfl (lo_call (by kernel_rfl) rfl (reset_ 1 3 1 ({ data := #[120] }) A_q ((L_q).length) c_q _)) rfl ?_
        rintro _ w86 ⟨rfl, k86⟩
        have kk86 := kk85.then_ k86
        refine R_gpu rfl rfl (pu_field (off := 0) Tryd.underlying70 rfl rfl rfl rfl) rfl ?_
        refine R_gpu rfl rfl (pu_len Tryd.underlying29 rfl) rfl ?_
        refine R_gpu rfl rfl (pu_true (pu_eql (p := (0 : Nat) = 0) rfl rfl (by omega)) (by decide)) rfl ?_
        refine R_pu (pu_pickt rfl rfl) rfl ?_
        refine R_pu (pu_assign rfl) rfl ?_
        refine R_nil ?_
        refine X_then hK370 ?_
        refine C_ret ?_
        exact X_ret1 (.inl rfl) rfl rfl ⟨rfl, kk86⟩
      · have ob373 := (ob328.keptNo k77)
        refine Nx_lo rfl (lo_alloc (L := [.int .i64 0, .int .i64 0, .int .u32 0, .string ByteArray.empty, .slice none (0) (0)]) (by kernel_rfl)) rfl ?_
        rintro _ w87 ⟨z, rfl, N87⟩
        have k87 := N87.kp
        have kk87 := kk77.then_ k87
        have ne_z_p : z ≠ p := Nat.ne_of_gt (Nat.lt_of_lt_of_le f329.lt N87.le)
        have ne_z_qb : z ≠ qb := Nat.ne_of_gt (Nat.lt_of_lt_of_le f330.lt N87.le)
        have ne_z_d1 : z ≠ d1 := Nat.ne_of_gt (Nat.lt_of_lt_of_le f331.lt N87.le)
        have ne_z_d2 : z ≠ d2 := Nat.ne_of_gt (Nat.lt_of_lt_of_le f_d2_77.lt N87.le)
        have ne_z_0 : z ≠ 0 := Nat.ne_of_gt (Nat.lt_of_lt_of_le o332.lt N87.le)
        have f_z_87 : Bk w87 z ([.int .i64 0, .int .i64 0, .int .u32 0, .string ByteArray.empty, .slice none (0) (0)]) 70 := N87.bk
        have f374 : Bk w87 p ([.int .i64 2, .int .i64 3, .int .u32 1, .string ({ data := #[120] }), .slice none (0) (0)]) 70 := (f329.no k87)
        have f375 : Bk w87 qb ([.int .i64 2, .int .i64 3, .int .u32 1, .string ({ data := #[120] }), .slice A_q ((L_q).length) (c_q)]) 70 := (f330.no k87)
        have f376 : Bk w87 d1 (u8s (List.replicate 32 0)) 5 := (f331.no k87)
        have o377 : Gt w87 := (o332.no k87)
        refine ⟨⟨kk87, f374, f375, f376, o377⟩, ?_⟩
        have ob378 := (ob373.keptNo k87)
        have f379 : Bk w87 d2 (u8s (List.replicate 32 0)) 5 := (f_d2_77.no k87)
        refine D_one 3 (by kernel_rfl) (Nx_lo rfl (lo_callE (by kernel_rfl) rfl (by rw [(rep_by 32).1] <;> rfl) (submit_share 1 3 1 ({ data := #[120] }) A_q L_q c_q ({ data := #[120] }) 2 1 (some ⟨d2, 0, none⟩) (List.replicate 32 0) 32 _ ob378.ss ⟨⟨⟨by decide, by decide, by omega, by have := ob378.le; omega⟩, (came_snoc (s := ⟨2, 1, none, List.replicate 32 0, 32⟩) (fun i s h => by cases h) hK_q ⟨rfl, by simp [ixs], by decide, by decide, rfl⟩)⟩, rfl, ⟨by omega, rfl, fun h => h.1 (ixs_in hK_q)⟩, by decide, by decide, by decide⟩)) rfl ?_)
        rintro _ w88 ⟨rfl, k88⟩
        have kk88 := kk87.then_ k88
        have f380 : Bk w88 p ([.int .i64 2, .int .i64 3, .int .u32 1, .string ({ data := #[120] }), .slice none (0) (0)]) 70 := (f374.no k88)
        have f381 : Bk w88 qb ([.int .i64 2, .int .i64 3, .int .u32 1, .string ({ data := #[120] }), .slice A_q ((L_q).length) (c_q)]) 70 := (f375.no k88)
        have f382 : Bk w88 d1 (u8s (List.replicate 32 0)) 5 := (f376.no k88)
        have o383 : Gt w88 := (o377.no k88)
        refine ⟨⟨kk88, f380, f381, f382, o383⟩, ?_⟩
        refine D_take 4 rfl (by kernel_rfl) (by kernel_rfl) (by kernel_rfl) (fun _ _ _ h => h) rfl (fun W hS => pu_move rfl) ?_
        refine D_take 5 rfl (by kernel_rfl) (by kernel_rfl) (by kernel_rfl) (fun _ _ _ h => h) rfl (fun W hS => pu_extract rfl rfl) ?_
        refine D_take 6 rfl (by kernel_rfl) (by kernel_rfl) (by kernel_rfl) (fun _ _ _ h => h) rfl (fun W hS => pu_extract rfl rfl) ?_
        refine D_take 7 rfl (by kernel_rfl) (by kernel_rfl) (by kernel_rfl) (fun _ _ _ h => h) rfl (fun W hS => pu_extract rfl rfl) ?_
        have f384 : Bk w88 z ([.int .i64 0, .int .i64 0, .int .u32 0, .string ByteArray.empty, .slice none (0) (0)]) 70 := (f_z_87.no k88)
        refine D_one 9 (by kernel_rfl) (Nx_lo0 rfl (lo_storeRow (C := [.int .i64 0, .int .i64 0, .int .u32 0, .string ByteArray.empty, .slice none (0) (0)]) f384 (by kernel_rfl) rfl rfl (by intro u hu; simp at hu; rcases hu with rfl | rfl | rfl | rfl | rfl <;> rfl) rfl) ?_)
        rintro _ w89 kf89
        obtain ⟨k89, f_z_89⟩ := kf89
        replace f_z_89 : Bk w89 z ([.int .i64 0, .int .i64 0, .int .u32 0, .string ByteArray.empty, .slice none (0) (0)]) 70 := f_z_89
        have kk89 := kk88.trans k89 (fun i hi => .inr (hi ▸ (Nat.le_trans kk77.size N87.le)))
        have f385 : Bk w89 p ([.int .i64 2, .int .i64 3, .int .u32 1, .string ({ data := #[120] }), .slice none (0) (0)]) 70 := (f380.on k89 (Ne.symm ne_z_p))
        have f386 : Bk w89 qb ([.int .i64 2, .int .i64 3, .int .u32 1, .string ({ data := #[120] }), .slice A_q ((L_q).length) (c_q)]) 70 := (f381.on k89 (Ne.symm ne_z_qb))
        have f387 : Bk w89 d1 (u8s (List.replicate 32 0)) 5 := (f382.on k89 (Ne.symm ne_z_d1))
        have o388 : Gt w89 := (o383.on k89 (Ne.symm ne_z_0))
        refine ⟨⟨kk89, f385, f386, f387, o388⟩, ?_⟩
        refine D_take 10 rfl (by kernel_rfl) (by kernel_rfl) (by kernel_rfl) (fun _ _ _ h => h) rfl (fun W hS => pu_assign rfl) ?_
        refine D_take 11 rfl (by kernel_rfl) (by kernel_rfl) (by kernel_rfl) (fun _ _ _ h => h) rfl (fun W hS => pu_assign rfl) ?_
        refine D_done (by kernel_rfl) ?_
        refine X_then hK322 ?_
        refine C_seq (fun K389 hK389 => ?_)
        have f390 : Bk w89 d2 (u8s (List.replicate 32 0)) 5 := ((f379.no k88).on k89 (Ne.symm ne_z_d2))
        refine D_begin (fun W => Kp No w W ∧ Bk W p ([.int .i64 2, .int .i64 3, .int .u32 1, .string ({ data := #[120] }), .slice none (0) (0)]) 70 ∧ Bk W qb ([.int .i64 2, .int .i64 3, .int .u32 1, .string ({ data := #[120] }), .slice A_q ((L_q).length) (c_q)]) 70 ∧ Bk W d1 (u8s (List.replicate 32 0)) 5 ∧ Bk W d2 (u8s (List.replicate 32 0)) 5 ∧ Bk W z ([.int .i64 0, .int .i64 0, .int .u32 0, .string ByteArray.empty, .slice none (0) (0)]) 70 ∧ Gt W) 8 rfl (by kernel_rfl) ⟨kk89.drew, f385.draw, f386.draw, f387.draw, f390.draw, f_z_89.draw, o388.draw⟩ ?_
        intro w90 k90 _
        have kk90 := kk89.then_ k90
        refine D_take 1 rfl (by kernel_rfl) (by kernel_rfl) (by kernel_rfl) (fun _ _ _ h => h) rfl (fun W hS => pu_loadRow (len := 5) hS.2.2.1 (by kernel_rfl) (by kernel_rfl) rfl rfl) ?_
        have f391 : Bk w90 p ([.int .i64 2, .int .i64 3, .int .u32 1, .string ({ data := #[120] }), .slice none (0) (0)]) 70 := (f385.no k90)
        have f392 : Bk w90 qb ([.int .i64 2, .int .i64 3, .int .u32 1, .string ({ data := #[120] }), .slice A_q ((L_q).length) (c_q)]) 70 := (f386.no k90)
        have f393 : Bk w90 d1 (u8s (List.replicate 32 0)) 5 := (f387.no k90)
        have f394 : Bk w90 d2 (u8s (List.replicate 32 0)) 5 := (f390.no k90)
        have f395 : Bk w90 z ([.int .i64 0, .int .i64 0, .int .u32 0, .string ByteArray.empty, .slice none (0) (0)]) 70 := (f_z_89.no k90)
        have o396 : Gt w90 := (o388.no k90)
        have ob397 := (((ob378.keptNo k88).onN k89 ob373 N87.le).keptNo k90)
        refine D_one 0 (by kernel_rfl) (Nx_lo rfl (lo_call (by kernel_rfl) rfl (gf_new _)) rfl ?_)
        rintro _ w91 ⟨b4_0, rfl, le91, T91, k91⟩
        have kk91 := kk90.then_ k91
        have ne_b4_0_p : b4_0 ≠ p := Nat.ne_of_gt (Nat.lt_of_lt_of_le f391.lt le91)
        have ne_b4_0_qb : b4_0 ≠ qb := Nat.ne_of_gt (Nat.lt_of_lt_of_le f392.lt le91)
        have ne_b4_0_d1 : b4_0 ≠ d1 := Nat.ne_of_gt (Nat.lt_of_lt_of_le f393.lt le91)
        have ne_b4_0_d2 : b4_0 ≠ d2 := Nat.ne_of_gt (Nat.lt_of_lt_of_le f394.lt le91)
        have ne_b4_0_z : b4_0 ≠ z := Nat.ne_of_gt (Nat.lt_of_lt_of_le f395.lt le91)
        have ne_b4_0_0 : b4_0 ≠ 0 := Nat.ne_of_gt (Nat.lt_of_lt_of_le o396.lt le91)
        have f398 : Bk w91 p ([.int .i64 2, .int .i64 3, .int .u32 1, .string ({ data := #[120] }), .slice none (0) (0)]) 70 := (f391.no k91)
        have f399 : Bk w91 qb ([.int .i64 2, .int .i64 3, .int .u32 1, .string ({ data := #[120] }), .slice A_q ((L_q).length) (c_q)]) 70 := (f392.no k91)
        have f400 : Bk w91 d1 (u8s (List.replicate 32 0)) 5 := (f393.no k91)
        have f401 : Bk w91 d2 (u8s (List.replicate 32 0)) 5 := (f394.no k91)
        have f402 : Bk w91 z ([.int .i64 0, .int .i64 0, .int .u32 0, .string ByteArray.empty, .slice none (0) (0)]) 70 := (f395.no k91)
        have o403 : Gt w91 := (o396.no k91)
        refine ⟨⟨kk91, f398, f399, f400, f401, f402, o403⟩, ?_⟩
        have ob404 := (ob397.keptNo k91)
        refine D_one 2 (by kernel_rfl) (Nx_lo rfl (lo_call (by kernel_rfl) rfl (secret_short b4_0 1 3 1 ({ data := #[120] }) A_q L_q c_q _ ob404.ss ⟨⟨⟨by decide, by decide, by omega, by have := ob404.le; omega⟩, (came_snoc (s := ⟨2, 1, none, List.replicate 32 0, 32⟩) (fun i s h => by cases h) hK_q ⟨rfl, by simp [ixs], by decide, by decide, rfl⟩)⟩, by omega⟩)) rfl ?_)
        rintro _ w92 ⟨rfl, k92⟩
        have kk92 := kk91.then_ k92
        have f405 : Bk w92 p ([.int .i64 2, .int .i64 3, .int .u32 1, .string ({ data := #[120] }), .slice none (0) (0)]) 70 := (f398.no k92)
        have f406 : Bk w92 qb ([.int .i64 2, .int .i64 3, .int .u32 1, .string ({ data := #[120] }), .slice A_q ((L_q).length) (c_q)]) 70 := (f399.no k92)
        have f407 : Bk w92 d1 (u8s (List.replicate 32 0)) 5 := (f400.no k92)
        have f408 : Bk w92 d2 (u8s (List.replicate 32 0)) 5 := (f401.no k92)
        have f409 : Bk w92 z ([.int .i64 0, .int .i64 0, .int .u32 0, .string ByteArray.empty, .slice none (0) (0)]) 70 := (f402.no k92)
        have o410 : Gt w92 := (o403.no k92)
        refine ⟨⟨kk92, f405, f406, f407, f408, f409, o410⟩, ?_⟩
        refine D_take 3 rfl (by kernel_rfl) (by kernel_rfl) (by kernel_rfl) (fun _ _ _ h => h) rfl (fun W hS => pu_move rfl) ?_
        refine D_take 4 rfl (by kernel_rfl) (by kernel_rfl) (by kernel_rfl) (fun _ _ _ h => h) rfl (fun W hS => pu_extract rfl rfl) ?_
        refine D_take 5 rfl (by kernel_rfl) (by kernel_rfl) (by kernel_rfl) (fun _ _ _ h => h) rfl (fun W hS => pu_extract rfl rfl) ?_
        refine D_take 6 rfl (by kernel_rfl) (by kernel_rfl) (by kernel_rfl) (fun _ _ _ h => h) rfl (fun W hS => pu_assign rfl) ?_
        refine D_take 7 rfl (by kernel_rfl) (by kernel_rfl) (by kernel_rfl) (fun _ _ _ h => h) rfl (fun W hS => pu_assign rfl) ?_
        refine D_done (by kernel_rfl) ?_
        refine X_then hK389 ?_
        refine C_seq (fun K411 hK411 => ?_)
        refine C_region ?_
        refine R_pu (pu_move rfl) rfl ?_
        refine R_pu (pu_eqlnn (by kernel_rfl) rfl) rfl ?_
        refine R_pu (pu_move rfl) rfl ?_
        refine R_gpu rfl rfl (pu_move rfl) rfl ?_
        refine R_gpu rfl rfl (pu_eqlnn (by kernel_rfl) rfl) rfl ?_
        refine R_pu (pu_pickt rfl rfl) rfl ?_
        refine R_pu (pu_move rfl) rfl ?_
        refine R_gpu rfl rfl (pu_move rfl) rfl ?_
        refine R_gpu rfl rfl (pu_true (pu_notd rfl) (by simp)) rfl ?_
        refine R_pu (pu_pickt rfl rfl) rfl ?_
        refine R_pu (pu_move rfl) rfl ?_
        refine R_gpu rfl rfl (pu_fieldAddr (off := 4) (o' := 4) (by kernel_rfl) rfl rfl) rfl ?_
        refine R_gpu rfl rfl (pu_loadK f406 (by kernel_rfl) rfl rfl) rfl ?_
        refine R_gpu rfl rfl (pu_len Tryd.underlying29 rfl) rfl ?_
        refine R_gpu rfl rfl (pu_true (pu_eql (p := ((L_q).length) = 1) rfl rfl (by omega)) hl_q) rfl ?_
        refine R_pu (pu_pickt rfl rfl) rfl ?_
        refine R_pu (pu_move rfl) rfl ?_
        refine R_gpu rfl rfl (pu_move rfl) rfl ?_
        refine R_glo rfl rfl (lo_call (by kernel_rfl) rfl (num23_err 12 _ o410)) rfl ?_
        rintro _ w93 ⟨rfl, k93⟩
        have kk93 := kk92.then_ k93
        refine R_gpu rfl rfl (pu_true (pu_eql (p := (12 : Nat) = 12) rfl rfl (by omega)) (by decide)) rfl ?_
        refine R_pu (pu_pickt rfl rfl) rfl ?_
        refine R_pu (pu_move rfl) rfl ?_
        refine R_gpu rfl rfl (pu_move rfl) rfl ?_
        have o412 : Gt w93 := (o410.no k93)
        refine R_glo rfl rfl (lo_call (by kernel_rfl) rfl (num23_err 2 _ o412)) rfl ?_
        rintro _ w94 ⟨rfl, k94⟩
        have kk94 := kk93.then_ k94
        refine R_gpu rfl rfl (pu_true (pu_eql (p := (2 : Nat) = 2) rfl rfl (by omega)) (by decide)) rfl ?_
        refine R_pu (pu_pickt rfl rfl) rfl ?_
        refine R_pu (pu_move rfl) rfl ?_
        have f413 : Bk w94 qb ([.int .i64 2, .int .i64 3, .int .u32 1, .string ({ data := #[120] }), .slice A_q ((L_q).length) (c_q)]) 70 := ((f406.no k93).no k94)
        refine R_gpu rfl rfl (pu_loadRow (len := 5) f413 (by kernel_rfl) (by kernel_rfl) rfl rfl) rfl ?_
        refine R_glo rfl rfl (lo_call (by kernel_rfl) rfl (reset_ 1 3 1 ({ data := #[120] }) A_q ((L_q).length) c_q _)) rfl ?_
        rintro _ w95 ⟨rfl, k95⟩
        have kk95 := kk94.then_ k95
        refine R_gpu rfl rfl (pu_field (off := 0) Tryd.underlying70 rfl rfl rfl rfl) rfl ?_
        refine R_gpu rfl rfl (pu_len Tryd.underlying29 rfl) rfl ?_
        refine R_gpu rfl rfl (pu_true (pu_eql (p := (0 : Nat) = 0) rfl rfl (by omega)) (by decide)) rfl ?_
        refine R_pu (pu_pickt rfl rfl) rfl ?_
        refine R_pu (pu_assign rfl) rfl ?_
        refine R_nil ?_
        refine X_then hK411 ?_
        refine C_ret ?_
        exact X_ret1 (.inl rfl) rfl rfl ⟨rfl, kk95⟩
    · have f414 : Bk w76 p ([.int .i64 2, .int .i64 3, .int .u32 1, .string ({ data := #[120] }), .slice none (0) (0)]) 70 := (f320.no k76)
      have f415 : Bk w76 qb ([.int .i64 2, .int .i64 3, .int .u32 1, .string ({ data := #[120] }), .slice A_q ((L_q).length) (c_q)]) 70 := (f_qb_75.no k76)
      have f416 : Bk w76 d1 (u8s (List.replicate 32 0)) 5 := (f323.no k76)
      have o417 : Gt w76 := (o321.no k76)
      have ob418 := ((Q74.on k75 (by have := f315.lt; omega)).keptNo k76)
      refine Nx_lo rfl (lo_alloc (L := [.int .i64 0, .int .i64 0, .int .u32 0, .string ByteArray.empty, .slice none (0) (0)]) (by kernel_rfl)) rfl ?_
      rintro _ w96 ⟨z, rfl, N96⟩
      have k96 := N96.kp
      have kk96 := kk76.then_ k96
      have ne_z_p : z ≠ p := Nat.ne_of_gt (Nat.lt_of_lt_of_le f414.lt N96.le)
      have ne_z_qb : z ≠ qb := Nat.ne_of_gt (Nat.lt_of_lt_of_le f415.lt N96.le)
      have ne_z_d1 : z ≠ d1 := Nat.ne_of_gt (Nat.lt_of_lt_of_le f416.lt N96.le)
      have ne_z_0 : z ≠ 0 := Nat.ne_of_gt (Nat.lt_of_lt_of_le o417.lt N96.le)
      have f_z_96 : Bk w96 z ([.int .i64 0, .int .i64 0, .int .u32 0, .string ByteArray.empty, .slice none (0) (0)]) 70 := N96.bk
      have f419 : Bk w96 p ([.int .i64 2, .int .i64 3, .int .u32 1, .string ({ data := #[120] }), .slice none (0) (0)]) 70 := (f414.no k96)
      have f420 : Bk w96 qb ([.int .i64 2, .int .i64 3, .int .u32 1, .string ({ data := #[120] }), .slice A_q ((L_q).length) (c_q)]) 70 := (f415.no k96)
      have f421 : Bk w96 d1 (u8s (List.replicate 32 0)) 5 := (f416.no k96)
      have o422 : Gt w96 := (o417.no k96)
      refine ⟨⟨kk96, f419, f420, f421, o422⟩, ?_⟩
      have ob423 := (ob418.keptNo k96)
      refine D_one 1 (by kernel_rfl) (Nx_lo rfl (lo_make (z := .int .u8 0) (bytes := 1) (ln := 32) (cp := 32) Tryd.underlying22 (by kernel_rfl) rfl rfl rfl rfl rfl (by omega) (by omega) (by omega)) rfl ?_)
      rintro _ w97 ⟨d2, rfl, N97⟩
      have k97 := N97.kp
      have kk97 := kk96.then_ k97
      have ne_d2_p : d2 ≠ p := Nat.ne_of_gt (Nat.lt_of_lt_of_le f419.lt N97.le)
      have ne_d2_qb : d2 ≠ qb := Nat.ne_of_gt (Nat.lt_of_lt_of_le f420.lt N97.le)
      have ne_d2_d1 : d2 ≠ d1 := Nat.ne_of_gt (Nat.lt_of_lt_of_le f421.lt N97.le)
      have ne_d2_z : d2 ≠ z := Nat.ne_of_gt (Nat.lt_of_lt_of_le f_z_96.lt N97.le)
      have ne_d2_0 : d2 ≠ 0 := Nat.ne_of_gt (Nat.lt_of_lt_of_le o422.lt N97.le)
      have f_d2_97 : Bk w97 d2 (u8s (List.replicate 32 0)) 5 := by rw [u8s_rep]; exact N97.bk
      have f424 : Bk w97 p ([.int .i64 2, .int .i64 3, .int .u32 1, .string ({ data := #[120] }), .slice none (0) (0)]) 70 := (f419.no k97)
      have f425 : Bk w97 qb ([.int .i64 2, .int .i64 3, .int .u32 1, .string ({ data := #[120] }), .slice A_q ((L_q).length) (c_q)]) 70 := (f420.no k97)
      have f426 : Bk w97 d1 (u8s (List.replicate 32 0)) 5 := (f421.no k97)
      have o427 : Gt w97 := (o422.no k97)
      refine ⟨⟨kk97, f424, f425, f426, o427⟩, ?_⟩
      refine D_take 2 rfl (by kernel_rfl) (by kernel_rfl) (by kernel_rfl) (fun _ _ _ h => h) rfl (fun W hS => pu_build (L := [.int .u8 2, .int .u32 1, .slice (some ⟨d2, 0, none⟩) (32) (32)]) rfl (by kernel_rfl)) ?_
      have ob428 := (ob423.keptNo k97)
      refine D_one 3 (by kernel_rfl) (Nx_lo rfl (lo_callE (by kernel_rfl) rfl (by rw [(rep_by 32).1] <;> rfl) (submit_share 1 3 1 ({ data := #[120] }) A_q L_q c_q ({ data := #[120] }) 2 1 (some ⟨d2, 0, none⟩) (List.replicate 32 0) 32 _ ob428.ss ⟨⟨⟨by decide, by decide, by omega, by have := ob428.le; omega⟩, (came_snoc (s := ⟨2, 1, none, List.replicate 32 0, 32⟩) (fun i s h => by cases h) hK_q ⟨rfl, by simp [ixs], by decide, by decide, rfl⟩)⟩, rfl, ⟨by omega, rfl, fun h => h.1 (ixs_in hK_q)⟩, by decide, by decide, by decide⟩)) rfl ?_)
      rintro _ w98 ⟨rfl, k98⟩
      have kk98 := kk97.then_ k98
      have f429 : Bk w98 p ([.int .i64 2, .int .i64 3, .int .u32 1, .string ({ data := #[120] }), .slice none (0) (0)]) 70 := (f424.no k98)
      have f430 : Bk w98 qb ([.int .i64 2, .int .i64 3, .int .u32 1, .string ({ data := #[120] }), .slice A_q ((L_q).length) (c_q)]) 70 := (f425.no k98)
      have f431 : Bk w98 d1 (u8s (List.replicate 32 0)) 5 := (f426.no k98)
      have o432 : Gt w98 := (o427.no k98)
      refine ⟨⟨kk98, f429, f430, f431, o432⟩, ?_⟩
      refine D_take 4 rfl (by kernel_rfl) (by kernel_rfl) (by kernel_rfl) (fun _ _ _ h => h) rfl (fun W hS => pu_move rfl) ?_
      refine D_take 5 rfl (by kernel_rfl) (by kernel_rfl) (by kernel_rfl) (fun _ _ _ h => h) rfl (fun W hS => pu_extract rfl rfl) ?_
      refine D_take 6 rfl (by kernel_rfl) (by kernel_rfl) (by kernel_rfl) (fun _ _ _ h => h) rfl (fun W hS => pu_extract rfl rfl) ?_
      refine D_take 7 rfl (by kernel_rfl) (by kernel_rfl) (by kernel_rfl) (fun _ _ _ h => h) rfl (fun W hS => pu_extract rfl rfl) ?_
      have f433 : Bk w98 z ([.int .i64 0, .int .i64 0, .int .u32 0, .string ByteArray.empty, .slice none (0) (0)]) 70 := ((f_z_96.no k97).no k98)
      refine D_one 9 (by kernel_rfl) (Nx_lo0 rfl (lo_storeRow (C := [.int .i64 0, .int .i64 0, .int .u32 0, .string ByteArray.empty, .slice none (0) (0)]) f433 (by kernel_rfl) rfl rfl (by intro u hu; simp at hu; rcases hu with rfl | rfl | rfl | rfl | rfl <;> rfl) rfl) ?_)
      rintro _ w99 kf99
      obtain ⟨k99, f_z_99⟩ := kf99
      replace f_z_99 : Bk w99 z ([.int .i64 0, .int .i64 0, .int .u32 0, .string ByteArray.empty, .slice none (0) (0)]) 70 := f_z_99
      have kk99 := kk98.trans k99 (fun i hi => .inr (hi ▸ (Nat.le_trans kk76.size N96.le)))
      have f434 : Bk w99 p ([.int .i64 2, .int .i64 3, .int .u32 1, .string ({ data := #[120] }), .slice none (0) (0)]) 70 := (f429.on k99 (Ne.symm ne_z_p))
      have f435 : Bk w99 qb ([.int .i64 2, .int .i64 3, .int .u32 1, .string ({ data := #[120] }), .slice A_q ((L_q).length) (c_q)]) 70 := (f430.on k99 (Ne.symm ne_z_qb))
      have f436 : Bk w99 d1 (u8s (List.replicate 32 0)) 5 := (f431.on k99 (Ne.symm ne_z_d1))
      have o437 : Gt w99 := (o432.on k99 (Ne.symm ne_z_0))
      refine ⟨⟨kk99, f434, f435, f436, o437⟩, ?_⟩
      refine D_take 10 rfl (by kernel_rfl) (by kernel_rfl) (by kernel_rfl) (fun _ _ _ h => h) rfl (fun W hS => pu_assign rfl) ?_
      refine D_take 11 rfl (by kernel_rfl) (by kernel_rfl) (by kernel_rfl) (fun _ _ _ h => h) rfl (fun W hS => pu_assign rfl) ?_
      refine D_done (by kernel_rfl) ?_
      refine X_then hK322 ?_
      refine C_seq (fun K438 hK438 => ?_)
      have f439 : Bk w99 d2 (u8s (List.replicate 32 0)) 5 := ((f_d2_97.no k98).on k99 ne_d2_z)
      refine D_begin (fun W => Kp No w W ∧ Bk W p ([.int .i64 2, .int .i64 3, .int .u32 1, .string ({ data := #[120] }), .slice none (0) (0)]) 70 ∧ Bk W qb ([.int .i64 2, .int .i64 3, .int .u32 1, .string ({ data := #[120] }), .slice A_q ((L_q).length) (c_q)]) 70 ∧ Bk W d1 (u8s (List.replicate 32 0)) 5 ∧ Bk W z ([.int .i64 0, .int .i64 0, .int .u32 0, .string ByteArray.empty, .slice none (0) (0)]) 70 ∧ Bk W d2 (u8s (List.replicate 32 0)) 5 ∧ Gt W) 8 rfl (by kernel_rfl) ⟨kk99.drew, f434.draw, f435.draw, f436.draw, f_z_99.draw, f439.draw, o437.draw⟩ ?_
      intro w100 k100 _
      have kk100 := kk99.then_ k100
      refine D_take 1 rfl (by kernel_rfl) (by kernel_rfl) (by kernel_rfl) (fun _ _ _ h => h) rfl (fun W hS => pu_loadRow (len := 5) hS.2.2.1 (by kernel_rfl) (by kernel_rfl) rfl rfl) ?_
      have f440 : Bk w100 p ([.int .i64 2, .int .i64 3, .int .u32 1, .string ({ data := #[120] }), .slice none (0) (0)]) 70 := (f434.no k100)
      have f441 : Bk w100 qb ([.int .i64 2, .int .i64 3, .int .u32 1, .string ({ data := #[120] }), .slice A_q ((L_q).length) (c_q)]) 70 := (f435.no k100)
      have f442 : Bk w100 d1 (u8s (List.replicate 32 0)) 5 := (f436.no k100)
      have f443 : Bk w100 z ([.int .i64 0, .int .i64 0, .int .u32 0, .string ByteArray.empty, .slice none (0) (0)]) 70 := (f_z_99.no k100)
      have f444 : Bk w100 d2 (u8s (List.replicate 32 0)) 5 := (f439.no k100)
      have o445 : Gt w100 := (o437.no k100)
      have ob446 := (((ob428.keptNo k98).onN k99 ob418 N96.le).keptNo k100)
      refine D_one 0 (by kernel_rfl) (Nx_lo rfl (lo_call (by kernel_rfl) rfl (gf_new _)) rfl ?_)
      rintro _ w101 ⟨b4_0, rfl, le101, T101, k101⟩
      have kk101 := kk100.then_ k101
      have ne_b4_0_p : b4_0 ≠ p := Nat.ne_of_gt (Nat.lt_of_lt_of_le f440.lt le101)
      have ne_b4_0_qb : b4_0 ≠ qb := Nat.ne_of_gt (Nat.lt_of_lt_of_le f441.lt le101)
      have ne_b4_0_d1 : b4_0 ≠ d1 := Nat.ne_of_gt (Nat.lt_of_lt_of_le f442.lt le101)
      have ne_b4_0_z : b4_0 ≠ z := Nat.ne_of_gt (Nat.lt_of_lt_of_le f443.lt le101)
      have ne_b4_0_d2 : b4_0 ≠ d2 := Nat.ne_of_gt (Nat.lt_of_lt_of_le f444.lt le101)
      have ne_b4_0_0 : b4_0 ≠ 0 := Nat.ne_of_gt (Nat.lt_of_lt_of_le o445.lt le101)
      have f447 : Bk w101 p ([.int .i64 2, .int .i64 3, .int .u32 1, .string ({ data := #[120] }), .slice none (0) (0)]) 70 := (f440.no k101)
      have f448 : Bk w101 qb ([.int .i64 2, .int .i64 3, .int .u32 1, .string ({ data := #[120] }), .slice A_q ((L_q).length) (c_q)]) 70 := (f441.no k101)
      have f449 : Bk w101 d1 (u8s (List.replicate 32 0)) 5 := (f442.no k101)
      have f450 : Bk w101 z ([.int .i64 0, .int .i64 0, .int .u32 0, .string ByteArray.empty, .slice none (0) (0)]) 70 := (f443.no k101)
      have f451 : Bk w101 d2 (u8s (List.replicate 32 0)) 5 := (f444.no k101)
      have o452 : Gt w101 := (o445.no k101)
      refine ⟨⟨kk101, f447, f448, f449, f450, f451, o452⟩, ?_⟩
      have ob453 := (ob446.keptNo k101)
      refine D_one 2 (by kernel_rfl) (Nx_lo rfl (lo_call (by kernel_rfl) rfl (secret_short b4_0 1 3 1 ({ data := #[120] }) A_q L_q c_q _ ob453.ss ⟨⟨⟨by decide, by decide, by omega, by have := ob453.le; omega⟩, (came_snoc (s := ⟨2, 1, none, List.replicate 32 0, 32⟩) (fun i s h => by cases h) hK_q ⟨rfl, by simp [ixs], by decide, by decide, rfl⟩)⟩, by omega⟩)) rfl ?_)
      rintro _ w102 ⟨rfl, k102⟩
      have kk102 := kk101.then_ k102
      have f454 : Bk w102 p ([.int .i64 2, .int .i64 3, .int .u32 1, .string ({ data := #[120] }), .slice none (0) (0)]) 70 := (f447.no k102)
      have f455 : Bk w102 qb ([.int .i64 2, .int .i64 3, .int .u32 1, .string ({ data := #[120] }), .slice A_q ((L_q).length) (c_q)]) 70 := (f448.no k102)
      have f456 : Bk w102 d1 (u8s (List.replicate 32 0)) 5 := (f449.no k102)
      have f457 : Bk w102 z ([.int .i64 0, .int .i64 0, .int .u32 0, .string ByteArray.empty, .slice none (0) (0)]) 70 := (f450.no k102)
      have f458 : Bk w102 d2 (u8s (List.replicate 32 0)) 5 := (f451.no k102)
      have o459 : Gt w102 := (o452.no k102)
      refine ⟨⟨kk102, f454, f455, f456, f457, f458, o459⟩, ?_⟩
      refine D_take 3 rfl (by kernel_rfl) (by kernel_rfl) (by kernel_rfl) (fun _ _ _ h => h) rfl (fun W hS => pu_move rfl) ?_
      refine D_take 4 rfl (by kernel_rfl) (by kernel_rfl) (by kernel_rfl) (fun _ _ _ h => h) rfl (fun W hS => pu_extract rfl rfl) ?_
      refine D_take 5 rfl (by kernel_rfl) (by kernel_rfl) (by kernel_rfl) (fun _ _ _ h => h) rfl (fun W hS => pu_extract rfl rfl) ?_
      refine D_take 6 rfl (by kernel_rfl) (by kernel_rfl) (by kernel_rfl) (fun _ _ _ h => h) rfl (fun W hS => pu_assign rfl) ?_
      refine D_take 7 rfl (by kernel_rfl) (by kernel_rfl) (by kernel_rfl) (fun _ _ _ h => h) rfl (fun W hS => pu_assign rfl) ?_
      refine D_done (by kernel_rfl) ?_
      refine X_then hK438 ?_
      refine C_seq (fun K460 hK460 => ?_)
      refine C_region ?_
      refine R_pu (pu_move rfl) rfl ?_
      refine R_pu (pu_eqlnn (by kernel_rfl) rfl) rfl ?_
      refine R_pu (pu_move rfl) rfl ?_
      refine R_gpu rfl rfl (pu_move rfl) rfl ?_
      refine R_gpu rfl rfl (pu_eqlnn (by kernel_rfl) rfl) rfl ?_
      refine R_pu (pu_pickt rfl rfl) rfl ?_
      refine R_pu (pu_move rfl) rfl ?_
      refine R_gpu rfl rfl (pu_move rfl) rfl ?_
      refine R_gpu rfl rfl (pu_true (pu_notd rfl) (by simp)) rfl ?_
      refine R_pu (pu_pickt rfl rfl) rfl ?_
      refine R_pu (pu_move rfl) rfl ?_
      refine R_gpu rfl rfl (pu_fieldAddr (off := 4) (o' := 4) (by kernel_rfl) rfl rfl) rfl ?_
      refine R_gpu rfl rfl (pu_loadK f455 (by kernel_rfl) rfl rfl) rfl ?_
      refine R_gpu rfl rfl (pu_len Tryd.underlying29 rfl) rfl ?_
      refine R_gpu rfl rfl (pu_true (pu_eql (p := ((L_q).length) = 1) rfl rfl (by omega)) hl_q) rfl ?_
      refine R_pu (pu_pickt rfl rfl) rfl ?_
      refine R_pu (pu_move rfl) rfl ?_
      refine R_gpu rfl rfl (pu_move rfl) rfl ?_
      refine R_glo rfl rfl (lo_call (by kernel_rfl) rfl (num23_err 12 _ o459)) rfl ?_
      rintro _ w103 ⟨rfl, k103⟩
      have kk103 := kk102.then_ k103
      refine R_gpu rfl rfl (pu_true (pu_eql (p := (12 : Nat) = 12) rfl rfl (by omega)) (by decide)) rfl ?_
      refine R_pu (pu_pickt rfl rfl) rfl ?_
      refine R_pu (pu_move rfl) rfl ?_
      refine R_gpu rfl rfl (pu_move rfl) rfl ?_
      have o461 : Gt w103 := (o459.no k103)
      refine R_glo rfl rfl (lo_call (by kernel_rfl) rfl (num23_err 2 _ o461)) rfl ?_
      rintro _ w104 ⟨rfl, k104⟩
      have kk104 := kk103.then_ k104
      refine R_gpu rfl rfl (pu_true (pu_eql (p := (2 : Nat) = 2) rfl rfl (by omega)) (by decide)) rfl ?_
      refine R_pu (pu_pickt rfl rfl) rfl ?_
      refine R_pu (pu_move rfl) rfl ?_
      have f462 : Bk w104 qb ([.int .i64 2, .int .i64 3, .int .u32 1, .string ({ data := #[120] }), .slice A_q ((L_q).length) (c_q)]) 70 := ((f455.no k103).no k104)
      refine R_gpu rfl rfl (pu_loadRow (len := 5) f462 (by kernel_rfl) (by kernel_rfl) rfl rfl) rfl ?_
      refine R_glo rfl rfl (lo_call (by kernel_rfl) rfl (reset_ 1 3 1 ({ data := #[120] }) A_q ((L_q).length) c_q _)) rfl ?_
      rintro _ w105 ⟨rfl, k105⟩
      have kk105 := kk104.then_ k105
      refine R_gpu rfl rfl (pu_field (off := 0) Tryd.underlying70 rfl rfl rfl rfl) rfl ?_
      refine R_gpu rfl rfl (pu_len Tryd.underlying29 rfl) rfl ?_
      refine R_gpu rfl rfl (pu_true (pu_eql (p := (0 : Nat) = 0) rfl rfl (by omega)) (by decide)) rfl ?_
      refine R_pu (pu_pickt rfl rfl) rfl ?_
      refine R_pu (pu_assign rfl) rfl ?_
      refine R_nil ?_
      refine X_then hK460 ?_
      refine C_ret ?_
      exact X_ret1 (.inl rfl) rfl rfl ⟨rfl, kk105⟩
end Go.Proofs.YtjbdimfpjbmggaaDoor
