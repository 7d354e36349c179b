/- The body of ProgressWrong. -/
import Derived.Test.YtjbdimfpjbmggaaDoorQa
set_option linter.unusedVariables false
set_option linter.unusedSimpArgs false
namespace Go.Proofs.YtjbdimfpjbmggaaDoor
open Go.RowKit Gm
set_option maxRecDepth 100000 in
set_option maxHeartbeats 2000000 in
theorem progressWrong_ (X : List Nat) (bX : By 32 X) (O : List Nat) (bO : By 2 O) (ge : Nat) (hge : ge < 4294967296) (w : World) (hG : Gt w) : Ret Tryd.prog 10 #[.agg (u8s X : List Value).toArray, .agg (u8s O : List Value).toArray, .int .u32 ((ge : Nat) : Int)] w (fun v w' => v = .bool true ∧ Kp No w w') := by
  have kk0 := Kp.refl No w
  refine enter (n := 176) [.agg (u8s X : List Value).toArray, .agg (u8s O : List Value).toArray, .int .u32 ((ge : Nat) : Int)] Tryd.func10 rfl rfl rfl ?_
  show Cw _ _ _ _ [(0, .agg (u8s X : List Value).toArray), (1, .agg (u8s O : List Value).toArray), (2, .int .u32 ((ge : Nat) : Int))] _
  refine C_seq (fun K1 hK1 => ?_)
  refine C_region ?_
  refine R_lo (lo_box (L := u8s X) rfl rfl) rfl ?_
  rintro _ w1 ⟨px, rfl, N1⟩
  have k1 := N1.kp
  have kk1 := kk0.then_ k1
  have ne_px_0 : px ≠ 0 := Nat.ne_of_gt (Nat.lt_of_lt_of_le hG.lt N1.le)
  have f_px_1 : Bk w1 px (u8s X) 85 := N1.bk
  have o2 : Gt w1 := (hG.no k1)
  refine R_lo (lo_box (L := u8s O) rfl rfl) rfl ?_
  rintro _ w2 ⟨po, rfl, N2⟩
  have k2 := N2.kp
  have kk2 := kk1.then_ k2
  have ne_po_px : po ≠ px := Nat.ne_of_gt (Nat.lt_of_lt_of_le f_px_1.lt N2.le)
  have ne_po_0 : po ≠ 0 := Nat.ne_of_gt (Nat.lt_of_lt_of_le o2.lt N2.le)
  have f_po_2 : Bk w2 po (u8s O) 86 := N2.bk
  refine R_pu (pu_assign rfl) rfl ?_
  refine R_nil ?_
  refine X_then hK1 ?_
  refine C_seq (fun K3 hK3 => ?_)
  refine C_region ?_
  refine R_pu (pu_indexAddrA (m := 0) (s := 1) (o' := 0) Tryd.underlying86 (by kernel_rfl) rfl rfl rfl (by omega) (by omega)) rfl ?_
  obtain ⟨na, e_na⟩ : ∃ q_, (O)[0]? = some q_ := ⟨_, List.getElem?_eq_getElem (by rw [(bO).1]; omega)⟩
  have b_na : na < 256 := (bO).2 _ (List.mem_of_getElem? e_na)
  refine R_pu (pu_loadK f_po_2 (by kernel_rfl) rfl (u8s_get e_na)) rfl ?_
  refine R_pu (pu_conv (z := ((na : Nat) : Int)) Tryd.underlying5 Tryd.underlying3 rfl (by have : na < 256 := b_na; rw [IntKind.wrap_i64]; omega)) rfl ?_
  refine R_pu (pu_rem (z := ((na % 4 : Nat) : Int)) rfl rfl (by omega) (by rfl)) rfl ?_
  obtain ⟨q, hq⟩ : ∃ q, 2 + na % 4 = q + 1 := ⟨1 + na % 4, by omega⟩
  have hql : 1 ≤ q ∧ q ≤ 4 := by omega
  refine R_pu (pu_add (z := ((q + 1 : Nat) : Int)) rfl rfl (by rw [IntKind.wrap_i64]; omega)) rfl ?_
  refine R_pu (pu_build (L := [.int .i64 ((q + 1 : Nat) : Int), .int .i64 0, .int .u32 3]) rfl (by kernel_rfl)) rfl ?_
  have f4 : Bk w2 px (u8s X) 85 := (f_px_1.no k2)
  have o5 : Gt w2 := (o2.no k2)
  refine R_lo (lo_alloc (L := [.int .i64 0, .int .i64 0, .int .u32 0]) (by kernel_rfl)) rfl ?_
  rintro _ w3 ⟨pb, rfl, N3⟩
  have k3 := N3.kp
  have kk3 := kk2.then_ k3
  have ne_pb_px : pb ≠ px := Nat.ne_of_gt (Nat.lt_of_lt_of_le f4.lt N3.le)
  have ne_pb_po : pb ≠ po := Nat.ne_of_gt (Nat.lt_of_lt_of_le f_po_2.lt N3.le)
  have ne_pb_0 : pb ≠ 0 := Nat.ne_of_gt (Nat.lt_of_lt_of_le o5.lt N3.le)
  have f_pb_3 : Bk w3 pb ([.int .i64 0, .int .i64 0, .int .u32 0]) 28 := N3.bk
  refine R_lo0 (lo_storeRow (C := [.int .i64 ((q + 1 : Nat) : Int), .int .i64 0, .int .u32 3]) f_pb_3 (by kernel_rfl) rfl rfl (by intro u hu; simp at hu; rcases hu with rfl | rfl | rfl <;> rfl) rfl) ?_
  rintro _ w4 kf4
  obtain ⟨k4, f_pb_4⟩ := kf4
  replace f_pb_4 : Bk w4 pb ([.int .i64 ((q + 1 : Nat) : Int), .int .i64 0, .int .u32 3]) 28 := f_pb_4
  have kk4 := kk3.trans k4 (fun i hi => .inr (hi ▸ (Nat.le_trans kk2.size N3.le)))
  refine R_nil ?_
  refine X_then hK3 ?_
  refine C_seq (fun K6 hK6 => ?_)
  refine C_region ?_
  refine R_pu (pu_fieldAddr (off := 0) (o' := 0) (by kernel_rfl) rfl rfl) rfl ?_
  refine R_pu (pu_loadK f_pb_4 (by kernel_rfl) rfl rfl) rfl ?_
  refine R_pu (pu_indexAddrA (m := 1) (s := 1) (o' := 1) Tryd.underlying86 (by kernel_rfl) rfl rfl rfl (by omega) (by omega)) rfl ?_
  obtain ⟨nb, e_nb⟩ : ∃ q_, (O)[1]? = some q_ := ⟨_, List.getElem?_eq_getElem (by rw [(bO).1]; omega)⟩
  have b_nb : nb < 256 := (bO).2 _ (List.mem_of_getElem? e_nb)
  have f7 : Bk w4 po (u8s O) 86 := ((f_po_2.no k3).on k4 (Ne.symm ne_pb_po))
  refine R_pu (pu_loadK f7 (by kernel_rfl) rfl (u8s_get e_nb)) rfl ?_
  refine R_pu (pu_conv (z := ((nb : Nat) : Int)) Tryd.underlying5 Tryd.underlying3 rfl (by have : nb < 256 := b_nb; rw [IntKind.wrap_i64]; omega)) rfl ?_
  refine R_pu (pu_rem (z := ((nb % 5 : Nat) : Int)) rfl rfl (by omega) (by rfl)) rfl ?_
  obtain ⟨n, hn⟩ : ∃ n, q + 1 + nb % 5 = n := ⟨_, rfl⟩
  refine R_pu (pu_add (z := ((n : Nat) : Int)) rfl rfl (by rw [IntKind.wrap_i64]; omega)) rfl ?_
  refine R_pu (pu_fieldAddr (off := 1) (o' := 1) (by kernel_rfl) rfl rfl) rfl ?_
  refine R_lo0 (lo_store f_pb_4 (by kernel_rfl) rfl rfl rfl (show 1 < 3 by decide)) ?_
  rintro _ w5 kf5
  obtain ⟨k5, f_pb_5⟩ := kf5
  replace f_pb_5 : Bk w5 pb ([.int .i64 ((q + 1 : Nat) : Int), .int .i64 ((n : Nat) : Int), .int .u32 3]) 28 := f_pb_5
  have kk5 := kk4.trans k5 (fun i hi => .inr (hi ▸ (Nat.le_trans kk2.size N3.le)))
  refine R_nil ?_
  refine X_then hK6 ?_
  refine C_seq (fun K8 hK8 => ?_)
  refine C_region ?_
  have f9 : Bk w5 px (u8s X) 85 := (((f4.no k3).on k4 (Ne.symm ne_pb_px)).on k5 (Ne.symm ne_pb_px))
  have f10 : Bk w5 po (u8s O) 86 := (f7.on k5 (Ne.symm ne_pb_po))
  have o11 : Gt w5 := (((o5.no k3).on k4 (Ne.symm ne_pb_0)).on k5 (Ne.symm ne_pb_0))
  refine R_lo (lo_call (by kernel_rfl) rfl (gf_new _)) rfl ?_
  rintro _ w6 ⟨b3_0, rfl, le6, T6, k6⟩
  have kk6 := kk5.then_ k6
  have ne_b3_0_px : b3_0 ≠ px := Nat.ne_of_gt (Nat.lt_of_lt_of_le f9.lt le6)
  have ne_b3_0_po : b3_0 ≠ po := Nat.ne_of_gt (Nat.lt_of_lt_of_le f10.lt le6)
  have ne_b3_0_pb : b3_0 ≠ pb := Nat.ne_of_gt (Nat.lt_of_lt_of_le f_pb_5.lt le6)
  have ne_b3_0_0 : b3_0 ≠ 0 := Nat.ne_of_gt (Nat.lt_of_lt_of_le o11.lt le6)
  refine R_pu (pu_assign rfl) rfl ?_
  refine R_nil ?_
  refine X_then hK8 ?_
  refine C_seq (fun K12 hK12 => ?_)
  have f13 : Bk w6 px (u8s X) 85 := (f9.no k6)
  have f14 : Bk w6 po (u8s O) 86 := (f10.no k6)
  have f15 : Bk w6 pb ([.int .i64 ((q + 1 : Nat) : Int), .int .i64 ((n : Nat) : Int), .int .u32 3]) 28 := (f_pb_5.no k6)
  have o16 : Gt w6 := (o11.no k6)
  refine D_begin (fun W => Kp No w W ∧ Bk W px (u8s X) 85 ∧ Bk W po (u8s O) 86 ∧ Bk W pb ([.int .i64 ((q + 1 : Nat) : Int), .int .i64 ((n : Nat) : Int), .int .u32 3]) 28 ∧ Gt W ∧ Tb W b3_0) 14 rfl (by kernel_rfl) ⟨kk6.drew, f13.draw, f14.draw, f15.draw, o16.draw, T6.draw⟩ ?_
  intro w7 k7 _
  have kk7 := kk6.then_ k7
  refine D_take 0 rfl (by kernel_rfl) (by kernel_rfl) (by kernel_rfl) (fun _ _ _ h => h) rfl (fun W hS => pu_move rfl) ?_
  refine D_take 1 rfl (by kernel_rfl) (by kernel_rfl) (by kernel_rfl) (fun _ _ _ h => h) rfl (fun W hS => pu_sliceArr Tryd.underlying85 (by kernel_rfl) rfl) ?_
  refine D_take 2 rfl (by kernel_rfl) (by kernel_rfl) (by kernel_rfl) (fun _ _ _ h => h) rfl (fun W hS => pu_loadRow (len := 3) hS.2.2.2.1 (by kernel_rfl) (by kernel_rfl) rfl rfl) ?_
  refine D_take 3 rfl (by kernel_rfl) (by kernel_rfl) (by kernel_rfl) (fun _ _ _ h => h) rfl (fun W hS => pu_fieldAddr (off := 0) (o' := 0) (by kernel_rfl) rfl rfl) ?_
  refine D_take 4 rfl (by kernel_rfl) (by kernel_rfl) (by kernel_rfl) (fun _ _ _ h => h) rfl (fun W hS => pu_loadK hS.2.2.2.1 (by kernel_rfl) rfl rfl) ?_
  refine D_take 5 rfl (by kernel_rfl) (by kernel_rfl) (by kernel_rfl) (fun _ _ _ h => h) rfl (fun W hS => pu_sub (z := ((q : Nat) : Int)) rfl rfl (by rw [IntKind.wrap_i64]; omega)) ?_
  refine D_take 6 rfl (by kernel_rfl) (by kernel_rfl) (by kernel_rfl) (fun _ _ _ h => h) rfl (fun W hS => pu_mul (z := ((32 * q : Nat) : Int)) rfl rfl (by rw [IntKind.wrap_i64]; omega)) ?_
  have f17 : Bk w7 px (u8s X) 85 := (f13.no k7)
  have f18 : Bk w7 po (u8s O) 86 := (f14.no k7)
  have f19 : Bk w7 pb ([.int .i64 ((q + 1 : Nat) : Int), .int .i64 ((n : Nat) : Int), .int .u32 3]) 28 := (f15.no k7)
  have o20 : Gt w7 := (o16.no k7)
  have o21 : Tb w7 b3_0 := (T6.no k7)
  refine D_one 7 (by kernel_rfl) (Nx_lo rfl (lo_make (z := .int .u8 0) (bytes := 1) (ln := 32 * q) (cp := 32 * q) Tryd.underlying22 (by kernel_rfl) rfl rfl rfl rfl rfl (by omega) (by omega) (by omega)) rfl ?_)
  rintro _ w8 ⟨dd, rfl, N8⟩
  have k8 := N8.kp
  have kk8 := kk7.then_ k8
  have ne_dd_px : dd ≠ px := Nat.ne_of_gt (Nat.lt_of_lt_of_le f17.lt N8.le)
  have ne_dd_po : dd ≠ po := Nat.ne_of_gt (Nat.lt_of_lt_of_le f18.lt N8.le)
  have ne_dd_pb : dd ≠ pb := Nat.ne_of_gt (Nat.lt_of_lt_of_le f19.lt N8.le)
  have ne_dd_0 : dd ≠ 0 := Nat.ne_of_gt (Nat.lt_of_lt_of_le o20.lt N8.le)
  have ne_dd_b3_0 : dd ≠ b3_0 := Nat.ne_of_gt (Nat.lt_of_lt_of_le o21.lt N8.le)
  have f_dd_8 : Bk w8 dd (u8s (List.replicate (32 * q) 0)) 5 := by rw [u8s_rep]; exact N8.bk
  have f22 : Bk w8 px (u8s X) 85 := (f17.no k8)
  have f23 : Bk w8 po (u8s O) 86 := (f18.no k8)
  have f24 : Bk w8 pb ([.int .i64 ((q + 1 : Nat) : Int), .int .i64 ((n : Nat) : Int), .int .u32 3]) 28 := (f19.no k8)
  have o25 : Gt w8 := (o20.no k8)
  have o26 : Tb w8 b3_0 := (o21.no k8)
  refine ⟨⟨kk8, f22, f23, f24, o25, o26⟩, ?_⟩
  refine D_one 8 (by kernel_rfl) (Nx_lo rfl (lo_callE (by kernel_rfl) rfl (by rw [bX.1, (rep_by (32 * q)).1] <;> rfl) (shamir_split b3_0 (some ⟨px, 0, none⟩) X 32 q n 3 (some ⟨dd, 0, none⟩) (List.replicate (32 * q) 0) (32 * q) _ (Bs.ofBk f22 bX) (Nat.le_of_eq bX.1) (Bs.ofBk f_dd_8 (rep_by (32 * q))) (Nat.le_of_eq (rep_by (32 * q)).1) (by decide) ⟨by omega, by omega, by omega⟩ ⟨by rw [bX.1]; omega, by rw [bX.1]; omega⟩ (by rw [List.length_replicate, bX.1]; omega) (Aw.ofBk (Ne.symm ne_b3_0_px)) (Aw.ofBk ne_dd_b3_0) o26)) rfl ?_)
  rintro _ w9 ⟨A_x, c_x, L_x, rfl, Q9, hK_x, T9, k9⟩
  have kk9 := kk8.trans k9 (fun i hi => .inr (hi ▸ (Nat.le_trans kk5.size le6)))
  have z27 : w8.heap.size ≤ w9.heap.size := k9.size
  have hl_x := (key_len hK_x).trans (ptK_length ..)
  have f28 : Bk w9 px (u8s X) 85 := (f22.on k9 (Ne.symm ne_b3_0_px))
  have f29 : Bk w9 po (u8s O) 86 := (f23.on k9 (Ne.symm ne_b3_0_po))
  have f30 : Bk w9 pb ([.int .i64 ((q + 1 : Nat) : Int), .int .i64 ((n : Nat) : Int), .int .u32 3]) 28 := (f24.on k9 (Ne.symm ne_b3_0_pb))
  have o31 : Gt w9 := (o25.on k9 (Ne.symm ne_b3_0_0))
  refine ⟨⟨kk9, f28, f29, f30, o31, T9⟩, ?_⟩
  refine D_take 9 rfl (by kernel_rfl) (by kernel_rfl) (by kernel_rfl) (fun _ _ _ h => h) rfl (fun W hS => pu_move rfl) ?_
  refine D_take 10 rfl (by kernel_rfl) (by kernel_rfl) (by kernel_rfl) (fun _ _ _ h => h) rfl (fun W hS => pu_extract rfl rfl) ?_
  refine D_take 11 rfl (by kernel_rfl) (by kernel_rfl) (by kernel_rfl) (fun _ _ _ h => h) rfl (fun W hS => pu_extract rfl rfl) ?_
  refine D_take 12 rfl (by kernel_rfl) (by kernel_rfl) (by kernel_rfl) (fun _ _ _ h => h) rfl (fun W hS => pu_assign rfl) ?_
  refine D_take 13 rfl (by kernel_rfl) (by kernel_rfl) (by kernel_rfl) (fun _ _ _ h => h) rfl (fun W hS => pu_assign rfl) ?_
  refine D_done (by kernel_rfl) ?_
  refine X_then hK12 ?_
  refine C_seq (fun K32 hK32 => ?_)
  refine C_region ?_
  refine R_pu (pu_loadRow (len := 3) f30 (by kernel_rfl) (by kernel_rfl) rfl rfl) rfl ?_
  refine R_lo (lo_call (by kernel_rfl) rfl (start_ok q n 3 ({ data := #[109] }) _ ⟨⟨by omega, by omega, by omega⟩, by decide⟩)) rfl ?_
  rintro _ w10 ⟨rfl, k10⟩
  have kk10 := kk9.then_ k10
  refine R_pu (pu_move rfl) rfl ?_
  refine R_pu (pu_extract rfl rfl) rfl ?_
  refine R_pu (pu_extract rfl rfl) rfl ?_
  have f33 : Bk w10 px (u8s X) 85 := (f28.no k10)
  have f34 : Bk w10 po (u8s O) 86 := (f29.no k10)
  have f35 : Bk w10 pb ([.int .i64 ((q + 1 : Nat) : Int), .int .i64 ((n : Nat) : Int), .int .u32 3]) 28 := (f30.no k10)
  have f36 : Bk w10 dd (u8s (List.replicate (32 * q) 0)) 5 := ((f_dd_8.on k9 ne_dd_b3_0).no k10)
  have o37 : Gt w10 := (o31.no k10)
  have o38 : Tb w10 b3_0 := (T9.no k10)
  have ob39 := (Q9.keptNo k10)
  refine R_lo (lo_alloc (L := [.int .i64 0, .int .i64 0, .int .u32 0, .string ByteArray.empty, .slice none (0) (0)]) (by kernel_rfl)) rfl ?_
  rintro _ w11 ⟨pp, rfl, N11⟩
  have k11 := N11.kp
  have kk11 := kk10.then_ k11
  have ne_pp_px : pp ≠ px := Nat.ne_of_gt (Nat.lt_of_lt_of_le f33.lt N11.le)
  have ne_pp_po : pp ≠ po := Nat.ne_of_gt (Nat.lt_of_lt_of_le f34.lt N11.le)
  have ne_pp_pb : pp ≠ pb := Nat.ne_of_gt (Nat.lt_of_lt_of_le f35.lt N11.le)
  have ne_pp_dd : pp ≠ dd := Nat.ne_of_gt (Nat.lt_of_lt_of_le f36.lt N11.le)
  have ne_pp_0 : pp ≠ 0 := Nat.ne_of_gt (Nat.lt_of_lt_of_le o37.lt N11.le)
  have ne_pp_b3_0 : pp ≠ b3_0 := Nat.ne_of_gt (Nat.lt_of_lt_of_le o38.lt N11.le)
  have f_pp_11 : Bk w11 pp ([.int .i64 0, .int .i64 0, .int .u32 0, .string ByteArray.empty, .slice none (0) (0)]) 70 := N11.bk
  refine R_lo0 (lo_storeRow (C := [.int .i64 ((q + 1 : Nat) : Int), .int .i64 ((n : Nat) : Int), .int .u32 3, .string ({ data := #[109] }), .slice none (0) (0)]) f_pp_11 (by kernel_rfl) rfl rfl (by intro u hu; simp at hu; rcases hu with rfl | rfl | rfl | rfl | rfl <;> rfl) rfl) ?_
  rintro _ w12 kf12
  obtain ⟨k12, f_pp_12⟩ := kf12
  replace f_pp_12 : Bk w12 pp ([.int .i64 ((q + 1 : Nat) : Int), .int .i64 ((n : Nat) : Int), .int .u32 3, .string ({ data := #[109] }), .slice none (0) (0)]) 70 := f_pp_12
  have kk12 := kk11.trans k12 (fun i hi => .inr (hi ▸ (Nat.le_trans kk10.size N11.le)))
  refine R_pu (pu_assign rfl) rfl ?_
  refine R_nil ?_
  refine X_then hK32 ?_
  refine C_seq (fun K40 hK40 => ?_)
  refine C_seq (fun K41 hK41 => ?_)
  refine C_region ?_
  refine R_pu (pu_move rfl) rfl ?_
  refine R_pu (pu_neqnn (by kernel_rfl) rfl) rfl ?_
  refine R_pu (pu_move rfl) rfl ?_
  refine R_gpu rfl rfl (pu_move rfl) rfl ?_
  refine R_gpu rfl rfl (pu_neqnn (by kernel_rfl) rfl) rfl ?_
  refine R_pu (pu_pickf rfl rfl) rfl ?_
  refine R_pu (pu_move rfl) rfl ?_
  refine R_gpu rfl rfl (pu_move rfl) rfl ?_
  refine R_gpu rfl rfl (pu_len Tryd.underlying29 rfl) rfl ?_
  refine R_gpu rfl rfl (pu_fieldAddr (off := 1) (o' := 1) (by kernel_rfl) rfl rfl) rfl ?_
  have f42 : Bk w12 pb ([.int .i64 ((q + 1 : Nat) : Int), .int .i64 ((n : Nat) : Int), .int .u32 3]) 28 := ((f35.no k11).on k12 (Ne.symm ne_pp_pb))
  refine R_gpu rfl rfl (pu_loadK f42 (by kernel_rfl) rfl rfl) rfl ?_
  refine R_gpu rfl rfl (pu_false (pu_neq (p := ((L_x).length) = n) rfl rfl (by omega)) (fun h => h hl_x)) rfl ?_
  refine R_pu (pu_pickf rfl rfl) rfl ?_
  refine R_nil ?_
  refine X_then hK41 ?_
  refine C_false rfl ?_
  refine C_skip ?_
  refine X_then hK40 ?_
  have f43 : Bk w12 px (u8s X) 85 := ((f33.no k11).on k12 (Ne.symm ne_pp_px))
  have f44 : Bk w12 po (u8s O) 86 := ((f34.no k11).on k12 (Ne.symm ne_pp_po))
  have f45 : Bk w12 dd (u8s (List.replicate (32 * q) 0)) 5 := ((f36.no k11).on k12 (Ne.symm ne_pp_dd))
  have o46 : Gt w12 := ((o37.no k11).on k12 (Ne.symm ne_pp_0))
  have o47 : Tb w12 b3_0 := ((o38.no k11).on k12 (Ne.symm ne_pp_b3_0))
  have sw48 := Sw.nil 50 w12.heap.size w12 w12.heap.size
  have z49 := Nat.le_refl w12.heap.size
  have ob51 := ((ob39.keptNo k11).onN k12 ob39 N11.le)
  have lm50 := ob51.top
  refine C_cut (fun l_ wr => ∃ yb : Nat, ∃ A_y : Option Addr, ∃ c_y : Nat, ∃ L_y : List Shr, (l_ = [(2, .int .u32 ((ge : Nat) : Int)), (6, .bool false), (7, .pointer (some ⟨pb, 0, none⟩)), (9, .slice A_x ((L_x).length) (c_x)), (13, .pointer (some ⟨yb, 0, none⟩)), (15, .nilIface)]) ∧ (Came n 3 L_y) ∧ (ixs L_y = [1]) ∧ (L_y.length = 1) ∧ (Kp No w wr) ∧ (Bk wr px (u8s X) 85) ∧ (Bk wr po (u8s O) 86) ∧ (Bk wr pb ([.int .i64 ((q + 1 : Nat) : Int), .int .i64 ((n : Nat) : Int), .int .u32 3]) 28) ∧ (Bk wr dd (u8s (List.replicate (32 * q) 0)) 5) ∧ (Bk wr pp ([.int .i64 ((q + 1 : Nat) : Int), .int .i64 ((n : Nat) : Int), .int .u32 3, .string ({ data := #[109] }), .slice none (0) (0)]) 70) ∧ (Bk wr yb ([.int .i64 ((q + 1 : Nat) : Int), .int .i64 ((n : Nat) : Int), .int .u32 3, .string ({ data := #[109] }), .slice A_y ((L_y).length) (c_y)]) 70) ∧ (Sw 50 w8.heap.size wr w8.heap.size (.slice A_x ((L_x).length) (c_x)) (L_x) ∧ w8.heap.size ≤ (wr).heap.size) ∧ (Sw 50 w12.heap.size wr w12.heap.size (.slice A_y ((L_y).length) (c_y)) (L_y) ∧ w12.heap.size ≤ (wr).heap.size) ∧ (Gt wr) ∧ (Tb wr b3_0)) (fun K_ hK_ => ?_) ?_
  · refine D_begin (fun W => Kp No w W ∧ Bk W px (u8s X) 85 ∧ Bk W po (u8s O) 86 ∧ Bk W pb ([.int .i64 ((q + 1 : Nat) : Int), .int .i64 ((n : Nat) : Int), .int .u32 3]) 28 ∧ Bk W dd (u8s (List.replicate (32 * q) 0)) 5 ∧ Bk W pp ([.int .i64 ((q + 1 : Nat) : Int), .int .i64 ((n : Nat) : Int), .int .u32 3, .string ({ data := #[109] }), .slice none (0) (0)]) 70 ∧ Gt W ∧ Tb W b3_0 ∧ Sw 50 w8.heap.size W w8.heap.size (.slice A_x ((L_x).length) (c_x)) (L_x)) 13 rfl (by kernel_rfl) ⟨kk12.drew, f43.draw, f44.draw, f42.draw, f45.draw, f_pp_12.draw, o46.draw, o47.draw, ob51.draw⟩ ?_
    intro w13 k13 _
    have kk13 := kk12.then_ k13
    refine D_take 0 rfl (by kernel_rfl) (by kernel_rfl) (by kernel_rfl) (fun _ _ _ h => h) rfl (fun W hS => pu_loadRow (len := 5) hS.2.2.2.2.2.1 (by kernel_rfl) (by kernel_rfl) rfl rfl) ?_
    refine D_take 1 rfl (by kernel_rfl) (by kernel_rfl) (by kernel_rfl) (fun _ _ _ h => h) rfl (fun W hS => pu_move rfl) ?_
    have ob52 := (ob51.keptNo k13)
    obtain ⟨s0, e_s0⟩ : ∃ q_, (L_x)[0]? = some q_ := ⟨_, List.getElem?_eq_getElem (by first | omega | (simp; done) | (simp; omega))⟩
    have ok_s0 := ob52.ss.get e_s0
    have od_s0 := ob52.od e_s0
    have bi_s0 : s0.ix < 256 := ok_s0.ix
    refine D_take 2 rfl (by kernel_rfl) (by kernel_rfl) (by kernel_rfl) (fun _ _ _ h => h) rfl (fun W hS => pu_indexAddrH hS.2.2.2.2.2.2.2.2.ss Tryd.underlying29 (by kernel_rfl) rfl rfl rfl rfl e_s0) ?_
    refine D_take 3 rfl (by kernel_rfl) (by kernel_rfl) (by kernel_rfl) (fun _ _ _ h => h) rfl (fun W hS => pu_loadHr hS.2.2.2.2.2.2.2.2.ss e_s0 (by kernel_rfl) (by kernel_rfl) rfl) ?_
    refine D_two 4 9 (by kernel_rfl) ?_ ?_
    · have k_s0 := key_at hK_x e_s0 (ptK_get (show 0 < n by omega)); have lx_s0 : s0.X.length = 32 := by rw [k_s0.2.2, ptX_length]; exact bX.1
      have f53 : Bk w13 px (u8s X) 85 := (f43.no k13)
      have f54 : Bk w13 po (u8s O) 86 := (f44.no k13)
      have f55 : Bk w13 pb ([.int .i64 ((q + 1 : Nat) : Int), .int .i64 ((n : Nat) : Int), .int .u32 3]) 28 := (f42.no k13)
      have f56 : Bk w13 dd (u8s (List.replicate (32 * q) 0)) 5 := (f45.no k13)
      have f57 : Bk w13 pp ([.int .i64 ((q + 1 : Nat) : Int), .int .i64 ((n : Nat) : Int), .int .u32 3, .string ({ data := #[109] }), .slice none (0) (0)]) 70 := (f_pp_12.no k13)
      have o58 : Gt w13 := (o46.no k13)
      have o59 : Tb w13 b3_0 := (o47.no k13)
      have lm60 := ob52.top
      have ob62 := (sw48.keptNo k13)
      have lm61 := ob62.top
      have lm63 := od_s0.top
      refine Nx_lo rfl (lo_call (by kernel_rfl) rfl (submit_ok q n 3 ({ data := #[109] }) none ([] : List Shr) 0 s0.ix s0.gen s0.A s0.X s0.c _ (Ss.nil _ none) od_s0.bs od_s0.le.2 ⟨⟨⟨⟨by omega, by omega, by omega⟩, by decide, Nat.zero_le _, Nat.zero_le _⟩, Came.nil _ _⟩, ⟨by simp, k_s0.2.1, ⟨by simp [ixs], by rw [k_s0.1]; omega, by rw [k_s0.1]; omega, lx_s0⟩⟩, ok_s0.ix, by decide⟩)) rfl ?_
      rintro _ w14 ⟨A_y1, c_y1, L_y1, rfl, Q14, hK_y1, k14⟩
      have kk14 := kk13.then_ k14
      have z64 : w13.heap.size ≤ w14.heap.size := k14.size
      have hl_y1 : L_y1.length = 1 := by have := congrArg List.length hK_y1; simpa using this
      have f65 : Bk w14 px (u8s X) 85 := (f53.no k14)
      have f66 : Bk w14 po (u8s O) 86 := (f54.no k14)
      have f67 : Bk w14 pb ([.int .i64 ((q + 1 : Nat) : Int), .int .i64 ((n : Nat) : Int), .int .u32 3]) 28 := (f55.no k14)
      have f68 : Bk w14 dd (u8s (List.replicate (32 * q) 0)) 5 := (f56.no k14)
      have f69 : Bk w14 pp ([.int .i64 ((q + 1 : Nat) : Int), .int .i64 ((n : Nat) : Int), .int .u32 3, .string ({ data := #[109] }), .slice none (0) (0)]) 70 := (f57.no k14)
      have o70 : Gt w14 := (o58.no k14)
      have o71 : Tb w14 b3_0 := (o59.no k14)
      have ob72 := (ob52.keptNo k14)
      refine ⟨⟨kk14, f65, f66, f67, f68, f69, o70, o71, ob72⟩, ?_⟩
      refine D_take 5 rfl (by kernel_rfl) (by kernel_rfl) (by kernel_rfl) (fun _ _ _ h => h) rfl (fun W hS => pu_move rfl) ?_
      refine D_take 6 rfl (by kernel_rfl) (by kernel_rfl) (by kernel_rfl) (fun _ _ _ h => h) rfl (fun W hS => pu_extract rfl rfl) ?_
      refine D_take 7 rfl (by kernel_rfl) (by kernel_rfl) (by kernel_rfl) (fun _ _ _ h => h) rfl (fun W hS => pu_extract rfl rfl) ?_
      refine D_take 8 rfl (by kernel_rfl) (by kernel_rfl) (by kernel_rfl) (fun _ _ _ h => h) rfl (fun W hS => pu_extract rfl rfl) ?_
      have ob73 := (ob62.keptNo k14)
      have ob74 := (od_s0.keptNo k14)
      refine D_one 9 (by kernel_rfl) (Nx_lo rfl (lo_alloc (L := [.int .i64 0, .int .i64 0, .int .u32 0, .string ByteArray.empty, .slice none (0) (0)]) (by kernel_rfl)) rfl ?_)
      rintro _ w15 ⟨yb1, rfl, N15⟩
      have k15 := N15.kp
      have kk15 := kk14.then_ k15
      have ne_yb1_px : yb1 ≠ px := Nat.ne_of_gt (Nat.lt_of_lt_of_le f65.lt N15.le)
      have ne_yb1_po : yb1 ≠ po := Nat.ne_of_gt (Nat.lt_of_lt_of_le f66.lt N15.le)
      have ne_yb1_pb : yb1 ≠ pb := Nat.ne_of_gt (Nat.lt_of_lt_of_le f67.lt N15.le)
      have ne_yb1_dd : yb1 ≠ dd := Nat.ne_of_gt (Nat.lt_of_lt_of_le f68.lt N15.le)
      have ne_yb1_pp : yb1 ≠ pp := Nat.ne_of_gt (Nat.lt_of_lt_of_le f69.lt N15.le)
      have ne_yb1_0 : yb1 ≠ 0 := Nat.ne_of_gt (Nat.lt_of_lt_of_le o70.lt N15.le)
      have ne_yb1_b3_0 : yb1 ≠ b3_0 := Nat.ne_of_gt (Nat.lt_of_lt_of_le o71.lt N15.le)
      have f_yb1_15 : Bk w15 yb1 ([.int .i64 0, .int .i64 0, .int .u32 0, .string ByteArray.empty, .slice none (0) (0)]) 70 := N15.bk
      have f75 : Bk w15 px (u8s X) 85 := (f65.no k15)
      have f76 : Bk w15 po (u8s O) 86 := (f66.no k15)
      have f77 : Bk w15 pb ([.int .i64 ((q + 1 : Nat) : Int), .int .i64 ((n : Nat) : Int), .int .u32 3]) 28 := (f67.no k15)
      have f78 : Bk w15 dd (u8s (List.replicate (32 * q) 0)) 5 := (f68.no k15)
      have f79 : Bk w15 pp ([.int .i64 ((q + 1 : Nat) : Int), .int .i64 ((n : Nat) : Int), .int .u32 3, .string ({ data := #[109] }), .slice none (0) (0)]) 70 := (f69.no k15)
      have o80 : Gt w15 := (o70.no k15)
      have o81 : Tb w15 b3_0 := (o71.no k15)
      have ob82 := (ob72.keptNo k15)
      refine ⟨⟨kk15, f75, f76, f77, f78, f79, o80, o81, ob82⟩, ?_⟩
      refine D_one 10 (by kernel_rfl) (Nx_lo0 rfl (lo_storeRow (C := [.int .i64 ((q + 1 : Nat) : Int), .int .i64 ((n : Nat) : Int), .int .u32 3, .string ({ data := #[109] }), .slice A_y1 ((L_y1).length) (c_y1)]) f_yb1_15 (by kernel_rfl) rfl rfl (by intro u hu; simp at hu; rcases hu with rfl | rfl | rfl | rfl | rfl <;> rfl) rfl) ?_)
      rintro _ w16 kf16
      obtain ⟨k16, f_yb1_16⟩ := kf16
      replace f_yb1_16 : Bk w16 yb1 ([.int .i64 ((q + 1 : Nat) : Int), .int .i64 ((n : Nat) : Int), .int .u32 3, .string ({ data := #[109] }), .slice A_y1 ((L_y1).length) (c_y1)]) 70 := f_yb1_16
      have kk16 := kk15.trans k16 (fun i hi => .inr (hi ▸ (Nat.le_trans kk14.size N15.le)))
      have f83 : Bk w16 px (u8s X) 85 := (f75.on k16 (Ne.symm ne_yb1_px))
      have f84 : Bk w16 po (u8s O) 86 := (f76.on k16 (Ne.symm ne_yb1_po))
      have f85 : Bk w16 pb ([.int .i64 ((q + 1 : Nat) : Int), .int .i64 ((n : Nat) : Int), .int .u32 3]) 28 := (f77.on k16 (Ne.symm ne_yb1_pb))
      have f86 : Bk w16 dd (u8s (List.replicate (32 * q) 0)) 5 := (f78.on k16 (Ne.symm ne_yb1_dd))
      have f87 : Bk w16 pp ([.int .i64 ((q + 1 : Nat) : Int), .int .i64 ((n : Nat) : Int), .int .u32 3, .string ({ data := #[109] }), .slice none (0) (0)]) 70 := (f79.on k16 (Ne.symm ne_yb1_pp))
      have o88 : Gt w16 := (o80.on k16 (Ne.symm ne_yb1_0))
      have o89 : Tb w16 b3_0 := (o81.on k16 (Ne.symm ne_yb1_b3_0))
      have ob90 := (ob82.onN k16 ob72 N15.le)
      refine ⟨⟨kk16, f83, f84, f85, f86, f87, o88, o89, ob90⟩, ?_⟩
      refine D_take 11 rfl (by kernel_rfl) (by kernel_rfl) (by kernel_rfl) (fun _ _ _ h => h) rfl (fun W hS => pu_assign rfl) ?_
      refine D_take 12 rfl (by kernel_rfl) (by kernel_rfl) (by kernel_rfl) (fun _ _ _ h => h) rfl (fun W hS => pu_assign rfl) ?_
      refine D_done (by kernel_rfl) ?_
      have ob91 := ((Q14.keptNo k15).onN k16 Q14 N15.le)
      refine X_cut hK_ [(2, .int .u32 ((ge : Nat) : Int)), (6, .bool false), (7, .pointer (some ⟨pb, 0, none⟩)), (9, .slice A_x ((L_x).length) (c_x)), (13, .pointer (some ⟨yb1, 0, none⟩)), (15, .nilIface)] (Sub.cons rfl (Sub.cons rfl (Sub.cons rfl (Sub.cons rfl (Sub.cons rfl (Sub.cons rfl (Sub.nil _))))))) ⟨yb1, A_y1, c_y1, L_y1, rfl, (came_one hK_y1 k_s0.2.1 (by rw [k_s0.1]; omega) (by rw [k_s0.1]; omega) lx_s0), (by rw [ixs_one hK_y1, k_s0.1]), hl_y1, kk16, f83, f84, f85, f86, f87, f_yb1_16, ⟨ob90, (Nat.le_trans (Nat.le_trans (Nat.le_trans (Nat.le_trans (Nat.le_trans (Nat.le_trans (Nat.le_trans z27 k10.size) k11.size) k12.size) k13.size) k14.size) k15.size) k16.size)⟩, ⟨((ob91).lowb (Nat.le_trans z49 k13.size)).lowd (Nat.le_trans z49 k13.size), (Nat.le_trans (Nat.le_trans (Nat.le_trans (Nat.le_trans z49 k13.size) k14.size) k15.size) k16.size)⟩, o88, o89⟩
    · have f92 : Bk w13 px (u8s X) 85 := (f43.no k13)
      have f93 : Bk w13 po (u8s O) 86 := (f44.no k13)
      have f94 : Bk w13 pb ([.int .i64 ((q + 1 : Nat) : Int), .int .i64 ((n : Nat) : Int), .int .u32 3]) 28 := (f42.no k13)
      have f95 : Bk w13 dd (u8s (List.replicate (32 * q) 0)) 5 := (f45.no k13)
      have f96 : Bk w13 pp ([.int .i64 ((q + 1 : Nat) : Int), .int .i64 ((n : Nat) : Int), .int .u32 3, .string ({ data := #[109] }), .slice none (0) (0)]) 70 := (f_pp_12.no k13)
      have o97 : Gt w13 := (o46.no k13)
      have o98 : Tb w13 b3_0 := (o47.no k13)
      have ob99 := (sw48.keptNo k13)
      refine Nx_lo rfl (lo_alloc (L := [.int .i64 0, .int .i64 0, .int .u32 0, .string ByteArray.empty, .slice none (0) (0)]) (by kernel_rfl)) rfl ?_
      rintro _ w17 ⟨yb1, rfl, N17⟩
      have k17 := N17.kp
      have kk17 := kk13.then_ k17
      have ne_yb1_px : yb1 ≠ px := Nat.ne_of_gt (Nat.lt_of_lt_of_le f92.lt N17.le)
      have ne_yb1_po : yb1 ≠ po := Nat.ne_of_gt (Nat.lt_of_lt_of_le f93.lt N17.le)
      have ne_yb1_pb : yb1 ≠ pb := Nat.ne_of_gt (Nat.lt_of_lt_of_le f94.lt N17.le)
      have ne_yb1_dd : yb1 ≠ dd := Nat.ne_of_gt (Nat.lt_of_lt_of_le f95.lt N17.le)
      have ne_yb1_pp : yb1 ≠ pp := Nat.ne_of_gt (Nat.lt_of_lt_of_le f96.lt N17.le)
      have ne_yb1_0 : yb1 ≠ 0 := Nat.ne_of_gt (Nat.lt_of_lt_of_le o97.lt N17.le)
      have ne_yb1_b3_0 : yb1 ≠ b3_0 := Nat.ne_of_gt (Nat.lt_of_lt_of_le o98.lt N17.le)
      have f_yb1_17 : Bk w17 yb1 ([.int .i64 0, .int .i64 0, .int .u32 0, .string ByteArray.empty, .slice none (0) (0)]) 70 := N17.bk
      have f100 : Bk w17 px (u8s X) 85 := (f92.no k17)
      have f101 : Bk w17 po (u8s O) 86 := (f93.no k17)
      have f102 : Bk w17 pb ([.int .i64 ((q + 1 : Nat) : Int), .int .i64 ((n : Nat) : Int), .int .u32 3]) 28 := (f94.no k17)
      have f103 : Bk w17 dd (u8s (List.replicate (32 * q) 0)) 5 := (f95.no k17)
      have f104 : Bk w17 pp ([.int .i64 ((q + 1 : Nat) : Int), .int .i64 ((n : Nat) : Int), .int .u32 3, .string ({ data := #[109] }), .slice none (0) (0)]) 70 := (f96.no k17)
      have o105 : Gt w17 := (o97.no k17)
      have o106 : Tb w17 b3_0 := (o98.no k17)
      have ob107 := (ob52.keptNo k17)
      refine ⟨⟨kk17, f100, f101, f102, f103, f104, o105, o106, ob107⟩, ?_⟩
      have ob108 := (od_s0.keptNo k17)
      have k_s0 := key_at hK_x e_s0 (ptK_get (show 0 < n by omega)); have lx_s0 : s0.X.length = 32 := by rw [k_s0.2.2, ptX_length]; exact bX.1
      have lm109 := ob107.top
      have ob111 := (ob99.keptNo k17)
      have lm110 := ob111.top
      have lm112 := ob108.top
      refine D_one 4 (by kernel_rfl) (Nx_lo rfl (lo_call (by kernel_rfl) rfl (submit_ok q n 3 ({ data := #[109] }) none ([] : List Shr) 0 s0.ix s0.gen s0.A s0.X s0.c _ (Ss.nil _ none) ob108.bs ob108.le.2 ⟨⟨⟨⟨by omega, by omega, by omega⟩, by decide, Nat.zero_le _, Nat.zero_le _⟩, Came.nil _ _⟩, ⟨by simp, k_s0.2.1, ⟨by simp [ixs], by rw [k_s0.1]; omega, by rw [k_s0.1]; omega, lx_s0⟩⟩, ok_s0.ix, by decide⟩)) rfl ?_)
      rintro _ w18 ⟨A_y1, c_y1, L_y1, rfl, Q18, hK_y1, k18⟩
      have kk18 := kk17.then_ k18
      have z113 : w17.heap.size ≤ w18.heap.size := k18.size
      have hl_y1 : L_y1.length = 1 := by have := congrArg List.length hK_y1; simpa using this
      have f114 : Bk w18 px (u8s X) 85 := (f100.no k18)
      have f115 : Bk w18 po (u8s O) 86 := (f101.no k18)
      have f116 : Bk w18 pb ([.int .i64 ((q + 1 : Nat) : Int), .int .i64 ((n : Nat) : Int), .int .u32 3]) 28 := (f102.no k18)
      have f117 : Bk w18 dd (u8s (List.replicate (32 * q) 0)) 5 := (f103.no k18)
      have f118 : Bk w18 pp ([.int .i64 ((q + 1 : Nat) : Int), .int .i64 ((n : Nat) : Int), .int .u32 3, .string ({ data := #[109] }), .slice none (0) (0)]) 70 := (f104.no k18)
      have o119 : Gt w18 := (o105.no k18)
      have o120 : Tb w18 b3_0 := (o106.no k18)
      have ob121 := (ob107.keptNo k18)
      refine ⟨⟨kk18, f114, f115, f116, f117, f118, o119, o120, ob121⟩, ?_⟩
      refine D_take 5 rfl (by kernel_rfl) (by kernel_rfl) (by kernel_rfl) (fun _ _ _ h => h) rfl (fun W hS => pu_move rfl) ?_
      refine D_take 6 rfl (by kernel_rfl) (by kernel_rfl) (by kernel_rfl) (fun _ _ _ h => h) rfl (fun W hS => pu_extract rfl rfl) ?_
      refine D_take 7 rfl (by kernel_rfl) (by kernel_rfl) (by kernel_rfl) (fun _ _ _ h => h) rfl (fun W hS => pu_extract rfl rfl) ?_
      refine D_take 8 rfl (by kernel_rfl) (by kernel_rfl) (by kernel_rfl) (fun _ _ _ h => h) rfl (fun W hS => pu_extract rfl rfl) ?_
      have f122 : Bk w18 yb1 ([.int .i64 0, .int .i64 0, .int .u32 0, .string ByteArray.empty, .slice none (0) (0)]) 70 := (f_yb1_17.no k18)
      refine D_one 10 (by kernel_rfl) (Nx_lo0 rfl (lo_storeRow (C := [.int .i64 ((q + 1 : Nat) : Int), .int .i64 ((n : Nat) : Int), .int .u32 3, .string ({ data := #[109] }), .slice A_y1 ((L_y1).length) (c_y1)]) f122 (by kernel_rfl) rfl rfl (by intro u hu; simp at hu; rcases hu with rfl | rfl | rfl | rfl | rfl <;> rfl) rfl) ?_)
      rintro _ w19 kf19
      obtain ⟨k19, f_yb1_19⟩ := kf19
      replace f_yb1_19 : Bk w19 yb1 ([.int .i64 ((q + 1 : Nat) : Int), .int .i64 ((n : Nat) : Int), .int .u32 3, .string ({ data := #[109] }), .slice A_y1 ((L_y1).length) (c_y1)]) 70 := f_yb1_19
      have kk19 := kk18.trans k19 (fun i hi => .inr (hi ▸ (Nat.le_trans kk13.size N17.le)))
      have f123 : Bk w19 px (u8s X) 85 := (f114.on k19 (Ne.symm ne_yb1_px))
      have f124 : Bk w19 po (u8s O) 86 := (f115.on k19 (Ne.symm ne_yb1_po))
      have f125 : Bk w19 pb ([.int .i64 ((q + 1 : Nat) : Int), .int .i64 ((n : Nat) : Int), .int .u32 3]) 28 := (f116.on k19 (Ne.symm ne_yb1_pb))
      have f126 : Bk w19 dd (u8s (List.replicate (32 * q) 0)) 5 := (f117.on k19 (Ne.symm ne_yb1_dd))
      have f127 : Bk w19 pp ([.int .i64 ((q + 1 : Nat) : Int), .int .i64 ((n : Nat) : Int), .int .u32 3, .string ({ data := #[109] }), .slice none (0) (0)]) 70 := (f118.on k19 (Ne.symm ne_yb1_pp))
      have o128 : Gt w19 := (o119.on k19 (Ne.symm ne_yb1_0))
      have o129 : Tb w19 b3_0 := (o120.on k19 (Ne.symm ne_yb1_b3_0))
      have ob130 := (ob121.onN k19 ob52 N17.le)
      refine ⟨⟨kk19, f123, f124, f125, f126, f127, o128, o129, ob130⟩, ?_⟩
      refine D_take 11 rfl (by kernel_rfl) (by kernel_rfl) (by kernel_rfl) (fun _ _ _ h => h) rfl (fun W hS => pu_assign rfl) ?_
      refine D_take 12 rfl (by kernel_rfl) (by kernel_rfl) (by kernel_rfl) (fun _ _ _ h => h) rfl (fun W hS => pu_assign rfl) ?_
      refine D_done (by kernel_rfl) ?_
      have ob131 := (Q18.on k19 (by have := f_yb1_17.lt; omega))
      refine X_cut hK_ [(2, .int .u32 ((ge : Nat) : Int)), (6, .bool false), (7, .pointer (some ⟨pb, 0, none⟩)), (9, .slice A_x ((L_x).length) (c_x)), (13, .pointer (some ⟨yb1, 0, none⟩)), (15, .nilIface)] (Sub.cons rfl (Sub.cons rfl (Sub.cons rfl (Sub.cons rfl (Sub.cons rfl (Sub.cons rfl (Sub.nil _))))))) ⟨yb1, A_y1, c_y1, L_y1, rfl, (came_one hK_y1 k_s0.2.1 (by rw [k_s0.1]; omega) (by rw [k_s0.1]; omega) lx_s0), (by rw [ixs_one hK_y1, k_s0.1]), hl_y1, kk19, f123, f124, f125, f126, f127, f_yb1_19, ⟨ob130, (Nat.le_trans (Nat.le_trans (Nat.le_trans (Nat.le_trans (Nat.le_trans (Nat.le_trans (Nat.le_trans z27 k10.size) k11.size) k12.size) k13.size) k17.size) k18.size) k19.size)⟩, ⟨((ob131).lowb (Nat.le_trans (Nat.le_trans z49 k13.size) k17.size)).lowd (Nat.le_trans (Nat.le_trans z49 k13.size) k17.size), (Nat.le_trans (Nat.le_trans (Nat.le_trans (Nat.le_trans z49 k13.size) k17.size) k18.size) k19.size)⟩, o128, o129⟩
  · rintro _ w20 ⟨yb, A_y, c_y, L_y, rfl, hcy, hiy, hl_y, kk20, f_px_20, f_po_20, f_pb_20, f_dd_20, f_pp_20, f_yb_20, x_20, y_20, G_20, T_b3_0_20⟩
    refine C_seq (fun K132 hK132 => ?_)
    refine C_region ?_
    refine R_pu (pu_move rfl) rfl ?_
    obtain ⟨s1, e_s1⟩ : ∃ q_, (L_x)[1]? = some q_ := ⟨_, List.getElem?_eq_getElem (by first | omega | (simp; done) | (simp; omega))⟩
    have ok_s1 := x_20.1.ss.get e_s1
    have od_s1 := x_20.1.od e_s1
    have bi_s1 : s1.ix < 256 := ok_s1.ix
    refine R_pu (pu_indexAddrH x_20.1.ss Tryd.underlying29 (by kernel_rfl) rfl rfl rfl rfl e_s1) rfl ?_
    refine R_pu (pu_loadHr x_20.1.ss e_s1 (by kernel_rfl) (by kernel_rfl) rfl) rfl ?_
    refine R_lo (lo_alloc (L := [.int .u8 0, .int .u32 0, .slice none (0) (0)]) (by kernel_rfl)) rfl ?_
    rintro _ w21 ⟨ob, rfl, N21⟩
    have k21 := N21.kp
    have kk21 := kk20.then_ k21
    have ne_ob_px : ob ≠ px := Nat.ne_of_gt (Nat.lt_of_lt_of_le f_px_20.lt N21.le)
    have ne_ob_po : ob ≠ po := Nat.ne_of_gt (Nat.lt_of_lt_of_le f_po_20.lt N21.le)
    have ne_ob_pb : ob ≠ pb := Nat.ne_of_gt (Nat.lt_of_lt_of_le f_pb_20.lt N21.le)
    have ne_ob_dd : ob ≠ dd := Nat.ne_of_gt (Nat.lt_of_lt_of_le f_dd_20.lt N21.le)
    have ne_ob_pp : ob ≠ pp := Nat.ne_of_gt (Nat.lt_of_lt_of_le f_pp_20.lt N21.le)
    have ne_ob_yb : ob ≠ yb := Nat.ne_of_gt (Nat.lt_of_lt_of_le f_yb_20.lt N21.le)
    have ne_ob_0 : ob ≠ 0 := Nat.ne_of_gt (Nat.lt_of_lt_of_le G_20.lt N21.le)
    have ne_ob_b3_0 : ob ≠ b3_0 := Nat.ne_of_gt (Nat.lt_of_lt_of_le T_b3_0_20.lt N21.le)
    have f_ob_21 : Bk w21 ob ([.int .u8 0, .int .u32 0, .slice none (0) (0)]) 50 := N21.bk
    refine R_lo0 (lo_storeRow (C := [.int .u8 ((s1.ix : Nat) : Int), .int .u32 ((s1.gen : Nat) : Int), .slice s1.A ((s1.X).length) (s1.c)]) f_ob_21 (by kernel_rfl) rfl rfl (by intro u hu; simp at hu; rcases hu with rfl | rfl | rfl <;> rfl) rfl) ?_
    rintro _ w22 kf22
    obtain ⟨k22, f_ob_22⟩ := kf22
    replace f_ob_22 : Bk w22 ob ([.int .u8 ((s1.ix : Nat) : Int), .int .u32 ((s1.gen : Nat) : Int), .slice s1.A ((s1.X).length) (s1.c)]) 50 := f_ob_22
    have kk22 := kk21.trans k22 (fun i hi => .inr (hi ▸ (Nat.le_trans kk20.size N21.le)))
    refine R_nil ?_
    refine X_then hK132 ?_
    refine C_seq (fun K133 hK133 => ?_)
    refine C_region ?_
    refine R_pu (pu_move rfl) rfl ?_
    refine R_pu (pu_fieldAddr (off := 1) (o' := 1) (by kernel_rfl) rfl rfl) rfl ?_
    refine R_lo0 (lo_store f_ob_22 (by kernel_rfl) rfl rfl rfl (show 1 < 3 by decide)) ?_
    rintro _ w23 kf23
    obtain ⟨k23, f_ob_23⟩ := kf23
    replace f_ob_23 : Bk w23 ob ([.int .u8 ((s1.ix : Nat) : Int), .int .u32 ((ge : Nat) : Int), .slice s1.A ((s1.X).length) (s1.c)]) 50 := f_ob_23
    have kk23 := kk22.trans k23 (fun i hi => .inr (hi ▸ (Nat.le_trans kk20.size N21.le)))
    refine R_nil ?_
    refine X_then hK133 ?_
    refine C_seq (fun K134 hK134 => ?_)
    refine C_region ?_
    by_cases hg3 : ge = 3
    · have f135 : Bk w23 yb ([.int .i64 ((q + 1 : Nat) : Int), .int .i64 ((n : Nat) : Int), .int .u32 3, .string ({ data := #[109] }), .slice A_y ((L_y).length) (c_y)]) 70 := (((f_yb_20.no k21).on k22 (Ne.symm ne_ob_yb)).on k23 (Ne.symm ne_ob_yb))
      refine R_pu (pu_loadRow (len := 5) f135 (by kernel_rfl) (by kernel_rfl) rfl rfl) rfl ?_
      refine R_pu (pu_loadRow (len := 3) f_ob_23 (by kernel_rfl) (by kernel_rfl) rfl rfl) rfl ?_
      have ob136 := (((y_20.1.keptNo k21).onN k22 y_20.1 N21.le).onN k23 y_20.1 N21.le)
      have ob137 := (((od_s1.keptNo k21).onN k22 od_s1 N21.le).onN k23 od_s1 N21.le)
      have k_s1 := key_at hK_x e_s1 (ptK_get (show 1 < n by omega)); have lx_s1 : s1.X.length = 32 := by rw [k_s1.2.2, ptX_length]; exact bX.1
      have f138 : Bk w23 px (u8s X) 85 := (((f_px_20.no k21).on k22 (Ne.symm ne_ob_px)).on k23 (Ne.symm ne_ob_px))
      have f139 : Bk w23 po (u8s O) 86 := (((f_po_20.no k21).on k22 (Ne.symm ne_ob_po)).on k23 (Ne.symm ne_ob_po))
      have f140 : Bk w23 pb ([.int .i64 ((q + 1 : Nat) : Int), .int .i64 ((n : Nat) : Int), .int .u32 3]) 28 := (((f_pb_20.no k21).on k22 (Ne.symm ne_ob_pb)).on k23 (Ne.symm ne_ob_pb))
      have f141 : Bk w23 dd (u8s (List.replicate (32 * q) 0)) 5 := (((f_dd_20.no k21).on k22 (Ne.symm ne_ob_dd)).on k23 (Ne.symm ne_ob_dd))
      have f142 : Bk w23 pp ([.int .i64 ((q + 1 : Nat) : Int), .int .i64 ((n : Nat) : Int), .int .u32 3, .string ({ data := #[109] }), .slice none (0) (0)]) 70 := (((f_pp_20.no k21).on k22 (Ne.symm ne_ob_pp)).on k23 (Ne.symm ne_ob_pp))
      have o143 : Gt w23 := (((G_20.no k21).on k22 (Ne.symm ne_ob_0)).on k23 (Ne.symm ne_ob_0))
      have o144 : Tb w23 b3_0 := (((T_b3_0_20.no k21).on k22 (Ne.symm ne_ob_b3_0)).on k23 (Ne.symm ne_ob_b3_0))
      have ob146 := (((x_20.1.keptNo k21).onN k22 x_20.1 N21.le).onN k23 x_20.1 N21.le)
      have lm145 := ob146.top
      have lm147 := ob136.top
      have lm148 := ob137.top
      refine R_lo (lo_call (by kernel_rfl) rfl (submit_ok q n 3 ({ data := #[109] }) A_y L_y c_y s1.ix ge s1.A s1.X s1.c _ ob136.ss ob137.bs ob137.le.2 ⟨⟨⟨⟨by omega, by omega, by omega⟩, by decide, by omega, by have := ob136.le; omega⟩, hcy⟩, ⟨by omega, hg3, ⟨(by rw [hiy]; simp only [List.mem_singleton]; rw [k_s1.1]; omega), by rw [k_s1.1]; omega, by rw [k_s1.1]; omega, lx_s1⟩⟩, ok_s1.ix, by decide⟩)) rfl ?_
      rintro _ w24 ⟨A_z, c_z, L_z, rfl, Q24, hK_z, k24⟩
      have kk24 := kk23.then_ k24
      have z149 : w23.heap.size ≤ w24.heap.size := k24.size
      have hl_z : L_z.length = L_y.length + 1 := by have := congrArg List.length hK_z; simpa using this
      refine R_pu (pu_move rfl) rfl ?_
      refine R_pu (pu_extract rfl rfl) rfl ?_
      refine R_pu (pu_extract rfl rfl) rfl ?_
      refine R_pu (pu_extract rfl rfl) rfl ?_
      have f150 : Bk w24 px (u8s X) 85 := (f138.no k24)
      have f151 : Bk w24 po (u8s O) 86 := (f139.no k24)
      have f152 : Bk w24 pb ([.int .i64 ((q + 1 : Nat) : Int), .int .i64 ((n : Nat) : Int), .int .u32 3]) 28 := (f140.no k24)
      have f153 : Bk w24 dd (u8s (List.replicate (32 * q) 0)) 5 := (f141.no k24)
      have f154 : Bk w24 pp ([.int .i64 ((q + 1 : Nat) : Int), .int .i64 ((n : Nat) : Int), .int .u32 3, .string ({ data := #[109] }), .slice none (0) (0)]) 70 := (f142.no k24)
      have f155 : Bk w24 yb ([.int .i64 ((q + 1 : Nat) : Int), .int .i64 ((n : Nat) : Int), .int .u32 3, .string ({ data := #[109] }), .slice A_y ((L_y).length) (c_y)]) 70 := (f135.no k24)
      have f156 : Bk w24 ob ([.int .u8 ((s1.ix : Nat) : Int), .int .u32 ((ge : Nat) : Int), .slice s1.A ((s1.X).length) (s1.c)]) 50 := (f_ob_23.no k24)
      have o157 : Gt w24 := (o143.no k24)
      have o158 : Tb w24 b3_0 := (o144.no k24)
      have ob159 := (ob146.keptNo k24)
      have ob160 := (ob136.keptNo k24)
      have ob161 := (ob137.keptNo k24)
      refine R_lo (lo_alloc (L := [.int .i64 0, .int .i64 0, .int .u32 0, .string ByteArray.empty, .slice none (0) (0)]) (by kernel_rfl)) rfl ?_
      rintro _ w25 ⟨zb, rfl, N25⟩
      have k25 := N25.kp
      have kk25 := kk24.then_ k25
      have ne_zb_px : zb ≠ px := Nat.ne_of_gt (Nat.lt_of_lt_of_le f150.lt N25.le)
      have ne_zb_po : zb ≠ po := Nat.ne_of_gt (Nat.lt_of_lt_of_le f151.lt N25.le)
      have ne_zb_pb : zb ≠ pb := Nat.ne_of_gt (Nat.lt_of_lt_of_le f152.lt N25.le)
      have ne_zb_dd : zb ≠ dd := Nat.ne_of_gt (Nat.lt_of_lt_of_le f153.lt N25.le)
      have ne_zb_pp : zb ≠ pp := Nat.ne_of_gt (Nat.lt_of_lt_of_le f154.lt N25.le)
      have ne_zb_yb : zb ≠ yb := Nat.ne_of_gt (Nat.lt_of_lt_of_le f155.lt N25.le)
      have ne_zb_ob : zb ≠ ob := Nat.ne_of_gt (Nat.lt_of_lt_of_le f156.lt N25.le)
      have ne_zb_0 : zb ≠ 0 := Nat.ne_of_gt (Nat.lt_of_lt_of_le o157.lt N25.le)
      have ne_zb_b3_0 : zb ≠ b3_0 := Nat.ne_of_gt (Nat.lt_of_lt_of_le o158.lt N25.le)
      have f_zb_25 : Bk w25 zb ([.int .i64 0, .int .i64 0, .int .u32 0, .string ByteArray.empty, .slice none (0) (0)]) 70 := N25.bk
      refine R_lo0 (lo_storeRow (C := [.int .i64 ((q + 1 : Nat) : Int), .int .i64 ((n : Nat) : Int), .int .u32 3, .string ({ data := #[109] }), .slice A_z ((L_z).length) (c_z)]) f_zb_25 (by kernel_rfl) rfl rfl (by intro u hu; simp at hu; rcases hu with rfl | rfl | rfl | rfl | rfl <;> rfl) rfl) ?_
      rintro _ w26 kf26
      obtain ⟨k26, f_zb_26⟩ := kf26
      replace f_zb_26 : Bk w26 zb ([.int .i64 ((q + 1 : Nat) : Int), .int .i64 ((n : Nat) : Int), .int .u32 3, .string ({ data := #[109] }), .slice A_z ((L_z).length) (c_z)]) 70 := f_zb_26
      have kk26 := kk25.trans k26 (fun i hi => .inr (hi ▸ (Nat.le_trans kk24.size N25.le)))
      refine R_pu (pu_assign rfl) rfl ?_
      refine R_pu (pu_assign rfl) rfl ?_
      refine R_nil ?_
      refine X_then hK134 ?_
      refine C_cut (fun l_ wr => (l_ = [(2, .int .u32 ((ge : Nat) : Int)), (6, .bool false), (7, .pointer (some ⟨pb, 0, none⟩)), (9, .slice A_x ((L_x).length) (c_x)), (13, .pointer (some ⟨yb, 0, none⟩)), (15, .nilIface), (16, .pointer (some ⟨ob, 0, none⟩)), (19, .nilIface), (22, .iface 91 (.int .i64 15))]) ∧ (Kp No w wr) ∧ (Bk wr px (u8s X) 85) ∧ (Bk wr po (u8s O) 86) ∧ (Bk wr pb ([.int .i64 ((q + 1 : Nat) : Int), .int .i64 ((n : Nat) : Int), .int .u32 3]) 28) ∧ (Bk wr dd (u8s (List.replicate (32 * q) 0)) 5) ∧ (Bk wr pp ([.int .i64 ((q + 1 : Nat) : Int), .int .i64 ((n : Nat) : Int), .int .u32 3, .string ({ data := #[109] }), .slice none (0) (0)]) 70) ∧ (Bk wr yb ([.int .i64 ((q + 1 : Nat) : Int), .int .i64 ((n : Nat) : Int), .int .u32 3, .string ({ data := #[109] }), .slice A_y ((L_y).length) (c_y)]) 70) ∧ (Bk wr ob ([.int .u8 ((s1.ix : Nat) : Int), .int .u32 ((ge : Nat) : Int), .slice s1.A ((s1.X).length) (s1.c)]) 50) ∧ (Bk wr zb ([.int .i64 ((q + 1 : Nat) : Int), .int .i64 ((n : Nat) : Int), .int .u32 3, .string ({ data := #[109] }), .slice A_z ((L_z).length) (c_z)]) 70) ∧ (Sw 50 w8.heap.size wr w8.heap.size (.slice A_x ((L_x).length) (c_x)) (L_x) ∧ w8.heap.size ≤ (wr).heap.size) ∧ (Sw 50 w12.heap.size wr w12.heap.size (.slice A_y ((L_y).length) (c_y)) (L_y) ∧ w12.heap.size ≤ (wr).heap.size) ∧ (Od wr w8.heap.size (.slice s1.A ((s1.X).length) (s1.c)) (s1.X) ∧ True) ∧ (Sw 50 w23.heap.size wr w23.heap.size (.slice A_z ((L_z).length) (c_z)) (L_z) ∧ w23.heap.size ≤ (wr).heap.size) ∧ (Gt wr) ∧ (Tb wr b3_0)) (fun K_ hK_ => ?_) ?_
      · have f162 : Bk w26 px (u8s X) 85 := ((f150.no k25).on k26 (Ne.symm ne_zb_px))
        have f163 : Bk w26 po (u8s O) 86 := ((f151.no k25).on k26 (Ne.symm ne_zb_po))
        have f164 : Bk w26 pb ([.int .i64 ((q + 1 : Nat) : Int), .int .i64 ((n : Nat) : Int), .int .u32 3]) 28 := ((f152.no k25).on k26 (Ne.symm ne_zb_pb))
        have f165 : Bk w26 dd (u8s (List.replicate (32 * q) 0)) 5 := ((f153.no k25).on k26 (Ne.symm ne_zb_dd))
        have f166 : Bk w26 pp ([.int .i64 ((q + 1 : Nat) : Int), .int .i64 ((n : Nat) : Int), .int .u32 3, .string ({ data := #[109] }), .slice none (0) (0)]) 70 := ((f154.no k25).on k26 (Ne.symm ne_zb_pp))
        have f167 : Bk w26 yb ([.int .i64 ((q + 1 : Nat) : Int), .int .i64 ((n : Nat) : Int), .int .u32 3, .string ({ data := #[109] }), .slice A_y ((L_y).length) (c_y)]) 70 := ((f155.no k25).on k26 (Ne.symm ne_zb_yb))
        have f168 : Bk w26 ob ([.int .u8 ((s1.ix : Nat) : Int), .int .u32 ((ge : Nat) : Int), .slice s1.A ((s1.X).length) (s1.c)]) 50 := ((f156.no k25).on k26 (Ne.symm ne_zb_ob))
        have o169 : Gt w26 := ((o157.no k25).on k26 (Ne.symm ne_zb_0))
        have o170 : Tb w26 b3_0 := ((o158.no k25).on k26 (Ne.symm ne_zb_b3_0))
        have ob171 := ((ob159.keptNo k25).onN k26 ob159 N25.le)
        refine D_begin (fun W => Kp No w W ∧ Bk W px (u8s X) 85 ∧ Bk W po (u8s O) 86 ∧ Bk W pb ([.int .i64 ((q + 1 : Nat) : Int), .int .i64 ((n : Nat) : Int), .int .u32 3]) 28 ∧ Bk W dd (u8s (List.replicate (32 * q) 0)) 5 ∧ Bk W pp ([.int .i64 ((q + 1 : Nat) : Int), .int .i64 ((n : Nat) : Int), .int .u32 3, .string ({ data := #[109] }), .slice none (0) (0)]) 70 ∧ Bk W yb ([.int .i64 ((q + 1 : Nat) : Int), .int .i64 ((n : Nat) : Int), .int .u32 3, .string ({ data := #[109] }), .slice A_y ((L_y).length) (c_y)]) 70 ∧ Bk W ob ([.int .u8 ((s1.ix : Nat) : Int), .int .u32 ((ge : Nat) : Int), .slice s1.A ((s1.X).length) (s1.c)]) 50 ∧ Bk W zb ([.int .i64 ((q + 1 : Nat) : Int), .int .i64 ((n : Nat) : Int), .int .u32 3, .string ({ data := #[109] }), .slice A_z ((L_z).length) (c_z)]) 70 ∧ Gt W ∧ Tb W b3_0 ∧ Sw 50 w8.heap.size W w8.heap.size (.slice A_x ((L_x).length) (c_x)) (L_x)) 13 rfl (by kernel_rfl) ⟨kk26.drew, f162.draw, f163.draw, f164.draw, f165.draw, f166.draw, f167.draw, f168.draw, f_zb_26.draw, o169.draw, o170.draw, ob171.draw⟩ ?_
        intro w27 k27 _
        have kk27 := kk26.then_ k27
        refine D_take 0 rfl (by kernel_rfl) (by kernel_rfl) (by kernel_rfl) (fun _ _ _ h => h) rfl (fun W hS => pu_loadRow (len := 5) hS.2.2.2.2.2.2.1 (by kernel_rfl) (by kernel_rfl) rfl rfl) ?_
        refine D_take 1 rfl (by kernel_rfl) (by kernel_rfl) (by kernel_rfl) (fun _ _ _ h => h) rfl (fun W hS => pu_move rfl) ?_
        have ob172 := (ob171.keptNo k27)
        refine D_take 2 rfl (by kernel_rfl) (by kernel_rfl) (by kernel_rfl) (fun _ _ _ h => h) rfl (fun W hS => pu_indexAddrH hS.2.2.2.2.2.2.2.2.2.2.2.ss Tryd.underlying29 (by kernel_rfl) rfl rfl rfl rfl e_s1) ?_
        refine D_take 3 rfl (by kernel_rfl) (by kernel_rfl) (by kernel_rfl) (fun _ _ _ h => h) rfl (fun W hS => pu_loadHr hS.2.2.2.2.2.2.2.2.2.2.2.ss e_s1 (by kernel_rfl) (by kernel_rfl) rfl) ?_
        refine D_two 4 9 (by kernel_rfl) ?_ ?_
        · have ob173 := (((ob160.keptNo k25).onN k26 ob160 N25.le).keptNo k27)
          have ob174 := (((ob161.keptNo k25).onN k26 ob161 N25.le).keptNo k27)
          refine Nx_lo rfl (lo_call (by kernel_rfl) rfl (submit_state q n 3 ({ data := #[109] }) A_y L_y c_y ({ data := #[110] }) s1.ix s1.gen s1.A s1.X s1.c _ ob173.ss ⟨⟨⟨⟨by omega, by omega, by omega⟩, by decide, by omega, by have := ob173.le; omega⟩, hcy⟩, .inl (by decide), by decide⟩)) rfl ?_
          rintro _ w28 ⟨rfl, k28⟩
          have kk28 := kk27.then_ k28
          have f175 : Bk w28 px (u8s X) 85 := ((f162.no k27).no k28)
          have f176 : Bk w28 po (u8s O) 86 := ((f163.no k27).no k28)
          have f177 : Bk w28 pb ([.int .i64 ((q + 1 : Nat) : Int), .int .i64 ((n : Nat) : Int), .int .u32 3]) 28 := ((f164.no k27).no k28)
          have f178 : Bk w28 dd (u8s (List.replicate (32 * q) 0)) 5 := ((f165.no k27).no k28)
          have f179 : Bk w28 pp ([.int .i64 ((q + 1 : Nat) : Int), .int .i64 ((n : Nat) : Int), .int .u32 3, .string ({ data := #[109] }), .slice none (0) (0)]) 70 := ((f166.no k27).no k28)
          have f180 : Bk w28 yb ([.int .i64 ((q + 1 : Nat) : Int), .int .i64 ((n : Nat) : Int), .int .u32 3, .string ({ data := #[109] }), .slice A_y ((L_y).length) (c_y)]) 70 := ((f167.no k27).no k28)
          have f181 : Bk w28 ob ([.int .u8 ((s1.ix : Nat) : Int), .int .u32 ((ge : Nat) : Int), .slice s1.A ((s1.X).length) (s1.c)]) 50 := ((f168.no k27).no k28)
          have f182 : Bk w28 zb ([.int .i64 ((q + 1 : Nat) : Int), .int .i64 ((n : Nat) : Int), .int .u32 3, .string ({ data := #[109] }), .slice A_z ((L_z).length) (c_z)]) 70 := ((f_zb_26.no k27).no k28)
          have o183 : Gt w28 := ((o169.no k27).no k28)
          have o184 : Tb w28 b3_0 := ((o170.no k27).no k28)
          have ob185 := (ob172.keptNo k28)
          refine ⟨⟨kk28, f175, f176, f177, f178, f179, f180, f181, f182, o183, o184, ob185⟩, ?_⟩
          refine D_take 5 rfl (by kernel_rfl) (by kernel_rfl) (by kernel_rfl) (fun _ _ _ h => h) rfl (fun W hS => pu_move rfl) ?_
          refine D_take 6 rfl (by kernel_rfl) (by kernel_rfl) (by kernel_rfl) (fun _ _ _ h => h) rfl (fun W hS => pu_extract rfl rfl) ?_
          refine D_take 7 rfl (by kernel_rfl) (by kernel_rfl) (by kernel_rfl) (fun _ _ _ h => h) rfl (fun W hS => pu_extract rfl rfl) ?_
          refine D_take 8 rfl (by kernel_rfl) (by kernel_rfl) (by kernel_rfl) (fun _ _ _ h => h) rfl (fun W hS => pu_extract rfl rfl) ?_
          have ob186 := (ob173.keptNo k28)
          have ob187 := (ob174.keptNo k28)
          have ob188 := ((((Q24.keptNo k25).onN k26 Q24 N25.le).keptNo k27).keptNo k28)
          refine D_one 9 (by kernel_rfl) (Nx_lo rfl (lo_alloc (L := [.int .i64 0, .int .i64 0, .int .u32 0, .string ByteArray.empty, .slice none (0) (0)]) (by kernel_rfl)) rfl ?_)
          rintro _ w29 ⟨vb, rfl, N29⟩
          have k29 := N29.kp
          have kk29 := kk28.then_ k29
          have ne_vb_px : vb ≠ px := Nat.ne_of_gt (Nat.lt_of_lt_of_le f175.lt N29.le)
          have ne_vb_po : vb ≠ po := Nat.ne_of_gt (Nat.lt_of_lt_of_le f176.lt N29.le)
          have ne_vb_pb : vb ≠ pb := Nat.ne_of_gt (Nat.lt_of_lt_of_le f177.lt N29.le)
          have ne_vb_dd : vb ≠ dd := Nat.ne_of_gt (Nat.lt_of_lt_of_le f178.lt N29.le)
          have ne_vb_pp : vb ≠ pp := Nat.ne_of_gt (Nat.lt_of_lt_of_le f179.lt N29.le)
          have ne_vb_yb : vb ≠ yb := Nat.ne_of_gt (Nat.lt_of_lt_of_le f180.lt N29.le)
          have ne_vb_ob : vb ≠ ob := Nat.ne_of_gt (Nat.lt_of_lt_of_le f181.lt N29.le)
          have ne_vb_zb : vb ≠ zb := Nat.ne_of_gt (Nat.lt_of_lt_of_le f182.lt N29.le)
          have ne_vb_0 : vb ≠ 0 := Nat.ne_of_gt (Nat.lt_of_lt_of_le o183.lt N29.le)
          have ne_vb_b3_0 : vb ≠ b3_0 := Nat.ne_of_gt (Nat.lt_of_lt_of_le o184.lt N29.le)
          have f_vb_29 : Bk w29 vb ([.int .i64 0, .int .i64 0, .int .u32 0, .string ByteArray.empty, .slice none (0) (0)]) 70 := N29.bk
          have f189 : Bk w29 px (u8s X) 85 := (f175.no k29)
          have f190 : Bk w29 po (u8s O) 86 := (f176.no k29)
          have f191 : Bk w29 pb ([.int .i64 ((q + 1 : Nat) : Int), .int .i64 ((n : Nat) : Int), .int .u32 3]) 28 := (f177.no k29)
          have f192 : Bk w29 dd (u8s (List.replicate (32 * q) 0)) 5 := (f178.no k29)
          have f193 : Bk w29 pp ([.int .i64 ((q + 1 : Nat) : Int), .int .i64 ((n : Nat) : Int), .int .u32 3, .string ({ data := #[109] }), .slice none (0) (0)]) 70 := (f179.no k29)
          have f194 : Bk w29 yb ([.int .i64 ((q + 1 : Nat) : Int), .int .i64 ((n : Nat) : Int), .int .u32 3, .string ({ data := #[109] }), .slice A_y ((L_y).length) (c_y)]) 70 := (f180.no k29)
          have f195 : Bk w29 ob ([.int .u8 ((s1.ix : Nat) : Int), .int .u32 ((ge : Nat) : Int), .slice s1.A ((s1.X).length) (s1.c)]) 50 := (f181.no k29)
          have f196 : Bk w29 zb ([.int .i64 ((q + 1 : Nat) : Int), .int .i64 ((n : Nat) : Int), .int .u32 3, .string ({ data := #[109] }), .slice A_z ((L_z).length) (c_z)]) 70 := (f182.no k29)
          have o197 : Gt w29 := (o183.no k29)
          have o198 : Tb w29 b3_0 := (o184.no k29)
          have ob199 := (ob185.keptNo k29)
          refine ⟨⟨kk29, f189, f190, f191, f192, f193, f194, f195, f196, o197, o198, ob199⟩, ?_⟩
          refine D_one 10 (by kernel_rfl) (Nx_lo0 rfl (lo_storeRow (C := [.int .i64 0, .int .i64 0, .int .u32 0, .string ByteArray.empty, .slice none (0) (0)]) f_vb_29 (by kernel_rfl) rfl rfl (by intro u hu; simp at hu; rcases hu with rfl | rfl | rfl | rfl | rfl <;> rfl) rfl) ?_)
          rintro _ w30 kf30
          obtain ⟨k30, f_vb_30⟩ := kf30
          replace f_vb_30 : Bk w30 vb ([.int .i64 0, .int .i64 0, .int .u32 0, .string ByteArray.empty, .slice none (0) (0)]) 70 := f_vb_30
          have kk30 := kk29.trans k30 (fun i hi => .inr (hi ▸ (Nat.le_trans kk28.size N29.le)))
          have f200 : Bk w30 px (u8s X) 85 := (f189.on k30 (Ne.symm ne_vb_px))
          have f201 : Bk w30 po (u8s O) 86 := (f190.on k30 (Ne.symm ne_vb_po))
          have f202 : Bk w30 pb ([.int .i64 ((q + 1 : Nat) : Int), .int .i64 ((n : Nat) : Int), .int .u32 3]) 28 := (f191.on k30 (Ne.symm ne_vb_pb))
          have f203 : Bk w30 dd (u8s (List.replicate (32 * q) 0)) 5 := (f192.on k30 (Ne.symm ne_vb_dd))
          have f204 : Bk w30 pp ([.int .i64 ((q + 1 : Nat) : Int), .int .i64 ((n : Nat) : Int), .int .u32 3, .string ({ data := #[109] }), .slice none (0) (0)]) 70 := (f193.on k30 (Ne.symm ne_vb_pp))
          have f205 : Bk w30 yb ([.int .i64 ((q + 1 : Nat) : Int), .int .i64 ((n : Nat) : Int), .int .u32 3, .string ({ data := #[109] }), .slice A_y ((L_y).length) (c_y)]) 70 := (f194.on k30 (Ne.symm ne_vb_yb))
          have f206 : Bk w30 ob ([.int .u8 ((s1.ix : Nat) : Int), .int .u32 ((ge : Nat) : Int), .slice s1.A ((s1.X).length) (s1.c)]) 50 := (f195.on k30 (Ne.symm ne_vb_ob))
          have f207 : Bk w30 zb ([.int .i64 ((q + 1 : Nat) : Int), .int .i64 ((n : Nat) : Int), .int .u32 3, .string ({ data := #[109] }), .slice A_z ((L_z).length) (c_z)]) 70 := (f196.on k30 (Ne.symm ne_vb_zb))
          have o208 : Gt w30 := (o197.on k30 (Ne.symm ne_vb_0))
          have o209 : Tb w30 b3_0 := (o198.on k30 (Ne.symm ne_vb_b3_0))
          have ob210 := (ob199.onN k30 ob185 N29.le)
          refine ⟨⟨kk30, f200, f201, f202, f203, f204, f205, f206, f207, o208, o209, ob210⟩, ?_⟩
          refine D_take 11 rfl (by kernel_rfl) (by kernel_rfl) (by kernel_rfl) (fun _ _ _ h => h) rfl (fun W hS => pu_assign rfl) ?_
          refine D_take 12 rfl (by kernel_rfl) (by kernel_rfl) (by kernel_rfl) (fun _ _ _ h => h) rfl (fun W hS => pu_assign rfl) ?_
          refine D_done (by kernel_rfl) ?_
          have ob211 := ((ob186.keptNo k29).onN k30 ob186 N29.le)
          have ob212 := ((ob187.keptNo k29).onN k30 ob187 N29.le)
          have ob213 := ((ob188.keptNo k29).onN k30 ob188 N29.le)
          refine X_cut hK_ [(2, .int .u32 ((ge : Nat) : Int)), (6, .bool false), (7, .pointer (some ⟨pb, 0, none⟩)), (9, .slice A_x ((L_x).length) (c_x)), (13, .pointer (some ⟨yb, 0, none⟩)), (15, .nilIface), (16, .pointer (some ⟨ob, 0, none⟩)), (19, .nilIface), (22, .iface 91 (.int .i64 15))] (Sub.cons rfl (Sub.cons rfl (Sub.cons rfl (Sub.cons rfl (Sub.cons rfl (Sub.cons rfl (Sub.cons rfl (Sub.cons rfl (Sub.cons rfl (Sub.nil _)))))))))) ⟨rfl, kk30, f200, f201, f202, f203, f204, f205, f206, f207, ⟨ob210, (Nat.le_trans (Nat.le_trans (Nat.le_trans (Nat.le_trans (Nat.le_trans (Nat.le_trans (Nat.le_trans (Nat.le_trans (Nat.le_trans (Nat.le_trans x_20.2 k21.size) k22.size) k23.size) k24.size) k25.size) k26.size) k27.size) k28.size) k29.size) k30.size)⟩, ⟨ob211, (Nat.le_trans (Nat.le_trans (Nat.le_trans (Nat.le_trans (Nat.le_trans (Nat.le_trans (Nat.le_trans (Nat.le_trans (Nat.le_trans (Nat.le_trans y_20.2 k21.size) k22.size) k23.size) k24.size) k25.size) k26.size) k27.size) k28.size) k29.size) k30.size)⟩, ⟨ob212, trivial⟩, ⟨ob213, (Nat.le_trans (Nat.le_trans (Nat.le_trans (Nat.le_trans (Nat.le_trans (Nat.le_trans z149 k25.size) k26.size) k27.size) k28.size) k29.size) k30.size)⟩, o208, o209⟩
        · have f214 : Bk w27 px (u8s X) 85 := (f162.no k27)
          have f215 : Bk w27 po (u8s O) 86 := (f163.no k27)
          have f216 : Bk w27 pb ([.int .i64 ((q + 1 : Nat) : Int), .int .i64 ((n : Nat) : Int), .int .u32 3]) 28 := (f164.no k27)
          have f217 : Bk w27 dd (u8s (List.replicate (32 * q) 0)) 5 := (f165.no k27)
          have f218 : Bk w27 pp ([.int .i64 ((q + 1 : Nat) : Int), .int .i64 ((n : Nat) : Int), .int .u32 3, .string ({ data := #[109] }), .slice none (0) (0)]) 70 := (f166.no k27)
          have f219 : Bk w27 yb ([.int .i64 ((q + 1 : Nat) : Int), .int .i64 ((n : Nat) : Int), .int .u32 3, .string ({ data := #[109] }), .slice A_y ((L_y).length) (c_y)]) 70 := (f167.no k27)
          have f220 : Bk w27 ob ([.int .u8 ((s1.ix : Nat) : Int), .int .u32 ((ge : Nat) : Int), .slice s1.A ((s1.X).length) (s1.c)]) 50 := (f168.no k27)
          have f221 : Bk w27 zb ([.int .i64 ((q + 1 : Nat) : Int), .int .i64 ((n : Nat) : Int), .int .u32 3, .string ({ data := #[109] }), .slice A_z ((L_z).length) (c_z)]) 70 := (f_zb_26.no k27)
          have o222 : Gt w27 := (o169.no k27)
          have o223 : Tb w27 b3_0 := (o170.no k27)
          have ob224 := (((ob160.keptNo k25).onN k26 ob160 N25.le).keptNo k27)
          have ob225 := (((ob161.keptNo k25).onN k26 ob161 N25.le).keptNo k27)
          have ob226 := (((Q24.keptNo k25).onN k26 Q24 N25.le).keptNo k27)
          refine Nx_lo rfl (lo_alloc (L := [.int .i64 0, .int .i64 0, .int .u32 0, .string ByteArray.empty, .slice none (0) (0)]) (by kernel_rfl)) rfl ?_
          rintro _ w31 ⟨vb, rfl, N31⟩
          have k31 := N31.kp
          have kk31 := kk27.then_ k31
          have ne_vb_px : vb ≠ px := Nat.ne_of_gt (Nat.lt_of_lt_of_le f214.lt N31.le)
          have ne_vb_po : vb ≠ po := Nat.ne_of_gt (Nat.lt_of_lt_of_le f215.lt N31.le)
          have ne_vb_pb : vb ≠ pb := Nat.ne_of_gt (Nat.lt_of_lt_of_le f216.lt N31.le)
          have ne_vb_dd : vb ≠ dd := Nat.ne_of_gt (Nat.lt_of_lt_of_le f217.lt N31.le)
          have ne_vb_pp : vb ≠ pp := Nat.ne_of_gt (Nat.lt_of_lt_of_le f218.lt N31.le)
          have ne_vb_yb : vb ≠ yb := Nat.ne_of_gt (Nat.lt_of_lt_of_le f219.lt N31.le)
          have ne_vb_ob : vb ≠ ob := Nat.ne_of_gt (Nat.lt_of_lt_of_le f220.lt N31.le)
          have ne_vb_zb : vb ≠ zb := Nat.ne_of_gt (Nat.lt_of_lt_of_le f221.lt N31.le)
          have ne_vb_0 : vb ≠ 0 := Nat.ne_of_gt (Nat.lt_of_lt_of_le o222.lt N31.le)
          have ne_vb_b3_0 : vb ≠ b3_0 := Nat.ne_of_gt (Nat.lt_of_lt_of_le o223.lt N31.le)
          have f_vb_31 : Bk w31 vb ([.int .i64 0, .int .i64 0, .int .u32 0, .string ByteArray.empty, .slice none (0) (0)]) 70 := N31.bk
          have f227 : Bk w31 px (u8s X) 85 := (f214.no k31)
          have f228 : Bk w31 po (u8s O) 86 := (f215.no k31)
          have f229 : Bk w31 pb ([.int .i64 ((q + 1 : Nat) : Int), .int .i64 ((n : Nat) : Int), .int .u32 3]) 28 := (f216.no k31)
          have f230 : Bk w31 dd (u8s (List.replicate (32 * q) 0)) 5 := (f217.no k31)
          have f231 : Bk w31 pp ([.int .i64 ((q + 1 : Nat) : Int), .int .i64 ((n : Nat) : Int), .int .u32 3, .string ({ data := #[109] }), .slice none (0) (0)]) 70 := (f218.no k31)
          have f232 : Bk w31 yb ([.int .i64 ((q + 1 : Nat) : Int), .int .i64 ((n : Nat) : Int), .int .u32 3, .string ({ data := #[109] }), .slice A_y ((L_y).length) (c_y)]) 70 := (f219.no k31)
          have f233 : Bk w31 ob ([.int .u8 ((s1.ix : Nat) : Int), .int .u32 ((ge : Nat) : Int), .slice s1.A ((s1.X).length) (s1.c)]) 50 := (f220.no k31)
          have f234 : Bk w31 zb ([.int .i64 ((q + 1 : Nat) : Int), .int .i64 ((n : Nat) : Int), .int .u32 3, .string ({ data := #[109] }), .slice A_z ((L_z).length) (c_z)]) 70 := (f221.no k31)
          have o235 : Gt w31 := (o222.no k31)
          have o236 : Tb w31 b3_0 := (o223.no k31)
          have ob237 := (ob172.keptNo k31)
          refine ⟨⟨kk31, f227, f228, f229, f230, f231, f232, f233, f234, o235, o236, ob237⟩, ?_⟩
          have ob238 := (ob224.keptNo k31)
          have ob239 := (ob225.keptNo k31)
          refine D_one 4 (by kernel_rfl) (Nx_lo rfl (lo_call (by kernel_rfl) rfl (submit_state q n 3 ({ data := #[109] }) A_y L_y c_y ({ data := #[110] }) s1.ix s1.gen s1.A s1.X s1.c _ ob238.ss ⟨⟨⟨⟨by omega, by omega, by omega⟩, by decide, by omega, by have := ob238.le; omega⟩, hcy⟩, .inl (by decide), by decide⟩)) rfl ?_)
          rintro _ w32 ⟨rfl, k32⟩
          have kk32 := kk31.then_ k32
          have f240 : Bk w32 px (u8s X) 85 := (f227.no k32)
          have f241 : Bk w32 po (u8s O) 86 := (f228.no k32)
          have f242 : Bk w32 pb ([.int .i64 ((q + 1 : Nat) : Int), .int .i64 ((n : Nat) : Int), .int .u32 3]) 28 := (f229.no k32)
          have f243 : Bk w32 dd (u8s (List.replicate (32 * q) 0)) 5 := (f230.no k32)
          have f244 : Bk w32 pp ([.int .i64 ((q + 1 : Nat) : Int), .int .i64 ((n : Nat) : Int), .int .u32 3, .string ({ data := #[109] }), .slice none (0) (0)]) 70 := (f231.no k32)
          have f245 : Bk w32 yb ([.int .i64 ((q + 1 : Nat) : Int), .int .i64 ((n : Nat) : Int), .int .u32 3, .string ({ data := #[109] }), .slice A_y ((L_y).length) (c_y)]) 70 := (f232.no k32)
          have f246 : Bk w32 ob ([.int .u8 ((s1.ix : Nat) : Int), .int .u32 ((ge : Nat) : Int), .slice s1.A ((s1.X).length) (s1.c)]) 50 := (f233.no k32)
          have f247 : Bk w32 zb ([.int .i64 ((q + 1 : Nat) : Int), .int .i64 ((n : Nat) : Int), .int .u32 3, .string ({ data := #[109] }), .slice A_z ((L_z).length) (c_z)]) 70 := (f234.no k32)
          have o248 : Gt w32 := (o235.no k32)
          have o249 : Tb w32 b3_0 := (o236.no k32)
          have ob250 := (ob237.keptNo k32)
          refine ⟨⟨kk32, f240, f241, f242, f243, f244, f245, f246, f247, o248, o249, ob250⟩, ?_⟩
          refine D_take 5 rfl (by kernel_rfl) (by kernel_rfl) (by kernel_rfl) (fun _ _ _ h => h) rfl (fun W hS => pu_move rfl) ?_
          refine D_take 6 rfl (by kernel_rfl) (by kernel_rfl) (by kernel_rfl) (fun _ _ _ h => h) rfl (fun W hS => pu_extract rfl rfl) ?_
          refine D_take 7 rfl (by kernel_rfl) (by kernel_rfl) (by kernel_rfl) (fun _ _ _ h => h) rfl (fun W hS => pu_extract rfl rfl) ?_
          refine D_take 8 rfl (by kernel_rfl) (by kernel_rfl) (by kernel_rfl) (fun _ _ _ h => h) rfl (fun W hS => pu_extract rfl rfl) ?_
          have f251 : Bk w32 vb ([.int .i64 0, .int .i64 0, .int .u32 0, .string ByteArray.empty, .slice none (0) (0)]) 70 := (f_vb_31.no k32)
          refine D_one 10 (by kernel_rfl) (Nx_lo0 rfl (lo_storeRow (C := [.int .i64 0, .int .i64 0, .int .u32 0, .string ByteArray.empty, .slice none (0) (0)]) f251 (by kernel_rfl) rfl rfl (by intro u hu; simp at hu; rcases hu with rfl | rfl | rfl | rfl | rfl <;> rfl) rfl) ?_)
          rintro _ w33 kf33
          obtain ⟨k33, f_vb_33⟩ := kf33
          replace f_vb_33 : Bk w33 vb ([.int .i64 0, .int .i64 0, .int .u32 0, .string ByteArray.empty, .slice none (0) (0)]) 70 := f_vb_33
          have kk33 := kk32.trans k33 (fun i hi => .inr (hi ▸ (Nat.le_trans kk27.size N31.le)))
          have f252 : Bk w33 px (u8s X) 85 := (f240.on k33 (Ne.symm ne_vb_px))
          have f253 : Bk w33 po (u8s O) 86 := (f241.on k33 (Ne.symm ne_vb_po))
          have f254 : Bk w33 pb ([.int .i64 ((q + 1 : Nat) : Int), .int .i64 ((n : Nat) : Int), .int .u32 3]) 28 := (f242.on k33 (Ne.symm ne_vb_pb))
          have f255 : Bk w33 dd (u8s (List.replicate (32 * q) 0)) 5 := (f243.on k33 (Ne.symm ne_vb_dd))
          have f256 : Bk w33 pp ([.int .i64 ((q + 1 : Nat) : Int), .int .i64 ((n : Nat) : Int), .int .u32 3, .string ({ data := #[109] }), .slice none (0) (0)]) 70 := (f244.on k33 (Ne.symm ne_vb_pp))
          have f257 : Bk w33 yb ([.int .i64 ((q + 1 : Nat) : Int), .int .i64 ((n : Nat) : Int), .int .u32 3, .string ({ data := #[109] }), .slice A_y ((L_y).length) (c_y)]) 70 := (f245.on k33 (Ne.symm ne_vb_yb))
          have f258 : Bk w33 ob ([.int .u8 ((s1.ix : Nat) : Int), .int .u32 ((ge : Nat) : Int), .slice s1.A ((s1.X).length) (s1.c)]) 50 := (f246.on k33 (Ne.symm ne_vb_ob))
          have f259 : Bk w33 zb ([.int .i64 ((q + 1 : Nat) : Int), .int .i64 ((n : Nat) : Int), .int .u32 3, .string ({ data := #[109] }), .slice A_z ((L_z).length) (c_z)]) 70 := (f247.on k33 (Ne.symm ne_vb_zb))
          have o260 : Gt w33 := (o248.on k33 (Ne.symm ne_vb_0))
          have o261 : Tb w33 b3_0 := (o249.on k33 (Ne.symm ne_vb_b3_0))
          have ob262 := (ob250.onN k33 ob172 N31.le)
          refine ⟨⟨kk33, f252, f253, f254, f255, f256, f257, f258, f259, o260, o261, ob262⟩, ?_⟩
          refine D_take 11 rfl (by kernel_rfl) (by kernel_rfl) (by kernel_rfl) (fun _ _ _ h => h) rfl (fun W hS => pu_assign rfl) ?_
          refine D_take 12 rfl (by kernel_rfl) (by kernel_rfl) (by kernel_rfl) (fun _ _ _ h => h) rfl (fun W hS => pu_assign rfl) ?_
          refine D_done (by kernel_rfl) ?_
          have ob263 := ((ob238.keptNo k32).onN k33 ob224 N31.le)
          have ob264 := ((ob239.keptNo k32).onN k33 ob225 N31.le)
          have ob265 := (((ob226.keptNo k31).keptNo k32).onN k33 ob226 N31.le)
          refine X_cut hK_ [(2, .int .u32 ((ge : Nat) : Int)), (6, .bool false), (7, .pointer (some ⟨pb, 0, none⟩)), (9, .slice A_x ((L_x).length) (c_x)), (13, .pointer (some ⟨yb, 0, none⟩)), (15, .nilIface), (16, .pointer (some ⟨ob, 0, none⟩)), (19, .nilIface), (22, .iface 91 (.int .i64 15))] (Sub.cons rfl (Sub.cons rfl (Sub.cons rfl (Sub.cons rfl (Sub.cons rfl (Sub.cons rfl (Sub.cons rfl (Sub.cons rfl (Sub.cons rfl (Sub.nil _)))))))))) ⟨rfl, kk33, f252, f253, f254, f255, f256, f257, f258, f259, ⟨ob262, (Nat.le_trans (Nat.le_trans (Nat.le_trans (Nat.le_trans (Nat.le_trans (Nat.le_trans (Nat.le_trans (Nat.le_trans (Nat.le_trans (Nat.le_trans x_20.2 k21.size) k22.size) k23.size) k24.size) k25.size) k26.size) k27.size) k31.size) k32.size) k33.size)⟩, ⟨ob263, (Nat.le_trans (Nat.le_trans (Nat.le_trans (Nat.le_trans (Nat.le_trans (Nat.le_trans (Nat.le_trans (Nat.le_trans (Nat.le_trans (Nat.le_trans y_20.2 k21.size) k22.size) k23.size) k24.size) k25.size) k26.size) k27.size) k31.size) k32.size) k33.size)⟩, ⟨ob264, trivial⟩, ⟨ob265, (Nat.le_trans (Nat.le_trans (Nat.le_trans (Nat.le_trans (Nat.le_trans (Nat.le_trans z149 k25.size) k26.size) k27.size) k31.size) k32.size) k33.size)⟩, o260, o261⟩
      · rintro _ w34 ⟨rfl, kk34, f_px_34, f_po_34, f_pb_34, f_dd_34, f_pp_34, f_yb_34, f_ob_34, f_zb_34, x_34, y_34, od_s1_34, z_34, G_34, T_b3_0_34⟩
        refine C_seq (fun K266 hK266 => ?_)
        refine C_region ?_
        refine R_pu (pu_move rfl) rfl ?_
        obtain ⟨s2, e_s2⟩ : ∃ q_, (L_x)[1]? = some q_ := ⟨_, List.getElem?_eq_getElem (by first | omega | (simp; done) | (simp; omega))⟩
        have ok_s2 := x_34.1.ss.get e_s2
        have od_s2 := x_34.1.od e_s2
        have bi_s2 : s2.ix < 256 := ok_s2.ix
        refine R_pu (pu_indexAddrH x_34.1.ss Tryd.underlying29 (by kernel_rfl) rfl rfl rfl rfl e_s2) rfl ?_
        refine R_pu (pu_loadHr x_34.1.ss e_s2 (by kernel_rfl) (by kernel_rfl) rfl) rfl ?_
        refine R_lo0 (lo_storeRow (C := [.int .u8 ((s2.ix : Nat) : Int), .int .u32 ((s2.gen : Nat) : Int), .slice s2.A ((s2.X).length) (s2.c)]) f_ob_34 (by kernel_rfl) rfl rfl (by intro u hu; simp at hu; rcases hu with rfl | rfl | rfl <;> rfl) rfl) ?_
        rintro _ w35 kf35
        obtain ⟨k35, f_ob_35⟩ := kf35
        replace f_ob_35 : Bk w35 ob ([.int .u8 ((s2.ix : Nat) : Int), .int .u32 ((s2.gen : Nat) : Int), .slice s2.A ((s2.X).length) (s2.c)]) 50 := f_ob_35
        have kk35 := kk34.trans k35 (fun i hi => .inr (hi ▸ (Nat.le_trans kk20.size N21.le)))
        refine R_nil ?_
        refine X_then hK266 ?_
        refine C_seq (fun K267 hK267 => ?_)
        refine C_region ?_
        refine R_pu (pu_fieldAddr (off := 1) (o' := 1) (by kernel_rfl) rfl rfl) rfl ?_
        have f268 : Bk w35 pb ([.int .i64 ((q + 1 : Nat) : Int), .int .i64 ((n : Nat) : Int), .int .u32 3]) 28 := (f_pb_34.on k35 (Ne.symm ne_ob_pb))
        refine R_pu (pu_loadK f268 (by kernel_rfl) rfl rfl) rfl ?_
        refine R_pu (pu_add (z := ((n + 1 : Nat) : Int)) rfl rfl (by rw [IntKind.wrap_i64]; omega)) rfl ?_
        refine R_pu (pu_conv (z := ((n + 1 : Nat) : Int)) Tryd.underlying3 Tryd.underlying5 rfl (by rw [IntKind.wrap_u8]; omega)) rfl ?_
        refine R_pu (pu_fieldAddr (off := 0) (o' := 0) (by kernel_rfl) rfl rfl) rfl ?_
        refine R_lo0 (lo_store f_ob_35 (by kernel_rfl) rfl rfl rfl (show 0 < 3 by decide)) ?_
        rintro _ w36 kf36
        obtain ⟨k36, f_ob_36⟩ := kf36
        replace f_ob_36 : Bk w36 ob ([.int .u8 ((n + 1 : Nat) : Int), .int .u32 ((s2.gen : Nat) : Int), .slice s2.A ((s2.X).length) (s2.c)]) 50 := f_ob_36
        have kk36 := kk35.trans k36 (fun i hi => .inr (hi ▸ (Nat.le_trans kk20.size N21.le)))
        refine R_nil ?_
        refine X_then hK267 ?_
        refine C_seq (fun K269 hK269 => ?_)
        refine C_region ?_
        have f270 : Bk w36 yb ([.int .i64 ((q + 1 : Nat) : Int), .int .i64 ((n : Nat) : Int), .int .u32 3, .string ({ data := #[109] }), .slice A_y ((L_y).length) (c_y)]) 70 := ((f_yb_34.on k35 (Ne.symm ne_ob_yb)).on k36 (Ne.symm ne_ob_yb))
        refine R_pu (pu_loadRow (len := 5) f270 (by kernel_rfl) (by kernel_rfl) rfl rfl) rfl ?_
        refine R_pu (pu_loadRow (len := 3) f_ob_36 (by kernel_rfl) (by kernel_rfl) rfl rfl) rfl ?_
        have ob271 := ((y_34.1.onN k35 y_20.1 N21.le).onN k36 y_20.1 N21.le)
        have ob272 := ((x_34.1.onN k35 x_20.1 N21.le).onN k36 x_20.1 N21.le)
        have ob273 := (ob272.od e_s2)
        have k_s2 := key_at hK_x e_s2 (ptK_get (show 1 < n by omega)); have lx_s2 : s2.X.length = 32 := by rw [k_s2.2.2, ptX_length]; exact bX.1
        refine R_lo (lo_call (by kernel_rfl) rfl (submit_share q n 3 ({ data := #[109] }) A_y L_y c_y ({ data := #[109] }) (n + 1) s2.gen s2.A s2.X s2.c _ ob271.ss ⟨⟨⟨⟨by omega, by omega, by omega⟩, by decide, by omega, by have := ob271.le; omega⟩, hcy⟩, rfl, ⟨by omega, k_s2.2.1, fun h => by have := h.2.2.1; omega⟩, by omega, by omega, by decide⟩)) rfl ?_
        rintro _ w37 ⟨rfl, k37⟩
        have kk37 := kk36.then_ k37
        refine R_pu (pu_move rfl) rfl ?_
        refine R_pu (pu_extract rfl rfl) rfl ?_
        refine R_pu (pu_extract rfl rfl) rfl ?_
        refine R_pu (pu_extract rfl rfl) rfl ?_
        have f274 : Bk w37 px (u8s X) 85 := (((f_px_34.on k35 (Ne.symm ne_ob_px)).on k36 (Ne.symm ne_ob_px)).no k37)
        have f275 : Bk w37 po (u8s O) 86 := (((f_po_34.on k35 (Ne.symm ne_ob_po)).on k36 (Ne.symm ne_ob_po)).no k37)
        have f276 : Bk w37 pb ([.int .i64 ((q + 1 : Nat) : Int), .int .i64 ((n : Nat) : Int), .int .u32 3]) 28 := ((f268.on k36 (Ne.symm ne_ob_pb)).no k37)
        have f277 : Bk w37 dd (u8s (List.replicate (32 * q) 0)) 5 := (((f_dd_34.on k35 (Ne.symm ne_ob_dd)).on k36 (Ne.symm ne_ob_dd)).no k37)
        have f278 : Bk w37 pp ([.int .i64 ((q + 1 : Nat) : Int), .int .i64 ((n : Nat) : Int), .int .u32 3, .string ({ data := #[109] }), .slice none (0) (0)]) 70 := (((f_pp_34.on k35 (Ne.symm ne_ob_pp)).on k36 (Ne.symm ne_ob_pp)).no k37)
        have f279 : Bk w37 yb ([.int .i64 ((q + 1 : Nat) : Int), .int .i64 ((n : Nat) : Int), .int .u32 3, .string ({ data := #[109] }), .slice A_y ((L_y).length) (c_y)]) 70 := (f270.no k37)
        have f280 : Bk w37 ob ([.int .u8 ((n + 1 : Nat) : Int), .int .u32 ((s2.gen : Nat) : Int), .slice s2.A ((s2.X).length) (s2.c)]) 50 := (f_ob_36.no k37)
        have f281 : Bk w37 zb ([.int .i64 ((q + 1 : Nat) : Int), .int .i64 ((n : Nat) : Int), .int .u32 3, .string ({ data := #[109] }), .slice A_z ((L_z).length) (c_z)]) 70 := (((f_zb_34.on k35 ne_zb_ob).on k36 ne_zb_ob).no k37)
        have o282 : Gt w37 := (((G_34.on k35 (Ne.symm ne_ob_0)).on k36 (Ne.symm ne_ob_0)).no k37)
        have o283 : Tb w37 b3_0 := (((T_b3_0_34.on k35 (Ne.symm ne_ob_b3_0)).on k36 (Ne.symm ne_ob_b3_0)).no k37)
        have ob284 := (ob272.keptNo k37)
        have ob285 := (ob271.keptNo k37)
        have ob286 := (((od_s1_34.1.onN k35 od_s1 N21.le).onN k36 od_s1 N21.le).keptNo k37)
        have ob287 := (((z_34.1.on k35 (by have := f_ob_23.lt; omega)).on k36 (by have := f_ob_23.lt; omega)).keptNo k37)
        have ob288 := (ob273.keptNo k37)
        refine R_lo (lo_alloc (L := [.int .i64 0, .int .i64 0, .int .u32 0, .string ByteArray.empty, .slice none (0) (0)]) (by kernel_rfl)) rfl ?_
        rintro _ w38 ⟨ub, rfl, N38⟩
        have k38 := N38.kp
        have kk38 := kk37.then_ k38
        have ne_ub_px : ub ≠ px := Nat.ne_of_gt (Nat.lt_of_lt_of_le f274.lt N38.le)
        have ne_ub_po : ub ≠ po := Nat.ne_of_gt (Nat.lt_of_lt_of_le f275.lt N38.le)
        have ne_ub_pb : ub ≠ pb := Nat.ne_of_gt (Nat.lt_of_lt_of_le f276.lt N38.le)
        have ne_ub_dd : ub ≠ dd := Nat.ne_of_gt (Nat.lt_of_lt_of_le f277.lt N38.le)
        have ne_ub_pp : ub ≠ pp := Nat.ne_of_gt (Nat.lt_of_lt_of_le f278.lt N38.le)
        have ne_ub_yb : ub ≠ yb := Nat.ne_of_gt (Nat.lt_of_lt_of_le f279.lt N38.le)
        have ne_ub_ob : ub ≠ ob := Nat.ne_of_gt (Nat.lt_of_lt_of_le f280.lt N38.le)
        have ne_ub_zb : ub ≠ zb := Nat.ne_of_gt (Nat.lt_of_lt_of_le f281.lt N38.le)
        have ne_ub_0 : ub ≠ 0 := Nat.ne_of_gt (Nat.lt_of_lt_of_le o282.lt N38.le)
        have ne_ub_b3_0 : ub ≠ b3_0 := Nat.ne_of_gt (Nat.lt_of_lt_of_le o283.lt N38.le)
        have f_ub_38 : Bk w38 ub ([.int .i64 0, .int .i64 0, .int .u32 0, .string ByteArray.empty, .slice none (0) (0)]) 70 := N38.bk
        refine R_lo0 (lo_storeRow (C := [.int .i64 0, .int .i64 0, .int .u32 0, .string ByteArray.empty, .slice none (0) (0)]) f_ub_38 (by kernel_rfl) rfl rfl (by intro u hu; simp at hu; rcases hu with rfl | rfl | rfl | rfl | rfl <;> rfl) rfl) ?_
        rintro _ w39 kf39
        obtain ⟨k39, f_ub_39⟩ := kf39
        replace f_ub_39 : Bk w39 ub ([.int .i64 0, .int .i64 0, .int .u32 0, .string ByteArray.empty, .slice none (0) (0)]) 70 := f_ub_39
        have kk39 := kk38.trans k39 (fun i hi => .inr (hi ▸ (Nat.le_trans kk37.size N38.le)))
        refine R_pu (pu_assign rfl) rfl ?_
        refine R_pu (pu_assign rfl) rfl ?_
        refine R_nil ?_
        refine X_then hK269 ?_
        refine C_seq (fun K289 hK289 => ?_)
        refine C_region ?_
        have f290 : Bk w39 yb ([.int .i64 ((q + 1 : Nat) : Int), .int .i64 ((n : Nat) : Int), .int .u32 3, .string ({ data := #[109] }), .slice A_y ((L_y).length) (c_y)]) 70 := ((f279.no k38).on k39 (Ne.symm ne_ub_yb))
        refine R_pu (pu_loadRow (len := 5) f290 (by kernel_rfl) (by kernel_rfl) rfl rfl) rfl ?_
        refine R_lo (lo_call (by kernel_rfl) rfl (reset_ q n 3 ({ data := #[109] }) A_y ((L_y).length) c_y _)) rfl ?_
        rintro _ w40 ⟨rfl, k40⟩
        have kk40 := kk39.then_ k40
        have f291 : Bk w40 px (u8s X) 85 := (((f274.no k38).on k39 (Ne.symm ne_ub_px)).no k40)
        have f292 : Bk w40 po (u8s O) 86 := (((f275.no k38).on k39 (Ne.symm ne_ub_po)).no k40)
        have f293 : Bk w40 pb ([.int .i64 ((q + 1 : Nat) : Int), .int .i64 ((n : Nat) : Int), .int .u32 3]) 28 := (((f276.no k38).on k39 (Ne.symm ne_ub_pb)).no k40)
        have f294 : Bk w40 dd (u8s (List.replicate (32 * q) 0)) 5 := (((f277.no k38).on k39 (Ne.symm ne_ub_dd)).no k40)
        have f295 : Bk w40 pp ([.int .i64 ((q + 1 : Nat) : Int), .int .i64 ((n : Nat) : Int), .int .u32 3, .string ({ data := #[109] }), .slice none (0) (0)]) 70 := (((f278.no k38).on k39 (Ne.symm ne_ub_pp)).no k40)
        have f296 : Bk w40 yb ([.int .i64 ((q + 1 : Nat) : Int), .int .i64 ((n : Nat) : Int), .int .u32 3, .string ({ data := #[109] }), .slice A_y ((L_y).length) (c_y)]) 70 := (f290.no k40)
        have f297 : Bk w40 ob ([.int .u8 ((n + 1 : Nat) : Int), .int .u32 ((s2.gen : Nat) : Int), .slice s2.A ((s2.X).length) (s2.c)]) 50 := (((f280.no k38).on k39 (Ne.symm ne_ub_ob)).no k40)
        have f298 : Bk w40 zb ([.int .i64 ((q + 1 : Nat) : Int), .int .i64 ((n : Nat) : Int), .int .u32 3, .string ({ data := #[109] }), .slice A_z ((L_z).length) (c_z)]) 70 := (((f281.no k38).on k39 (Ne.symm ne_ub_zb)).no k40)
        have f299 : Bk w40 ub ([.int .i64 0, .int .i64 0, .int .u32 0, .string ByteArray.empty, .slice none (0) (0)]) 70 := (f_ub_39.no k40)
        have o300 : Gt w40 := (((o282.no k38).on k39 (Ne.symm ne_ub_0)).no k40)
        have o301 : Tb w40 b3_0 := (((o283.no k38).on k39 (Ne.symm ne_ub_b3_0)).no k40)
        have ob302 := (((ob284.keptNo k38).onN k39 ob284 N38.le).keptNo k40)
        have ob303 := (((ob285.keptNo k38).onN k39 ob285 N38.le).keptNo k40)
        have ob304 := (((ob286.keptNo k38).onN k39 ob286 N38.le).keptNo k40)
        have ob305 := (((ob287.keptNo k38).onN k39 ob287 N38.le).keptNo k40)
        have ob306 := (((ob288.keptNo k38).onN k39 ob288 N38.le).keptNo k40)
        refine R_lo (lo_alloc (L := [.int .i64 0, .int .i64 0, .int .u32 0, .string ByteArray.empty, .slice none (0) (0)]) (by kernel_rfl)) rfl ?_
        rintro _ w41 ⟨rb, rfl, N41⟩
        have k41 := N41.kp
        have kk41 := kk40.then_ k41
        have ne_rb_px : rb ≠ px := Nat.ne_of_gt (Nat.lt_of_lt_of_le f291.lt N41.le)
        have ne_rb_po : rb ≠ po := Nat.ne_of_gt (Nat.lt_of_lt_of_le f292.lt N41.le)
        have ne_rb_pb : rb ≠ pb := Nat.ne_of_gt (Nat.lt_of_lt_of_le f293.lt N41.le)
        have ne_rb_dd : rb ≠ dd := Nat.ne_of_gt (Nat.lt_of_lt_of_le f294.lt N41.le)
        have ne_rb_pp : rb ≠ pp := Nat.ne_of_gt (Nat.lt_of_lt_of_le f295.lt N41.le)
        have ne_rb_yb : rb ≠ yb := Nat.ne_of_gt (Nat.lt_of_lt_of_le f296.lt N41.le)
        have ne_rb_ob : rb ≠ ob := Nat.ne_of_gt (Nat.lt_of_lt_of_le f297.lt N41.le)
        have ne_rb_zb : rb ≠ zb := Nat.ne_of_gt (Nat.lt_of_lt_of_le f298.lt N41.le)
        have ne_rb_ub : rb ≠ ub := Nat.ne_of_gt (Nat.lt_of_lt_of_le f299.lt N41.le)
        have ne_rb_0 : rb ≠ 0 := Nat.ne_of_gt (Nat.lt_of_lt_of_le o300.lt N41.le)
        have ne_rb_b3_0 : rb ≠ b3_0 := Nat.ne_of_gt (Nat.lt_of_lt_of_le o301.lt N41.le)
        have f_rb_41 : Bk w41 rb ([.int .i64 0, .int .i64 0, .int .u32 0, .string ByteArray.empty, .slice none (0) (0)]) 70 := N41.bk
        refine R_lo0 (lo_storeRow (C := [.int .i64 ((q + 1 : Nat) : Int), .int .i64 ((n : Nat) : Int), .int .u32 3, .string ({ data := #[109] }), .slice none (0) (0)]) f_rb_41 (by kernel_rfl) rfl rfl (by intro u hu; simp at hu; rcases hu with rfl | rfl | rfl | rfl | rfl <;> rfl) rfl) ?_
        rintro _ w42 kf42
        obtain ⟨k42, f_rb_42⟩ := kf42
        replace f_rb_42 : Bk w42 rb ([.int .i64 ((q + 1 : Nat) : Int), .int .i64 ((n : Nat) : Int), .int .u32 3, .string ({ data := #[109] }), .slice none (0) (0)]) 70 := f_rb_42
        have kk42 := kk41.trans k42 (fun i hi => .inr (hi ▸ (Nat.le_trans kk40.size N41.le)))
        refine R_nil ?_
        refine X_then hK289 ?_
        refine C_seq (fun K307 hK307 => ?_)
        refine C_seq (fun K308 hK308 => ?_)
        refine C_region ?_
        refine R_pu (pu_move rfl) rfl ?_
        refine R_pu (pu_neqnn (by kernel_rfl) rfl) rfl ?_
        refine R_pu (pu_move rfl) rfl ?_
        refine R_gpu rfl rfl (pu_fieldAddr (off := 4) (o' := 4) (by kernel_rfl) rfl rfl) rfl ?_
        have f309 : Bk w42 yb ([.int .i64 ((q + 1 : Nat) : Int), .int .i64 ((n : Nat) : Int), .int .u32 3, .string ({ data := #[109] }), .slice A_y ((L_y).length) (c_y)]) 70 := ((f296.no k41).on k42 (Ne.symm ne_rb_yb))
        refine R_gpu rfl rfl (pu_loadK f309 (by kernel_rfl) rfl rfl) rfl ?_
        refine R_gpu rfl rfl (pu_len Tryd.underlying29 rfl) rfl ?_
        refine R_gpu rfl rfl (pu_false (pu_neq (p := ((L_y).length) = 1) rfl rfl (by omega)) (fun h => h hl_y)) rfl ?_
        refine R_pu (pu_pickf rfl rfl) rfl ?_
        refine R_pu (pu_move rfl) rfl ?_
        refine R_gpu rfl rfl (pu_move rfl) rfl ?_
        refine R_gpu rfl rfl (pu_eqlnn (by kernel_rfl) rfl) rfl ?_
        refine R_gpu rfl rfl (pu_move rfl) rfl ?_
        refine R_gpu rfl rfl (pu_true (pu_eql (p := ge = 3) rfl rfl (by omega)) hg3) rfl ?_
        refine R_gpu rfl rfl (pu_neqb Tryd.underlying4 rfl rfl) rfl ?_
        refine R_pu (pu_pickf rfl rfl) rfl ?_
        refine R_pu (pu_move rfl) rfl ?_
        refine R_gpu rfl rfl (pu_move rfl) rfl ?_
        refine R_gpu rfl rfl (pu_false (pu_neq (p := ge = 3) rfl rfl (by omega)) (fun h => h hg3)) rfl ?_
        refine R_gpu rfl rfl (pu_move rfl) rfl ?_
        refine R_gno rfl rfl rfl rfl ?_
        refine R_gno rfl rfl rfl rfl ?_
        refine R_gno rfl rfl rfl rfl ?_
        refine R_gpu rfl rfl (pu_pickf rfl rfl) rfl ?_
        refine R_pu (pu_pickf rfl rfl) rfl ?_
        refine R_pu (pu_move rfl) rfl ?_
        refine R_gpu rfl rfl (pu_move rfl) rfl ?_
        have o310 : Gt w42 := ((o300.no k41).on k42 (Ne.symm ne_rb_0))
        refine R_glo rfl rfl (lo_call (by kernel_rfl) rfl (num23_err 15 _ o310)) rfl ?_
        rintro _ w43 ⟨rfl, k43⟩
        have kk43 := kk42.then_ k43
        refine R_gpu rfl rfl (pu_false (pu_neq (p := (15 : Nat) = 15) rfl rfl (by omega)) (by decide)) rfl ?_
        refine R_pu (pu_pickf rfl rfl) rfl ?_
        refine R_pu (pu_move rfl) rfl ?_
        refine R_gpu rfl rfl (pu_move rfl) rfl ?_
        have o311 : Gt w43 := (o310.no k43)
        refine R_glo rfl rfl (lo_call (by kernel_rfl) rfl (num23_err 12 _ o311)) rfl ?_
        rintro _ w44 ⟨rfl, k44⟩
        have kk44 := kk43.then_ k44
        refine R_gpu rfl rfl (pu_false (pu_neq (p := (12 : Nat) = 12) rfl rfl (by omega)) (by decide)) rfl ?_
        refine R_pu (pu_pickf rfl rfl) rfl ?_
        refine R_pu (pu_move rfl) rfl ?_
        refine R_gpu rfl rfl (pu_fieldAddr (off := 4) (o' := 4) (by kernel_rfl) rfl rfl) rfl ?_
        have f312 : Bk w44 rb ([.int .i64 ((q + 1 : Nat) : Int), .int .i64 ((n : Nat) : Int), .int .u32 3, .string ({ data := #[109] }), .slice none (0) (0)]) 70 := ((f_rb_42.no k43).no k44)
        refine R_gpu rfl rfl (pu_loadK f312 (by kernel_rfl) rfl rfl) rfl ?_
        refine R_gpu rfl rfl (pu_len Tryd.underlying29 rfl) rfl ?_
        refine R_gpu rfl rfl (pu_false (pu_neq (p := (0 : Nat) = 0) rfl rfl (by omega)) (by decide)) rfl ?_
        refine R_pu (pu_pickf rfl rfl) rfl ?_
        refine R_nil ?_
        refine X_then hK308 ?_
        refine C_false rfl ?_
        refine C_skip ?_
        refine X_then hK307 ?_
        refine C_cut (fun l_ wr => (l_ = [(6, .bool false), (29, .nilIface)]) ∧ (Kp No w wr) ∧ (Bk wr px (u8s X) 85) ∧ (Bk wr po (u8s O) 86) ∧ (Bk wr pb ([.int .i64 ((q + 1 : Nat) : Int), .int .i64 ((n : Nat) : Int), .int .u32 3]) 28) ∧ (Bk wr dd (u8s (List.replicate (32 * q) 0)) 5) ∧ (Bk wr pp ([.int .i64 ((q + 1 : Nat) : Int), .int .i64 ((n : Nat) : Int), .int .u32 3, .string ({ data := #[109] }), .slice none (0) (0)]) 70) ∧ (Bk wr yb ([.int .i64 ((q + 1 : Nat) : Int), .int .i64 ((n : Nat) : Int), .int .u32 3, .string ({ data := #[109] }), .slice A_y ((L_y).length) (c_y)]) 70) ∧ (Bk wr ob ([.int .u8 ((n + 1 : Nat) : Int), .int .u32 ((s2.gen : Nat) : Int), .slice s2.A ((s2.X).length) (s2.c)]) 50) ∧ (Bk wr zb ([.int .i64 ((q + 1 : Nat) : Int), .int .i64 ((n : Nat) : Int), .int .u32 3, .string ({ data := #[109] }), .slice A_z ((L_z).length) (c_z)]) 70) ∧ (Bk wr ub ([.int .i64 0, .int .i64 0, .int .u32 0, .string ByteArray.empty, .slice none (0) (0)]) 70) ∧ (Bk wr rb ([.int .i64 ((q + 1 : Nat) : Int), .int .i64 ((n : Nat) : Int), .int .u32 3, .string ({ data := #[109] }), .slice none (0) (0)]) 70) ∧ (Gt wr) ∧ (Tb wr b3_0)) (fun K_ hK_ => ?_) ?_
        · have f313 : Bk w44 px (u8s X) 85 := ((((f291.no k41).on k42 (Ne.symm ne_rb_px)).no k43).no k44)
          have f314 : Bk w44 po (u8s O) 86 := ((((f292.no k41).on k42 (Ne.symm ne_rb_po)).no k43).no k44)
          have f315 : Bk w44 pb ([.int .i64 ((q + 1 : Nat) : Int), .int .i64 ((n : Nat) : Int), .int .u32 3]) 28 := ((((f293.no k41).on k42 (Ne.symm ne_rb_pb)).no k43).no k44)
          have f316 : Bk w44 dd (u8s (List.replicate (32 * q) 0)) 5 := ((((f294.no k41).on k42 (Ne.symm ne_rb_dd)).no k43).no k44)
          have f317 : Bk w44 pp ([.int .i64 ((q + 1 : Nat) : Int), .int .i64 ((n : Nat) : Int), .int .u32 3, .string ({ data := #[109] }), .slice none (0) (0)]) 70 := ((((f295.no k41).on k42 (Ne.symm ne_rb_pp)).no k43).no k44)
          have f318 : Bk w44 yb ([.int .i64 ((q + 1 : Nat) : Int), .int .i64 ((n : Nat) : Int), .int .u32 3, .string ({ data := #[109] }), .slice A_y ((L_y).length) (c_y)]) 70 := ((f309.no k43).no k44)
          have f319 : Bk w44 ob ([.int .u8 ((n + 1 : Nat) : Int), .int .u32 ((s2.gen : Nat) : Int), .slice s2.A ((s2.X).length) (s2.c)]) 50 := ((((f297.no k41).on k42 (Ne.symm ne_rb_ob)).no k43).no k44)
          have f320 : Bk w44 zb ([.int .i64 ((q + 1 : Nat) : Int), .int .i64 ((n : Nat) : Int), .int .u32 3, .string ({ data := #[109] }), .slice A_z ((L_z).length) (c_z)]) 70 := ((((f298.no k41).on k42 (Ne.symm ne_rb_zb)).no k43).no k44)
          have f321 : Bk w44 ub ([.int .i64 0, .int .i64 0, .int .u32 0, .string ByteArray.empty, .slice none (0) (0)]) 70 := ((((f299.no k41).on k42 (Ne.symm ne_rb_ub)).no k43).no k44)
          have o322 : Gt w44 := (o311.no k44)
          have o323 : Tb w44 b3_0 := ((((o301.no k41).on k42 (Ne.symm ne_rb_b3_0)).no k43).no k44)
          have ob324 := ((((ob302.keptNo k41).onN k42 ob302 N41.le).keptNo k43).keptNo k44)
          refine D_begin (fun W => Kp No w W ∧ Bk W px (u8s X) 85 ∧ Bk W po (u8s O) 86 ∧ Bk W pb ([.int .i64 ((q + 1 : Nat) : Int), .int .i64 ((n : Nat) : Int), .int .u32 3]) 28 ∧ Bk W dd (u8s (List.replicate (32 * q) 0)) 5 ∧ Bk W pp ([.int .i64 ((q + 1 : Nat) : Int), .int .i64 ((n : Nat) : Int), .int .u32 3, .string ({ data := #[109] }), .slice none (0) (0)]) 70 ∧ Bk W yb ([.int .i64 ((q + 1 : Nat) : Int), .int .i64 ((n : Nat) : Int), .int .u32 3, .string ({ data := #[109] }), .slice A_y ((L_y).length) (c_y)]) 70 ∧ Bk W ob ([.int .u8 ((n + 1 : Nat) : Int), .int .u32 ((s2.gen : Nat) : Int), .slice s2.A ((s2.X).length) (s2.c)]) 50 ∧ Bk W zb ([.int .i64 ((q + 1 : Nat) : Int), .int .i64 ((n : Nat) : Int), .int .u32 3, .string ({ data := #[109] }), .slice A_z ((L_z).length) (c_z)]) 70 ∧ Bk W ub ([.int .i64 0, .int .i64 0, .int .u32 0, .string ByteArray.empty, .slice none (0) (0)]) 70 ∧ Bk W rb ([.int .i64 ((q + 1 : Nat) : Int), .int .i64 ((n : Nat) : Int), .int .u32 3, .string ({ data := #[109] }), .slice none (0) (0)]) 70 ∧ Gt W ∧ Tb W b3_0 ∧ Sw 50 w8.heap.size W w8.heap.size (.slice A_x ((L_x).length) (c_x)) (L_x)) 13 rfl (by kernel_rfl) ⟨kk44.drew, f313.draw, f314.draw, f315.draw, f316.draw, f317.draw, f318.draw, f319.draw, f320.draw, f321.draw, f312.draw, o322.draw, o323.draw, ob324.draw⟩ ?_
          intro w45 k45 _
          have kk45 := kk44.then_ k45
          refine D_take 0 rfl (by kernel_rfl) (by kernel_rfl) (by kernel_rfl) (fun _ _ _ h => h) rfl (fun W hS => pu_loadRow (len := 5) hS.2.2.2.2.2.2.2.2.2.2.1 (by kernel_rfl) (by kernel_rfl) rfl rfl) ?_
          refine D_take 1 rfl (by kernel_rfl) (by kernel_rfl) (by kernel_rfl) (fun _ _ _ h => h) rfl (fun W hS => pu_move rfl) ?_
          have ob325 := (ob324.keptNo k45)
          obtain ⟨s3, e_s3⟩ : ∃ q_, (L_x)[0]? = some q_ := ⟨_, List.getElem?_eq_getElem (by first | omega | (simp; done) | (simp; omega))⟩
          have ok_s3 := ob325.ss.get e_s3
          have od_s3 := ob325.od e_s3
          have bi_s3 : s3.ix < 256 := ok_s3.ix
          refine D_take 2 rfl (by kernel_rfl) (by kernel_rfl) (by kernel_rfl) (fun _ _ _ h => h) rfl (fun W hS => pu_indexAddrH hS.2.2.2.2.2.2.2.2.2.2.2.2.2.ss Tryd.underlying29 (by kernel_rfl) rfl rfl rfl rfl e_s3) ?_
          refine D_take 3 rfl (by kernel_rfl) (by kernel_rfl) (by kernel_rfl) (fun _ _ _ h => h) rfl (fun W hS => pu_loadHr hS.2.2.2.2.2.2.2.2.2.2.2.2.2.ss e_s3 (by kernel_rfl) (by kernel_rfl) rfl) ?_
          refine D_two 4 9 (by kernel_rfl) ?_ ?_
          · have k_s3 := key_at hK_x e_s3 (ptK_get (show 0 < n by omega)); have lx_s3 : s3.X.length = 32 := by rw [k_s3.2.2, ptX_length]; exact bX.1
            have f326 : Bk w45 px (u8s X) 85 := (f313.no k45)
            have f327 : Bk w45 po (u8s O) 86 := (f314.no k45)
            have f328 : Bk w45 pb ([.int .i64 ((q + 1 : Nat) : Int), .int .i64 ((n : Nat) : Int), .int .u32 3]) 28 := (f315.no k45)
            have f329 : Bk w45 dd (u8s (List.replicate (32 * q) 0)) 5 := (f316.no k45)
            have f330 : Bk w45 pp ([.int .i64 ((q + 1 : Nat) : Int), .int .i64 ((n : Nat) : Int), .int .u32 3, .string ({ data := #[109] }), .slice none (0) (0)]) 70 := (f317.no k45)
            have f331 : Bk w45 yb ([.int .i64 ((q + 1 : Nat) : Int), .int .i64 ((n : Nat) : Int), .int .u32 3, .string ({ data := #[109] }), .slice A_y ((L_y).length) (c_y)]) 70 := (f318.no k45)
            have f332 : Bk w45 ob ([.int .u8 ((n + 1 : Nat) : Int), .int .u32 ((s2.gen : Nat) : Int), .slice s2.A ((s2.X).length) (s2.c)]) 50 := (f319.no k45)
            have f333 : Bk w45 zb ([.int .i64 ((q + 1 : Nat) : Int), .int .i64 ((n : Nat) : Int), .int .u32 3, .string ({ data := #[109] }), .slice A_z ((L_z).length) (c_z)]) 70 := (f320.no k45)
            have f334 : Bk w45 ub ([.int .i64 0, .int .i64 0, .int .u32 0, .string ByteArray.empty, .slice none (0) (0)]) 70 := (f321.no k45)
            have f335 : Bk w45 rb ([.int .i64 ((q + 1 : Nat) : Int), .int .i64 ((n : Nat) : Int), .int .u32 3, .string ({ data := #[109] }), .slice none (0) (0)]) 70 := (f312.no k45)
            have o336 : Gt w45 := (o322.no k45)
            have o337 : Tb w45 b3_0 := (o323.no k45)
            have lm338 := ob325.top
            have ob340 := (((((ob303.keptNo k41).onN k42 ob303 N41.le).keptNo k43).keptNo k44).keptNo k45)
            have lm339 := ob340.top
            have ob342 := (((((ob304.keptNo k41).onN k42 ob304 N41.le).keptNo k43).keptNo k44).keptNo k45)
            have lm341 := ob342.top
            have ob344 := (((((ob305.keptNo k41).onN k42 ob305 N41.le).keptNo k43).keptNo k44).keptNo k45)
            have lm343 := ob344.top
            have ob346 := (((((ob306.keptNo k41).onN k42 ob306 N41.le).keptNo k43).keptNo k44).keptNo k45)
            have lm345 := ob346.top
            have lm347 := od_s3.top
            refine Nx_lo rfl (lo_call (by kernel_rfl) rfl (submit_ok q n 3 ({ data := #[109] }) none ([] : List Shr) 0 s3.ix s3.gen s3.A s3.X s3.c _ (Ss.nil _ none) od_s3.bs od_s3.le.2 ⟨⟨⟨⟨by omega, by omega, by omega⟩, by decide, Nat.zero_le _, Nat.zero_le _⟩, Came.nil _ _⟩, ⟨by simp, k_s3.2.1, ⟨by simp [ixs], by rw [k_s3.1]; omega, by rw [k_s3.1]; omega, lx_s3⟩⟩, ok_s3.ix, by decide⟩)) rfl ?_
            rintro _ w46 ⟨A_k, c_k, L_k, rfl, Q46, hK_k, k46⟩
            have kk46 := kk45.then_ k46
            have z348 : w45.heap.size ≤ w46.heap.size := k46.size
            have hl_k : L_k.length = 1 := by have := congrArg List.length hK_k; simpa using this
            have f349 : Bk w46 px (u8s X) 85 := (f326.no k46)
            have f350 : Bk w46 po (u8s O) 86 := (f327.no k46)
            have f351 : Bk w46 pb ([.int .i64 ((q + 1 : Nat) : Int), .int .i64 ((n : Nat) : Int), .int .u32 3]) 28 := (f328.no k46)
            have f352 : Bk w46 dd (u8s (List.replicate (32 * q) 0)) 5 := (f329.no k46)
            have f353 : Bk w46 pp ([.int .i64 ((q + 1 : Nat) : Int), .int .i64 ((n : Nat) : Int), .int .u32 3, .string ({ data := #[109] }), .slice none (0) (0)]) 70 := (f330.no k46)
            have f354 : Bk w46 yb ([.int .i64 ((q + 1 : Nat) : Int), .int .i64 ((n : Nat) : Int), .int .u32 3, .string ({ data := #[109] }), .slice A_y ((L_y).length) (c_y)]) 70 := (f331.no k46)
            have f355 : Bk w46 ob ([.int .u8 ((n + 1 : Nat) : Int), .int .u32 ((s2.gen : Nat) : Int), .slice s2.A ((s2.X).length) (s2.c)]) 50 := (f332.no k46)
            have f356 : Bk w46 zb ([.int .i64 ((q + 1 : Nat) : Int), .int .i64 ((n : Nat) : Int), .int .u32 3, .string ({ data := #[109] }), .slice A_z ((L_z).length) (c_z)]) 70 := (f333.no k46)
            have f357 : Bk w46 ub ([.int .i64 0, .int .i64 0, .int .u32 0, .string ByteArray.empty, .slice none (0) (0)]) 70 := (f334.no k46)
            have f358 : Bk w46 rb ([.int .i64 ((q + 1 : Nat) : Int), .int .i64 ((n : Nat) : Int), .int .u32 3, .string ({ data := #[109] }), .slice none (0) (0)]) 70 := (f335.no k46)
            have o359 : Gt w46 := (o336.no k46)
            have o360 : Tb w46 b3_0 := (o337.no k46)
            have ob361 := (ob325.keptNo k46)
            refine ⟨⟨kk46, f349, f350, f351, f352, f353, f354, f355, f356, f357, f358, o359, o360, ob361⟩, ?_⟩
            refine D_take 5 rfl (by kernel_rfl) (by kernel_rfl) (by kernel_rfl) (fun _ _ _ h => h) rfl (fun W hS => pu_move rfl) ?_
            refine D_take 6 rfl (by kernel_rfl) (by kernel_rfl) (by kernel_rfl) (fun _ _ _ h => h) rfl (fun W hS => pu_extract rfl rfl) ?_
            refine D_take 7 rfl (by kernel_rfl) (by kernel_rfl) (by kernel_rfl) (fun _ _ _ h => h) rfl (fun W hS => pu_extract rfl rfl) ?_
            refine D_take 8 rfl (by kernel_rfl) (by kernel_rfl) (by kernel_rfl) (fun _ _ _ h => h) rfl (fun W hS => pu_extract rfl rfl) ?_
            have ob362 := (ob340.keptNo k46)
            have ob363 := (ob342.keptNo k46)
            have ob364 := (ob344.keptNo k46)
            have ob365 := (ob346.keptNo k46)
            have ob366 := (od_s3.keptNo k46)
            refine D_one 9 (by kernel_rfl) (Nx_lo rfl (lo_alloc (L := [.int .i64 0, .int .i64 0, .int .u32 0, .string ByteArray.empty, .slice none (0) (0)]) (by kernel_rfl)) rfl ?_)
            rintro _ w47 ⟨kb, rfl, N47⟩
            have k47 := N47.kp
            have kk47 := kk46.then_ k47
            have ne_kb_px : kb ≠ px := Nat.ne_of_gt (Nat.lt_of_lt_of_le f349.lt N47.le)
            have ne_kb_po : kb ≠ po := Nat.ne_of_gt (Nat.lt_of_lt_of_le f350.lt N47.le)
            have ne_kb_pb : kb ≠ pb := Nat.ne_of_gt (Nat.lt_of_lt_of_le f351.lt N47.le)
            have ne_kb_dd : kb ≠ dd := Nat.ne_of_gt (Nat.lt_of_lt_of_le f352.lt N47.le)
            have ne_kb_pp : kb ≠ pp := Nat.ne_of_gt (Nat.lt_of_lt_of_le f353.lt N47.le)
            have ne_kb_yb : kb ≠ yb := Nat.ne_of_gt (Nat.lt_of_lt_of_le f354.lt N47.le)
            have ne_kb_ob : kb ≠ ob := Nat.ne_of_gt (Nat.lt_of_lt_of_le f355.lt N47.le)
            have ne_kb_zb : kb ≠ zb := Nat.ne_of_gt (Nat.lt_of_lt_of_le f356.lt N47.le)
            have ne_kb_ub : kb ≠ ub := Nat.ne_of_gt (Nat.lt_of_lt_of_le f357.lt N47.le)
            have ne_kb_rb : kb ≠ rb := Nat.ne_of_gt (Nat.lt_of_lt_of_le f358.lt N47.le)
            have ne_kb_0 : kb ≠ 0 := Nat.ne_of_gt (Nat.lt_of_lt_of_le o359.lt N47.le)
            have ne_kb_b3_0 : kb ≠ b3_0 := Nat.ne_of_gt (Nat.lt_of_lt_of_le o360.lt N47.le)
            have f_kb_47 : Bk w47 kb ([.int .i64 0, .int .i64 0, .int .u32 0, .string ByteArray.empty, .slice none (0) (0)]) 70 := N47.bk
            have f367 : Bk w47 px (u8s X) 85 := (f349.no k47)
            have f368 : Bk w47 po (u8s O) 86 := (f350.no k47)
            have f369 : Bk w47 pb ([.int .i64 ((q + 1 : Nat) : Int), .int .i64 ((n : Nat) : Int), .int .u32 3]) 28 := (f351.no k47)
            have f370 : Bk w47 dd (u8s (List.replicate (32 * q) 0)) 5 := (f352.no k47)
            have f371 : Bk w47 pp ([.int .i64 ((q + 1 : Nat) : Int), .int .i64 ((n : Nat) : Int), .int .u32 3, .string ({ data := #[109] }), .slice none (0) (0)]) 70 := (f353.no k47)
            have f372 : Bk w47 yb ([.int .i64 ((q + 1 : Nat) : Int), .int .i64 ((n : Nat) : Int), .int .u32 3, .string ({ data := #[109] }), .slice A_y ((L_y).length) (c_y)]) 70 := (f354.no k47)
            have f373 : Bk w47 ob ([.int .u8 ((n + 1 : Nat) : Int), .int .u32 ((s2.gen : Nat) : Int), .slice s2.A ((s2.X).length) (s2.c)]) 50 := (f355.no k47)
            have f374 : Bk w47 zb ([.int .i64 ((q + 1 : Nat) : Int), .int .i64 ((n : Nat) : Int), .int .u32 3, .string ({ data := #[109] }), .slice A_z ((L_z).length) (c_z)]) 70 := (f356.no k47)
            have f375 : Bk w47 ub ([.int .i64 0, .int .i64 0, .int .u32 0, .string ByteArray.empty, .slice none (0) (0)]) 70 := (f357.no k47)
            have f376 : Bk w47 rb ([.int .i64 ((q + 1 : Nat) : Int), .int .i64 ((n : Nat) : Int), .int .u32 3, .string ({ data := #[109] }), .slice none (0) (0)]) 70 := (f358.no k47)
            have o377 : Gt w47 := (o359.no k47)
            have o378 : Tb w47 b3_0 := (o360.no k47)
            have ob379 := (ob361.keptNo k47)
            refine ⟨⟨kk47, f367, f368, f369, f370, f371, f372, f373, f374, f375, f376, o377, o378, ob379⟩, ?_⟩
            refine D_one 10 (by kernel_rfl) (Nx_lo0 rfl (lo_storeRow (C := [.int .i64 ((q + 1 : Nat) : Int), .int .i64 ((n : Nat) : Int), .int .u32 3, .string ({ data := #[109] }), .slice A_k ((L_k).length) (c_k)]) f_kb_47 (by kernel_rfl) rfl rfl (by intro u hu; simp at hu; rcases hu with rfl | rfl | rfl | rfl | rfl <;> rfl) rfl) ?_)
            rintro _ w48 kf48
            obtain ⟨k48, f_kb_48⟩ := kf48
            replace f_kb_48 : Bk w48 kb ([.int .i64 ((q + 1 : Nat) : Int), .int .i64 ((n : Nat) : Int), .int .u32 3, .string ({ data := #[109] }), .slice A_k ((L_k).length) (c_k)]) 70 := f_kb_48
            have kk48 := kk47.trans k48 (fun i hi => .inr (hi ▸ (Nat.le_trans kk46.size N47.le)))
            have f380 : Bk w48 px (u8s X) 85 := (f367.on k48 (Ne.symm ne_kb_px))
            have f381 : Bk w48 po (u8s O) 86 := (f368.on k48 (Ne.symm ne_kb_po))
            have f382 : Bk w48 pb ([.int .i64 ((q + 1 : Nat) : Int), .int .i64 ((n : Nat) : Int), .int .u32 3]) 28 := (f369.on k48 (Ne.symm ne_kb_pb))
            have f383 : Bk w48 dd (u8s (List.replicate (32 * q) 0)) 5 := (f370.on k48 (Ne.symm ne_kb_dd))
            have f384 : Bk w48 pp ([.int .i64 ((q + 1 : Nat) : Int), .int .i64 ((n : Nat) : Int), .int .u32 3, .string ({ data := #[109] }), .slice none (0) (0)]) 70 := (f371.on k48 (Ne.symm ne_kb_pp))
            have f385 : Bk w48 yb ([.int .i64 ((q + 1 : Nat) : Int), .int .i64 ((n : Nat) : Int), .int .u32 3, .string ({ data := #[109] }), .slice A_y ((L_y).length) (c_y)]) 70 := (f372.on k48 (Ne.symm ne_kb_yb))
            have f386 : Bk w48 ob ([.int .u8 ((n + 1 : Nat) : Int), .int .u32 ((s2.gen : Nat) : Int), .slice s2.A ((s2.X).length) (s2.c)]) 50 := (f373.on k48 (Ne.symm ne_kb_ob))
            have f387 : Bk w48 zb ([.int .i64 ((q + 1 : Nat) : Int), .int .i64 ((n : Nat) : Int), .int .u32 3, .string ({ data := #[109] }), .slice A_z ((L_z).length) (c_z)]) 70 := (f374.on k48 (Ne.symm ne_kb_zb))
            have f388 : Bk w48 ub ([.int .i64 0, .int .i64 0, .int .u32 0, .string ByteArray.empty, .slice none (0) (0)]) 70 := (f375.on k48 (Ne.symm ne_kb_ub))
            have f389 : Bk w48 rb ([.int .i64 ((q + 1 : Nat) : Int), .int .i64 ((n : Nat) : Int), .int .u32 3, .string ({ data := #[109] }), .slice none (0) (0)]) 70 := (f376.on k48 (Ne.symm ne_kb_rb))
            have o390 : Gt w48 := (o377.on k48 (Ne.symm ne_kb_0))
            have o391 : Tb w48 b3_0 := (o378.on k48 (Ne.symm ne_kb_b3_0))
            have ob392 := (ob379.onN k48 ob361 N47.le)
            refine ⟨⟨kk48, f380, f381, f382, f383, f384, f385, f386, f387, f388, f389, o390, o391, ob392⟩, ?_⟩
            refine D_take 11 rfl (by kernel_rfl) (by kernel_rfl) (by kernel_rfl) (fun _ _ _ h => h) rfl (fun W hS => pu_assign rfl) ?_
            refine D_take 12 rfl (by kernel_rfl) (by kernel_rfl) (by kernel_rfl) (fun _ _ _ h => h) rfl (fun W hS => pu_assign rfl) ?_
            refine D_done (by kernel_rfl) ?_
            refine X_cut hK_ [(6, .bool false), (29, .nilIface)] (Sub.cons rfl (Sub.cons rfl (Sub.nil _))) ⟨rfl, kk48, f380, f381, f382, f383, f384, f385, f386, f387, f388, f389, o390, o391⟩
          · have f393 : Bk w45 px (u8s X) 85 := (f313.no k45)
            have f394 : Bk w45 po (u8s O) 86 := (f314.no k45)
            have f395 : Bk w45 pb ([.int .i64 ((q + 1 : Nat) : Int), .int .i64 ((n : Nat) : Int), .int .u32 3]) 28 := (f315.no k45)
            have f396 : Bk w45 dd (u8s (List.replicate (32 * q) 0)) 5 := (f316.no k45)
            have f397 : Bk w45 pp ([.int .i64 ((q + 1 : Nat) : Int), .int .i64 ((n : Nat) : Int), .int .u32 3, .string ({ data := #[109] }), .slice none (0) (0)]) 70 := (f317.no k45)
            have f398 : Bk w45 yb ([.int .i64 ((q + 1 : Nat) : Int), .int .i64 ((n : Nat) : Int), .int .u32 3, .string ({ data := #[109] }), .slice A_y ((L_y).length) (c_y)]) 70 := (f318.no k45)
            have f399 : Bk w45 ob ([.int .u8 ((n + 1 : Nat) : Int), .int .u32 ((s2.gen : Nat) : Int), .slice s2.A ((s2.X).length) (s2.c)]) 50 := (f319.no k45)
            have f400 : Bk w45 zb ([.int .i64 ((q + 1 : Nat) : Int), .int .i64 ((n : Nat) : Int), .int .u32 3, .string ({ data := #[109] }), .slice A_z ((L_z).length) (c_z)]) 70 := (f320.no k45)
            have f401 : Bk w45 ub ([.int .i64 0, .int .i64 0, .int .u32 0, .string ByteArray.empty, .slice none (0) (0)]) 70 := (f321.no k45)
            have f402 : Bk w45 rb ([.int .i64 ((q + 1 : Nat) : Int), .int .i64 ((n : Nat) : Int), .int .u32 3, .string ({ data := #[109] }), .slice none (0) (0)]) 70 := (f312.no k45)
            have o403 : Gt w45 := (o322.no k45)
            have o404 : Tb w45 b3_0 := (o323.no k45)
            have ob405 := (((((ob303.keptNo k41).onN k42 ob303 N41.le).keptNo k43).keptNo k44).keptNo k45)
            have ob406 := (((((ob304.keptNo k41).onN k42 ob304 N41.le).keptNo k43).keptNo k44).keptNo k45)
            have ob407 := (((((ob305.keptNo k41).onN k42 ob305 N41.le).keptNo k43).keptNo k44).keptNo k45)
            have ob408 := (((((ob306.keptNo k41).onN k42 ob306 N41.le).keptNo k43).keptNo k44).keptNo k45)
            refine Nx_lo rfl (lo_alloc (L := [.int .i64 0, .int .i64 0, .int .u32 0, .string ByteArray.empty, .slice none (0) (0)]) (by kernel_rfl)) rfl ?_
            rintro _ w49 ⟨kb, rfl, N49⟩
            have k49 := N49.kp
            have kk49 := kk45.then_ k49
            have ne_kb_px : kb ≠ px := Nat.ne_of_gt (Nat.lt_of_lt_of_le f393.lt N49.le)
            have ne_kb_po : kb ≠ po := Nat.ne_of_gt (Nat.lt_of_lt_of_le f394.lt N49.le)
            have ne_kb_pb : kb ≠ pb := Nat.ne_of_gt (Nat.lt_of_lt_of_le f395.lt N49.le)
            have ne_kb_dd : kb ≠ dd := Nat.ne_of_gt (Nat.lt_of_lt_of_le f396.lt N49.le)
            have ne_kb_pp : kb ≠ pp := Nat.ne_of_gt (Nat.lt_of_lt_of_le f397.lt N49.le)
            have ne_kb_yb : kb ≠ yb := Nat.ne_of_gt (Nat.lt_of_lt_of_le f398.lt N49.le)
            have ne_kb_ob : kb ≠ ob := Nat.ne_of_gt (Nat.lt_of_lt_of_le f399.lt N49.le)
            have ne_kb_zb : kb ≠ zb := Nat.ne_of_gt (Nat.lt_of_lt_of_le f400.lt N49.le)
            have ne_kb_ub : kb ≠ ub := Nat.ne_of_gt (Nat.lt_of_lt_of_le f401.lt N49.le)
            have ne_kb_rb : kb ≠ rb := Nat.ne_of_gt (Nat.lt_of_lt_of_le f402.lt N49.le)
            have ne_kb_0 : kb ≠ 0 := Nat.ne_of_gt (Nat.lt_of_lt_of_le o403.lt N49.le)
            have ne_kb_b3_0 : kb ≠ b3_0 := Nat.ne_of_gt (Nat.lt_of_lt_of_le o404.lt N49.le)
            have f_kb_49 : Bk w49 kb ([.int .i64 0, .int .i64 0, .int .u32 0, .string ByteArray.empty, .slice none (0) (0)]) 70 := N49.bk
            have f409 : Bk w49 px (u8s X) 85 := (f393.no k49)
            have f410 : Bk w49 po (u8s O) 86 := (f394.no k49)
            have f411 : Bk w49 pb ([.int .i64 ((q + 1 : Nat) : Int), .int .i64 ((n : Nat) : Int), .int .u32 3]) 28 := (f395.no k49)
            have f412 : Bk w49 dd (u8s (List.replicate (32 * q) 0)) 5 := (f396.no k49)
            have f413 : Bk w49 pp ([.int .i64 ((q + 1 : Nat) : Int), .int .i64 ((n : Nat) : Int), .int .u32 3, .string ({ data := #[109] }), .slice none (0) (0)]) 70 := (f397.no k49)
            have f414 : Bk w49 yb ([.int .i64 ((q + 1 : Nat) : Int), .int .i64 ((n : Nat) : Int), .int .u32 3, .string ({ data := #[109] }), .slice A_y ((L_y).length) (c_y)]) 70 := (f398.no k49)
            have f415 : Bk w49 ob ([.int .u8 ((n + 1 : Nat) : Int), .int .u32 ((s2.gen : Nat) : Int), .slice s2.A ((s2.X).length) (s2.c)]) 50 := (f399.no k49)
            have f416 : Bk w49 zb ([.int .i64 ((q + 1 : Nat) : Int), .int .i64 ((n : Nat) : Int), .int .u32 3, .string ({ data := #[109] }), .slice A_z ((L_z).length) (c_z)]) 70 := (f400.no k49)
            have f417 : Bk w49 ub ([.int .i64 0, .int .i64 0, .int .u32 0, .string ByteArray.empty, .slice none (0) (0)]) 70 := (f401.no k49)
            have f418 : Bk w49 rb ([.int .i64 ((q + 1 : Nat) : Int), .int .i64 ((n : Nat) : Int), .int .u32 3, .string ({ data := #[109] }), .slice none (0) (0)]) 70 := (f402.no k49)
            have o419 : Gt w49 := (o403.no k49)
            have o420 : Tb w49 b3_0 := (o404.no k49)
            have ob421 := (ob325.keptNo k49)
            refine ⟨⟨kk49, f409, f410, f411, f412, f413, f414, f415, f416, f417, f418, o419, o420, ob421⟩, ?_⟩
            have ob422 := (od_s3.keptNo k49)
            have k_s3 := key_at hK_x e_s3 (ptK_get (show 0 < n by omega)); have lx_s3 : s3.X.length = 32 := by rw [k_s3.2.2, ptX_length]; exact bX.1
            have lm423 := ob421.top
            have ob425 := (ob405.keptNo k49)
            have lm424 := ob425.top
            have ob427 := (ob406.keptNo k49)
            have lm426 := ob427.top
            have ob429 := (ob407.keptNo k49)
            have lm428 := ob429.top
            have ob431 := (ob408.keptNo k49)
            have lm430 := ob431.top
            have lm432 := ob422.top
            refine D_one 4 (by kernel_rfl) (Nx_lo rfl (lo_call (by kernel_rfl) rfl (submit_ok q n 3 ({ data := #[109] }) none ([] : List Shr) 0 s3.ix s3.gen s3.A s3.X s3.c _ (Ss.nil _ none) ob422.bs ob422.le.2 ⟨⟨⟨⟨by omega, by omega, by omega⟩, by decide, Nat.zero_le _, Nat.zero_le _⟩, Came.nil _ _⟩, ⟨by simp, k_s3.2.1, ⟨by simp [ixs], by rw [k_s3.1]; omega, by rw [k_s3.1]; omega, lx_s3⟩⟩, ok_s3.ix, by decide⟩)) rfl ?_)
            rintro _ w50 ⟨A_k, c_k, L_k, rfl, Q50, hK_k, k50⟩
            have kk50 := kk49.then_ k50
            have z433 : w49.heap.size ≤ w50.heap.size := k50.size
            have hl_k : L_k.length = 1 := by have := congrArg List.length hK_k; simpa using this
            have f434 : Bk w50 px (u8s X) 85 := (f409.no k50)
            have f435 : Bk w50 po (u8s O) 86 := (f410.no k50)
            have f436 : Bk w50 pb ([.int .i64 ((q + 1 : Nat) : Int), .int .i64 ((n : Nat) : Int), .int .u32 3]) 28 := (f411.no k50)
            have f437 : Bk w50 dd (u8s (List.replicate (32 * q) 0)) 5 := (f412.no k50)
            have f438 : Bk w50 pp ([.int .i64 ((q + 1 : Nat) : Int), .int .i64 ((n : Nat) : Int), .int .u32 3, .string ({ data := #[109] }), .slice none (0) (0)]) 70 := (f413.no k50)
            have f439 : Bk w50 yb ([.int .i64 ((q + 1 : Nat) : Int), .int .i64 ((n : Nat) : Int), .int .u32 3, .string ({ data := #[109] }), .slice A_y ((L_y).length) (c_y)]) 70 := (f414.no k50)
            have f440 : Bk w50 ob ([.int .u8 ((n + 1 : Nat) : Int), .int .u32 ((s2.gen : Nat) : Int), .slice s2.A ((s2.X).length) (s2.c)]) 50 := (f415.no k50)
            have f441 : Bk w50 zb ([.int .i64 ((q + 1 : Nat) : Int), .int .i64 ((n : Nat) : Int), .int .u32 3, .string ({ data := #[109] }), .slice A_z ((L_z).length) (c_z)]) 70 := (f416.no k50)
            have f442 : Bk w50 ub ([.int .i64 0, .int .i64 0, .int .u32 0, .string ByteArray.empty, .slice none (0) (0)]) 70 := (f417.no k50)
            have f443 : Bk w50 rb ([.int .i64 ((q + 1 : Nat) : Int), .int .i64 ((n : Nat) : Int), .int .u32 3, .string ({ data := #[109] }), .slice none (0) (0)]) 70 := (f418.no k50)
            have o444 : Gt w50 := (o419.no k50)
            have o445 : Tb w50 b3_0 := (o420.no k50)
            have ob446 := (ob421.keptNo k50)
            refine ⟨⟨kk50, f434, f435, f436, f437, f438, f439, f440, f441, f442, f443, o444, o445, ob446⟩, ?_⟩
            refine D_take 5 rfl (by kernel_rfl) (by kernel_rfl) (by kernel_rfl) (fun _ _ _ h => h) rfl (fun W hS => pu_move rfl) ?_
            refine D_take 6 rfl (by kernel_rfl) (by kernel_rfl) (by kernel_rfl) (fun _ _ _ h => h) rfl (fun W hS => pu_extract rfl rfl) ?_
            refine D_take 7 rfl (by kernel_rfl) (by kernel_rfl) (by kernel_rfl) (fun _ _ _ h => h) rfl (fun W hS => pu_extract rfl rfl) ?_
            refine D_take 8 rfl (by kernel_rfl) (by kernel_rfl) (by kernel_rfl) (fun _ _ _ h => h) rfl (fun W hS => pu_extract rfl rfl) ?_
            have f447 : Bk w50 kb ([.int .i64 0, .int .i64 0, .int .u32 0, .string ByteArray.empty, .slice none (0) (0)]) 70 := (f_kb_49.no k50)
            refine D_one 10 (by kernel_rfl) (Nx_lo0 rfl (lo_storeRow (C := [.int .i64 ((q + 1 : Nat) : Int), .int .i64 ((n : Nat) : Int), .int .u32 3, .string ({ data := #[109] }), .slice A_k ((L_k).length) (c_k)]) f447 (by kernel_rfl) rfl rfl (by intro u hu; simp at hu; rcases hu with rfl | rfl | rfl | rfl | rfl <;> rfl) rfl) ?_)
            rintro _ w51 kf51
            obtain ⟨k51, f_kb_51⟩ := kf51
            replace f_kb_51 : Bk w51 kb ([.int .i64 ((q + 1 : Nat) : Int), .int .i64 ((n : Nat) : Int), .int .u32 3, .string ({ data := #[109] }), .slice A_k ((L_k).length) (c_k)]) 70 := f_kb_51
            have kk51 := kk50.trans k51 (fun i hi => .inr (hi ▸ (Nat.le_trans kk45.size N49.le)))
            have f448 : Bk w51 px (u8s X) 85 := (f434.on k51 (Ne.symm ne_kb_px))
            have f449 : Bk w51 po (u8s O) 86 := (f435.on k51 (Ne.symm ne_kb_po))
            have f450 : Bk w51 pb ([.int .i64 ((q + 1 : Nat) : Int), .int .i64 ((n : Nat) : Int), .int .u32 3]) 28 := (f436.on k51 (Ne.symm ne_kb_pb))
            have f451 : Bk w51 dd (u8s (List.replicate (32 * q) 0)) 5 := (f437.on k51 (Ne.symm ne_kb_dd))
            have f452 : Bk w51 pp ([.int .i64 ((q + 1 : Nat) : Int), .int .i64 ((n : Nat) : Int), .int .u32 3, .string ({ data := #[109] }), .slice none (0) (0)]) 70 := (f438.on k51 (Ne.symm ne_kb_pp))
            have f453 : Bk w51 yb ([.int .i64 ((q + 1 : Nat) : Int), .int .i64 ((n : Nat) : Int), .int .u32 3, .string ({ data := #[109] }), .slice A_y ((L_y).length) (c_y)]) 70 := (f439.on k51 (Ne.symm ne_kb_yb))
            have f454 : Bk w51 ob ([.int .u8 ((n + 1 : Nat) : Int), .int .u32 ((s2.gen : Nat) : Int), .slice s2.A ((s2.X).length) (s2.c)]) 50 := (f440.on k51 (Ne.symm ne_kb_ob))
            have f455 : Bk w51 zb ([.int .i64 ((q + 1 : Nat) : Int), .int .i64 ((n : Nat) : Int), .int .u32 3, .string ({ data := #[109] }), .slice A_z ((L_z).length) (c_z)]) 70 := (f441.on k51 (Ne.symm ne_kb_zb))
            have f456 : Bk w51 ub ([.int .i64 0, .int .i64 0, .int .u32 0, .string ByteArray.empty, .slice none (0) (0)]) 70 := (f442.on k51 (Ne.symm ne_kb_ub))
            have f457 : Bk w51 rb ([.int .i64 ((q + 1 : Nat) : Int), .int .i64 ((n : Nat) : Int), .int .u32 3, .string ({ data := #[109] }), .slice none (0) (0)]) 70 := (f443.on k51 (Ne.symm ne_kb_rb))
            have o458 : Gt w51 := (o444.on k51 (Ne.symm ne_kb_0))
            have o459 : Tb w51 b3_0 := (o445.on k51 (Ne.symm ne_kb_b3_0))
            have ob460 := (ob446.onN k51 ob325 N49.le)
            refine ⟨⟨kk51, f448, f449, f450, f451, f452, f453, f454, f455, f456, f457, o458, o459, ob460⟩, ?_⟩
            refine D_take 11 rfl (by kernel_rfl) (by kernel_rfl) (by kernel_rfl) (fun _ _ _ h => h) rfl (fun W hS => pu_assign rfl) ?_
            refine D_take 12 rfl (by kernel_rfl) (by kernel_rfl) (by kernel_rfl) (fun _ _ _ h => h) rfl (fun W hS => pu_assign rfl) ?_
            refine D_done (by kernel_rfl) ?_
            refine X_cut hK_ [(6, .bool false), (29, .nilIface)] (Sub.cons rfl (Sub.cons rfl (Sub.nil _))) ⟨rfl, kk51, f448, f449, f450, f451, f452, f453, f454, f455, f456, f457, o458, o459⟩
        · rintro _ w52 ⟨rfl, kk52, f_px_52, f_po_52, f_pb_52, f_dd_52, f_pp_52, f_yb_52, f_ob_52, f_zb_52, f_ub_52, f_rb_52, G_52, T_b3_0_52⟩
          refine C_seq (fun K461 hK461 => ?_)
          refine C_region ?_
          refine R_pu (pu_move rfl) rfl ?_
          refine R_pu (pu_eqlnn (by kernel_rfl) rfl) rfl ?_
          refine R_pu (pu_move rfl) rfl ?_
          refine R_glo rfl rfl (lo_call (by kernel_rfl) rfl (sure23 _ G_52)) rfl ?_
          rintro _ w53 ⟨rfl, k53⟩
          have kk53 := kk52.then_ k53
          refine R_pu (pu_pickt rfl rfl) rfl ?_
          refine R_pu (pu_assign rfl) rfl ?_
          refine R_nil ?_
          refine X_then hK461 ?_
          refine C_ret ?_
          exact X_ret1 (.inl rfl) rfl rfl ⟨rfl, kk53⟩
    · have f462 : Bk w23 yb ([.int .i64 ((q + 1 : Nat) : Int), .int .i64 ((n : Nat) : Int), .int .u32 3, .string ({ data := #[109] }), .slice A_y ((L_y).length) (c_y)]) 70 := (((f_yb_20.no k21).on k22 (Ne.symm ne_ob_yb)).on k23 (Ne.symm ne_ob_yb))
      refine R_pu (pu_loadRow (len := 5) f462 (by kernel_rfl) (by kernel_rfl) rfl rfl) rfl ?_
      refine R_pu (pu_loadRow (len := 3) f_ob_23 (by kernel_rfl) (by kernel_rfl) rfl rfl) rfl ?_
      have ob463 := (((y_20.1.keptNo k21).onN k22 y_20.1 N21.le).onN k23 y_20.1 N21.le)
      have ob464 := (((od_s1.keptNo k21).onN k22 od_s1 N21.le).onN k23 od_s1 N21.le)
      have k_s1 := key_at hK_x e_s1 (ptK_get (show 1 < n by omega)); have lx_s1 : s1.X.length = 32 := by rw [k_s1.2.2, ptX_length]; exact bX.1
      refine R_lo (lo_call (by kernel_rfl) rfl (submit_gen q n 3 ({ data := #[109] }) A_y L_y c_y ({ data := #[109] }) s1.ix ge s1.A s1.X s1.c _ ob463.ss ⟨⟨⟨⟨by omega, by omega, by omega⟩, by decide, by omega, by have := ob463.le; omega⟩, hcy⟩, rfl, ⟨by omega, hg3⟩, ok_s1.ix, by omega, by decide⟩)) rfl ?_
      rintro _ w54 ⟨rfl, k54⟩
      have kk54 := kk23.then_ k54
      refine R_pu (pu_move rfl) rfl ?_
      refine R_pu (pu_extract rfl rfl) rfl ?_
      refine R_pu (pu_extract rfl rfl) rfl ?_
      refine R_pu (pu_extract rfl rfl) rfl ?_
      have f465 : Bk w54 px (u8s X) 85 := ((((f_px_20.no k21).on k22 (Ne.symm ne_ob_px)).on k23 (Ne.symm ne_ob_px)).no k54)
      have f466 : Bk w54 po (u8s O) 86 := ((((f_po_20.no k21).on k22 (Ne.symm ne_ob_po)).on k23 (Ne.symm ne_ob_po)).no k54)
      have f467 : Bk w54 pb ([.int .i64 ((q + 1 : Nat) : Int), .int .i64 ((n : Nat) : Int), .int .u32 3]) 28 := ((((f_pb_20.no k21).on k22 (Ne.symm ne_ob_pb)).on k23 (Ne.symm ne_ob_pb)).no k54)
      have f468 : Bk w54 dd (u8s (List.replicate (32 * q) 0)) 5 := ((((f_dd_20.no k21).on k22 (Ne.symm ne_ob_dd)).on k23 (Ne.symm ne_ob_dd)).no k54)
      have f469 : Bk w54 pp ([.int .i64 ((q + 1 : Nat) : Int), .int .i64 ((n : Nat) : Int), .int .u32 3, .string ({ data := #[109] }), .slice none (0) (0)]) 70 := ((((f_pp_20.no k21).on k22 (Ne.symm ne_ob_pp)).on k23 (Ne.symm ne_ob_pp)).no k54)
      have f470 : Bk w54 yb ([.int .i64 ((q + 1 : Nat) : Int), .int .i64 ((n : Nat) : Int), .int .u32 3, .string ({ data := #[109] }), .slice A_y ((L_y).length) (c_y)]) 70 := (f462.no k54)
      have f471 : Bk w54 ob ([.int .u8 ((s1.ix : Nat) : Int), .int .u32 ((ge : Nat) : Int), .slice s1.A ((s1.X).length) (s1.c)]) 50 := (f_ob_23.no k54)
      have o472 : Gt w54 := ((((G_20.no k21).on k22 (Ne.symm ne_ob_0)).on k23 (Ne.symm ne_ob_0)).no k54)
      have o473 : Tb w54 b3_0 := ((((T_b3_0_20.no k21).on k22 (Ne.symm ne_ob_b3_0)).on k23 (Ne.symm ne_ob_b3_0)).no k54)
      have ob474 := ((((x_20.1.keptNo k21).onN k22 x_20.1 N21.le).onN k23 x_20.1 N21.le).keptNo k54)
      have ob475 := (ob463.keptNo k54)
      have ob476 := (ob464.keptNo k54)
      refine R_lo (lo_alloc (L := [.int .i64 0, .int .i64 0, .int .u32 0, .string ByteArray.empty, .slice none (0) (0)]) (by kernel_rfl)) rfl ?_
      rintro _ w55 ⟨zb, rfl, N55⟩
      have k55 := N55.kp
      have kk55 := kk54.then_ k55
      have ne_zb_px : zb ≠ px := Nat.ne_of_gt (Nat.lt_of_lt_of_le f465.lt N55.le)
      have ne_zb_po : zb ≠ po := Nat.ne_of_gt (Nat.lt_of_lt_of_le f466.lt N55.le)
      have ne_zb_pb : zb ≠ pb := Nat.ne_of_gt (Nat.lt_of_lt_of_le f467.lt N55.le)
      have ne_zb_dd : zb ≠ dd := Nat.ne_of_gt (Nat.lt_of_lt_of_le f468.lt N55.le)
      have ne_zb_pp : zb ≠ pp := Nat.ne_of_gt (Nat.lt_of_lt_of_le f469.lt N55.le)
      have ne_zb_yb : zb ≠ yb := Nat.ne_of_gt (Nat.lt_of_lt_of_le f470.lt N55.le)
      have ne_zb_ob : zb ≠ ob := Nat.ne_of_gt (Nat.lt_of_lt_of_le f471.lt N55.le)
      have ne_zb_0 : zb ≠ 0 := Nat.ne_of_gt (Nat.lt_of_lt_of_le o472.lt N55.le)
      have ne_zb_b3_0 : zb ≠ b3_0 := Nat.ne_of_gt (Nat.lt_of_lt_of_le o473.lt N55.le)
      have f_zb_55 : Bk w55 zb ([.int .i64 0, .int .i64 0, .int .u32 0, .string ByteArray.empty, .slice none (0) (0)]) 70 := N55.bk
      refine R_lo0 (lo_storeRow (C := [.int .i64 0, .int .i64 0, .int .u32 0, .string ByteArray.empty, .slice none (0) (0)]) f_zb_55 (by kernel_rfl) rfl rfl (by intro u hu; simp at hu; rcases hu with rfl | rfl | rfl | rfl | rfl <;> rfl) rfl) ?_
      rintro _ w56 kf56
      obtain ⟨k56, f_zb_56⟩ := kf56
      replace f_zb_56 : Bk w56 zb ([.int .i64 0, .int .i64 0, .int .u32 0, .string ByteArray.empty, .slice none (0) (0)]) 70 := f_zb_56
      have kk56 := kk55.trans k56 (fun i hi => .inr (hi ▸ (Nat.le_trans kk54.size N55.le)))
      refine R_pu (pu_assign rfl) rfl ?_
      refine R_pu (pu_assign rfl) rfl ?_
      refine R_nil ?_
      refine X_then hK134 ?_
      refine C_cut (fun l_ wr => (l_ = [(2, .int .u32 ((ge : Nat) : Int)), (6, .bool false), (7, .pointer (some ⟨pb, 0, none⟩)), (9, .slice A_x ((L_x).length) (c_x)), (13, .pointer (some ⟨yb, 0, none⟩)), (15, .nilIface), (16, .pointer (some ⟨ob, 0, none⟩)), (19, .iface 91 (.int .i64 14)), (22, .iface 91 (.int .i64 15))]) ∧ (Kp No w wr) ∧ (Bk wr px (u8s X) 85) ∧ (Bk wr po (u8s O) 86) ∧ (Bk wr pb ([.int .i64 ((q + 1 : Nat) : Int), .int .i64 ((n : Nat) : Int), .int .u32 3]) 28) ∧ (Bk wr dd (u8s (List.replicate (32 * q) 0)) 5) ∧ (Bk wr pp ([.int .i64 ((q + 1 : Nat) : Int), .int .i64 ((n : Nat) : Int), .int .u32 3, .string ({ data := #[109] }), .slice none (0) (0)]) 70) ∧ (Bk wr yb ([.int .i64 ((q + 1 : Nat) : Int), .int .i64 ((n : Nat) : Int), .int .u32 3, .string ({ data := #[109] }), .slice A_y ((L_y).length) (c_y)]) 70) ∧ (Bk wr ob ([.int .u8 ((s1.ix : Nat) : Int), .int .u32 ((ge : Nat) : Int), .slice s1.A ((s1.X).length) (s1.c)]) 50) ∧ (Bk wr zb ([.int .i64 0, .int .i64 0, .int .u32 0, .string ByteArray.empty, .slice none (0) (0)]) 70) ∧ (Sw 50 w8.heap.size wr w8.heap.size (.slice A_x ((L_x).length) (c_x)) (L_x) ∧ w8.heap.size ≤ (wr).heap.size) ∧ (Sw 50 w12.heap.size wr w12.heap.size (.slice A_y ((L_y).length) (c_y)) (L_y) ∧ w12.heap.size ≤ (wr).heap.size) ∧ (Od wr w8.heap.size (.slice s1.A ((s1.X).length) (s1.c)) (s1.X) ∧ True) ∧ (Gt wr) ∧ (Tb wr b3_0)) (fun K_ hK_ => ?_) ?_
      · have f477 : Bk w56 px (u8s X) 85 := ((f465.no k55).on k56 (Ne.symm ne_zb_px))
        have f478 : Bk w56 po (u8s O) 86 := ((f466.no k55).on k56 (Ne.symm ne_zb_po))
        have f479 : Bk w56 pb ([.int .i64 ((q + 1 : Nat) : Int), .int .i64 ((n : Nat) : Int), .int .u32 3]) 28 := ((f467.no k55).on k56 (Ne.symm ne_zb_pb))
        have f480 : Bk w56 dd (u8s (List.replicate (32 * q) 0)) 5 := ((f468.no k55).on k56 (Ne.symm ne_zb_dd))
        have f481 : Bk w56 pp ([.int .i64 ((q + 1 : Nat) : Int), .int .i64 ((n : Nat) : Int), .int .u32 3, .string ({ data := #[109] }), .slice none (0) (0)]) 70 := ((f469.no k55).on k56 (Ne.symm ne_zb_pp))
        have f482 : Bk w56 yb ([.int .i64 ((q + 1 : Nat) : Int), .int .i64 ((n : Nat) : Int), .int .u32 3, .string ({ data := #[109] }), .slice A_y ((L_y).length) (c_y)]) 70 := ((f470.no k55).on k56 (Ne.symm ne_zb_yb))
        have f483 : Bk w56 ob ([.int .u8 ((s1.ix : Nat) : Int), .int .u32 ((ge : Nat) : Int), .slice s1.A ((s1.X).length) (s1.c)]) 50 := ((f471.no k55).on k56 (Ne.symm ne_zb_ob))
        have o484 : Gt w56 := ((o472.no k55).on k56 (Ne.symm ne_zb_0))
        have o485 : Tb w56 b3_0 := ((o473.no k55).on k56 (Ne.symm ne_zb_b3_0))
        have ob486 := ((ob474.keptNo k55).onN k56 ob474 N55.le)
        refine D_begin (fun W => Kp No w W ∧ Bk W px (u8s X) 85 ∧ Bk W po (u8s O) 86 ∧ Bk W pb ([.int .i64 ((q + 1 : Nat) : Int), .int .i64 ((n : Nat) : Int), .int .u32 3]) 28 ∧ Bk W dd (u8s (List.replicate (32 * q) 0)) 5 ∧ Bk W pp ([.int .i64 ((q + 1 : Nat) : Int), .int .i64 ((n : Nat) : Int), .int .u32 3, .string ({ data := #[109] }), .slice none (0) (0)]) 70 ∧ Bk W yb ([.int .i64 ((q + 1 : Nat) : Int), .int .i64 ((n : Nat) : Int), .int .u32 3, .string ({ data := #[109] }), .slice A_y ((L_y).length) (c_y)]) 70 ∧ Bk W ob ([.int .u8 ((s1.ix : Nat) : Int), .int .u32 ((ge : Nat) : Int), .slice s1.A ((s1.X).length) (s1.c)]) 50 ∧ Bk W zb ([.int .i64 0, .int .i64 0, .int .u32 0, .string ByteArray.empty, .slice none (0) (0)]) 70 ∧ Gt W ∧ Tb W b3_0 ∧ Sw 50 w8.heap.size W w8.heap.size (.slice A_x ((L_x).length) (c_x)) (L_x)) 13 rfl (by kernel_rfl) ⟨kk56.drew, f477.draw, f478.draw, f479.draw, f480.draw, f481.draw, f482.draw, f483.draw, f_zb_56.draw, o484.draw, o485.draw, ob486.draw⟩ ?_
        intro w57 k57 _
        have kk57 := kk56.then_ k57
        refine D_take 0 rfl (by kernel_rfl) (by kernel_rfl) (by kernel_rfl) (fun _ _ _ h => h) rfl (fun W hS => pu_loadRow (len := 5) hS.2.2.2.2.2.2.1 (by kernel_rfl) (by kernel_rfl) rfl rfl) ?_
        refine D_take 1 rfl (by kernel_rfl) (by kernel_rfl) (by kernel_rfl) (fun _ _ _ h => h) rfl (fun W hS => pu_move rfl) ?_
        have ob487 := (ob486.keptNo k57)
        refine D_take 2 rfl (by kernel_rfl) (by kernel_rfl) (by kernel_rfl) (fun _ _ _ h => h) rfl (fun W hS => pu_indexAddrH hS.2.2.2.2.2.2.2.2.2.2.2.ss Tryd.underlying29 (by kernel_rfl) rfl rfl rfl rfl e_s1) ?_
        refine D_take 3 rfl (by kernel_rfl) (by kernel_rfl) (by kernel_rfl) (fun _ _ _ h => h) rfl (fun W hS => pu_loadHr hS.2.2.2.2.2.2.2.2.2.2.2.ss e_s1 (by kernel_rfl) (by kernel_rfl) rfl) ?_
        refine D_two 4 9 (by kernel_rfl) ?_ ?_
        · have ob488 := (((ob475.keptNo k55).onN k56 ob475 N55.le).keptNo k57)
          have ob489 := (((ob476.keptNo k55).onN k56 ob476 N55.le).keptNo k57)
          refine Nx_lo rfl (lo_call (by kernel_rfl) rfl (submit_state q n 3 ({ data := #[109] }) A_y L_y c_y ({ data := #[110] }) s1.ix s1.gen s1.A s1.X s1.c _ ob488.ss ⟨⟨⟨⟨by omega, by omega, by omega⟩, by decide, by omega, by have := ob488.le; omega⟩, hcy⟩, .inl (by decide), by decide⟩)) rfl ?_
          rintro _ w58 ⟨rfl, k58⟩
          have kk58 := kk57.then_ k58
          have f490 : Bk w58 px (u8s X) 85 := ((f477.no k57).no k58)
          have f491 : Bk w58 po (u8s O) 86 := ((f478.no k57).no k58)
          have f492 : Bk w58 pb ([.int .i64 ((q + 1 : Nat) : Int), .int .i64 ((n : Nat) : Int), .int .u32 3]) 28 := ((f479.no k57).no k58)
          have f493 : Bk w58 dd (u8s (List.replicate (32 * q) 0)) 5 := ((f480.no k57).no k58)
          have f494 : Bk w58 pp ([.int .i64 ((q + 1 : Nat) : Int), .int .i64 ((n : Nat) : Int), .int .u32 3, .string ({ data := #[109] }), .slice none (0) (0)]) 70 := ((f481.no k57).no k58)
          have f495 : Bk w58 yb ([.int .i64 ((q + 1 : Nat) : Int), .int .i64 ((n : Nat) : Int), .int .u32 3, .string ({ data := #[109] }), .slice A_y ((L_y).length) (c_y)]) 70 := ((f482.no k57).no k58)
          have f496 : Bk w58 ob ([.int .u8 ((s1.ix : Nat) : Int), .int .u32 ((ge : Nat) : Int), .slice s1.A ((s1.X).length) (s1.c)]) 50 := ((f483.no k57).no k58)
          have f497 : Bk w58 zb ([.int .i64 0, .int .i64 0, .int .u32 0, .string ByteArray.empty, .slice none (0) (0)]) 70 := ((f_zb_56.no k57).no k58)
          have o498 : Gt w58 := ((o484.no k57).no k58)
          have o499 : Tb w58 b3_0 := ((o485.no k57).no k58)
          have ob500 := (ob487.keptNo k58)
          refine ⟨⟨kk58, f490, f491, f492, f493, f494, f495, f496, f497, o498, o499, ob500⟩, ?_⟩
          refine D_take 5 rfl (by kernel_rfl) (by kernel_rfl) (by kernel_rfl) (fun _ _ _ h => h) rfl (fun W hS => pu_move rfl) ?_
          refine D_take 6 rfl (by kernel_rfl) (by kernel_rfl) (by kernel_rfl) (fun _ _ _ h => h) rfl (fun W hS => pu_extract rfl rfl) ?_
          refine D_take 7 rfl (by kernel_rfl) (by kernel_rfl) (by kernel_rfl) (fun _ _ _ h => h) rfl (fun W hS => pu_extract rfl rfl) ?_
          refine D_take 8 rfl (by kernel_rfl) (by kernel_rfl) (by kernel_rfl) (fun _ _ _ h => h) rfl (fun W hS => pu_extract rfl rfl) ?_
          have ob501 := (ob488.keptNo k58)
          have ob502 := (ob489.keptNo k58)
          refine D_one 9 (by kernel_rfl) (Nx_lo rfl (lo_alloc (L := [.int .i64 0, .int .i64 0, .int .u32 0, .string ByteArray.empty, .slice none (0) (0)]) (by kernel_rfl)) rfl ?_)
          rintro _ w59 ⟨vb, rfl, N59⟩
          have k59 := N59.kp
          have kk59 := kk58.then_ k59
          have ne_vb_px : vb ≠ px := Nat.ne_of_gt (Nat.lt_of_lt_of_le f490.lt N59.le)
          have ne_vb_po : vb ≠ po := Nat.ne_of_gt (Nat.lt_of_lt_of_le f491.lt N59.le)
          have ne_vb_pb : vb ≠ pb := Nat.ne_of_gt (Nat.lt_of_lt_of_le f492.lt N59.le)
          have ne_vb_dd : vb ≠ dd := Nat.ne_of_gt (Nat.lt_of_lt_of_le f493.lt N59.le)
          have ne_vb_pp : vb ≠ pp := Nat.ne_of_gt (Nat.lt_of_lt_of_le f494.lt N59.le)
          have ne_vb_yb : vb ≠ yb := Nat.ne_of_gt (Nat.lt_of_lt_of_le f495.lt N59.le)
          have ne_vb_ob : vb ≠ ob := Nat.ne_of_gt (Nat.lt_of_lt_of_le f496.lt N59.le)
          have ne_vb_zb : vb ≠ zb := Nat.ne_of_gt (Nat.lt_of_lt_of_le f497.lt N59.le)
          have ne_vb_0 : vb ≠ 0 := Nat.ne_of_gt (Nat.lt_of_lt_of_le o498.lt N59.le)
          have ne_vb_b3_0 : vb ≠ b3_0 := Nat.ne_of_gt (Nat.lt_of_lt_of_le o499.lt N59.le)
          have f_vb_59 : Bk w59 vb ([.int .i64 0, .int .i64 0, .int .u32 0, .string ByteArray.empty, .slice none (0) (0)]) 70 := N59.bk
          have f503 : Bk w59 px (u8s X) 85 := (f490.no k59)
          have f504 : Bk w59 po (u8s O) 86 := (f491.no k59)
          have f505 : Bk w59 pb ([.int .i64 ((q + 1 : Nat) : Int), .int .i64 ((n : Nat) : Int), .int .u32 3]) 28 := (f492.no k59)
          have f506 : Bk w59 dd (u8s (List.replicate (32 * q) 0)) 5 := (f493.no k59)
          have f507 : Bk w59 pp ([.int .i64 ((q + 1 : Nat) : Int), .int .i64 ((n : Nat) : Int), .int .u32 3, .string ({ data := #[109] }), .slice none (0) (0)]) 70 := (f494.no k59)
          have f508 : Bk w59 yb ([.int .i64 ((q + 1 : Nat) : Int), .int .i64 ((n : Nat) : Int), .int .u32 3, .string ({ data := #[109] }), .slice A_y ((L_y).length) (c_y)]) 70 := (f495.no k59)
          have f509 : Bk w59 ob ([.int .u8 ((s1.ix : Nat) : Int), .int .u32 ((ge : Nat) : Int), .slice s1.A ((s1.X).length) (s1.c)]) 50 := (f496.no k59)
          have f510 : Bk w59 zb ([.int .i64 0, .int .i64 0, .int .u32 0, .string ByteArray.empty, .slice none (0) (0)]) 70 := (f497.no k59)
          have o511 : Gt w59 := (o498.no k59)
          have o512 : Tb w59 b3_0 := (o499.no k59)
          have ob513 := (ob500.keptNo k59)
          refine ⟨⟨kk59, f503, f504, f505, f506, f507, f508, f509, f510, o511, o512, ob513⟩, ?_⟩
          refine D_one 10 (by kernel_rfl) (Nx_lo0 rfl (lo_storeRow (C := [.int .i64 0, .int .i64 0, .int .u32 0, .string ByteArray.empty, .slice none (0) (0)]) f_vb_59 (by kernel_rfl) rfl rfl (by intro u hu; simp at hu; rcases hu with rfl | rfl | rfl | rfl | rfl <;> rfl) rfl) ?_)
          rintro _ w60 kf60
          obtain ⟨k60, f_vb_60⟩ := kf60
          replace f_vb_60 : Bk w60 vb ([.int .i64 0, .int .i64 0, .int .u32 0, .string ByteArray.empty, .slice none (0) (0)]) 70 := f_vb_60
          have kk60 := kk59.trans k60 (fun i hi => .inr (hi ▸ (Nat.le_trans kk58.size N59.le)))
          have f514 : Bk w60 px (u8s X) 85 := (f503.on k60 (Ne.symm ne_vb_px))
          have f515 : Bk w60 po (u8s O) 86 := (f504.on k60 (Ne.symm ne_vb_po))
          have f516 : Bk w60 pb ([.int .i64 ((q + 1 : Nat) : Int), .int .i64 ((n : Nat) : Int), .int .u32 3]) 28 := (f505.on k60 (Ne.symm ne_vb_pb))
          have f517 : Bk w60 dd (u8s (List.replicate (32 * q) 0)) 5 := (f506.on k60 (Ne.symm ne_vb_dd))
          have f518 : Bk w60 pp ([.int .i64 ((q + 1 : Nat) : Int), .int .i64 ((n : Nat) : Int), .int .u32 3, .string ({ data := #[109] }), .slice none (0) (0)]) 70 := (f507.on k60 (Ne.symm ne_vb_pp))
          have f519 : Bk w60 yb ([.int .i64 ((q + 1 : Nat) : Int), .int .i64 ((n : Nat) : Int), .int .u32 3, .string ({ data := #[109] }), .slice A_y ((L_y).length) (c_y)]) 70 := (f508.on k60 (Ne.symm ne_vb_yb))
          have f520 : Bk w60 ob ([.int .u8 ((s1.ix : Nat) : Int), .int .u32 ((ge : Nat) : Int), .slice s1.A ((s1.X).length) (s1.c)]) 50 := (f509.on k60 (Ne.symm ne_vb_ob))
          have f521 : Bk w60 zb ([.int .i64 0, .int .i64 0, .int .u32 0, .string ByteArray.empty, .slice none (0) (0)]) 70 := (f510.on k60 (Ne.symm ne_vb_zb))
          have o522 : Gt w60 := (o511.on k60 (Ne.symm ne_vb_0))
          have o523 : Tb w60 b3_0 := (o512.on k60 (Ne.symm ne_vb_b3_0))
          have ob524 := (ob513.onN k60 ob500 N59.le)
          refine ⟨⟨kk60, f514, f515, f516, f517, f518, f519, f520, f521, o522, o523, ob524⟩, ?_⟩
          refine D_take 11 rfl (by kernel_rfl) (by kernel_rfl) (by kernel_rfl) (fun _ _ _ h => h) rfl (fun W hS => pu_assign rfl) ?_
          refine D_take 12 rfl (by kernel_rfl) (by kernel_rfl) (by kernel_rfl) (fun _ _ _ h => h) rfl (fun W hS => pu_assign rfl) ?_
          refine D_done (by kernel_rfl) ?_
          have ob525 := ((ob501.keptNo k59).onN k60 ob501 N59.le)
          have ob526 := ((ob502.keptNo k59).onN k60 ob502 N59.le)
          refine X_cut hK_ [(2, .int .u32 ((ge : Nat) : Int)), (6, .bool false), (7, .pointer (some ⟨pb, 0, none⟩)), (9, .slice A_x ((L_x).length) (c_x)), (13, .pointer (some ⟨yb, 0, none⟩)), (15, .nilIface), (16, .pointer (some ⟨ob, 0, none⟩)), (19, .iface 91 (.int .i64 14)), (22, .iface 91 (.int .i64 15))] (Sub.cons rfl (Sub.cons rfl (Sub.cons rfl (Sub.cons rfl (Sub.cons rfl (Sub.cons rfl (Sub.cons rfl (Sub.cons rfl (Sub.cons rfl (Sub.nil _)))))))))) ⟨rfl, kk60, f514, f515, f516, f517, f518, f519, f520, f521, ⟨ob524, (Nat.le_trans (Nat.le_trans (Nat.le_trans (Nat.le_trans (Nat.le_trans (Nat.le_trans (Nat.le_trans (Nat.le_trans (Nat.le_trans (Nat.le_trans x_20.2 k21.size) k22.size) k23.size) k54.size) k55.size) k56.size) k57.size) k58.size) k59.size) k60.size)⟩, ⟨ob525, (Nat.le_trans (Nat.le_trans (Nat.le_trans (Nat.le_trans (Nat.le_trans (Nat.le_trans (Nat.le_trans (Nat.le_trans (Nat.le_trans (Nat.le_trans y_20.2 k21.size) k22.size) k23.size) k54.size) k55.size) k56.size) k57.size) k58.size) k59.size) k60.size)⟩, ⟨ob526, trivial⟩, o522, o523⟩
        · have f527 : Bk w57 px (u8s X) 85 := (f477.no k57)
          have f528 : Bk w57 po (u8s O) 86 := (f478.no k57)
          have f529 : Bk w57 pb ([.int .i64 ((q + 1 : Nat) : Int), .int .i64 ((n : Nat) : Int), .int .u32 3]) 28 := (f479.no k57)
          have f530 : Bk w57 dd (u8s (List.replicate (32 * q) 0)) 5 := (f480.no k57)
          have f531 : Bk w57 pp ([.int .i64 ((q + 1 : Nat) : Int), .int .i64 ((n : Nat) : Int), .int .u32 3, .string ({ data := #[109] }), .slice none (0) (0)]) 70 := (f481.no k57)
          have f532 : Bk w57 yb ([.int .i64 ((q + 1 : Nat) : Int), .int .i64 ((n : Nat) : Int), .int .u32 3, .string ({ data := #[109] }), .slice A_y ((L_y).length) (c_y)]) 70 := (f482.no k57)
          have f533 : Bk w57 ob ([.int .u8 ((s1.ix : Nat) : Int), .int .u32 ((ge : Nat) : Int), .slice s1.A ((s1.X).length) (s1.c)]) 50 := (f483.no k57)
          have f534 : Bk w57 zb ([.int .i64 0, .int .i64 0, .int .u32 0, .string ByteArray.empty, .slice none (0) (0)]) 70 := (f_zb_56.no k57)
          have o535 : Gt w57 := (o484.no k57)
          have o536 : Tb w57 b3_0 := (o485.no k57)
          have ob537 := (((ob475.keptNo k55).onN k56 ob475 N55.le).keptNo k57)
          have ob538 := (((ob476.keptNo k55).onN k56 ob476 N55.le).keptNo k57)
          refine Nx_lo rfl (lo_alloc (L := [.int .i64 0, .int .i64 0, .int .u32 0, .string ByteArray.empty, .slice none (0) (0)]) (by kernel_rfl)) rfl ?_
          rintro _ w61 ⟨vb, rfl, N61⟩
          have k61 := N61.kp
          have kk61 := kk57.then_ k61
          have ne_vb_px : vb ≠ px := Nat.ne_of_gt (Nat.lt_of_lt_of_le f527.lt N61.le)
          have ne_vb_po : vb ≠ po := Nat.ne_of_gt (Nat.lt_of_lt_of_le f528.lt N61.le)
          have ne_vb_pb : vb ≠ pb := Nat.ne_of_gt (Nat.lt_of_lt_of_le f529.lt N61.le)
          have ne_vb_dd : vb ≠ dd := Nat.ne_of_gt (Nat.lt_of_lt_of_le f530.lt N61.le)
          have ne_vb_pp : vb ≠ pp := Nat.ne_of_gt (Nat.lt_of_lt_of_le f531.lt N61.le)
          have ne_vb_yb : vb ≠ yb := Nat.ne_of_gt (Nat.lt_of_lt_of_le f532.lt N61.le)
          have ne_vb_ob : vb ≠ ob := Nat.ne_of_gt (Nat.lt_of_lt_of_le f533.lt N61.le)
          have ne_vb_zb : vb ≠ zb := Nat.ne_of_gt (Nat.lt_of_lt_of_le f534.lt N61.le)
          have ne_vb_0 : vb ≠ 0 := Nat.ne_of_gt (Nat.lt_of_lt_of_le o535.lt N61.le)
          have ne_vb_b3_0 : vb ≠ b3_0 := Nat.ne_of_gt (Nat.lt_of_lt_of_le o536.lt N61.le)
          have f_vb_61 : Bk w61 vb ([.int .i64 0, .int .i64 0, .int .u32 0, .string ByteArray.empty, .slice none (0) (0)]) 70 := N61.bk
          have f539 : Bk w61 px (u8s X) 85 := (f527.no k61)
          have f540 : Bk w61 po (u8s O) 86 := (f528.no k61)
          have f541 : Bk w61 pb ([.int .i64 ((q + 1 : Nat) : Int), .int .i64 ((n : Nat) : Int), .int .u32 3]) 28 := (f529.no k61)
          have f542 : Bk w61 dd (u8s (List.replicate (32 * q) 0)) 5 := (f530.no k61)
          have f543 : Bk w61 pp ([.int .i64 ((q + 1 : Nat) : Int), .int .i64 ((n : Nat) : Int), .int .u32 3, .string ({ data := #[109] }), .slice none (0) (0)]) 70 := (f531.no k61)
          have f544 : Bk w61 yb ([.int .i64 ((q + 1 : Nat) : Int), .int .i64 ((n : Nat) : Int), .int .u32 3, .string ({ data := #[109] }), .slice A_y ((L_y).length) (c_y)]) 70 := (f532.no k61)
          have f545 : Bk w61 ob ([.int .u8 ((s1.ix : Nat) : Int), .int .u32 ((ge : Nat) : Int), .slice s1.A ((s1.X).length) (s1.c)]) 50 := (f533.no k61)
          have f546 : Bk w61 zb ([.int .i64 0, .int .i64 0, .int .u32 0, .string ByteArray.empty, .slice none (0) (0)]) 70 := (f534.no k61)
          have o547 : Gt w61 := (o535.no k61)
          have o548 : Tb w61 b3_0 := (o536.no k61)
          have ob549 := (ob487.keptNo k61)
          refine ⟨⟨kk61, f539, f540, f541, f542, f543, f544, f545, f546, o547, o548, ob549⟩, ?_⟩
          have ob550 := (ob537.keptNo k61)
          have ob551 := (ob538.keptNo k61)
          refine D_one 4 (by kernel_rfl) (Nx_lo rfl (lo_call (by kernel_rfl) rfl (submit_state q n 3 ({ data := #[109] }) A_y L_y c_y ({ data := #[110] }) s1.ix s1.gen s1.A s1.X s1.c _ ob550.ss ⟨⟨⟨⟨by omega, by omega, by omega⟩, by decide, by omega, by have := ob550.le; omega⟩, hcy⟩, .inl (by decide), by decide⟩)) rfl ?_)
          rintro _ w62 ⟨rfl, k62⟩
          have kk62 := kk61.then_ k62
          have f552 : Bk w62 px (u8s X) 85 := (f539.no k62)
          have f553 : Bk w62 po (u8s O) 86 := (f540.no k62)
          have f554 : Bk w62 pb ([.int .i64 ((q + 1 : Nat) : Int), .int .i64 ((n : Nat) : Int), .int .u32 3]) 28 := (f541.no k62)
          have f555 : Bk w62 dd (u8s (List.replicate (32 * q) 0)) 5 := (f542.no k62)
          have f556 : Bk w62 pp ([.int .i64 ((q + 1 : Nat) : Int), .int .i64 ((n : Nat) : Int), .int .u32 3, .string ({ data := #[109] }), .slice none (0) (0)]) 70 := (f543.no k62)
          have f557 : Bk w62 yb ([.int .i64 ((q + 1 : Nat) : Int), .int .i64 ((n : Nat) : Int), .int .u32 3, .string ({ data := #[109] }), .slice A_y ((L_y).length) (c_y)]) 70 := (f544.no k62)
          have f558 : Bk w62 ob ([.int .u8 ((s1.ix : Nat) : Int), .int .u32 ((ge : Nat) : Int), .slice s1.A ((s1.X).length) (s1.c)]) 50 := (f545.no k62)
          have f559 : Bk w62 zb ([.int .i64 0, .int .i64 0, .int .u32 0, .string ByteArray.empty, .slice none (0) (0)]) 70 := (f546.no k62)
          have o560 : Gt w62 := (o547.no k62)
          have o561 : Tb w62 b3_0 := (o548.no k62)
          have ob562 := (ob549.keptNo k62)
          refine ⟨⟨kk62, f552, f553, f554, f555, f556, f557, f558, f559, o560, o561, ob562⟩, ?_⟩
          refine D_take 5 rfl (by kernel_rfl) (by kernel_rfl) (by kernel_rfl) (fun _ _ _ h => h) rfl (fun W hS => pu_move rfl) ?_
          refine D_take 6 rfl (by kernel_rfl) (by kernel_rfl) (by kernel_rfl) (fun _ _ _ h => h) rfl (fun W hS => pu_extract rfl rfl) ?_
          refine D_take 7 rfl (by kernel_rfl) (by kernel_rfl) (by kernel_rfl) (fun _ _ _ h => h) rfl (fun W hS => pu_extract rfl rfl) ?_
          refine D_take 8 rfl (by kernel_rfl) (by kernel_rfl) (by kernel_rfl) (fun _ _ _ h => h) rfl (fun W hS => pu_extract rfl rfl) ?_
          have f563 : Bk w62 vb ([.int .i64 0, .int .i64 0, .int .u32 0, .string ByteArray.empty, .slice none (0) (0)]) 70 := (f_vb_61.no k62)
          refine D_one 10 (by kernel_rfl) (Nx_lo0 rfl (lo_storeRow (C := [.int .i64 0, .int .i64 0, .int .u32 0, .string ByteArray.empty, .slice none (0) (0)]) f563 (by kernel_rfl) rfl rfl (by intro u hu; simp at hu; rcases hu with rfl | rfl | rfl | rfl | rfl <;> rfl) rfl) ?_)
          rintro _ w63 kf63
          obtain ⟨k63, f_vb_63⟩ := kf63
          replace f_vb_63 : Bk w63 vb ([.int .i64 0, .int .i64 0, .int .u32 0, .string ByteArray.empty, .slice none (0) (0)]) 70 := f_vb_63
          have kk63 := kk62.trans k63 (fun i hi => .inr (hi ▸ (Nat.le_trans kk57.size N61.le)))
          have f564 : Bk w63 px (u8s X) 85 := (f552.on k63 (Ne.symm ne_vb_px))
          have f565 : Bk w63 po (u8s O) 86 := (f553.on k63 (Ne.symm ne_vb_po))
          have f566 : Bk w63 pb ([.int .i64 ((q + 1 : Nat) : Int), .int .i64 ((n : Nat) : Int), .int .u32 3]) 28 := (f554.on k63 (Ne.symm ne_vb_pb))
          have f567 : Bk w63 dd (u8s (List.replicate (32 * q) 0)) 5 := (f555.on k63 (Ne.symm ne_vb_dd))
          have f568 : Bk w63 pp ([.int .i64 ((q + 1 : Nat) : Int), .int .i64 ((n : Nat) : Int), .int .u32 3, .string ({ data := #[109] }), .slice none (0) (0)]) 70 := (f556.on k63 (Ne.symm ne_vb_pp))
          have f569 : Bk w63 yb ([.int .i64 ((q + 1 : Nat) : Int), .int .i64 ((n : Nat) : Int), .int .u32 3, .string ({ data := #[109] }), .slice A_y ((L_y).length) (c_y)]) 70 := (f557.on k63 (Ne.symm ne_vb_yb))
          have f570 : Bk w63 ob ([.int .u8 ((s1.ix : Nat) : Int), .int .u32 ((ge : Nat) : Int), .slice s1.A ((s1.X).length) (s1.c)]) 50 := (f558.on k63 (Ne.symm ne_vb_ob))
          have f571 : Bk w63 zb ([.int .i64 0, .int .i64 0, .int .u32 0, .string ByteArray.empty, .slice none (0) (0)]) 70 := (f559.on k63 (Ne.symm ne_vb_zb))
          have o572 : Gt w63 := (o560.on k63 (Ne.symm ne_vb_0))
          have o573 : Tb w63 b3_0 := (o561.on k63 (Ne.symm ne_vb_b3_0))
          have ob574 := (ob562.onN k63 ob487 N61.le)
          refine ⟨⟨kk63, f564, f565, f566, f567, f568, f569, f570, f571, o572, o573, ob574⟩, ?_⟩
          refine D_take 11 rfl (by kernel_rfl) (by kernel_rfl) (by kernel_rfl) (fun _ _ _ h => h) rfl (fun W hS => pu_assign rfl) ?_
          refine D_take 12 rfl (by kernel_rfl) (by kernel_rfl) (by kernel_rfl) (fun _ _ _ h => h) rfl (fun W hS => pu_assign rfl) ?_
          refine D_done (by kernel_rfl) ?_
          have ob575 := ((ob550.keptNo k62).onN k63 ob537 N61.le)
          have ob576 := ((ob551.keptNo k62).onN k63 ob538 N61.le)
          refine X_cut hK_ [(2, .int .u32 ((ge : Nat) : Int)), (6, .bool false), (7, .pointer (some ⟨pb, 0, none⟩)), (9, .slice A_x ((L_x).length) (c_x)), (13, .pointer (some ⟨yb, 0, none⟩)), (15, .nilIface), (16, .pointer (some ⟨ob, 0, none⟩)), (19, .iface 91 (.int .i64 14)), (22, .iface 91 (.int .i64 15))] (Sub.cons rfl (Sub.cons rfl (Sub.cons rfl (Sub.cons rfl (Sub.cons rfl (Sub.cons rfl (Sub.cons rfl (Sub.cons rfl (Sub.cons rfl (Sub.nil _)))))))))) ⟨rfl, kk63, f564, f565, f566, f567, f568, f569, f570, f571, ⟨ob574, (Nat.le_trans (Nat.le_trans (Nat.le_trans (Nat.le_trans (Nat.le_trans (Nat.le_trans (Nat.le_trans (Nat.le_trans (Nat.le_trans (Nat.le_trans x_20.2 k21.size) k22.size) k23.size) k54.size) k55.size) k56.size) k57.size) k61.size) k62.size) k63.size)⟩, ⟨ob575, (Nat.le_trans (Nat.le_trans (Nat.le_trans (Nat.le_trans (Nat.le_trans (Nat.le_trans (Nat.le_trans (Nat.le_trans (Nat.le_trans (Nat.le_trans y_20.2 k21.size) k22.size) k23.size) k54.size) k55.size) k56.size) k57.size) k61.size) k62.size) k63.size)⟩, ⟨ob576, trivial⟩, o572, o573⟩
      · rintro _ w64 ⟨rfl, kk64, f_px_64, f_po_64, f_pb_64, f_dd_64, f_pp_64, f_yb_64, f_ob_64, f_zb_64, x_64, y_64, od_s1_64, G_64, T_b3_0_64⟩
        refine C_seq (fun K577 hK577 => ?_)
        refine C_region ?_
        refine R_pu (pu_move rfl) rfl ?_
        obtain ⟨s2, e_s2⟩ : ∃ q_, (L_x)[1]? = some q_ := ⟨_, List.getElem?_eq_getElem (by first | omega | (simp; done) | (simp; omega))⟩
        have ok_s2 := x_64.1.ss.get e_s2
        have od_s2 := x_64.1.od e_s2
        have bi_s2 : s2.ix < 256 := ok_s2.ix
        refine R_pu (pu_indexAddrH x_64.1.ss Tryd.underlying29 (by kernel_rfl) rfl rfl rfl rfl e_s2) rfl ?_
        refine R_pu (pu_loadHr x_64.1.ss e_s2 (by kernel_rfl) (by kernel_rfl) rfl) rfl ?_
        refine R_lo0 (lo_storeRow (C := [.int .u8 ((s2.ix : Nat) : Int), .int .u32 ((s2.gen : Nat) : Int), .slice s2.A ((s2.X).length) (s2.c)]) f_ob_64 (by kernel_rfl) rfl rfl (by intro u hu; simp at hu; rcases hu with rfl | rfl | rfl <;> rfl) rfl) ?_
        rintro _ w65 kf65
        obtain ⟨k65, f_ob_65⟩ := kf65
        replace f_ob_65 : Bk w65 ob ([.int .u8 ((s2.ix : Nat) : Int), .int .u32 ((s2.gen : Nat) : Int), .slice s2.A ((s2.X).length) (s2.c)]) 50 := f_ob_65
        have kk65 := kk64.trans k65 (fun i hi => .inr (hi ▸ (Nat.le_trans kk20.size N21.le)))
        refine R_nil ?_
        refine X_then hK577 ?_
        refine C_seq (fun K578 hK578 => ?_)
        refine C_region ?_
        refine R_pu (pu_fieldAddr (off := 1) (o' := 1) (by kernel_rfl) rfl rfl) rfl ?_
        have f579 : Bk w65 pb ([.int .i64 ((q + 1 : Nat) : Int), .int .i64 ((n : Nat) : Int), .int .u32 3]) 28 := (f_pb_64.on k65 (Ne.symm ne_ob_pb))
        refine R_pu (pu_loadK f579 (by kernel_rfl) rfl rfl) rfl ?_
        refine R_pu (pu_add (z := ((n + 1 : Nat) : Int)) rfl rfl (by rw [IntKind.wrap_i64]; omega)) rfl ?_
        refine R_pu (pu_conv (z := ((n + 1 : Nat) : Int)) Tryd.underlying3 Tryd.underlying5 rfl (by rw [IntKind.wrap_u8]; omega)) rfl ?_
        refine R_pu (pu_fieldAddr (off := 0) (o' := 0) (by kernel_rfl) rfl rfl) rfl ?_
        refine R_lo0 (lo_store f_ob_65 (by kernel_rfl) rfl rfl rfl (show 0 < 3 by decide)) ?_
        rintro _ w66 kf66
        obtain ⟨k66, f_ob_66⟩ := kf66
        replace f_ob_66 : Bk w66 ob ([.int .u8 ((n + 1 : Nat) : Int), .int .u32 ((s2.gen : Nat) : Int), .slice s2.A ((s2.X).length) (s2.c)]) 50 := f_ob_66
        have kk66 := kk65.trans k66 (fun i hi => .inr (hi ▸ (Nat.le_trans kk20.size N21.le)))
        refine R_nil ?_
        refine X_then hK578 ?_
        refine C_seq (fun K580 hK580 => ?_)
        refine C_region ?_
        have f581 : Bk w66 yb ([.int .i64 ((q + 1 : Nat) : Int), .int .i64 ((n : Nat) : Int), .int .u32 3, .string ({ data := #[109] }), .slice A_y ((L_y).length) (c_y)]) 70 := ((f_yb_64.on k65 (Ne.symm ne_ob_yb)).on k66 (Ne.symm ne_ob_yb))
        refine R_pu (pu_loadRow (len := 5) f581 (by kernel_rfl) (by kernel_rfl) rfl rfl) rfl ?_
        refine R_pu (pu_loadRow (len := 3) f_ob_66 (by kernel_rfl) (by kernel_rfl) rfl rfl) rfl ?_
        have ob582 := ((y_64.1.onN k65 y_20.1 N21.le).onN k66 y_20.1 N21.le)
        have ob583 := ((x_64.1.onN k65 x_20.1 N21.le).onN k66 x_20.1 N21.le)
        have ob584 := (ob583.od e_s2)
        have k_s2 := key_at hK_x e_s2 (ptK_get (show 1 < n by omega)); have lx_s2 : s2.X.length = 32 := by rw [k_s2.2.2, ptX_length]; exact bX.1
        refine R_lo (lo_call (by kernel_rfl) rfl (submit_share q n 3 ({ data := #[109] }) A_y L_y c_y ({ data := #[109] }) (n + 1) s2.gen s2.A s2.X s2.c _ ob582.ss ⟨⟨⟨⟨by omega, by omega, by omega⟩, by decide, by omega, by have := ob582.le; omega⟩, hcy⟩, rfl, ⟨by omega, k_s2.2.1, fun h => by have := h.2.2.1; omega⟩, by omega, by omega, by decide⟩)) rfl ?_
        rintro _ w67 ⟨rfl, k67⟩
        have kk67 := kk66.then_ k67
        refine R_pu (pu_move rfl) rfl ?_
        refine R_pu (pu_extract rfl rfl) rfl ?_
        refine R_pu (pu_extract rfl rfl) rfl ?_
        refine R_pu (pu_extract rfl rfl) rfl ?_
        have f585 : Bk w67 px (u8s X) 85 := (((f_px_64.on k65 (Ne.symm ne_ob_px)).on k66 (Ne.symm ne_ob_px)).no k67)
        have f586 : Bk w67 po (u8s O) 86 := (((f_po_64.on k65 (Ne.symm ne_ob_po)).on k66 (Ne.symm ne_ob_po)).no k67)
        have f587 : Bk w67 pb ([.int .i64 ((q + 1 : Nat) : Int), .int .i64 ((n : Nat) : Int), .int .u32 3]) 28 := ((f579.on k66 (Ne.symm ne_ob_pb)).no k67)
        have f588 : Bk w67 dd (u8s (List.replicate (32 * q) 0)) 5 := (((f_dd_64.on k65 (Ne.symm ne_ob_dd)).on k66 (Ne.symm ne_ob_dd)).no k67)
        have f589 : Bk w67 pp ([.int .i64 ((q + 1 : Nat) : Int), .int .i64 ((n : Nat) : Int), .int .u32 3, .string ({ data := #[109] }), .slice none (0) (0)]) 70 := (((f_pp_64.on k65 (Ne.symm ne_ob_pp)).on k66 (Ne.symm ne_ob_pp)).no k67)
        have f590 : Bk w67 yb ([.int .i64 ((q + 1 : Nat) : Int), .int .i64 ((n : Nat) : Int), .int .u32 3, .string ({ data := #[109] }), .slice A_y ((L_y).length) (c_y)]) 70 := (f581.no k67)
        have f591 : Bk w67 ob ([.int .u8 ((n + 1 : Nat) : Int), .int .u32 ((s2.gen : Nat) : Int), .slice s2.A ((s2.X).length) (s2.c)]) 50 := (f_ob_66.no k67)
        have f592 : Bk w67 zb ([.int .i64 0, .int .i64 0, .int .u32 0, .string ByteArray.empty, .slice none (0) (0)]) 70 := (((f_zb_64.on k65 ne_zb_ob).on k66 ne_zb_ob).no k67)
        have o593 : Gt w67 := (((G_64.on k65 (Ne.symm ne_ob_0)).on k66 (Ne.symm ne_ob_0)).no k67)
        have o594 : Tb w67 b3_0 := (((T_b3_0_64.on k65 (Ne.symm ne_ob_b3_0)).on k66 (Ne.symm ne_ob_b3_0)).no k67)
        have ob595 := (ob583.keptNo k67)
        have ob596 := (ob582.keptNo k67)
        have ob597 := (((od_s1_64.1.onN k65 od_s1 N21.le).onN k66 od_s1 N21.le).keptNo k67)
        have ob598 := (ob584.keptNo k67)
        refine R_lo (lo_alloc (L := [.int .i64 0, .int .i64 0, .int .u32 0, .string ByteArray.empty, .slice none (0) (0)]) (by kernel_rfl)) rfl ?_
        rintro _ w68 ⟨ub, rfl, N68⟩
        have k68 := N68.kp
        have kk68 := kk67.then_ k68
        have ne_ub_px : ub ≠ px := Nat.ne_of_gt (Nat.lt_of_lt_of_le f585.lt N68.le)
        have ne_ub_po : ub ≠ po := Nat.ne_of_gt (Nat.lt_of_lt_of_le f586.lt N68.le)
        have ne_ub_pb : ub ≠ pb := Nat.ne_of_gt (Nat.lt_of_lt_of_le f587.lt N68.le)
        have ne_ub_dd : ub ≠ dd := Nat.ne_of_gt (Nat.lt_of_lt_of_le f588.lt N68.le)
        have ne_ub_pp : ub ≠ pp := Nat.ne_of_gt (Nat.lt_of_lt_of_le f589.lt N68.le)
        have ne_ub_yb : ub ≠ yb := Nat.ne_of_gt (Nat.lt_of_lt_of_le f590.lt N68.le)
        have ne_ub_ob : ub ≠ ob := Nat.ne_of_gt (Nat.lt_of_lt_of_le f591.lt N68.le)
        have ne_ub_zb : ub ≠ zb := Nat.ne_of_gt (Nat.lt_of_lt_of_le f592.lt N68.le)
        have ne_ub_0 : ub ≠ 0 := Nat.ne_of_gt (Nat.lt_of_lt_of_le o593.lt N68.le)
        have ne_ub_b3_0 : ub ≠ b3_0 := Nat.ne_of_gt (Nat.lt_of_lt_of_le o594.lt N68.le)
        have f_ub_68 : Bk w68 ub ([.int .i64 0, .int .i64 0, .int .u32 0, .string ByteArray.empty, .slice none (0) (0)]) 70 := N68.bk
        refine R_lo0 (lo_storeRow (C := [.int .i64 0, .int .i64 0, .int .u32 0, .string ByteArray.empty, .slice none (0) (0)]) f_ub_68 (by kernel_rfl) rfl rfl (by intro u hu; simp at hu; rcases hu with rfl | rfl | rfl | rfl | rfl <;> rfl) rfl) ?_
        rintro _ w69 kf69
        obtain ⟨k69, f_ub_69⟩ := kf69
        replace f_ub_69 : Bk w69 ub ([.int .i64 0, .int .i64 0, .int .u32 0, .string ByteArray.empty, .slice none (0) (0)]) 70 := f_ub_69
        have kk69 := kk68.trans k69 (fun i hi => .inr (hi ▸ (Nat.le_trans kk67.size N68.le)))
        refine R_pu (pu_assign rfl) rfl ?_
        refine R_pu (pu_assign rfl) rfl ?_
        refine R_nil ?_
        refine X_then hK580 ?_
        refine C_seq (fun K599 hK599 => ?_)
        refine C_region ?_
        have f600 : Bk w69 yb ([.int .i64 ((q + 1 : Nat) : Int), .int .i64 ((n : Nat) : Int), .int .u32 3, .string ({ data := #[109] }), .slice A_y ((L_y).length) (c_y)]) 70 := ((f590.no k68).on k69 (Ne.symm ne_ub_yb))
        refine R_pu (pu_loadRow (len := 5) f600 (by kernel_rfl) (by kernel_rfl) rfl rfl) rfl ?_
        refine R_lo (lo_call (by kernel_rfl) rfl (reset_ q n 3 ({ data := #[109] }) A_y ((L_y).length) c_y _)) rfl ?_
        rintro _ w70 ⟨rfl, k70⟩
        have kk70 := kk69.then_ k70
        have f601 : Bk w70 px (u8s X) 85 := (((f585.no k68).on k69 (Ne.symm ne_ub_px)).no k70)
        have f602 : Bk w70 po (u8s O) 86 := (((f586.no k68).on k69 (Ne.symm ne_ub_po)).no k70)
        have f603 : Bk w70 pb ([.int .i64 ((q + 1 : Nat) : Int), .int .i64 ((n : Nat) : Int), .int .u32 3]) 28 := (((f587.no k68).on k69 (Ne.symm ne_ub_pb)).no k70)
        have f604 : Bk w70 dd (u8s (List.replicate (32 * q) 0)) 5 := (((f588.no k68).on k69 (Ne.symm ne_ub_dd)).no k70)
        have f605 : Bk w70 pp ([.int .i64 ((q + 1 : Nat) : Int), .int .i64 ((n : Nat) : Int), .int .u32 3, .string ({ data := #[109] }), .slice none (0) (0)]) 70 := (((f589.no k68).on k69 (Ne.symm ne_ub_pp)).no k70)
        have f606 : Bk w70 yb ([.int .i64 ((q + 1 : Nat) : Int), .int .i64 ((n : Nat) : Int), .int .u32 3, .string ({ data := #[109] }), .slice A_y ((L_y).length) (c_y)]) 70 := (f600.no k70)
        have f607 : Bk w70 ob ([.int .u8 ((n + 1 : Nat) : Int), .int .u32 ((s2.gen : Nat) : Int), .slice s2.A ((s2.X).length) (s2.c)]) 50 := (((f591.no k68).on k69 (Ne.symm ne_ub_ob)).no k70)
        have f608 : Bk w70 zb ([.int .i64 0, .int .i64 0, .int .u32 0, .string ByteArray.empty, .slice none (0) (0)]) 70 := (((f592.no k68).on k69 (Ne.symm ne_ub_zb)).no k70)
        have f609 : Bk w70 ub ([.int .i64 0, .int .i64 0, .int .u32 0, .string ByteArray.empty, .slice none (0) (0)]) 70 := (f_ub_69.no k70)
        have o610 : Gt w70 := (((o593.no k68).on k69 (Ne.symm ne_ub_0)).no k70)
        have o611 : Tb w70 b3_0 := (((o594.no k68).on k69 (Ne.symm ne_ub_b3_0)).no k70)
        have ob612 := (((ob595.keptNo k68).onN k69 ob595 N68.le).keptNo k70)
        have ob613 := (((ob596.keptNo k68).onN k69 ob596 N68.le).keptNo k70)
        have ob614 := (((ob597.keptNo k68).onN k69 ob597 N68.le).keptNo k70)
        have ob615 := (((ob598.keptNo k68).onN k69 ob598 N68.le).keptNo k70)
        refine R_lo (lo_alloc (L := [.int .i64 0, .int .i64 0, .int .u32 0, .string ByteArray.empty, .slice none (0) (0)]) (by kernel_rfl)) rfl ?_
        rintro _ w71 ⟨rb, rfl, N71⟩
        have k71 := N71.kp
        have kk71 := kk70.then_ k71
        have ne_rb_px : rb ≠ px := Nat.ne_of_gt (Nat.lt_of_lt_of_le f601.lt N71.le)
        have ne_rb_po : rb ≠ po := Nat.ne_of_gt (Nat.lt_of_lt_of_le f602.lt N71.le)
        have ne_rb_pb : rb ≠ pb := Nat.ne_of_gt (Nat.lt_of_lt_of_le f603.lt N71.le)
        have ne_rb_dd : rb ≠ dd := Nat.ne_of_gt (Nat.lt_of_lt_of_le f604.lt N71.le)
        have ne_rb_pp : rb ≠ pp := Nat.ne_of_gt (Nat.lt_of_lt_of_le f605.lt N71.le)
        have ne_rb_yb : rb ≠ yb := Nat.ne_of_gt (Nat.lt_of_lt_of_le f606.lt N71.le)
        have ne_rb_ob : rb ≠ ob := Nat.ne_of_gt (Nat.lt_of_lt_of_le f607.lt N71.le)
        have ne_rb_zb : rb ≠ zb := Nat.ne_of_gt (Nat.lt_of_lt_of_le f608.lt N71.le)
        have ne_rb_ub : rb ≠ ub := Nat.ne_of_gt (Nat.lt_of_lt_of_le f609.lt N71.le)
        have ne_rb_0 : rb ≠ 0 := Nat.ne_of_gt (Nat.lt_of_lt_of_le o610.lt N71.le)
        have ne_rb_b3_0 : rb ≠ b3_0 := Nat.ne_of_gt (Nat.lt_of_lt_of_le o611.lt N71.le)
        have f_rb_71 : Bk w71 rb ([.int .i64 0, .int .i64 0, .int .u32 0, .string ByteArray.empty, .slice none (0) (0)]) 70 := N71.bk
        refine R_lo0 (lo_storeRow (C := [.int .i64 ((q + 1 : Nat) : Int), .int .i64 ((n : Nat) : Int), .int .u32 3, .string ({ data := #[109] }), .slice none (0) (0)]) f_rb_71 (by kernel_rfl) rfl rfl (by intro u hu; simp at hu; rcases hu with rfl | rfl | rfl | rfl | rfl <;> rfl) rfl) ?_
        rintro _ w72 kf72
        obtain ⟨k72, f_rb_72⟩ := kf72
        replace f_rb_72 : Bk w72 rb ([.int .i64 ((q + 1 : Nat) : Int), .int .i64 ((n : Nat) : Int), .int .u32 3, .string ({ data := #[109] }), .slice none (0) (0)]) 70 := f_rb_72
        have kk72 := kk71.trans k72 (fun i hi => .inr (hi ▸ (Nat.le_trans kk70.size N71.le)))
        refine R_nil ?_
        refine X_then hK599 ?_
        refine C_seq (fun K616 hK616 => ?_)
        refine C_seq (fun K617 hK617 => ?_)
        refine C_region ?_
        refine R_pu (pu_move rfl) rfl ?_
        refine R_pu (pu_neqnn (by kernel_rfl) rfl) rfl ?_
        refine R_pu (pu_move rfl) rfl ?_
        refine R_gpu rfl rfl (pu_fieldAddr (off := 4) (o' := 4) (by kernel_rfl) rfl rfl) rfl ?_
        have f618 : Bk w72 yb ([.int .i64 ((q + 1 : Nat) : Int), .int .i64 ((n : Nat) : Int), .int .u32 3, .string ({ data := #[109] }), .slice A_y ((L_y).length) (c_y)]) 70 := ((f606.no k71).on k72 (Ne.symm ne_rb_yb))
        refine R_gpu rfl rfl (pu_loadK f618 (by kernel_rfl) rfl rfl) rfl ?_
        refine R_gpu rfl rfl (pu_len Tryd.underlying29 rfl) rfl ?_
        refine R_gpu rfl rfl (pu_false (pu_neq (p := ((L_y).length) = 1) rfl rfl (by omega)) (fun h => h hl_y)) rfl ?_
        refine R_pu (pu_pickf rfl rfl) rfl ?_
        refine R_pu (pu_move rfl) rfl ?_
        refine R_gpu rfl rfl (pu_move rfl) rfl ?_
        refine R_gpu rfl rfl (pu_eqlin (by kernel_rfl) rfl rfl) rfl ?_
        refine R_gpu rfl rfl (pu_move rfl) rfl ?_
        refine R_gpu rfl rfl (pu_false (pu_eql (p := ge = 3) rfl rfl (by omega)) hg3) rfl ?_
        refine R_gpu rfl rfl (pu_neqb Tryd.underlying4 rfl rfl) rfl ?_
        refine R_pu (pu_pickf rfl rfl) rfl ?_
        refine R_pu (pu_move rfl) rfl ?_
        refine R_gpu rfl rfl (pu_move rfl) rfl ?_
        refine R_gpu rfl rfl (pu_true (pu_neq (p := ge = 3) rfl rfl (by omega)) hg3) rfl ?_
        refine R_gpu rfl rfl (pu_move rfl) rfl ?_
        refine R_gpu rfl rfl (pu_move rfl) rfl ?_
        have o619 : Gt w72 := ((o610.no k71).on k72 (Ne.symm ne_rb_0))
        refine R_glo rfl rfl (lo_call (by kernel_rfl) rfl (num23_err 14 _ o619)) rfl ?_
        rintro _ w73 ⟨rfl, k73⟩
        have kk73 := kk72.then_ k73
        refine R_gpu rfl rfl (pu_false (pu_neq (p := (14 : Nat) = 14) rfl rfl (by omega)) (by decide)) rfl ?_
        refine R_gpu rfl rfl (pu_pickt rfl rfl) rfl ?_
        refine R_pu (pu_pickf rfl rfl) rfl ?_
        refine R_pu (pu_move rfl) rfl ?_
        refine R_gpu rfl rfl (pu_move rfl) rfl ?_
        have o620 : Gt w73 := (o619.no k73)
        refine R_glo rfl rfl (lo_call (by kernel_rfl) rfl (num23_err 15 _ o620)) rfl ?_
        rintro _ w74 ⟨rfl, k74⟩
        have kk74 := kk73.then_ k74
        refine R_gpu rfl rfl (pu_false (pu_neq (p := (15 : Nat) = 15) rfl rfl (by omega)) (by decide)) rfl ?_
        refine R_pu (pu_pickf rfl rfl) rfl ?_
        refine R_pu (pu_move rfl) rfl ?_
        refine R_gpu rfl rfl (pu_move rfl) rfl ?_
        have o621 : Gt w74 := (o620.no k74)
        refine R_glo rfl rfl (lo_call (by kernel_rfl) rfl (num23_err 12 _ o621)) rfl ?_
        rintro _ w75 ⟨rfl, k75⟩
        have kk75 := kk74.then_ k75
        refine R_gpu rfl rfl (pu_false (pu_neq (p := (12 : Nat) = 12) rfl rfl (by omega)) (by decide)) rfl ?_
        refine R_pu (pu_pickf rfl rfl) rfl ?_
        refine R_pu (pu_move rfl) rfl ?_
        refine R_gpu rfl rfl (pu_fieldAddr (off := 4) (o' := 4) (by kernel_rfl) rfl rfl) rfl ?_
        have f622 : Bk w75 rb ([.int .i64 ((q + 1 : Nat) : Int), .int .i64 ((n : Nat) : Int), .int .u32 3, .string ({ data := #[109] }), .slice none (0) (0)]) 70 := (((f_rb_72.no k73).no k74).no k75)
        refine R_gpu rfl rfl (pu_loadK f622 (by kernel_rfl) rfl rfl) rfl ?_
        refine R_gpu rfl rfl (pu_len Tryd.underlying29 rfl) rfl ?_
        refine R_gpu rfl rfl (pu_false (pu_neq (p := (0 : Nat) = 0) rfl rfl (by omega)) (by decide)) rfl ?_
        refine R_pu (pu_pickf rfl rfl) rfl ?_
        refine R_nil ?_
        refine X_then hK617 ?_
        refine C_false rfl ?_
        refine C_skip ?_
        refine X_then hK616 ?_
        refine C_cut (fun l_ wr => (l_ = [(6, .bool false), (29, .nilIface)]) ∧ (Kp No w wr) ∧ (Bk wr px (u8s X) 85) ∧ (Bk wr po (u8s O) 86) ∧ (Bk wr pb ([.int .i64 ((q + 1 : Nat) : Int), .int .i64 ((n : Nat) : Int), .int .u32 3]) 28) ∧ (Bk wr dd (u8s (List.replicate (32 * q) 0)) 5) ∧ (Bk wr pp ([.int .i64 ((q + 1 : Nat) : Int), .int .i64 ((n : Nat) : Int), .int .u32 3, .string ({ data := #[109] }), .slice none (0) (0)]) 70) ∧ (Bk wr yb ([.int .i64 ((q + 1 : Nat) : Int), .int .i64 ((n : Nat) : Int), .int .u32 3, .string ({ data := #[109] }), .slice A_y ((L_y).length) (c_y)]) 70) ∧ (Bk wr ob ([.int .u8 ((n + 1 : Nat) : Int), .int .u32 ((s2.gen : Nat) : Int), .slice s2.A ((s2.X).length) (s2.c)]) 50) ∧ (Bk wr zb ([.int .i64 0, .int .i64 0, .int .u32 0, .string ByteArray.empty, .slice none (0) (0)]) 70) ∧ (Bk wr ub ([.int .i64 0, .int .i64 0, .int .u32 0, .string ByteArray.empty, .slice none (0) (0)]) 70) ∧ (Bk wr rb ([.int .i64 ((q + 1 : Nat) : Int), .int .i64 ((n : Nat) : Int), .int .u32 3, .string ({ data := #[109] }), .slice none (0) (0)]) 70) ∧ (Gt wr) ∧ (Tb wr b3_0)) (fun K_ hK_ => ?_) ?_
        · have f623 : Bk w75 px (u8s X) 85 := (((((f601.no k71).on k72 (Ne.symm ne_rb_px)).no k73).no k74).no k75)
          have f624 : Bk w75 po (u8s O) 86 := (((((f602.no k71).on k72 (Ne.symm ne_rb_po)).no k73).no k74).no k75)
          have f625 : Bk w75 pb ([.int .i64 ((q + 1 : Nat) : Int), .int .i64 ((n : Nat) : Int), .int .u32 3]) 28 := (((((f603.no k71).on k72 (Ne.symm ne_rb_pb)).no k73).no k74).no k75)
          have f626 : Bk w75 dd (u8s (List.replicate (32 * q) 0)) 5 := (((((f604.no k71).on k72 (Ne.symm ne_rb_dd)).no k73).no k74).no k75)
          have f627 : Bk w75 pp ([.int .i64 ((q + 1 : Nat) : Int), .int .i64 ((n : Nat) : Int), .int .u32 3, .string ({ data := #[109] }), .slice none (0) (0)]) 70 := (((((f605.no k71).on k72 (Ne.symm ne_rb_pp)).no k73).no k74).no k75)
          have f628 : Bk w75 yb ([.int .i64 ((q + 1 : Nat) : Int), .int .i64 ((n : Nat) : Int), .int .u32 3, .string ({ data := #[109] }), .slice A_y ((L_y).length) (c_y)]) 70 := (((f618.no k73).no k74).no k75)
          have f629 : Bk w75 ob ([.int .u8 ((n + 1 : Nat) : Int), .int .u32 ((s2.gen : Nat) : Int), .slice s2.A ((s2.X).length) (s2.c)]) 50 := (((((f607.no k71).on k72 (Ne.symm ne_rb_ob)).no k73).no k74).no k75)
          have f630 : Bk w75 zb ([.int .i64 0, .int .i64 0, .int .u32 0, .string ByteArray.empty, .slice none (0) (0)]) 70 := (((((f608.no k71).on k72 (Ne.symm ne_rb_zb)).no k73).no k74).no k75)
          have f631 : Bk w75 ub ([.int .i64 0, .int .i64 0, .int .u32 0, .string ByteArray.empty, .slice none (0) (0)]) 70 := (((((f609.no k71).on k72 (Ne.symm ne_rb_ub)).no k73).no k74).no k75)
          have o632 : Gt w75 := (o621.no k75)
          have o633 : Tb w75 b3_0 := (((((o611.no k71).on k72 (Ne.symm ne_rb_b3_0)).no k73).no k74).no k75)
          have ob634 := (((((ob612.keptNo k71).onN k72 ob612 N71.le).keptNo k73).keptNo k74).keptNo k75)
          refine D_begin (fun W => Kp No w W ∧ Bk W px (u8s X) 85 ∧ Bk W po (u8s O) 86 ∧ Bk W pb ([.int .i64 ((q + 1 : Nat) : Int), .int .i64 ((n : Nat) : Int), .int .u32 3]) 28 ∧ Bk W dd (u8s (List.replicate (32 * q) 0)) 5 ∧ Bk W pp ([.int .i64 ((q + 1 : Nat) : Int), .int .i64 ((n : Nat) : Int), .int .u32 3, .string ({ data := #[109] }), .slice none (0) (0)]) 70 ∧ Bk W yb ([.int .i64 ((q + 1 : Nat) : Int), .int .i64 ((n : Nat) : Int), .int .u32 3, .string ({ data := #[109] }), .slice A_y ((L_y).length) (c_y)]) 70 ∧ Bk W ob ([.int .u8 ((n + 1 : Nat) : Int), .int .u32 ((s2.gen : Nat) : Int), .slice s2.A ((s2.X).length) (s2.c)]) 50 ∧ Bk W zb ([.int .i64 0, .int .i64 0, .int .u32 0, .string ByteArray.empty, .slice none (0) (0)]) 70 ∧ Bk W ub ([.int .i64 0, .int .i64 0, .int .u32 0, .string ByteArray.empty, .slice none (0) (0)]) 70 ∧ Bk W rb ([.int .i64 ((q + 1 : Nat) : Int), .int .i64 ((n : Nat) : Int), .int .u32 3, .string ({ data := #[109] }), .slice none (0) (0)]) 70 ∧ Gt W ∧ Tb W b3_0 ∧ Sw 50 w8.heap.size W w8.heap.size (.slice A_x ((L_x).length) (c_x)) (L_x)) 13 rfl (by kernel_rfl) ⟨kk75.drew, f623.draw, f624.draw, f625.draw, f626.draw, f627.draw, f628.draw, f629.draw, f630.draw, f631.draw, f622.draw, o632.draw, o633.draw, ob634.draw⟩ ?_
          intro w76 k76 _
          have kk76 := kk75.then_ k76
          refine D_take 0 rfl (by kernel_rfl) (by kernel_rfl) (by kernel_rfl) (fun _ _ _ h => h) rfl (fun W hS => pu_loadRow (len := 5) hS.2.2.2.2.2.2.2.2.2.2.1 (by kernel_rfl) (by kernel_rfl) rfl rfl) ?_
          refine D_take 1 rfl (by kernel_rfl) (by kernel_rfl) (by kernel_rfl) (fun _ _ _ h => h) rfl (fun W hS => pu_move rfl) ?_
          have ob635 := (ob634.keptNo k76)
          obtain ⟨s3, e_s3⟩ : ∃ q_, (L_x)[0]? = some q_ := ⟨_, List.getElem?_eq_getElem (by first | omega | (simp; done) | (simp; omega))⟩
          have ok_s3 := ob635.ss.get e_s3
          have od_s3 := ob635.od e_s3
          have bi_s3 : s3.ix < 256 := ok_s3.ix
          refine D_take 2 rfl (by kernel_rfl) (by kernel_rfl) (by kernel_rfl) (fun _ _ _ h => h) rfl (fun W hS => pu_indexAddrH hS.2.2.2.2.2.2.2.2.2.2.2.2.2.ss Tryd.underlying29 (by kernel_rfl) rfl rfl rfl rfl e_s3) ?_
          refine D_take 3 rfl (by kernel_rfl) (by kernel_rfl) (by kernel_rfl) (fun _ _ _ h => h) rfl (fun W hS => pu_loadHr hS.2.2.2.2.2.2.2.2.2.2.2.2.2.ss e_s3 (by kernel_rfl) (by kernel_rfl) rfl) ?_
          refine D_two 4 9 (by kernel_rfl) ?_ ?_
          · have k_s3 := key_at hK_x e_s3 (ptK_get (show 0 < n by omega)); have lx_s3 : s3.X.length = 32 := by rw [k_s3.2.2, ptX_length]; exact bX.1
            have f636 : Bk w76 px (u8s X) 85 := (f623.no k76)
            have f637 : Bk w76 po (u8s O) 86 := (f624.no k76)
            have f638 : Bk w76 pb ([.int .i64 ((q + 1 : Nat) : Int), .int .i64 ((n : Nat) : Int), .int .u32 3]) 28 := (f625.no k76)
            have f639 : Bk w76 dd (u8s (List.replicate (32 * q) 0)) 5 := (f626.no k76)
            have f640 : Bk w76 pp ([.int .i64 ((q + 1 : Nat) : Int), .int .i64 ((n : Nat) : Int), .int .u32 3, .string ({ data := #[109] }), .slice none (0) (0)]) 70 := (f627.no k76)
            have f641 : Bk w76 yb ([.int .i64 ((q + 1 : Nat) : Int), .int .i64 ((n : Nat) : Int), .int .u32 3, .string ({ data := #[109] }), .slice A_y ((L_y).length) (c_y)]) 70 := (f628.no k76)
            have f642 : Bk w76 ob ([.int .u8 ((n + 1 : Nat) : Int), .int .u32 ((s2.gen : Nat) : Int), .slice s2.A ((s2.X).length) (s2.c)]) 50 := (f629.no k76)
            have f643 : Bk w76 zb ([.int .i64 0, .int .i64 0, .int .u32 0, .string ByteArray.empty, .slice none (0) (0)]) 70 := (f630.no k76)
            have f644 : Bk w76 ub ([.int .i64 0, .int .i64 0, .int .u32 0, .string ByteArray.empty, .slice none (0) (0)]) 70 := (f631.no k76)
            have f645 : Bk w76 rb ([.int .i64 ((q + 1 : Nat) : Int), .int .i64 ((n : Nat) : Int), .int .u32 3, .string ({ data := #[109] }), .slice none (0) (0)]) 70 := (f622.no k76)
            have o646 : Gt w76 := (o632.no k76)
            have o647 : Tb w76 b3_0 := (o633.no k76)
            have lm648 := ob635.top
            have ob650 := ((((((ob613.keptNo k71).onN k72 ob613 N71.le).keptNo k73).keptNo k74).keptNo k75).keptNo k76)
            have lm649 := ob650.top
            have ob652 := ((((((ob614.keptNo k71).onN k72 ob614 N71.le).keptNo k73).keptNo k74).keptNo k75).keptNo k76)
            have lm651 := ob652.top
            have ob654 := ((((((ob615.keptNo k71).onN k72 ob615 N71.le).keptNo k73).keptNo k74).keptNo k75).keptNo k76)
            have lm653 := ob654.top
            have lm655 := od_s3.top
            refine Nx_lo rfl (lo_call (by kernel_rfl) rfl (submit_ok q n 3 ({ data := #[109] }) none ([] : List Shr) 0 s3.ix s3.gen s3.A s3.X s3.c _ (Ss.nil _ none) od_s3.bs od_s3.le.2 ⟨⟨⟨⟨by omega, by omega, by omega⟩, by decide, Nat.zero_le _, Nat.zero_le _⟩, Came.nil _ _⟩, ⟨by simp, k_s3.2.1, ⟨by simp [ixs], by rw [k_s3.1]; omega, by rw [k_s3.1]; omega, lx_s3⟩⟩, ok_s3.ix, by decide⟩)) rfl ?_
            rintro _ w77 ⟨A_k, c_k, L_k, rfl, Q77, hK_k, k77⟩
            have kk77 := kk76.then_ k77
            have z656 : w76.heap.size ≤ w77.heap.size := k77.size
            have hl_k : L_k.length = 1 := by have := congrArg List.length hK_k; simpa using this
            have f657 : Bk w77 px (u8s X) 85 := (f636.no k77)
            have f658 : Bk w77 po (u8s O) 86 := (f637.no k77)
            have f659 : Bk w77 pb ([.int .i64 ((q + 1 : Nat) : Int), .int .i64 ((n : Nat) : Int), .int .u32 3]) 28 := (f638.no k77)
            have f660 : Bk w77 dd (u8s (List.replicate (32 * q) 0)) 5 := (f639.no k77)
            have f661 : Bk w77 pp ([.int .i64 ((q + 1 : Nat) : Int), .int .i64 ((n : Nat) : Int), .int .u32 3, .string ({ data := #[109] }), .slice none (0) (0)]) 70 := (f640.no k77)
            have f662 : Bk w77 yb ([.int .i64 ((q + 1 : Nat) : Int), .int .i64 ((n : Nat) : Int), .int .u32 3, .string ({ data := #[109] }), .slice A_y ((L_y).length) (c_y)]) 70 := (f641.no k77)
            have f663 : Bk w77 ob ([.int .u8 ((n + 1 : Nat) : Int), .int .u32 ((s2.gen : Nat) : Int), .slice s2.A ((s2.X).length) (s2.c)]) 50 := (f642.no k77)
            have f664 : Bk w77 zb ([.int .i64 0, .int .i64 0, .int .u32 0, .string ByteArray.empty, .slice none (0) (0)]) 70 := (f643.no k77)
            have f665 : Bk w77 ub ([.int .i64 0, .int .i64 0, .int .u32 0, .string ByteArray.empty, .slice none (0) (0)]) 70 := (f644.no k77)
            have f666 : Bk w77 rb ([.int .i64 ((q + 1 : Nat) : Int), .int .i64 ((n : Nat) : Int), .int .u32 3, .string ({ data := #[109] }), .slice none (0) (0)]) 70 := (f645.no k77)
            have o667 : Gt w77 := (o646.no k77)
            have o668 : Tb w77 b3_0 := (o647.no k77)
            have ob669 := (ob635.keptNo k77)
            refine ⟨⟨kk77, f657, f658, f659, f660, f661, f662, f663, f664, f665, f666, o667, o668, ob669⟩, ?_⟩
            refine D_take 5 rfl (by kernel_rfl) (by kernel_rfl) (by kernel_rfl) (fun _ _ _ h => h) rfl (fun W hS => pu_move rfl) ?_
            refine D_take 6 rfl (by kernel_rfl) (by kernel_rfl) (by kernel_rfl) (fun _ _ _ h => h) rfl (fun W hS => pu_extract rfl rfl) ?_
            refine D_take 7 rfl (by kernel_rfl) (by kernel_rfl) (by kernel_rfl) (fun _ _ _ h => h) rfl (fun W hS => pu_extract rfl rfl) ?_
            refine D_take 8 rfl (by kernel_rfl) (by kernel_rfl) (by kernel_rfl) (fun _ _ _ h => h) rfl (fun W hS => pu_extract rfl rfl) ?_
            have ob670 := (ob650.keptNo k77)
            have ob671 := (ob652.keptNo k77)
            have ob672 := (ob654.keptNo k77)
            have ob673 := (od_s3.keptNo k77)
            refine D_one 9 (by kernel_rfl) (Nx_lo rfl (lo_alloc (L := [.int .i64 0, .int .i64 0, .int .u32 0, .string ByteArray.empty, .slice none (0) (0)]) (by kernel_rfl)) rfl ?_)
            rintro _ w78 ⟨kb, rfl, N78⟩
            have k78 := N78.kp
            have kk78 := kk77.then_ k78
            have ne_kb_px : kb ≠ px := Nat.ne_of_gt (Nat.lt_of_lt_of_le f657.lt N78.le)
            have ne_kb_po : kb ≠ po := Nat.ne_of_gt (Nat.lt_of_lt_of_le f658.lt N78.le)
            have ne_kb_pb : kb ≠ pb := Nat.ne_of_gt (Nat.lt_of_lt_of_le f659.lt N78.le)
            have ne_kb_dd : kb ≠ dd := Nat.ne_of_gt (Nat.lt_of_lt_of_le f660.lt N78.le)
            have ne_kb_pp : kb ≠ pp := Nat.ne_of_gt (Nat.lt_of_lt_of_le f661.lt N78.le)
            have ne_kb_yb : kb ≠ yb := Nat.ne_of_gt (Nat.lt_of_lt_of_le f662.lt N78.le)
            have ne_kb_ob : kb ≠ ob := Nat.ne_of_gt (Nat.lt_of_lt_of_le f663.lt N78.le)
            have ne_kb_zb : kb ≠ zb := Nat.ne_of_gt (Nat.lt_of_lt_of_le f664.lt N78.le)
            have ne_kb_ub : kb ≠ ub := Nat.ne_of_gt (Nat.lt_of_lt_of_le f665.lt N78.le)
            have ne_kb_rb : kb ≠ rb := Nat.ne_of_gt (Nat.lt_of_lt_of_le f666.lt N78.le)
            have ne_kb_0 : kb ≠ 0 := Nat.ne_of_gt (Nat.lt_of_lt_of_le o667.lt N78.le)
            have ne_kb_b3_0 : kb ≠ b3_0 := Nat.ne_of_gt (Nat.lt_of_lt_of_le o668.lt N78.le)
            have f_kb_78 : Bk w78 kb ([.int .i64 0, .int .i64 0, .int .u32 0, .string ByteArray.empty, .slice none (0) (0)]) 70 := N78.bk
            have f674 : Bk w78 px (u8s X) 85 := (f657.no k78)
            have f675 : Bk w78 po (u8s O) 86 := (f658.no k78)
            have f676 : Bk w78 pb ([.int .i64 ((q + 1 : Nat) : Int), .int .i64 ((n : Nat) : Int), .int .u32 3]) 28 := (f659.no k78)
            have f677 : Bk w78 dd (u8s (List.replicate (32 * q) 0)) 5 := (f660.no k78)
            have f678 : Bk w78 pp ([.int .i64 ((q + 1 : Nat) : Int), .int .i64 ((n : Nat) : Int), .int .u32 3, .string ({ data := #[109] }), .slice none (0) (0)]) 70 := (f661.no k78)
            have f679 : Bk w78 yb ([.int .i64 ((q + 1 : Nat) : Int), .int .i64 ((n : Nat) : Int), .int .u32 3, .string ({ data := #[109] }), .slice A_y ((L_y).length) (c_y)]) 70 := (f662.no k78)
            have f680 : Bk w78 ob ([.int .u8 ((n + 1 : Nat) : Int), .int .u32 ((s2.gen : Nat) : Int), .slice s2.A ((s2.X).length) (s2.c)]) 50 := (f663.no k78)
            have f681 : Bk w78 zb ([.int .i64 0, .int .i64 0, .int .u32 0, .string ByteArray.empty, .slice none (0) (0)]) 70 := (f664.no k78)
            have f682 : Bk w78 ub ([.int .i64 0, .int .i64 0, .int .u32 0, .string ByteArray.empty, .slice none (0) (0)]) 70 := (f665.no k78)
            have f683 : Bk w78 rb ([.int .i64 ((q + 1 : Nat) : Int), .int .i64 ((n : Nat) : Int), .int .u32 3, .string ({ data := #[109] }), .slice none (0) (0)]) 70 := (f666.no k78)
            have o684 : Gt w78 := (o667.no k78)
            have o685 : Tb w78 b3_0 := (o668.no k78)
            have ob686 := (ob669.keptNo k78)
            refine ⟨⟨kk78, f674, f675, f676, f677, f678, f679, f680, f681, f682, f683, o684, o685, ob686⟩, ?_⟩
            refine D_one 10 (by kernel_rfl) (Nx_lo0 rfl (lo_storeRow (C := [.int .i64 ((q + 1 : Nat) : Int), .int .i64 ((n : Nat) : Int), .int .u32 3, .string ({ data := #[109] }), .slice A_k ((L_k).length) (c_k)]) f_kb_78 (by kernel_rfl) rfl rfl (by intro u hu; simp at hu; rcases hu with rfl | rfl | rfl | rfl | rfl <;> rfl) rfl) ?_)
            rintro _ w79 kf79
            obtain ⟨k79, f_kb_79⟩ := kf79
            replace f_kb_79 : Bk w79 kb ([.int .i64 ((q + 1 : Nat) : Int), .int .i64 ((n : Nat) : Int), .int .u32 3, .string ({ data := #[109] }), .slice A_k ((L_k).length) (c_k)]) 70 := f_kb_79
            have kk79 := kk78.trans k79 (fun i hi => .inr (hi ▸ (Nat.le_trans kk77.size N78.le)))
            have f687 : Bk w79 px (u8s X) 85 := (f674.on k79 (Ne.symm ne_kb_px))
            have f688 : Bk w79 po (u8s O) 86 := (f675.on k79 (Ne.symm ne_kb_po))
            have f689 : Bk w79 pb ([.int .i64 ((q + 1 : Nat) : Int), .int .i64 ((n : Nat) : Int), .int .u32 3]) 28 := (f676.on k79 (Ne.symm ne_kb_pb))
            have f690 : Bk w79 dd (u8s (List.replicate (32 * q) 0)) 5 := (f677.on k79 (Ne.symm ne_kb_dd))
            have f691 : Bk w79 pp ([.int .i64 ((q + 1 : Nat) : Int), .int .i64 ((n : Nat) : Int), .int .u32 3, .string ({ data := #[109] }), .slice none (0) (0)]) 70 := (f678.on k79 (Ne.symm ne_kb_pp))
            have f692 : Bk w79 yb ([.int .i64 ((q + 1 : Nat) : Int), .int .i64 ((n : Nat) : Int), .int .u32 3, .string ({ data := #[109] }), .slice A_y ((L_y).length) (c_y)]) 70 := (f679.on k79 (Ne.symm ne_kb_yb))
            have f693 : Bk w79 ob ([.int .u8 ((n + 1 : Nat) : Int), .int .u32 ((s2.gen : Nat) : Int), .slice s2.A ((s2.X).length) (s2.c)]) 50 := (f680.on k79 (Ne.symm ne_kb_ob))
            have f694 : Bk w79 zb ([.int .i64 0, .int .i64 0, .int .u32 0, .string ByteArray.empty, .slice none (0) (0)]) 70 := (f681.on k79 (Ne.symm ne_kb_zb))
            have f695 : Bk w79 ub ([.int .i64 0, .int .i64 0, .int .u32 0, .string ByteArray.empty, .slice none (0) (0)]) 70 := (f682.on k79 (Ne.symm ne_kb_ub))
            have f696 : Bk w79 rb ([.int .i64 ((q + 1 : Nat) : Int), .int .i64 ((n : Nat) : Int), .int .u32 3, .string ({ data := #[109] }), .slice none (0) (0)]) 70 := (f683.on k79 (Ne.symm ne_kb_rb))
            have o697 : Gt w79 := (o684.on k79 (Ne.symm ne_kb_0))
            have o698 : Tb w79 b3_0 := (o685.on k79 (Ne.symm ne_kb_b3_0))
            have ob699 := (ob686.onN k79 ob669 N78.le)
            refine ⟨⟨kk79, f687, f688, f689, f690, f691, f692, f693, f694, f695, f696, o697, o698, ob699⟩, ?_⟩
            refine D_take 11 rfl (by kernel_rfl) (by kernel_rfl) (by kernel_rfl) (fun _ _ _ h => h) rfl (fun W hS => pu_assign rfl) ?_
            refine D_take 12 rfl (by kernel_rfl) (by kernel_rfl) (by kernel_rfl) (fun _ _ _ h => h) rfl (fun W hS => pu_assign rfl) ?_
            refine D_done (by kernel_rfl) ?_
            refine X_cut hK_ [(6, .bool false), (29, .nilIface)] (Sub.cons rfl (Sub.cons rfl (Sub.nil _))) ⟨rfl, kk79, f687, f688, f689, f690, f691, f692, f693, f694, f695, f696, o697, o698⟩
          · have f700 : Bk w76 px (u8s X) 85 := (f623.no k76)
            have f701 : Bk w76 po (u8s O) 86 := (f624.no k76)
            have f702 : Bk w76 pb ([.int .i64 ((q + 1 : Nat) : Int), .int .i64 ((n : Nat) : Int), .int .u32 3]) 28 := (f625.no k76)
            have f703 : Bk w76 dd (u8s (List.replicate (32 * q) 0)) 5 := (f626.no k76)
            have f704 : Bk w76 pp ([.int .i64 ((q + 1 : Nat) : Int), .int .i64 ((n : Nat) : Int), .int .u32 3, .string ({ data := #[109] }), .slice none (0) (0)]) 70 := (f627.no k76)
            have f705 : Bk w76 yb ([.int .i64 ((q + 1 : Nat) : Int), .int .i64 ((n : Nat) : Int), .int .u32 3, .string ({ data := #[109] }), .slice A_y ((L_y).length) (c_y)]) 70 := (f628.no k76)
            have f706 : Bk w76 ob ([.int .u8 ((n + 1 : Nat) : Int), .int .u32 ((s2.gen : Nat) : Int), .slice s2.A ((s2.X).length) (s2.c)]) 50 := (f629.no k76)
            have f707 : Bk w76 zb ([.int .i64 0, .int .i64 0, .int .u32 0, .string ByteArray.empty, .slice none (0) (0)]) 70 := (f630.no k76)
            have f708 : Bk w76 ub ([.int .i64 0, .int .i64 0, .int .u32 0, .string ByteArray.empty, .slice none (0) (0)]) 70 := (f631.no k76)
            have f709 : Bk w76 rb ([.int .i64 ((q + 1 : Nat) : Int), .int .i64 ((n : Nat) : Int), .int .u32 3, .string ({ data := #[109] }), .slice none (0) (0)]) 70 := (f622.no k76)
            have o710 : Gt w76 := (o632.no k76)
            have o711 : Tb w76 b3_0 := (o633.no k76)
            have ob712 := ((((((ob613.keptNo k71).onN k72 ob613 N71.le).keptNo k73).keptNo k74).keptNo k75).keptNo k76)
            have ob713 := ((((((ob614.keptNo k71).onN k72 ob614 N71.le).keptNo k73).keptNo k74).keptNo k75).keptNo k76)
            have ob714 := ((((((ob615.keptNo k71).onN k72 ob615 N71.le).keptNo k73).keptNo k74).keptNo k75).keptNo k76)
            refine Nx_lo rfl (lo_alloc (L := [.int .i64 0, .int .i64 0, .int .u32 0, .string ByteArray.empty, .slice none (0) (0)]) (by kernel_rfl)) rfl ?_
            rintro _ w80 ⟨kb, rfl, N80⟩
            have k80 := N80.kp
            have kk80 := kk76.then_ k80
            have ne_kb_px : kb ≠ px := Nat.ne_of_gt (Nat.lt_of_lt_of_le f700.lt N80.le)
            have ne_kb_po : kb ≠ po := Nat.ne_of_gt (Nat.lt_of_lt_of_le f701.lt N80.le)
            have ne_kb_pb : kb ≠ pb := Nat.ne_of_gt (Nat.lt_of_lt_of_le f702.lt N80.le)
            have ne_kb_dd : kb ≠ dd := Nat.ne_of_gt (Nat.lt_of_lt_of_le f703.lt N80.le)
            have ne_kb_pp : kb ≠ pp := Nat.ne_of_gt (Nat.lt_of_lt_of_le f704.lt N80.le)
            have ne_kb_yb : kb ≠ yb := Nat.ne_of_gt (Nat.lt_of_lt_of_le f705.lt N80.le)
            have ne_kb_ob : kb ≠ ob := Nat.ne_of_gt (Nat.lt_of_lt_of_le f706.lt N80.le)
            have ne_kb_zb : kb ≠ zb := Nat.ne_of_gt (Nat.lt_of_lt_of_le f707.lt N80.le)
            have ne_kb_ub : kb ≠ ub := Nat.ne_of_gt (Nat.lt_of_lt_of_le f708.lt N80.le)
            have ne_kb_rb : kb ≠ rb := Nat.ne_of_gt (Nat.lt_of_lt_of_le f709.lt N80.le)
            have ne_kb_0 : kb ≠ 0 := Nat.ne_of_gt (Nat.lt_of_lt_of_le o710.lt N80.le)
            have ne_kb_b3_0 : kb ≠ b3_0 := Nat.ne_of_gt (Nat.lt_of_lt_of_le o711.lt N80.le)
            have f_kb_80 : Bk w80 kb ([.int .i64 0, .int .i64 0, .int .u32 0, .string ByteArray.empty, .slice none (0) (0)]) 70 := N80.bk
            have f715 : Bk w80 px (u8s X) 85 := (f700.no k80)
            have f716 : Bk w80 po (u8s O) 86 := (f701.no k80)
            have f717 : Bk w80 pb ([.int .i64 ((q + 1 : Nat) : Int), .int .i64 ((n : Nat) : Int), .int .u32 3]) 28 := (f702.no k80)
            have f718 : Bk w80 dd (u8s (List.replicate (32 * q) 0)) 5 := (f703.no k80)
            have f719 : Bk w80 pp ([.int .i64 ((q + 1 : Nat) : Int), .int .i64 ((n : Nat) : Int), .int .u32 3, .string ({ data := #[109] }), .slice none (0) (0)]) 70 := (f704.no k80)
            have f720 : Bk w80 yb ([.int .i64 ((q + 1 : Nat) : Int), .int .i64 ((n : Nat) : Int), .int .u32 3, .string ({ data := #[109] }), .slice A_y ((L_y).length) (c_y)]) 70 := (f705.no k80)
            have f721 : Bk w80 ob ([.int .u8 ((n + 1 : Nat) : Int), .int .u32 ((s2.gen : Nat) : Int), .slice s2.A ((s2.X).length) (s2.c)]) 50 := (f706.no k80)
            have f722 : Bk w80 zb ([.int .i64 0, .int .i64 0, .int .u32 0, .string ByteArray.empty, .slice none (0) (0)]) 70 := (f707.no k80)
            have f723 : Bk w80 ub ([.int .i64 0, .int .i64 0, .int .u32 0, .string ByteArray.empty, .slice none (0) (0)]) 70 := (f708.no k80)
            have f724 : Bk w80 rb ([.int .i64 ((q + 1 : Nat) : Int), .int .i64 ((n : Nat) : Int), .int .u32 3, .string ({ data := #[109] }), .slice none (0) (0)]) 70 := (f709.no k80)
            have o725 : Gt w80 := (o710.no k80)
            have o726 : Tb w80 b3_0 := (o711.no k80)
            have ob727 := (ob635.keptNo k80)
            refine ⟨⟨kk80, f715, f716, f717, f718, f719, f720, f721, f722, f723, f724, o725, o726, ob727⟩, ?_⟩
            have ob728 := (od_s3.keptNo k80)
            have k_s3 := key_at hK_x e_s3 (ptK_get (show 0 < n by omega)); have lx_s3 : s3.X.length = 32 := by rw [k_s3.2.2, ptX_length]; exact bX.1
            have lm729 := ob727.top
            have ob731 := (ob712.keptNo k80)
            have lm730 := ob731.top
            have ob733 := (ob713.keptNo k80)
            have lm732 := ob733.top
            have ob735 := (ob714.keptNo k80)
            have lm734 := ob735.top
            have lm736 := ob728.top
            refine D_one 4 (by kernel_rfl) (Nx_lo rfl (lo_call (by kernel_rfl) rfl (submit_ok q n 3 ({ data := #[109] }) none ([] : List Shr) 0 s3.ix s3.gen s3.A s3.X s3.c _ (Ss.nil _ none) ob728.bs ob728.le.2 ⟨⟨⟨⟨by omega, by omega, by omega⟩, by decide, Nat.zero_le _, Nat.zero_le _⟩, Came.nil _ _⟩, ⟨by simp, k_s3.2.1, ⟨by simp [ixs], by rw [k_s3.1]; omega, by rw [k_s3.1]; omega, lx_s3⟩⟩, ok_s3.ix, by decide⟩)) rfl ?_)
            rintro _ w81 ⟨A_k, c_k, L_k, rfl, Q81, hK_k, k81⟩
            have kk81 := kk80.then_ k81
            have z737 : w80.heap.size ≤ w81.heap.size := k81.size
            have hl_k : L_k.length = 1 := by have := congrArg List.length hK_k; simpa using this
            have f738 : Bk w81 px (u8s X) 85 := (f715.no k81)
            have f739 : Bk w81 po (u8s O) 86 := (f716.no k81)
            have f740 : Bk w81 pb ([.int .i64 ((q + 1 : Nat) : Int), .int .i64 ((n : Nat) : Int), .int .u32 3]) 28 := (f717.no k81)
            have f741 : Bk w81 dd (u8s (List.replicate (32 * q) 0)) 5 := (f718.no k81)
            have f742 : Bk w81 pp ([.int .i64 ((q + 1 : Nat) : Int), .int .i64 ((n : Nat) : Int), .int .u32 3, .string ({ data := #[109] }), .slice none (0) (0)]) 70 := (f719.no k81)
            have f743 : Bk w81 yb ([.int .i64 ((q + 1 : Nat) : Int), .int .i64 ((n : Nat) : Int), .int .u32 3, .string ({ data := #[109] }), .slice A_y ((L_y).length) (c_y)]) 70 := (f720.no k81)
            have f744 : Bk w81 ob ([.int .u8 ((n + 1 : Nat) : Int), .int .u32 ((s2.gen : Nat) : Int), .slice s2.A ((s2.X).length) (s2.c)]) 50 := (f721.no k81)
            have f745 : Bk w81 zb ([.int .i64 0, .int .i64 0, .int .u32 0, .string ByteArray.empty, .slice none (0) (0)]) 70 := (f722.no k81)
            have f746 : Bk w81 ub ([.int .i64 0, .int .i64 0, .int .u32 0, .string ByteArray.empty, .slice none (0) (0)]) 70 := (f723.no k81)
            have f747 : Bk w81 rb ([.int .i64 ((q + 1 : Nat) : Int), .int .i64 ((n : Nat) : Int), .int .u32 3, .string ({ data := #[109] }), .slice none (0) (0)]) 70 := (f724.no k81)
            have o748 : Gt w81 := (o725.no k81)
            have o749 : Tb w81 b3_0 := (o726.no k81)
            have ob750 := (ob727.keptNo k81)
            refine ⟨⟨kk81, f738, f739, f740, f741, f742, f743, f744, f745, f746, f747, o748, o749, ob750⟩, ?_⟩
            refine D_take 5 rfl (by kernel_rfl) (by kernel_rfl) (by kernel_rfl) (fun _ _ _ h => h) rfl (fun W hS => pu_move rfl) ?_
            refine D_take 6 rfl (by kernel_rfl) (by kernel_rfl) (by kernel_rfl) (fun _ _ _ h => h) rfl (fun W hS => pu_extract rfl rfl) ?_
            refine D_take 7 rfl (by kernel_rfl) (by kernel_rfl) (by kernel_rfl) (fun _ _ _ h => h) rfl (fun W hS => pu_extract rfl rfl) ?_
            refine D_take 8 rfl (by kernel_rfl) (by kernel_rfl) (by kernel_rfl) (fun _ _ _ h => h) rfl (fun W hS => pu_extract rfl rfl) ?_
            have f751 : Bk w81 kb ([.int .i64 0, .int .i64 0, .int .u32 0, .string ByteArray.empty, .slice none (0) (0)]) 70 := (f_kb_80.no k81)
            refine D_one 10 (by kernel_rfl) (Nx_lo0 rfl (lo_storeRow (C := [.int .i64 ((q + 1 : Nat) : Int), .int .i64 ((n : Nat) : Int), .int .u32 3, .string ({ data := #[109] }), .slice A_k ((L_k).length) (c_k)]) f751 (by kernel_rfl) rfl rfl (by intro u hu; simp at hu; rcases hu with rfl | rfl | rfl | rfl | rfl <;> rfl) rfl) ?_)
            rintro _ w82 kf82
            obtain ⟨k82, f_kb_82⟩ := kf82
            replace f_kb_82 : Bk w82 kb ([.int .i64 ((q + 1 : Nat) : Int), .int .i64 ((n : Nat) : Int), .int .u32 3, .string ({ data := #[109] }), .slice A_k ((L_k).length) (c_k)]) 70 := f_kb_82
            have kk82 := kk81.trans k82 (fun i hi => .inr (hi ▸ (Nat.le_trans kk76.size N80.le)))
            have f752 : Bk w82 px (u8s X) 85 := (f738.on k82 (Ne.symm ne_kb_px))
            have f753 : Bk w82 po (u8s O) 86 := (f739.on k82 (Ne.symm ne_kb_po))
            have f754 : Bk w82 pb ([.int .i64 ((q + 1 : Nat) : Int), .int .i64 ((n : Nat) : Int), .int .u32 3]) 28 := (f740.on k82 (Ne.symm ne_kb_pb))
            have f755 : Bk w82 dd (u8s (List.replicate (32 * q) 0)) 5 := (f741.on k82 (Ne.symm ne_kb_dd))
            have f756 : Bk w82 pp ([.int .i64 ((q + 1 : Nat) : Int), .int .i64 ((n : Nat) : Int), .int .u32 3, .string ({ data := #[109] }), .slice none (0) (0)]) 70 := (f742.on k82 (Ne.symm ne_kb_pp))
            have f757 : Bk w82 yb ([.int .i64 ((q + 1 : Nat) : Int), .int .i64 ((n : Nat) : Int), .int .u32 3, .string ({ data := #[109] }), .slice A_y ((L_y).length) (c_y)]) 70 := (f743.on k82 (Ne.symm ne_kb_yb))
            have f758 : Bk w82 ob ([.int .u8 ((n + 1 : Nat) : Int), .int .u32 ((s2.gen : Nat) : Int), .slice s2.A ((s2.X).length) (s2.c)]) 50 := (f744.on k82 (Ne.symm ne_kb_ob))
            have f759 : Bk w82 zb ([.int .i64 0, .int .i64 0, .int .u32 0, .string ByteArray.empty, .slice none (0) (0)]) 70 := (f745.on k82 (Ne.symm ne_kb_zb))
            have f760 : Bk w82 ub ([.int .i64 0, .int .i64 0, .int .u32 0, .string ByteArray.empty, .slice none (0) (0)]) 70 := (f746.on k82 (Ne.symm ne_kb_ub))
            have f761 : Bk w82 rb ([.int .i64 ((q + 1 : Nat) : Int), .int .i64 ((n : Nat) : Int), .int .u32 3, .string ({ data := #[109] }), .slice none (0) (0)]) 70 := (f747.on k82 (Ne.symm ne_kb_rb))
            have o762 : Gt w82 := (o748.on k82 (Ne.symm ne_kb_0))
            have o763 : Tb w82 b3_0 := (o749.on k82 (Ne.symm ne_kb_b3_0))
            have ob764 := (ob750.onN k82 ob635 N80.le)
            refine ⟨⟨kk82, f752, f753, f754, f755, f756, f757, f758, f759, f760, f761, o762, o763, ob764⟩, ?_⟩
            refine D_take 11 rfl (by kernel_rfl) (by kernel_rfl) (by kernel_rfl) (fun _ _ _ h => h) rfl (fun W hS => pu_assign rfl) ?_
            refine D_take 12 rfl (by kernel_rfl) (by kernel_rfl) (by kernel_rfl) (fun _ _ _ h => h) rfl (fun W hS => pu_assign rfl) ?_
            refine D_done (by kernel_rfl) ?_
            refine X_cut hK_ [(6, .bool false), (29, .nilIface)] (Sub.cons rfl (Sub.cons rfl (Sub.nil _))) ⟨rfl, kk82, f752, f753, f754, f755, f756, f757, f758, f759, f760, f761, o762, o763⟩
        · rintro _ w83 ⟨rfl, kk83, f_px_83, f_po_83, f_pb_83, f_dd_83, f_pp_83, f_yb_83, f_ob_83, f_zb_83, f_ub_83, f_rb_83, G_83, T_b3_0_83⟩
          refine C_seq (fun K765 hK765 => ?_)
          refine C_region ?_
          refine R_pu (pu_move rfl) rfl ?_
          refine R_pu (pu_eqlnn (by kernel_rfl) rfl) rfl ?_
          refine R_pu (pu_move rfl) rfl ?_
          refine R_glo rfl rfl (lo_call (by kernel_rfl) rfl (sure23 _ G_83)) rfl ?_
          rintro _ w84 ⟨rfl, k84⟩
          have kk84 := kk83.then_ k84
          refine R_pu (pu_pickt rfl rfl) rfl ?_
          refine R_pu (pu_assign rfl) rfl ?_
          refine R_nil ?_
          refine X_then hK765 ?_
          refine C_ret ?_
          exact X_ret1 (.inl rfl) rfl rfl ⟨rfl, kk84⟩
end Go.Proofs.YtjbdimfpjbmggaaDoor
