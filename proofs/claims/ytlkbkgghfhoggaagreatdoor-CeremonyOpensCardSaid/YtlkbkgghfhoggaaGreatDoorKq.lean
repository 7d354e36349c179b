/- Walks of keyring.Decode. -/
import Derived.Test.YtlkbkgghfhoggaaGreatDoorKp
set_option linter.unusedVariables false
set_option linter.unusedSimpArgs false
set_option maxHeartbeats 2000000
set_option maxRecDepth 100000
namespace Go.Proofs.YtlkbkgghfhoggaaGreatDoor
open Go.RowKit Gm
theorem chunk_ret32 (A : Option Addr) (n c : Nat) (w : World)  : Ret Tryz.prog 61 #[.slice A (n) (c), .int .i64 32] w (fun v w' => ∃ bs bn, v = .func (.func 79) #[] #[.pointer (some ⟨bs, 0, none⟩), .pointer (some ⟨bn, 0, none⟩)] ∧ w.heap.size ≤ bs ∧ w.heap.size ≤ bn ∧ bs ≠ bn ∧ Bk w' bs [.slice A n c] 22 ∧ Bk w' bn [.int .i64 32] 3 ∧ Kp No w w') := by
 have kk0 := Kp.refl No w
 refine enter (n := 9) [.slice A (n) (c), .int .i64 32] Tryz.func61 rfl rfl rfl ?_
 show Cw _ _ _ _ [(0, .slice A (n) (c)), (1, .int .i64 32)] _
 refine C_seq fun K1 hK1 => C_region <| R_lo (lo_box (L := [.slice A (n) (c)]) rfl rfl) rfl ?_
 rintro _ w1 ⟨bs, rfl, N1⟩
 have k1 := N1.kp
 have kk1 := kk0.then_ k1
 have f_bs_1 := N1.bk
 refine R_lo (lo_box (L := [.int .i64 32]) rfl rfl) rfl ?_
 rintro _ w2 ⟨bn, rfl, N2⟩
 have k2 := N2.kp
 have kk2 := kk1.then_ k2
 have ne_bn_bs := Nat.ne_of_gt (Nat.lt_of_lt_of_le f_bs_1.lt N2.le)
 have f_bn_2 := N2.bk
 refine Rp (pu_assign rfl) <| R_nil <| X_then hK1 <| C_seq fun K2 hK2 => C_seq fun K3 hK3 => C_region <| Rp (pu_loadK f_bn_2 (by kernel_rfl) rfl rfl) <| Rp (pu_false (pu_lss (p := (32 : Nat) < 1) rfl rfl (by omega)) (by decide)) <| R_nil <| X_then hK3 <| C_false rfl <| C_skip <| X_then hK2 <| C_seq fun K4 hK4 => C_region <| Rp (pu_makeFuncC rfl) <| Rp (pu_assign rfl) <| R_nil <| X_then hK4 <| C_ret ?_
 have f5 := (f_bs_1.no k2)
 exact X_ret1 (.inl rfl) rfl rfl ⟨bs, bn, rfl, (Nat.le_trans kk0.size N1.le), (Nat.le_trans kk1.size N2.le), (Ne.symm ne_bn_bs), f5, f_bn_2, kk2⟩
theorem ring_decode (A : Option Addr) (l : List Nat) (c : Nat) (w : World) (HL : Bs w A l) (hc : l.length ≤ c) (hM : mayD l) : Ret Tryz.prog 41 #[.slice A (l.length) (c)] w (fun v w' => ∃ A c, v = .tuple #[.agg ([.slice A (decR l).length c] : List Value).toArray, .nilIface] ∧ Ro tmC 33 58 w' w.heap.size (.slice A (decR l).length c) (decR l) ∧ Kp No w w') := by
 have hF := hM.1
 have hl9 := len_frame hF HL.byte; have hb2 := getD_lt HL.byte 2; obtain ⟨hf1, hf2, hf3⟩ := id hF
 have kk0 := Kp.refl No w
 refine enterM 3 (n := 52) [.slice A (l.length) (c)] Tryz.func41 rfl rfl rfl ?_
 show Cw _ _ _ _ [(0, .slice A (l.length) (c))] _
 refine C_seq fun K1 hK1 => C_region <| R_lo (lo_alloc (L := [.slice none (0) (0)]) (by kernel_rfl)) rfl ?_
 rintro _ w1 ⟨p2, rfl, N1⟩
 have k1 := N1.kp
 have kk1 := kk0.then_ k1
 have f_p2_1 := N1.bk
 refine Rp (pu_assign rfl) <| R_nil <| X_then hK1 <| C_seq fun K2 hK2 => C_seq fun K3 hK3 => C_region <| Rp (pu_move rfl) <| Rp (pu_len Tryz.underlying22 rfl) <| Rp (pu_false (pu_lss (p := l.length < 3) rfl rfl (by omega)) (by omega)) <| Rp (pu_move rfl) <| Rg (pu_move rfl) ?_
 have HLt4 := Bs.take HL 2
 refine Rg (pu_sliceHi (hi := 2) (s := 1) Tryz.underlying22 (by kernel_rfl) rfl rfl rfl (by have := hc; omega)) <| Rg (pu_bstr (HLt4.keptNo kk1) Tryz.underlying22 Tryz.underlying5 Tryz.underlying9 rfl (show (l.take 2).length = 2 by rw [List.length_take]; omega)) <| Rg (pu_false (pu_neqs (c := bstr [107, 114]) (p := l.take 2 = [107, 114]) rfl (by kernel_rfl) (bstr_inj (HL.take 2).byte (by_lit (n := 2) [107, 114] (by decide)).2)) (fun h => h hf2)) <| Rp (pu_pickf rfl rfl) <| Rp (pu_move rfl) <| Rg (pu_move rfl) <| Rg (pu_len Tryz.underlying22 rfl) <| Rg (pu_move rfl) <| Rg (pu_indexAddrB (m := 2) (HL.keptNo kk1) Tryz.underlying22 (by kernel_rfl) rfl rfl rfl rfl (by omega)) ?_
 obtain ⟨b2, e_b2⟩ : ∃ q_, (l)[2]? = some q_ := ⟨_, List.getElem?_eq_getElem (by omega)⟩
 have b_b2 : b2 < 256 := ((HL.keptNo kk1)).lt e_b2
 refine Rg (pu_loadB (HL.keptNo kk1) (by kernel_rfl) rfl e_b2) <| Rg (pu_conv (z := ((b2 : Nat) : Int)) Tryz.underlying5 Tryz.underlying3 rfl (by have : b2 < 256 := b_b2; rw [IntKind.wrap_i64]; omega)) <| Rg (pu_mul (z := ((b2 * 32 : Nat) : Int)) rfl rfl (by rw [IntKind.wrap_i64]; omega)) <| Rg (pu_add (z := ((3 + (b2 * 32) : Nat) : Int)) rfl rfl (by rw [IntKind.wrap_i64]; omega)) <| Rg (pu_false (pu_neq (p := l.length = (3 + (b2 * 32))) rfl rfl (by omega)) (fun h => h (by rw [hf3, getD_some e_b2]; omega))) <| Rp (pu_pickf rfl rfl) <| R_nil <| X_then hK3 <| C_false rfl <| C_skip <| X_then hK2 <| C_seq fun K5 hK5 => C_region <| R_lo (lo_alloc (L := [.slice none (0) (0)]) (by kernel_rfl)) rfl ?_
 rintro _ w2 ⟨p4, rfl, N2⟩
 have k2 := N2.kp
 have kk2 := kk1.then_ k2
 have ne_p4_p2 := Nat.ne_of_gt (Nat.lt_of_lt_of_le f_p2_1.lt N2.le)
 have f_p4_2 := N2.bk
 refine R_nil <| X_then hK5 <| C_seqW fun K6 hK6 => C_seq fun K7 hK7 => C_region <| Rp (pu_move rfl) ?_
 have HLc8 := Bs.cut HL hc 3
 refine Rp (pu_sliceLo (lo := 3) (s := 1) Tryz.underlying22 (by kernel_rfl) rfl rfl rfl (by omega) (by have := hc; omega)) ?_
 have f9 := (f_p2_1.no k2)
 refine R_lo (lo_call (by kernel_rfl) rfl (chunk_ret32 (cutA A 3 c 1) (l.length - 3) (c - 3) _)) rfl ?_
 rintro _ w3 ⟨bs, bn, rfl, le3, lx3, nk3, B3, C3, k3⟩
 have kk3 := kk2.then_ k3
 have ne_bs_p4 := Nat.ne_of_gt (Nat.lt_of_lt_of_le f_p4_2.lt le3)
 have ne_bn_p4 := Nat.ne_of_gt (Nat.lt_of_lt_of_le f_p4_2.lt lx3)
 refine R_nil <| X_then hK7 <| C_block ?_
 have fbs : Bk w3 bs [.slice (cutA A 3 c 1) (l.drop 3).length (c - 3)] 22 := Bk.eq B3 (by rw [List.length_drop])
 have f10 := (f9.no k3)
 have f11 := (f_p4_2.no k3)
 have ro12 : Ro tmC 33 58 w3 w3.heap.size (.slice none ([] : List Tm).length 0) [] := Ro.nil w3 w3.heap.size
 have z13 := Nat.le_refl w3.heap.size
 refine C_chunk2 (A := (cutA A 3 c 1)) (L := (l.drop 3)) (c := c - 3) rfl ⟨fbs, C3⟩ (by rw [List.length_drop]; omega) (by rw [List.length_drop]; omega) rfl rfl (fun pre wr => ∃ Ar : Option Addr, ∃ cr : Nat, (Kp No w wr) ∧ (Bk wr p2 ([.slice none (0) (0)]) 46) ∧ (Bk wr p4 ([.slice Ar ((termsJ l (pre.map Subtype.val)).length) (cr)]) 46) ∧ (Bk wr bs ([.slice (cutA A 3 c 1) ((l.drop 3).length) (c - 3)]) 22) ∧ (Bk wr bn ([.int .i64 32]) 3) ∧ (Ro tmC 33 58 wr w3.heap.size (.slice Ar ((termsJ l (pre.map Subtype.val)).length) (cr)) (termsJ l (pre.map Subtype.val)) ∧ w3.heap.size ≤ (wr).heap.size)) (fun W i => i = p4 ∨ ∃ v t, Bk W p4 [v] t ∧ v.ownBlock = some i) ?_ ?_ ?_ ⟨none, 0, kk3, f10, f11, fbs, C3, ⟨ro12, z13⟩⟩ ?_ ?_
 ·
  exact fun pre A_ B_ h b_ => by obtain ⟨Ar, cr, kkr, fr_p2, fr_p4, fr_bs, fr_bn, of_r⟩ := h; exact ⟨Ar, cr, kkr.bw b_ kk3.size, fr_p2.bw b_, fr_p4.bw b_, fr_bs.bw b_, fr_bn.bw b_, ⟨of_r.1.bw b_, Nat.le_trans of_r.2 b_.size⟩⟩
 ·
  exact fun pre A_ h => by obtain ⟨Ar, cr, kkr, fr_p2, fr_p4, fr_bs, fr_bn, of_r⟩ := h; exact ⟨fr_bs, fr_bn⟩
 ·
  intro pre A_ h i hi
  obtain ⟨Ar, cr, kkr, fr_p2, fr_p4, fr_bs, fr_bn, of_r⟩ := h
  rcases hi with rfl | ⟨v, t, hb, hv⟩
  ·
   exact fr_p4.cells
  ·
   cases Bk.one_inj fr_p4 hb; exact of_r.1.cells hv
 ·
  rintro l0 pre x w4 ⟨Ar, cr, kkr, fr_p2, fr_p4, fr_bs, fr_bn, of_r⟩ hlt
  have HBc := Bs.ch2 HLc8 x.1
  have hbc := chX2_by hF HL.byte x.2
  have hst : termsJ l ((pre ++ [x]).map Subtype.val) = termsJ l (pre.map Subtype.val) ++ [((termsJ l (pre.map Subtype.val)).length + 1, (chX2 (l.drop 3) x.1))] := by rw [List.map_append]; exact termsJ_more ..
  have hpl : (termsJ l (pre.map Subtype.val)).length = pre.length := by rw [termsJ_length, List.length_map]
  have hn32 := nCh2_of hF
  refine Cr_block <| Zr_begin rfl no_out (fun W => Kp No w W ∧ Bk W p2 ([.slice none (0) (0)]) 46 ∧ Bk W p4 ([.slice Ar ((termsJ l (pre.map Subtype.val)).length) (cr)]) 46 ∧ Bk W bs ([.slice (cutA A 3 c 1) ((l.drop 3).length) (c - 3)]) 22 ∧ Bk W bn ([.int .i64 32]) 3) 14 15 rfl (by kernel_rfl) ⟨kkr.drew, fr_p2.draw, fr_p4.draw, fr_bs.draw, fr_bn.draw⟩ ?_
  intro w6 k6 _
  have kk6 := kkr.then_ k6
  refine Z_take 0 rfl (by kernel_rfl) (by kernel_rfl) (by kernel_rfl) (by kernel_rfl) (by kernel_rfl) (fun _ _ _ h => h) rfl (fun W hS => pu_fieldAddr (off := 0) (o' := 0) (by kernel_rfl) rfl rfl) <| Z_take 1 rfl (by kernel_rfl) (by kernel_rfl) (by kernel_rfl) (by kernel_rfl) (by kernel_rfl) (fun _ _ _ h => h) rfl (fun W hS => pu_loadK hS.2.2.1 (by kernel_rfl) rfl rfl) <| Z_take 2 rfl (by kernel_rfl) (by kernel_rfl) (by kernel_rfl) (by kernel_rfl) (by kernel_rfl) (fun _ _ _ h => h) rfl (fun W hS => pu_fieldAddr (off := 0) (o' := 0) (by kernel_rfl) rfl rfl) <| Z_take 3 rfl (by kernel_rfl) (by kernel_rfl) (by kernel_rfl) (by kernel_rfl) (by kernel_rfl) (fun _ _ _ h => h) rfl (fun W hS => pu_loadK hS.2.2.1 (by kernel_rfl) rfl rfl) <| Z_take 4 rfl (by kernel_rfl) (by kernel_rfl) (by kernel_rfl) (by kernel_rfl) (by kernel_rfl) (fun _ _ _ h => h) rfl (fun W hS => pu_len Tryz.underlying44 rfl) <| Z_take 5 rfl (by kernel_rfl) (by kernel_rfl) (by kernel_rfl) (by kernel_rfl) (by kernel_rfl) (fun _ _ _ h => h) rfl (fun W hS => pu_add (z := ((((termsJ l (pre.map Subtype.val)).length) + 1 : Nat) : Int)) rfl rfl (by rw [IntKind.wrap_i64]; omega)) <| Z_take 6 rfl (by kernel_rfl) (by kernel_rfl) (by kernel_rfl) (by kernel_rfl) (by kernel_rfl) (fun _ _ _ h => h) rfl (fun W hS => pu_conv (z := ((((termsJ l (pre.map Subtype.val)).length) + 1 : Nat) : Int)) Tryz.underlying3 Tryz.underlying32 rfl (by rw [IntKind.wrap_u32]; omega)) <| Z_take 7 rfl (by kernel_rfl) (by kernel_rfl) (by kernel_rfl) (by kernel_rfl) (by kernel_rfl) (fun _ _ _ h => h) rfl (fun W hS => pu_move rfl) <| Z_take 8 rfl (by kernel_rfl) (by kernel_rfl) (by kernel_rfl) (by kernel_rfl) (by kernel_rfl) (fun _ _ _ h => h) rfl (fun W hS => pu_toArr Tryz.underlying56 rfl (by rw [← chX2_length, hbc.1]; exact Nat.le_refl _)) <| Z_take 9 rfl (by kernel_rfl) (by kernel_rfl) (by kernel_rfl) (by kernel_rfl) (by kernel_rfl) (fun _ _ _ h => h) rfl (fun W hS => pu_loadBs (HBc.keptNo hS.1) (by kernel_rfl) (by kernel_rfl) hbc.1 (by decide) rfl) <| Z_take 10 rfl (by kernel_rfl) (by kernel_rfl) (by kernel_rfl) (by kernel_rfl) (by kernel_rfl) (fun _ _ _ h => h) rfl (fun W hS => pu_build (L := tmC (((termsJ l (pre.map Subtype.val)).length) + 1, (chX2 (l.drop 3) x.1))) rfl (built_numrow (n := 32) (by kernel_rfl) rfl (by rw [u8s_length]; exact hbc.1))) ?_
  have f14 := (fr_p2.no k6)
  have f15 := (fr_p4.no k6)
  have f16 := (fr_bs.no k6)
  have f17 := (fr_bn.no k6)
  have ob18 := (of_r.1.keptNo k6)
  refine Z_one 11 (by kernel_rfl) (Nz_lo rfl (lo_buildSlice (L := tmC (((termsJ l (pre.map Subtype.val)).length) + 1, (chX2 (l.drop 3) x.1))) Tryz.underlying44 rfl (lit_one (by kernel_rfl) (tm_len (t := (((termsJ l (pre.map Subtype.val)).length) + 1, (chX2 (l.drop 3) x.1))) hbc))) rfl ?_)
  rintro _ w7 ⟨q, rfl, N7⟩
  have k7 := N7.kp
  have kk7 := kk6.then_ k7
  have f_q_7 := N7.bk
  have f19 := (f14.no k7)
  have f20 := (f15.no k7)
  have f21 := (f16.no k7)
  have f22 := (f17.no k7)
  refine ⟨⟨kk7, f19, f20, f21, f22⟩, ?_⟩
  have ob23 := (ob18.keptNo k7)
  refine Z_one 12 (by kernel_rfl) (Nz_lo rfl (lo_appR (f := tmC) (z := zTm) (bytes := 36) Tryz.underlying44 (by kernel_rfl) rfl (by decide) ob23 ob23.le.1 rfl rfl rfl (Rs.oneT f_q_7 (t := (((termsJ l (pre.map Subtype.val)).length) + 1, (chX2 (l.drop 3) x.1))) hbc) one_all (Nat.succ_pos _) (by rw [hpl]; simp; omega) (by rw [hpl]; simp; omega) (Nat.le_trans (Nat.le_trans of_r.2 k6.size) k7.size)) rfl ?_)
  rintro _ w8 ⟨A_8, c_8, rfl, p8⟩
  have k8 := p8.kpo
  have kk8 := kk7.trans k8 (fun i hi => .inr (Nat.le_trans (kk3).size (ob23.lt i hi).1))
  have f24 : Bk w8 p2 ([.slice none (0) (0)]) 46 := (f19.kept k8 (fun e => by have h1 := (ob23.lt _ e).1; have h2 := f10.lt; omega))
  have f25 : Bk w8 p4 ([.slice Ar ((termsJ l (pre.map Subtype.val)).length) (cr)]) 46 := (f20.kept k8 (fun e => by have h1 := (ob23.lt _ e).1; have h2 := f11.lt; omega))
  have f26 : Bk w8 bs ([.slice (cutA A 3 c 1) ((l.drop 3).length) (c - 3)]) 22 := (f21.kept k8 (fun e => by have h1 := (ob23.lt _ e).1; have h2 := fbs.lt; omega))
  have f27 : Bk w8 bn ([.int .i64 32]) 3 := (f22.kept k8 (fun e => by have h1 := (ob23.lt _ e).1; have h2 := C3.lt; omega))
  refine ⟨⟨kk8, f24, f25, f26, f27⟩, ?_⟩
  refine Z_take 13 rfl (by kernel_rfl) (by kernel_rfl) (by kernel_rfl) (by kernel_rfl) (by kernel_rfl) (fun _ _ _ h => h) rfl (fun W hS => pu_fieldAddr (off := 0) (o' := 0) (by kernel_rfl) rfl rfl) <| Z_last 14 (by kernel_rfl) rfl (by kernel_rfl) (by kernel_rfl) (lo_store f25 (by kernel_rfl) rfl rfl rfl (show 0 < 1 by decide)) ?_
  rintro _ w9 kf9
  obtain ⟨k9, f_p4_9⟩ := kf9
  replace f_p4_9 : Bk w9 p4 ([.slice A_8 (((termsJ l (pre.map Subtype.val)) ++ [(((termsJ l (pre.map Subtype.val)).length) + 1, (chX2 (l.drop 3) x.1))]).length) (c_8)]) 46 := f_p4_9
  have kk9 := kk8.trans k9 (fun i hi => .inr (hi ▸ (Nat.le_trans kk1.size N2.le)))
  refine X_in_normal ?_
  have f28 := (f24.on k9 (Ne.symm ne_p4_p2))
  have f29 := (f26.on k9 ne_bs_p4)
  have f30 := (f27.on k9 ne_bn_p4)
  have ob31 := (p8.ob.on k9 (by have := f11.lt; omega))
  exact fun _ _ => ⟨rfl, (((((Kp.refl ((fun W i => i = p4 ∨ ∃ v t, Bk W p4 [v] t ∧ v.ownBlock = some i) w4) w4).thenNo k6).thenNo k7).trans k8 (fun i hi => .inl (.inr ⟨_, _, fr_p4, hi⟩))).trans k9 (On.sub (.inl (.inl rfl)))), by rw [hst]; exact ⟨A_8, c_8, kk9, f28, f_p4_9, f29, f30, ⟨ob31, (Nat.le_trans (Nat.le_trans (Nat.le_trans (Nat.le_trans of_r.2 k6.size) k7.size) k8.size) k9.size)⟩⟩⟩
 ·
  rintro D xs w5 hD hxs ⟨Ar, cr, kkr, fr_p2, fr_p4, fr_bs, fr_bn, of_r⟩ hKD
  have hT : termsJ l (xs.map Subtype.val) = decR l := by rw [hxs, nCh2_of hF]; rfl
  rw [hT] at fr_p4 of_r
  refine Xm_in_normal <| Xm_thenW hK6 <| Cm_seq fun K32 hK32 => Cm_seq fun K33 hK33 => Cm_region <| Rm_pu (pu_loadRow (len := 1) fr_p4 (by kernel_rfl) (by kernel_rfl) rfl rfl) rfl <| Rm_lo (lo_call (by kernel_rfl) rfl (ring_check_ok Ar (decR l) cr _ of_r.1.rs (decR_ok hF HL.byte) of_r.1.le.2 ((decR_may hF).2 hM.2))) rfl ?_
  rintro _ w10 ⟨rfl, k10⟩
  have kk10 := kkr.then_ k10
  refine Rm_pu (pu_neqnn (by kernel_rfl) rfl) rfl <| Rm_nil <| Xm_then hK33 <| Cm_false rfl <| Cm_skip <| Xm_then hK32 <| Cm_seq fun K34 hK34 => Cm_region ?_
  have f35 := (fr_p4.no k10)
  refine Rm_pu (pu_loadRow (len := 1) f35 (by kernel_rfl) (by kernel_rfl) rfl rfl) rfl ?_
  have f36 := (fr_p2.no k10)
  refine Rm_lo0 (lo_storeRow (C := [.slice Ar ((decR l).length) (cr)]) f36 (by kernel_rfl) rfl rfl (by intro u hu; simp at hu; rcases hu with rfl <;> rfl) rfl) ?_
  rintro _ w11 kf11
  obtain ⟨k11, f_p2_11⟩ := kf11
  replace f_p2_11 : Bk w11 p2 ([.slice Ar ((decR l).length) (cr)]) 46 := f_p2_11
  have kk11 := kk10.trans k11 (fun i hi => .inr (hi ▸ (Nat.le_trans kk0.size N1.le)))
  refine Rm_pu (pu_assign rfl) rfl <| Rm_nil <| Xm_then hK34 <| Cm_ret ?_
  have hKe := (k11.blk (k10.blk hKD (fun e => e)) (Bk.neD fr_p2 hKD))
  have bq := Bw.put (o' := .deferred none) (Nat.le_refl D) hKe rfl
  have ob37 := ((of_r.1.keptNo k10).on k11 (by have := f10.lt; omega))
  exact Xm_retCT (len := 1) (.inl rfl) rfl rfl hKe (f_p2_11.bw bq) (by kernel_rfl) (by kernel_rfl) rfl rfl ⟨Ar, cr, rfl, (ob37.low ((kk3).size)).bw bq, kk11.bw bq (Nat.le_trans kk3.size hD)⟩
end Go.Proofs.YtlkbkgghfhoggaaGreatDoor
