/- Walks of gcm. -/
import Derived.Test.YtlkbkgghfhoggaaGreatDoorKm
import Derived.Test.YtlkbkgghfhoggaaGreatDoorAw
import Derived.Test.YtlkbkgghfhoggaaGreatDoorLz
set_option linter.unusedVariables false
set_option linter.unusedSimpArgs false
set_option maxHeartbeats 2000000
set_option maxRecDepth 100000
namespace Go.Proofs.YtlkbkgghfhoggaaGreatDoor
open Go.RowKit Gm
theorem gcm_new (A : Option Addr) (l : List Nat) (c : Nat) (w : World) (HB : Bs w A l) (hc : l.length ≤ c) (hl : l.length = 32) : Ret Tryz.prog 53 #[.slice A (l.length) (c)] w (fun v w' => ∃ p b bx, v = .tuple #[.pointer (some ⟨p, 0, none⟩), .nilIface] ∧ w.heap.size ≤ p ∧ w.heap.size ≤ b ∧ w.heap.size ≤ bx ∧ p ≠ b ∧ p ≠ bx ∧ b ≠ bx ∧ Bk w' p (gkL b (gmH l)) 164 ∧ Bk w' b (keyL bx (KW l)) 181 ∧ Sx w' bx ∧ Kp No w w') := by
 have kk0 := Kp.refl No w
 refine enter (n := 20) [.slice A (l.length) (c)] Tryz.func53 rfl rfl rfl ?_
 show Cw _ _ _ _ [(0, .slice A (l.length) (c))] _
 refine C_seq fun K1 hK1 => C_region <| Rp (pu_assign rfl) <| Rp (pu_assign rfl) <| R_nil <| X_then hK1 <| C_seq fun K2 hK2 => C_region <| Rp (pu_move rfl) ?_
 have wy_b : Wy (KW l) := KW_wy (HB).byte
 refine R_lo (lo_call (by kernel_rfl) rfl (aes_new A l c _ HB hc hl)) rfl ?_
 rintro _ w1 ⟨b, bx, rfl, le1, lx1, nk1, B1, T1, k1⟩
 have kk1 := kk0.then_ k1
 refine Rp (pu_move rfl) <| Rp (pu_extract rfl rfl) <| Rp (pu_extract rfl rfl) <| Rp (pu_assign rfl) <| Rp (pu_assign rfl) <| R_nil <| X_then hK2 <| C_seq fun K3 hK3 => C_seq fun K4 hK4 => C_region <| Rp (pu_move rfl) <| Rp (pu_neqnn (by kernel_rfl) rfl) <| R_nil <| X_then hK4 <| C_false rfl <| C_skip <| X_then hK3 <| C_seq fun K5 hK5 => C_region <| Rp (pu_move rfl) <| Rp (pu_move rfl) <| Rp (pu_build (L := u8s (List.replicate 16 0)) rfl (by kernel_rfl)) <| R_lo (lo_call (by kernel_rfl) rfl (aes_enc b bx (KW l) wy_b (List.replicate 16 0) (rep_by 16) _ nk1 B1 T1)) rfl ?_
 rintro _ w2 ⟨rfl, T2, k2⟩
 have kk2 := kk1.trans k2 (fun i hi => .inr (hi ▸ (Nat.le_trans kk0.size lx1)))
 refine Rp (pu_build (L := gkL b (gmH l)) rfl (gk_built (gmH_by l).1)) ?_
 have f6 := (B1.on k2 nk1)
 refine R_lo (lo_box (L := gkL b (gmH l)) rfl rfl) rfl ?_
 rintro _ w3 ⟨p, rfl, N3⟩
 have k3 := N3.kp
 have kk3 := kk2.then_ k3
 have ne_p_b := Nat.ne_of_gt (Nat.lt_of_lt_of_le f6.lt N3.le)
 have ne_p_bx := Nat.ne_of_gt (Nat.lt_of_lt_of_le T2.lt N3.le)
 have f_p_3 := N3.bk
 refine Rp (pu_assign rfl) <| Rp (pu_assign rfl) <| R_nil <| X_then hK5 <| C_ret ?_
 have f7 := (f6.no k3)
 have o8 := (T2.no k3)
 exact X_ret2 (.inl rfl) rfl rfl rfl ⟨p, b, bx, rfl, (Nat.le_trans kk2.size N3.le), (Nat.le_trans kk0.size le1), (Nat.le_trans kk0.size lx1), ne_p_b, ne_p_bx, nk1, f_p_3, f7, o8, kk3⟩
theorem gcm_counter (p b bx : Nat) (K : List Nat) (A : Option Addr) (N : List Nat) (c : Nat) (n : Nat) (w : World) (hK : By 32 K) (hne1 : p ≠ b) (hne2 : p ≠ bx) (hne3 : b ≠ bx) (hp : Bk w p (gkL b (gmH K)) 164) (hb : Bk w b (keyL bx (KW K)) 181) (hS : Sx w bx) (bN : By 12 N) (HN : Bs w A N) (hcn : N.length ≤ c) (aw_HN : Aw (On bx) A N) (hn : n < 4294967296) : Ret Tryz.prog 75 #[.pointer (some ⟨p, 0, none⟩), .slice A (N.length) (c), .int .u32 ((n : Nat) : Int)] w (fun v w' => v = .agg (u8s (ctrB K N n)).toArray ∧ Sx w' bx ∧ Kp (On bx) w w') := by
 have hW : Wy (KW K) := KW_wy hK.2
 have kk0 := Kp.refl (On bx) w
 refine enter (n := 32) [.pointer (some ⟨p, 0, none⟩), .slice A (N.length) (c), .int .u32 ((n : Nat) : Int)] Tryz.func75 rfl rfl rfl ?_
 show Cw _ _ _ _ [(0, .pointer (some ⟨p, 0, none⟩)), (1, .slice A (N.length) (c)), (2, .int .u32 ((n : Nat) : Int))] _
 refine C_seq fun K1 hK1 => C_region <| R_lo (lo_alloc (L := u8s (List.replicate 16 0)) (by kernel_rfl)) rfl ?_
 rintro _ w1 ⟨pr, rfl, N1⟩
 have k1 := N1.kp
 have kk1 := kk0.thenNo k1
 have ne_pr_bx := Nat.ne_of_gt (Nat.lt_of_lt_of_le hS.lt N1.le)
 have f_pr_1 := N1.bk
 refine R_nil <| X_then hK1 <| C_seq fun K2 hK2 => C_region ?_
 have f3 := (hp.no k1)
 have f4 := (hb.no k1)
 have o5 := (hS.no k1)
 refine R_lo (lo_alloc (L := u8s (List.replicate 16 0)) (by kernel_rfl)) rfl ?_
 rintro _ w2 ⟨q, rfl, N2⟩
 have k2 := N2.kp
 have kk2 := kk1.thenNo k2
 have ne_q_p := Nat.ne_of_gt (Nat.lt_of_lt_of_le f3.lt N2.le)
 have ne_q_b := Nat.ne_of_gt (Nat.lt_of_lt_of_le f4.lt N2.le)
 have ne_q_pr := Nat.ne_of_gt (Nat.lt_of_lt_of_le f_pr_1.lt N2.le)
 have ne_q_bx := Nat.ne_of_gt (Nat.lt_of_lt_of_le o5.lt N2.le)
 have f_q_2 := N2.bk
 refine R_nil <| X_then hK2 <| C_seq fun K6 hK6 => C_region <| Rp (pu_sliceArr Tryz.underlying134 (by kernel_rfl) rfl) <| Rp (pu_move rfl) <| R_lo (lo_copy (m' := 12) f_q_2 rfl rfl (HN.keptS kk2 aw_HN) rfl (by rw [bN.1]; decide) (by rw [bN.1]; rfl) (by rw [(rep_by 16).1]; decide)) rfl ?_
 rintro _ w3 kg3
 obtain ⟨rfl, kf3⟩ := kg3
 obtain ⟨k3, f_q_3⟩ := kf3
 replace f_q_3 := Bk.eq f_q_3 (congrArg u8s (ctr_cpy bN.1))
 replace f_q_3 : Bk w3 q (u8s (N ++ List.replicate 4 0)) 134 := f_q_3
 have kk3 := kk2.trans k3 (fun i hi => .inr (hi ▸ (Nat.le_trans kk1.size N2.le)))
 refine R_nil <| X_then hK6 <| C_seq fun K7 hK7 => C_region <| Rp (pu_move rfl) <| Rp (pu_shrc (m := 24) (c := 16777216) rfl rfl (by decide) (fdiv_nat n 16777216)) <| Rp (pu_conv (z := (((n / 16777216) % 256 : Nat) : Int)) Tryz.underlying32 Tryz.underlying5 rfl (by have : n / 16777216 < 4294967296 := (show n / 16777216 < 2 ^ 32 from Nat.lt_of_le_of_lt (Nat.div_le_self _ _) hn); rw [IntKind.wrap_u8]; omega)) ?_
 refine Rp (pu_move rfl) <| Rp (pu_shrc (m := 16) (c := 65536) rfl rfl (by decide) (fdiv_nat n 65536)) <| Rp (pu_conv (z := (((n / 65536) % 256 : Nat) : Int)) Tryz.underlying32 Tryz.underlying5 rfl (by have : n / 65536 < 4294967296 := (show n / 65536 < 2 ^ 32 from Nat.lt_of_le_of_lt (Nat.div_le_self _ _) hn); rw [IntKind.wrap_u8]; omega)) ?_
 refine Rp (pu_move rfl) <| Rp (pu_shrc (m := 8) (c := 256) rfl rfl (by decide) (fdiv_nat n 256)) <| Rp (pu_conv (z := (((n / 256) % 256 : Nat) : Int)) Tryz.underlying32 Tryz.underlying5 rfl (by have : n / 256 < 4294967296 := (show n / 256 < 2 ^ 32 from Nat.lt_of_le_of_lt (Nat.div_le_self _ _) hn); rw [IntKind.wrap_u8]; omega)) ?_
 refine Rp (pu_move rfl) <| Rp (pu_conv (z := ((n % 256 : Nat) : Int)) Tryz.underlying32 Tryz.underlying5 rfl (by have : n < 4294967296 := hn; rw [IntKind.wrap_u8]; omega)) <| Rp (pu_indexAddrA (m := 12) (s := 1) (o' := 12) Tryz.underlying134 (by kernel_rfl) rfl rfl rfl (by omega) (by omega)) <| R_lo0 (lo_store f_q_3 (by kernel_rfl) rfl rfl rfl (by rw [u8s_length, (n4_by bN).1]; omega)) ?_
 rintro _ w4 kf4
 obtain ⟨k4, f_q_4⟩ := kf4
 replace f_q_4 := Bk.eq f_q_4 (u8s_set _ _ ((n / 16777216) % 256))
 replace f_q_4 : Bk w4 q (u8s ((N ++ List.replicate 4 0).set 12 ((n / 16777216) % 256))) 134 := f_q_4
 have kk4 := kk3.trans k4 (fun i hi => .inr (hi ▸ (Nat.le_trans kk1.size N2.le)))
 refine Rp (pu_indexAddrA (m := 13) (s := 1) (o' := 13) Tryz.underlying134 (by kernel_rfl) rfl rfl rfl (by omega) (by omega)) <| R_lo0 (lo_store f_q_4 (by kernel_rfl) rfl rfl rfl (by rw [u8s_length, (by_set (n4_by bN) (Nat.mod_lt _ (by decide))).1]; omega)) ?_
 rintro _ w5 kf5
 obtain ⟨k5, f_q_5⟩ := kf5
 replace f_q_5 := Bk.eq f_q_5 (u8s_set _ _ ((n / 65536) % 256))
 replace f_q_5 : Bk w5 q (u8s (((N ++ List.replicate 4 0).set 12 ((n / 16777216) % 256)).set 13 ((n / 65536) % 256))) 134 := f_q_5
 have kk5 := kk4.trans k5 (fun i hi => .inr (hi ▸ (Nat.le_trans kk1.size N2.le)))
 refine Rp (pu_indexAddrA (m := 14) (s := 1) (o' := 14) Tryz.underlying134 (by kernel_rfl) rfl rfl rfl (by omega) (by omega)) <| R_lo0 (lo_store f_q_5 (by kernel_rfl) rfl rfl rfl (by rw [u8s_length, (by_set (by_set (n4_by bN) (Nat.mod_lt _ (by decide))) (Nat.mod_lt _ (by decide))).1]; omega)) ?_
 rintro _ w6 kf6
 obtain ⟨k6, f_q_6⟩ := kf6
 replace f_q_6 := Bk.eq f_q_6 (u8s_set _ _ ((n / 256) % 256))
 replace f_q_6 : Bk w6 q (u8s ((((N ++ List.replicate 4 0).set 12 ((n / 16777216) % 256)).set 13 ((n / 65536) % 256)).set 14 ((n / 256) % 256))) 134 := f_q_6
 have kk6 := kk5.trans k6 (fun i hi => .inr (hi ▸ (Nat.le_trans kk1.size N2.le)))
 refine Rp (pu_indexAddrA (m := 15) (s := 1) (o' := 15) Tryz.underlying134 (by kernel_rfl) rfl rfl rfl (by omega) (by omega)) <| R_lo0 (lo_store f_q_6 (by kernel_rfl) rfl rfl rfl (by rw [u8s_length, (by_set (by_set (by_set (n4_by bN) (Nat.mod_lt _ (by decide))) (Nat.mod_lt _ (by decide))) (Nat.mod_lt _ (by decide))).1]; omega)) ?_
 rintro _ w7 kf7
 obtain ⟨k7, f_q_7⟩ := kf7
 replace f_q_7 := Bk.eq f_q_7 (u8s_set _ _ (n % 256))
 replace f_q_7 : Bk w7 q (u8s (((((N ++ List.replicate 4 0).set 12 ((n / 16777216) % 256)).set 13 ((n / 65536) % 256)).set 14 ((n / 256) % 256)).set 15 (n % 256))) 134 := f_q_7
 have kk7 := kk6.trans k7 (fun i hi => .inr (hi ▸ (Nat.le_trans kk1.size N2.le)))
 refine R_nil <| X_then hK7 <| C_seq (fun K8 hK8 => ?_)
 have fE : Bk w7 q (u8s (N ++ be4 n)) 134 := Bk.eq f_q_7 (congrArg u8s (ctr_set bN.1 _ _ _ _))
 have f9 := ((((((f3.no k2).on k3 (Ne.symm ne_q_p)).on k4 (Ne.symm ne_q_p)).on k5 (Ne.symm ne_q_p)).on k6 (Ne.symm ne_q_p)).on k7 (Ne.symm ne_q_p))
 have f10 := ((((((f4.no k2).on k3 (Ne.symm ne_q_b)).on k4 (Ne.symm ne_q_b)).on k5 (Ne.symm ne_q_b)).on k6 (Ne.symm ne_q_b)).on k7 (Ne.symm ne_q_b))
 have f11 := ((((((f_pr_1.no k2).on k3 (Ne.symm ne_q_pr)).on k4 (Ne.symm ne_q_pr)).on k5 (Ne.symm ne_q_pr)).on k6 (Ne.symm ne_q_pr)).on k7 (Ne.symm ne_q_pr))
 have o12 := ((((((o5.no k2).on k3 (Ne.symm ne_q_bx)).on k4 (Ne.symm ne_q_bx)).on k5 (Ne.symm ne_q_bx)).on k6 (Ne.symm ne_q_bx)).on k7 (Ne.symm ne_q_bx))
 refine Z_begin (fun W => Kp (On bx) w W ∧ Bk W p (gkL b (gmH K)) 164 ∧ Bk W b (keyL bx (KW K)) 181 ∧ Bk W pr (u8s (List.replicate 16 0)) 134 ∧ Bk W q (u8s (N ++ be4 n)) 134 ∧ Sx W bx) 6 7 rfl (by kernel_rfl) ⟨kk7.drew, f9.draw, f10.draw, f11.draw, fE.draw, o12.draw⟩ ?_
 intro w8 k8 _
 have kk8 := kk7.thenNo k8
 refine Z_take 0 rfl (by kernel_rfl) (by kernel_rfl) (by kernel_rfl) (by kernel_rfl) (by kernel_rfl) (fun _ _ _ h => h) rfl (fun W hS => pu_move rfl) <| Z_take 1 rfl (by kernel_rfl) (by kernel_rfl) (by kernel_rfl) (by kernel_rfl) (by kernel_rfl) (fun _ _ _ h => h) rfl (fun W hS => pu_nilCheck rfl) <| Z_take 2 rfl (by kernel_rfl) (by kernel_rfl) (by kernel_rfl) (by kernel_rfl) (by kernel_rfl) (fun _ _ _ h => h) rfl (fun W hS => pu_fieldAddr (off := 0) (o' := 0) (by kernel_rfl) rfl rfl) <| Z_take 3 rfl (by kernel_rfl) (by kernel_rfl) (by kernel_rfl) (by kernel_rfl) (by kernel_rfl) (fun _ _ _ h => h) rfl (fun W hS => pu_loadK hS.2.1 (by kernel_rfl) rfl rfl) <| Z_take 4 rfl (by kernel_rfl) (by kernel_rfl) (by kernel_rfl) (by kernel_rfl) (by kernel_rfl) (fun _ _ _ h => h) rfl (fun W hS => pu_loadRow (len := 16) hS.2.2.2.2.1 (by kernel_rfl) (by kernel_rfl) (by rw [u8s_length]; exact (nb_by bN n).1) rfl) ?_
 have f13 := (f10.no k8)
 have o14 := (o12.no k8)
 refine Z_one 5 (by kernel_rfl) (Nz_lo rfl (lo_call (by kernel_rfl) rfl (aes_enc b bx (KW K) hW (N ++ be4 n) (nb_by bN n) _ hne3 f13 o14)) rfl ?_)
 rintro _ w9 ⟨rfl, T9, k9⟩
 have kk9 := kk8.trans k9 (fun i hi => .inl hi)
 have f15 := ((f9.no k8).on k9 hne2)
 have f16 := (f13.on k9 hne3)
 have f17 := ((f11.no k8).on k9 ne_pr_bx)
 have f18 := ((fE.no k8).on k9 ne_q_bx)
 refine ⟨⟨kk9, f15, f16, f17, f18, T9⟩, ?_⟩
 refine Z_last 6 (by kernel_rfl) rfl (by kernel_rfl) (by kernel_rfl) (lo_storeRow (C := u8s (encB (KW K) (N ++ be4 n))) f17 (by rw [u8s_length, (encB_by _ (nb_by bN n)).1]; kernel_rfl) rfl rfl (u8s_each _) ((u8s_length _).trans ((encB_by _ (nb_by bN n)).1.trans ((rep_by 16).1.symm.trans (u8s_length _).symm)))) ?_
 rintro _ w10 kf10
 obtain ⟨k10, f_pr_10⟩ := kf10
 replace f_pr_10 : Bk w10 pr (u8s (encB (KW K) (N ++ be4 n))) 134 := f_pr_10
 have kk10 := kk9.trans k10 (fun i hi => .inr (hi ▸ (Nat.le_trans kk0.size N1.le)))
 refine X_then hK8 <| C_ret ?_
 have o19 := (T9.on k10 (Ne.symm ne_pr_bx))
 exact X_retRow (len := 16) (.inl rfl) rfl rfl f_pr_10 (by kernel_rfl) (by kernel_rfl) (by rw [u8s_length]; exact (encB_by _ (nb_by bN n)).1) ⟨rfl, o19, kk10⟩
theorem gcm_block (p b bx : Nat) (K : List Nat) (d : Nat) (X : List Nat) (cp base : Nat) (A : Option Addr) (N : List Nat) (c : Nat) (n : Nat) (A2 : Option Addr) (m : List Nat) (c2 : Nat) (hd : d ≠ p ∧ d ≠ b ∧ d ≠ bx) (w : World) (hK : By 32 K) (hne1 : p ≠ b) (hne2 : p ≠ bx) (hne3 : b ≠ bx) (hp : Bk w p (gkL b (gmH K)) 164) (hb : Bk w b (keyL bx (KW K)) 181) (hS : Sx w bx) (bN : By 12 N) (HO : Ob w base (.slice (some ⟨d, 0, none⟩) X.length cp) X) (HN : Bs w A N) (hcn : N.length ≤ c) (aw_HN : Aw (Ons [d, bx]) A N) (HM : Bs w A2 m) (hcm : m.length ≤ c2) (aw_HM : Aw (Ons [d, bx]) A2 m) (hn : n < 4294967296) (hfit : m.length ≤ 16 ∧ X.length + m.length ≤ cp) : Ret Tryz.prog 72 #[.pointer (some ⟨p, 0, none⟩), .slice (some ⟨d, 0, none⟩) (X.length) (cp), .slice A (N.length) (c), .int .u32 ((n : Nat) : Int), .slice A2 (m.length) (c2)] w (fun v w' => v = .slice (some ⟨d, 0, none⟩) (X ++ zc m (ctrB K N n)).length cp ∧ Ob w' base (.slice (some ⟨d, 0, none⟩) (X ++ zc m (ctrB K N n)).length cp) (X ++ zc m (ctrB K N n)) ∧ Sx w' bx ∧ Kp (Ons [d, bx]) w w') := by
 have hW : Wy (KW K) := KW_wy hK.2
 have hct := (ctrB_by K bN n).1; obtain ⟨hf1, hf2⟩ := id hfit
 have kk0 := Kp.refl (Ons [d, bx]) w
 refine enter (n := 35) [.pointer (some ⟨p, 0, none⟩), .slice (some ⟨d, 0, none⟩) (X.length) (cp), .slice A (N.length) (c), .int .u32 ((n : Nat) : Int), .slice A2 (m.length) (c2)] Tryz.func72 rfl rfl rfl ?_
 show Cw _ _ _ _ [(0, .pointer (some ⟨p, 0, none⟩)), (1, .slice (some ⟨d, 0, none⟩) (X.length) (cp)), (2, .slice A (N.length) (c)), (3, .int .u32 ((n : Nat) : Int)), (4, .slice A2 (m.length) (c2))] _
 refine C_seq fun K1 hK1 => C_region <| Rp (pu_assign rfl) <| R_nil <| X_then hK1 <| C_seq fun K2 hK2 => C_region <| Rp (pu_move rfl) <| Rp (pu_move rfl) <| Rp (pu_move rfl) <| R_lo (lo_call (by kernel_rfl) rfl (gcm_counter p b bx K A N c n _ hK hne1 hne2 hne3 hp hb hS bN HN hcn (Aw.snd aw_HN) hn)) rfl ?_
 rintro _ w1 ⟨rfl, T1, k1⟩
 have kk1 := kk0.trans k1 (On.sub (.inl Ons.mem1))
 have f3 := (hp.on k1 hne2)
 have f4 := (hb.on k1 hne3)
 have ob5 := (HO.onF k1 hd.2.2)
 refine R_lo (lo_alloc (L := u8s (List.replicate 16 0)) (by kernel_rfl)) rfl ?_
 rintro _ w2 ⟨q, rfl, N2⟩
 have k2 := N2.kp
 have kk2 := kk1.thenNo k2
 have ne_q_p := Nat.ne_of_gt (Nat.lt_of_lt_of_le f3.lt N2.le)
 have ne_q_b := Nat.ne_of_gt (Nat.lt_of_lt_of_le f4.lt N2.le)
 have ne_q_bx := Nat.ne_of_gt (Nat.lt_of_lt_of_le T1.lt N2.le)
 have ne_q_d := ob5.ne N2.le
 have f_q_2 := N2.bk
 refine R_lo0 (lo_storeRow (C := u8s (ctrB K N n)) f_q_2 (by rw [u8s_length, (ctrB_by _ bN _).1]; kernel_rfl) rfl rfl (u8s_each _) ((u8s_length _).trans ((ctrB_by _ bN _).1.trans ((rep_by 16).1.symm.trans (u8s_length _).symm)))) ?_
 rintro _ w3 kf3
 obtain ⟨k3, f_q_3⟩ := kf3
 replace f_q_3 : Bk w3 q (u8s (ctrB K N n)) 134 := f_q_3
 have kk3 := kk2.trans k3 (On.sub (.inr (Nat.le_trans kk1.size N2.le)))
 refine R_nil <| X_then hK2 <| C_seq fun K6 hK6 => C_seq fun K7 hK7 => C_region <| Rp (pu_move rfl) <| Rp (pu_len Tryz.underlying22 rfl) <| Rp (pu_move rfl) <| R_nil <| X_then hK7 <| C_block ?_
 have f8 := ((f3.no k2).on k3 (Ne.symm ne_q_p))
 have f9 := ((f4.no k2).on k3 (Ne.symm ne_q_b))
 have ob10 := ((ob5.keptNo k2).onF k3 (Ne.symm ne_q_d))
 have o11 := ((T1.no k2).on k3 (Ne.symm ne_q_bx))
 refine C_loop (fun m_ l_ wr => ∃ i : Nat, (m_ = m.length - i) ∧ (l_ = [(1, .slice (some ⟨d, 0, none⟩) ((X ++ (zc m (ctrB K N n)).take i).length) (cp)), (10, .slice none (0) (0)), (11, .pointer (some ⟨q, 0, none⟩)), (18, .slice A2 (m.length) (c2)), (19, .int .i64 ((m.length : Nat) : Int)), (20, .int .i64 ((i : Nat) : Int))]) ∧ (i ≤ m.length) ∧ (Kp (Ons [d, bx]) w wr) ∧ (Bk wr p (gkL b (gmH K)) 164) ∧ (Bk wr b (keyL bx (KW K)) 181) ∧ (Bk wr q (u8s (ctrB K N n)) 134) ∧ (Ob wr base (.slice (some ⟨d, 0, none⟩) (X ++ (zc m (ctrB K N n)).take i).length cp) (X ++ (zc m (ctrB K N n)).take i) ∧ True) ∧ (Sx wr bx)) (m.length - 0) [(1, .slice (some ⟨d, 0, none⟩) ((X ++ (zc m (ctrB K N n)).take 0).length) (cp)), (10, .slice none (0) (0)), (11, .pointer (some ⟨q, 0, none⟩)), (18, .slice A2 (m.length) (c2)), (19, .int .i64 ((m.length : Nat) : Int)), (20, .int .i64 0)] (Sub.consE rfl (by rw [List.take_zero, List.append_nil]) (Sub.cons rfl (Sub.cons rfl (Sub.cons rfl (Sub.cons rfl (Sub.cons rfl (Sub.nil _))))))) ⟨0, rfl, rfl, by omega, kk3, f8, f9, f_q_3, ⟨by rw [List.take_zero, List.append_nil]; exact ob10, trivial⟩, o11⟩ ?_
 rintro _ _ w4 ⟨i, rfl, rfl, hi, kk4, f_p_4, f_b_4, f_q_4, o_4, S_4⟩
 refine C_seq fun K12 hK12 => C_region <| Rp (pu_lss (p := i < m.length) rfl rfl (by omega)) <| R_nil <| X_then hK12 <| C_seq fun K13 hK13 => C_dec rfl (fun h21 => ?_) (fun h21 => ?_)
 ·
  refine C_skip <| X_then hK13 <| C_seq fun K14 hK14 => C_block <| C_seq fun K15 hK15 => C_region <| Rp (pu_move rfl) <| Rp (pu_indexAddrB (m := i) (HM.keptS kk4 aw_HM) Tryz.underlying22 (by kernel_rfl) rfl rfl rfl rfl (by omega)) ?_
  obtain ⟨a, e_a⟩ : ∃ q_, (m)[i]? = some q_ := ⟨_, List.getElem?_eq_getElem (by omega)⟩
  have b_a : a < 256 := ((HM.keptS kk4 aw_HM)).lt e_a
  refine Rp (pu_loadB (HM.keptS kk4 aw_HM) (by kernel_rfl) rfl e_a) <| Rp (pu_assign rfl) <| Rp (pu_assign rfl) <| R_nil <| X_then hK15 <| C_region <| Rp (pu_move rfl) <| Rp (pu_move rfl) <| Rp (pu_move rfl) <| Rp (pu_indexAddrA (m := i) (s := 1) (o' := i) Tryz.underlying134 (by kernel_rfl) rfl rfl rfl (by omega) (by omega)) ?_
  obtain ⟨t, e_t⟩ : ∃ q_, (ctrB K N n)[i]? = some q_ := ⟨_, List.getElem?_eq_getElem (by rw [((ctrB_by _ bN _)).1]; omega)⟩
  have b_t : t < 256 := ((ctrB_by _ bN _)).2 _ (List.mem_of_getElem? e_t)
  refine Rp (pu_loadK f_q_4 (by kernel_rfl) rfl (u8s_get e_t)) <| Rp (pu_xor rfl rfl (u8_xor_nat a t b_a b_t)) <| R_lo (lo_buildSlice (L := u8s ([a ^^^ t])) Tryz.underlying22 rfl (by kernel_rfl)) rfl ?_
  rintro _ w5 ⟨lit, rfl, N5⟩
  have k5 := N5.kp
  have kk5 := kk4.thenNo k5
  have f_lit_5 := N5.bk
  have ob16 := (o_4.1.keptNo k5)
  refine R_lo (lo_appFit (X := X ++ (zc m (ctrB K N n)).take i) (Y := [a ^^^ t]) ob16 ob16.le.1 rfl rfl (show By 1 [a ^^^ t] from ⟨rfl, fun n hn => by rw [List.mem_singleton.1 hn]; exact (Nat.xor_lt_two_pow (n := 8) b_a b_t)⟩).1 (Bs.ofBk f_lit_5 (show By 1 [a ^^^ t] from ⟨rfl, fun n hn => by rw [List.mem_singleton.1 hn]; exact (Nat.xor_lt_two_pow (n := 8) b_a b_t)⟩)) (by simp) (by rw [List.length_append, List.length_take, zc_len (by omega)]; simp; omega)) rfl ?_
  rintro _ w6 ⟨rfl, q6, k6⟩
  have kk6 := kk5.trans k6 (On.sub (.inl Ons.mem0))
  refine Rp (pu_assign rfl) <| R_nil <| X_in_normal <| X_then hK14 <| C_region <| Rp (pu_add (z := ((i + 1 : Nat) : Int)) rfl rfl (by rw [IntKind.wrap_i64]; omega)) <| Rp (pu_move rfl) <| R_nil ?_
  have f17 := ((f_p_4.no k5).on k6 (Ne.symm hd.1))
  have f18 := ((f_b_4.no k5).on k6 (Ne.symm hd.2.1))
  have f19 := ((f_q_4.no k5).on k6 ne_q_d)
  have o20 := ((S_4.no k5).on k6 (Ne.symm hd.2.2))
  refine X_round (m.length - (i + 1)) [(1, .slice (some ⟨d, 0, none⟩) ((X ++ (zc m (ctrB K N n)).take (i + 1)).length) (cp)), (10, .slice none (0) (0)), (11, .pointer (some ⟨q, 0, none⟩)), (18, .slice A2 (m.length) (c2)), (19, .int .i64 ((m.length : Nat) : Int)), (20, .int .i64 (((i + 1) : Nat) : Int))] (by omega) (Sub.consE rfl (by rw [← zc_step e_a e_t, ← List.append_assoc]) (Sub.cons rfl (Sub.cons rfl (Sub.cons rfl (Sub.cons rfl (Sub.cons rfl (Sub.nil _))))))) ⟨i + 1, rfl, rfl, by omega, kk6, f17, f18, f19, ⟨by rw [← zc_step e_a e_t, ← List.append_assoc]; exact q6, trivial⟩, o20⟩
 ·
  refine C_exit <| X_then_exit (X_then_exit (X_in_eq ?_))
  exact X_then hK6 <| C_seq fun K21 hK21 => C_region <| Rp (pu_move rfl) <| Rp (pu_assign rfl) <| R_nil <| X_then hK21 <| C_ret <| X_ret1 (.inl rfl) rfl rfl (by have h1 : (zc m (ctrB K N n)).take i = zc m (ctrB K N n) := List.take_of_length_le (by rw [zc_len (by omega)]; omega); have h2 := o_4.1; rw [h1] at h2 ⊢; exact ⟨rfl, h2, S_4, kk4⟩)
theorem chunk_ret (A : Option Addr) (n c : Nat) (w : World)  : Ret Tryz.prog 61 #[.slice A (n) (c), .int .i64 16] w (fun v w' => ∃ bs bn, v = .func (.func 79) #[] #[.pointer (some ⟨bs, 0, none⟩), .pointer (some ⟨bn, 0, none⟩)] ∧ w.heap.size ≤ bs ∧ w.heap.size ≤ bn ∧ bs ≠ bn ∧ Bk w' bs [.slice A n c] 22 ∧ Bk w' bn [.int .i64 16] 3 ∧ Kp No w w') := by
 have kk0 := Kp.refl No w
 refine enter (n := 9) [.slice A (n) (c), .int .i64 16] Tryz.func61 rfl rfl rfl ?_
 show Cw _ _ _ _ [(0, .slice A (n) (c)), (1, .int .i64 16)] _
 refine C_seq fun K1 hK1 => C_region <| R_lo (lo_box (L := [.slice A (n) (c)]) rfl rfl) rfl ?_
 rintro _ w1 ⟨bs, rfl, N1⟩
 have k1 := N1.kp
 have kk1 := kk0.then_ k1
 have f_bs_1 := N1.bk
 refine R_lo (lo_box (L := [.int .i64 16]) rfl rfl) rfl ?_
 rintro _ w2 ⟨bn, rfl, N2⟩
 have k2 := N2.kp
 have kk2 := kk1.then_ k2
 have ne_bn_bs := Nat.ne_of_gt (Nat.lt_of_lt_of_le f_bs_1.lt N2.le)
 have f_bn_2 := N2.bk
 refine Rp (pu_assign rfl) <| R_nil <| X_then hK1 <| C_seq fun K2 hK2 => C_seq fun K3 hK3 => C_region <| Rp (pu_loadK f_bn_2 (by kernel_rfl) rfl rfl) <| Rp (pu_false (pu_lss (p := (16 : Nat) < 1) rfl rfl (by omega)) (by decide)) <| R_nil <| X_then hK3 <| C_false rfl <| C_skip <| X_then hK2 <| C_seq fun K4 hK4 => C_region <| Rp (pu_makeFuncC rfl) <| Rp (pu_assign rfl) <| R_nil <| X_then hK4 <| C_ret ?_
 have f5 := (f_bs_1.no k2)
 exact X_ret1 (.inl rfl) rfl rfl ⟨bs, bn, rfl, (Nat.le_trans kk0.size N1.le), (Nat.le_trans kk1.size N2.le), (Ne.symm ne_bn_bs), f5, f_bn_2, kk2⟩
theorem gcm_cipher (p b bx : Nat) (K : List Nat) (A : Option Addr) (N : List Nat) (c : Nat) (A2 : Option Addr) (m : List Nat) (c2 : Nat)  (w : World) (hK : By 32 K) (hne1 : p ≠ b) (hne2 : p ≠ bx) (hne3 : b ≠ bx) (hp : Bk w p (gkL b (gmH K)) 164) (hb : Bk w b (keyL bx (KW K)) 181) (hS : Sx w bx) (bN : By 12 N) (HN : Bs w A N) (hcn : N.length ≤ c) (aw_HN : Aw (On bx) A N) (HM : Bs w A2 m) (hcm : m.length ≤ c2) (aw_HM : Aw (On bx) A2 m) (hm : m.length ≤ 2064) : Ret Tryz.prog 56 #[.pointer (some ⟨p, 0, none⟩), .slice A (N.length) (c), .slice A2 (m.length) (c2)] w (fun v w' => ∃ A c, v = .slice A (cphB K N m).length c ∧ Ob w' w.heap.size (.slice A (cphB K N m).length c) (cphB K N m) ∧ Sx w' bx ∧ Kp (On bx) w w') := by
 have hW : Wy (KW K) := KW_wy hK.2
 have kk0 := Kp.refl (On bx) w
 refine enterM 3 (n := 26) [.pointer (some ⟨p, 0, none⟩), .slice A (N.length) (c), .slice A2 (m.length) (c2)] Tryz.func56 rfl rfl rfl ?_
 show Cw _ _ _ _ [(0, .pointer (some ⟨p, 0, none⟩)), (1, .slice A (N.length) (c)), (2, .slice A2 (m.length) (c2))] _
 refine C_seq fun K1 hK1 => C_region <| R_lo (lo_box (L := [.pointer (some ⟨p, 0, none⟩)]) rfl rfl) rfl ?_
 rintro _ w1 ⟨p3, rfl, N1⟩
 have k1 := N1.kp
 have kk1 := kk0.thenNo k1
 have ne_p3_bx := Nat.ne_of_gt (Nat.lt_of_lt_of_le hS.lt N1.le)
 have f_p3_1 := N1.bk
 have f2 := (hp.no k1)
 have f3 := (hb.no k1)
 have o4 := (hS.no k1)
 refine R_lo (lo_box (L := [.slice A (N.length) (c)]) rfl rfl) rfl ?_
 rintro _ w2 ⟨p4, rfl, N2⟩
 have k2 := N2.kp
 have kk2 := kk1.thenNo k2
 have ne_p4_bx := Nat.ne_of_gt (Nat.lt_of_lt_of_le o4.lt N2.le)
 have f_p4_2 := N2.bk
 refine Rp (pu_assign rfl) <| R_nil <| X_then hK1 <| C_seq fun K5 hK5 => C_region <| Rp (pu_move rfl) <| Rp (pu_len Tryz.underlying22 rfl) <| Rp (pu_add (z := ((m.length + 16 : Nat) : Int)) rfl rfl (by rw [IntKind.wrap_i64]; omega)) ?_
 have f6 := (f2.no k2)
 have f7 := (f3.no k2)
 have f8 := (f_p3_1.no k2)
 have o9 := (o4.no k2)
 refine R_lo (lo_make (z := .int .u8 0) (bytes := 1) (ln := 0) (cp := m.length + 16) Tryz.underlying22 (by kernel_rfl) rfl rfl rfl rfl rfl (by omega) (by omega) (by omega)) rfl ?_
 rintro _ w3 ⟨d, rfl, N3⟩
 have k3 := N3.kp
 have kk3 := kk2.thenNo k3
 have ne_d_p := Nat.ne_of_gt (Nat.lt_of_lt_of_le f6.lt N3.le)
 have ne_d_b := Nat.ne_of_gt (Nat.lt_of_lt_of_le f7.lt N3.le)
 have ne_d_p3 := Nat.ne_of_gt (Nat.lt_of_lt_of_le f8.lt N3.le)
 have ne_d_p4 := Nat.ne_of_gt (Nat.lt_of_lt_of_le f_p4_2.lt N3.le)
 have ne_d_bx := Nat.ne_of_gt (Nat.lt_of_lt_of_le o9.lt N3.le)
 have f_d_3 : Bk w3 d (u8s (List.replicate (m.length + 16) 0)) 5 := by rw [u8s_rep]; exact N3.bk
 have f10 := (f6.no k3)
 have f11 := (f7.no k3)
 have f12 := (f8.no k3)
 have f13 := (f_p4_2.no k3)
 have o14 := (o9.no k3)
 refine R_lo (lo_alloc (L := [.slice none (0) (0)]) (by kernel_rfl)) rfl ?_
 rintro _ w4 ⟨p7, rfl, N4⟩
 have k4 := N4.kp
 have kk4 := kk3.thenNo k4
 have ne_p7_p := Nat.ne_of_gt (Nat.lt_of_lt_of_le f10.lt N4.le)
 have ne_p7_b := Nat.ne_of_gt (Nat.lt_of_lt_of_le f11.lt N4.le)
 have ne_p7_p3 := Nat.ne_of_gt (Nat.lt_of_lt_of_le f12.lt N4.le)
 have ne_p7_p4 := Nat.ne_of_gt (Nat.lt_of_lt_of_le f13.lt N4.le)
 have ne_p7_d := Nat.ne_of_gt (Nat.lt_of_lt_of_le f_d_3.lt N4.le)
 have ne_p7_bx := Nat.ne_of_gt (Nat.lt_of_lt_of_le o14.lt N4.le)
 have f_p7_4 := N4.bk
 refine R_lo0 (lo_store f_p7_4 (by kernel_rfl) rfl rfl rfl (show 0 < 1 by decide)) ?_
 rintro _ w5 kf5
 obtain ⟨k5, f_p7_5⟩ := kf5
 replace f_p7_5 : Bk w5 p7 ([.slice (some ⟨d, 0, none⟩) (0) (m.length + 16)]) 22 := f_p7_5
 have kk5 := kk4.trans k5 (fun i hi => .inr (hi ▸ (Nat.le_trans kk3.size N4.le)))
 refine R_nil <| X_then hK5 <| C_seq (fun K15 hK15 => ?_)
 have f16 := ((f_d_3.no k4).on k5 (Ne.symm ne_p7_d))
 have ob0 : Ob w5 w.heap.size (.slice (some ⟨d, 0, none⟩) ([] : List Nat).length (m.length + 16)) [] := Ob.of_block (base := w.heap.size) (k := 0) f16 (Nat.le_trans kk2.size N3.le) (List.length_replicate ..) (by unfold maxLen; omega) (fun n hn => by rw [(List.mem_replicate.1 hn).2]; decide) (Nat.zero_le _)
 refine C_region ?_
 have f17 := ((f10.no k4).on k5 (Ne.symm ne_p7_p))
 have f18 := ((f11.no k4).on k5 (Ne.symm ne_p7_b))
 have f19 := ((f12.no k4).on k5 (Ne.symm ne_p7_p3))
 have f20 := ((f13.no k4).on k5 (Ne.symm ne_p7_p4))
 have o21 := ((o14.no k4).on k5 (Ne.symm ne_p7_bx))
 refine R_lo (lo_alloc (L := [.int .u32 0]) (by kernel_rfl)) rfl ?_
 rintro _ w6 ⟨p8, rfl, N6⟩
 have k6 := N6.kp
 have kk6 := kk5.thenNo k6
 have ne_p8_p := Nat.ne_of_gt (Nat.lt_of_lt_of_le f17.lt N6.le)
 have ne_p8_b := Nat.ne_of_gt (Nat.lt_of_lt_of_le f18.lt N6.le)
 have ne_p8_p3 := Nat.ne_of_gt (Nat.lt_of_lt_of_le f19.lt N6.le)
 have ne_p8_p4 := Nat.ne_of_gt (Nat.lt_of_lt_of_le f20.lt N6.le)
 have ne_p8_p7 := Nat.ne_of_gt (Nat.lt_of_lt_of_le f_p7_5.lt N6.le)
 have ne_p8_bx := Nat.ne_of_gt (Nat.lt_of_lt_of_le o21.lt N6.le)
 have ne_p8_d := ob0.ne N6.le
 have f_p8_6 := N6.bk
 refine R_lo0 (lo_store f_p8_6 (by kernel_rfl) rfl rfl rfl (show 0 < 1 by decide)) ?_
 rintro _ w7 kf7
 obtain ⟨k7, f_p8_7⟩ := kf7
 replace f_p8_7 : Bk w7 p8 ([.int .u32 2]) 32 := f_p8_7
 have kk7 := kk6.trans k7 (fun i hi => .inr (hi ▸ (Nat.le_trans kk5.size N6.le)))
 refine R_nil <| X_then hK15 <| C_seqW fun K22 hK22 => C_seq fun K23 hK23 => C_region <| Rp (pu_move rfl) ?_
 have f24 := ((f17.no k6).on k7 (Ne.symm ne_p8_p))
 have f25 := ((f18.no k6).on k7 (Ne.symm ne_p8_b))
 have f26 := ((f19.no k6).on k7 (Ne.symm ne_p8_p3))
 have f27 := ((f20.no k6).on k7 (Ne.symm ne_p8_p4))
 have f28 := ((f_p7_5.no k6).on k7 (Ne.symm ne_p8_p7))
 have o29 := ((o21.no k6).on k7 (Ne.symm ne_p8_bx))
 have ob30 := ((ob0.keptNo k6).onF k7 (Ne.symm ne_p8_d))
 refine R_lo (lo_call (by kernel_rfl) rfl (chunk_ret A2 m.length c2 _)) rfl ?_
 rintro _ w8 ⟨bs, bn, rfl, le8, lx8, nk8, B8, C8, k8⟩
 have kk8 := kk7.thenNo k8
 have ne_bs_p7 := Nat.ne_of_gt (Nat.lt_of_lt_of_le f28.lt le8)
 have ne_bs_p8 := Nat.ne_of_gt (Nat.lt_of_lt_of_le f_p8_7.lt le8)
 have ne_bs_bx := Nat.ne_of_gt (Nat.lt_of_lt_of_le o29.lt le8)
 have ne_bn_p7 := Nat.ne_of_gt (Nat.lt_of_lt_of_le f28.lt lx8)
 have ne_bn_p8 := Nat.ne_of_gt (Nat.lt_of_lt_of_le f_p8_7.lt lx8)
 have ne_bn_bx := Nat.ne_of_gt (Nat.lt_of_lt_of_le o29.lt lx8)
 have ne_bs_d := ob30.ne le8
 have ne_bn_d := ob30.ne lx8
 refine R_nil <| X_then hK23 <| C_block ?_
 have f31 := (f24.no k8)
 have f32 := (f25.no k8)
 have f33 := (f26.no k8)
 have f34 := (f27.no k8)
 have f35 := (f28.no k8)
 have f36 := (f_p8_7.no k8)
 have ob37 := (ob30.keptNo k8)
 have o38 := (o29.no k8)
 refine C_chunk (A := A2) (L := m) (c := c2) rfl ⟨B8, C8⟩ hcm (by omega) rfl rfl (fun pre wr => (Kp (On bx) w wr) ∧ (Bk wr p (gkL b (gmH K)) 164) ∧ (Bk wr b (keyL bx (KW K)) 181) ∧ (Bk wr p3 ([.pointer (some ⟨p, 0, none⟩)]) 99) ∧ (Bk wr p4 ([.slice A (N.length) (c)]) 22) ∧ (Bk wr p7 ([.slice (some ⟨d, 0, none⟩) ((outN K N m (pre.map Subtype.val)).length) (m.length + 16)]) 22) ∧ (Bk wr p8 ([.int .u32 ((2 + pre.length : Nat) : Int)]) 32) ∧ (Bk wr bs ([.slice A2 (m.length) (c2)]) 22) ∧ (Bk wr bn ([.int .i64 16]) 3) ∧ (Ob wr w.heap.size (.slice (some ⟨d, 0, none⟩) ((outN K N m (pre.map Subtype.val)).length) (m.length + 16)) (outN K N m (pre.map Subtype.val)) ∧ w.heap.size ≤ (wr).heap.size) ∧ (Sx wr bx)) (Ons [p7, p8, d, bx]) ?_ ?_ ?_ ⟨kk8, f31, f32, f33, f34, f35, f36, B8, C8, ⟨ob37, (Nat.le_trans (Nat.le_trans (Nat.le_trans kk5.size k6.size) k7.size) k8.size)⟩, o38⟩ ?_ ?_
 ·
  exact fun pre A_ B_ h b_ => by obtain ⟨kkr, fr_p, fr_b, fr_p3, fr_p4, fr_p7, fr_p8, fr_bs, fr_bn, of_o, or_S⟩ := h; exact ⟨kkr.bw b_ kk8.size, fr_p.bw b_, fr_b.bw b_, fr_p3.bw b_, fr_p4.bw b_, fr_p7.bw b_, fr_p8.bw b_, fr_bs.bw b_, fr_bn.bw b_, ⟨of_o.1.bw b_, Nat.le_trans of_o.2 b_.size⟩, or_S.bw b_⟩
 ·
  exact fun pre A_ h => by obtain ⟨kkr, fr_p, fr_b, fr_p3, fr_p4, fr_p7, fr_p8, fr_bs, fr_bn, of_o, or_S⟩ := h; exact ⟨fr_bs, fr_bn⟩
 ·
  intro pre A_ h i hi
  obtain ⟨kkr, fr_p, fr_b, fr_p3, fr_p4, fr_p7, fr_p8, fr_bs, fr_bn, of_o, or_S⟩ := h
  simp only [Ons, List.mem_cons, List.not_mem_nil, or_false] at hi
  rcases hi with rfl | rfl | rfl | rfl
  ·
   exact fr_p7.cells
  ·
   exact fr_p8.cells
  ·
   exact of_o.1.cellsF
  ·
   exact or_S.cells
 ·
  rintro l0 pre x w9 ⟨kkr, fr_p, fr_b, fr_p3, fr_p4, fr_p7, fr_p8, fr_bs, fr_bn, of_o, or_S⟩ hlt
  have HBc := HM.ch x.1
  have aw_HBc := aw_HM.ch x.1
  have hcl : (chX m x.1).length ≤ 16 := by rw [chX_length]; exact Nat.min_le_left _ _
  have hn : nCh m = (m.length + 15) / 16 := rfl
  have hol : (outN K N m (pre.map Subtype.val)).length ≤ 16 * pre.length := by have := outN_len (K := K) (L := m) bN (pre.map Subtype.val); rwa [List.length_map] at this
  have hst : outN K N m ((pre ++ [x]).map Subtype.val) = outN K N m (pre.map Subtype.val) ++ zc (chX m x.1) (ctrB K N (2 + pre.length)) := by rw [List.map_append]; exact (outN_snoc ..).trans (by rw [List.length_map])
  have hln : (pre ++ [x]).length = pre.length + 1 := by simp
  refine Cr_block <| Cr_seq fun K39 hK39 => Cr_region rfl no_out <| Rp (pu_loadK fr_p3 (by kernel_rfl) rfl rfl) <| Rp (pu_loadK fr_p7 (by kernel_rfl) rfl rfl) <| Rp (pu_loadK fr_p4 (by kernel_rfl) rfl rfl) <| Rp (pu_loadK fr_p8 (by kernel_rfl) rfl rfl) <| Rp (pu_move rfl) <| R_lo (lo_callE (by kernel_rfl) rfl (by rw [(chX_length _ _)] <;> rfl) (gcm_block p b bx K d (outN K N m (pre.map Subtype.val)) (m.length + 16) w.heap.size A N c (2 + pre.length) (chA A2 x.1) (chX m x.1) (chN m x.1) ⟨ne_d_p, ne_d_b, ne_d_bx⟩ _ hK hne1 hne2 hne3 fr_p fr_b or_S bN of_o.1 (HN.keptS kkr aw_HN) hcn (Aw.two (HN.aw (Nat.le_trans kk2.size N3.le)) aw_HN) (HBc.keptS kkr aw_HBc) (Nat.le_of_eq (chX_length _ _)) (Aw.two (HBc.aw (Nat.le_trans kk2.size N3.le)) aw_HBc) (by omega) ⟨by omega, by omega⟩)) rfl ?_
  rintro _ w11 ⟨rfl, Q11, T11, k11⟩
  have kk11 := kkr.trans k11 (Ons.subc (.inr (Nat.le_trans kk2.size N3.le)) (Ons.subc (.inl rfl) Ons.subn))
  have f40 := (fr_p7.kept k11 (Ons.cons' ne_p7_d (Ons.cons' ne_p7_bx Ons.nil')))
  refine R_lo0 (lo_store f40 (by kernel_rfl) rfl rfl rfl (show 0 < 1 by decide)) ?_
  rintro _ w12 kf12
  obtain ⟨k12, f_p7_12⟩ := kf12
  replace f_p7_12 : Bk w12 p7 ([.slice (some ⟨d, 0, none⟩) (((outN K N m (pre.map Subtype.val)) ++ zc (chX m x.1) (ctrB K N (2 + pre.length))).length) (m.length + 16)]) 22 := f_p7_12
  have kk12 := kk11.trans k12 (fun i hi => .inr (hi ▸ (Nat.le_trans kk3.size N4.le)))
  refine R_nil <| Xr_then hK39 <| Cr_region rfl no_out ?_
  have f41 := ((fr_p8.kept k11 (Ons.cons' ne_p8_d (Ons.cons' ne_p8_bx Ons.nil'))).on k12 ne_p8_p7)
  refine Rp (pu_loadK f41 (by kernel_rfl) rfl rfl) <| Rp (pu_add (z := (((2 + pre.length) + 1 : Nat) : Int)) rfl rfl (by rw [IntKind.wrap_u32]; omega)) <| R_lo0 (lo_store f41 (by kernel_rfl) rfl rfl rfl (show 0 < 1 by decide)) ?_
  rintro _ w13 kf13
  obtain ⟨k13, f_p8_13⟩ := kf13
  replace f_p8_13 : Bk w13 p8 ([.int .u32 (((2 + pre.length) + 1 : Nat) : Int)]) 32 := f_p8_13
  have kk13 := kk12.trans k13 (fun i hi => .inr (hi ▸ (Nat.le_trans kk5.size N6.le)))
  refine R_nil <| X_in_normal ?_
  have f42 := (((fr_p.kept k11 (Ons.cons' (Ne.symm ne_d_p) (Ons.cons' hne2 Ons.nil'))).on k12 (Ne.symm ne_p7_p)).on k13 (Ne.symm ne_p8_p))
  have f43 := (((fr_b.kept k11 (Ons.cons' (Ne.symm ne_d_b) (Ons.cons' hne3 Ons.nil'))).on k12 (Ne.symm ne_p7_b)).on k13 (Ne.symm ne_p8_b))
  have f44 := (((fr_p3.kept k11 (Ons.cons' (Ne.symm ne_d_p3) (Ons.cons' ne_p3_bx Ons.nil'))).on k12 (Ne.symm ne_p7_p3)).on k13 (Ne.symm ne_p8_p3))
  have f45 := (((fr_p4.kept k11 (Ons.cons' (Ne.symm ne_d_p4) (Ons.cons' ne_p4_bx Ons.nil'))).on k12 (Ne.symm ne_p7_p4)).on k13 (Ne.symm ne_p8_p4))
  have f46 := (f_p7_12.on k13 (Ne.symm ne_p8_p7))
  have f47 := (((fr_bs.kept k11 (Ons.cons' ne_bs_d (Ons.cons' ne_bs_bx Ons.nil'))).on k12 ne_bs_p7).on k13 ne_bs_p8)
  have f48 := (((fr_bn.kept k11 (Ons.cons' ne_bn_d (Ons.cons' ne_bn_bx Ons.nil'))).on k12 ne_bn_p7).on k13 ne_bn_p8)
  have ob49 := ((Q11.onF k12 (Ne.symm ne_p7_d)).onF k13 (Ne.symm ne_p8_d))
  have o50 := ((T11.on k12 (Ne.symm ne_p7_bx)).on k13 (Ne.symm ne_p8_bx))
  exact fun _ _ => ⟨rfl, ((((Kp.refl (Ons [p7, p8, d, bx]) w9).trans k11 (Ons.subc (.inl (by simp [Ons])) (Ons.subc (.inl (by simp [Ons])) Ons.subn))).trans k12 (On.sub (.inl (by simp [Ons])))).trans k13 (On.sub (.inl (by simp [Ons])))), by rw [hst, hln]; exact ⟨kk13, f42, f43, f44, f45, f46, f_p8_13, f47, f48, ⟨ob49, (Nat.le_trans (Nat.le_trans (Nat.le_trans of_o.2 k11.size) k12.size) k13.size)⟩, o50⟩⟩
 ·
  rintro D xs w10 hD hxs ⟨kkr, fr_p, fr_b, fr_p3, fr_p4, fr_p7, fr_p8, fr_bs, fr_bn, of_o, or_S⟩ hKD
  exact Xm_in_normal <| Xm_thenW hK22 <| Cm_seq fun K51 hK51 => Cm_region <| Rm_pu (pu_loadK fr_p7 (by kernel_rfl) rfl rfl) rfl <| Rm_pu (pu_assign rfl) rfl <| Rm_nil <| Xm_then hK51 <| Cm_ret <| Xm_ret1 (.inl rfl) rfl rfl hKD (by have bq := Bw.put (o' := .deferred none) (Nat.le_refl D) hKD rfl; have e : outN K N m (xs.map Subtype.val) = cphB K N m := congrArg (outN K N m) hxs; have h1 := of_o.1; rw [e] at h1 ⊢; exact ⟨_, _, rfl, h1.bw bq, or_S.bw bq, kkr.bw bq (Nat.le_trans kk8.size hD)⟩)
theorem gcm_fits (p : Nat) (A : Option Addr) (N : List Nat) (c : Nat) (A3 : Option Addr) (D : List Nat) (c3 : Nat) (w : World) (h : N.length = 12 ∧ D.length ≤ 2048) : Ret Tryz.prog 55 #[.pointer (some ⟨p, 0, none⟩), .slice A (N.length) (c), .slice A3 (D.length) (c3)] w (fun v w' => v = .bool true ∧ Kp No w w') := by
 have kk0 := Kp.refl No w
 refine enter (n := 19) [.pointer (some ⟨p, 0, none⟩), .slice A (N.length) (c), .slice A3 (D.length) (c3)] Tryz.func55 rfl rfl rfl ?_
 show Cw _ _ _ _ [(0, .pointer (some ⟨p, 0, none⟩)), (1, .slice A (N.length) (c)), (2, .slice A3 (D.length) (c3))] _
 exact C_seq fun K1 hK1 => C_region <| Rp (pu_assign rfl) <| R_nil <| X_then hK1 <| C_seq fun K2 hK2 => C_region <| Rp (pu_move rfl) <| Rp (pu_neqpn (by kernel_rfl) rfl rfl) <| Rp (pu_move rfl) <| Rg (pu_move rfl) <| Rg (pu_len Tryz.underlying22 rfl) <| Rg (pu_true (pu_eql (p := N.length = 12) rfl rfl (by omega)) h.1) <| Rp (pu_pickt rfl rfl) <| Rp (pu_move rfl) <| Rg (pu_move rfl) <| Rg (pu_len Tryz.underlying22 rfl) <| Rg (pu_true (pu_leq (p := D.length ≤ 2048) rfl rfl (by omega)) h.2) <| Rp (pu_pickt rfl rfl) <| Rp (pu_assign rfl) <| R_nil <| X_then hK2 <| C_ret <| X_ret1 (.inl rfl) rfl rfl ⟨rfl, kk0⟩
theorem gcm_tag (p b bx : Nat) (K : List Nat) (A : Option Addr) (N : List Nat) (c : Nat) (A2 : Option Addr) (m : List Nat) (c2 : Nat) (A3 : Option Addr) (D : List Nat) (c3 : Nat) (w : World) (hK : By 32 K) (hne1 : p ≠ b) (hne2 : p ≠ bx) (hne3 : b ≠ bx) (hp : Bk w p (gkL b (gmH K)) 164) (hb : Bk w b (keyL bx (KW K)) 181) (hS : Sx w bx) (bN : By 12 N) (HN : Bs w A N) (hcn : N.length ≤ c) (aw_HN : Aw (On bx) A N) (HM : Bs w A2 m) (hcm : m.length ≤ c2) (aw_HM : Aw (On bx) A2 m) (HD : Bs w A3 D) (hcd : D.length ≤ c3) (aw_HD : Aw (On bx) A3 D) (hs : m.length ≤ 2064 ∧ D.length ≤ 2048) : Ret Tryz.prog 57 #[.pointer (some ⟨p, 0, none⟩), .slice A (N.length) (c), .slice A2 (m.length) (c2), .slice A3 (D.length) (c3)] w (fun v w' => v = .agg (u8s (tagB K N m D)).toArray ∧ Sx w' bx ∧ Kp (On bx) w w') := by
 have hW : Wy (KW K) := KW_wy hK.2
 obtain ⟨hs1, hs2⟩ := id hs
 have kk0 := Kp.refl (On bx) w
 refine enter (n := 20) [.pointer (some ⟨p, 0, none⟩), .slice A (N.length) (c), .slice A2 (m.length) (c2), .slice A3 (D.length) (c3)] Tryz.func57 rfl rfl rfl ?_
 show Cw _ _ _ _ [(0, .pointer (some ⟨p, 0, none⟩)), (1, .slice A (N.length) (c)), (2, .slice A2 (m.length) (c2)), (3, .slice A3 (D.length) (c3))] _
 refine C_seq fun K1 hK1 => C_region <| R_lo (lo_alloc (L := u8s (List.replicate 16 0)) (by kernel_rfl)) rfl ?_
 rintro _ w1 ⟨pr, rfl, N1⟩
 have k1 := N1.kp
 have kk1 := kk0.thenNo k1
 have ne_pr_bx := Nat.ne_of_gt (Nat.lt_of_lt_of_le hS.lt N1.le)
 have f_pr_1 := N1.bk
 refine R_nil <| X_then hK1 <| C_seq fun K2 hK2 => C_region <| Rp (pu_move rfl) <| Rp (pu_nilCheck rfl) <| Rp (pu_fieldAddr (off := 1) (o' := 1) (by kernel_rfl) rfl rfl) ?_
 have f3 := (hp.no k1)
 refine Rp (pu_loadMid f3 (by kernel_rfl) (by kernel_rfl) rfl (gk_mid (gmH_by K).1) (by rw [u8s_length]; exact (gmH_by K).1)) <| Rp (pu_move rfl) <| Rp (pu_move rfl) <| R_lo (lo_call (by kernel_rfl) rfl (r_hash (gmH K) (gmH_by K) A3 A2 D m c3 c2 _ (HD.keptS kk1 aw_HD) hcd (HM.keptS kk1 aw_HM) hcm (by first | omega | (simp; done) | (simp; omega)) (by first | omega | (simp; done) | (simp; omega)))) rfl ?_
 rintro _ w2 ⟨rfl, k2⟩
 have kk2 := kk1.thenNo k2
 refine Rp (pu_move rfl) <| Rp (pu_move rfl) ?_
 have f4 := (f3.no k2)
 have f5 := ((hb.no k1).no k2)
 have o6 := ((hS.no k1).no k2)
 refine R_lo (lo_call (by kernel_rfl) rfl (gcm_counter p b bx K A N c 1 _ hK hne1 hne2 hne3 f4 f5 o6 bN (HN.keptS kk2 aw_HN) hcn aw_HN (by decide))) rfl ?_
 rintro _ w3 ⟨rfl, T3, k3⟩
 have kk3 := kk2.trans k3 (fun i hi => .inl hi)
 refine R_lo (lo_call (by kernel_rfl) rfl (r_add (hashB_by _ _ _) (ctrB_by _ bN _) _)) rfl ?_
 rintro _ w4 ⟨rfl, k4⟩
 have kk4 := kk3.thenNo k4
 have f7 := (((f_pr_1.no k2).on k3 ne_pr_bx).no k4)
 refine R_lo0 (lo_storeRow (C := u8s (addB (hashB (gmH K) D m) (ctrB K N 1))) f7 (by rw [u8s_length, (addB_by _ _).1]; kernel_rfl) rfl rfl (u8s_each _) ((u8s_length _).trans ((addB_by _ _).1.trans ((rep_by 16).1.symm.trans (u8s_length _).symm)))) ?_
 rintro _ w5 kf5
 obtain ⟨k5, f_pr_5⟩ := kf5
 replace f_pr_5 : Bk w5 pr (u8s (addB (hashB (gmH K) D m) (ctrB K N 1))) 134 := f_pr_5
 have kk5 := kk4.trans k5 (fun i hi => .inr (hi ▸ (Nat.le_trans kk0.size N1.le)))
 refine R_nil <| X_then hK2 <| C_ret ?_
 have o8 := ((T3.no k4).on k5 (Ne.symm ne_pr_bx))
 exact X_retRow (len := 16) (.inl rfl) rfl rfl f_pr_5 (by kernel_rfl) (by kernel_rfl) (by rw [u8s_length]; exact (addB_by _ _).1) ⟨rfl, o8, kk5⟩
theorem gcm_seal (p b bx : Nat) (K : List Nat) (A : Option Addr) (N : List Nat) (c : Nat) (A2 : Option Addr) (m : List Nat) (c2 : Nat) (A3 : Option Addr) (D : List Nat) (c3 : Nat) (w : World) (hK : By 32 K) (hne1 : p ≠ b) (hne2 : p ≠ bx) (hne3 : b ≠ bx) (hp : Bk w p (gkL b (gmH K)) 164) (hb : Bk w b (keyL bx (KW K)) 181) (hS : Sx w bx) (bN : By 12 N) (HN : Bs w A N) (hcn : N.length ≤ c) (aw_HN : Aw (On bx) A N) (HM : Bs w A2 m) (hcm : m.length ≤ c2) (aw_HM : Aw (On bx) A2 m) (HD : Bs w A3 D) (hcd : D.length ≤ c3) (aw_HD : Aw (On bx) A3 D) (hs : m.length ≤ 2048 ∧ D.length ≤ 2048) : Ret Tryz.prog 36 #[.pointer (some ⟨p, 0, none⟩), .slice A (N.length) (c), .slice A2 (m.length) (c2), .slice A3 (D.length) (c3)] w (fun v w' => ∃ A c, v = .tuple #[.slice A (sealB K N m D).length c, .nilIface] ∧ Ob w' w.heap.size (.slice A (sealB K N m D).length c) (sealB K N m D) ∧ Sx w' bx ∧ Kp (On bx) w w') := by
 have hW : Wy (KW K) := KW_wy hK.2
 obtain ⟨hs1, hs2⟩ := id hs
 have kk0 := Kp.refl (On bx) w
 refine enter (n := 35) [.pointer (some ⟨p, 0, none⟩), .slice A (N.length) (c), .slice A2 (m.length) (c2), .slice A3 (D.length) (c3)] Tryz.func36 rfl rfl rfl ?_
 show Cw _ _ _ _ [(0, .pointer (some ⟨p, 0, none⟩)), (1, .slice A (N.length) (c)), (2, .slice A2 (m.length) (c2)), (3, .slice A3 (D.length) (c3))] _
 refine C_seq fun K1 hK1 => C_region <| Rp (pu_assign rfl) <| Rp (pu_assign rfl) <| R_nil <| X_then hK1 <| C_seq fun K2 hK2 => C_seq fun K3 hK3 => C_region <| Rp (pu_move rfl) <| Rp (pu_move rfl) <| Rp (pu_move rfl) <| R_lo (lo_call (by kernel_rfl) rfl (gcm_fits p A N c A3 D c3 _ ⟨bN.1, hs2⟩)) rfl ?_
 rintro _ w1 ⟨rfl, k1⟩
 have kk1 := kk0.thenNo k1
 refine Rp (pu_not rfl) <| Rp (pu_move rfl) <| Rg (pu_move rfl) <| Rg (pu_len Tryz.underlying22 rfl) <| Rg (pu_false (pu_gtr (p := m.length > 2048) rfl rfl (by omega)) (by omega)) <| Rp (pu_pickf rfl rfl) <| R_nil <| X_then hK3 <| C_false rfl <| C_skip <| X_then hK2 <| C_seq fun K4 hK4 => C_region <| Rp (pu_move rfl) <| Rp (pu_move rfl) <| Rp (pu_move rfl) ?_
 have f5 := (hp.no k1)
 have f6 := (hb.no k1)
 have o7 := (hS.no k1)
 refine R_lo (lo_call (by kernel_rfl) rfl (gcm_cipher p b bx K A N c A2 m c2 _ hK hne1 hne2 hne3 f5 f6 o7 bN (HN.keptS kk1 aw_HN) hcn aw_HN (HM.keptS kk1 aw_HM) hcm aw_HM (by omega))) rfl ?_
 rintro _ w2 ⟨A_cp, c_cp, rfl, Q2, T2, k2⟩
 have kk2 := kk1.trans k2 (fun i hi => .inl hi)
 have z8 := k2.size
 refine Rp (pu_assign rfl) <| R_nil <| X_then hK4 <| C_seq (fun K9 hK9 => ?_)
 have hcl0 := cphB_length (K := K) (L := m) bN
 refine C_region <| Rp (pu_move rfl) <| Rp (pu_move rfl) <| Rp (pu_move rfl) <| Rp (pu_move rfl) ?_
 have f10 := (f5.on k2 hne2)
 have f11 := (f6.on k2 hne3)
 refine R_lo (lo_call (by kernel_rfl) rfl (gcm_tag p b bx K A N c A_cp (cphB K N m) c_cp A3 D c3 _ hK hne1 hne2 hne3 f10 f11 T2 bN (HN.keptS kk2 aw_HN) hcn aw_HN Q2.bs Q2.le.2 (Aw.ofOb Q2 (by have := o7.lt; omega)) (HD.keptS kk2 aw_HD) hcd aw_HD ⟨by omega, hs2⟩)) rfl ?_
 rintro _ w3 ⟨rfl, T3, k3⟩
 have kk3 := kk2.trans k3 (fun i hi => .inl hi)
 have ob14 := (Q2.on k3 (by have := o7.lt; omega))
 refine R_lo (lo_alloc (L := u8s (List.replicate 16 0)) (by kernel_rfl)) rfl ?_
 rintro _ w4 ⟨q, rfl, N4⟩
 have k4 := N4.kp
 have kk4 := kk3.thenNo k4
 have ne_q_bx := Nat.ne_of_gt (Nat.lt_of_lt_of_le T3.lt N4.le)
 have f_q_4 := N4.bk
 refine R_lo0 (lo_storeRow (C := u8s (tagB K N (cphB K N m) D)) f_q_4 (by rw [u8s_length, (tagB_by _ _ _ _).1]; kernel_rfl) rfl rfl (u8s_each _) ((u8s_length _).trans ((tagB_by _ _ _ _).1.trans ((rep_by 16).1.symm.trans (u8s_length _).symm)))) ?_
 rintro _ w5 kf5
 obtain ⟨k5, f_q_5⟩ := kf5
 replace f_q_5 : Bk w5 q (u8s (tagB K N (cphB K N m) D)) 134 := f_q_5
 have kk5 := kk4.trans k5 (fun i hi => .inr (hi ▸ (Nat.le_trans kk3.size N4.le)))
 refine R_nil <| X_then hK9 <| C_seq (fun K15 hK15 => ?_)
 have hcl := cphB_length (K := K) (L := m) bN
 refine C_region <| Rp (pu_move rfl) <| Rp (pu_sliceArr Tryz.underlying134 (by kernel_rfl) rfl) ?_
 have ob16 := ((ob14.keptNo k4).onN k5 ob14 N4.le)
 refine R_lo (lo_app (X := cphB K N m) (Y := tagB K N (cphB K N m) D) ob16 ob16.le.1 rfl rfl (tagB_by _ _ _ _).1 (Bs.ofBk f_q_5 (tagB_by _ _ _ _)) (by rw [hcl, (tagB_by _ _ _ _).1]; omega) (Nat.le_trans (Nat.le_trans (Nat.le_trans z8 k3.size) k4.size) k5.size)) rfl ?_
 rintro _ w6 ⟨A_6, c_6, rfl, p6⟩
 have k6 := p6.kp
 have kk6 := kk5.trans k6 (fun i hi => .inr (Nat.le_trans (kk1).size hi))
 refine Rp (pu_assign rfl) <| Rp (pu_assign rfl) <| R_nil <| X_then hK15 <| C_ret ?_
 have o17 : Sx w6 bx := (((T3.no k4).on k5 (Ne.symm ne_q_bx)).kept k6 (by have := o7.lt; omega))
 exact X_ret2 (.inl rfl) rfl rfl rfl ⟨_, _, rfl, p6.ob.low ((kk1).size), o17, kk6⟩
theorem gcm_open (p b bx : Nat) (K : List Nat) (A : Option Addr) (N : List Nat) (c : Nat) (A2 : Option Addr) (m : List Nat) (c2 : Nat) (A3 : Option Addr) (D : List Nat) (c3 : Nat) (w : World) (hK : By 32 K) (hne1 : p ≠ b) (hne2 : p ≠ bx) (hne3 : b ≠ bx) (hp : Bk w p (gkL b (gmH K)) 164) (hb : Bk w b (keyL bx (KW K)) 181) (hS : Sx w bx) (bN : By 12 N) (HN : Bs w A N) (hcn : N.length ≤ c) (aw_HN : Aw (On bx) A N) (HM : Bs w A2 m) (hcm : m.length ≤ c2) (aw_HM : Aw (On bx) A2 m) (HD : Bs w A3 D) (hcd : D.length ≤ c3) (aw_HD : Aw (On bx) A3 D) (hs : m.length ≤ 2064 ∧ D.length ≤ 2048) (hl : opensB K N m D) : Ret Tryz.prog 39 #[.pointer (some ⟨p, 0, none⟩), .slice A (N.length) (c), .slice A2 (m.length) (c2), .slice A3 (D.length) (c3)] w (fun v w' => ∃ A c, v = .tuple #[.slice A (cphB K N (m.take (m.length - 16))).length c, .nilIface] ∧ Ob w' w.heap.size (.slice A (cphB K N (m.take (m.length - 16))).length c) (cphB K N (m.take (m.length - 16))) ∧ Sx w' bx ∧ Kp (On bx) w w') := by
 have hW : Wy (KW K) := KW_wy hK.2
 obtain ⟨hs1, hs2⟩ := id hs
 have hG := tagB_by K N (m.take (m.length - 16)) D; have hG1 := hG.1; have hTl : (m.drop (m.length - 16)).length = m.length - (m.length - 16) := List.length_drop
 have hl16 := hl.1
 have kk0 := Kp.refl (On bx) w
 refine enter (n := 65) [.pointer (some ⟨p, 0, none⟩), .slice A (N.length) (c), .slice A2 (m.length) (c2), .slice A3 (D.length) (c3)] Tryz.func39 rfl rfl rfl ?_
 show Cw _ _ _ _ [(0, .pointer (some ⟨p, 0, none⟩)), (1, .slice A (N.length) (c)), (2, .slice A2 (m.length) (c2)), (3, .slice A3 (D.length) (c3))] _
 refine C_seq fun K1 hK1 => C_region <| Rp (pu_assign rfl) <| Rp (pu_assign rfl) <| R_nil <| X_then hK1 <| C_seq fun K2 hK2 => C_seq fun K3 hK3 => C_region <| Rp (pu_move rfl) <| Rp (pu_move rfl) <| Rp (pu_move rfl) <| R_lo (lo_call (by kernel_rfl) rfl (gcm_fits p A N c A3 D c3 _ ⟨bN.1, hs2⟩)) rfl ?_
 rintro _ w1 ⟨rfl, k1⟩
 have kk1 := kk0.thenNo k1
 refine Rp (pu_not rfl) <| Rp (pu_move rfl) <| Rg (pu_move rfl) <| Rg (pu_len Tryz.underlying22 rfl) <| Rg (pu_false (pu_gtr (p := m.length > 2064) rfl rfl (by omega)) (by omega)) <| Rp (pu_pickf rfl rfl) <| R_nil <| X_then hK3 <| C_false rfl <| C_skip <| X_then hK2 <| C_seq fun K4 hK4 => C_region <| Rp (pu_move rfl) <| Rp (pu_len Tryz.underlying22 rfl) <| Rp (pu_sub (z := ((m.length - 16 : Nat) : Int)) rfl rfl (by rw [IntKind.wrap_i64]; omega)) <| Rp (pu_assign rfl) <| R_nil <| X_then hK4 <| C_seq fun K5 hK5 => C_seq fun K6 hK6 => C_region <| Rp (pu_move rfl) <| Rp (pu_lss (p := (m.length - 16) < 0) rfl rfl (by omega)) <| R_nil <| X_then hK6 <| C_decf rfl (by omega) <| C_skip <| X_then hK5 <| C_seq fun K7 hK7 => C_region <| Rp (pu_move rfl) <| Rp (pu_move rfl) <| Rp (pu_move rfl) <| Rp (pu_move rfl) ?_
 have HMt8 := Bs.take HM (m.length - 16)
 have aw_HMt8 := Aw.take aw_HM (m.length - 16)
 refine Rp (pu_sliceHi (hi := m.length - 16) (s := 1) Tryz.underlying22 (by kernel_rfl) rfl rfl rfl (by have := hcm; omega)) <| Rp (pu_move rfl) ?_
 have f9 := (hp.no k1)
 have f10 := (hb.no k1)
 have o11 := (hS.no k1)
 refine R_lo (lo_callE (by kernel_rfl) rfl (by rw [(show (m.take (m.length - 16)).length = m.length - 16 by rw [List.length_take]; omega)] <;> rfl) (gcm_tag p b bx K A N c A2 (m.take (m.length - 16)) c2 A3 D c3 _ hK hne1 hne2 hne3 f9 f10 o11 bN (HN.keptS kk1 aw_HN) hcn aw_HN (HMt8.keptS kk1 aw_HMt8) (by rw [(show (m.take (m.length - 16)).length = m.length - 16 by rw [List.length_take]; omega)]; have := hcm; omega) aw_HMt8 (HD.keptS kk1 aw_HD) hcd aw_HD ⟨by rw [List.length_take]; omega, hs2⟩)) rfl ?_
 rintro _ w2 ⟨rfl, T2, k2⟩
 have kk2 := kk1.trans k2 (fun i hi => .inl hi)
 have f12 := (f9.on k2 hne2)
 have f13 := (f10.on k2 hne3)
 refine R_lo (lo_alloc (L := u8s (List.replicate 16 0)) (by kernel_rfl)) rfl ?_
 rintro _ w3 ⟨q, rfl, N3⟩
 have k3 := N3.kp
 have kk3 := kk2.thenNo k3
 have ne_q_p := Nat.ne_of_gt (Nat.lt_of_lt_of_le f12.lt N3.le)
 have ne_q_b := Nat.ne_of_gt (Nat.lt_of_lt_of_le f13.lt N3.le)
 have ne_q_bx := Nat.ne_of_gt (Nat.lt_of_lt_of_le T2.lt N3.le)
 have f_q_3 := N3.bk
 refine R_lo0 (lo_storeRow (C := u8s (tagB K N (m.take (m.length - 16)) D)) f_q_3 (by rw [u8s_length, (tagB_by _ _ _ _).1]; kernel_rfl) rfl rfl (u8s_each _) ((u8s_length _).trans ((tagB_by _ _ _ _).1.trans ((rep_by 16).1.symm.trans (u8s_length _).symm)))) ?_
 rintro _ w4 kf4
 obtain ⟨k4, f_q_4⟩ := kf4
 replace f_q_4 : Bk w4 q (u8s (tagB K N (m.take (m.length - 16)) D)) 134 := f_q_4
 have kk4 := kk3.trans k4 (fun i hi => .inr (hi ▸ (Nat.le_trans kk2.size N3.le)))
 refine R_nil <| X_then hK7 <| C_seq fun K14 hK14 => C_region <| Rp (pu_assign rfl) <| R_nil <| X_then hK14 <| C_seq fun K15 hK15 => C_seq fun K16 hK16 => C_region <| Rp (pu_move rfl) <| Rp (pu_move rfl) ?_
 have HMc17 := Bs.cut HM hcm (m.length - 16)
 have aw_HMc17 := Aw.cut aw_HM (m.length - 16) c2 1
 refine Rp (pu_sliceLo (lo := m.length - 16) (s := 1) Tryz.underlying22 (by kernel_rfl) rfl rfl rfl (by omega) (by have := hcm; omega)) <| Rp (pu_len Tryz.underlying22 rfl) <| Rp (pu_move rfl) <| R_nil <| X_then hK16 <| C_block ?_
 have f18 := ((f12.no k3).on k4 (Ne.symm ne_q_p))
 have f19 := ((f13.no k3).on k4 (Ne.symm ne_q_b))
 have o20 := ((T2.no k3).on k4 (Ne.symm ne_q_bx))
 refine C_loop (fun m_ l_ wr => ∃ i : Nat, ∃ off : Nat, (m_ = 16 - i) ∧ (l_ = [(0, .pointer (some ⟨p, 0, none⟩)), (1, .slice A (N.length) (c)), (2, .slice A2 (m.length) (c2)), (8, .slice none (0) (0)), (9, .nilIface), (10, .int .i64 ((m.length - 16 : Nat) : Int)), (11, .pointer (some ⟨q, 0, none⟩)), (12, .int .u8 ((off : Nat) : Int)), (41, .slice (cutA A2 (m.length - 16) c2 1) (m.length - (m.length - 16)) (c2 - (m.length - 16))), (42, .int .i64 ((m.length - (m.length - 16) : Nat) : Int)), (43, .int .i64 ((i : Nat) : Int))]) ∧ (i ≤ 16) ∧ (off < 256) ∧ (off = 0 ↔ (m.drop (m.length - 16)).take i = (tagB K N (m.take (m.length - 16)) D).take i) ∧ (Kp (On bx) w wr) ∧ (Bk wr p (gkL b (gmH K)) 164) ∧ (Bk wr b (keyL bx (KW K)) 181) ∧ (Bk wr q (u8s (tagB K N (m.take (m.length - 16)) D)) 134) ∧ (Sx wr bx)) (16 - 0) [(0, .pointer (some ⟨p, 0, none⟩)), (1, .slice A (N.length) (c)), (2, .slice A2 (m.length) (c2)), (8, .slice none (0) (0)), (9, .nilIface), (10, .int .i64 ((m.length - 16 : Nat) : Int)), (11, .pointer (some ⟨q, 0, none⟩)), (12, .int .u8 0), (41, .slice (cutA A2 (m.length - 16) c2 1) (m.length - (m.length - 16)) (c2 - (m.length - 16))), (42, .int .i64 ((m.length - (m.length - 16) : Nat) : Int)), (43, .int .i64 0)] (Sub.cons rfl (Sub.cons rfl (Sub.cons rfl (Sub.cons rfl (Sub.cons rfl (Sub.cons rfl (Sub.cons rfl (Sub.cons rfl (Sub.cons rfl (Sub.cons rfl (Sub.cons rfl (Sub.nil _)))))))))))) ⟨0, 0, rfl, rfl, by omega, (by decide), (by simp), kk4, f18, f19, f_q_4, o20⟩ ?_
 rintro _ _ w5 ⟨i, off, rfl, rfl, hi, hof, hz, kk5, f_p_5, f_b_5, f_q_5, S_5⟩
 refine C_seq fun K21 hK21 => C_region <| Rp (pu_lss (p := i < (m.length - (m.length - 16))) rfl rfl (by omega)) <| R_nil <| X_then hK21 <| C_seq fun K22 hK22 => C_dec rfl (fun h44 => ?_) (fun h44 => ?_)
 ·
  refine C_skip <| X_then hK22 <| C_seq fun K23 hK23 => C_block <| C_seq fun K24 hK24 => C_region <| Rp (pu_move rfl) <| Rp (pu_indexAddrB (m := i) (HMc17.keptS kk5 aw_HMc17) Tryz.underlying22 (by kernel_rfl) rfl List.length_drop rfl rfl (by omega)) ?_
  obtain ⟨a, e_a⟩ : ∃ q_, (m.drop (m.length - 16))[i]? = some q_ := ⟨_, List.getElem?_eq_getElem (by omega)⟩
  have b_a : a < 256 := ((HMc17.keptS kk5 aw_HMc17)).lt e_a
  refine Rp (pu_loadB (HMc17.keptS kk5 aw_HMc17) (by kernel_rfl) rfl e_a) <| Rp (pu_assign rfl) <| Rp (pu_assign rfl) <| R_nil <| X_then hK24 <| C_region <| Rp (pu_move rfl) <| Rp (pu_move rfl) <| Rp (pu_move rfl) <| Rp (pu_indexAddrA (m := i) (s := 1) (o' := i) Tryz.underlying134 (by kernel_rfl) rfl rfl rfl (by omega) (by omega)) ?_
  obtain ⟨t, e_t⟩ : ∃ q_, (tagB K N (m.take (m.length - 16)) D)[i]? = some q_ := ⟨_, List.getElem?_eq_getElem (by rw [((tagB_by _ _ _ _)).1]; omega)⟩
  have b_t : t < 256 := ((tagB_by _ _ _ _)).2 _ (List.mem_of_getElem? e_t)
  refine Rp (pu_loadK f_q_5 (by kernel_rfl) rfl (u8s_get e_t)) <| Rp (pu_xor rfl rfl (u8_xor_nat a t b_a b_t)) <| Rp (pu_or rfl rfl (u8_or_nat off (a ^^^ t) hof (Nat.xor_lt_two_pow (n := 8) b_a b_t))) <| Rp (pu_assign rfl) <| R_nil <| X_in_normal <| X_then hK23 <| C_region <| Rp (pu_add (z := ((i + 1 : Nat) : Int)) rfl rfl (by rw [IntKind.wrap_i64]; omega)) <| Rp (pu_move rfl) <| R_nil <| X_round (16 - (i + 1)) [(0, .pointer (some ⟨p, 0, none⟩)), (1, .slice A (N.length) (c)), (2, .slice A2 (m.length) (c2)), (8, .slice none (0) (0)), (9, .nilIface), (10, .int .i64 ((m.length - 16 : Nat) : Int)), (11, .pointer (some ⟨q, 0, none⟩)), (12, .int .u8 (((off ||| (a ^^^ t)) : Nat) : Int)), (41, .slice (cutA A2 (m.length - 16) c2 1) (m.length - (m.length - 16)) (c2 - (m.length - 16))), (42, .int .i64 ((m.length - (m.length - 16) : Nat) : Int)), (43, .int .i64 (((i + 1) : Nat) : Int))] (by omega) (Sub.cons rfl (Sub.cons rfl (Sub.cons rfl (Sub.cons rfl (Sub.cons rfl (Sub.cons rfl (Sub.cons rfl (Sub.cons rfl (Sub.cons rfl (Sub.cons rfl (Sub.cons rfl (Sub.nil _)))))))))))) ⟨i + 1, off ||| (a ^^^ t), rfl, rfl, by omega, (off_lt hof b_a b_t), (off_step hz e_a e_t), kk5, f_p_5, f_b_5, f_q_5, S_5⟩
 ·
  refine C_exit <| X_then_exit (X_then_exit (X_in_eq ?_))
  refine X_then hK15 <| C_seq fun K25 hK25 => C_seq fun K26 hK26 => C_region <| Rp (pu_move rfl) <| Rp (pu_neq (p := off = 0) rfl rfl (by omega)) <| R_nil <| X_then hK26 <| C_decf rfl (fun h => h (hz.2 (by rw [hl.2]))) <| C_skip <| X_then hK25 <| C_seq fun K27 hK27 => C_region <| Rp (pu_move rfl) <| Rp (pu_move rfl) <| Rp (pu_move rfl) <| Rp (pu_move rfl) ?_
  have HMt28 := Bs.take HM (m.length - 16)
  have aw_HMt28 := Aw.take aw_HM (m.length - 16)
  refine Rp (pu_sliceHi (hi := m.length - 16) (s := 1) Tryz.underlying22 (by kernel_rfl) rfl rfl rfl (by have := hcm; omega)) <| R_lo (lo_callE (by kernel_rfl) rfl (by rw [(show (m.take (m.length - 16)).length = m.length - 16 by rw [List.length_take]; omega)] <;> rfl) (gcm_cipher p b bx K A N c A2 (m.take (m.length - 16)) c2 _ hK hne1 hne2 hne3 f_p_5 f_b_5 S_5 bN (HN.keptS kk5 aw_HN) hcn aw_HN (HMt28.keptS kk5 aw_HMt28) (by rw [(show (m.take (m.length - 16)).length = m.length - 16 by rw [List.length_take]; omega)]; have := hcm; omega) aw_HMt28 (by rw [List.length_take]; omega))) rfl ?_
  rintro _ w6 ⟨A_cp, c_cp, rfl, Q6, T6, k6⟩
  have kk6 := kk5.trans k6 (fun i hi => .inl hi)
  exact Rp (pu_assign rfl) <| Rp (pu_assign rfl) <| R_nil <| X_then hK27 <| C_ret <| X_ret2 (.inl rfl) rfl rfl rfl ⟨_, _, rfl, Q6.low ((kk5).size), T6, kk6⟩
end Go.Proofs.YtlkbkgghfhoggaaGreatDoor
