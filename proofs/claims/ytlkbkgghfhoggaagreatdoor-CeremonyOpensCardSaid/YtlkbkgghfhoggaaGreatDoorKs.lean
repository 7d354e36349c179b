/- Walks of envelope. -/
import Derived.Test.YtlkbkgghfhoggaaGreatDoorKr
set_option linter.unusedVariables false
set_option linter.unusedSimpArgs false
set_option maxHeartbeats 2000000
set_option maxRecDepth 100000
namespace Go.Proofs.YtlkbkgghfhoggaaGreatDoor
open Go.RowKit Gm
theorem env_with (A : Option Addr) (K : List Nat) (c : Nat) (U : List Nat) (n : Nat) (w : World) (HK : Bs w A K) (hc : K.length ≤ c) (hU : ∀ n ∈ U, n < 256) (hu1 : 1 ≤ U.length) (hu2 : U.length ≤ 32) (hn : n < 4294967296) (hl : K.length = 32) : Ret Tryz.prog 33 #[.slice A (K.length) (c), .string (bstr U), .int .u32 ((n : Nat) : Int)] w (fun v w' => ∃ p b bx, v = .tuple #[.pointer (some ⟨p, 0, none⟩), .nilIface] ∧ w.heap.size ≤ p ∧ w.heap.size ≤ b ∧ w.heap.size ≤ bx ∧ p ≠ b ∧ p ≠ bx ∧ b ≠ bx ∧ Bk w' p (gkL b (gmH (hkB K U n))) 164 ∧ Bk w' b (keyL bx (KW (hkB K U n))) 181 ∧ Sx w' bx ∧ Kp No w w') := by
 have kk0 := Kp.refl No w
 refine enter (n := 24) [.slice A (K.length) (c), .string (bstr U), .int .u32 ((n : Nat) : Int)] Tryz.func33 rfl rfl rfl ?_
 show Cw _ _ _ _ [(0, .slice A (K.length) (c)), (1, .string (bstr U)), (2, .int .u32 ((n : Nat) : Int))] _
 refine C_seq fun K1 hK1 => C_region <| Rp (pu_assign rfl) <| Rp (pu_assign rfl) <| R_nil <| X_then hK1 <| C_seq fun K2 hK2 => C_region <| Rp (pu_move rfl) <| Rp (pu_move rfl) <| Rp (pu_move rfl) <| R_lo (lo_call (by kernel_rfl) rfl (hkdf_key A K c U n _ HK hc hU hu1 hu2 hn hl)) rfl ?_
 rintro _ w1 ⟨A_hk, rfl, Q1, k1⟩
 have kk1 := kk0.then_ k1
 refine Rp (pu_move rfl) <| Rp (pu_extract rfl rfl) <| Rp (pu_extract rfl rfl) <| Rp (pu_assign rfl) <| Rp (pu_assign rfl) <| R_nil <| X_then hK2 <| C_seq fun K4 hK4 => C_seq fun K5 hK5 => C_region <| Rp (pu_move rfl) <| Rp (pu_neqnn (by kernel_rfl) rfl) <| R_nil <| X_then hK5 <| C_false rfl <| C_skip <| X_then hK4 <| C_seq fun K6 hK6 => C_region <| Rp (pu_move rfl) ?_
 have bK_p : By 32 (hkB K U n) := ⟨(hkB_by K U n).1, (hkB_by K U n).2⟩
 have wy_b : Wy (KW (hkB K U n)) := KW_wy bK_p.2
 refine R_lo (lo_callE (by kernel_rfl) rfl (by rw [Q1.le.1] <;> rfl) (gcm_new A_hk (hkB K U n) 32 _ Q1.bs Q1.le.2 bK_p.1)) rfl ?_
 rintro _ w2 ⟨p, b, bx, rfl, le2, lb2, lx2, n1_2, n2_2, n3_2, P2, B2, T2, k2⟩
 have kk2 := kk1.then_ k2
 exact Rp (pu_extract rfl rfl) <| Rp (pu_extract rfl rfl) <| Rp (pu_assign rfl) <| Rp (pu_assign rfl) <| R_nil <| X_then hK6 <| C_ret <| X_ret2 (.inl rfl) rfl rfl rfl ⟨p, b, bx, rfl, (Nat.le_trans kk1.size le2), (Nat.le_trans kk1.size lb2), (Nat.le_trans kk1.size lx2), n1_2, n2_2, n3_2, P2, B2, T2, kk2⟩
theorem env_seal (A : Option Addr) (K : List Nat) (c : Nat) (A2 : Option Addr) (m : List Nat) (c2 : Nat) (t : Nat) (w : World) (HK : Bs w A K) (hc : K.length ≤ c) (HM : Bs w A2 m) (hc2 : m.length ≤ c2) (ht : t < 4294967296) (hl : K.length = 32 ∧ m.length = 32) : Ret Tryz.prog 31 #[.slice A (K.length) (c), .slice A2 (m.length) (c2), .int .u32 ((t : Nat) : Int)] w (fun v w' => ∃ A c, v = .tuple #[.slice A (boxE K m t).length c, .nilIface] ∧ Ob w' w.heap.size (.slice A (boxE K m t).length c) (boxE K m t) ∧ Kp No w w') := by
 obtain ⟨hl1, hl2⟩ := id hl
 have kk0 := Kp.refl No w
 refine enter (n := 33) [.slice A (K.length) (c), .slice A2 (m.length) (c2), .int .u32 ((t : Nat) : Int)] Tryz.func31 rfl rfl rfl ?_
 show Cw _ _ _ _ [(0, .slice A (K.length) (c)), (1, .slice A2 (m.length) (c2)), (2, .int .u32 ((t : Nat) : Int))] _
 refine C_seq fun K1 hK1 => C_region <| Rp (pu_assign rfl) <| Rp (pu_assign rfl) <| R_nil <| X_then hK1 <| C_seq fun K2 hK2 => C_region <| Rp (pu_move rfl) <| Rp (pu_move rfl) ?_
 have wy_kb : Wy (KW (kE K t)) := KW_wy (kE_by K t).2
 refine R_lo (lo_call (by kernel_rfl) rfl (env_with A K c useE t _ HK hc (by_lit (n := 8) useE (by decide)).2 (by decide) (by decide) ht hl1)) rfl ?_
 rintro _ w1 ⟨kp, kb, kx, rfl, le1, lb1, lx1, n1_1, n2_1, n3_1, P1, B1, T1, k1⟩
 have kk1 := kk0.then_ k1
 refine Rp (pu_move rfl) <| Rp (pu_extract rfl rfl) <| Rp (pu_extract rfl rfl) <| Rp (pu_assign rfl) <| Rp (pu_assign rfl) <| R_nil <| X_then hK2 <| C_seq fun K3 hK3 => C_seq fun K4 hK4 => C_region <| Rp (pu_move rfl) <| Rp (pu_neqnn (by kernel_rfl) rfl) <| Rp (pu_move rfl) <| Rg (pu_move rfl) <| Rg (pu_len Tryz.underlying22 rfl) <| Rg (pu_false (pu_neq (p := m.length = 32) rfl rfl (by omega)) (fun h => h hl2)) <| Rp (pu_pickf rfl rfl) <| R_nil <| X_then hK4 <| C_false rfl <| C_skip <| X_then hK3 <| C_seq fun K5 hK5 => C_region <| Rp (pu_move rfl) <| Rp (pu_move rfl) <| R_lo (lo_call (by kernel_rfl) rfl (nonce_bytes t 0 _ ht (by decide))) rfl ?_
 rintro _ w2 ⟨A_no, c_no, rfl, Q2, k2⟩
 have kk2 := kk1.then_ k2
 refine Rp (pu_move rfl) ?_
 have f7 := (P1.no k2)
 have f8 := (B1.no k2)
 have o9 := (T1.no k2)
 refine R_lo (lo_buildSlice (L := u8s ([99, 111, 114, 101, 47, 101, 110, 118, 101, 108, 111, 112, 101])) Tryz.underlying22 rfl (by kernel_rfl)) rfl ?_
 rintro _ w3 ⟨q, rfl, N3⟩
 have k3 := N3.kp
 have kk3 := kk2.then_ k3
 have ne_q_kp := Nat.ne_of_gt (Nat.lt_of_lt_of_le f7.lt N3.le)
 have ne_q_kb := Nat.ne_of_gt (Nat.lt_of_lt_of_le f8.lt N3.le)
 have ne_q_kx := Nat.ne_of_gt (Nat.lt_of_lt_of_le o9.lt N3.le)
 have f_q_3 := N3.bk
 refine R_lo (lo_mark f_q_3 (show By 13 [99, 111, 114, 101, 47, 101, 110, 118, 101, 108, 111, 112, 101] from by_lit _ (by decide)).2 Tryz.underlying22 Tryz.underlying5 rfl (show By 13 [99, 111, 114, 101, 47, 101, 110, 118, 101, 108, 111, 112, 101] from by_lit _ (by decide)).1 (by decide)) rfl ?_
 rintro _ w4 ⟨rfl, Q4, k4⟩
 have kk4 := kk3.trans k4 (fun i hi => .inr (hi ▸ (Nat.le_trans kk2.size N3.le)))
 have f10 := ((f7.no k3).on k4 (Ne.symm ne_q_kp))
 have f11 := ((f8.no k3).on k4 (Ne.symm ne_q_kb))
 have o12 := ((o9.no k3).on k4 (Ne.symm ne_q_kx))
 have ob13 := ((Q2.keptNo k3).onN k4 Q2 N3.le)
 refine R_lo (lo_callE (by kernel_rfl) rfl (by rw [Q4.le.1] <;> rfl) (gcm_seal kp kb kx (kE K t) A_no (nonB t 0) c_no A2 m c2 (some ⟨q, 0, none⟩) ([99, 111, 114, 101, 47, 101, 110, 118, 101, 108, 111, 112, 101]) 13 _ (kE_by K t) n1_1 n2_1 n3_1 f10 f11 o12 (nonB_by t 0) ob13.bs ob13.le.2 (Aw.ofOb ob13 (by have := T1.lt; omega)) (HM.keptNo kk4) hc2 (HM.aw (Nat.le_trans kk0.size lx1)) Q4.bs Q4.le.2 (Aw.ofBk ne_q_kx) ⟨by omega, by decide⟩)) rfl ?_
 rintro _ w5 ⟨A_se, c_se, rfl, Q5, T5, k5⟩
 have kk5 := kk4.trans k5 (fun i hi => .inr (hi ▸ (Nat.le_trans kk0.size lx1)))
 exact Rp (pu_extract rfl rfl) <| Rp (pu_extract rfl rfl) <| Rp (pu_assign rfl) <| Rp (pu_assign rfl) <| R_nil <| X_then hK5 <| C_ret <| X_ret2 (.inl rfl) rfl rfl rfl ⟨_, _, rfl, Q5.low ((kk4).size), kk5⟩
theorem env_open (A : Option Addr) (K : List Nat) (c : Nat) (A2 : Option Addr) (m : List Nat) (c2 : Nat) (t : Nat) (w : World) (HK : Bs w A K) (hc : K.length ≤ c) (HM : Bs w A2 m) (hc2 : m.length ≤ c2) (ht : t < 4294967296) (hl1 : K.length = 32) (hl2 : m.length = 48) (ho : opE K m t) : Ret Tryz.prog 22 #[.slice A (K.length) (c), .slice A2 (m.length) (c2), .int .u32 ((t : Nat) : Int)] w (fun v w' => ∃ A c, v = .tuple #[.slice A (inE K m t).length c, .nilIface] ∧ Ob w' w.heap.size (.slice A (inE K m t).length c) (inE K m t) ∧ Kp No w w') := by
 have kk0 := Kp.refl No w
 refine enter (n := 38) [.slice A (K.length) (c), .slice A2 (m.length) (c2), .int .u32 ((t : Nat) : Int)] Tryz.func22 rfl rfl rfl ?_
 show Cw _ _ _ _ [(0, .slice A (K.length) (c)), (1, .slice A2 (m.length) (c2)), (2, .int .u32 ((t : Nat) : Int))] _
 refine C_seq fun K1 hK1 => C_region <| Rp (pu_assign rfl) <| Rp (pu_assign rfl) <| R_nil <| X_then hK1 <| C_seq fun K2 hK2 => C_region <| Rp (pu_move rfl) <| Rp (pu_move rfl) ?_
 have wy_kb : Wy (KW (kE K t)) := KW_wy (kE_by K t).2
 refine R_lo (lo_call (by kernel_rfl) rfl (env_with A K c useE t _ HK hc (by_lit (n := 8) useE (by decide)).2 (by decide) (by decide) ht hl1)) rfl ?_
 rintro _ w1 ⟨kp, kb, kx, rfl, le1, lb1, lx1, n1_1, n2_1, n3_1, P1, B1, T1, k1⟩
 have kk1 := kk0.then_ k1
 refine Rp (pu_move rfl) <| Rp (pu_extract rfl rfl) <| Rp (pu_extract rfl rfl) <| Rp (pu_assign rfl) <| Rp (pu_assign rfl) <| R_nil <| X_then hK2 <| C_seq fun K3 hK3 => C_seq fun K4 hK4 => C_region <| Rp (pu_move rfl) <| Rp (pu_neqnn (by kernel_rfl) rfl) <| R_nil <| X_then hK4 <| C_false rfl <| C_skip <| X_then hK3 <| C_seq fun K5 hK5 => C_seq fun K6 hK6 => C_region <| Rp (pu_move rfl) <| Rp (pu_len Tryz.underlying22 rfl) <| Rp (pu_neq (p := m.length = 48) rfl rfl (by omega)) <| R_nil <| X_then hK6 <| C_decf rfl (fun h => h hl2) <| C_skip <| X_then hK5 <| C_seq fun K7 hK7 => C_region <| Rp (pu_move rfl) <| Rp (pu_move rfl) <| R_lo (lo_call (by kernel_rfl) rfl (nonce_bytes t 0 _ ht (by decide))) rfl ?_
 rintro _ w2 ⟨A_no, c_no, rfl, Q2, k2⟩
 have kk2 := kk1.then_ k2
 refine Rp (pu_move rfl) ?_
 have f9 := (P1.no k2)
 have f10 := (B1.no k2)
 have o11 := (T1.no k2)
 refine R_lo (lo_buildSlice (L := u8s ([99, 111, 114, 101, 47, 101, 110, 118, 101, 108, 111, 112, 101])) Tryz.underlying22 rfl (by kernel_rfl)) rfl ?_
 rintro _ w3 ⟨q, rfl, N3⟩
 have k3 := N3.kp
 have kk3 := kk2.then_ k3
 have ne_q_kp := Nat.ne_of_gt (Nat.lt_of_lt_of_le f9.lt N3.le)
 have ne_q_kb := Nat.ne_of_gt (Nat.lt_of_lt_of_le f10.lt N3.le)
 have ne_q_kx := Nat.ne_of_gt (Nat.lt_of_lt_of_le o11.lt N3.le)
 have f_q_3 := N3.bk
 refine R_lo (lo_mark f_q_3 (show By 13 [99, 111, 114, 101, 47, 101, 110, 118, 101, 108, 111, 112, 101] from by_lit _ (by decide)).2 Tryz.underlying22 Tryz.underlying5 rfl (show By 13 [99, 111, 114, 101, 47, 101, 110, 118, 101, 108, 111, 112, 101] from by_lit _ (by decide)).1 (by decide)) rfl ?_
 rintro _ w4 ⟨rfl, Q4, k4⟩
 have kk4 := kk3.trans k4 (fun i hi => .inr (hi ▸ (Nat.le_trans kk2.size N3.le)))
 have f12 := ((f9.no k3).on k4 (Ne.symm ne_q_kp))
 have f13 := ((f10.no k3).on k4 (Ne.symm ne_q_kb))
 have o14 := ((o11.no k3).on k4 (Ne.symm ne_q_kx))
 have ob15 := ((Q2.keptNo k3).onN k4 Q2 N3.le)
 refine R_lo (lo_callE (by kernel_rfl) rfl (by rw [Q4.le.1] <;> rfl) (gcm_open kp kb kx (kE K t) A_no (nonB t 0) c_no A2 m c2 (some ⟨q, 0, none⟩) ([99, 111, 114, 101, 47, 101, 110, 118, 101, 108, 111, 112, 101]) 13 _ (kE_by K t) n1_1 n2_1 n3_1 f12 f13 o14 (nonB_by t 0) ob15.bs ob15.le.2 (Aw.ofOb ob15 (by have := T1.lt; omega)) (HM.keptNo kk4) hc2 (HM.aw (Nat.le_trans kk0.size lx1)) Q4.bs Q4.le.2 (Aw.ofBk ne_q_kx) ⟨by omega, by decide⟩ ho)) rfl ?_
 rintro _ w5 ⟨A_op, c_op, rfl, Q5, T5, k5⟩
 have kk5 := kk4.trans k5 (fun i hi => .inr (hi ▸ (Nat.le_trans kk0.size lx1)))
 exact Rp (pu_move rfl) <| Rp (pu_extract rfl rfl) <| Rp (pu_extract rfl rfl) <| Rp (pu_assign rfl) <| Rp (pu_assign rfl) <| R_nil <| X_then hK7 <| C_seq fun K19 hK19 => C_seq fun K20 hK20 => C_region <| Rp (pu_move rfl) <| Rp (pu_neqnn (by kernel_rfl) rfl) <| R_nil <| X_then hK20 <| C_false rfl <| C_skip <| X_then hK19 <| C_seq fun K21 hK21 => C_region <| Rp (pu_move rfl) <| Rp (pu_assign rfl) <| Rp (pu_assign rfl) <| R_nil <| X_then hK21 <| C_ret <| X_ret2 (.inl rfl) rfl rfl rfl ⟨_, _, rfl, Q5.low ((kk4).size), kk5⟩
theorem env_at (A : Option Addr) (K : List Nat) (c : Nat) (A2 : Option Addr) (m : List Nat) (c2 : Nat)  (w : World) (HK : Bs w A K) (hc : K.length ≤ c) (HM : Bs w A2 m) (hc2 : m.length ≤ c2) (hl : K.length = 32) (hm : m.length ≤ 1000000) : Ret Tryz.prog 35 #[.slice A (K.length) (c), .slice A2 (m.length) (c2)] w (fun v w' => ∃ A, v = .tuple #[.slice A 12 32, .nilIface] ∧ Od w' w.heap.size (.slice A 12 32) (atR K m) ∧ Kp No w w') := by
 have kk0 := Kp.refl No w
 refine enter (n := 21) [.slice A (K.length) (c), .slice A2 (m.length) (c2)] Tryz.func35 rfl rfl rfl ?_
 show Cw _ _ _ _ [(0, .slice A (K.length) (c)), (1, .slice A2 (m.length) (c2))] _
 refine C_seq fun K1 hK1 => C_region <| Rp (pu_assign rfl) <| Rp (pu_assign rfl) <| R_nil <| X_then hK1 <| C_seq fun K2 hK2 => C_region <| Rp (pu_move rfl) <| R_lo (lo_call (by kernel_rfl) rfl (hkdf_key A K c useN 0 _ HK hc (by_lit (n := 10) useN (by decide)).2 (by decide) (by decide) (by decide) hl)) rfl ?_
 rintro _ w1 ⟨A_hk, rfl, Q1, k1⟩
 have kk1 := kk0.then_ k1
 refine Rp (pu_move rfl) <| Rp (pu_extract rfl rfl) <| Rp (pu_extract rfl rfl) <| Rp (pu_assign rfl) <| Rp (pu_assign rfl) <| R_nil <| X_then hK2 <| C_seq fun K4 hK4 => C_seq fun K5 hK5 => C_region <| Rp (pu_move rfl) <| Rp (pu_neqnn (by kernel_rfl) rfl) <| R_nil <| X_then hK5 <| C_false rfl <| C_skip <| X_then hK4 <| C_seq fun K6 hK6 => C_region <| Rp (pu_move rfl) <| Rp (pu_move rfl) <| R_lo (lo_callE (by kernel_rfl) rfl (by rw [Q1.le.1] <;> rfl) (hmac_mac A_hk (hkB K useN 0) 32 A2 m c2 _ Q1.bs Q1.le.2 (HM.keptNo kk1) hc2 (by rw [(hkB_by _ _ _).1]; decide) (by omega))) rfl ?_
 rintro _ w2 ⟨rfl, k2⟩
 have kk2 := kk1.then_ k2
 refine R_lo (lo_alloc (L := u8s (List.replicate 32 0)) (by kernel_rfl)) rfl ?_
 rintro _ w3 ⟨ps, rfl, N3⟩
 have k3 := N3.kp
 have kk3 := kk2.then_ k3
 have f_ps_3 := N3.bk
 refine R_lo0 (lo_storeRow (C := u8s (macB (hkB K useN 0) m)) f_ps_3 (by rw [u8s_length, (macB_by _ _).1]; kernel_rfl) rfl rfl (u8s_each _) ((u8s_length _).trans ((macB_by _ _).1.trans ((rep_by 32).1.symm.trans (u8s_length _).symm)))) ?_
 rintro _ w4 kf4
 obtain ⟨k4, f_ps_4⟩ := kf4
 replace f_ps_4 : Bk w4 ps (u8s (macB (hkB K useN 0) m)) 56 := f_ps_4
 have kk4 := kk3.trans k4 (fun i hi => .inr (hi ▸ (Nat.le_trans kk2.size N3.le)))
 exact R_nil <| X_then hK6 <| C_seq fun K8 hK8 => C_region <| Rp (pu_sliceArrHi (hi := 12) Tryz.underlying56 (by kernel_rfl) rfl rfl rfl (by decide) (by decide)) <| Rp (pu_assign rfl) <| Rp (pu_assign rfl) <| R_nil <| X_then hK8 <| C_ret <| X_ret2 (.inl rfl) rfl rfl rfl ⟨some ⟨ps, 0, none⟩, rfl, ⟨_, _, by rw [(atR_by K m).1], (Bs.ofBk f_ps_4 (macB_by _ _)).take 12, by rw [(atR_by K m).1]; decide, fun x hx => by cases hx; exact ⟨(Nat.le_trans kk2.size N3.le), f_ps_4.lt⟩⟩, kk4⟩
theorem env_sealring (A : Option Addr) (K : List Nat) (c : Nat) (A2 : Option Addr) (L : List Tm) (c2 : Nat)  (w : World) (HK : Bs w A K) (hc : K.length ≤ c) (HT : Rs tmC 33 w A2 L) (hok : ∀ t ∈ L, okT t) (hc2 : L.length ≤ c2) (hl : K.length = 32) (hM : mayR L) : Ret Tryz.prog 18 #[.slice A (K.length) (c), .agg ([.slice A2 (L.length) (c2)] : List Value).toArray] w (fun v w' => ∃ A c, v = .tuple #[.slice A (boxR K (encR L)).length c, .nilIface] ∧ Ob w' w.heap.size (.slice A (boxR K (encR L)).length c) (boxR K (encR L)) ∧ Kp No w w') := by
 have hm2 := hM.2.1; have hke := keys_len hok; have hel : (encR L).length = 3 + 32 * L.length := by unfold encR; rw [List.length_append, hke]; rfl
 have kk0 := Kp.refl No w
 refine enter (n := 52) [.slice A (K.length) (c), .agg ([.slice A2 (L.length) (c2)] : List Value).toArray] Tryz.func18 rfl rfl rfl ?_
 show Cw _ _ _ _ [(0, .slice A (K.length) (c)), (1, .agg ([.slice A2 (L.length) (c2)] : List Value).toArray)] _
 refine C_seq fun K1 hK1 => C_region <| R_lo (lo_box (L := [.slice A2 (L.length) (c2)]) rfl rfl) rfl ?_
 rintro _ w1 ⟨pb, rfl, N1⟩
 have k1 := N1.kp
 have kk1 := kk0.then_ k1
 have f_pb_1 := N1.bk
 refine Rp (pu_assign rfl) <| Rp (pu_assign rfl) <| R_nil <| X_then hK1 <| C_seq fun K2 hK2 => C_region <| Rp (pu_move rfl) ?_
 have wy_kb : Wy (KW (kR K)) := KW_wy (kR_by K).2
 refine R_lo (lo_call (by kernel_rfl) rfl (env_with A K c useR 0 _ (HK.keptNo kk1) hc (by_lit (n := 4) useR (by decide)).2 (by decide) (by decide) (by decide) hl)) rfl ?_
 rintro _ w2 ⟨kp, kb, kx, rfl, le2, lb2, lx2, n1_2, n2_2, n3_2, P2, B2, T2, k2⟩
 have kk2 := kk1.then_ k2
 refine Rp (pu_move rfl) <| Rp (pu_extract rfl rfl) <| Rp (pu_extract rfl rfl) <| Rp (pu_assign rfl) <| Rp (pu_assign rfl) <| R_nil <| X_then hK2 <| C_seq fun K3 hK3 => C_seq fun K4 hK4 => C_region <| Rp (pu_move rfl) <| Rp (pu_neqnn (by kernel_rfl) rfl) <| R_nil <| X_then hK4 <| C_false rfl <| C_skip <| X_then hK3 <| C_seq fun K5 hK5 => C_region ?_
 have f6 := (f_pb_1.no k2)
 refine Rp (pu_loadRow (len := 1) f6 (by kernel_rfl) (by kernel_rfl) rfl rfl) <| R_lo (lo_call (by kernel_rfl) rfl (ring_encode A2 L c2 _ (HT.keptNo kk2) hok hc2 hM)) rfl ?_
 rintro _ w3 ⟨A_en, c_en, rfl, Q3, k3⟩
 have kk3 := kk2.then_ k3
 refine Rp (pu_move rfl) <| Rp (pu_extract rfl rfl) <| Rp (pu_extract rfl rfl) <| Rp (pu_assign rfl) <| Rp (pu_assign rfl) <| R_nil <| X_then hK5 <| C_seq fun K8 hK8 => C_seq fun K9 hK9 => C_region <| Rp (pu_move rfl) <| Rp (pu_neqnn (by kernel_rfl) rfl) <| R_nil <| X_then hK9 <| C_false rfl <| C_skip <| X_then hK8 <| C_seq fun K10 hK10 => C_region <| Rp (pu_move rfl) <| Rp (pu_move rfl) ?_
 have f12 := (P2.no k3)
 have f13 := (B2.no k3)
 have o14 := (T2.no k3)
 refine R_lo (lo_call (by kernel_rfl) rfl (env_at A K c A_en (encR L) c_en _ (HK.keptNo kk3) hc Q3.bs Q3.le.2 hl (by omega))) rfl ?_
 rintro _ w4 ⟨A_at, rfl, Q4, k4⟩
 have kk4 := kk3.then_ k4
 refine Rp (pu_move rfl) <| Rp (pu_extract rfl rfl) <| Rp (pu_extract rfl rfl) <| Rp (pu_assign rfl) <| Rp (pu_assign rfl) <| R_nil <| X_then hK10 <| C_seq fun K17 hK17 => C_seq fun K18 hK18 => C_region <| Rp (pu_move rfl) <| Rp (pu_neqnn (by kernel_rfl) rfl) <| R_nil <| X_then hK18 <| C_false rfl <| C_skip <| X_then hK17 <| C_seq fun K19 hK19 => C_region <| Rp (pu_move rfl) <| Rp (pu_move rfl) <| Rp (pu_move rfl) ?_
 have f21 := (f12.no k4)
 have f22 := (f13.no k4)
 have o23 := (o14.no k4)
 have ob24 := (Q3.keptNo k4)
 refine R_lo (lo_buildSlice (L := u8s ([99, 111, 114, 101, 47, 114, 105, 110, 103])) Tryz.underlying22 rfl (by kernel_rfl)) rfl ?_
 rintro _ w5 ⟨q, rfl, N5⟩
 have k5 := N5.kp
 have kk5 := kk4.then_ k5
 have ne_q_kp := Nat.ne_of_gt (Nat.lt_of_lt_of_le f21.lt N5.le)
 have ne_q_kb := Nat.ne_of_gt (Nat.lt_of_lt_of_le f22.lt N5.le)
 have ne_q_kx := Nat.ne_of_gt (Nat.lt_of_lt_of_le o23.lt N5.le)
 have f_q_5 := N5.bk
 refine R_lo (lo_mark f_q_5 (show By 9 [99, 111, 114, 101, 47, 114, 105, 110, 103] from by_lit _ (by decide)).2 Tryz.underlying22 Tryz.underlying5 rfl (show By 9 [99, 111, 114, 101, 47, 114, 105, 110, 103] from by_lit _ (by decide)).1 (by decide)) rfl ?_
 rintro _ w6 ⟨rfl, Q6, k6⟩
 have kk6 := kk5.trans k6 (fun i hi => .inr (hi ▸ (Nat.le_trans kk4.size N5.le)))
 have f25 := ((f21.no k5).on k6 (Ne.symm ne_q_kp))
 have f26 := ((f22.no k5).on k6 (Ne.symm ne_q_kb))
 have o27 := ((o23.no k5).on k6 (Ne.symm ne_q_kx))
 have ob28 := ((Q4.keptNo k5).onN k6 Q4 N5.le)
 have ob29 := ((ob24.keptNo k5).onN k6 ob24 N5.le)
 refine R_lo (lo_callE (by kernel_rfl) rfl (by rw [ob28.le.1, Q6.le.1] <;> rfl) (gcm_seal kp kb kx (kR K) A_at (atR K (encR L)) 32 A_en (encR L) c_en (some ⟨q, 0, none⟩) ([99, 111, 114, 101, 47, 114, 105, 110, 103]) 9 _ (kR_by K) n1_2 n2_2 n3_2 f25 f26 o27 (atR_by K (encR L)) ob28.bs ob28.le.2 (ob28.aw (by have := o14.lt; omega)) ob29.bs ob29.le.2 (Aw.ofOb ob29 (by have := T2.lt; omega)) Q6.bs Q6.le.2 (Aw.ofBk ne_q_kx) ⟨by omega, by decide⟩)) rfl ?_
 rintro _ w7 ⟨A_se, c_se, rfl, Q7, T7, k7⟩
 have kk7 := kk6.trans k7 (fun i hi => .inr (hi ▸ (Nat.le_trans kk1.size lx2)))
 refine Rp (pu_move rfl) <| Rp (pu_extract rfl rfl) <| Rp (pu_extract rfl rfl) <| Rp (pu_assign rfl) <| Rp (pu_assign rfl) <| R_nil <| X_then hK19 <| C_seq fun K35 hK35 => C_seq fun K36 hK36 => C_region <| Rp (pu_move rfl) <| Rp (pu_neqnn (by kernel_rfl) rfl) <| R_nil <| X_then hK36 <| C_false rfl <| C_skip <| X_then hK35 <| C_seq fun K37 hK37 => C_region <| Rp (pu_move rfl) <| Rp (pu_move rfl) ?_
 have ob42 := (ob28.on k7 (by have := o14.lt; omega))
 refine R_lo (lo_buildSlice (L := [.slice A_at (12) (32), .slice A_se ((sealB (kR K) (atR K (encR L)) (encR L) ([99, 111, 114, 101, 47, 114, 105, 110, 103])).length) (c_se)]) Tryz.underlying136 rfl (by kernel_rfl)) rfl ?_
 rintro _ w8 ⟨p13_2, rfl, N8⟩
 have k8 := N8.kp
 have kk8 := kk7.then_ k8
 have f_p13_2_8 := N8.bk
 have ob44 := (ob42.keptNo k8)
 have ob45 := (Q7.keptNo k8)
 have hcat : Ret Tryz.prog 37 #[.slice (some ⟨p13_2, 0, none⟩) 2 2] w8 (fun v w' => ∃ A c, v = .slice A (boxR K (encR L)).length c ∧ Ob w' w8.heap.size (.slice A (boxR K (encR L)).length c) (boxR K (encR L)) ∧ Kp No w8 w') := by have q := slices_concat p13_2 [(A_at, atR K (encR L), 32), (A_se, sealB (kR K) (atR K (encR L)) (encR L) ([99, 111, 114, 101, 47, 114, 105, 110, 103]), c_se)] w8 (Bk.eq f_p13_2_8 (parts2 ob44.le.1 rfl)) (all2 ⟨ob44.bs, ob44.le.2⟩ ⟨ob45.bs, ob45.le.2⟩) (by rw [cat2, List.length_append, (atR_by _ _).1, sealB_len (atR_by _ _)]; omega) (Nat.le_of_ble_eq_true rfl); rw [cat2] at q; exact q
 refine R_lo (lo_call (by kernel_rfl) rfl (hcat)) rfl ?_
 rintro _ w9 ⟨A_ca, c_ca, rfl, Q9, k9⟩
 have kk9 := kk8.then_ k9
 exact Rp (pu_assign rfl) <| Rp (pu_assign rfl) <| R_nil <| X_then hK37 <| C_ret <| X_ret2 (.inl rfl) rfl rfl rfl ⟨_, _, rfl, Q9.low ((kk8).size), kk9⟩
theorem env_openring (A : Option Addr) (K : List Nat) (c : Nat) (A2 : Option Addr) (m : List Nat) (c2 : Nat)  (w : World) (HK : Bs w A K) (hc : K.length ≤ c) (HM : Bs w A2 m) (hc2 : m.length ≤ c2) (hl : K.length = 32) (hm : 28 ≤ m.length) (hm2 : m.length ≤ 1000) (ho : opR K m) (hD : mayD (inR K m)) : Ret Tryz.prog 23 #[.slice A (K.length) (c), .slice A2 (m.length) (c2)] w (fun v w' => ∃ A c, v = .tuple #[.agg ([.slice A (decR (inR K m)).length c] : List Value).toArray, .nilIface] ∧ Ro tmC 33 58 w' w.heap.size (.slice A (decR (inR K m)).length c) (decR (inR K m)) ∧ Kp No w w') := by
 have kk0 := Kp.refl No w
 refine enter (n := 49) [.slice A (K.length) (c), .slice A2 (m.length) (c2)] Tryz.func23 rfl rfl rfl ?_
 show Cw _ _ _ _ [(0, .slice A (K.length) (c)), (1, .slice A2 (m.length) (c2))] _
 refine C_seq fun K1 hK1 => C_region <| R_lo (lo_alloc (L := [.slice none (0) (0)]) (by kernel_rfl)) rfl ?_
 rintro _ w1 ⟨p4, rfl, N1⟩
 have k1 := N1.kp
 have kk1 := kk0.then_ k1
 have f_p4_1 := N1.bk
 refine Rp (pu_assign rfl) <| R_nil <| X_then hK1 <| C_seq fun K2 hK2 => C_region <| Rp (pu_move rfl) ?_
 have wy_kb : Wy (KW (kR K)) := KW_wy (kR_by K).2
 refine R_lo (lo_call (by kernel_rfl) rfl (env_with A K c useR 0 _ (HK.keptNo kk1) hc (by_lit (n := 4) useR (by decide)).2 (by decide) (by decide) (by decide) hl)) rfl ?_
 rintro _ w2 ⟨kp, kb, kx, rfl, le2, lb2, lx2, n1_2, n2_2, n3_2, P2, B2, T2, k2⟩
 have kk2 := kk1.then_ k2
 have ne_kx_p4 := Nat.ne_of_gt (Nat.lt_of_lt_of_le f_p4_1.lt lx2)
 refine Rp (pu_move rfl) <| Rp (pu_extract rfl rfl) <| Rp (pu_extract rfl rfl) <| Rp (pu_assign rfl) <| Rp (pu_assign rfl) <| R_nil <| X_then hK2 <| C_seq fun K3 hK3 => C_seq fun K4 hK4 => C_region <| Rp (pu_move rfl) <| Rp (pu_neqnn (by kernel_rfl) rfl) <| R_nil <| X_then hK4 <| C_false rfl <| C_skip <| X_then hK3 <| C_seq fun K5 hK5 => C_seq fun K6 hK6 => C_region <| Rp (pu_move rfl) <| Rp (pu_len Tryz.underlying22 rfl) <| Rp (pu_lss (p := m.length < 28) rfl rfl (by omega)) <| R_nil <| X_then hK6 <| C_decf rfl (by omega) <| C_skip <| X_then hK5 <| C_seq (fun K7 hK7 => ?_)
 have f8 := (f_p4_1.no k2)
 refine D_begin (fun W => Kp No w W ∧ Bk W p4 ([.slice none (0) (0)]) 46 ∧ Bk W kp (gkL kb (gmH (kR K))) 164 ∧ Bk W kb (keyL kx (KW (kR K))) 181 ∧ Sx W kx) 13 rfl (by kernel_rfl) ⟨kk2.drew, f8.draw, P2.draw, B2.draw, T2.draw⟩ ?_
 intro w3 k3 _
 have kk3 := kk2.then_ k3
 refine Dt 0 rfl (fun W hS => pu_move rfl) <| Dt 1 rfl (fun W hS => pu_move rfl) ?_
 have HMt9 := Bs.take HM 12
 refine Dt 2 rfl (fun W hS => pu_sliceHi (hi := 12) (s := 1) Tryz.underlying22 (by kernel_rfl) rfl rfl rfl (by have := hc2; omega)) <| Dt 3 rfl (fun W hS => pu_move rfl) ?_
 have HMc10 := Bs.cut HM hc2 12
 refine Dt 4 rfl (fun W hS => pu_sliceLo (lo := 12) (s := 1) Tryz.underlying22 (by kernel_rfl) rfl rfl rfl (by omega) (by have := hc2; omega)) ?_
 have f11 := (f8.no k3)
 have f12 := (P2.no k3)
 have f13 := (B2.no k3)
 have o14 := (T2.no k3)
 refine D_one 5 (by kernel_rfl) (Nx_lo rfl (lo_buildSlice (L := u8s ([99, 111, 114, 101, 47, 114, 105, 110, 103])) Tryz.underlying22 rfl (by kernel_rfl)) rfl ?_)
 rintro _ w4 ⟨q, rfl, N4⟩
 have k4 := N4.kp
 have kk4 := kk3.then_ k4
 have ne_q_p4 := Nat.ne_of_gt (Nat.lt_of_lt_of_le f11.lt N4.le)
 have ne_q_kp := Nat.ne_of_gt (Nat.lt_of_lt_of_le f12.lt N4.le)
 have ne_q_kb := Nat.ne_of_gt (Nat.lt_of_lt_of_le f13.lt N4.le)
 have ne_q_kx := Nat.ne_of_gt (Nat.lt_of_lt_of_le o14.lt N4.le)
 have f_q_4 := N4.bk
 have f15 := (f11.no k4)
 have f16 := (f12.no k4)
 have f17 := (f13.no k4)
 have o18 := (o14.no k4)
 refine ⟨⟨kk4, f15, f16, f17, o18⟩, ?_⟩
 refine D_one 6 (by kernel_rfl) (Nx_lo rfl (lo_mark f_q_4 (show By 9 [99, 111, 114, 101, 47, 114, 105, 110, 103] from by_lit _ (by decide)).2 Tryz.underlying22 Tryz.underlying5 rfl (show By 9 [99, 111, 114, 101, 47, 114, 105, 110, 103] from by_lit _ (by decide)).1 (by decide)) rfl ?_)
 rintro _ w5 ⟨rfl, Q5, k5⟩
 have kk5 := kk4.trans k5 (fun i hi => .inr (hi ▸ (Nat.le_trans kk3.size N4.le)))
 have f19 := (f15.on k5 (Ne.symm ne_q_p4))
 have f20 := (f16.on k5 (Ne.symm ne_q_kp))
 have f21 := (f17.on k5 (Ne.symm ne_q_kb))
 have o22 := (o18.on k5 (Ne.symm ne_q_kx))
 refine ⟨⟨kk5, f19, f20, f21, o22⟩, ?_⟩
 refine D_one 7 (by kernel_rfl) (Nx_lo rfl (lo_callE (by kernel_rfl) rfl (by rw [(show (m.take 12).length = 12 by rw [List.length_take]; omega), List.length_drop, Q5.le.1] <;> rfl) (gcm_open kp kb kx (kR K) A2 (m.take 12) c2 (cutA A2 12 c2 1) (m.drop 12) (c2 - 12) (some ⟨q, 0, none⟩) ([99, 111, 114, 101, 47, 114, 105, 110, 103]) 9 _ (kR_by K) n1_2 n2_2 n3_2 f20 f21 o22 (take_by HM.byte (by omega) rfl) (HMt9.keptNo kk5) (by rw [(show (m.take 12).length = 12 by rw [List.length_take]; omega)]; have := hc2; omega) (HMt9.aw (Nat.le_trans kk1.size lx2)) (HMc10.keptNo kk5) (by rw [List.length_drop]; have := hc2; omega) (HMc10.aw (Nat.le_trans kk1.size lx2)) Q5.bs Q5.le.2 (Aw.ofBk ne_q_kx) ⟨by rw [List.length_drop]; omega, by decide⟩ ho)) rfl ?_)
 rintro _ w6 ⟨A_op, c_op, rfl, Q6, T6, k6⟩
 have kk6 := kk5.trans k6 (fun i hi => .inr (hi ▸ (Nat.le_trans kk1.size lx2)))
 have f25 := (f19.on k6 (Ne.symm ne_kx_p4))
 have f26 := (f20.on k6 n2_2)
 have f27 := (f21.on k6 n3_2)
 refine ⟨⟨kk6, f25, f26, f27, T6⟩, ?_⟩
 refine Dt 8 rfl (fun W hS => pu_move rfl) <| Dt 9 rfl (fun W hS => pu_extract rfl rfl) <| Dt 10 rfl (fun W hS => pu_extract rfl rfl) <| Dt 11 rfl (fun W hS => pu_assign rfl) <| Dt 12 rfl (fun W hS => pu_assign rfl) <| D_done (by kernel_rfl) <| X_then hK7 <| C_seq fun K28 hK28 => C_seq fun K29 hK29 => C_region <| Rp (pu_move rfl) <| Rp (pu_neqnn (by kernel_rfl) rfl) <| R_nil <| X_then hK29 <| C_false rfl <| C_skip <| X_then hK28 <| C_seq fun K30 hK30 => C_region <| Rp (pu_move rfl) <| R_lo (lo_call (by kernel_rfl) rfl (ring_decode A_op (cphB (kR K) (m.take 12) ((m.drop 12).take ((m.drop 12).length - 16))) c_op _ Q6.bs Q6.le.2 hD)) rfl ?_
 rintro _ w7 ⟨A_de, c_de, rfl, Q7, k7⟩
 have kk7 := kk6.then_ k7
 refine Rp (pu_move rfl) <| Rp (pu_extract rfl rfl) <| Rp (pu_extract rfl rfl) ?_
 have f35 := (f25.no k7)
 refine R_lo (lo_alloc (L := [.slice none (0) (0)]) (by kernel_rfl)) rfl ?_
 rintro _ w8 ⟨p9, rfl, N8⟩
 have k8 := N8.kp
 have kk8 := kk7.then_ k8
 have ne_p9_p4 := Nat.ne_of_gt (Nat.lt_of_lt_of_le f35.lt N8.le)
 have f_p9_8 := N8.bk
 refine R_lo0 (lo_storeRow (C := [.slice A_de ((decR (cphB (kR K) (m.take 12) ((m.drop 12).take ((m.drop 12).length - 16)))).length) (c_de)]) f_p9_8 (by kernel_rfl) rfl rfl (by intro u hu; simp at hu; rcases hu with rfl <;> rfl) rfl) ?_
 rintro _ w9 kf9
 obtain ⟨k9, f_p9_9⟩ := kf9
 replace f_p9_9 : Bk w9 p9 ([.slice A_de ((decR (cphB (kR K) (m.take 12) ((m.drop 12).take ((m.drop 12).length - 16)))).length) (c_de)]) 46 := f_p9_9
 have kk9 := kk8.trans k9 (fun i hi => .inr (hi ▸ (Nat.le_trans kk7.size N8.le)))
 refine Rp (pu_assign rfl) <| R_nil <| X_then hK30 <| C_seq fun K41 hK41 => C_seq fun K42 hK42 => C_region <| Rp (pu_move rfl) <| Rp (pu_neqnn (by kernel_rfl) rfl) <| R_nil <| X_then hK42 <| C_false rfl <| C_skip <| X_then hK41 <| C_seq fun K43 hK43 => C_region <| Rp (pu_loadRow (len := 1) f_p9_9 (by kernel_rfl) (by kernel_rfl) rfl rfl) ?_
 have f44 := ((f35.no k8).on k9 (Ne.symm ne_p9_p4))
 refine R_lo0 (lo_storeRow (C := [.slice A_de ((decR (cphB (kR K) (m.take 12) ((m.drop 12).take ((m.drop 12).length - 16)))).length) (c_de)]) f44 (by kernel_rfl) rfl rfl (by intro u hu; simp at hu; rcases hu with rfl <;> rfl) rfl) ?_
 rintro _ w10 kf10
 obtain ⟨k10, f_p4_10⟩ := kf10
 replace f_p4_10 : Bk w10 p4 ([.slice A_de ((decR (cphB (kR K) (m.take 12) ((m.drop 12).take ((m.drop 12).length - 16)))).length) (c_de)]) 46 := f_p4_10
 have kk10 := kk9.trans k10 (fun i hi => .inr (hi ▸ (Nat.le_trans kk0.size N1.le)))
 refine Rp (pu_assign rfl) <| R_nil <| X_then hK43 <| C_ret ?_
 have ob45 := (((Q7.keptNo k8).onN k9 Q7 N8.le).on k10 (by have := f25.lt; omega))
 exact X_retCT (len := 1) (.inl rfl) rfl rfl f_p4_10 (by kernel_rfl) (by kernel_rfl) rfl rfl ⟨_, _, rfl, ob45.low ((kk6).size), kk10⟩
end Go.Proofs.YtlkbkgghfhoggaaGreatDoor
