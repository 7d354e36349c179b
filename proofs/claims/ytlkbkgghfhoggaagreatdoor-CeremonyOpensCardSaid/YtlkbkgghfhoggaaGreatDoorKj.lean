/- Walks of hmac. -/
import Derived.Test.YtlkbkgghfhoggaaGreatDoorKi
set_option linter.unusedVariables false
set_option linter.unusedSimpArgs false
set_option maxHeartbeats 2000000
set_option maxRecDepth 100000
namespace Go.Proofs.YtlkbkgghfhoggaaGreatDoor
open Go.RowKit Gm
theorem hmac_padded (A : Option Addr) (K : List Nat) (c : Nat) (x : Nat) (w : World) (HK : Bs w A K) (hc : K.length ≤ c) (hk : K.length ≤ 64) (hx : x < 256) : Ret Tryz.prog 87 #[.slice A (K.length) (c), .int .u8 ((x : Nat) : Int)] w (fun v w' => ∃ A c, v = .slice A (padK K x).length c ∧ Ob w' w.heap.size (.slice A (padK K x).length c) (padK K x) ∧ Kp No w w') := by
 have kk0 := Kp.refl No w
 refine enter (n := 35) [.slice A (K.length) (c), .int .u8 ((x : Nat) : Int)] Tryz.func87 rfl rfl rfl ?_
 show Cw _ _ _ _ [(0, .slice A (K.length) (c)), (1, .int .u8 ((x : Nat) : Int))] _
 refine C_seq fun K1 hK1 => C_region <| Rp (pu_assign rfl) <| R_nil <| X_then hK1 <| C_seq fun K2 hK2 => C_seq fun K3 hK3 => C_region <| Rp (pu_move rfl) <| Rp (pu_len Tryz.underlying22 rfl) <| Rp (pu_gtr (p := K.length > 64) rfl rfl (by omega)) <| R_nil <| X_then hK3 <| C_decf rfl (by omega) <| C_skip <| X_then hK2 <| C_seq fun K4 hK4 => C_region <| Rp (pu_move rfl) <| Rp (pu_move rfl) <| Rp (pu_len Tryz.underlying22 rfl) <| Rp (pu_sub (z := ((64 - K.length : Nat) : Int)) rfl rfl (by rw [IntKind.wrap_i64]; omega)) <| R_lo (lo_make (z := .int .u8 0) (bytes := 1) (ln := 64 - K.length) (cp := 64 - K.length) Tryz.underlying22 (by kernel_rfl) rfl rfl rfl rfl rfl (by omega) (by omega) (by omega)) rfl ?_
 rintro _ w1 ⟨g, rfl, N1⟩
 have k1 := N1.kp
 have kk1 := kk0.then_ k1
 have f_g_1 : Bk w1 g (u8s (List.replicate (64 - K.length) 0)) 5 := by rw [u8s_rep]; exact N1.bk
 refine R_lo (lo_buildSlice (L := [.slice A (K.length) (c), .slice (some ⟨g, 0, none⟩) (64 - K.length) (64 - K.length)]) Tryz.underlying136 rfl (by kernel_rfl)) rfl ?_
 rintro _ w2 ⟨p4_5, rfl, N2⟩
 have k2 := N2.kp
 have kk2 := kk1.then_ k2
 have f_p4_5_2 := N2.bk
 have f5 := (f_g_1.no k2)
 have hcat : Ret Tryz.prog 37 #[.slice (some ⟨p4_5, 0, none⟩) 2 2] w2 (fun v w' => ∃ A c, v = .slice A (kpB K).length c ∧ Ob w' w2.heap.size (.slice A (kpB K).length c) (kpB K) ∧ Kp No w2 w') := by have q := slices_concat p4_5 [(A, K, c), (some ⟨g, 0, none⟩, List.replicate (64 - K.length) 0, 64 - K.length)] w2 (Bk.eq f_p4_5_2 (parts2 rfl ((rep_by (64 - K.length)).1))) (all2 ⟨(HK.keptNo kk2), hc⟩ ⟨(Bs.ofBk f5 (rep_by (64 - K.length))), (Nat.le_of_eq (rep_by (64 - K.length)).1)⟩) (by rw [cat2, List.length_append, List.length_replicate]; omega) (Nat.le_of_ble_eq_true rfl); rw [cat2] at q; exact q
 refine R_lo (lo_call (by kernel_rfl) rfl (hcat)) rfl ?_
 rintro _ w3 ⟨A_out, c_out, rfl, Q3, k3⟩
 have kk3 := kk2.then_ k3
 have z6 := k3.size
 refine Rp (pu_assign rfl) <| R_nil <| X_then hK4 <| C_seq fun K7 hK7 => C_seq (fun K8 hK8 => ?_)
 have h64 := (kpB_by hk HK.byte).1
 obtain ⟨go, hA_go, hgb_go, hgl_go⟩ := Q3.blk (by rw [h64]; decide)
 subst hA_go
 have obf9 : Ob w3 w2.heap.size (.slice (some ⟨go, 0, none⟩) ((kpB K).length) (c_out)) (kpB K) := by exact Q3
 have ne_go_g : go ≠ g := by have := f5.lt; omega
 have ne_go_p4_5 : go ≠ p4_5 := by have := f_p4_5_2.lt; omega
 refine C_region <| Rp (pu_move rfl) <| Rp (pu_len Tryz.underlying22 rfl) <| Rp (pu_move rfl) <| R_nil <| X_then hK8 <| C_block ?_
 have f10 := (f5.no k3)
 have f11 := (f_p4_5_2.no k3)
 refine C_loop (fun m_ l_ wr => ∃ i : Nat, (m_ = 64 - i) ∧ (l_ = [(1, .int .u8 ((x : Nat) : Int)), (4, .slice none (0) (0)), (6, .slice (some ⟨go, 0, none⟩) ((kpB K).length) (c_out)), (22, .int .i64 (((kpB K).length : Nat) : Int)), (23, .int .i64 ((i : Nat) : Int))]) ∧ (i ≤ 64) ∧ (Kp No w wr) ∧ (Bk wr g (u8s (List.replicate (64 - K.length) 0)) 5) ∧ (Bk wr p4_5 ([.slice A (K.length) (c), .slice (some ⟨g, 0, none⟩) (64 - K.length) (64 - K.length)]) 22) ∧ (Ob wr w2.heap.size (.slice (some ⟨go, 0, none⟩) (kpB K).length c_out) (upto (fun j => (kpB K).getD j 0 ^^^ x) (fun j => (kpB K).getD j 0) i 64) ∧ w2.heap.size ≤ (wr).heap.size)) (64 - 0) [(1, .int .u8 ((x : Nat) : Int)), (4, .slice none (0) (0)), (6, .slice (some ⟨go, 0, none⟩) ((kpB K).length) (c_out)), (22, .int .i64 (((kpB K).length : Nat) : Int)), (23, .int .i64 0)] (Sub.cons rfl (Sub.cons rfl (Sub.cons rfl (Sub.cons rfl (Sub.cons rfl (Sub.nil _)))))) ⟨0, rfl, rfl, by omega, kk3, f10, f11, ⟨by rw [← padK_upto hk]; exact obf9, z6⟩⟩ ?_
 rintro _ _ w4 ⟨i, rfl, rfl, hi, kk4, f_g_4, f_p4_5_4, out_4⟩
 refine C_seq fun K12 hK12 => C_region <| Rp (pu_lss (p := i < ((kpB K).length)) rfl rfl (by omega)) <| R_nil <| X_then hK12 <| C_seq fun K13 hK13 => C_dec rfl (fun h24 => ?_) (fun h24 => ?_)
 ·
  refine C_skip <| X_then hK13 <| C_seq fun K14 hK14 => C_block <| C_seq fun K15 hK15 => C_region <| Rp (pu_move rfl) <| Rp (pu_assign rfl) <| R_nil <| X_then hK15 <| C_region <| Rp (pu_move rfl) <| Rp (pu_move rfl) <| Rp (pu_indexAddrP (m := i) (s := 1) (o' := i) Tryz.underlying22 (by kernel_rfl) rfl rfl rfl (by (try rw [upto_lenN]); omega) (by omega)) ?_
  obtain ⟨n, e_n⟩ : ∃ q_, ((upto (fun j => (kpB K).getD j 0 ^^^ x) (fun j => (kpB K).getD j 0) i 64))[i]? = some q_ := ⟨_, List.getElem?_eq_getElem (by (try rw [upto_lenN]); omega)⟩
  have b_n : n < 256 := out_4.1.byte _ (List.mem_of_getElem? e_n)
  refine Rp (pu_load (by kernel_rfl) rfl (Ob.cellF out_4.1 e_n)) <| Rp (pu_move rfl) <| Rp (pu_xor rfl rfl (u8_xor_nat n x b_n hx)) <| Rp (pu_indexAddrP (m := i) (s := 1) (o' := i) Tryz.underlying22 (by kernel_rfl) rfl rfl rfl (by (try rw [upto_lenN]); omega) (by omega)) <| R_lo0 (lo_storeFix out_4.1 (by kernel_rfl) rfl rfl (by (try rw [upto_lenN]); omega) (Nat.xor_lt_two_pow (n := 8) b_n hx)) ?_
  rintro _ w5 kf5
  obtain ⟨q5, k5⟩ := kf5
  have kk5 := kk4.trans k5 (fun i hi => .inr (hi ▸ (Nat.le_trans (kk2).size hgb_go)))
  refine R_nil <| X_in_normal <| X_then hK14 <| C_region <| Rp (pu_add (z := ((i + 1 : Nat) : Int)) rfl rfl (by rw [IntKind.wrap_i64]; omega)) <| Rp (pu_move rfl) <| R_nil ?_
  have f16 := (f_g_4.on k5 (Ne.symm ne_go_g))
  have f17 := (f_p4_5_4.on k5 (Ne.symm ne_go_p4_5))
  refine X_round (64 - (i + 1)) [(1, .int .u8 ((x : Nat) : Int)), (4, .slice none (0) (0)), (6, .slice (some ⟨go, 0, none⟩) ((kpB K).length) (c_out)), (22, .int .i64 (((kpB K).length : Nat) : Int)), (23, .int .i64 (((i + 1) : Nat) : Int))] (by omega) (Sub.cons rfl (Sub.cons rfl (Sub.cons rfl (Sub.cons rfl (Sub.cons rfl (Sub.nil _)))))) ⟨i + 1, rfl, rfl, by omega, kk5, f16, f17, ⟨by rw [← upto_set (f := fun j => (kpB K).getD j 0 ^^^ x) (k := i) (v := n ^^^ x) (by rw [upto_hi e_n (Nat.le_refl _)])]; exact q5, (Nat.le_trans out_4.2 k5.size)⟩⟩
 ·
  refine C_exit <| X_then_exit (X_then_exit (X_in_eq ?_))
  exact X_then hK7 <| C_seq fun K18 hK18 => C_region <| Rp (pu_move rfl) <| Rp (pu_assign rfl) <| R_nil <| X_then hK18 <| C_ret <| X_ret1 (.inl rfl) rfl rfl ⟨some ⟨go, 0, none⟩, c_out, by rw [padK_len, h64], Ob.as (out_4.1.low ((kk2).size)) (padK_end (by omega)) rfl, kk4⟩
theorem hmac_new (A : Option Addr) (K : List Nat) (c : Nat)  (w : World) (HK : Bs w A K) (hc : K.length ≤ c) (hk : K.length ≤ 64) : Ret Tryz.prog 69 #[.slice A (K.length) (c)] w (fun v w' => ∃ k p A c q B d, v = .pointer (some ⟨k, 0, none⟩) ∧ w.heap.size ≤ k ∧ (∀ i, Hf p A i → w.heap.size ≤ i) ∧ (∀ i, Hf q B i → w.heap.size ≤ i) ∧ Kd w' k p A c q B d (padK K 54) (padK K 92) ∧ Kp No w w') := by
 have kk0 := Kp.refl No w
 refine enter (n := 23) [.slice A (K.length) (c)] Tryz.func69 rfl rfl rfl ?_
 show Cw _ _ _ _ [(0, .slice A (K.length) (c))] _
 refine C_seq fun K1 hK1 => C_region <| Rp (pu_assign rfl) <| R_nil <| X_then hK1 <| C_seq fun K2 hK2 => C_region <| R_lo (lo_call (by kernel_rfl) rfl (sha_new _)) rfl ?_
 rintro _ w1 ⟨bh1, rfl, L1, H1, k1⟩
 have kk1 := kk0.then_ k1
 refine R_lo (lo_call (by kernel_rfl) rfl (sha_new _)) rfl ?_
 rintro _ w2 ⟨bh2, rfl, L2, H2, k2⟩
 have kk2 := kk1.then_ k2
 have ne_bh2_bh1 := Nat.ne_of_gt (Nat.lt_of_lt_of_le H1.bk.lt (L2 _ (.inl rfl)))
 refine Rp (pu_build (L := [.pointer (some ⟨bh1, 0, none⟩), .pointer (some ⟨bh2, 0, none⟩)]) rfl (by kernel_rfl)) ?_
 have ob3 := (H1.keptNo k2)
 refine R_lo (lo_box (L := [.pointer (some ⟨bh1, 0, none⟩), .pointer (some ⟨bh2, 0, none⟩)]) rfl rfl) rfl ?_
 rintro _ w3 ⟨k, rfl, N3⟩
 have k3 := N3.kp
 have kk3 := kk2.then_ k3
 have ne_k_bh1 := Nat.ne_of_gt (Nat.lt_of_lt_of_le ob3.bk.lt N3.le)
 have ne_k_bh2 := Nat.ne_of_gt (Nat.lt_of_lt_of_le H2.bk.lt N3.le)
 have f_k_3 := N3.bk
 refine Rp (pu_assign rfl) <| R_nil <| X_then hK2 <| C_seq fun K4 hK4 => D_begin (fun W => Kp No w W ∧ Bk W k ([.pointer (some ⟨bh1, 0, none⟩), .pointer (some ⟨bh2, 0, none⟩)]) 187) 7 rfl (by kernel_rfl) ⟨kk3.drew, f_k_3.draw⟩ ?_
 intro w4 k4 _
 have kk4 := kk3.then_ k4
 refine Dt 0 rfl (fun W hS => pu_move rfl) <| Dt 1 rfl (fun W hS => pu_nilCheck rfl) <| Dt 2 rfl (fun W hS => pu_fieldAddr (off := 0) (o' := 0) (by kernel_rfl) rfl rfl) <| Dt 3 rfl (fun W hS => pu_loadK hS.2 (by kernel_rfl) rfl rfl) <| Dt 4 rfl (fun W hS => pu_move rfl) ?_
 have ob5 := ((ob3.keptNo k3).keptNo k4)
 have ob6 := ((H2.keptNo k3).keptNo k4)
 have f7 := (f_k_3.no k4)
 refine D_one 5 (by kernel_rfl) (Nx_lo rfl (lo_call (by kernel_rfl) rfl (hmac_padded A K c 54 _ (HK.keptNo kk4) hc hk (by decide))) rfl ?_)
 rintro _ w5 ⟨A_pa, c_pa, rfl, Q5, k5⟩
 have kk5 := kk4.then_ k5
 have f11 := (f7.no k5)
 refine ⟨⟨kk5, f11⟩, ?_⟩
 have ob12 := (ob5.keptNo k5)
 have ob13 := (ob6.keptNo k5)
 refine D_one 6 (by kernel_rfl) (Nx_lo rfl (lo_call (by kernel_rfl) rfl (sha_write bh1 none 0 ([]) A_pa (padK K 54) c_pa _ ob12 Q5.bs Q5.le.2 (by rw [padK_len]; decide) (Aw.hf Q5 ob5 (Nat.le_refl _)))) rfl ?_)
 rintro _ w6 ⟨rfl, A_h16, c_h16, H6, I6, k6⟩
 have kk6 := kk5.trans k6 (fun i hi => .inr ((fun i hi => Nat.le_trans kk0.size (L1 i hi)) i hi))
 have f14 := (f11.kept k6 (Hf.ne0 ne_k_bh1))
 refine ⟨⟨kk6, f14⟩, ?_⟩
 refine D_done (by kernel_rfl) <| X_then hK4 <| C_seq fun K15 hK15 => D_begin (fun W => Kp No w W ∧ Bk W k ([.pointer (some ⟨bh1, 0, none⟩), .pointer (some ⟨bh2, 0, none⟩)]) 187) 7 rfl (by kernel_rfl) ⟨kk6.drew, f14.draw⟩ ?_
 intro w7 k7 _
 have kk7 := kk6.then_ k7
 refine Dt 0 rfl (fun W hS => pu_move rfl) <| Dt 1 rfl (fun W hS => pu_nilCheck rfl) <| Dt 2 rfl (fun W hS => pu_fieldAddr (off := 1) (o' := 1) (by kernel_rfl) rfl rfl) <| Dt 3 rfl (fun W hS => pu_loadK hS.2 (by kernel_rfl) rfl rfl) <| Dt 4 rfl (fun W hS => pu_move rfl) ?_
 have ob16 := (H6.keptNo k7)
 have ob17 := ((ob13.kept k6 (Hf.no0 ne_bh2_bh1)).keptNo k7)
 have f18 := (f14.no k7)
 refine D_one 5 (by kernel_rfl) (Nx_lo rfl (lo_call (by kernel_rfl) rfl (hmac_padded A K c 92 _ (HK.keptNo kk7) hc hk (by decide))) rfl ?_)
 rintro _ w8 ⟨A_pb, c_pb, rfl, Q8, k8⟩
 have kk8 := kk7.then_ k8
 have f22 := (f18.no k8)
 refine ⟨⟨kk8, f22⟩, ?_⟩
 have ob23 := (ob17.keptNo k8)
 have ob24 := (ob16.keptNo k8)
 refine D_one 6 (by kernel_rfl) (Nx_lo rfl (lo_call (by kernel_rfl) rfl (sha_write bh2 none 0 ([]) A_pb (padK K 92) c_pb _ ob23 Q8.bs Q8.le.2 (by rw [padK_len]; decide) (Aw.hf Q8 ob17 (Nat.le_refl _)))) rfl ?_)
 rintro _ w9 ⟨rfl, A_h29, c_h29, H9, I9, k9⟩
 have kk9 := kk8.trans k9 (fun i hi => .inr ((fun i hi => Nat.le_trans kk1.size (L2 i hi)) i hi))
 have f25 := (f22.kept k9 (Hf.ne0 ne_k_bh2))
 refine ⟨⟨kk9, f25⟩, ?_⟩
 refine D_done (by kernel_rfl) <| X_then hK15 <| C_seq fun K26 hK26 => C_region <| Rp (pu_move rfl) <| Rp (pu_assign rfl) <| R_nil <| X_then hK26 <| C_ret ?_
 have ob27 := (ob24.kept k9 (Hf.sep I6 (Hf.no0 (Ne.symm ne_bh2_bh1)) ob13.top))
 exact X_ret1 (.inl rfl) rfl rfl ⟨k, bh1, A_h16, c_h16, bh2, A_h29, c_h29, rfl, (Nat.le_trans kk2.size N3.le), (fun i hi => (I6 i hi).elim ((fun i hi => Nat.le_trans kk0.size (L1 i hi)) i) (fun h => Nat.le_trans kk5.size h)), (fun i hi => (I9 i hi).elim ((fun i hi => Nat.le_trans kk1.size (L2 i hi)) i) (fun h => Nat.le_trans kk8.size h)), ⟨f25, ob27, H9, Hf.out I6 (Hf.ne0 ne_k_bh1) f11.lt, Hf.out I9 (Hf.ne0 ne_k_bh2) f22.lt, fun i a b => Hf.sep I9 (fun j y x => (Hf.sep I6 (Hf.no0 (Ne.symm ne_bh2_bh1)) ob13.top) j x y) ob24.top i b a⟩, kk9⟩
theorem hmac_write (k p : Nat) (Ap : Option Addr) (cp q : Nat) (Bq : Option Addr) (dq : Nat) (M N : List Nat) (A : Option Addr) (l : List Nat) (c : Nat) (w : World) (hK : Kd w k p Ap cp q Bq dq M N) (HL : Bs w A l) (hc : l.length ≤ c) (hlen : M.length + l.length < 1152921504606846976) (aw_HL : Aw (Hf p Ap) A l) : Ret Tryz.prog 70 #[.pointer (some ⟨k, 0, none⟩), .slice A (l.length) (c)] w (fun v w' => v = .tuple #[] ∧ ∃ A' c', Kd w' k p A' c' q Bq dq (M ++ l) N ∧ (∀ i, Hf p A' i → Hf p Ap i ∨ w.heap.size ≤ i) ∧ Kp (Hf p Ap) w w') := by
 obtain ⟨hk, h1, h2, n1, n2, hap⟩ := hK
 have kk0 := Kp.refl (Hf p Ap) w
 refine enter (n := 12) [.pointer (some ⟨k, 0, none⟩), .slice A (l.length) (c)] Tryz.func70 rfl rfl rfl ?_
 show Cw _ _ _ _ [(0, .pointer (some ⟨k, 0, none⟩)), (1, .slice A (l.length) (c))] _
 refine C_seq fun K1 hK1 => C_region <| Rp (pu_move rfl) <| Rp (pu_neqpn (by kernel_rfl) rfl rfl) <| R_nil <| X_then hK1 <| C_true rfl <| C_region <| Rp (pu_move rfl) <| Rp (pu_nilCheck rfl) <| Rp (pu_fieldAddr (off := 0) (o' := 0) (by kernel_rfl) rfl rfl) <| Rp (pu_loadK hk (by kernel_rfl) rfl rfl) <| Rp (pu_move rfl) <| R_lo (lo_call (by kernel_rfl) rfl (sha_write p Ap cp M A l c _ h1 HL hc hlen aw_HL)) rfl ?_
 rintro _ w1 ⟨rfl, A_h11, c_h11, H1, I1, k1⟩
 have kk1 := kk0.trans k1 (fun i hi => .inl hi)
 refine R_nil ?_
 have f2 := (hk.kept k1 n1)
 have ob3 := (h2.kept k1 (fun i a b => hap i b a))
 exact X_ret0 (.inr rfl) rfl ⟨rfl, A_h11, c_h11, ⟨f2, H1, ob3, Hf.out I1 n1 hk.lt, n2, Hf.sep I1 hap h2.top⟩, I1, kk1⟩
theorem hmac_sum (k p : Nat) (Ap : Option Addr) (cp q : Nat) (Bq : Option Addr) (dq : Nat) (M N : List Nat)  (w : World) (hK : Kd w k p Ap cp q Bq dq M N) (hl1 : M.length < 576460752303423488) (hl2 : N.length < 576460752303423488) : Ret Tryz.prog 71 #[.pointer (some ⟨k, 0, none⟩)] w (fun v w' => v = .agg (u8s (shaB (N ++ shaB M))).toArray ∧ Kp No w w') := by
 obtain ⟨hk, h1, h2, n1, n2, hap⟩ := hK
 have kk0 := Kp.refl No w
 refine enter (n := 23) [.pointer (some ⟨k, 0, none⟩)] Tryz.func71 rfl rfl rfl ?_
 show Cw _ _ _ _ [(0, .pointer (some ⟨k, 0, none⟩))] _
 refine C_seq fun K1 hK1 => C_region <| R_lo (lo_alloc (L := u8s (List.replicate 32 0)) (by kernel_rfl)) rfl ?_
 rintro _ w1 ⟨pr, rfl, N1⟩
 have k1 := N1.kp
 have kk1 := kk0.then_ k1
 have f_pr_1 := N1.bk
 refine R_nil <| X_then hK1 <| C_seq fun K2 hK2 => C_seq fun K3 hK3 => C_region <| Rp (pu_move rfl) <| Rp (pu_eqlpn (by kernel_rfl) rfl rfl) <| R_nil <| X_then hK3 <| C_false rfl <| C_skip <| X_then hK2 <| C_seq fun K4 hK4 => C_region <| Rp (pu_move rfl) <| Rp (pu_nilCheck rfl) <| Rp (pu_fieldAddr (off := 0) (o' := 0) (by kernel_rfl) rfl rfl) ?_
 have f5 := (hk.no k1)
 refine Rp (pu_loadK f5 (by kernel_rfl) rfl rfl) ?_
 have ob6 := (h1.keptNo k1)
 refine R_lo (lo_call (by kernel_rfl) rfl (sha_sum p Ap cp M _ ob6 (by omega))) rfl ?_
 rintro _ w2 ⟨rfl, k2⟩
 have kk2 := kk1.then_ k2
 have f7 := (f5.no k2)
 have f8 := (f_pr_1.no k2)
 have ob10 := ((h2.keptNo k1).keptNo k2)
 refine R_lo (lo_alloc (L := u8s (List.replicate 32 0)) (by kernel_rfl)) rfl ?_
 rintro _ w3 ⟨ps, rfl, N3⟩
 have k3 := N3.kp
 have kk3 := kk2.then_ k3
 have ne_ps_k := Nat.ne_of_gt (Nat.lt_of_lt_of_le f7.lt N3.le)
 have ne_ps_pr := Nat.ne_of_gt (Nat.lt_of_lt_of_le f8.lt N3.le)
 have f_ps_3 := N3.bk
 refine R_lo0 (lo_storeRow (C := u8s (shaB M)) f_ps_3 (by rw [u8s_length, (shaB_by _).1]; kernel_rfl) rfl rfl (u8s_each _) ((u8s_length _).trans ((shaB_by _).1.trans ((rep_by 32).1.symm.trans (u8s_length _).symm)))) ?_
 rintro _ w4 kf4
 obtain ⟨k4, f_ps_4⟩ := kf4
 replace f_ps_4 : Bk w4 ps (u8s (shaB M)) 56 := f_ps_4
 have kk4 := kk3.trans k4 (fun i hi => .inr (hi ▸ (Nat.le_trans kk2.size N3.le)))
 refine R_nil <| X_then hK4 <| C_seq (fun K11 hK11 => ?_)
 have f12 := ((f8.no k3).on k4 (Ne.symm ne_ps_pr))
 refine C_region <| Rp (pu_move rfl) <| Rp (pu_nilCheck rfl) <| Rp (pu_fieldAddr (off := 1) (o' := 1) (by kernel_rfl) rfl rfl) ?_
 have f13 := ((f7.no k3).on k4 (Ne.symm ne_ps_k))
 refine Rp (pu_loadK f13 (by kernel_rfl) rfl rfl) ?_
 have ob14 := ((ob10.keptNo k3).onN k4 ob10 N3.le)
 refine R_lo (lo_call (by kernel_rfl) rfl (sha_clone q Bq dq N _ ob14)) rfl ?_
 rintro _ w5 ⟨bc_, A_c_, c_c_, rfl, L5, H5, k5⟩
 have kk5 := kk4.then_ k5
 refine Rp (pu_assign rfl) <| R_nil <| X_then hK11 <| C_seq fun K16 hK16 => C_region <| Rp (pu_move rfl) <| Rp (pu_sliceArr Tryz.underlying56 (by kernel_rfl) rfl) ?_
 have f17 := (f_ps_4.no k5)
 refine R_lo (lo_callE (by kernel_rfl) rfl (by rw [(shaB_by _).1] <;> rfl) (sha_write bc_ A_c_ c_c_ N (some ⟨ps, 0, none⟩) (shaB M) 32 _ H5 (Bs.ofBk f17 (shaB_by _)) (Nat.le_of_eq (shaB_by _).1) (by rw [(shaB_by _).1]; omega) (Hs.awO L5 f_ps_4.lt))) rfl ?_
 rintro _ w6 ⟨rfl, A_c_6, c_c_6, H6, I6, k6⟩
 have kk6 := kk5.trans k6 (fun i hi => .inr ((fun i hi => Nat.le_trans kk4.size (L5 i hi)) i hi))
 refine R_nil <| X_then hK16 <| C_seq fun K18 hK18 => C_region <| Rp (pu_move rfl) <| R_lo (lo_call (by kernel_rfl) rfl (sha_sum bc_ A_c_6 c_c_6 (N ++ (shaB M)) _ H6 (by rw [List.length_append, (shaB_by _).1]; omega))) rfl ?_
 rintro _ w7 ⟨rfl, k7⟩
 have kk7 := kk6.then_ k7
 have f19 := (((f12.no k5).kept k6 (fun e => absurd f12.lt (Nat.not_lt.2 (L5 _ e)))).no k7)
 refine R_lo0 (lo_storeRow (C := u8s (shaB (N ++ (shaB M)))) f19 (by rw [u8s_length, (shaB_by _).1]; kernel_rfl) rfl rfl (u8s_each _) ((u8s_length _).trans ((shaB_by _).1.trans ((rep_by 32).1.symm.trans (u8s_length _).symm)))) ?_
 rintro _ w8 kf8
 obtain ⟨k8, f_pr_8⟩ := kf8
 replace f_pr_8 : Bk w8 pr (u8s (shaB (N ++ (shaB M)))) 56 := f_pr_8
 have kk8 := kk7.trans k8 (fun i hi => .inr (hi ▸ (Nat.le_trans kk0.size N1.le)))
 exact R_nil <| X_then hK18 <| C_ret <| X_retRow (len := 32) (.inl rfl) rfl rfl f_pr_8 (by kernel_rfl) (by kernel_rfl) (by rw [u8s_length]; exact (shaB_by _).1) ⟨rfl, kk8⟩
theorem hmac_mac (A : Option Addr) (K : List Nat) (c : Nat) (A2 : Option Addr) (l : List Nat) (c2 : Nat) (w : World) (HK : Bs w A K) (hc : K.length ≤ c) (HL : Bs w A2 l) (hc2 : l.length ≤ c2) (hk : K.length ≤ 64) (hl : l.length < 288230376151711744) : Ret Tryz.prog 54 #[.slice A (K.length) (c), .slice A2 (l.length) (c2)] w (fun v w' => v = .agg (u8s (macB K l)).toArray ∧ Kp No w w') := by
 have kk0 := Kp.refl No w
 refine enter (n := 13) [.slice A (K.length) (c), .slice A2 (l.length) (c2)] Tryz.func54 rfl rfl rfl ?_
 show Cw _ _ _ _ [(0, .slice A (K.length) (c)), (1, .slice A2 (l.length) (c2))] _
 refine C_seq fun K1 hK1 => C_region <| R_lo (lo_alloc (L := u8s (List.replicate 32 0)) (by kernel_rfl)) rfl ?_
 rintro _ w1 ⟨pr, rfl, N1⟩
 have k1 := N1.kp
 have kk1 := kk0.then_ k1
 have f_pr_1 := N1.bk
 refine R_nil <| X_then hK1 <| C_seq fun K2 hK2 => C_region <| Rp (pu_move rfl) <| R_lo (lo_call (by kernel_rfl) rfl (hmac_new A K c _ (HK.keptNo kk1) hc hk)) rfl ?_
 rintro _ w2 ⟨bkd1, p_kd1, A_kd1, c_kd1, q_kd1, B_kd1, d_kd1, rfl, L0_2, L1_2, L2_2, H2, k2⟩
 have kk2 := kk1.then_ k2
 refine Rp (pu_assign rfl) <| R_nil <| X_then hK2 <| C_seq fun K3 hK3 => C_region <| Rp (pu_move rfl) <| Rp (pu_move rfl) <| R_lo (lo_call (by kernel_rfl) rfl (hmac_write bkd1 p_kd1 A_kd1 c_kd1 q_kd1 B_kd1 d_kd1 (padK K 54) (padK K 92) A2 l c2 _ H2 (HL.keptNo kk2) hc2 (by rw [padK_len]; omega) (HL.awL (fun i hi => Nat.le_trans kk1.size (L1_2 i hi))))) rfl ?_
 rintro _ w3 ⟨rfl, A_kd13, c_kd13, H3, I3, k3⟩
 have kk3 := kk2.trans k3 (fun i hi => .inr (Nat.le_trans kk1.size (L1_2 i hi)))
 refine R_nil <| X_then hK3 <| C_seq fun K4 hK4 => C_region <| Rp (pu_move rfl) <| R_lo (lo_call (by kernel_rfl) rfl (hmac_sum bkd1 p_kd1 A_kd13 c_kd13 q_kd1 B_kd1 d_kd1 ((padK K 54) ++ l) (padK K 92) _ H3 (by rw [List.length_append, padK_len]; omega) (by rw [padK_len]; decide))) rfl ?_
 rintro _ w4 ⟨rfl, k4⟩
 have kk4 := kk3.then_ k4
 have f5 := (((f_pr_1.no k2).kept k3 (fun e => absurd f_pr_1.lt (Nat.not_lt.2 (L1_2 _ e)))).no k4)
 refine R_lo0 (lo_storeRow (C := u8s (shaB ((padK K 92) ++ shaB ((padK K 54) ++ l)))) f5 (by rw [u8s_length, (shaB_by _).1]; kernel_rfl) rfl rfl (u8s_each _) ((u8s_length _).trans ((shaB_by _).1.trans ((rep_by 32).1.symm.trans (u8s_length _).symm)))) ?_
 rintro _ w5 kf5
 obtain ⟨k5, f_pr_5⟩ := kf5
 replace f_pr_5 : Bk w5 pr (u8s (shaB ((padK K 92) ++ shaB ((padK K 54) ++ l)))) 56 := f_pr_5
 have kk5 := kk4.trans k5 (fun i hi => .inr (hi ▸ (Nat.le_trans kk0.size N1.le)))
 exact R_nil <| X_then hK4 <| C_ret <| X_retRow (len := 32) (.inl rfl) rfl rfl f_pr_5 (by kernel_rfl) (by kernel_rfl) (by rw [u8s_length]; exact (shaB_by _).1) ⟨rfl, kk5⟩
end Go.Proofs.YtlkbkgghfhoggaaGreatDoor
