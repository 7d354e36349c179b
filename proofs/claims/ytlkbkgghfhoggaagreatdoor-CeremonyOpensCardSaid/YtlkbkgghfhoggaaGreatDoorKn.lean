/- Walks of hkdf and of nonce.Bytes. -/
import Derived.Test.YtlkbkgghfhoggaaGreatDoorKm
set_option linter.unusedVariables false
set_option linter.unusedSimpArgs false
set_option maxHeartbeats 2000000
set_option maxRecDepth 100000
namespace Go.Proofs.YtlkbkgghfhoggaaGreatDoor
open Go.RowKit Gm
theorem hkdf_expand (A : Option Addr) (K : List Nat) (c : Nat) (A2 : Option Addr) (l : List Nat) (c2 : Nat) (w : World) (HK : Bs w A K) (hc : K.length ≤ c) (HL : Bs w A2 l) (hc2 : l.length ≤ c2) (hk : K.length ≤ 64) (hl : l.length ≤ 1000000) : Ret Tryz.prog 66 #[.slice A (K.length) (c), .slice A2 (l.length) (c2), .int .i64 32] w (fun v w' => ∃ A, v = .tuple #[.slice A 32 32, .nilIface] ∧ Od w' w.heap.size (.slice A 32 32) (macB K (l ++ [1])) ∧ Kp No w w') := by
 have kk0 := Kp.refl No w
 refine enter (n := 42) [.slice A (K.length) (c), .slice A2 (l.length) (c2), .int .i64 32] Tryz.func66 rfl rfl rfl ?_
 show Cw _ _ _ _ [(0, .slice A (K.length) (c)), (1, .slice A2 (l.length) (c2)), (2, .int .i64 32)] _
 refine C_seq fun K1 hK1 => C_region <| Rp (pu_assign rfl) <| Rp (pu_assign rfl) <| R_nil <| X_then hK1 <| C_seq fun K2 hK2 => C_seq fun K3 hK3 => C_region <| Rp (pu_move rfl) <| Rp (pu_false (pu_lss (p := (32 : Nat) < 0) rfl rfl (by omega)) (by decide)) <| Rp (pu_move rfl) <| Rg (pu_move rfl) <| Rg (pu_false (pu_gtr (p := (32 : Nat) > 8160) rfl rfl (by omega)) (by decide)) <| Rp (pu_pickf rfl rfl) <| R_nil <| X_then hK3 <| C_false rfl <| C_skip <| X_then hK2 <| C_seq fun K4 hK4 => C_region <| Rp (pu_assign rfl) <| Rp (pu_assign rfl) <| R_nil <| X_then hK4 <| C_seq fun K5 hK5 => C_seq fun K6 hK6 => C_region <| Rp (pu_assign rfl) <| R_nil <| X_then hK6 <| C_block ?_
 have ob7 := Ob.nil w w.heap.size
 have z8 := Nat.le_refl w.heap.size
 refine C_loop (fun m_ l_ wr => ∃ r : Nat, ∃ Ao : Option Addr, ∃ co : Nat, ∃ Al : Option Addr, ∃ kl : Nat, ∃ cl : Nat, (m_ = 1 - r) ∧ (l_ = [(0, .slice A (K.length) (c)), (1, .slice A2 (l.length) (c2)), (2, .int .i64 32), (6, .slice none (0) (0)), (7, .nilIface), (8, .slice Ao ((hO r (macB K (l ++ [1]))).length) (co)), (9, .slice Al (kl) (cl)), (10, .int .i64 ((r + 1 : Nat) : Int))]) ∧ (r ≤ 1) ∧ (r = 0 → Al = none ∧ kl = 0 ∧ cl = 0) ∧ (Kp No w wr) ∧ (Ob wr w.heap.size (.slice Ao (hO r (macB K (l ++ [1]))).length co) (hO r (macB K (l ++ [1]))) ∧ w.heap.size ≤ (wr).heap.size)) (1 - 0) [(0, .slice A (K.length) (c)), (1, .slice A2 (l.length) (c2)), (2, .int .i64 32), (6, .slice none (0) (0)), (7, .nilIface), (8, .slice none ((hO 0 (macB K (l ++ [1]))).length) (0)), (9, .slice none (0) (0)), (10, .int .i64 ((0 + 1 : Nat) : Int))] (Sub.cons rfl (Sub.cons rfl (Sub.cons rfl (Sub.cons rfl (Sub.cons rfl (Sub.cons rfl (Sub.cons rfl (Sub.cons rfl (Sub.nil _))))))))) ⟨0, none, 0, none, 0, 0, rfl, rfl, (by decide), (fun _ => ⟨rfl, rfl, rfl⟩), kk0, ⟨ob7, z8⟩⟩ ?_
 rintro _ _ w1 ⟨r, Ao, co, Al, kl, cl, rfl, rfl, hr, hal, kk1, o_1⟩
 refine C_seq fun K9 hK9 => C_seq fun K10 hK10 => C_region <| Rp (pu_move rfl) <| Rp (pu_len Tryz.underlying22 rfl) <| Rp (pu_move rfl) <| Rp (pu_lss (p := ((hO r (macB K (l ++ [1]))).length) < 32) rfl rfl (by omega)) <| R_nil <| X_then hK10 <| C_dec rfl (fun h22 => ?_) (fun h22 => ?_)
 ·
  refine C_skip <| X_then hK9 <| C_seq fun K11 hK11 => C_block <| C_seq (fun K12 hK12 => ?_)
  rw [hO_len (macB_by _ _).1 hr] at h22
  obtain rfl : r = 0 := by omega
  obtain ⟨rfl, rfl, rfl⟩ := hal rfl
  refine C_region <| Rp (pu_move rfl) <| Rp (pu_move rfl) <| Rp (pu_move rfl) <| Rp (pu_move rfl) <| Rp (pu_conv (z := (((0 + 1) % 256 : Nat) : Int)) Tryz.underlying3 Tryz.underlying5 rfl (by rw [IntKind.wrap_u8]; omega)) <| R_lo (lo_buildSlice (L := u8s ([(0 + 1) % 256])) Tryz.underlying22 rfl (by kernel_rfl)) rfl ?_
  rintro _ w2 ⟨p7_5, rfl, N2⟩
  have k2 := N2.kp
  have kk2 := kk1.then_ k2
  have f_p7_5_2 := N2.bk
  have ob13 := (o_1.1.keptNo k2)
  refine R_lo (lo_buildSlice (L := [.slice none (0) (0), .slice A2 (l.length) (c2), .slice (some ⟨p7_5, 0, none⟩) (1) (1)]) Tryz.underlying136 rfl (by kernel_rfl)) rfl ?_
  rintro _ w3 ⟨p7_6, rfl, N3⟩
  have k3 := N3.kp
  have kk3 := kk2.then_ k3
  have f_p7_6_3 := N3.bk
  have f14 := (f_p7_5_2.no k3)
  have hcat : Ret Tryz.prog 37 #[.slice (some ⟨p7_6, 0, none⟩) 3 3] w3 (fun v w' => ∃ A c, v = .slice A ((l ++ [1])).length c ∧ Ob w' w3.heap.size (.slice A ((l ++ [1])).length c) ((l ++ [1])) ∧ Kp No w3 w') := by have q := slices_concat p7_6 [(none, [], 0), (A2, l, c2), (some ⟨p7_5, 0, none⟩, [(0 + 1) % 256], 1)] w3 (Bk.eq f_p7_6_3 (parts3 rfl rfl ((show By 1 [(0 + 1) % 256] from ⟨rfl, fun n hn => by rw [List.mem_singleton.1 hn]; exact (Nat.mod_lt _ (by decide))⟩).1))) (all3 ⟨(Bs.nil _ none), (Nat.le_refl _)⟩ ⟨(HL.keptNo kk3), hc2⟩ ⟨(Bs.ofBk f14 (show By 1 [(0 + 1) % 256] from ⟨rfl, fun n hn => by rw [List.mem_singleton.1 hn]; exact (Nat.mod_lt _ (by decide))⟩)), (Nat.le_of_eq (show By 1 [(0 + 1) % 256] from ⟨rfl, fun n hn => by rw [List.mem_singleton.1 hn]; exact (Nat.mod_lt _ (by decide))⟩).1)⟩) (by rw [cat3]; simp; omega) (Nat.le_of_ble_eq_true rfl); rw [cat3] at q; exact q
  have ob16 := (ob13.keptNo k3)
  refine R_lo (lo_call (by kernel_rfl) rfl (hcat)) rfl ?_
  rintro _ w4 ⟨A_ct, c_ct, rfl, Q4, k4⟩
  have kk4 := kk3.then_ k4
  refine R_lo (lo_call (by kernel_rfl) rfl (hmac_mac A K c A_ct (l ++ [1]) c_ct _ (HK.keptNo kk4) hc Q4.bs Q4.le.2 hk (by simp; omega))) rfl ?_
  rintro _ w5 ⟨rfl, k5⟩
  have kk5 := kk4.then_ k5
  have ob20 := ((ob16.keptNo k4).keptNo k5)
  refine R_lo (lo_alloc (L := u8s (List.replicate 32 0)) (by kernel_rfl)) rfl ?_
  rintro _ w6 ⟨ps, rfl, N6⟩
  have k6 := N6.kp
  have kk6 := kk5.then_ k6
  have f_ps_6 := N6.bk
  refine R_lo0 (lo_storeRow (C := u8s (macB K (l ++ [1]))) f_ps_6 (by rw [u8s_length, (macB_by _ _).1]; kernel_rfl) rfl rfl (u8s_each _) ((u8s_length _).trans ((macB_by _ _).1.trans ((rep_by 32).1.symm.trans (u8s_length _).symm)))) ?_
  rintro _ w7 kf7
  obtain ⟨k7, f_ps_7⟩ := kf7
  replace f_ps_7 : Bk w7 ps (u8s (macB K (l ++ [1]))) 56 := f_ps_7
  have kk7 := kk6.trans k7 (fun i hi => .inr (hi ▸ (Nat.le_trans kk5.size N6.le)))
  refine R_nil <| X_then hK12 <| C_seq fun K22 hK22 => C_region <| Rp (pu_sliceArr Tryz.underlying56 (by kernel_rfl) rfl) <| Rp (pu_assign rfl) <| R_nil <| X_then hK22 <| C_region <| Rp (pu_move rfl) <| Rp (pu_move rfl) ?_
  have ob23 := ((ob20.keptNo k6).onN k7 ob20 N6.le)
  refine R_lo (lo_app (X := hO 0 (macB K (l ++ [1]))) (Y := macB K (l ++ [1])) ob23 ob23.le.1 rfl rfl (macB_by _ _).1 (Bs.ofBk f_ps_7 (macB_by _ _)) (by rw [hO_len (macB_by _ _).1 (by decide), (macB_by _ _).1]; decide) (Nat.le_trans (Nat.le_trans (Nat.le_trans (Nat.le_trans (Nat.le_trans (Nat.le_trans o_1.2 k2.size) k3.size) k4.size) k5.size) k6.size) k7.size)) rfl ?_
  rintro _ w8 ⟨A_8, c_8, rfl, p8⟩
  have k8 := p8.kp
  have kk8 := kk7.trans k8 (fun i hi => .inr (Nat.le_trans (kk0).size hi))
  refine Rp (pu_assign rfl) <| R_nil <| X_in_normal <| X_then hK11 <| C_region <| Rp (pu_move rfl) <| Rp (pu_add (z := (((0 + 1) + 1 : Nat) : Int)) rfl rfl (by rw [IntKind.wrap_i64]; omega)) <| Rp (pu_assign rfl) <| R_nil <| X_round (1 - 1) [(0, .slice A (K.length) (c)), (1, .slice A2 (l.length) (c2)), (2, .int .i64 32), (6, .slice none (0) (0)), (7, .nilIface), (8, .slice A_8 ((hO 1 (macB K (l ++ [1]))).length) (c_8)), (9, .slice (some ⟨ps, 0, none⟩) (32) (32)), (10, .int .i64 ((1 + 1 : Nat) : Int))] (by decide) (Sub.cons rfl (Sub.cons rfl (Sub.cons rfl (Sub.cons rfl (Sub.cons rfl (Sub.consE rfl (by rw [hO_one]) (Sub.cons rfl (Sub.cons rfl (Sub.nil _))))))))) ⟨1, A_8, c_8, some ⟨ps, 0, none⟩, 32, 32, rfl, rfl, (Nat.le_refl _), (fun h => absurd h (by decide)), kk8, ⟨by rw [← hO_one]; exact p8.ob, (Nat.le_trans (Nat.le_trans (Nat.le_trans (Nat.le_trans (Nat.le_trans (Nat.le_trans (Nat.le_trans o_1.2 k2.size) k3.size) k4.size) k5.size) k6.size) k7.size) k8.size)⟩⟩
 ·
  refine C_exit <| X_then_exit (X_then_exit (X_in_eq ?_))
  refine X_then hK5 <| C_seq (fun K24 hK24 => ?_)
  rw [hO_len (macB_by _ _).1 hr] at h22
  obtain rfl : r = 1 := by omega
  have hT1 := hO_len (T := (macB K (l ++ [1]))) (macB_by _ _).1 hr
  exact C_region <| Rp (pu_move rfl) <| Rp (pu_move rfl) <| Rp (pu_move rfl) <| Rp (pu_sliceHM (hi := 32) (mx := 32) (s := 1) Tryz.underlying22 (by kernel_rfl) rfl rfl rfl rfl rfl (by omega) (by have := o_1.1.le; omega)) <| Rp (pu_assign rfl) <| Rp (pu_assign rfl) <| R_nil <| X_then hK24 <| C_ret <| X_ret2 (.inl rfl) rfl rfl rfl ⟨Ao, rfl, by have q := o_1.1; rw [hO_end] at q; have q2 := (Od.ofOb q (Nat.le_of_eq (macB_by _ _).1)).low ((kk0).size); rwa [(macB_by _ _).1] at q2, kk1⟩
theorem hkdf_key (A : Option Addr) (K : List Nat) (c : Nat) (U : List Nat) (n : Nat) (w : World) (HK : Bs w A K) (hc : K.length ≤ c) (hU : ∀ n ∈ U, n < 256) (hu1 : 1 ≤ U.length) (hu2 : U.length ≤ 32) (hn : n < 4294967296) (hl : K.length = 32) : Ret Tryz.prog 52 #[.slice A (K.length) (c), .string (bstr U), .int .u32 ((n : Nat) : Int)] w (fun v w' => ∃ A, v = .tuple #[.slice A 32 32, .nilIface] ∧ Od w' w.heap.size (.slice A 32 32) (hkB K U n) ∧ Kp No w w') := by
 have kk0 := Kp.refl No w
 refine enter (n := 41) [.slice A (K.length) (c), .string (bstr U), .int .u32 ((n : Nat) : Int)] Tryz.func52 rfl rfl rfl ?_
 show Cw _ _ _ _ [(0, .slice A (K.length) (c)), (1, .string (bstr U)), (2, .int .u32 ((n : Nat) : Int))] _
 refine C_seq fun K1 hK1 => C_region <| Rp (pu_assign rfl) <| Rp (pu_assign rfl) <| R_nil <| X_then hK1 <| C_seq fun K2 hK2 => C_seq fun K3 hK3 => C_region <| Rp (pu_move rfl) <| Rp (pu_len Tryz.underlying22 rfl) <| Rp (pu_false (pu_neq (p := K.length = 32) rfl rfl (by omega)) (fun h => h hl)) <| Rp (pu_move rfl) <| Rg (pu_move rfl) <| Rg (pu_false (pu_eqls (p := bstr U = { data := #[] }) rfl rfl Iff.rfl) (bstr_ne0 hu1)) <| Rp (pu_pickf rfl rfl) <| Rp (pu_move rfl) <| Rg (pu_move rfl) <| Rg (pu_lens Tryz.underlying9 rfl) <| Rg (pu_false (pu_gtr (p := ((bstr U).size) > 32) rfl rfl (by omega)) (by rw [bstr_size]; omega)) <| Rp (pu_pickf rfl rfl) <| R_nil <| X_then hK3 <| C_false rfl <| C_skip <| X_then hK2 <| C_seq fun K4 hK4 => C_region <| Rp (pu_move rfl) <| Rp (pu_move rfl) <| R_lo (lo_strbytes hU Tryz.underlying9 Tryz.underlying22 Tryz.underlying5 rfl) rfl ?_
 rintro _ w1 ⟨A_us, c_us, rfl, Q1, k1⟩
 have kk1 := kk0.then_ k1
 refine Rp (pu_move rfl) <| Rp (pu_shrc (m := 24) (c := 16777216) rfl rfl (by decide) (fdiv_nat n 16777216)) <| Rp (pu_conv (z := (((n / 16777216) % 256 : Nat) : Int)) Tryz.underlying32 Tryz.underlying5 rfl (by have : n / 16777216 < 4294967296 := (show n / 16777216 < 2 ^ 32 from Nat.lt_of_le_of_lt (Nat.div_le_self _ _) hn); rw [IntKind.wrap_u8]; omega)) ?_
 refine Rp (pu_move rfl) <| Rp (pu_shrc (m := 16) (c := 65536) rfl rfl (by decide) (fdiv_nat n 65536)) <| Rp (pu_conv (z := (((n / 65536) % 256 : Nat) : Int)) Tryz.underlying32 Tryz.underlying5 rfl (by have : n / 65536 < 4294967296 := (show n / 65536 < 2 ^ 32 from Nat.lt_of_le_of_lt (Nat.div_le_self _ _) hn); rw [IntKind.wrap_u8]; omega)) ?_
 refine Rp (pu_move rfl) <| Rp (pu_shrc (m := 8) (c := 256) rfl rfl (by decide) (fdiv_nat n 256)) <| Rp (pu_conv (z := (((n / 256) % 256 : Nat) : Int)) Tryz.underlying32 Tryz.underlying5 rfl (by have : n / 256 < 4294967296 := (show n / 256 < 2 ^ 32 from Nat.lt_of_le_of_lt (Nat.div_le_self _ _) hn); rw [IntKind.wrap_u8]; omega)) ?_
 refine Rp (pu_move rfl) <| Rp (pu_conv (z := ((n % 256 : Nat) : Int)) Tryz.underlying32 Tryz.underlying5 rfl (by have : n < 4294967296 := hn; rw [IntKind.wrap_u8]; omega)) <| R_lo (lo_buildSlice (L := u8s ([0, (n / 16777216) % 256, (n / 65536) % 256, (n / 256) % 256, n % 256])) Tryz.underlying22 rfl (by kernel_rfl)) rfl ?_
 rintro _ w2 ⟨pn, rfl, N2⟩
 have k2 := N2.kp
 have kk2 := kk1.then_ k2
 have f_pn_2 := N2.bk
 have ob6 := (Q1.keptNo k2)
 refine R_lo (lo_buildSlice (L := [.slice A_us (U.length) (c_us), .slice (some ⟨pn, 0, none⟩) (5) (5)]) Tryz.underlying136 rfl (by kernel_rfl)) rfl ?_
 rintro _ w3 ⟨p3_15, rfl, N3⟩
 have k3 := N3.kp
 have kk3 := kk2.then_ k3
 have f_p3_15_3 := N3.bk
 have ob7 := (ob6.keptNo k3)
 have f8 := (f_pn_2.no k3)
 have hcat : Ret Tryz.prog 37 #[.slice (some ⟨p3_15, 0, none⟩) 2 2] w3 (fun v w' => ∃ A c, v = .slice A ((U ++ [0, n / 16777216 % 256, n / 65536 % 256, n / 256 % 256, n % 256])).length c ∧ Ob w' w3.heap.size (.slice A ((U ++ [0, n / 16777216 % 256, n / 65536 % 256, n / 256 % 256, n % 256])).length c) ((U ++ [0, n / 16777216 % 256, n / 65536 % 256, n / 256 % 256, n % 256])) ∧ Kp No w3 w') := by have q := slices_concat p3_15 [(A_us, U, c_us), (some ⟨pn, 0, none⟩, [0, (n / 16777216) % 256, (n / 65536) % 256, (n / 256) % 256, n % 256], 5)] w3 (Bk.eq f_p3_15_3 (parts2 ob7.le.1 ((show By 5 [0, (n / 16777216) % 256, (n / 65536) % 256, (n / 256) % 256, n % 256] from ⟨rfl, by intro n hn; simp at hn; rcases hn with rfl | rfl | rfl | rfl | rfl <;> first | omega | exact (by decide) | exact (Nat.mod_lt _ (by decide)) | exact (Nat.mod_lt _ (by decide)) | exact (Nat.mod_lt _ (by decide)) | exact (Nat.mod_lt _ (by decide))⟩).1))) (all2 ⟨ob7.bs, ob7.le.2⟩ ⟨(Bs.ofBk f8 (show By 5 [0, (n / 16777216) % 256, (n / 65536) % 256, (n / 256) % 256, n % 256] from ⟨rfl, by intro n hn; simp at hn; rcases hn with rfl | rfl | rfl | rfl | rfl <;> first | omega | exact (by decide) | exact (Nat.mod_lt _ (by decide)) | exact (Nat.mod_lt _ (by decide)) | exact (Nat.mod_lt _ (by decide)) | exact (Nat.mod_lt _ (by decide))⟩)), (Nat.le_of_eq (show By 5 [0, (n / 16777216) % 256, (n / 65536) % 256, (n / 256) % 256, n % 256] from ⟨rfl, by intro n hn; simp at hn; rcases hn with rfl | rfl | rfl | rfl | rfl <;> first | omega | exact (by decide) | exact (Nat.mod_lt _ (by decide)) | exact (Nat.mod_lt _ (by decide)) | exact (Nat.mod_lt _ (by decide)) | exact (Nat.mod_lt _ (by decide))⟩).1)⟩) (by rw [cat2]; simp; omega) (Nat.le_of_ble_eq_true rfl); rw [cat2] at q; exact q
 refine R_lo (lo_call (by kernel_rfl) rfl (hcat)) rfl ?_
 rintro _ w4 ⟨A_ex, c_ex, rfl, Q4, k4⟩
 have kk4 := kk3.then_ k4
 refine R_lo (lo_call (by kernel_rfl) rfl (hkdf_expand A K c A_ex (U ++ [0, n / 16777216 % 256, n / 65536 % 256, n / 256 % 256, n % 256]) c_ex _ (HK.keptNo kk4) hc Q4.bs Q4.le.2 (by omega) (by simp; omega))) rfl ?_
 rintro _ w5 ⟨A_ex, rfl, Q5, k5⟩
 have kk5 := kk4.then_ k5
 exact Rp (pu_extract rfl rfl) <| Rp (pu_extract rfl rfl) <| Rp (pu_assign rfl) <| Rp (pu_assign rfl) <| R_nil <| X_then hK4 <| C_ret <| X_ret2 (.inl rfl) rfl rfl rfl ⟨_, rfl, Q5.low ((kk4).size), kk5⟩
theorem nonce_bytes (t n : Nat) (w : World) (ht : t < 4294967296) (hn : n < 18446744073709551616) : Ret Tryz.prog 40 #[.int .u32 ((t : Nat) : Int), .int .u64 ((n : Nat) : Int)] w (fun v w' => ∃ A c, v = .slice A (nonB t n).length c ∧ Ob w' w.heap.size (.slice A (nonB t n).length c) (nonB t n) ∧ Kp No w w') := by
 have kk0 := Kp.refl No w
 refine enter (n := 33) [.int .u32 ((t : Nat) : Int), .int .u64 ((n : Nat) : Int)] Tryz.func40 rfl rfl rfl ?_
 show Cw _ _ _ _ [(0, .int .u32 ((t : Nat) : Int)), (1, .int .u64 ((n : Nat) : Int))] _
 refine C_seq fun K1 hK1 => C_region <| Rp (pu_assign rfl) <| R_nil <| X_then hK1 <| C_seq fun K2 hK2 => C_region <| Rp (pu_move rfl) <| Rp (pu_shrc (m := 24) (c := 16777216) rfl rfl (by decide) (fdiv_nat t 16777216)) <| Rp (pu_conv (z := (((t / 16777216) % 256 : Nat) : Int)) Tryz.underlying32 Tryz.underlying5 rfl (by have : t / 16777216 < 4294967296 := (show t / 16777216 < 2 ^ 32 from Nat.lt_of_le_of_lt (Nat.div_le_self _ _) ht); rw [IntKind.wrap_u8]; omega)) ?_
 refine Rp (pu_move rfl) <| Rp (pu_shrc (m := 16) (c := 65536) rfl rfl (by decide) (fdiv_nat t 65536)) <| Rp (pu_conv (z := (((t / 65536) % 256 : Nat) : Int)) Tryz.underlying32 Tryz.underlying5 rfl (by have : t / 65536 < 4294967296 := (show t / 65536 < 2 ^ 32 from Nat.lt_of_le_of_lt (Nat.div_le_self _ _) ht); rw [IntKind.wrap_u8]; omega)) ?_
 refine Rp (pu_move rfl) <| Rp (pu_shrc (m := 8) (c := 256) rfl rfl (by decide) (fdiv_nat t 256)) <| Rp (pu_conv (z := (((t / 256) % 256 : Nat) : Int)) Tryz.underlying32 Tryz.underlying5 rfl (by have : t / 256 < 4294967296 := (show t / 256 < 2 ^ 32 from Nat.lt_of_le_of_lt (Nat.div_le_self _ _) ht); rw [IntKind.wrap_u8]; omega)) ?_
 refine Rp (pu_move rfl) <| Rp (pu_conv (z := ((t % 256 : Nat) : Int)) Tryz.underlying32 Tryz.underlying5 rfl (by have : t < 4294967296 := ht; rw [IntKind.wrap_u8]; omega)) <| R_lo (lo_buildSlice (L := u8s ([(t / 16777216) % 256, (t / 65536) % 256, (t / 256) % 256, t % 256])) Tryz.underlying22 rfl (by kernel_rfl)) rfl ?_
 rintro _ w1 ⟨q, rfl, N1⟩
 have k1 := N1.kp
 have kk1 := kk0.then_ k1
 have f_q_1 := N1.bk
 refine Rp (pu_assign rfl) <| R_nil <| X_then hK2 <| C_seq fun K3 hK3 => C_seq fun K4 hK4 => C_region <| Rp (pu_move rfl) <| R_nil <| X_then hK4 <| C_block ?_
 have ob0 : Ob w1 w.heap.size (.slice (some ⟨q, 0, none⟩) 4 4) (be4 t) := Ob.made f_q_1 (Nat.le_trans kk0.size N1.le) rfl (by decide) (be4_by t).2
 refine C_loop (fun m_ l_ wr => ∃ i : Nat, ∃ Ao : Option Addr, ∃ co : Nat, (m_ = 8 - i) ∧ (l_ = [(1, .int .u64 ((n : Nat) : Int)), (4, .slice none (0) (0)), (5, .slice Ao ((be4 t ++ (be8 n).take i).length) (co)), (19, .int .i64 ((i : Nat) : Int))]) ∧ (i ≤ 8) ∧ (Kp No w wr) ∧ (Ob wr w.heap.size (.slice Ao (be4 t ++ (be8 n).take i).length co) (be4 t ++ (be8 n).take i) ∧ w.heap.size ≤ (wr).heap.size)) (8 - 0) [(1, .int .u64 ((n : Nat) : Int)), (4, .slice none (0) (0)), (5, .slice (some ⟨q, 0, none⟩) ((be4 t ++ (be8 n).take 0).length) (4)), (19, .int .i64 0)] (Sub.cons rfl (Sub.cons rfl (Sub.consE rfl (by rw [List.take_zero, List.append_nil]; rfl) (Sub.cons rfl (Sub.nil _))))) ⟨0, some ⟨q, 0, none⟩, 4, rfl, rfl, by omega, kk1, ⟨by rw [List.take_zero, List.append_nil]; exact ob0, kk1.size⟩⟩ ?_
 rintro _ _ w2 ⟨i, Ao, co, rfl, rfl, hi, kk2, o_2⟩
 refine C_seq fun K5 hK5 => C_region <| Rp (pu_lss (p := i < 8) rfl rfl (by omega)) <| R_nil <| X_then hK5 <| C_seq fun K6 hK6 => C_dec rfl (fun h20 => ?_) (fun h20 => ?_)
 ·
  refine C_skip <| X_then hK6 <| C_seq fun K7 hK7 => C_block <| C_seq fun K8 hK8 => C_region <| Rp (pu_move rfl) <| Rp (pu_assign rfl) <| R_nil <| X_then hK8 <| C_region <| Rp (pu_move rfl) <| Rp (pu_move rfl) <| Rp (pu_move rfl) <| Rp (pu_mul (z := ((8 * i : Nat) : Int)) rfl rfl (by rw [IntKind.wrap_i64]; omega)) <| Rp (pu_sub (z := ((56 - (8 * i) : Nat) : Int)) rfl rfl (by rw [IntKind.wrap_i64]; omega)) <| Rp (pu_shr (m := 56 - (8 * i)) rfl rfl (shr_nat n (56 - (8 * i)) (by simp only [IntKind.bits]; omega))) <| Rp (pu_conv (z := (((n / 2 ^ (56 - (8 * i))) % 256 : Nat) : Int)) Tryz.underlying108 Tryz.underlying5 rfl (by have : n / 2 ^ (56 - (8 * i)) < 18446744073709551616 := (show n / 2 ^ (56 - (8 * i)) < 2 ^ 64 from Nat.lt_of_le_of_lt (Nat.div_le_self _ _) hn); rw [IntKind.wrap_u8]; omega)) ?_
  refine R_lo (lo_buildSlice (L := u8s ([(n / 2 ^ (56 - (8 * i))) % 256])) Tryz.underlying22 rfl (by kernel_rfl)) rfl ?_
  rintro _ w3 ⟨lit, rfl, N3⟩
  have k3 := N3.kp
  have kk3 := kk2.then_ k3
  have f_lit_3 := N3.bk
  have ob9 := (o_2.1.keptNo k3)
  refine R_lo (lo_app (X := be4 t ++ (be8 n).take i) (Y := [(n / 2 ^ (56 - (8 * i))) % 256]) ob9 ob9.le.1 rfl rfl (show By 1 [(n / 2 ^ (56 - (8 * i))) % 256] from ⟨rfl, fun n hn => by rw [List.mem_singleton.1 hn]; exact (Nat.mod_lt _ (by decide))⟩).1 (Bs.ofBk f_lit_3 (show By 1 [(n / 2 ^ (56 - (8 * i))) % 256] from ⟨rfl, fun n hn => by rw [List.mem_singleton.1 hn]; exact (Nat.mod_lt _ (by decide))⟩)) (by simp [(be4_by t).1, be8_len]; omega) (Nat.le_trans o_2.2 k3.size)) rfl ?_
  rintro _ w4 ⟨A_4, c_4, rfl, p4⟩
  have k4 := p4.kp
  have kk4 := kk3.trans k4 (fun i hi => .inr (Nat.le_trans (Nat.le_refl _) hi))
  refine Rp (pu_assign rfl) <| R_nil <| X_in_normal <| X_then hK7 <| C_region <| Rp (pu_add (z := ((i + 1 : Nat) : Int)) rfl rfl (by rw [IntKind.wrap_i64]; omega)) <| Rp (pu_move rfl) <| R_nil <| X_round (8 - (i + 1)) [(1, .int .u64 ((n : Nat) : Int)), (4, .slice none (0) (0)), (5, .slice A_4 ((be4 t ++ (be8 n).take (i + 1)).length) (c_4)), (19, .int .i64 (((i + 1) : Nat) : Int))] (by omega) (Sub.cons rfl (Sub.cons rfl (Sub.consE rfl (by rw [← be8_st (n := n) (i := i) (by omega), ← List.append_assoc]) (Sub.cons rfl (Sub.nil _))))) ⟨i + 1, A_4, c_4, rfl, rfl, by omega, kk4, ⟨by rw [← be8_st (n := n) (i := i) (by omega), ← List.append_assoc]; exact p4.ob, (Nat.le_trans (Nat.le_trans o_2.2 k3.size) k4.size)⟩⟩
 ·
  refine C_exit <| X_then_exit (X_then_exit (X_in_eq ?_))
  exact X_then hK3 <| C_seq fun K10 hK10 => C_region <| Rp (pu_move rfl) <| Rp (pu_assign rfl) <| R_nil <| X_then hK10 <| C_ret <| X_ret1 (.inl rfl) rfl rfl (have e : (be8 n).take i = be8 n := (by rw [show i = 8 by omega]; exact List.take_of_length_le (by rw [be8_len]; decide)); ⟨Ao, co, by rw [e]; rfl, by have q := o_2.1; rw [e] at q; exact q.low (Nat.le_refl _), kk2⟩)
end Go.Proofs.YtlkbkgghfhoggaaGreatDoor
