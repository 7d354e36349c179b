/- Walks of bursaryref01: bits, powers, sums, products, inverses. -/
import Derived.Test.YtlkbkgghfhoggaaGreatDoorSb
import Derived.Test.YtlkbkgghfhoggaaGreatDoorOn
import Derived.Test.YtlkbkgghfhoggaaGreatDoorLo
section
set_option linter.unusedVariables false
set_option linter.unusedSimpArgs false
set_option maxHeartbeats 2000000
set_option maxRecDepth 100000
namespace Go.Proofs.YtlkbkgghfhoggaaGreatDoor
open Go.RowKit Gm
theorem gf_add (x y : Nat) (hx : x < 256) (hy : y < 256) (w : World)  : Ret Tryz.prog 77 #[.int .u8 ((x : Nat) : Int), .int .u8 ((y : Nat) : Int)] w (fun v w' => v = .int .u8 ((x ^^^ y : Nat) : Int) ∧ Kp No w w') := by
 have kk0 := Kp.refl No w
 refine enter (n := 8) [.int .u8 ((x : Nat) : Int), .int .u8 ((y : Nat) : Int)] Tryz.func77 rfl rfl rfl ?_
 show Cw _ _ _ _ [(0, .int .u8 ((x : Nat) : Int)), (1, .int .u8 ((y : Nat) : Int))] _
 exact C_seq fun K1 hK1 => C_region <| Rp (pu_assign rfl) <| R_nil <| X_then hK1 <| C_seq fun K2 hK2 => C_region <| Rp (pu_move rfl) <| Rp (pu_move rfl) <| Rp (pu_xor rfl rfl (u8_xor_nat x y hx hy)) <| Rp (pu_assign rfl) <| R_nil <| X_then hK2 <| C_ret <| X_ret1 (.inl rfl) rfl rfl ⟨rfl, kk0⟩
theorem gf_twice' (x : Nat) (hx : x < 256) (w : World)  : Ret Tryz.prog 111 #[.int .u8 ((x : Nat) : Int)] w (fun v w' => v = .int .u8 ((tw x : Nat) : Int) ∧ Kp No w w') := by
 have kk0 := Kp.refl No w
 refine enter (n := 11) [.int .u8 ((x : Nat) : Int)] Tryz.func111 rfl rfl rfl ?_
 show Cw _ _ _ _ [(0, .int .u8 ((x : Nat) : Int))] _
 refine C_seq fun K1 hK1 => C_region <| Rp (pu_assign rfl) <| R_nil <| X_then hK1 <| C_seq fun K2 hK2 => C_seq fun K3 hK3 => C_region <| Rp (pu_move rfl) <| Rp (pu_and rfl rfl (u8_and_nat x 128 hx (by decide))) <| Rp (pu_neq (p := (x &&& 128) = 0) rfl rfl (by omega)) <| R_nil <| X_then hK3 <| C_dec rfl (fun h5 => ?_) (fun h5 => ?_)
 ·
  exact C_seq fun K4 hK4 => C_region <| Rp (pu_move rfl) <| Rp (pu_shlc (m := 1) (c := 2) (z := ((x * 2 % 256 : Nat) : Int)) rfl rfl (by decide) (by rw [IntKind.wrap_u8]; omega)) <| Rp (pu_xor rfl rfl (u8_xor_nat (x * 2 % 256) 27 (Nat.mod_lt _ (by decide)) (by decide))) <| Rp (pu_assign rfl) <| R_nil <| X_then hK4 <| C_ret <| X_then_ret <| X_ret1 (.inl rfl) rfl rfl ⟨by rw [tw_hi' x hx (by assumption)], kk0⟩
 ·
  exact C_skip <| X_then hK2 <| C_seq fun K5 hK5 => C_region <| Rp (pu_move rfl) <| Rp (pu_shlc (m := 1) (c := 2) (z := ((x * 2 % 256 : Nat) : Int)) rfl rfl (by decide) (by rw [IntKind.wrap_u8]; omega)) <| Rp (pu_assign rfl) <| R_nil <| X_then hK5 <| C_ret <| X_ret1 (.inl rfl) rfl rfl ⟨by rw [tw_lo' x hx (by omega)], kk0⟩
theorem gf_build' (b : Nat) (w : World) (hb : Bk w b (OnceL 0 1 TZ) 74) : Ret Tryz.prog 98 #[.pointer (some ⟨b, 0, none⟩)] w (fun v w' => v = .tuple #[] ∧ Bk w' b (OnceL 0 1 TB) 74 ∧ Kp (On b) w w') := by
 have kk0 := Kp.refl (On b) w
 refine enter (n := 29) [.pointer (some ⟨b, 0, none⟩)] Tryz.func98 rfl rfl rfl ?_
 show Cw _ _ _ _ [(0, .pointer (some ⟨b, 0, none⟩))] _
 refine C_seq fun K1 hK1 => C_region <| Rp (pu_assign rfl) <| R_nil <| X_then hK1 <| C_seq fun K2 hK2 => C_seq fun K3 hK3 => C_region <| Rp (pu_move rfl) <| R_nil <| X_then hK3 <| C_block <| C_loop (fun m_ l_ wr => ∃ k : Nat, (m_ = 255 - k) ∧ (l_ = [(0, .pointer (some ⟨b, 0, none⟩)), (2, .int .u8 ((gexp k : Nat) : Int)), (4, .int .i64 ((k : Nat) : Int))]) ∧ (k ≤ 255) ∧ (Kp (On b) w wr) ∧ (Bk wr b (OnceL 0 1 (tabR (etab k) (ltab k))) 74)) (255 - 0) [(0, .pointer (some ⟨b, 0, none⟩)), (2, .int .u8 ((gexp 0 : Nat) : Int)), (4, .int .i64 0)] (Sub.cons rfl (Sub.cons rfl (Sub.cons rfl (Sub.nil _)))) ⟨0, rfl, rfl, by omega, kk0, hb⟩ ?_
 rintro _ _ w1 ⟨k, rfl, rfl, hk, kk1, f_b_1⟩
 have hg : gexp k < 256 := gexp_lt k
 refine C_seq fun K4 hK4 => C_region <| Rp (pu_lss (p := k < 255) rfl rfl (by omega)) <| R_nil <| X_then hK4 <| C_seq fun K5 hK5 => C_dec rfl (fun h5 => ?_) (fun h5 => ?_)
 ·
  refine C_skip <| X_then hK5 <| C_seq fun K6 hK6 => C_block <| C_seq fun K7 hK7 => C_region <| Rp (pu_move rfl) <| Rp (pu_assign rfl) <| R_nil <| X_then hK7 <| C_seq fun K8 hK8 => C_region <| Rp (pu_move rfl) <| Rp (pu_move rfl) <| Rp (pu_move rfl) <| Rp (pu_nilCheck rfl) <| Rp (pu_fieldAddr (off := 3) (o' := 3) (by kernel_rfl) rfl rfl) <| Rp (pu_indexAddrA (m := k) (s := 1) (o' := 3 + k) Tryz.underlying72 (by kernel_rfl) rfl rfl rfl (by omega) (by omega)) <| R_lo0 (lo_store f_b_1 (by kernel_rfl) rfl rfl rfl (by rw [tabR_length (by simp [etab_length, ltab_length]) (by simp [etab_length, ltab_length])]; omega)) ?_
  rintro _ w2 kf2
  obtain ⟨k2, f_b_2⟩ := kf2
  replace f_b_2 := Bk.eq f_b_2 (tab_setE (i := k) (n := gexp k) (by simp only [List.length_set, etab_length]; omega))
  replace f_b_2 : Bk w2 b (OnceL 0 1 (tabR ((etab k).set k (gexp k)) (ltab k))) 74 := f_b_2
  have kk2 := kk1.trans k2 (fun i hi => .inl hi)
  refine R_nil <| X_then hK8 <| C_seq fun K9 hK9 => C_region <| Rp (pu_move rfl) <| Rp (pu_move rfl) <| Rp (pu_move rfl) <| Rp (pu_conv (z := ((k % 256 : Nat) : Int)) Tryz.underlying3 Tryz.underlying5 rfl (by rw [IntKind.wrap_u8]; omega)) <| Rp (pu_nilCheck rfl) <| Rp (pu_fieldAddr (off := 259) (o' := 259) (by kernel_rfl) rfl rfl) <| Rp (pu_indexAddrA (m := gexp k) (s := 1) (o' := 259 + (gexp k)) Tryz.underlying72 (by kernel_rfl) rfl rfl rfl (by omega) (by omega)) <| R_lo0 (lo_store f_b_2 (by kernel_rfl) rfl rfl rfl (by rw [tabR_length (by simp [etab_length, ltab_length]) (by simp [etab_length, ltab_length])]; omega)) ?_
  rintro _ w3 kf3
  obtain ⟨k3, f_b_3⟩ := kf3
  replace f_b_3 := Bk.eq f_b_3 (tab_setL (i := (gexp k)) (n := k % 256) (by simp only [List.length_set, etab_length]))
  replace f_b_3 : Bk w3 b (OnceL 0 1 (tabR ((etab k).set k (gexp k)) ((ltab k).set (gexp k) (k % 256)))) 74 := f_b_3
  have kk3 := kk2.trans k3 (fun i hi => .inl hi)
  refine R_nil <| X_then hK9 <| C_region <| Rp (pu_move rfl) <| Rp (pu_move rfl) <| R_lo (lo_call (by kernel_rfl) rfl (gf_twice' (gexp k) (gexp_lt k) _)) rfl ?_
  rintro _ w4 ⟨rfl, k4⟩
  have kk4 := kk3.thenNo k4
  refine Rp (pu_xor rfl rfl (u8_xor_nat (gexp k) (tw (gexp k)) (gexp_lt k) (tw_lt (gexp_lt k)))) <| Rp (pu_assign rfl) <| R_nil <| X_in_normal <| X_then hK6 <| C_region <| Rp (pu_add (z := ((k + 1 : Nat) : Int)) rfl rfl (by rw [IntKind.wrap_i64]; omega)) <| Rp (pu_move rfl) <| R_nil ?_
  have f10 := (f_b_3.no k4)
  refine X_round (255 - (k + 1)) [(0, .pointer (some ⟨b, 0, none⟩)), (2, .int .u8 ((gexp (k + 1) : Nat) : Int)), (4, .int .i64 (((k + 1) : Nat) : Int))] (by omega) (Sub.cons rfl (Sub.cons rfl (Sub.cons rfl (Sub.nil _)))) ⟨k + 1, rfl, rfl, by omega, kk4, Bk.eq f10 (by rw [Nat.mod_eq_of_lt (by omega : k < 256)]; rfl)⟩
 ·
  refine C_exit <| X_then_exit (X_then_exit (X_in_eq ?_))
  refine X_then hK2 <| C_region <| Rp (pu_move rfl) <| Rp (pu_nilCheck rfl) <| Rp (pu_fieldAddr (off := 3) (o' := 3) (by kernel_rfl) rfl rfl) <| Rp (pu_indexAddrA (m := 255) (s := 1) (o' := 258) Tryz.underlying72 (by kernel_rfl) rfl rfl rfl (by omega) (by omega)) <| R_lo0 (lo_store f_b_1 (by kernel_rfl) rfl rfl rfl (by rw [tabR_length (by simp [etab_length, ltab_length]) (by simp [etab_length, ltab_length])]; omega)) ?_
  rintro _ w5 kf5
  obtain ⟨k5, f_b_5⟩ := kf5
  replace f_b_5 := Bk.eq f_b_5 (tab_setE (i := 255) (n := 1) (by simp only [List.length_set, etab_length]; omega))
  replace f_b_5 : Bk w5 b (OnceL 0 1 (tabR ((etab k).set 255 1) (ltab k))) 74 := f_b_5
  have kk5 := kk1.trans k5 (fun i hi => .inl hi)
  exact R_nil <| X_ret0 (.inr rfl) rfl ⟨rfl, by rw [show TB = tabR ((etab k).set 255 1) (ltab k) by rw [show k = 255 by omega]; rfl]; exact f_b_5, kk5⟩
theorem gf_power' (b n : Nat) (w : World) (hn : n < 100000) (hb : Bk w b (OnceL 1 0 TB) 74) : Ret Tryz.prog 99 #[.pointer (some ⟨b, 0, none⟩), .int .i64 ((n : Nat) : Int)] w (fun v w' => v = .int .u8 ((gexp (n % 255) : Nat) : Int) ∧ Kp No w w') := by
 have kk0 := Kp.refl No w
 refine enter (n := 12) [.pointer (some ⟨b, 0, none⟩), .int .i64 ((n : Nat) : Int)] Tryz.func99 rfl rfl rfl ?_
 show Cw _ _ _ _ [(0, .pointer (some ⟨b, 0, none⟩)), (1, .int .i64 ((n : Nat) : Int))] _
 exact C_seq fun K1 hK1 => C_region <| Rp (pu_assign rfl) <| R_nil <| X_then hK1 <| C_seq fun K2 hK2 => C_region <| Rp (pu_move rfl) <| Rp (pu_move rfl) <| Rp (pu_rem (z := ((n % 255 : Nat) : Int)) rfl rfl (by omega) (by rfl)) <| Rp (pu_nilCheck rfl) <| Rp (pu_fieldAddr (off := 3) (o' := 3) (by kernel_rfl) rfl rfl) <| Rp (pu_indexAddrA (m := n % 255) (s := 1) (o' := 3 + (n % 255)) Tryz.underlying72 (by kernel_rfl) rfl rfl rfl (by omega) (by omega)) <| Rp (pu_loadK hb (by kernel_rfl) rfl (tab_getE (ET_get (i := n % 255) (by omega)))) <| Rp (pu_assign rfl) <| R_nil <| X_then hK2 <| C_ret <| X_ret1 (.inl rfl) rfl rfl ⟨rfl, kk0⟩
theorem tab_once (b : Nat) (w : World) (h : Tb w b) : Ret Tryz.prog 97 #[.pointer (some ⟨b, 0, none⟩), .func (.func 98) #[.pointer (some ⟨b, 0, none⟩)] #[]] w
 (fun v w' => v = .tuple #[] ∧ Bk w' b (OnceL 1 0 TB) 74 ∧ Kp (On b) w w') := by
 rcases h with h | h
 ·
  exact once_do w (by kernel_rfl) h (fun w1 h1 => gf_build' b w1 h1)
 ·
  exact once_was w h
theorem gf_mul (b x y : Nat) (hx : x < 256) (hy : y < 256) (w : World) (hT : Tb w b) : Ret Tryz.prog 78 #[.pointer (some ⟨b, 0, none⟩), .int .u8 ((x : Nat) : Int), .int .u8 ((y : Nat) : Int)] w (fun v w' => v = .int .u8 ((gmul x y : Nat) : Int) ∧ Tb w' b ∧ Kp (On b) w w') := by
 have kk0 := Kp.refl (On b) w
 refine enter (n := 40) [.pointer (some ⟨b, 0, none⟩), .int .u8 ((x : Nat) : Int), .int .u8 ((y : Nat) : Int)] Tryz.func78 rfl rfl rfl ?_
 show Cw _ _ _ _ [(0, .pointer (some ⟨b, 0, none⟩)), (1, .int .u8 ((x : Nat) : Int)), (2, .int .u8 ((y : Nat) : Int))] _
 refine C_seq fun K1 hK1 => C_region <| Rp (pu_assign rfl) <| R_nil <| X_then hK1 <| C_seq fun K2 hK2 => C_seq fun K3 hK3 => C_region <| Rp (pu_move rfl) <| Rp (pu_eqlpn (by kernel_rfl) rfl rfl) <| Rp (pu_move rfl) <| Rg (pu_move rfl) <| Rg (pu_eql (p := x = 0) rfl rfl (by omega)) <| Rp (pu_pickf rfl rfl) ?_
 by_cases g1_6 : x = 0
 ·
  exact Rp (pu_true (pu_move rfl) g1_6) <| R_gno rfl rfl rfl rfl <| R_gno rfl rfl rfl rfl <| Rp (pu_pickt rfl rfl) <| R_nil <| X_then hK3 <| C_true rfl <| C_seq fun K4 hK4 => C_region <| Rp (pu_assign rfl) <| R_nil <| X_then hK4 <| C_ret <| X_then_ret <| X_ret1 (.inl rfl) rfl rfl ⟨by first | rw [gmul_of (by omega) (by omega)] | (rw [show gmul x y = 0 by rw [gmul_eq0]; omega]; rfl), hT, kk0⟩
 ·
  refine Rp (pu_false (pu_move rfl) g1_6) <| Rg (pu_move rfl) <| Rg (pu_eql (p := y = 0) rfl rfl (by omega)) <| Rp (pu_pickf rfl rfl) <| R_nil <| X_then hK3 <| C_dec rfl (fun h16 => ?_) (fun h16 => ?_)
  ·
   exact C_seq fun K5 hK5 => C_region <| Rp (pu_assign rfl) <| R_nil <| X_then hK5 <| C_ret <| X_then_ret <| X_ret1 (.inl rfl) rfl rfl ⟨by first | rw [gmul_of (by omega) (by omega)] | (rw [show gmul x y = 0 by rw [gmul_eq0]; omega]; rfl), hT, kk0⟩
  ·
   refine C_skip <| X_then hK2 <| C_seq fun K6 hK6 => C_region <| Rp (pu_move rfl) <| Rp (pu_nilCheck rfl) <| Rp (pu_fieldAddr (off := 0) (o' := 0) (by kernel_rfl) rfl rfl) <| Rp (pu_move rfl) <| Rp (pu_makeFunc rfl) <| R_lo (lo_call (by kernel_rfl) rfl (tab_once b _ hT)) rfl ?_
   rintro _ w1 ⟨rfl, T1, k1⟩
   have kk1 := kk0.trans k1 (fun i hi => .inl hi)
   refine R_nil <| X_then hK6 <| C_seq (fun K7 hK7 => ?_)
   have lx := log_lt hx (by omega : x ≠ 0); have ly := log_lt hy (by omega : y ≠ 0)
   refine D_begin (fun W => Kp (On b) w W ∧ Bk W b (OnceL 1 0 (tabR (ET) (Gm.LT))) 74) 18 rfl (by kernel_rfl) ⟨kk1.drew, T1.draw⟩ ?_
   intro w2 k2 _
   have kk2 := kk1.thenNo k2
   refine Dt 0 rfl (fun W hS => pu_move rfl) <| Dt 1 rfl (fun W hS => pu_move rfl) <| Dt 2 rfl (fun W hS => pu_move rfl) <| Dt 3 rfl (fun W hS => pu_nilCheck rfl) <| Dt 4 rfl (fun W hS => pu_fieldAddr (off := 259) (o' := 259) (by kernel_rfl) rfl rfl) <| Dt 5 rfl (fun W hS => pu_indexAddrA (m := x) (s := 1) (o' := 259 + x) Tryz.underlying72 (by kernel_rfl) rfl rfl rfl (by omega) (by omega)) <| Dt 6 rfl (fun W hS => pu_loadK hS.2 (by kernel_rfl) rfl (tab_getL ET_length (LT_get hx (by omega)))) <| Dt 7 rfl (fun W hS => pu_conv (z := ((glog x : Nat) : Int)) Tryz.underlying5 Tryz.underlying3 rfl (by have : glog x < 256 := (show glog x < 256 from Nat.lt_trans (log_lt hx (by omega)) (by decide)); rw [IntKind.wrap_i64]; omega)) ?_
   refine Dt 8 rfl (fun W hS => pu_move rfl) <| Dt 9 rfl (fun W hS => pu_move rfl) <| Dt 10 rfl (fun W hS => pu_nilCheck rfl) <| Dt 11 rfl (fun W hS => pu_fieldAddr (off := 259) (o' := 259) (by kernel_rfl) rfl rfl) <| Dt 12 rfl (fun W hS => pu_indexAddrA (m := y) (s := 1) (o' := 259 + y) Tryz.underlying72 (by kernel_rfl) rfl rfl rfl (by omega) (by omega)) <| Dt 13 rfl (fun W hS => pu_loadK hS.2 (by kernel_rfl) rfl (tab_getL ET_length (LT_get hy (by omega)))) <| Dt 14 rfl (fun W hS => pu_conv (z := ((glog y : Nat) : Int)) Tryz.underlying5 Tryz.underlying3 rfl (by have : glog y < 256 := (show glog y < 256 from Nat.lt_trans (log_lt hy (by omega)) (by decide)); rw [IntKind.wrap_i64]; omega)) ?_
   refine Dt 15 rfl (fun W hS => pu_add (z := (((glog x) + (glog y) : Nat) : Int)) rfl rfl (by rw [IntKind.wrap_i64]; omega)) ?_
   have f8 := (T1.no k2)
   refine D_one 16 (by kernel_rfl) (Nx_lo rfl (lo_call (by kernel_rfl) rfl (gf_power' b ((glog x) + (glog y)) _ (by omega) f8)) rfl ?_)
   rintro _ w3 ⟨rfl, k3⟩
   have kk3 := kk2.thenNo k3
   have f9 := (f8.no k3)
   refine ⟨⟨kk3, f9⟩, ?_⟩
   exact Dt 17 rfl (fun W hS => pu_assign rfl) <| D_done (by kernel_rfl) <| X_then hK7 <| C_ret <| X_ret1 (.inl rfl) rfl rfl ⟨by first | rw [gmul_of (by omega) (by omega)] | (rw [show gmul x y = 0 by rw [gmul_eq0]; omega]; rfl), Tb.built f9, kk3⟩
theorem gdiv_of {x y : Nat} (h : x ≠ 0) : gdiv x y = gexp ((glog x + 255 - glog y) % 255) := by unfold gdiv; rw [if_neg h]
theorem gf_div (b x y : Nat) (hx : x < 256) (hy : y < 256) (hy0 : y ≠ 0) (w : World) (hT : Tb w b) : Ret Tryz.prog 108 #[.pointer (some ⟨b, 0, none⟩), .int .u8 ((x : Nat) : Int), .int .u8 ((y : Nat) : Int)] w (fun v w' => v = .tuple #[.int .u8 ((gdiv x y : Nat) : Int), .nilIface] ∧ Tb w' b ∧ Kp (On b) w w') := by
 have kk0 := Kp.refl (On b) w
 refine enter (n := 41) [.pointer (some ⟨b, 0, none⟩), .int .u8 ((x : Nat) : Int), .int .u8 ((y : Nat) : Int)] Tryz.func108 rfl rfl rfl ?_
 show Cw _ _ _ _ [(0, .pointer (some ⟨b, 0, none⟩)), (1, .int .u8 ((x : Nat) : Int)), (2, .int .u8 ((y : Nat) : Int))] _
 refine C_seq fun K1 hK1 => C_region <| Rp (pu_assign rfl) <| Rp (pu_assign rfl) <| R_nil <| X_then hK1 <| C_seq fun K2 hK2 => C_seq fun K3 hK3 => C_region <| Rp (pu_move rfl) <| Rp (pu_eqlpn (by kernel_rfl) rfl rfl) <| Rp (pu_move rfl) <| Rg (pu_move rfl) <| Rg (pu_eql (p := y = 0) rfl rfl (by omega)) <| Rp (pu_pickf rfl rfl) <| R_nil <| X_then hK3 <| C_decf rfl (by omega) <| C_skip <| X_then hK2 <| C_seq fun K4 hK4 => C_seq fun K5 hK5 => C_region <| Rp (pu_move rfl) <| Rp (pu_eql (p := x = 0) rfl rfl (by omega)) <| R_nil <| X_then hK5 <| C_dec rfl (fun h16 => ?_) (fun h16 => ?_)
 ·
  exact C_seq fun K6 hK6 => C_region <| Rp (pu_assign rfl) <| Rp (pu_assign rfl) <| R_nil <| X_then hK6 <| C_ret <| X_then_ret <| X_ret2 (.inl rfl) rfl rfl rfl ⟨by rw [show gdiv x y = 0 by unfold gdiv; rw [if_pos (by omega)]]; rfl, hT, kk0⟩
 ·
  refine C_skip <| X_then hK4 <| C_seq fun K7 hK7 => C_region <| Rp (pu_move rfl) <| Rp (pu_nilCheck rfl) <| Rp (pu_fieldAddr (off := 0) (o' := 0) (by kernel_rfl) rfl rfl) <| Rp (pu_move rfl) <| Rp (pu_makeFunc rfl) <| R_lo (lo_call (by kernel_rfl) rfl (tab_once b _ hT)) rfl ?_
  rintro _ w1 ⟨rfl, T1, k1⟩
  have kk1 := kk0.trans k1 (fun i hi => .inl hi)
  refine R_nil <| X_then hK7 <| C_seq (fun K8 hK8 => ?_)
  have lx := log_lt hx (by omega : x ≠ 0); have ly := log_lt hy hy0
  refine D_begin (fun W => Kp (On b) w W ∧ Bk W b (OnceL 1 0 (tabR (ET) (Gm.LT))) 74) 20 rfl (by kernel_rfl) ⟨kk1.drew, T1.draw⟩ ?_
  intro w2 k2 _
  have kk2 := kk1.thenNo k2
  refine Dt 0 rfl (fun W hS => pu_move rfl) <| Dt 1 rfl (fun W hS => pu_move rfl) <| Dt 2 rfl (fun W hS => pu_move rfl) <| Dt 3 rfl (fun W hS => pu_nilCheck rfl) <| Dt 4 rfl (fun W hS => pu_fieldAddr (off := 259) (o' := 259) (by kernel_rfl) rfl rfl) <| Dt 5 rfl (fun W hS => pu_indexAddrA (m := x) (s := 1) (o' := 259 + x) Tryz.underlying72 (by kernel_rfl) rfl rfl rfl (by omega) (by omega)) <| Dt 6 rfl (fun W hS => pu_loadK hS.2 (by kernel_rfl) rfl (tab_getL ET_length (LT_get hx (by omega)))) <| Dt 7 rfl (fun W hS => pu_conv (z := ((glog x : Nat) : Int)) Tryz.underlying5 Tryz.underlying3 rfl (by have : glog x < 256 := (show glog x < 256 from Nat.lt_trans (log_lt hx (by omega)) (by decide)); rw [IntKind.wrap_i64]; omega)) ?_
  refine Dt 8 rfl (fun W hS => pu_add (z := (((glog x) + 255 : Nat) : Int)) rfl rfl (by rw [IntKind.wrap_i64]; omega)) <| Dt 9 rfl (fun W hS => pu_move rfl) <| Dt 10 rfl (fun W hS => pu_move rfl) <| Dt 11 rfl (fun W hS => pu_nilCheck rfl) <| Dt 12 rfl (fun W hS => pu_fieldAddr (off := 259) (o' := 259) (by kernel_rfl) rfl rfl) <| Dt 13 rfl (fun W hS => pu_indexAddrA (m := y) (s := 1) (o' := 259 + y) Tryz.underlying72 (by kernel_rfl) rfl rfl rfl (by omega) (by omega)) <| Dt 14 rfl (fun W hS => pu_loadK hS.2 (by kernel_rfl) rfl (tab_getL ET_length (LT_get hy hy0))) <| Dt 15 rfl (fun W hS => pu_conv (z := ((glog y : Nat) : Int)) Tryz.underlying5 Tryz.underlying3 rfl (by have : glog y < 256 := (show glog y < 256 from Nat.lt_trans (log_lt hy hy0) (by decide)); rw [IntKind.wrap_i64]; omega)) ?_
  refine Dt 16 rfl (fun W hS => pu_sub (z := ((((glog x) + 255) - (glog y) : Nat) : Int)) rfl rfl (by rw [IntKind.wrap_i64]; omega)) ?_
  have f9 := (T1.no k2)
  refine D_one 17 (by kernel_rfl) (Nx_lo rfl (lo_call (by kernel_rfl) rfl (gf_power' b (((glog x) + 255) - (glog y)) _ (by omega) f9)) rfl ?_)
  rintro _ w3 ⟨rfl, k3⟩
  have kk3 := kk2.thenNo k3
  have f10 := (f9.no k3)
  refine ⟨⟨kk3, f10⟩, ?_⟩
  exact Dt 18 rfl (fun W hS => pu_assign rfl) <| Dt 19 rfl (fun W hS => pu_assign rfl) <| D_done (by kernel_rfl) <| X_then hK8 <| C_ret <| X_ret2 (.inl rfl) rfl rfl rfl ⟨by rw [gdiv_of (by omega)], Tb.built f10, kk3⟩
theorem gf_div0 (b x y : Nat) (hy0 : y = 0) (w : World) (hT : Tb w b) : Ret Tryz.prog 108 #[.pointer (some ⟨b, 0, none⟩), .int .u8 ((x : Nat) : Int), .int .u8 ((y : Nat) : Int)] w (fun v w' => v = .tuple #[.int .u8 0, errE 1] ∧ Tb w' b ∧ Kp (On b) w w') := by
 have kk0 := Kp.refl (On b) w
 refine enter (n := 41) [.pointer (some ⟨b, 0, none⟩), .int .u8 ((x : Nat) : Int), .int .u8 ((y : Nat) : Int)] Tryz.func108 rfl rfl rfl ?_
 show Cw _ _ _ _ [(0, .pointer (some ⟨b, 0, none⟩)), (1, .int .u8 ((x : Nat) : Int)), (2, .int .u8 ((y : Nat) : Int))] _
 exact C_seq fun K1 hK1 => C_region <| Rp (pu_assign rfl) <| Rp (pu_assign rfl) <| R_nil <| X_then hK1 <| C_seq fun K2 hK2 => C_seq fun K3 hK3 => C_region <| Rp (pu_move rfl) <| Rp (pu_eqlpn (by kernel_rfl) rfl rfl) <| Rp (pu_move rfl) <| Rg (pu_move rfl) <| Rg (pu_eql (p := y = 0) rfl rfl (by omega)) <| Rp (pu_pickf rfl rfl) <| R_nil <| X_then hK3 <| C_dect rfl (by omega) <| C_seq fun K4 hK4 => C_region <| Rp (pu_makeInterface Tryz.underlying76 rfl rfl) <| Rp (pu_assign rfl) <| Rp (pu_assign rfl) <| R_nil <| X_then hK4 <| C_ret <| X_then_ret <| X_ret2 (.inl rfl) rfl rfl rfl ⟨rfl, hT, kk0⟩
theorem gf_inv (b x : Nat) (hx : x < 256) (hx0 : x ≠ 0) (w : World) (hT : Tb w b) : Ret Tryz.prog 119 #[.pointer (some ⟨b, 0, none⟩), .int .u8 ((x : Nat) : Int)] w (fun v w' => v = .tuple #[.int .u8 ((gdiv 1 x : Nat) : Int), .nilIface] ∧ Tb w' b ∧ Kp (On b) w w') := by
 have kk0 := Kp.refl (On b) w
 refine enter (n := 11) [.pointer (some ⟨b, 0, none⟩), .int .u8 ((x : Nat) : Int)] Tryz.func119 rfl rfl rfl ?_
 show Cw _ _ _ _ [(0, .pointer (some ⟨b, 0, none⟩)), (1, .int .u8 ((x : Nat) : Int))] _
 refine C_seq fun K1 hK1 => C_region <| Rp (pu_assign rfl) <| Rp (pu_assign rfl) <| R_nil <| X_then hK1 <| C_seq fun K2 hK2 => C_region <| Rp (pu_move rfl) <| Rp (pu_move rfl) <| R_lo (lo_call (by kernel_rfl) rfl (gf_div b 1 x (by decide) hx hx0 _ hT)) rfl ?_
 rintro _ w1 ⟨rfl, T1, k1⟩
 have kk1 := kk0.trans k1 (fun i hi => .inl hi)
 exact Rp (pu_extract rfl rfl) <| Rp (pu_extract rfl rfl) <| Rp (pu_assign rfl) <| Rp (pu_assign rfl) <| R_nil <| X_then hK2 <| C_ret <| X_ret2 (.inl rfl) rfl rfl rfl ⟨rfl, T1, kk1⟩
theorem gf_inv0 (b x : Nat) (hx0 : x = 0) (w : World) (hT : Tb w b) : Ret Tryz.prog 119 #[.pointer (some ⟨b, 0, none⟩), .int .u8 ((x : Nat) : Int)] w (fun v w' => v = .tuple #[.int .u8 0, errE 1] ∧ Tb w' b ∧ Kp (On b) w w') := by
 have kk0 := Kp.refl (On b) w
 refine enter (n := 11) [.pointer (some ⟨b, 0, none⟩), .int .u8 ((x : Nat) : Int)] Tryz.func119 rfl rfl rfl ?_
 show Cw _ _ _ _ [(0, .pointer (some ⟨b, 0, none⟩)), (1, .int .u8 ((x : Nat) : Int))] _
 refine C_seq fun K1 hK1 => C_region <| Rp (pu_assign rfl) <| Rp (pu_assign rfl) <| R_nil <| X_then hK1 <| C_seq fun K2 hK2 => C_region <| Rp (pu_move rfl) <| Rp (pu_move rfl) <| R_lo (lo_call (by kernel_rfl) rfl (gf_div0 b 1 x hx0 _ hT)) rfl ?_
 rintro _ w1 ⟨rfl, T1, k1⟩
 have kk1 := kk0.trans k1 (fun i hi => .inl hi)
 exact Rp (pu_extract rfl rfl) <| Rp (pu_extract rfl rfl) <| Rp (pu_assign rfl) <| Rp (pu_assign rfl) <| R_nil <| X_then hK2 <| C_ret <| X_ret2 (.inl rfl) rfl rfl rfl ⟨rfl, T1, kk1⟩
theorem gf_new  (w : World)  : Ret Tryz.prog 6 #[] w (fun v w' => ∃ b, v = .pointer (some ⟨b, 0, none⟩) ∧ w.heap.size ≤ b ∧ Tb w' b ∧ Kp No w w') := by
 have kk0 := Kp.refl No w
 refine enter (n := 3) [] Tryz.func6 rfl rfl rfl ?_
 show Cw _ _ _ _ [] _
 refine C_seq fun K1 hK1 => C_region <| Rp (pu_assign rfl) <| R_nil <| X_then hK1 <| C_seq fun K2 hK2 => C_region <| Rp (pu_build (L := OnceL 0 0 TZ) rfl (by kernel_rfl)) <| R_lo (lo_box (L := OnceL 0 0 (tabR (etab 0) (ltab 0))) rfl rfl) rfl ?_
 rintro _ w1 ⟨p1_1, rfl, N1⟩
 have k1 := N1.kp
 have kk1 := kk0.then_ k1
 have f_p1_1_1 := N1.bk
 exact Rp (pu_assign rfl) <| R_nil <| X_then hK2 <| C_ret <| X_ret1 (.inl rfl) rfl rfl ⟨p1_1, rfl, N1.le, Tb.of_new f_p1_1_1, kk1⟩
end Go.Proofs.YtlkbkgghfhoggaaGreatDoor
end
section
set_option linter.unusedVariables false
set_option linter.unusedSimpArgs false
namespace Go.Proofs.YtlkbkgghfhoggaaGreatDoor
open Go.RowKit Gm

end Go.Proofs.YtlkbkgghfhoggaaGreatDoor
end
