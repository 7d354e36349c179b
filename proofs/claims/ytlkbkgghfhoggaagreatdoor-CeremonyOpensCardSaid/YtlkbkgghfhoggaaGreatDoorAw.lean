/- Walks of aes; the bodies of AesApart and AesWords. -/
import Derived.Test.YtlkbkgghfhoggaaGreatDoorAe
import Derived.Test.YtlkbkgghfhoggaaGreatDoorSx
import Derived.Test.YtlkbkgghfhoggaaGreatDoorOn
set_option linter.unusedVariables false
set_option linter.unusedSimpArgs false
set_option maxHeartbeats 2000000
set_option maxRecDepth 100000
namespace Go.Proofs.YtlkbkgghfhoggaaGreatDoor
open Go.RowKit Gm
theorem rot32_8 (x : Nat) (hx : x < 4294967296) (w : World)  : Ret Tryz.prog 101 #[.int .u32 ((x : Nat) : Int), .int .i64 8] w (fun v w' => v = .int .u32 ((rot8 x : Nat) : Int) ∧ Kp No w w') := by
 have kk0 := Kp.refl No w
 refine enter (n := 17) [.int .u32 ((x : Nat) : Int), .int .i64 8] Tryz.func101 rfl rfl rfl ?_
 show Cw _ _ _ _ [(0, .int .u32 ((x : Nat) : Int)), (1, .int .i64 8)] _
 refine C_seq fun K1 hK1 => C_region <| Rp (pu_assign rfl) <| R_nil <| X_then hK1 <| C_seq fun K2 hK2 => C_region <| Rp (pu_move rfl) <| Rp (pu_conv (z := 8) Tryz.underlying3 Tryz.underlying25 rfl (by rw [IntKind.wrap_u64]; omega)) <| Rp (pu_and rfl rfl (u64_and_nat 8 31 (by decide) (by decide))) <| Rp (pu_assign rfl) <| R_nil <| X_then hK2 <| C_seq fun K3 hK3 => C_region <| Rp (pu_move rfl) <| Rp (pu_move rfl) <| Rp (pu_shlc (m := 8) (c := 256) (z := ((x * 256 % 4294967296 : Nat) : Int)) rfl rfl (by decide) (by rw [IntKind.wrap_u32]; omega)) <| Rp (pu_move rfl) <| Rp (pu_move rfl) <| Rp (pu_sub rfl rfl (by rw [IntKind.wrap_u64] <;> omega)) ?_
 exact Rp (pu_shrc (m := 24) (c := 16777216) rfl rfl (by decide) (fdiv_nat x 16777216)) <| Rp (pu_or rfl rfl (u32_or_nat (x * 256 % 4294967296) (x / 16777216) (Nat.mod_lt _ (by decide)) (show x / 16777216 < 2 ^ 32 from Nat.lt_of_le_of_lt (Nat.div_le_self _ _) hx))) <| Rp (pu_assign rfl) <| R_nil <| X_then hK3 <| C_ret <| X_ret1 (.inl rfl) rfl rfl ⟨rfl, kk0⟩
theorem aes_twice (x : Nat) (hx : x < 256) (w : World)  : Ret Tryz.prog 103 #[.int .u8 ((x : Nat) : Int)] w (fun v w' => v = .int .u8 ((tw x : Nat) : Int) ∧ Kp No w w') := by
 have kk0 := Kp.refl No w
 refine enter (n := 11) [.int .u8 ((x : Nat) : Int)] Tryz.func103 rfl rfl rfl ?_
 show Cw _ _ _ _ [(0, .int .u8 ((x : Nat) : Int))] _
 refine C_seq fun K1 hK1 => C_region <| Rp (pu_assign rfl) <| R_nil <| X_then hK1 <| C_seq fun K2 hK2 => C_seq fun K3 hK3 => C_region <| Rp (pu_move rfl) <| Rp (pu_and rfl rfl (u8_and_nat x 128 hx (by decide))) <| Rp (pu_neq (p := (x &&& 128) = 0) rfl rfl (by omega)) <| R_nil <| X_then hK3 <| C_dec rfl (fun h5 => ?_) (fun h5 => ?_)
 ·
  exact C_seq fun K4 hK4 => C_region <| Rp (pu_move rfl) <| Rp (pu_shlc (m := 1) (c := 2) (z := ((x * 2 % 256 : Nat) : Int)) rfl rfl (by decide) (by rw [IntKind.wrap_u8]; omega)) <| Rp (pu_xor rfl rfl (u8_xor_nat (x * 2 % 256) 27 (Nat.mod_lt _ (by decide)) (by decide))) <| Rp (pu_assign rfl) <| R_nil <| X_then hK4 <| C_ret <| X_then_ret <| X_ret1 (.inl rfl) rfl rfl ⟨by rw [tw_hi' x hx h5], kk0⟩
 ·
  exact C_skip <| X_then hK2 <| C_seq fun K5 hK5 => C_region <| Rp (pu_move rfl) <| Rp (pu_shlc (m := 1) (c := 2) (z := ((x * 2 % 256 : Nat) : Int)) rfl rfl (by decide) (by rw [IntKind.wrap_u8]; omega)) <| Rp (pu_assign rfl) <| R_nil <| X_then hK5 <| C_ret <| X_ret1 (.inl rfl) rfl rfl ⟨by rw [tw_lo' x hx (by omega)], kk0⟩
theorem aes_expand (b bx : Nat) (K : List Nat) (hK : ∀ n ∈ K, n < 256) (w : World) (hne : b ≠ bx) (hb : Bk w b (keyL bx (upto (wF K) (fun _ => 0) 8 60)) 181) (hS : Sx w bx) : Ret Tryz.prog 81 #[.pointer (some ⟨b, 0, none⟩)] w (fun v w' => v = .tuple #[] ∧ Bk w' b (keyL bx (KW K)) 181 ∧ Sx w' bx ∧ Kp (Ons [b, bx]) w w') := by
 have kk0 := Kp.refl (Ons [b, bx]) w
 refine enter (n := 53) [.pointer (some ⟨b, 0, none⟩)] Tryz.func81 rfl rfl rfl ?_
 show Cw _ _ _ _ [(0, .pointer (some ⟨b, 0, none⟩))] _
 refine C_seq fun K1 hK1 => C_region <| Rp (pu_assign rfl) <| R_nil <| X_then hK1 <| C_seq fun K2 hK2 => C_region <| Rp (pu_assign rfl) <| R_nil <| X_then hK2 <| C_block <| C_loop (fun m_ l_ wr => ∃ i : Nat, (m_ = 60 - i) ∧ (l_ = [(0, .pointer (some ⟨b, 0, none⟩)), (2, .int .u32 ((2 ^ (24 + (i - 1) / 8) : Nat) : Int)), (3, .int .i64 ((i : Nat) : Int))]) ∧ (8 ≤ i) ∧ (i ≤ 60) ∧ (Kp (Ons [b, bx]) w wr) ∧ (Bk wr b (keyL bx (upto (wF K) (fun _ => 0) i 60)) 181) ∧ (Sx wr bx)) (60 - 8) [(0, .pointer (some ⟨b, 0, none⟩)), (2, .int .u32 ((2 ^ (24 + (8 - 1) / 8) : Nat) : Int)), (3, .int .i64 8)] (Sub.cons rfl (Sub.cons rfl (Sub.cons rfl (Sub.nil _)))) ⟨8, rfl, rfl, by omega, by omega, kk0, hb, hS⟩ ?_
 rintro _ _ w1 ⟨i, rfl, rfl, h8, hi, kk1, f_b_1, S_1⟩
 refine C_seq fun K3 hK3 => C_seq fun K4 hK4 => C_region <| Rp (pu_move rfl) <| Rp (pu_lss (p := i < 60) rfl rfl (by omega)) <| R_nil <| X_then hK4 <| C_dec rfl (fun h6 => ?_) (fun h6 => ?_)
 ·
  refine C_skip <| X_then hK3 <| C_seq fun K5 hK5 => C_block <| C_seq fun K6 hK6 => C_region <| Rp (pu_move rfl) <| Rp (pu_move rfl) <| Rp (pu_sub (z := ((i - 1 : Nat) : Int)) rfl rfl (by rw [IntKind.wrap_i64]; omega)) <| Rp (pu_nilCheck rfl) <| Rp (pu_fieldAddr (off := 1) (o' := 1) (by kernel_rfl) rfl rfl) <| Rp (pu_indexAddrA (m := i - 1) (s := 1) (o' := 1 + (i - 1)) Tryz.underlying179 (by kernel_rfl) rfl rfl rfl (by omega) (by omega)) <| Rp (pu_loadK f_b_1 (by kernel_rfl) rfl (key_get (upto_lo (by omega) (by omega)))) <| Rp (pu_assign rfl) <| R_nil <| X_then hK6 <| C_seq fun K7 hK7 => C_seq fun K8 hK8 => C_region <| Rp (pu_move rfl) <| Rp (pu_rem (z := ((i % 8 : Nat) : Int)) rfl rfl (by omega) (by rfl)) <| R_nil <| X_then hK8 <| C_block <| C_seq fun K9 hK9 => C_region <| Rp (pu_eql (p := (i % 8) = 0) rfl rfl (by omega)) <| Rp (pu_assign rfl) <| R_nil <| X_then hK9 <| C_dec rfl (fun h18 => ?_) (fun h18 => ?_)
  ·
   refine C_seq fun K10 hK10 => D_begin (fun W => Kp (Ons [b, bx]) w W ∧ Bk W b (keyL bx (upto (wF K) (fun _ => 0) i 60)) 181 ∧ Sx W bx) 10 rfl (by kernel_rfl) ⟨kk1.drew, f_b_1.draw, S_1.draw⟩ ?_
   intro w2 k2 _
   have kk2 := kk1.thenNo k2
   refine Dt 0 rfl (fun W hS => pu_move rfl) <| Dt 1 rfl (fun W hS => pu_nilCheck rfl) <| Dt 2 rfl (fun W hS => pu_fieldAddr (off := 0) (o' := 0) (by kernel_rfl) rfl rfl) <| Dt 3 rfl (fun W hS => pu_loadK hS.2.1 (by kernel_rfl) rfl rfl) <| Dt 4 rfl (fun W hS => pu_move rfl) <| Dt 7 rfl (fun W hS => pu_move rfl) <| D_one 5 (by kernel_rfl) (Nx_lo rfl (lo_call (by kernel_rfl) rfl (rot32_8 (wF K (i - 1)) (wF_lt hK _ (by omega)) _)) rfl ?_)
   rintro _ w3 ⟨rfl, k3⟩
   have kk3 := kk2.thenNo k3
   have f11 := ((f_b_1.no k2).no k3)
   have o12 := ((S_1.no k2).no k3)
   refine ⟨⟨kk3, f11, o12⟩, ?_⟩
   refine D_one 6 (by kernel_rfl) (Nx_lo rfl (lo_call (by kernel_rfl) rfl (box_word bx (rot8 (wF K (i - 1))) (rot8_lt (wF_lt hK _ (by omega))) _ o12)) rfl ?_)
   rintro _ w4 ⟨rfl, T4, k4⟩
   have kk4 := kk3.trans k4 (On.sub (.inl Ons.mem1))
   have f13 := (f11.on k4 hne)
   refine ⟨⟨kk4, f13, T4⟩, ?_⟩
   refine Dt 8 rfl (fun W hS => pu_xor rfl rfl (u32_xor_nat (sW (rot8 (wF K (i - 1)))) (2 ^ (24 + (i - 1) / 8)) (sW_lt _) (one_lt hi))) <| Dt 9 rfl (fun W hS => pu_assign rfl) <| D_done (by kernel_rfl) <| X_then hK10 <| C_region <| Rp (pu_move rfl) <| Rp (pu_shlc (m := 1) (c := 2) (z := (((2 ^ (24 + (i - 1) / 8)) * 2 % 4294967296 : Nat) : Int)) rfl rfl (by decide) (by rw [IntKind.wrap_u32]; omega)) <| Rp (pu_assign rfl) <| R_nil <| X_in_normal <| X_then hK7 <| D_begin (fun W => Kp (Ons [b, bx]) w W ∧ Sx W bx) 15 rfl (by kernel_rfl) ⟨kk4.drew, T4.draw⟩ ?_
   intro w5 k5 _
   have kk5 := kk4.thenNo k5
   refine Dt 0 rfl (fun W hS => pu_move rfl) <| Dt 1 rfl (fun W hS => pu_move rfl) <| Dt 2 rfl (fun W hS => pu_move rfl) <| Dt 3 rfl (fun W hS => pu_move rfl) <| Dt 4 rfl (fun W hS => pu_sub (z := ((i - 8 : Nat) : Int)) rfl rfl (by rw [IntKind.wrap_i64]; omega)) <| Dt 5 rfl (fun W hS => pu_nilCheck rfl) <| Dt 6 rfl (fun W hS => pu_fieldAddr (off := 1) (o' := 1) (by kernel_rfl) rfl rfl) <| Dt 7 rfl (fun W hS => pu_indexAddrA (m := i - 8) (s := 1) (o' := 1 + (i - 8)) Tryz.underlying179 (by kernel_rfl) rfl rfl rfl (by omega) (by omega)) <| Dt 9 rfl (fun W hS => pu_move rfl) <| Dt 11 rfl (fun W hS => pu_nilCheck rfl) <| Dt 12 rfl (fun W hS => pu_fieldAddr (off := 1) (o' := 1) (by kernel_rfl) rfl rfl) ?_
   have f14 := (f13.no k5)
   have o15 := (T4.no k5)
   refine D_one 8 (by kernel_rfl) (Nx_pu rfl (pu_loadK f14 (by kernel_rfl) rfl (key_get (upto_lo (by omega) (by omega)))) rfl ⟨⟨kk5, o15⟩, ?_⟩)
   refine Dt 10 rfl (fun W hS => pu_xor rfl rfl (u32_xor_nat (wF K (i - 8)) ((sW (rot8 (wF K (i - 1)))) ^^^ (2 ^ (24 + (i - 1) / 8))) (wF_lt hK _ (by omega)) (Nat.xor_lt_two_pow (n := 32) (sW_lt _) (one_lt hi)))) <| Dt 13 rfl (fun W hS => pu_indexAddrA (m := i) (s := 1) (o' := 1 + i) Tryz.underlying179 (by kernel_rfl) rfl rfl rfl (by omega) (by omega)) <| D_one 14 (by kernel_rfl) (Nx_lo0 rfl (lo_store f14 (by kernel_rfl) rfl rfl rfl (by rw [keyL_length (n := 60) (upto_length _ _ _ _)]; omega)) ?_)
   rintro _ w6 kf6
   obtain ⟨k6, f_b_6⟩ := kf6
   replace f_b_6 := Bk.eq f_b_6 key_set
   replace f_b_6 : Bk w6 b (keyL bx ((upto (wF K) (fun _ => 0) i 60).set i ((wF K (i - 8)) ^^^ ((sW (rot8 (wF K (i - 1)))) ^^^ (2 ^ (24 + (i - 1) / 8)))))) 181 := f_b_6
   have kk6 := kk5.trans k6 (On.sub (.inl Ons.mem0))
   have o16 := (o15.on k6 (Ne.symm hne))
   refine ⟨⟨kk6, o16⟩, ?_⟩
   refine D_done (by kernel_rfl) <| X_in_normal <| X_then hK5 <| C_region <| Rp (pu_move rfl) <| Rp (pu_add (z := ((i + 1 : Nat) : Int)) rfl rfl (by rw [IntKind.wrap_i64]; omega)) <| Rp (pu_assign rfl) <| R_nil <| X_round (60 - (i + 1)) [(0, .pointer (some ⟨b, 0, none⟩)), (2, .int .u32 ((2 ^ (24 + ((i + 1) - 1) / 8) : Nat) : Int)), (3, .int .i64 (((i + 1) : Nat) : Int))] (by omega) (Sub.cons rfl (Sub.consE rfl (by rw [one_yes h8 h6 h18]) (Sub.cons rfl (Sub.nil _)))) ⟨i + 1, rfl, rfl, by omega, by omega, kk6, Bk.eq f_b_6 (congrArg (keyL bx) (upto_set (nx_rot h8 h18))), o16⟩
  ·
   refine C_seq fun K17 hK17 => C_region <| Rp (pu_eql (p := (i % 8) = 4) rfl rfl (by omega)) <| Rp (pu_assign rfl) <| R_nil <| X_then hK17 <| C_dec rfl (fun h31 => ?_) (fun h31 => ?_)
   ·
    refine C_region <| Rp (pu_move rfl) <| Rp (pu_nilCheck rfl) <| Rp (pu_fieldAddr (off := 0) (o' := 0) (by kernel_rfl) rfl rfl) <| Rp (pu_loadK f_b_1 (by kernel_rfl) rfl rfl) <| Rp (pu_move rfl) <| R_lo (lo_call (by kernel_rfl) rfl (box_word bx (wF K (i - 1)) (wF_lt hK _ (by omega)) _ S_1)) rfl ?_
    rintro _ w7 ⟨rfl, T7, k7⟩
    have kk7 := kk1.trans k7 (On.sub (.inl Ons.mem1))
    refine Rp (pu_assign rfl) <| R_nil <| X_in_normal <| X_then hK7 <| D_begin (fun W => Kp (Ons [b, bx]) w W ∧ Sx W bx) 15 rfl (by kernel_rfl) ⟨kk7.drew, T7.draw⟩ ?_
    intro w8 k8 _
    have kk8 := kk7.thenNo k8
    refine Dt 0 rfl (fun W hS => pu_move rfl) <| Dt 1 rfl (fun W hS => pu_move rfl) <| Dt 2 rfl (fun W hS => pu_move rfl) <| Dt 3 rfl (fun W hS => pu_move rfl) <| Dt 4 rfl (fun W hS => pu_sub (z := ((i - 8 : Nat) : Int)) rfl rfl (by rw [IntKind.wrap_i64]; omega)) <| Dt 5 rfl (fun W hS => pu_nilCheck rfl) <| Dt 6 rfl (fun W hS => pu_fieldAddr (off := 1) (o' := 1) (by kernel_rfl) rfl rfl) <| Dt 7 rfl (fun W hS => pu_indexAddrA (m := i - 8) (s := 1) (o' := 1 + (i - 8)) Tryz.underlying179 (by kernel_rfl) rfl rfl rfl (by omega) (by omega)) <| Dt 9 rfl (fun W hS => pu_move rfl) <| Dt 11 rfl (fun W hS => pu_nilCheck rfl) <| Dt 12 rfl (fun W hS => pu_fieldAddr (off := 1) (o' := 1) (by kernel_rfl) rfl rfl) ?_
    have f18 := ((f_b_1.on k7 hne).no k8)
    have o19 := (T7.no k8)
    refine D_one 8 (by kernel_rfl) (Nx_pu rfl (pu_loadK f18 (by kernel_rfl) rfl (key_get (upto_lo (by omega) (by omega)))) rfl ⟨⟨kk8, o19⟩, ?_⟩)
    refine Dt 10 rfl (fun W hS => pu_xor rfl rfl (u32_xor_nat (wF K (i - 8)) (sW (wF K (i - 1))) (wF_lt hK _ (by omega)) (sW_lt _))) <| Dt 13 rfl (fun W hS => pu_indexAddrA (m := i) (s := 1) (o' := 1 + i) Tryz.underlying179 (by kernel_rfl) rfl rfl rfl (by omega) (by omega)) <| D_one 14 (by kernel_rfl) (Nx_lo0 rfl (lo_store f18 (by kernel_rfl) rfl rfl rfl (by rw [keyL_length (n := 60) (upto_length _ _ _ _)]; omega)) ?_)
    rintro _ w9 kf9
    obtain ⟨k9, f_b_9⟩ := kf9
    replace f_b_9 := Bk.eq f_b_9 key_set
    replace f_b_9 : Bk w9 b (keyL bx ((upto (wF K) (fun _ => 0) i 60).set i ((wF K (i - 8)) ^^^ (sW (wF K (i - 1)))))) 181 := f_b_9
    have kk9 := kk8.trans k9 (On.sub (.inl Ons.mem0))
    have o20 := (o19.on k9 (Ne.symm hne))
    refine ⟨⟨kk9, o20⟩, ?_⟩
    refine D_done (by kernel_rfl) <| X_in_normal <| X_then hK5 <| C_region <| Rp (pu_move rfl) <| Rp (pu_add (z := ((i + 1 : Nat) : Int)) rfl rfl (by rw [IntKind.wrap_i64]; omega)) <| Rp (pu_assign rfl) <| R_nil <| X_round (60 - (i + 1)) [(0, .pointer (some ⟨b, 0, none⟩)), (2, .int .u32 ((2 ^ (24 + ((i + 1) - 1) / 8) : Nat) : Int)), (3, .int .i64 (((i + 1) : Nat) : Int))] (by omega) (Sub.cons rfl (Sub.consE rfl (by rw [one_no h8 h18]) (Sub.cons rfl (Sub.nil _)))) ⟨i + 1, rfl, rfl, by omega, by omega, kk9, Bk.eq f_b_9 (congrArg (keyL bx) (upto_set (nx_sub h8 h31))), o20⟩
   ·
    refine C_skip <| X_in_normal <| X_then hK7 <| D_begin (fun W => Kp (Ons [b, bx]) w W ∧ Sx W bx) 15 rfl (by kernel_rfl) ⟨kk1.drew, S_1.draw⟩ ?_
    intro w10 k10 _
    have kk10 := kk1.thenNo k10
    refine Dt 0 rfl (fun W hS => pu_move rfl) <| Dt 1 rfl (fun W hS => pu_move rfl) <| Dt 2 rfl (fun W hS => pu_move rfl) <| Dt 3 rfl (fun W hS => pu_move rfl) <| Dt 4 rfl (fun W hS => pu_sub (z := ((i - 8 : Nat) : Int)) rfl rfl (by rw [IntKind.wrap_i64]; omega)) <| Dt 5 rfl (fun W hS => pu_nilCheck rfl) <| Dt 6 rfl (fun W hS => pu_fieldAddr (off := 1) (o' := 1) (by kernel_rfl) rfl rfl) <| Dt 7 rfl (fun W hS => pu_indexAddrA (m := i - 8) (s := 1) (o' := 1 + (i - 8)) Tryz.underlying179 (by kernel_rfl) rfl rfl rfl (by omega) (by omega)) <| Dt 9 rfl (fun W hS => pu_move rfl) <| Dt 11 rfl (fun W hS => pu_nilCheck rfl) <| Dt 12 rfl (fun W hS => pu_fieldAddr (off := 1) (o' := 1) (by kernel_rfl) rfl rfl) ?_
    have f21 := (f_b_1.no k10)
    have o22 := (S_1.no k10)
    refine D_one 8 (by kernel_rfl) (Nx_pu rfl (pu_loadK f21 (by kernel_rfl) rfl (key_get (upto_lo (by omega) (by omega)))) rfl ⟨⟨kk10, o22⟩, ?_⟩)
    refine Dt 10 rfl (fun W hS => pu_xor rfl rfl (u32_xor_nat (wF K (i - 8)) (wF K (i - 1)) (wF_lt hK _ (by omega)) (wF_lt hK _ (by omega)))) <| Dt 13 rfl (fun W hS => pu_indexAddrA (m := i) (s := 1) (o' := 1 + i) Tryz.underlying179 (by kernel_rfl) rfl rfl rfl (by omega) (by omega)) <| D_one 14 (by kernel_rfl) (Nx_lo0 rfl (lo_store f21 (by kernel_rfl) rfl rfl rfl (by rw [keyL_length (n := 60) (upto_length _ _ _ _)]; omega)) ?_)
    rintro _ w11 kf11
    obtain ⟨k11, f_b_11⟩ := kf11
    replace f_b_11 := Bk.eq f_b_11 key_set
    replace f_b_11 : Bk w11 b (keyL bx ((upto (wF K) (fun _ => 0) i 60).set i ((wF K (i - 8)) ^^^ (wF K (i - 1))))) 181 := f_b_11
    have kk11 := kk10.trans k11 (On.sub (.inl Ons.mem0))
    have o23 := (o22.on k11 (Ne.symm hne))
    refine ⟨⟨kk11, o23⟩, ?_⟩
    refine D_done (by kernel_rfl) <| X_in_normal <| X_then hK5 <| C_region <| Rp (pu_move rfl) <| Rp (pu_add (z := ((i + 1 : Nat) : Int)) rfl rfl (by rw [IntKind.wrap_i64]; omega)) <| Rp (pu_assign rfl) <| R_nil <| X_round (60 - (i + 1)) [(0, .pointer (some ⟨b, 0, none⟩)), (2, .int .u32 ((2 ^ (24 + ((i + 1) - 1) / 8) : Nat) : Int)), (3, .int .i64 (((i + 1) : Nat) : Int))] (by omega) (Sub.cons rfl (Sub.consE rfl (by rw [one_no h8 h18]) (Sub.cons rfl (Sub.nil _)))) ⟨i + 1, rfl, rfl, by omega, by omega, kk11, Bk.eq f_b_11 (congrArg (keyL bx) (upto_set (nx_not h8 h18 h31))), o23⟩
 ·
  refine C_exit <| X_then_exit (X_then_exit (X_in_eq ?_))
  exact X_ret0 (.inr rfl) rfl ⟨rfl, by rw [show KW K = upto (wF K) (fun _ => 0) i 60 by rw [show i = 60 by omega, upto_all _ _ (Nat.le_refl _)]; rfl]; exact f_b_1, S_1, kk1⟩
theorem aes_new (A : Option Addr) (l : List Nat) (c : Nat) (w : World) (HB : Bs w A l) (hc : l.length ≤ c) (hl : l.length = 32) : Ret Tryz.prog 67 #[.slice A (l.length) (c)] w (fun v w' => ∃ b bx, v = .tuple #[.pointer (some ⟨b, 0, none⟩), .nilIface] ∧ w.heap.size ≤ b ∧ w.heap.size ≤ bx ∧ b ≠ bx ∧ Bk w' b (keyL bx (KW l)) 181 ∧ Sx w' bx ∧ Kp No w w') := by
 have kk0 := Kp.refl No w
 refine enter (n := 58) [.slice A (l.length) (c)] Tryz.func67 rfl rfl rfl ?_
 show Cw _ _ _ _ [(0, .slice A (l.length) (c))] _
 refine C_seq fun K1 hK1 => C_region <| Rp (pu_assign rfl) <| Rp (pu_assign rfl) <| R_nil <| X_then hK1 <| C_seq fun K2 hK2 => C_seq fun K3 hK3 => C_region <| Rp (pu_move rfl) <| Rp (pu_len Tryz.underlying22 rfl) <| Rp (pu_neq (p := l.length = 32) rfl rfl (by omega)) <| R_nil <| X_then hK3 <| C_decf rfl (fun h => h hl) <| C_skip <| X_then hK2 <| C_seq fun K4 hK4 => C_region <| R_lo (lo_call (by kernel_rfl) rfl (box_new _)) rfl ?_
 rintro _ w1 ⟨bx, rfl, le1, T1, k1⟩
 have kk1 := kk0.then_ k1
 refine Rp (pu_build (L := keyL bx (List.replicate 60 0)) rfl (by kernel_rfl)) <| R_lo (lo_box (L := keyL bx (List.replicate 60 0)) rfl rfl) rfl ?_
 rintro _ w2 ⟨b, rfl, N2⟩
 have k2 := N2.kp
 have kk2 := kk1.then_ k2
 have ne_b_bx := Nat.ne_of_gt (Nat.lt_of_lt_of_le T1.lt N2.le)
 have f_b_2 := N2.bk
 refine Rp (pu_assign rfl) <| R_nil <| X_then hK4 <| C_seq fun K5 hK5 => C_seq fun K6 hK6 => C_region <| Rp (pu_move rfl) <| R_nil <| X_then hK6 <| C_block ?_
 have o7 := (T1.no k2)
 refine C_loop (fun m_ l_ wr => ∃ i : Nat, (m_ = 8 - i) ∧ (l_ = [(0, .slice A (l.length) (c)), (2, .pointer none), (3, .nilIface), (4, .pointer (some ⟨b, 0, none⟩)), (13, .int .i64 ((i : Nat) : Int))]) ∧ (i ≤ 8) ∧ (Kp No w wr) ∧ (Bk wr b (keyL bx (upto (kb l) (fun _ => 0) i 60)) 181) ∧ (Sx wr bx)) (8 - 0) [(0, .slice A (l.length) (c)), (2, .pointer none), (3, .nilIface), (4, .pointer (some ⟨b, 0, none⟩)), (13, .int .i64 0)] (Sub.cons rfl (Sub.cons rfl (Sub.cons rfl (Sub.cons rfl (Sub.cons rfl (Sub.nil _)))))) ⟨0, rfl, rfl, by omega, kk2, Bk.eq f_b_2 (congrArg (keyL bx) (rep_upto _ _)), o7⟩ ?_
 rintro _ _ w3 ⟨i, rfl, rfl, hi, kk3, f_b_3, S_bx_3⟩
 refine C_seq fun K8 hK8 => C_region <| Rp (pu_lss (p := i < 8) rfl rfl (by omega)) <| R_nil <| X_then hK8 <| C_seq fun K9 hK9 => C_dec rfl (fun h14 => ?_) (fun h14 => ?_)
 ·
  refine C_skip <| X_then hK9 <| C_seq fun K10 hK10 => C_block <| C_seq fun K11 hK11 => C_region <| Rp (pu_move rfl) <| Rp (pu_assign rfl) <| R_nil <| X_then hK11 <| D_begin (fun W => Kp No w W ∧ Sx W bx) 39 rfl (by kernel_rfl) ⟨kk3.drew, S_bx_3.draw⟩ ?_
  intro w4 k4 _
  have kk4 := kk3.then_ k4
  refine Dt 0 rfl (fun W hS => pu_move rfl) <| Dt 1 rfl (fun W hS => pu_move rfl) <| Dt 2 rfl (fun W hS => pu_move rfl) <| Dt 3 rfl (fun W hS => pu_move rfl) <| Dt 4 rfl (fun W hS => pu_mul (z := ((4 * i : Nat) : Int)) rfl rfl (by rw [IntKind.wrap_i64]; omega)) <| Dt 5 rfl (fun W hS => pu_indexAddrB (m := 4 * i) (HB.keptNo hS.1) Tryz.underlying22 (by kernel_rfl) rfl rfl rfl rfl (by omega)) ?_
  obtain ⟨n0, e_n0⟩ : ∃ q_, (l)[4 * i]? = some q_ := ⟨_, List.getElem?_eq_getElem (by omega)⟩
  have b_n0 : n0 < 256 := ((HB.keptNo kk4)).lt e_n0
  refine Dt 6 rfl (fun W hS => pu_loadB (HB.keptNo hS.1) (by kernel_rfl) rfl e_n0) <| Dt 7 rfl (fun W hS => pu_conv (z := ((n0 : Nat) : Int)) Tryz.underlying5 Tryz.underlying32 rfl (by have : n0 < 256 := b_n0; rw [IntKind.wrap_u32]; omega)) <| Dt 8 rfl (fun W hS => pu_shlc (m := 24) (c := 16777216) (z := ((n0 * 16777216 % 4294967296 : Nat) : Int)) rfl rfl (by decide) (by rw [IntKind.wrap_u32]; omega)) <| Dt 9 rfl (fun W hS => pu_move rfl) <| Dt 10 rfl (fun W hS => pu_move rfl) <| Dt 11 rfl (fun W hS => pu_mul (z := ((4 * i : Nat) : Int)) rfl rfl (by rw [IntKind.wrap_i64]; omega)) <| Dt 12 rfl (fun W hS => pu_add (z := (((4 * i) + 1 : Nat) : Int)) rfl rfl (by rw [IntKind.wrap_i64]; omega)) <| Dt 13 rfl (fun W hS => pu_indexAddrB (m := (4 * i) + 1) (HB.keptNo hS.1) Tryz.underlying22 (by kernel_rfl) rfl rfl rfl rfl (by omega)) ?_
  obtain ⟨n1, e_n1⟩ : ∃ q_, (l)[(4 * i) + 1]? = some q_ := ⟨_, List.getElem?_eq_getElem (by omega)⟩
  have b_n1 : n1 < 256 := ((HB.keptNo kk4)).lt e_n1
  refine Dt 14 rfl (fun W hS => pu_loadB (HB.keptNo hS.1) (by kernel_rfl) rfl e_n1) <| Dt 15 rfl (fun W hS => pu_conv (z := ((n1 : Nat) : Int)) Tryz.underlying5 Tryz.underlying32 rfl (by have : n1 < 256 := b_n1; rw [IntKind.wrap_u32]; omega)) <| Dt 16 rfl (fun W hS => pu_shlc (m := 16) (c := 65536) (z := ((n1 * 65536 % 4294967296 : Nat) : Int)) rfl rfl (by decide) (by rw [IntKind.wrap_u32]; omega)) <| Dt 17 rfl (fun W hS => pu_or rfl rfl (u32_or_nat (n0 * 16777216 % 4294967296) (n1 * 65536 % 4294967296) (Nat.mod_lt _ (by decide)) (Nat.mod_lt _ (by decide)))) <| Dt 18 rfl (fun W hS => pu_move rfl) <| Dt 19 rfl (fun W hS => pu_move rfl) <| Dt 20 rfl (fun W hS => pu_mul (z := ((4 * i : Nat) : Int)) rfl rfl (by rw [IntKind.wrap_i64]; omega)) <| Dt 21 rfl (fun W hS => pu_add (z := (((4 * i) + 2 : Nat) : Int)) rfl rfl (by rw [IntKind.wrap_i64]; omega)) <| Dt 22 rfl (fun W hS => pu_indexAddrB (m := (4 * i) + 2) (HB.keptNo hS.1) Tryz.underlying22 (by kernel_rfl) rfl rfl rfl rfl (by omega)) ?_
  obtain ⟨n2, e_n2⟩ : ∃ q_, (l)[(4 * i) + 2]? = some q_ := ⟨_, List.getElem?_eq_getElem (by omega)⟩
  have b_n2 : n2 < 256 := ((HB.keptNo kk4)).lt e_n2
  refine Dt 23 rfl (fun W hS => pu_loadB (HB.keptNo hS.1) (by kernel_rfl) rfl e_n2) <| Dt 24 rfl (fun W hS => pu_conv (z := ((n2 : Nat) : Int)) Tryz.underlying5 Tryz.underlying32 rfl (by have : n2 < 256 := b_n2; rw [IntKind.wrap_u32]; omega)) <| Dt 25 rfl (fun W hS => pu_shlc (m := 8) (c := 256) (z := ((n2 * 256 % 4294967296 : Nat) : Int)) rfl rfl (by decide) (by rw [IntKind.wrap_u32]; omega)) <| Dt 26 rfl (fun W hS => pu_or rfl rfl (u32_or_nat ((n0 * 16777216 % 4294967296) ||| (n1 * 65536 % 4294967296)) (n2 * 256 % 4294967296) (Nat.or_lt_two_pow (n := 32) (Nat.mod_lt _ (by decide)) (Nat.mod_lt _ (by decide))) (Nat.mod_lt _ (by decide)))) <| Dt 27 rfl (fun W hS => pu_move rfl) <| Dt 28 rfl (fun W hS => pu_move rfl) <| Dt 29 rfl (fun W hS => pu_mul (z := ((4 * i : Nat) : Int)) rfl rfl (by rw [IntKind.wrap_i64]; omega)) <| Dt 30 rfl (fun W hS => pu_add (z := (((4 * i) + 3 : Nat) : Int)) rfl rfl (by rw [IntKind.wrap_i64]; omega)) <| Dt 31 rfl (fun W hS => pu_indexAddrB (m := (4 * i) + 3) (HB.keptNo hS.1) Tryz.underlying22 (by kernel_rfl) rfl rfl rfl rfl (by omega)) ?_
  obtain ⟨n3, e_n3⟩ : ∃ q_, (l)[(4 * i) + 3]? = some q_ := ⟨_, List.getElem?_eq_getElem (by omega)⟩
  have b_n3 : n3 < 256 := ((HB.keptNo kk4)).lt e_n3
  refine Dt 32 rfl (fun W hS => pu_loadB (HB.keptNo hS.1) (by kernel_rfl) rfl e_n3) <| Dt 33 rfl (fun W hS => pu_conv (z := ((n3 : Nat) : Int)) Tryz.underlying5 Tryz.underlying32 rfl (by have : n3 < 256 := b_n3; rw [IntKind.wrap_u32]; omega)) <| Dt 34 rfl (fun W hS => pu_or rfl rfl (u32_or_nat (((n0 * 16777216 % 4294967296) ||| (n1 * 65536 % 4294967296)) ||| (n2 * 256 % 4294967296)) n3 (Nat.or_lt_two_pow (n := 32) (Nat.or_lt_two_pow (n := 32) (Nat.mod_lt _ (by decide)) (Nat.mod_lt _ (by decide))) (Nat.mod_lt _ (by decide))) (Nat.lt_of_lt_of_le b_n3 (by decide)))) <| Dt 35 rfl (fun W hS => pu_nilCheck rfl) <| Dt 36 rfl (fun W hS => pu_fieldAddr (off := 1) (o' := 1) (by kernel_rfl) rfl rfl) <| Dt 37 rfl (fun W hS => pu_indexAddrA (m := i) (s := 1) (o' := 1 + i) Tryz.underlying179 (by kernel_rfl) rfl rfl rfl (by omega) (by omega)) ?_
  have f12 := (f_b_3.no k4)
  refine D_one 38 (by kernel_rfl) (Nx_lo0 rfl (lo_store f12 (by kernel_rfl) rfl rfl rfl (by rw [keyL_length (n := 60) (upto_length _ _ _ _)]; omega)) ?_)
  rintro _ w5 kf5
  obtain ⟨k5, f_b_5⟩ := kf5
  replace f_b_5 := Bk.eq f_b_5 key_set
  replace f_b_5 : Bk w5 b (keyL bx ((upto (kb l) (fun _ => 0) i 60).set i ((((n0 * 16777216 % 4294967296) ||| (n1 * 65536 % 4294967296)) ||| (n2 * 256 % 4294967296)) ||| n3))) 181 := f_b_5
  have kk5 := kk4.trans k5 (fun i hi => .inr (hi ▸ (Nat.le_trans kk1.size N2.le)))
  have o13 := ((S_bx_3.no k4).on k5 (Ne.symm ne_b_bx))
  refine ⟨⟨kk5, o13⟩, ?_⟩
  refine D_done (by kernel_rfl) <| X_in_normal <| X_then hK10 <| C_region <| Rp (pu_add (z := ((i + 1 : Nat) : Int)) rfl rfl (by rw [IntKind.wrap_i64]; omega)) <| Rp (pu_move rfl) <| R_nil <| X_round (8 - (i + 1)) [(0, .slice A (l.length) (c)), (2, .pointer none), (3, .nilIface), (4, .pointer (some ⟨b, 0, none⟩)), (13, .int .i64 (((i + 1) : Nat) : Int))] (by omega) (Sub.cons rfl (Sub.cons rfl (Sub.cons rfl (Sub.cons rfl (Sub.cons rfl (Sub.nil _)))))) ⟨i + 1, rfl, rfl, by omega, kk5, Bk.eq f_b_5 (congrArg (keyL bx) (upto_set (by unfold kb; rw [getD_some e_n0, getD_some e_n1, getD_some e_n2, getD_some e_n3]))), o13⟩
 ·
  refine C_exit <| X_then_exit (X_then_exit (X_in_eq ?_))
  refine X_then hK5 <| C_seq (fun K14 hK14 => ?_)
  have fE : Bk w3 b (keyL bx (upto (wF l) (fun _ => 0) 8 60)) 181 := Bk.eq f_b_3 (congrArg (keyL bx) (by rw [show i = 8 by omega, upto_kb]))
  refine C_region <| Rp (pu_move rfl) <| R_lo (lo_call (by kernel_rfl) rfl (aes_expand b bx l HB.byte _ ne_b_bx fE S_bx_3)) rfl ?_
  rintro _ w6 ⟨rfl, B6, T6, k6⟩
  have kk6 := kk3.trans k6 (Ons.subc (.inr (Nat.le_trans kk1.size N2.le)) (Ons.subc (.inr (Nat.le_trans kk0.size le1)) Ons.subn))
  exact R_nil <| X_then hK14 <| C_seq fun K15 hK15 => C_region <| Rp (pu_move rfl) <| Rp (pu_assign rfl) <| Rp (pu_assign rfl) <| R_nil <| X_then hK15 <| C_ret <| X_ret2 (.inl rfl) rfl rfl rfl ⟨b, bx, rfl, (Nat.le_trans kk1.size N2.le), (Nat.le_trans kk0.size le1), ne_b_bx, B6, T6, kk6⟩
theorem aes_add (b bx q : Nat) (Z : List Nat) (hW : Wy Z) (X : List Nat) (bX : By 16 X) (r : Nat) (hr : r ≤ 14) (w : World) (hne : b ≠ q) (hb : Bk w b (keyL bx Z) 181) (hq : Bk w q (u8s X) 134) : Ret Tryz.prog 82 #[.pointer (some ⟨b, 0, none⟩), .pointer (some ⟨q, 0, none⟩), .int .i64 ((r : Nat) : Int)] w (fun v w' => v = .tuple #[] ∧ Bk w' q (u8s (addR Z r X)) 134 ∧ Kp (On q) w w') := by
 have kk0 := Kp.refl (On q) w
 refine enter (n := 43) [.pointer (some ⟨b, 0, none⟩), .pointer (some ⟨q, 0, none⟩), .int .i64 ((r : Nat) : Int)] Tryz.func82 rfl rfl rfl ?_
 show Cw _ _ _ _ [(0, .pointer (some ⟨b, 0, none⟩)), (1, .pointer (some ⟨q, 0, none⟩)), (2, .int .i64 ((r : Nat) : Int))] _
 refine C_seq fun K1 hK1 => C_region <| Rp (pu_move rfl) <| R_nil <| X_then hK1 <| C_block <| C_loop (fun m_ l_ wr => ∃ c : Nat, (m_ = 4 - c) ∧ (l_ = [(0, .pointer (some ⟨b, 0, none⟩)), (1, .pointer (some ⟨q, 0, none⟩)), (2, .int .i64 ((r : Nat) : Int)), (9, .int .i64 ((c : Nat) : Int))]) ∧ (c ≤ 4) ∧ (Kp (On q) w wr) ∧ (Bk wr b (keyL bx (Z)) 181) ∧ (Bk wr q (u8s (adU Z r X (4 * c))) 134)) (4 - 0) [(0, .pointer (some ⟨b, 0, none⟩)), (1, .pointer (some ⟨q, 0, none⟩)), (2, .int .i64 ((r : Nat) : Int)), (9, .int .i64 0)] (Sub.cons rfl (Sub.cons rfl (Sub.cons rfl (Sub.cons rfl (Sub.nil _))))) ⟨0, rfl, rfl, by omega, kk0, hb, Bk.eq hq (congrArg u8s (adU_zero bX r))⟩ ?_
 rintro _ _ w1 ⟨c, rfl, rfl, hc, kk1, f_b_1, f_q_1⟩
 refine C_seq fun K2 hK2 => C_region <| Rp (pu_lss (p := c < 4) rfl rfl (by omega)) <| R_nil <| X_then hK2 <| C_seq fun K3 hK3 => C_dec rfl (fun h10 => ?_) (fun h10 => ?_)
 ·
  refine C_skip <| X_then hK3 <| C_seq fun K4 hK4 => C_block <| C_seq fun K5 hK5 => C_region <| Rp (pu_move rfl) <| Rp (pu_assign rfl) <| R_nil <| X_then hK5 <| C_seq fun K6 hK6 => C_region <| Rp (pu_move rfl) <| Rp (pu_move rfl) <| Rp (pu_mul (z := ((4 * r : Nat) : Int)) rfl rfl (by rw [IntKind.wrap_i64]; omega)) <| Rp (pu_move rfl) <| Rp (pu_add (z := (((4 * r) + c : Nat) : Int)) rfl rfl (by rw [IntKind.wrap_i64]; omega)) <| Rp (pu_nilCheck rfl) <| Rp (pu_fieldAddr (off := 1) (o' := 1) (by kernel_rfl) rfl rfl) <| Rp (pu_indexAddrA (m := (4 * r) + c) (s := 1) (o' := 1 + ((4 * r) + c)) Tryz.underlying179 (by kernel_rfl) rfl rfl rfl (by omega) (by omega)) <| Rp (pu_loadK f_b_1 (by kernel_rfl) rfl (key_get (hW.get (by omega)))) <| Rp (pu_assign rfl) <| R_nil <| X_then hK6 <| C_seq fun K7 hK7 => C_region <| Rp (pu_move rfl) <| R_nil <| X_then hK7 <| C_block <| C_loop (fun m_ l_ wr => ∃ i : Nat, (m_ = 4 - i) ∧ (l_ = [(0, .pointer (some ⟨b, 0, none⟩)), (1, .pointer (some ⟨q, 0, none⟩)), (2, .int .i64 ((r : Nat) : Int)), (6, .int .i64 ((c : Nat) : Int)), (7, .int .u32 ((Z.getD ((4 * r) + c) 0 : Nat) : Int)), (9, .int .i64 ((c : Nat) : Int)), (21, .int .i64 ((i : Nat) : Int))]) ∧ (i ≤ 4) ∧ (Kp (On q) w wr) ∧ (Bk wr b (keyL bx (Z)) 181) ∧ (Bk wr q (u8s (adU Z r X (4 * c + i))) 134)) (4 - 0) [(0, .pointer (some ⟨b, 0, none⟩)), (1, .pointer (some ⟨q, 0, none⟩)), (2, .int .i64 ((r : Nat) : Int)), (6, .int .i64 ((c : Nat) : Int)), (7, .int .u32 ((Z.getD ((4 * r) + c) 0 : Nat) : Int)), (9, .int .i64 ((c : Nat) : Int)), (21, .int .i64 0)] (Sub.cons rfl (Sub.cons rfl (Sub.cons rfl (Sub.cons rfl (Sub.cons rfl (Sub.cons rfl (Sub.cons rfl (Sub.nil _)))))))) ⟨0, rfl, rfl, by omega, kk1, f_b_1, Bk.eq f_q_1 (congrArg u8s rfl)⟩ ?_
  rintro _ _ w2 ⟨i, rfl, rfl, hi, kk2, f_b_2, f_q_2⟩
  refine C_seq fun K8 hK8 => C_region <| Rp (pu_lss (p := i < 4) rfl rfl (by omega)) <| R_nil <| X_then hK8 <| C_seq fun K9 hK9 => C_dec rfl (fun h22 => ?_) (fun h22 => ?_)
  ·
   refine C_skip <| X_then hK9 <| C_seq fun K10 hK10 => C_block <| C_seq fun K11 hK11 => C_region <| Rp (pu_move rfl) <| Rp (pu_assign rfl) <| R_nil <| X_then hK11 <| D_begin (fun W => Kp (On q) w W ∧ Bk W b (keyL bx (Z)) 181) 18 rfl (by kernel_rfl) ⟨kk2.drew, f_b_2.draw⟩ ?_
   intro w3 k3 _
   have kk3 := kk2.thenNo k3
   refine Dt 0 rfl (fun W hS => pu_move rfl) <| Dt 1 rfl (fun W hS => pu_move rfl) <| Dt 2 rfl (fun W hS => pu_mul (z := ((4 * c : Nat) : Int)) rfl rfl (by rw [IntKind.wrap_i64]; omega)) <| Dt 3 rfl (fun W hS => pu_move rfl) <| Dt 4 rfl (fun W hS => pu_add (z := (((4 * c) + i : Nat) : Int)) rfl rfl (by rw [IntKind.wrap_i64]; omega)) <| Dt 5 rfl (fun W hS => pu_nilCheck rfl) <| Dt 6 rfl (fun W hS => pu_indexAddrA (m := (4 * c) + i) (s := 1) (o' := (4 * c) + i) Tryz.underlying134 (by kernel_rfl) rfl rfl rfl (by omega) (by omega)) <| Dt 8 rfl (fun W hS => pu_move rfl) <| Dt 9 rfl (fun W hS => pu_move rfl) <| Dt 10 rfl (fun W hS => pu_mul (z := ((8 * i : Nat) : Int)) rfl rfl (by rw [IntKind.wrap_i64]; omega)) <| Dt 11 rfl (fun W hS => pu_sub (z := ((24 - (8 * i) : Nat) : Int)) rfl rfl (by rw [IntKind.wrap_i64]; omega)) <| Dt 12 rfl (fun W hS => pu_shr (m := 24 - (8 * i)) rfl rfl (shr_nat (Z.getD ((4 * r) + c) 0) (24 - (8 * i)) (by simp only [IntKind.bits]; omega))) <| Dt 13 rfl (fun W hS => pu_conv (z := ((((Z.getD ((4 * r) + c) 0) / 2 ^ (24 - (8 * i))) % 256 : Nat) : Int)) Tryz.underlying32 Tryz.underlying5 rfl (by have : (Z.getD ((4 * r) + c) 0) / 2 ^ (24 - (8 * i)) < 4294967296 := (show (Z.getD ((4 * r) + c) 0) / 2 ^ (24 - (8 * i)) < 2 ^ 32 from Nat.lt_of_le_of_lt (Nat.div_le_self _ _) (hW.lt _)); rw [IntKind.wrap_u8]; omega)) ?_
   refine Dt 15 rfl (fun W hS => pu_nilCheck rfl) ?_
   obtain ⟨n, e_n⟩ : ∃ q_, (adU Z r X (4 * c + i))[(4 * c) + i]? = some q_ := ⟨_, List.getElem?_eq_getElem (by rw [((adU_by bX r _)).1]; omega)⟩
   have b_n : n < 256 := ((adU_by bX r _)).2 _ (List.mem_of_getElem? e_n)
   have f12 := (f_q_2.no k3)
   have f13 := (f_b_2.no k3)
   refine D_one 7 (by kernel_rfl) (Nx_pu rfl (pu_loadK f12 (by kernel_rfl) rfl (u8s_get e_n)) rfl ⟨⟨kk3, f13⟩, ?_⟩)
   refine Dt 14 rfl (fun W hS => pu_xor rfl rfl (u8_xor_nat n (((Z.getD ((4 * r) + c) 0) / 2 ^ (24 - (8 * i))) % 256) b_n (Nat.mod_lt _ (by decide)))) <| Dt 16 rfl (fun W hS => pu_indexAddrA (m := (4 * c) + i) (s := 1) (o' := (4 * c) + i) Tryz.underlying134 (by kernel_rfl) rfl rfl rfl (by omega) (by omega)) <| D_one 17 (by kernel_rfl) (Nx_lo0 rfl (lo_store f12 (by kernel_rfl) rfl rfl rfl (by rw [u8s_length, (adU_by bX r _).1]; omega)) ?_)
   rintro _ w4 kf4
   obtain ⟨k4, f_q_4⟩ := kf4
   replace f_q_4 := Bk.eq f_q_4 (u8s_set _ _ (n ^^^ (((Z.getD ((4 * r) + c) 0) / 2 ^ (24 - (8 * i))) % 256)))
   replace f_q_4 : Bk w4 q (u8s ((adU Z r X (4 * c + i)).set ((4 * c) + i) (n ^^^ (((Z.getD ((4 * r) + c) 0) / 2 ^ (24 - (8 * i))) % 256)))) 134 := f_q_4
   have kk4 := kk3.trans k4 (fun i hi => .inl hi)
   have f14 := (f13.on k4 hne)
   refine ⟨⟨kk4, f14⟩, ?_⟩
   refine D_done (by kernel_rfl) <| X_in_normal <| X_then hK10 <| C_region <| Rp (pu_add (z := ((i + 1 : Nat) : Int)) rfl rfl (by rw [IntKind.wrap_i64]; omega)) <| Rp (pu_move rfl) <| R_nil <| X_round (4 - (i + 1)) [(0, .pointer (some ⟨b, 0, none⟩)), (1, .pointer (some ⟨q, 0, none⟩)), (2, .int .i64 ((r : Nat) : Int)), (6, .int .i64 ((c : Nat) : Int)), (7, .int .u32 ((Z.getD ((4 * r) + c) 0 : Nat) : Int)), (9, .int .i64 ((c : Nat) : Int)), (21, .int .i64 (((i + 1) : Nat) : Int))] (by omega) (Sub.cons rfl (Sub.cons rfl (Sub.cons rfl (Sub.cons rfl (Sub.cons rfl (Sub.cons rfl (Sub.cons rfl (Sub.nil _)))))))) ⟨i + 1, rfl, rfl, by omega, kk4, f14, Bk.eq f_q_4 (congrArg u8s (adU_step h22 e_n))⟩
  ·
   refine C_exit <| X_then_exit (X_then_exit (X_in_eq ?_))
   refine X_in_normal <| X_then hK4 <| C_region <| Rp (pu_add (z := ((c + 1 : Nat) : Int)) rfl rfl (by rw [IntKind.wrap_i64]; omega)) <| Rp (pu_move rfl) <| R_nil <| X_round (4 - (c + 1)) [(0, .pointer (some ⟨b, 0, none⟩)), (1, .pointer (some ⟨q, 0, none⟩)), (2, .int .i64 ((r : Nat) : Int)), (9, .int .i64 (((c + 1) : Nat) : Int))] (by omega) (Sub.cons rfl (Sub.cons rfl (Sub.cons rfl (Sub.cons rfl (Sub.nil _))))) ⟨c + 1, rfl, rfl, by omega, kk2, f_b_2, Bk.eq f_q_2 (congrArg u8s (by rw [show 4 * c + i = 4 * (c + 1) by omega]))⟩
 ·
  refine C_exit <| X_then_exit (X_then_exit (X_in_eq ?_))
  exact X_ret0 (.inr rfl) rfl ⟨rfl, by rw [← adU_all, show 16 = 4 * c by omega]; exact f_q_1, kk1⟩
theorem aes_rows (b bx : Nat) (Z : List Nat) (hW : Wy Z) (X : List Nat) (bX : By 16 X) (w : World) (hne : b ≠ bx) (hb : Bk w b (keyL bx Z) 181) (hS : Sx w bx) : Ret Tryz.prog 83 #[.pointer (some ⟨b, 0, none⟩), .agg (u8s X : List Value).toArray] w (fun v w' => v = .agg (u8s (rowsR X)).toArray ∧ Sx w' bx ∧ Kp (On bx) w w') := by
 have kk0 := Kp.refl (On bx) w
 refine enter (n := 36) [.pointer (some ⟨b, 0, none⟩), .agg (u8s X : List Value).toArray] Tryz.func83 rfl rfl rfl ?_
 show Cw _ _ _ _ [(0, .pointer (some ⟨b, 0, none⟩)), (1, .agg (u8s X : List Value).toArray)] _
 refine C_seq fun K1 hK1 => C_region <| R_lo (lo_box (L := u8s X) rfl rfl) rfl ?_
 rintro _ w1 ⟨px, rfl, N1⟩
 have k1 := N1.kp
 have kk1 := kk0.thenNo k1
 have ne_px_bx := Nat.ne_of_gt (Nat.lt_of_lt_of_le hS.lt N1.le)
 have f_px_1 := N1.bk
 have f2 := (hb.no k1)
 have o3 := (hS.no k1)
 refine R_lo (lo_alloc (L := u8s (List.replicate 16 0)) (by kernel_rfl)) rfl ?_
 rintro _ w2 ⟨p0_1, rfl, N2⟩
 have k2 := N2.kp
 have kk2 := kk1.thenNo k2
 have ne_p0_1_bx := Nat.ne_of_gt (Nat.lt_of_lt_of_le o3.lt N2.le)
 have f_p0_1_2 := N2.bk
 refine R_nil <| X_then hK1 <| C_seq fun K4 hK4 => C_region ?_
 have f5 := (f2.no k2)
 have f6 := (f_px_1.no k2)
 have o7 := (o3.no k2)
 refine R_lo (lo_alloc (L := u8s (List.replicate 16 0)) (by kernel_rfl)) rfl ?_
 rintro _ w3 ⟨q, rfl, N3⟩
 have k3 := N3.kp
 have kk3 := kk2.thenNo k3
 have ne_q_b := Nat.ne_of_gt (Nat.lt_of_lt_of_le f5.lt N3.le)
 have ne_q_px := Nat.ne_of_gt (Nat.lt_of_lt_of_le f6.lt N3.le)
 have ne_q_p0_1 := Nat.ne_of_gt (Nat.lt_of_lt_of_le f_p0_1_2.lt N3.le)
 have ne_q_bx := Nat.ne_of_gt (Nat.lt_of_lt_of_le o7.lt N3.le)
 have f_q_3 := N3.bk
 refine R_nil <| X_then hK4 <| C_seq fun K8 hK8 => C_seq fun K9 hK9 => C_region <| Rp (pu_move rfl) <| R_nil <| X_then hK9 <| C_block ?_
 have f10 := (f5.no k3)
 have f11 := (f6.no k3)
 have f12 := (f_p0_1_2.no k3)
 have o13 := (o7.no k3)
 refine C_loop (fun m_ l_ wr => ∃ c : Nat, (m_ = 4 - c) ∧ (l_ = [(0, .pointer (some ⟨b, 0, none⟩)), (3, .pointer (some ⟨px, 0, none⟩)), (4, .pointer (some ⟨p0_1, 0, none⟩)), (5, .pointer (some ⟨q, 0, none⟩)), (8, .int .i64 ((c : Nat) : Int))]) ∧ (c ≤ 4) ∧ (Kp (On bx) w wr) ∧ (Bk wr b (keyL bx (Z)) 181) ∧ (Bk wr px (u8s X) 134) ∧ (Bk wr p0_1 (u8s (List.replicate 16 0)) 134) ∧ (Bk wr q (u8s (rwU X (4 * c))) 134) ∧ (Sx wr bx)) (4 - 0) [(0, .pointer (some ⟨b, 0, none⟩)), (3, .pointer (some ⟨px, 0, none⟩)), (4, .pointer (some ⟨p0_1, 0, none⟩)), (5, .pointer (some ⟨q, 0, none⟩)), (8, .int .i64 0)] (Sub.cons rfl (Sub.cons rfl (Sub.cons rfl (Sub.cons rfl (Sub.cons rfl (Sub.nil _)))))) ⟨0, rfl, rfl, by omega, kk3, f10, f11, f12, Bk.eq f_q_3 (congrArg u8s (rep_upto _ _)), o13⟩ ?_
 rintro _ _ w4 ⟨c, rfl, rfl, hc, kk4, f_b_4, f_px_4, f_p0_1_4, f_q_4, S_4⟩
 refine C_seq fun K14 hK14 => C_region <| Rp (pu_lss (p := c < 4) rfl rfl (by omega)) <| R_nil <| X_then hK14 <| C_seq fun K15 hK15 => C_dec rfl (fun h9 => ?_) (fun h9 => ?_)
 ·
  refine C_skip <| X_then hK15 <| C_seq fun K16 hK16 => C_block <| C_seq fun K17 hK17 => C_region <| Rp (pu_move rfl) <| Rp (pu_assign rfl) <| R_nil <| X_then hK17 <| C_seq fun K18 hK18 => C_region <| Rp (pu_move rfl) <| R_nil <| X_then hK18 <| C_block <| C_loop (fun m_ l_ wr => ∃ i : Nat, (m_ = 4 - i) ∧ (l_ = [(0, .pointer (some ⟨b, 0, none⟩)), (3, .pointer (some ⟨px, 0, none⟩)), (4, .pointer (some ⟨p0_1, 0, none⟩)), (5, .pointer (some ⟨q, 0, none⟩)), (6, .int .i64 ((c : Nat) : Int)), (8, .int .i64 ((c : Nat) : Int)), (11, .int .i64 ((i : Nat) : Int))]) ∧ (i ≤ 4) ∧ (Kp (On bx) w wr) ∧ (Bk wr b (keyL bx (Z)) 181) ∧ (Bk wr px (u8s X) 134) ∧ (Bk wr p0_1 (u8s (List.replicate 16 0)) 134) ∧ (Bk wr q (u8s (rwU X (4 * c + i))) 134) ∧ (Sx wr bx)) (4 - 0) [(0, .pointer (some ⟨b, 0, none⟩)), (3, .pointer (some ⟨px, 0, none⟩)), (4, .pointer (some ⟨p0_1, 0, none⟩)), (5, .pointer (some ⟨q, 0, none⟩)), (6, .int .i64 ((c : Nat) : Int)), (8, .int .i64 ((c : Nat) : Int)), (11, .int .i64 0)] (Sub.cons rfl (Sub.cons rfl (Sub.cons rfl (Sub.cons rfl (Sub.cons rfl (Sub.cons rfl (Sub.cons rfl (Sub.nil _)))))))) ⟨0, rfl, rfl, by omega, kk4, f_b_4, f_px_4, f_p0_1_4, Bk.eq f_q_4 (congrArg u8s rfl), S_4⟩ ?_
  rintro _ _ w5 ⟨i, rfl, rfl, hi, kk5, f_b_5, f_px_5, f_p0_1_5, f_q_5, S_5⟩
  refine C_seq fun K19 hK19 => C_region <| Rp (pu_lss (p := i < 4) rfl rfl (by omega)) <| R_nil <| X_then hK19 <| C_seq fun K20 hK20 => C_dec rfl (fun h12 => ?_) (fun h12 => ?_)
  ·
   refine C_skip <| X_then hK20 <| C_seq fun K21 hK21 => C_block <| C_seq fun K22 hK22 => C_region <| Rp (pu_move rfl) <| Rp (pu_assign rfl) <| R_nil <| X_then hK22 <| D_begin (fun W => Kp (On bx) w W ∧ Bk W b (keyL bx (Z)) 181 ∧ Bk W px (u8s X) 134 ∧ Bk W p0_1 (u8s (List.replicate 16 0)) 134 ∧ Sx W bx) 20 rfl (by kernel_rfl) ⟨kk5.drew, f_b_5.draw, f_px_5.draw, f_p0_1_5.draw, S_5.draw⟩ ?_
   intro w6 k6 _
   have kk6 := kk5.thenNo k6
   refine Dt 0 rfl (fun W hS => pu_move rfl) <| Dt 1 rfl (fun W hS => pu_mul (z := ((4 * c : Nat) : Int)) rfl rfl (by rw [IntKind.wrap_i64]; omega)) <| Dt 2 rfl (fun W hS => pu_move rfl) <| Dt 3 rfl (fun W hS => pu_add (z := (((4 * c) + i : Nat) : Int)) rfl rfl (by rw [IntKind.wrap_i64]; omega)) <| Dt 4 rfl (fun W hS => pu_move rfl) <| Dt 5 rfl (fun W hS => pu_nilCheck rfl) <| Dt 6 rfl (fun W hS => pu_fieldAddr (off := 0) (o' := 0) (by kernel_rfl) rfl rfl) <| Dt 7 rfl (fun W hS => pu_loadK hS.2.1 (by kernel_rfl) rfl rfl) <| Dt 8 rfl (fun W hS => pu_move rfl) <| Dt 9 rfl (fun W hS => pu_move rfl) <| Dt 10 rfl (fun W hS => pu_add (z := ((c + i : Nat) : Int)) rfl rfl (by rw [IntKind.wrap_i64]; omega)) <| Dt 11 rfl (fun W hS => pu_rem (z := (((c + i) % 4 : Nat) : Int)) rfl rfl (by omega) (by rfl)) <| Dt 12 rfl (fun W hS => pu_mul (z := ((4 * ((c + i) % 4) : Nat) : Int)) rfl rfl (by rw [IntKind.wrap_i64]; omega)) <| Dt 13 rfl (fun W hS => pu_move rfl) <| Dt 14 rfl (fun W hS => pu_add (z := (((4 * ((c + i) % 4)) + i : Nat) : Int)) rfl rfl (by rw [IntKind.wrap_i64]; omega)) <| Dt 15 rfl (fun W hS => pu_indexAddrA (m := (4 * ((c + i) % 4)) + i) (s := 1) (o' := (4 * ((c + i) % 4)) + i) Tryz.underlying134 (by kernel_rfl) rfl rfl rfl (by omega) (by omega)) ?_
   obtain ⟨n, e_n⟩ : ∃ q_, (X)[(4 * ((c + i) % 4)) + i]? = some q_ := ⟨_, List.getElem?_eq_getElem (by rw [(bX).1]; omega)⟩
   have b_n : n < 256 := (bX).2 _ (List.mem_of_getElem? e_n)
   refine Dt 16 rfl (fun W hS => pu_loadK hS.2.2.1 (by kernel_rfl) rfl (u8s_get e_n)) ?_
   have o23 := (S_5.no k6)
   refine D_one 17 (by kernel_rfl) (Nx_lo rfl (lo_call (by kernel_rfl) rfl (box_sub bx n b_n _ o23)) rfl ?_)
   rintro _ w7 ⟨rfl, T7, k7⟩
   have kk7 := kk6.trans k7 (fun i hi => .inl hi)
   have f24 := ((f_b_5.no k6).on k7 hne)
   have f25 := ((f_px_5.no k6).on k7 ne_px_bx)
   have f26 := ((f_p0_1_5.no k6).on k7 ne_p0_1_bx)
   refine ⟨⟨kk7, f24, f25, f26, T7⟩, ?_⟩
   refine Dt 18 rfl (fun W hS => pu_indexAddrA (m := (4 * c) + i) (s := 1) (o' := (4 * c) + i) Tryz.underlying134 (by kernel_rfl) rfl rfl rfl (by omega) (by omega)) ?_
   have f27 := ((f_q_5.no k6).on k7 ne_q_bx)
   refine D_one 19 (by kernel_rfl) (Nx_lo0 rfl (lo_store f27 (by kernel_rfl) rfl rfl rfl (by rw [u8s_length, (rwU_by X _).1]; omega)) ?_)
   rintro _ w8 kf8
   obtain ⟨k8, f_q_8⟩ := kf8
   replace f_q_8 := Bk.eq f_q_8 (u8s_set _ _ (sF n))
   replace f_q_8 : Bk w8 q (u8s ((rwU X (4 * c + i)).set ((4 * c) + i) (sF n))) 134 := f_q_8
   have kk8 := kk7.trans k8 (fun i hi => .inr (hi ▸ (Nat.le_trans kk2.size N3.le)))
   have f28 := (f24.on k8 (Ne.symm ne_q_b))
   have f29 := (f25.on k8 (Ne.symm ne_q_px))
   have f30 := (f26.on k8 (Ne.symm ne_q_p0_1))
   have o31 := (T7.on k8 (Ne.symm ne_q_bx))
   refine ⟨⟨kk8, f28, f29, f30, o31⟩, ?_⟩
   refine D_done (by kernel_rfl) <| X_in_normal <| X_then hK21 <| C_region <| Rp (pu_add (z := ((i + 1 : Nat) : Int)) rfl rfl (by rw [IntKind.wrap_i64]; omega)) <| Rp (pu_move rfl) <| R_nil <| X_round (4 - (i + 1)) [(0, .pointer (some ⟨b, 0, none⟩)), (3, .pointer (some ⟨px, 0, none⟩)), (4, .pointer (some ⟨p0_1, 0, none⟩)), (5, .pointer (some ⟨q, 0, none⟩)), (6, .int .i64 ((c : Nat) : Int)), (8, .int .i64 ((c : Nat) : Int)), (11, .int .i64 (((i + 1) : Nat) : Int))] (by omega) (Sub.cons rfl (Sub.cons rfl (Sub.cons rfl (Sub.cons rfl (Sub.cons rfl (Sub.cons rfl (Sub.cons rfl (Sub.nil _)))))))) ⟨i + 1, rfl, rfl, by omega, kk8, f28, f29, f30, Bk.eq f_q_8 (congrArg u8s (rwU_step h12 e_n)), o31⟩
  ·
   refine C_exit <| X_then_exit (X_then_exit (X_in_eq ?_))
   refine X_in_normal <| X_then hK16 <| C_region <| Rp (pu_add (z := ((c + 1 : Nat) : Int)) rfl rfl (by rw [IntKind.wrap_i64]; omega)) <| Rp (pu_move rfl) <| R_nil <| X_round (4 - (c + 1)) [(0, .pointer (some ⟨b, 0, none⟩)), (3, .pointer (some ⟨px, 0, none⟩)), (4, .pointer (some ⟨p0_1, 0, none⟩)), (5, .pointer (some ⟨q, 0, none⟩)), (8, .int .i64 (((c + 1) : Nat) : Int))] (by omega) (Sub.cons rfl (Sub.cons rfl (Sub.cons rfl (Sub.cons rfl (Sub.cons rfl (Sub.nil _)))))) ⟨c + 1, rfl, rfl, by omega, kk5, f_b_5, f_px_5, f_p0_1_5, Bk.eq f_q_5 (congrArg u8s (by rw [show 4 * c + i = 4 * (c + 1) by omega])), S_5⟩
 ·
  refine C_exit <| X_then_exit (X_then_exit (X_in_eq ?_))
  refine X_then hK8 <| C_seq fun K32 hK32 => C_region <| Rp (pu_loadRow (len := 16) f_q_4 (by kernel_rfl) (by kernel_rfl) (by rw [u8s_length]; exact (rwU_by X _).1) rfl) <| R_lo0 (lo_storeRow (C := u8s (rwU X (4 * c))) f_p0_1_4 (by rw [u8s_length, (rwU_by X _).1]; kernel_rfl) rfl rfl (u8s_each _) ((u8s_length _).trans ((rwU_by X _).1.trans ((rep_by 16).1.symm.trans (u8s_length _).symm)))) ?_
  rintro _ w9 kf9
  obtain ⟨k9, f_p0_1_9⟩ := kf9
  replace f_p0_1_9 : Bk w9 p0_1 (u8s (rwU X (4 * c))) 134 := f_p0_1_9
  have kk9 := kk4.trans k9 (fun i hi => .inr (hi ▸ (Nat.le_trans kk1.size N2.le)))
  refine R_nil <| X_then hK32 <| C_ret ?_
  have o33 := (S_4.on k9 (Ne.symm ne_p0_1_bx))
  exact X_retRow (len := 16) (.inl rfl) rfl rfl f_p0_1_9 (by kernel_rfl) (by kernel_rfl) (by rw [u8s_length]; exact (rwU_by X _).1) ⟨by rw [← rwU_all, show 16 = 4 * c by omega], o33, kk9⟩
theorem aes_columns (X : List Nat) (bX : By 16 X) (w : World)  : Ret Tryz.prog 84 #[.agg (u8s X : List Value).toArray] w (fun v w' => v = .agg (u8s (colsR X)).toArray ∧ Kp No w w') := by
 have kk0 := Kp.refl No w
 refine enter (n := 67) [.agg (u8s X : List Value).toArray] Tryz.func84 rfl rfl rfl ?_
 show Cw _ _ _ _ [(0, .agg (u8s X : List Value).toArray)] _
 refine C_seq fun K1 hK1 => C_region <| R_lo (lo_box (L := u8s X) rfl rfl) rfl ?_
 rintro _ w1 ⟨p0_0, rfl, N1⟩
 have k1 := N1.kp
 have kk1 := kk0.then_ k1
 have f_p0_0_1 := N1.bk
 refine R_lo (lo_alloc (L := u8s (List.replicate 16 0)) (by kernel_rfl)) rfl ?_
 rintro _ w2 ⟨p0_1, rfl, N2⟩
 have k2 := N2.kp
 have kk2 := kk1.then_ k2
 have f_p0_1_2 := N2.bk
 refine R_nil <| X_then hK1 <| C_seq fun K2 hK2 => C_region ?_
 have f3 := (f_p0_0_1.no k2)
 refine R_lo (lo_alloc (L := u8s (List.replicate 16 0)) (by kernel_rfl)) rfl ?_
 rintro _ w3 ⟨q, rfl, N3⟩
 have k3 := N3.kp
 have kk3 := kk2.then_ k3
 have ne_q_p0_0 := Nat.ne_of_gt (Nat.lt_of_lt_of_le f3.lt N3.le)
 have ne_q_p0_1 := Nat.ne_of_gt (Nat.lt_of_lt_of_le f_p0_1_2.lt N3.le)
 have f_q_3 := N3.bk
 refine R_nil <| X_then hK2 <| C_seq fun K4 hK4 => C_seq fun K5 hK5 => C_region <| Rp (pu_move rfl) <| R_nil <| X_then hK5 <| C_block ?_
 have f6 := (f3.no k3)
 have f7 := (f_p0_1_2.no k3)
 refine C_loop (fun m_ l_ wr => ∃ c : Nat, (m_ = 4 - c) ∧ (l_ = [(1, .pointer (some ⟨p0_0, 0, none⟩)), (2, .pointer (some ⟨p0_1, 0, none⟩)), (3, .pointer (some ⟨q, 0, none⟩)), (9, .int .i64 ((c : Nat) : Int))]) ∧ (c ≤ 4) ∧ (Kp No w wr) ∧ (Bk wr p0_0 (u8s X) 134) ∧ (Bk wr p0_1 (u8s (List.replicate 16 0)) 134) ∧ (Bk wr q (u8s (coU X (4 * c))) 134)) (4 - 0) [(1, .pointer (some ⟨p0_0, 0, none⟩)), (2, .pointer (some ⟨p0_1, 0, none⟩)), (3, .pointer (some ⟨q, 0, none⟩)), (9, .int .i64 0)] (Sub.cons rfl (Sub.cons rfl (Sub.cons rfl (Sub.cons rfl (Sub.nil _))))) ⟨0, rfl, rfl, by omega, kk3, f6, f7, Bk.eq f_q_3 (congrArg u8s (rep_upto _ _))⟩ ?_
 rintro _ _ w4 ⟨c, rfl, rfl, hc, kk4, f_p0_0_4, f_p0_1_4, f_q_4⟩
 refine C_seq fun K8 hK8 => C_region <| Rp (pu_lss (p := c < 4) rfl rfl (by omega)) <| R_nil <| X_then hK8 <| C_seq fun K9 hK9 => C_dec rfl (fun h10 => ?_) (fun h10 => ?_)
 ·
  refine C_skip <| X_then hK9 <| C_seq fun K10 hK10 => C_block <| C_seq fun K11 hK11 => C_region <| Rp (pu_move rfl) <| Rp (pu_assign rfl) <| R_nil <| X_then hK11 <| C_cut (fun l_ wr => (l_ = [(1, .pointer (some ⟨p0_0, 0, none⟩)), (2, .pointer (some ⟨p0_1, 0, none⟩)), (3, .pointer (some ⟨q, 0, none⟩)), (4, .int .i64 ((c : Nat) : Int)), (5, .int .u8 ((colA X c : Nat) : Int)), (9, .int .i64 ((c : Nat) : Int))]) ∧ (Kp No w wr) ∧ (Bk wr p0_0 (u8s X) 134) ∧ (Bk wr p0_1 (u8s (List.replicate 16 0)) 134) ∧ (Bk wr q (u8s (coU X (4 * c))) 134)) (fun K_ hK_ => ?_) ?_
  ·
   refine D_begin (fun W => Kp No w W ∧ Bk W p0_0 (u8s X) 134 ∧ Bk W p0_1 (u8s (List.replicate 16 0)) 134 ∧ Bk W q (u8s (coU X (4 * c))) 134) 23 rfl (by kernel_rfl) ⟨kk4.drew, f_p0_0_4.draw, f_p0_1_4.draw, f_q_4.draw⟩ ?_
   intro w5 k5 _
   have kk5 := kk4.then_ k5
   refine Dt 0 rfl (fun W hS => pu_move rfl) <| Dt 1 rfl (fun W hS => pu_mul (z := ((4 * c : Nat) : Int)) rfl rfl (by rw [IntKind.wrap_i64]; omega)) <| Dt 2 rfl (fun W hS => pu_indexAddrA (m := 4 * c) (s := 1) (o' := 4 * c) Tryz.underlying134 (by kernel_rfl) rfl rfl rfl (by omega) (by omega)) ?_
   obtain ⟨a0, e_a0⟩ : ∃ q_, (X)[4 * c]? = some q_ := ⟨_, List.getElem?_eq_getElem (by rw [(bX).1]; omega)⟩
   have b_a0 : a0 < 256 := (bX).2 _ (List.mem_of_getElem? e_a0)
   refine Dt 3 rfl (fun W hS => pu_loadK hS.2.1 (by kernel_rfl) rfl (u8s_get e_a0)) <| Dt 4 rfl (fun W hS => pu_move rfl) <| Dt 5 rfl (fun W hS => pu_mul (z := ((4 * c : Nat) : Int)) rfl rfl (by rw [IntKind.wrap_i64]; omega)) <| Dt 6 rfl (fun W hS => pu_add (z := (((4 * c) + 1 : Nat) : Int)) rfl rfl (by rw [IntKind.wrap_i64]; omega)) <| Dt 7 rfl (fun W hS => pu_indexAddrA (m := (4 * c) + 1) (s := 1) (o' := (4 * c) + 1) Tryz.underlying134 (by kernel_rfl) rfl rfl rfl (by omega) (by omega)) ?_
   obtain ⟨a1, e_a1⟩ : ∃ q_, (X)[(4 * c) + 1]? = some q_ := ⟨_, List.getElem?_eq_getElem (by rw [(bX).1]; omega)⟩
   have b_a1 : a1 < 256 := (bX).2 _ (List.mem_of_getElem? e_a1)
   refine Dt 8 rfl (fun W hS => pu_loadK hS.2.1 (by kernel_rfl) rfl (u8s_get e_a1)) <| Dt 9 rfl (fun W hS => pu_xor rfl rfl (u8_xor_nat a0 a1 b_a0 b_a1)) <| Dt 10 rfl (fun W hS => pu_move rfl) <| Dt 11 rfl (fun W hS => pu_mul (z := ((4 * c : Nat) : Int)) rfl rfl (by rw [IntKind.wrap_i64]; omega)) <| Dt 12 rfl (fun W hS => pu_add (z := (((4 * c) + 2 : Nat) : Int)) rfl rfl (by rw [IntKind.wrap_i64]; omega)) <| Dt 13 rfl (fun W hS => pu_indexAddrA (m := (4 * c) + 2) (s := 1) (o' := (4 * c) + 2) Tryz.underlying134 (by kernel_rfl) rfl rfl rfl (by omega) (by omega)) ?_
   obtain ⟨a2, e_a2⟩ : ∃ q_, (X)[(4 * c) + 2]? = some q_ := ⟨_, List.getElem?_eq_getElem (by rw [(bX).1]; omega)⟩
   have b_a2 : a2 < 256 := (bX).2 _ (List.mem_of_getElem? e_a2)
   refine Dt 14 rfl (fun W hS => pu_loadK hS.2.1 (by kernel_rfl) rfl (u8s_get e_a2)) <| Dt 15 rfl (fun W hS => pu_xor rfl rfl (u8_xor_nat (a0 ^^^ a1) a2 (Nat.xor_lt_two_pow (n := 8) b_a0 b_a1) b_a2)) <| Dt 16 rfl (fun W hS => pu_move rfl) <| Dt 17 rfl (fun W hS => pu_mul (z := ((4 * c : Nat) : Int)) rfl rfl (by rw [IntKind.wrap_i64]; omega)) <| Dt 18 rfl (fun W hS => pu_add (z := (((4 * c) + 3 : Nat) : Int)) rfl rfl (by rw [IntKind.wrap_i64]; omega)) <| Dt 19 rfl (fun W hS => pu_indexAddrA (m := (4 * c) + 3) (s := 1) (o' := (4 * c) + 3) Tryz.underlying134 (by kernel_rfl) rfl rfl rfl (by omega) (by omega)) ?_
   obtain ⟨a3, e_a3⟩ : ∃ q_, (X)[(4 * c) + 3]? = some q_ := ⟨_, List.getElem?_eq_getElem (by rw [(bX).1]; omega)⟩
   have b_a3 : a3 < 256 := (bX).2 _ (List.mem_of_getElem? e_a3)
   refine Dt 20 rfl (fun W hS => pu_loadK hS.2.1 (by kernel_rfl) rfl (u8s_get e_a3)) <| Dt 21 rfl (fun W hS => pu_xor rfl rfl (u8_xor_nat ((a0 ^^^ a1) ^^^ a2) a3 (Nat.xor_lt_two_pow (n := 8) (Nat.xor_lt_two_pow (n := 8) b_a0 b_a1) b_a2) b_a3)) <| Dt 22 rfl (fun W hS => pu_assign rfl) <| D_done (by kernel_rfl) ?_
   have f12 := (f_p0_0_4.no k5)
   have f13 := (f_p0_1_4.no k5)
   have f14 := (f_q_4.no k5)
   refine X_cut hK_ [(1, .pointer (some ⟨p0_0, 0, none⟩)), (2, .pointer (some ⟨p0_1, 0, none⟩)), (3, .pointer (some ⟨q, 0, none⟩)), (4, .int .i64 ((c : Nat) : Int)), (5, .int .u8 ((colA X c : Nat) : Int)), (9, .int .i64 ((c : Nat) : Int))] (Sub.cons rfl (Sub.cons rfl (Sub.cons rfl (Sub.cons rfl (Sub.consE rfl (by rw [show ((a0 ^^^ a1) ^^^ a2) ^^^ a3 = colA X c by unfold colA; rw [getD_some e_a0, getD_some e_a1, getD_some e_a2, getD_some e_a3]]) (Sub.cons rfl (Sub.nil _))))))) ⟨rfl, kk5, f12, f13, f14⟩
  ·
   rintro _ w6 ⟨rfl, kk6, f_p0_0_6, f_p0_1_6, f_q_6⟩
   refine C_seq fun K15 hK15 => C_region <| Rp (pu_move rfl) <| R_nil <| X_then hK15 <| C_block <| C_loop (fun m_ l_ wr => ∃ i : Nat, (m_ = 4 - i) ∧ (l_ = [(1, .pointer (some ⟨p0_0, 0, none⟩)), (2, .pointer (some ⟨p0_1, 0, none⟩)), (3, .pointer (some ⟨q, 0, none⟩)), (4, .int .i64 ((c : Nat) : Int)), (5, .int .u8 ((colA X c : Nat) : Int)), (9, .int .i64 ((c : Nat) : Int)), (34, .int .i64 ((i : Nat) : Int))]) ∧ (i ≤ 4) ∧ (Kp No w wr) ∧ (Bk wr p0_0 (u8s X) 134) ∧ (Bk wr p0_1 (u8s (List.replicate 16 0)) 134) ∧ (Bk wr q (u8s (coU X (4 * c + i))) 134)) (4 - 0) [(1, .pointer (some ⟨p0_0, 0, none⟩)), (2, .pointer (some ⟨p0_1, 0, none⟩)), (3, .pointer (some ⟨q, 0, none⟩)), (4, .int .i64 ((c : Nat) : Int)), (5, .int .u8 ((colA X c : Nat) : Int)), (9, .int .i64 ((c : Nat) : Int)), (34, .int .i64 0)] (Sub.cons rfl (Sub.cons rfl (Sub.cons rfl (Sub.cons rfl (Sub.cons rfl (Sub.cons rfl (Sub.cons rfl (Sub.nil _)))))))) ⟨0, rfl, rfl, by omega, kk6, f_p0_0_6, f_p0_1_6, Bk.eq f_q_6 (congrArg u8s rfl)⟩ ?_
   rintro _ _ w7 ⟨i, rfl, rfl, hi, kk7, f_p0_0_7, f_p0_1_7, f_q_7⟩
   refine C_seq fun K16 hK16 => C_region <| Rp (pu_lss (p := i < 4) rfl rfl (by omega)) <| R_nil <| X_then hK16 <| C_seq fun K17 hK17 => C_dec rfl (fun h35 => ?_) (fun h35 => ?_)
   ·
    refine C_skip <| X_then hK17 <| C_seq fun K18 hK18 => C_block <| C_seq fun K19 hK19 => C_region <| Rp (pu_move rfl) <| Rp (pu_assign rfl) <| R_nil <| X_then hK19 <| C_seq fun K20 hK20 => D_begin (fun W => Kp No w W ∧ Bk W p0_0 (u8s X) 134 ∧ Bk W p0_1 (u8s (List.replicate 16 0)) 134 ∧ Bk W q (u8s (coU X (4 * c + i))) 134) 16 rfl (by kernel_rfl) ⟨kk7.drew, f_p0_0_7.draw, f_p0_1_7.draw, f_q_7.draw⟩ ?_
    intro w8 k8 _
    have kk8 := kk7.then_ k8
    refine Dt 0 rfl (fun W hS => pu_move rfl) <| Dt 1 rfl (fun W hS => pu_mul (z := ((4 * c : Nat) : Int)) rfl rfl (by rw [IntKind.wrap_i64]; omega)) <| Dt 2 rfl (fun W hS => pu_move rfl) <| Dt 3 rfl (fun W hS => pu_add (z := (((4 * c) + i : Nat) : Int)) rfl rfl (by rw [IntKind.wrap_i64]; omega)) <| Dt 4 rfl (fun W hS => pu_indexAddrA (m := (4 * c) + i) (s := 1) (o' := (4 * c) + i) Tryz.underlying134 (by kernel_rfl) rfl rfl rfl (by omega) (by omega)) ?_
    obtain ⟨x, e_x⟩ : ∃ q_, (X)[(4 * c) + i]? = some q_ := ⟨_, List.getElem?_eq_getElem (by rw [(bX).1]; omega)⟩
    have b_x : x < 256 := (bX).2 _ (List.mem_of_getElem? e_x)
    refine Dt 5 rfl (fun W hS => pu_loadK hS.2.1 (by kernel_rfl) rfl (u8s_get e_x)) <| Dt 6 rfl (fun W hS => pu_move rfl) <| Dt 7 rfl (fun W hS => pu_mul (z := ((4 * c : Nat) : Int)) rfl rfl (by rw [IntKind.wrap_i64]; omega)) <| Dt 8 rfl (fun W hS => pu_move rfl) <| Dt 9 rfl (fun W hS => pu_add (z := ((i + 1 : Nat) : Int)) rfl rfl (by rw [IntKind.wrap_i64]; omega)) <| Dt 10 rfl (fun W hS => pu_rem (z := (((i + 1) % 4 : Nat) : Int)) rfl rfl (by omega) (by rfl)) <| Dt 11 rfl (fun W hS => pu_add (z := (((4 * c) + ((i + 1) % 4) : Nat) : Int)) rfl rfl (by rw [IntKind.wrap_i64]; omega)) <| Dt 12 rfl (fun W hS => pu_indexAddrA (m := (4 * c) + ((i + 1) % 4)) (s := 1) (o' := (4 * c) + ((i + 1) % 4)) Tryz.underlying134 (by kernel_rfl) rfl rfl rfl (by omega) (by omega)) ?_
    obtain ⟨y, e_y⟩ : ∃ q_, (X)[(4 * c) + ((i + 1) % 4)]? = some q_ := ⟨_, List.getElem?_eq_getElem (by rw [(bX).1]; omega)⟩
    have b_y : y < 256 := (bX).2 _ (List.mem_of_getElem? e_y)
    refine Dt 13 rfl (fun W hS => pu_loadK hS.2.1 (by kernel_rfl) rfl (u8s_get e_y)) <| Dt 14 rfl (fun W hS => pu_assign rfl) <| Dt 15 rfl (fun W hS => pu_assign rfl) <| D_done (by kernel_rfl) <| X_then hK20 <| C_region <| Rp (pu_move rfl) <| Rp (pu_mul (z := ((4 * c : Nat) : Int)) rfl rfl (by rw [IntKind.wrap_i64]; omega)) <| Rp (pu_move rfl) <| Rp (pu_add (z := (((4 * c) + i : Nat) : Int)) rfl rfl (by rw [IntKind.wrap_i64]; omega)) <| Rp (pu_move rfl) <| Rp (pu_move rfl) <| Rp (pu_xor rfl rfl (u8_xor_nat (colA X c) x (colA_lt bX.2 c) b_x)) <| Rp (pu_move rfl) <| Rp (pu_move rfl) <| Rp (pu_xor rfl rfl (u8_xor_nat x y b_x b_y)) <| R_lo (lo_call (by kernel_rfl) rfl (aes_twice (x ^^^ y) (Nat.xor_lt_two_pow (n := 8) b_x b_y) _)) rfl ?_
    rintro _ w9 ⟨rfl, k9⟩
    have kk9 := kk8.then_ k9
    refine Rp (pu_xor rfl rfl (u8_xor_nat ((colA X c) ^^^ x) (tw (x ^^^ y)) (Nat.xor_lt_two_pow (n := 8) (colA_lt bX.2 c) b_x) (tw_lt (Nat.xor_lt_two_pow (n := 8) b_x b_y)))) <| Rp (pu_indexAddrA (m := (4 * c) + i) (s := 1) (o' := (4 * c) + i) Tryz.underlying134 (by kernel_rfl) rfl rfl rfl (by omega) (by omega)) ?_
    have f21 := ((f_q_7.no k8).no k9)
    refine R_lo0 (lo_store f21 (by kernel_rfl) rfl rfl rfl (by rw [u8s_length, (coU_by bX _).1]; omega)) ?_
    rintro _ w10 kf10
    obtain ⟨k10, f_q_10⟩ := kf10
    replace f_q_10 := Bk.eq f_q_10 (u8s_set _ _ (((colA X c) ^^^ x) ^^^ (tw (x ^^^ y))))
    replace f_q_10 : Bk w10 q (u8s ((coU X (4 * c + i)).set ((4 * c) + i) (((colA X c) ^^^ x) ^^^ (tw (x ^^^ y))))) 134 := f_q_10
    have kk10 := kk9.trans k10 (fun i hi => .inr (hi ▸ (Nat.le_trans kk2.size N3.le)))
    refine R_nil <| X_in_normal <| X_then hK18 <| C_region <| Rp (pu_add (z := ((i + 1 : Nat) : Int)) rfl rfl (by rw [IntKind.wrap_i64]; omega)) <| Rp (pu_move rfl) <| R_nil ?_
    have f22 := (((f_p0_0_7.no k8).no k9).on k10 (Ne.symm ne_q_p0_0))
    have f23 := (((f_p0_1_7.no k8).no k9).on k10 (Ne.symm ne_q_p0_1))
    refine X_round (4 - (i + 1)) [(1, .pointer (some ⟨p0_0, 0, none⟩)), (2, .pointer (some ⟨p0_1, 0, none⟩)), (3, .pointer (some ⟨q, 0, none⟩)), (4, .int .i64 ((c : Nat) : Int)), (5, .int .u8 ((colA X c : Nat) : Int)), (9, .int .i64 ((c : Nat) : Int)), (34, .int .i64 (((i + 1) : Nat) : Int))] (by omega) (Sub.cons rfl (Sub.cons rfl (Sub.cons rfl (Sub.cons rfl (Sub.cons rfl (Sub.cons rfl (Sub.cons rfl (Sub.nil _)))))))) ⟨i + 1, rfl, rfl, by omega, kk10, f22, f23, Bk.eq f_q_10 (congrArg u8s (coU_step h35 e_x e_y))⟩
   ·
    refine C_exit <| X_then_exit (X_then_exit (X_in_eq ?_))
    refine X_in_normal <| X_then hK10 <| C_region <| Rp (pu_add (z := ((c + 1 : Nat) : Int)) rfl rfl (by rw [IntKind.wrap_i64]; omega)) <| Rp (pu_move rfl) <| R_nil <| X_round (4 - (c + 1)) [(1, .pointer (some ⟨p0_0, 0, none⟩)), (2, .pointer (some ⟨p0_1, 0, none⟩)), (3, .pointer (some ⟨q, 0, none⟩)), (9, .int .i64 (((c + 1) : Nat) : Int))] (by omega) (Sub.cons rfl (Sub.cons rfl (Sub.cons rfl (Sub.cons rfl (Sub.nil _))))) ⟨c + 1, rfl, rfl, by omega, kk7, f_p0_0_7, f_p0_1_7, Bk.eq f_q_7 (congrArg u8s (by rw [show 4 * c + i = 4 * (c + 1) by omega]))⟩
 ·
  refine C_exit <| X_then_exit (X_then_exit (X_in_eq ?_))
  refine X_then hK4 <| C_seq fun K24 hK24 => C_region <| Rp (pu_loadRow (len := 16) f_q_4 (by kernel_rfl) (by kernel_rfl) (by rw [u8s_length]; exact (coU_by bX _).1) rfl) <| R_lo0 (lo_storeRow (C := u8s (coU X (4 * c))) f_p0_1_4 (by rw [u8s_length, (coU_by bX _).1]; kernel_rfl) rfl rfl (u8s_each _) ((u8s_length _).trans ((coU_by bX _).1.trans ((rep_by 16).1.symm.trans (u8s_length _).symm)))) ?_
  rintro _ w11 kf11
  obtain ⟨k11, f_p0_1_11⟩ := kf11
  replace f_p0_1_11 : Bk w11 p0_1 (u8s (coU X (4 * c))) 134 := f_p0_1_11
  have kk11 := kk4.trans k11 (fun i hi => .inr (hi ▸ (Nat.le_trans kk1.size N2.le)))
  exact R_nil <| X_then hK24 <| C_ret <| X_retRow (len := 16) (.inl rfl) rfl rfl f_p0_1_11 (by kernel_rfl) (by kernel_rfl) (by rw [u8s_length]; exact (coU_by bX _).1) ⟨by rw [← coU_all, show 16 = 4 * c by omega], kk11⟩
theorem aes_enc (b bx : Nat) (Z : List Nat) (hW : Wy Z) (X : List Nat) (bX : By 16 X) (w : World) (hne : b ≠ bx) (hb : Bk w b (keyL bx Z) 181) (hS : Sx w bx) : Ret Tryz.prog 68 #[.pointer (some ⟨b, 0, none⟩), .agg (u8s X : List Value).toArray] w (fun v w' => v = .agg (u8s (encB Z X)).toArray ∧ Sx w' bx ∧ Kp (On bx) w w') := by
 have kk0 := Kp.refl (On bx) w
 refine enter (n := 26) [.pointer (some ⟨b, 0, none⟩), .agg (u8s X : List Value).toArray] Tryz.func68 rfl rfl rfl ?_
 show Cw _ _ _ _ [(0, .pointer (some ⟨b, 0, none⟩)), (1, .agg (u8s X : List Value).toArray)] _
 refine C_seq fun K1 hK1 => C_region <| R_lo (lo_box (L := u8s X) rfl rfl) rfl ?_
 rintro _ w1 ⟨q, rfl, N1⟩
 have k1 := N1.kp
 have kk1 := kk0.thenNo k1
 have ne_q_b := Nat.ne_of_gt (Nat.lt_of_lt_of_le hb.lt N1.le)
 have ne_q_bx := Nat.ne_of_gt (Nat.lt_of_lt_of_le hS.lt N1.le)
 have f_q_1 := N1.bk
 have f2 := (hb.no k1)
 have o3 := (hS.no k1)
 refine R_lo (lo_alloc (L := u8s (List.replicate 16 0)) (by kernel_rfl)) rfl ?_
 rintro _ w2 ⟨p0_1, rfl, N2⟩
 have k2 := N2.kp
 have kk2 := kk1.thenNo k2
 have ne_p0_1_q := Nat.ne_of_gt (Nat.lt_of_lt_of_le f_q_1.lt N2.le)
 have ne_p0_1_bx := Nat.ne_of_gt (Nat.lt_of_lt_of_le o3.lt N2.le)
 have f_p0_1_2 := N2.bk
 refine R_nil <| X_then hK1 <| C_seq fun K4 hK4 => C_seq fun K5 hK5 => C_region <| Rp (pu_move rfl) <| Rp (pu_eqlpn (by kernel_rfl) rfl rfl) <| R_nil <| X_then hK5 <| C_false rfl <| C_skip <| X_then hK4 <| C_seq fun K6 hK6 => C_region <| Rp (pu_move rfl) ?_
 have f7 := (f2.no k2)
 have f8 := (f_q_1.no k2)
 refine R_lo (lo_call (by kernel_rfl) rfl (aes_add b bx q Z hW X bX 0 (by omega) _ (Ne.symm ne_q_b) f7 f8)) rfl ?_
 rintro _ w3 ⟨rfl, B3, k3⟩
 have kk3 := kk2.trans k3 (fun i hi => .inr (hi ▸ (Nat.le_trans kk0.size N1.le)))
 refine R_nil <| X_then hK6 <| C_seq fun K9 hK9 => C_seq fun K10 hK10 => C_region <| Rp (pu_assign rfl) <| R_nil <| X_then hK10 <| C_block ?_
 have f11 := (f7.on k3 (Ne.symm ne_q_b))
 have f12 := (f_p0_1_2.on k3 ne_p0_1_q)
 have o13 := ((o3.no k2).on k3 (Ne.symm ne_q_bx))
 refine C_loop (fun m_ l_ wr => ∃ n : Nat, (m_ = 14 - n) ∧ (l_ = [(0, .pointer (some ⟨b, 0, none⟩)), (3, .pointer (some ⟨q, 0, none⟩)), (4, .pointer (some ⟨p0_1, 0, none⟩)), (5, .int .i64 ((n + 1 : Nat) : Int))]) ∧ (n ≤ 14) ∧ (Kp (On bx) w wr) ∧ (Bk wr b (keyL bx (Z)) 181) ∧ (Bk wr q (u8s (eN Z X (n))) 134) ∧ (Bk wr p0_1 (u8s (List.replicate 16 0)) 134) ∧ (Sx wr bx)) (14 - 0) [(0, .pointer (some ⟨b, 0, none⟩)), (3, .pointer (some ⟨q, 0, none⟩)), (4, .pointer (some ⟨p0_1, 0, none⟩)), (5, .int .i64 ((0 + 1 : Nat) : Int))] (Sub.cons rfl (Sub.cons rfl (Sub.cons rfl (Sub.cons rfl (Sub.nil _))))) ⟨0, rfl, rfl, by omega, kk3, f11, Bk.eq B3 (congrArg u8s rfl), f12, o13⟩ ?_
 rintro _ _ w4 ⟨n, rfl, rfl, hn, kk4, f_b_4, f_q_4, f_p0_1_4, S_4⟩
 refine C_seq fun K14 hK14 => C_seq fun K15 hK15 => C_region <| Rp (pu_move rfl) <| Rp (pu_leq (p := (n + 1) ≤ 14) rfl rfl (by omega)) <| R_nil <| X_then hK15 <| C_dec rfl (fun h12 => ?_) (fun h12 => ?_)
 ·
  refine C_skip <| X_then hK14 <| C_seq fun K16 hK16 => C_block <| C_seq fun K17 hK17 => C_region <| Rp (pu_move rfl) <| Rp (pu_loadRow (len := 16) f_q_4 (by kernel_rfl) (by kernel_rfl) (by rw [u8s_length]; exact (eN_by Z bX _).1) rfl) <| R_lo (lo_call (by kernel_rfl) rfl (aes_rows b bx Z hW (eN Z X (n)) (eN_by Z bX _) _ hne f_b_4 S_4)) rfl ?_
  rintro _ w5 ⟨rfl, T5, k5⟩
  have kk5 := kk4.trans k5 (fun i hi => .inl hi)
  have f18 := (f_q_4.on k5 ne_q_bx)
  refine R_lo0 (lo_storeRow (C := u8s (rowsR (eN Z X (n)))) f18 (by rw [u8s_length, (rowsR_by _).1]; kernel_rfl) rfl rfl (u8s_each _) ((u8s_length _).trans ((rowsR_by _).1.trans ((eN_by Z bX _).1.symm.trans (u8s_length _).symm)))) ?_
  rintro _ w6 kf6
  obtain ⟨k6, f_q_6⟩ := kf6
  replace f_q_6 : Bk w6 q (u8s (rowsR (eN Z X (n)))) 134 := f_q_6
  have kk6 := kk5.trans k6 (fun i hi => .inr (hi ▸ (Nat.le_trans kk0.size N1.le)))
  refine R_nil <| X_then hK17 <| C_seq fun K19 hK19 => C_seq fun K20 hK20 => C_region <| Rp (pu_move rfl) <| Rp (pu_lss (p := (n + 1) < 14) rfl rfl (by omega)) <| R_nil <| X_then hK20 <| C_dec rfl (fun h19 => ?_) (fun h19 => ?_)
  ·
   refine C_region <| Rp (pu_loadRow (len := 16) f_q_6 (by kernel_rfl) (by kernel_rfl) (by rw [u8s_length]; exact (rowsR_by _).1) rfl) <| R_lo (lo_call (by kernel_rfl) rfl (aes_columns (rowsR (eN Z X (n))) (rowsR_by _) _)) rfl ?_
   rintro _ w7 ⟨rfl, k7⟩
   have kk7 := kk6.thenNo k7
   have f21 := (f_q_6.no k7)
   refine R_lo0 (lo_storeRow (C := u8s (colsR (rowsR (eN Z X (n))))) f21 (by rw [u8s_length, (colsR_by (rowsR_by _)).1]; kernel_rfl) rfl rfl (u8s_each _) ((u8s_length _).trans ((colsR_by (rowsR_by _)).1.trans ((rowsR_by _).1.symm.trans (u8s_length _).symm)))) ?_
   rintro _ w8 kf8
   obtain ⟨k8, f_q_8⟩ := kf8
   replace f_q_8 : Bk w8 q (u8s (colsR (rowsR (eN Z X (n))))) 134 := f_q_8
   have kk8 := kk7.trans k8 (fun i hi => .inr (hi ▸ (Nat.le_trans kk0.size N1.le)))
   refine R_nil <| X_then hK19 <| C_region <| Rp (pu_move rfl) <| Rp (pu_move rfl) ?_
   have f22 := ((((f_b_4.on k5 hne).on k6 (Ne.symm ne_q_b)).no k7).on k8 (Ne.symm ne_q_b))
   refine R_lo (lo_call (by kernel_rfl) rfl (aes_add b bx q Z hW (colsR (rowsR (eN Z X (n)))) (colsR_by (rowsR_by _)) (n + 1) (by omega) _ (Ne.symm ne_q_b) f22 f_q_8)) rfl ?_
   rintro _ w9 ⟨rfl, B9, k9⟩
   have kk9 := kk8.trans k9 (fun i hi => .inr (hi ▸ (Nat.le_trans kk0.size N1.le)))
   refine R_nil <| X_in_normal <| X_then hK16 <| C_region <| Rp (pu_move rfl) <| Rp (pu_add (z := (((n + 1) + 1 : Nat) : Int)) rfl rfl (by rw [IntKind.wrap_i64]; omega)) <| Rp (pu_assign rfl) <| R_nil ?_
   have f23 := (f22.on k9 (Ne.symm ne_q_b))
   have f24 := (((((f_p0_1_4.on k5 ne_p0_1_bx).on k6 ne_p0_1_q).no k7).on k8 ne_p0_1_q).on k9 ne_p0_1_q)
   have o25 := ((((T5.on k6 (Ne.symm ne_q_bx)).no k7).on k8 (Ne.symm ne_q_bx)).on k9 (Ne.symm ne_q_bx))
   refine X_round (14 - (n + 1)) [(0, .pointer (some ⟨b, 0, none⟩)), (3, .pointer (some ⟨q, 0, none⟩)), (4, .pointer (some ⟨p0_1, 0, none⟩)), (5, .int .i64 (((n + 1) + 1 : Nat) : Int))] (by omega) (Sub.cons rfl (Sub.cons rfl (Sub.cons rfl (Sub.cons rfl (Sub.nil _))))) ⟨n + 1, rfl, rfl, by omega, kk9, f23, Bk.eq B9 (congrArg u8s (eN_mid h19)), f24, o25⟩
  ·
   refine C_skip <| X_then hK19 <| C_region <| Rp (pu_move rfl) <| Rp (pu_move rfl) ?_
   have f26 := ((f_b_4.on k5 hne).on k6 (Ne.symm ne_q_b))
   refine R_lo (lo_call (by kernel_rfl) rfl (aes_add b bx q Z hW (rowsR (eN Z X (n))) (rowsR_by _) (n + 1) (by omega) _ (Ne.symm ne_q_b) f26 f_q_6)) rfl ?_
   rintro _ w10 ⟨rfl, B10, k10⟩
   have kk10 := kk6.trans k10 (fun i hi => .inr (hi ▸ (Nat.le_trans kk0.size N1.le)))
   refine R_nil <| X_in_normal <| X_then hK16 <| C_region <| Rp (pu_move rfl) <| Rp (pu_add (z := (((n + 1) + 1 : Nat) : Int)) rfl rfl (by rw [IntKind.wrap_i64]; omega)) <| Rp (pu_assign rfl) <| R_nil ?_
   have f27 := (f26.on k10 (Ne.symm ne_q_b))
   have f28 := (((f_p0_1_4.on k5 ne_p0_1_bx).on k6 ne_p0_1_q).on k10 ne_p0_1_q)
   have o29 := ((T5.on k6 (Ne.symm ne_q_bx)).on k10 (Ne.symm ne_q_bx))
   refine X_round (14 - (n + 1)) [(0, .pointer (some ⟨b, 0, none⟩)), (3, .pointer (some ⟨q, 0, none⟩)), (4, .pointer (some ⟨p0_1, 0, none⟩)), (5, .int .i64 (((n + 1) + 1 : Nat) : Int))] (by omega) (Sub.cons rfl (Sub.cons rfl (Sub.cons rfl (Sub.cons rfl (Sub.nil _))))) ⟨n + 1, rfl, rfl, by omega, kk10, f27, Bk.eq B10 (congrArg u8s (eN_end h19)), f28, o29⟩
 ·
  refine C_exit <| X_then_exit (X_then_exit (X_in_eq ?_))
  refine X_then hK9 <| C_seq fun K30 hK30 => C_region <| Rp (pu_loadRow (len := 16) f_q_4 (by kernel_rfl) (by kernel_rfl) (by rw [u8s_length]; exact (eN_by Z bX _).1) rfl) <| R_lo0 (lo_storeRow (C := u8s (eN Z X (n))) f_p0_1_4 (by rw [u8s_length, (eN_by Z bX _).1]; kernel_rfl) rfl rfl (u8s_each _) ((u8s_length _).trans ((eN_by Z bX _).1.trans ((rep_by 16).1.symm.trans (u8s_length _).symm)))) ?_
  rintro _ w11 kf11
  obtain ⟨k11, f_p0_1_11⟩ := kf11
  replace f_p0_1_11 : Bk w11 p0_1 (u8s (eN Z X (n))) 134 := f_p0_1_11
  have kk11 := kk4.trans k11 (fun i hi => .inr (hi ▸ (Nat.le_trans kk1.size N2.le)))
  refine R_nil <| X_then hK30 <| C_ret ?_
  have o31 := (S_4.on k11 (Ne.symm ne_p0_1_bx))
  exact X_retRow (len := 16) (.inl rfl) rfl rfl f_p0_1_11 (by kernel_rfl) (by kernel_rfl) (by rw [u8s_length]; exact (eN_by Z bX _).1) ⟨by rw [show n = 14 by omega]; rfl, o31, kk11⟩
end Go.Proofs.YtlkbkgghfhoggaaGreatDoor
