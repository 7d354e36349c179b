/- Walks of sbox and of bursaryref08; the bodies of SboxExact and SboxOnce. -/
import Derived.Test.YtlkbkgghfhoggaaGreatDoorSb
import Derived.Test.YtlkbkgghfhoggaaGreatDoorRf
set_option linter.unusedVariables false
set_option linter.unusedSimpArgs false
set_option maxHeartbeats 2000000
set_option maxRecDepth 100000
namespace Go.Proofs.YtlkbkgghfhoggaaGreatDoor
open Go.RowKit Gm
theorem rot8_1 (x : Nat) (hx : x < 256) (w : World)  : Ret Tryz.prog 120 #[.int .u8 ((x : Nat) : Int), .int .i64 1] w (fun v w' => v = .int .u8 ((x * 2 % 256 ||| x / 128 : Nat) : Int) ∧ Kp No w w') := by
 have kk0 := Kp.refl No w
 refine enter (n := 17) [.int .u8 ((x : Nat) : Int), .int .i64 1] Tryz.func120 rfl rfl rfl ?_
 show Cw _ _ _ _ [(0, .int .u8 ((x : Nat) : Int)), (1, .int .i64 1)] _
 refine C_seq fun K1 hK1 => C_region <| Rp (pu_assign rfl) <| R_nil <| X_then hK1 <| C_seq fun K2 hK2 => C_region <| Rp (pu_move rfl) <| Rp (pu_conv (z := 1) Tryz.underlying3 Tryz.underlying25 rfl (by rw [IntKind.wrap_u64]; omega)) <| Rp (pu_and rfl rfl (u64_and_nat 1 7 (by decide) (by decide))) <| Rp (pu_assign rfl) <| R_nil <| X_then hK2 <| C_seq fun K3 hK3 => C_region <| Rp (pu_move rfl) <| Rp (pu_move rfl) <| Rp (pu_shlc (m := 1) (c := 2) (z := ((x * 2 % 256 : Nat) : Int)) rfl rfl (by decide) (by rw [IntKind.wrap_u8]; omega)) <| Rp (pu_move rfl) <| Rp (pu_move rfl) <| Rp (pu_sub rfl rfl (by rw [IntKind.wrap_u64] <;> omega)) ?_
 exact Rp (pu_shrc (m := 7) (c := 128) rfl rfl (by decide) (fdiv_nat x 128)) <| Rp (pu_or rfl rfl (u8_or_nat (x * 2 % 256) (x / 128) (Nat.mod_lt _ (by decide)) (show x / 128 < 2 ^ 8 from Nat.lt_of_le_of_lt (Nat.div_le_self _ _) hx))) <| Rp (pu_assign rfl) <| R_nil <| X_then hK3 <| C_ret <| X_ret1 (.inl rfl) rfl rfl ⟨rfl, kk0⟩
theorem rot8_2 (x : Nat) (hx : x < 256) (w : World)  : Ret Tryz.prog 120 #[.int .u8 ((x : Nat) : Int), .int .i64 2] w (fun v w' => v = .int .u8 ((x * 4 % 256 ||| x / 64 : Nat) : Int) ∧ Kp No w w') := by
 have kk0 := Kp.refl No w
 refine enter (n := 17) [.int .u8 ((x : Nat) : Int), .int .i64 2] Tryz.func120 rfl rfl rfl ?_
 show Cw _ _ _ _ [(0, .int .u8 ((x : Nat) : Int)), (1, .int .i64 2)] _
 refine C_seq fun K1 hK1 => C_region <| Rp (pu_assign rfl) <| R_nil <| X_then hK1 <| C_seq fun K2 hK2 => C_region <| Rp (pu_move rfl) <| Rp (pu_conv (z := 2) Tryz.underlying3 Tryz.underlying25 rfl (by rw [IntKind.wrap_u64]; omega)) <| Rp (pu_and rfl rfl (u64_and_nat 2 7 (by decide) (by decide))) <| Rp (pu_assign rfl) <| R_nil <| X_then hK2 <| C_seq fun K3 hK3 => C_region <| Rp (pu_move rfl) <| Rp (pu_move rfl) <| Rp (pu_shlc (m := 2) (c := 4) (z := ((x * 4 % 256 : Nat) : Int)) rfl rfl (by decide) (by rw [IntKind.wrap_u8]; omega)) <| Rp (pu_move rfl) <| Rp (pu_move rfl) <| Rp (pu_sub rfl rfl (by rw [IntKind.wrap_u64] <;> omega)) ?_
 exact Rp (pu_shrc (m := 6) (c := 64) rfl rfl (by decide) (fdiv_nat x 64)) <| Rp (pu_or rfl rfl (u8_or_nat (x * 4 % 256) (x / 64) (Nat.mod_lt _ (by decide)) (show x / 64 < 2 ^ 8 from Nat.lt_of_le_of_lt (Nat.div_le_self _ _) hx))) <| Rp (pu_assign rfl) <| R_nil <| X_then hK3 <| C_ret <| X_ret1 (.inl rfl) rfl rfl ⟨rfl, kk0⟩
theorem rot8_3 (x : Nat) (hx : x < 256) (w : World)  : Ret Tryz.prog 120 #[.int .u8 ((x : Nat) : Int), .int .i64 3] w (fun v w' => v = .int .u8 ((x * 8 % 256 ||| x / 32 : Nat) : Int) ∧ Kp No w w') := by
 have kk0 := Kp.refl No w
 refine enter (n := 17) [.int .u8 ((x : Nat) : Int), .int .i64 3] Tryz.func120 rfl rfl rfl ?_
 show Cw _ _ _ _ [(0, .int .u8 ((x : Nat) : Int)), (1, .int .i64 3)] _
 refine C_seq fun K1 hK1 => C_region <| Rp (pu_assign rfl) <| R_nil <| X_then hK1 <| C_seq fun K2 hK2 => C_region <| Rp (pu_move rfl) <| Rp (pu_conv (z := 3) Tryz.underlying3 Tryz.underlying25 rfl (by rw [IntKind.wrap_u64]; omega)) <| Rp (pu_and rfl rfl (u64_and_nat 3 7 (by decide) (by decide))) <| Rp (pu_assign rfl) <| R_nil <| X_then hK2 <| C_seq fun K3 hK3 => C_region <| Rp (pu_move rfl) <| Rp (pu_move rfl) <| Rp (pu_shlc (m := 3) (c := 8) (z := ((x * 8 % 256 : Nat) : Int)) rfl rfl (by decide) (by rw [IntKind.wrap_u8]; omega)) <| Rp (pu_move rfl) <| Rp (pu_move rfl) <| Rp (pu_sub rfl rfl (by rw [IntKind.wrap_u64] <;> omega)) ?_
 exact Rp (pu_shrc (m := 5) (c := 32) rfl rfl (by decide) (fdiv_nat x 32)) <| Rp (pu_or rfl rfl (u8_or_nat (x * 8 % 256) (x / 32) (Nat.mod_lt _ (by decide)) (show x / 32 < 2 ^ 8 from Nat.lt_of_le_of_lt (Nat.div_le_self _ _) hx))) <| Rp (pu_assign rfl) <| R_nil <| X_then hK3 <| C_ret <| X_ret1 (.inl rfl) rfl rfl ⟨rfl, kk0⟩
theorem rot8_4 (x : Nat) (hx : x < 256) (w : World)  : Ret Tryz.prog 120 #[.int .u8 ((x : Nat) : Int), .int .i64 4] w (fun v w' => v = .int .u8 ((x * 16 % 256 ||| x / 16 : Nat) : Int) ∧ Kp No w w') := by
 have kk0 := Kp.refl No w
 refine enter (n := 17) [.int .u8 ((x : Nat) : Int), .int .i64 4] Tryz.func120 rfl rfl rfl ?_
 show Cw _ _ _ _ [(0, .int .u8 ((x : Nat) : Int)), (1, .int .i64 4)] _
 refine C_seq fun K1 hK1 => C_region <| Rp (pu_assign rfl) <| R_nil <| X_then hK1 <| C_seq fun K2 hK2 => C_region <| Rp (pu_move rfl) <| Rp (pu_conv (z := 4) Tryz.underlying3 Tryz.underlying25 rfl (by rw [IntKind.wrap_u64]; omega)) <| Rp (pu_and rfl rfl (u64_and_nat 4 7 (by decide) (by decide))) <| Rp (pu_assign rfl) <| R_nil <| X_then hK2 <| C_seq fun K3 hK3 => C_region <| Rp (pu_move rfl) <| Rp (pu_move rfl) <| Rp (pu_shlc (m := 4) (c := 16) (z := ((x * 16 % 256 : Nat) : Int)) rfl rfl (by decide) (by rw [IntKind.wrap_u8]; omega)) <| Rp (pu_move rfl) <| Rp (pu_move rfl) <| Rp (pu_sub rfl rfl (by rw [IntKind.wrap_u64] <;> omega)) ?_
 exact Rp (pu_shrc (m := 4) (c := 16) rfl rfl (by decide) (fdiv_nat x 16)) <| Rp (pu_or rfl rfl (u8_or_nat (x * 16 % 256) (x / 16) (Nat.mod_lt _ (by decide)) (show x / 16 < 2 ^ 8 from Nat.lt_of_le_of_lt (Nat.div_le_self _ _) hx))) <| Rp (pu_assign rfl) <| R_nil <| X_then hK3 <| C_ret <| X_ret1 (.inl rfl) rfl rfl ⟨rfl, kk0⟩
theorem box_new  (w : World)  : Ret Tryz.prog 80 #[] w (fun v w' => ∃ b, v = .pointer (some ⟨b, 0, none⟩) ∧ w.heap.size ≤ b ∧ Sx w' b ∧ Kp No w w') := by
 have kk0 := Kp.refl No w
 refine enter (n := 3) [] Tryz.func80 rfl rfl rfl ?_
 show Cw _ _ _ _ [] _
 refine C_seq fun K1 hK1 => C_region <| Rp (pu_assign rfl) <| R_nil <| X_then hK1 <| C_seq fun K2 hK2 => C_region <| Rp (pu_build (L := OnceL 0 0 SZ) rfl (by kernel_rfl)) <| R_lo (lo_box (L := OnceL 0 0 (tabR (stab 0) (btab 0))) rfl rfl) rfl ?_
 rintro _ w1 ⟨p1_1, rfl, N1⟩
 have k1 := N1.kp
 have kk1 := kk0.then_ k1
 have f_p1_1_1 := N1.bk
 exact Rp (pu_assign rfl) <| R_nil <| X_then hK2 <| C_ret <| X_ret1 (.inl rfl) rfl rfl ⟨p1_1, rfl, N1.le, Sx.of_new f_p1_1_1, kk1⟩
theorem box_build (b : Nat) (w : World) (hb : Bk w b (OnceL 0 1 SZ) 199) : Ret Tryz.prog 112 #[.pointer (some ⟨b, 0, none⟩)] w (fun v w' => v = .tuple #[] ∧ Bk w' b (OnceL 0 1 SB) 199 ∧ Kp (On b) w w') := by
 have kk0 := Kp.refl (On b) w
 refine enter (n := 48) [.pointer (some ⟨b, 0, none⟩)] Tryz.func112 rfl rfl rfl ?_
 show Cw _ _ _ _ [(0, .pointer (some ⟨b, 0, none⟩))] _
 refine C_seq fun K1 hK1 => C_region <| R_lo (lo_call (by kernel_rfl) rfl (gf_new _)) rfl ?_
 rintro _ w1 ⟨b0_0, rfl, le1, T1, k1⟩
 have kk1 := kk0.thenNo k1
 have ne_b0_0_b := Nat.ne_of_gt (Nat.lt_of_lt_of_le hb.lt le1)
 refine Rp (pu_assign rfl) <| R_nil <| X_then hK1 <| C_seq fun K2 hK2 => C_region <| Rp (pu_move rfl) <| R_nil <| X_then hK2 <| C_block ?_
 have f3 := (hb.no k1)
 refine C_loop (fun m_ l_ wr => ∃ k : Nat, (m_ = 256 - k) ∧ (l_ = [(0, .pointer (some ⟨b, 0, none⟩)), (2, .pointer (some ⟨b0_0, 0, none⟩)), (8, .int .i64 ((k : Nat) : Int))]) ∧ (k ≤ 256) ∧ (Kp (On b) w wr) ∧ (Bk wr b (OnceL 0 1 (tabR (stab k) (btab k))) 199) ∧ (Tb wr b0_0)) (256 - 0) [(0, .pointer (some ⟨b, 0, none⟩)), (2, .pointer (some ⟨b0_0, 0, none⟩)), (8, .int .i64 0)] (Sub.cons rfl (Sub.cons rfl (Sub.cons rfl (Sub.nil _)))) ⟨0, rfl, rfl, by omega, kk1, f3, T1⟩ ?_
 rintro _ _ w2 ⟨k, rfl, rfl, hk, kk2, f_b_2, T_b0_0_2⟩
 refine C_seq fun K4 hK4 => C_region <| Rp (pu_lss (p := k < 256) rfl rfl (by omega)) <| R_nil <| X_then hK4 <| C_seq fun K5 hK5 => C_dec rfl (fun h9 => ?_) (fun h9 => ?_)
 ·
  refine C_skip <| X_then hK5 <| C_seq fun K6 hK6 => C_block <| C_seq fun K7 hK7 => C_region <| Rp (pu_move rfl) <| Rp (pu_assign rfl) <| R_nil <| X_then hK7 <| C_seq fun K8 hK8 => C_region <| Rp (pu_move rfl) <| Rp (pu_move rfl) <| Rp (pu_conv (z := ((k : Nat) : Int)) Tryz.underlying3 Tryz.underlying5 rfl (by rw [IntKind.wrap_u8]; omega)) ?_
  by_cases hz : k = 0
  ·
   refine R_lo (lo_call (by kernel_rfl) rfl (gf_inv0 b0_0 k hz _ T_b0_0_2)) rfl ?_
   rintro _ w3 ⟨rfl, T3, k3⟩
   have kk3 := kk2.trans k3 (fun i hi => .inr (hi ▸ (Nat.le_trans kk0.size le1)))
   refine Rp (pu_move rfl) <| Rp (pu_extract rfl rfl) <| Rp (pu_extract rfl rfl) <| Rp (pu_assign rfl) <| Rp (pu_assign rfl) <| R_nil <| X_then hK8 <| C_cut (fun l_ wr => (l_ = [(0, .pointer (some ⟨b, 0, none⟩)), (2, .pointer (some ⟨b0_0, 0, none⟩)), (3, .int .i64 ((k : Nat) : Int)), (4, .int .u8 ((iv k : Nat) : Int)), (8, .int .i64 ((k : Nat) : Int))]) ∧ (Kp (On b) w wr) ∧ (Bk wr b (OnceL 0 1 (tabR (stab k) (btab k))) 199) ∧ (Tb wr b0_0)) (fun K_ hK_ => ?_) ?_
   ·
    refine C_seq fun K9 hK9 => C_region <| Rp (pu_move rfl) <| Rp (pu_neqin (by kernel_rfl) rfl rfl) <| R_nil <| X_then hK9 <| C_true rfl <| C_region <| Rp (pu_assign rfl) <| R_nil ?_
    have f10 := (f_b_2.on k3 (Ne.symm ne_b0_0_b))
    refine X_cut hK_ [(0, .pointer (some ⟨b, 0, none⟩)), (2, .pointer (some ⟨b0_0, 0, none⟩)), (3, .int .i64 ((k : Nat) : Int)), (4, .int .u8 ((iv k : Nat) : Int)), (8, .int .i64 ((k : Nat) : Int))] (Sub.cons rfl (Sub.cons rfl (Sub.cons rfl (Sub.consE rfl (by rw [show iv k = 0 from if_pos hz]; rfl) (Sub.cons rfl (Sub.nil _)))))) ⟨rfl, kk3, f10, T3⟩
   ·
    rintro _ w4 ⟨rfl, kk4, f_b_4, T_b0_0_4⟩
    refine C_seq fun K11 hK11 => C_region <| Rp (pu_move rfl) <| Rp (pu_move rfl) <| R_lo (lo_call (by kernel_rfl) rfl (rot8_1 (iv k) (iv_lt k) _)) rfl ?_
    rintro _ w5 ⟨rfl, k5⟩
    have kk5 := kk4.thenNo k5
    refine Rp (pu_xor rfl rfl (u8_xor_nat (iv k) ((iv k) * 2 % 256 ||| (iv k) / 128) (iv_lt k) (Nat.or_lt_two_pow (n := 8) (Nat.mod_lt _ (by decide)) (Nat.lt_of_le_of_lt (Nat.div_le_self _ _) (iv_lt k))))) <| Rp (pu_move rfl) <| R_lo (lo_call (by kernel_rfl) rfl (rot8_2 (iv k) (iv_lt k) _)) rfl ?_
    rintro _ w6 ⟨rfl, k6⟩
    have kk6 := kk5.thenNo k6
    refine Rp (pu_xor rfl rfl (u8_xor_nat ((iv k) ^^^ ((iv k) * 2 % 256 ||| (iv k) / 128)) ((iv k) * 4 % 256 ||| (iv k) / 64) (Nat.xor_lt_two_pow (n := 8) (iv_lt k) (Nat.or_lt_two_pow (n := 8) (Nat.mod_lt _ (by decide)) (Nat.lt_of_le_of_lt (Nat.div_le_self _ _) (iv_lt k)))) (Nat.or_lt_two_pow (n := 8) (Nat.mod_lt _ (by decide)) (Nat.lt_of_le_of_lt (Nat.div_le_self _ _) (iv_lt k))))) <| Rp (pu_move rfl) <| R_lo (lo_call (by kernel_rfl) rfl (rot8_3 (iv k) (iv_lt k) _)) rfl ?_
    rintro _ w7 ⟨rfl, k7⟩
    have kk7 := kk6.thenNo k7
    refine Rp (pu_xor rfl rfl (u8_xor_nat (((iv k) ^^^ ((iv k) * 2 % 256 ||| (iv k) / 128)) ^^^ ((iv k) * 4 % 256 ||| (iv k) / 64)) ((iv k) * 8 % 256 ||| (iv k) / 32) (Nat.xor_lt_two_pow (n := 8) (Nat.xor_lt_two_pow (n := 8) (iv_lt k) (Nat.or_lt_two_pow (n := 8) (Nat.mod_lt _ (by decide)) (Nat.lt_of_le_of_lt (Nat.div_le_self _ _) (iv_lt k)))) (Nat.or_lt_two_pow (n := 8) (Nat.mod_lt _ (by decide)) (Nat.lt_of_le_of_lt (Nat.div_le_self _ _) (iv_lt k)))) (Nat.or_lt_two_pow (n := 8) (Nat.mod_lt _ (by decide)) (Nat.lt_of_le_of_lt (Nat.div_le_self _ _) (iv_lt k))))) <| Rp (pu_move rfl) <| R_lo (lo_call (by kernel_rfl) rfl (rot8_4 (iv k) (iv_lt k) _)) rfl ?_
    rintro _ w8 ⟨rfl, k8⟩
    have kk8 := kk7.thenNo k8
    refine Rp (pu_xor rfl rfl (u8_xor_nat ((((iv k) ^^^ ((iv k) * 2 % 256 ||| (iv k) / 128)) ^^^ ((iv k) * 4 % 256 ||| (iv k) / 64)) ^^^ ((iv k) * 8 % 256 ||| (iv k) / 32)) ((iv k) * 16 % 256 ||| (iv k) / 16) (Nat.xor_lt_two_pow (n := 8) (Nat.xor_lt_two_pow (n := 8) (Nat.xor_lt_two_pow (n := 8) (iv_lt k) (Nat.or_lt_two_pow (n := 8) (Nat.mod_lt _ (by decide)) (Nat.lt_of_le_of_lt (Nat.div_le_self _ _) (iv_lt k)))) (Nat.or_lt_two_pow (n := 8) (Nat.mod_lt _ (by decide)) (Nat.lt_of_le_of_lt (Nat.div_le_self _ _) (iv_lt k)))) (Nat.or_lt_two_pow (n := 8) (Nat.mod_lt _ (by decide)) (Nat.lt_of_le_of_lt (Nat.div_le_self _ _) (iv_lt k)))) (Nat.or_lt_two_pow (n := 8) (Nat.mod_lt _ (by decide)) (Nat.lt_of_le_of_lt (Nat.div_le_self _ _) (iv_lt k))))) <| Rp (pu_xor rfl rfl (u8_xor_nat (((((iv k) ^^^ ((iv k) * 2 % 256 ||| (iv k) / 128)) ^^^ ((iv k) * 4 % 256 ||| (iv k) / 64)) ^^^ ((iv k) * 8 % 256 ||| (iv k) / 32)) ^^^ ((iv k) * 16 % 256 ||| (iv k) / 16)) 99 (Nat.xor_lt_two_pow (n := 8) (Nat.xor_lt_two_pow (n := 8) (Nat.xor_lt_two_pow (n := 8) (Nat.xor_lt_two_pow (n := 8) (iv_lt k) (Nat.or_lt_two_pow (n := 8) (Nat.mod_lt _ (by decide)) (Nat.lt_of_le_of_lt (Nat.div_le_self _ _) (iv_lt k)))) (Nat.or_lt_two_pow (n := 8) (Nat.mod_lt _ (by decide)) (Nat.lt_of_le_of_lt (Nat.div_le_self _ _) (iv_lt k)))) (Nat.or_lt_two_pow (n := 8) (Nat.mod_lt _ (by decide)) (Nat.lt_of_le_of_lt (Nat.div_le_self _ _) (iv_lt k)))) (Nat.or_lt_two_pow (n := 8) (Nat.mod_lt _ (by decide)) (Nat.lt_of_le_of_lt (Nat.div_le_self _ _) (iv_lt k)))) (by decide))) <| Rp (pu_assign rfl) <| R_nil <| X_then hK11 ?_
    have bs : (((((iv k) ^^^ ((iv k) * 2 % 256 ||| (iv k) / 128)) ^^^ ((iv k) * 4 % 256 ||| (iv k) / 64)) ^^^ ((iv k) * 8 % 256 ||| (iv k) / 32)) ^^^ ((iv k) * 16 % 256 ||| (iv k) / 16)) ^^^ 99 < 256 := sF_lt k
    have o12 := ((((T_b0_0_4.no k5).no k6).no k7).no k8)
    refine D_begin (fun W => Kp (On b) w W ∧ Tb W b0_0) 15 rfl (by kernel_rfl) ⟨kk8.drew, o12.draw⟩ ?_
    intro w9 k9 _
    have kk9 := kk8.thenNo k9
    refine Dt 0 rfl (fun W hS => pu_move rfl) <| Dt 1 rfl (fun W hS => pu_move rfl) <| Dt 2 rfl (fun W hS => pu_move rfl) <| Dt 3 rfl (fun W hS => pu_move rfl) <| Dt 4 rfl (fun W hS => pu_move rfl) <| Dt 5 rfl (fun W hS => pu_move rfl) <| Dt 6 rfl (fun W hS => pu_conv (z := ((k : Nat) : Int)) Tryz.underlying3 Tryz.underlying5 rfl (by rw [IntKind.wrap_u8]; omega)) <| Dt 7 rfl (fun W hS => pu_nilCheck rfl) <| Dt 8 rfl (fun W hS => pu_fieldAddr (off := 3) (o' := 3) (by kernel_rfl) rfl rfl) <| Dt 9 rfl (fun W hS => pu_indexAddrA (m := k) (s := 1) (o' := 3 + k) Tryz.underlying72 (by kernel_rfl) rfl rfl rfl (by omega) (by omega)) <| Dt 11 rfl (fun W hS => pu_nilCheck rfl) <| Dt 12 rfl (fun W hS => pu_fieldAddr (off := 259) (o' := 259) (by kernel_rfl) rfl rfl) ?_
    have f13 := (((((f_b_4.no k5).no k6).no k7).no k8).no k9)
    refine D_one 10 (by kernel_rfl) (Nx_lo0 rfl (lo_store f13 (by kernel_rfl) rfl rfl rfl (by rw [tabR_length (by simp only [List.length_set, stab_length]) (by simp only [List.length_set, btab_length])]; omega)) ?_)
    rintro _ w10 kf10
    obtain ⟨k10, f_b_10⟩ := kf10
    replace f_b_10 := Bk.eq f_b_10 (tab_setE (i := k) (n := (((((iv k) ^^^ ((iv k) * 2 % 256 ||| (iv k) / 128)) ^^^ ((iv k) * 4 % 256 ||| (iv k) / 64)) ^^^ ((iv k) * 8 % 256 ||| (iv k) / 32)) ^^^ ((iv k) * 16 % 256 ||| (iv k) / 16)) ^^^ 99) (by simp only [List.length_set, stab_length]; omega))
    replace f_b_10 : Bk w10 b (OnceL 0 1 (tabR ((stab k).set k ((((((iv k) ^^^ ((iv k) * 2 % 256 ||| (iv k) / 128)) ^^^ ((iv k) * 4 % 256 ||| (iv k) / 64)) ^^^ ((iv k) * 8 % 256 ||| (iv k) / 32)) ^^^ ((iv k) * 16 % 256 ||| (iv k) / 16)) ^^^ 99)) (btab k))) 199 := f_b_10
    have kk10 := kk9.trans k10 (fun i hi => .inl hi)
    have o14 := ((o12.no k9).on k10 ne_b0_0_b)
    refine ⟨⟨kk10, o14⟩, ?_⟩
    refine Dt 13 rfl (fun W hS => pu_indexAddrA (m := (((((iv k) ^^^ ((iv k) * 2 % 256 ||| (iv k) / 128)) ^^^ ((iv k) * 4 % 256 ||| (iv k) / 64)) ^^^ ((iv k) * 8 % 256 ||| (iv k) / 32)) ^^^ ((iv k) * 16 % 256 ||| (iv k) / 16)) ^^^ 99) (s := 1) (o' := 259 + ((((((iv k) ^^^ ((iv k) * 2 % 256 ||| (iv k) / 128)) ^^^ ((iv k) * 4 % 256 ||| (iv k) / 64)) ^^^ ((iv k) * 8 % 256 ||| (iv k) / 32)) ^^^ ((iv k) * 16 % 256 ||| (iv k) / 16)) ^^^ 99)) Tryz.underlying72 (by kernel_rfl) rfl rfl rfl (by omega) (by omega)) <| D_one 14 (by kernel_rfl) (Nx_lo0 rfl (lo_store f_b_10 (by kernel_rfl) rfl rfl rfl (by rw [tabR_length (by simp only [List.length_set, stab_length]) (by simp only [List.length_set, btab_length])]; omega)) ?_)
    rintro _ w11 kf11
    obtain ⟨k11, f_b_11⟩ := kf11
    replace f_b_11 := Bk.eq f_b_11 (tab_setL (i := ((((((iv k) ^^^ ((iv k) * 2 % 256 ||| (iv k) / 128)) ^^^ ((iv k) * 4 % 256 ||| (iv k) / 64)) ^^^ ((iv k) * 8 % 256 ||| (iv k) / 32)) ^^^ ((iv k) * 16 % 256 ||| (iv k) / 16)) ^^^ 99)) (n := k) (by simp only [List.length_set, stab_length]))
    replace f_b_11 : Bk w11 b (OnceL 0 1 (tabR ((stab k).set k ((((((iv k) ^^^ ((iv k) * 2 % 256 ||| (iv k) / 128)) ^^^ ((iv k) * 4 % 256 ||| (iv k) / 64)) ^^^ ((iv k) * 8 % 256 ||| (iv k) / 32)) ^^^ ((iv k) * 16 % 256 ||| (iv k) / 16)) ^^^ 99)) ((btab k).set ((((((iv k) ^^^ ((iv k) * 2 % 256 ||| (iv k) / 128)) ^^^ ((iv k) * 4 % 256 ||| (iv k) / 64)) ^^^ ((iv k) * 8 % 256 ||| (iv k) / 32)) ^^^ ((iv k) * 16 % 256 ||| (iv k) / 16)) ^^^ 99) k))) 199 := f_b_11
    have kk11 := kk10.trans k11 (fun i hi => .inl hi)
    have o15 := (o14.on k11 ne_b0_0_b)
    refine ⟨⟨kk11, o15⟩, ?_⟩
    refine D_done (by kernel_rfl) <| X_in_normal <| X_then hK6 <| C_region <| Rp (pu_add (z := ((k + 1 : Nat) : Int)) rfl rfl (by rw [IntKind.wrap_i64]; omega)) <| Rp (pu_move rfl) <| R_nil <| X_round (256 - (k + 1)) [(0, .pointer (some ⟨b, 0, none⟩)), (2, .pointer (some ⟨b0_0, 0, none⟩)), (8, .int .i64 (((k + 1) : Nat) : Int))] (by omega) (Sub.cons rfl (Sub.cons rfl (Sub.cons rfl (Sub.nil _)))) ⟨k + 1, rfl, rfl, by omega, kk11, Bk.eq f_b_11 (by rfl), o15⟩
  ·
   refine R_lo (lo_call (by kernel_rfl) rfl (gf_inv b0_0 k (by omega) hz _ T_b0_0_2)) rfl ?_
   rintro _ w12 ⟨rfl, T12, k12⟩
   have kk12 := kk2.trans k12 (fun i hi => .inr (hi ▸ (Nat.le_trans kk0.size le1)))
   refine Rp (pu_move rfl) <| Rp (pu_extract rfl rfl) <| Rp (pu_extract rfl rfl) <| Rp (pu_assign rfl) <| Rp (pu_assign rfl) <| R_nil <| X_then hK8 <| C_cut (fun l_ wr => (l_ = [(0, .pointer (some ⟨b, 0, none⟩)), (2, .pointer (some ⟨b0_0, 0, none⟩)), (3, .int .i64 ((k : Nat) : Int)), (4, .int .u8 ((iv k : Nat) : Int)), (8, .int .i64 ((k : Nat) : Int))]) ∧ (Kp (On b) w wr) ∧ (Bk wr b (OnceL 0 1 (tabR (stab k) (btab k))) 199) ∧ (Tb wr b0_0)) (fun K_ hK_ => ?_) ?_
   ·
    refine C_seq fun K16 hK16 => C_region <| Rp (pu_move rfl) <| Rp (pu_neqnn (by kernel_rfl) rfl) <| R_nil <| X_then hK16 <| C_false rfl <| C_skip ?_
    have f17 := (f_b_2.on k12 (Ne.symm ne_b0_0_b))
    refine X_cut hK_ [(0, .pointer (some ⟨b, 0, none⟩)), (2, .pointer (some ⟨b0_0, 0, none⟩)), (3, .int .i64 ((k : Nat) : Int)), (4, .int .u8 ((iv k : Nat) : Int)), (8, .int .i64 ((k : Nat) : Int))] (Sub.cons rfl (Sub.cons rfl (Sub.cons rfl (Sub.consE rfl (by rw [show iv k = gdiv 1 k from if_neg hz]) (Sub.cons rfl (Sub.nil _)))))) ⟨rfl, kk12, f17, T12⟩
   ·
    rintro _ w13 ⟨rfl, kk13, f_b_13, T_b0_0_13⟩
    refine C_seq fun K18 hK18 => C_region <| Rp (pu_move rfl) <| Rp (pu_move rfl) <| R_lo (lo_call (by kernel_rfl) rfl (rot8_1 (iv k) (iv_lt k) _)) rfl ?_
    rintro _ w14 ⟨rfl, k14⟩
    have kk14 := kk13.thenNo k14
    refine Rp (pu_xor rfl rfl (u8_xor_nat (iv k) ((iv k) * 2 % 256 ||| (iv k) / 128) (iv_lt k) (Nat.or_lt_two_pow (n := 8) (Nat.mod_lt _ (by decide)) (Nat.lt_of_le_of_lt (Nat.div_le_self _ _) (iv_lt k))))) <| Rp (pu_move rfl) <| R_lo (lo_call (by kernel_rfl) rfl (rot8_2 (iv k) (iv_lt k) _)) rfl ?_
    rintro _ w15 ⟨rfl, k15⟩
    have kk15 := kk14.thenNo k15
    refine Rp (pu_xor rfl rfl (u8_xor_nat ((iv k) ^^^ ((iv k) * 2 % 256 ||| (iv k) / 128)) ((iv k) * 4 % 256 ||| (iv k) / 64) (Nat.xor_lt_two_pow (n := 8) (iv_lt k) (Nat.or_lt_two_pow (n := 8) (Nat.mod_lt _ (by decide)) (Nat.lt_of_le_of_lt (Nat.div_le_self _ _) (iv_lt k)))) (Nat.or_lt_two_pow (n := 8) (Nat.mod_lt _ (by decide)) (Nat.lt_of_le_of_lt (Nat.div_le_self _ _) (iv_lt k))))) <| Rp (pu_move rfl) <| R_lo (lo_call (by kernel_rfl) rfl (rot8_3 (iv k) (iv_lt k) _)) rfl ?_
    rintro _ w16 ⟨rfl, k16⟩
    have kk16 := kk15.thenNo k16
    refine Rp (pu_xor rfl rfl (u8_xor_nat (((iv k) ^^^ ((iv k) * 2 % 256 ||| (iv k) / 128)) ^^^ ((iv k) * 4 % 256 ||| (iv k) / 64)) ((iv k) * 8 % 256 ||| (iv k) / 32) (Nat.xor_lt_two_pow (n := 8) (Nat.xor_lt_two_pow (n := 8) (iv_lt k) (Nat.or_lt_two_pow (n := 8) (Nat.mod_lt _ (by decide)) (Nat.lt_of_le_of_lt (Nat.div_le_self _ _) (iv_lt k)))) (Nat.or_lt_two_pow (n := 8) (Nat.mod_lt _ (by decide)) (Nat.lt_of_le_of_lt (Nat.div_le_self _ _) (iv_lt k)))) (Nat.or_lt_two_pow (n := 8) (Nat.mod_lt _ (by decide)) (Nat.lt_of_le_of_lt (Nat.div_le_self _ _) (iv_lt k))))) <| Rp (pu_move rfl) <| R_lo (lo_call (by kernel_rfl) rfl (rot8_4 (iv k) (iv_lt k) _)) rfl ?_
    rintro _ w17 ⟨rfl, k17⟩
    have kk17 := kk16.thenNo k17
    refine Rp (pu_xor rfl rfl (u8_xor_nat ((((iv k) ^^^ ((iv k) * 2 % 256 ||| (iv k) / 128)) ^^^ ((iv k) * 4 % 256 ||| (iv k) / 64)) ^^^ ((iv k) * 8 % 256 ||| (iv k) / 32)) ((iv k) * 16 % 256 ||| (iv k) / 16) (Nat.xor_lt_two_pow (n := 8) (Nat.xor_lt_two_pow (n := 8) (Nat.xor_lt_two_pow (n := 8) (iv_lt k) (Nat.or_lt_two_pow (n := 8) (Nat.mod_lt _ (by decide)) (Nat.lt_of_le_of_lt (Nat.div_le_self _ _) (iv_lt k)))) (Nat.or_lt_two_pow (n := 8) (Nat.mod_lt _ (by decide)) (Nat.lt_of_le_of_lt (Nat.div_le_self _ _) (iv_lt k)))) (Nat.or_lt_two_pow (n := 8) (Nat.mod_lt _ (by decide)) (Nat.lt_of_le_of_lt (Nat.div_le_self _ _) (iv_lt k)))) (Nat.or_lt_two_pow (n := 8) (Nat.mod_lt _ (by decide)) (Nat.lt_of_le_of_lt (Nat.div_le_self _ _) (iv_lt k))))) <| Rp (pu_xor rfl rfl (u8_xor_nat (((((iv k) ^^^ ((iv k) * 2 % 256 ||| (iv k) / 128)) ^^^ ((iv k) * 4 % 256 ||| (iv k) / 64)) ^^^ ((iv k) * 8 % 256 ||| (iv k) / 32)) ^^^ ((iv k) * 16 % 256 ||| (iv k) / 16)) 99 (Nat.xor_lt_two_pow (n := 8) (Nat.xor_lt_two_pow (n := 8) (Nat.xor_lt_two_pow (n := 8) (Nat.xor_lt_two_pow (n := 8) (iv_lt k) (Nat.or_lt_two_pow (n := 8) (Nat.mod_lt _ (by decide)) (Nat.lt_of_le_of_lt (Nat.div_le_self _ _) (iv_lt k)))) (Nat.or_lt_two_pow (n := 8) (Nat.mod_lt _ (by decide)) (Nat.lt_of_le_of_lt (Nat.div_le_self _ _) (iv_lt k)))) (Nat.or_lt_two_pow (n := 8) (Nat.mod_lt _ (by decide)) (Nat.lt_of_le_of_lt (Nat.div_le_self _ _) (iv_lt k)))) (Nat.or_lt_two_pow (n := 8) (Nat.mod_lt _ (by decide)) (Nat.lt_of_le_of_lt (Nat.div_le_self _ _) (iv_lt k)))) (by decide))) <| Rp (pu_assign rfl) <| R_nil <| X_then hK18 ?_
    have bs : (((((iv k) ^^^ ((iv k) * 2 % 256 ||| (iv k) / 128)) ^^^ ((iv k) * 4 % 256 ||| (iv k) / 64)) ^^^ ((iv k) * 8 % 256 ||| (iv k) / 32)) ^^^ ((iv k) * 16 % 256 ||| (iv k) / 16)) ^^^ 99 < 256 := sF_lt k
    have o19 := ((((T_b0_0_13.no k14).no k15).no k16).no k17)
    refine D_begin (fun W => Kp (On b) w W ∧ Tb W b0_0) 15 rfl (by kernel_rfl) ⟨kk17.drew, o19.draw⟩ ?_
    intro w18 k18 _
    have kk18 := kk17.thenNo k18
    refine Dt 0 rfl (fun W hS => pu_move rfl) <| Dt 1 rfl (fun W hS => pu_move rfl) <| Dt 2 rfl (fun W hS => pu_move rfl) <| Dt 3 rfl (fun W hS => pu_move rfl) <| Dt 4 rfl (fun W hS => pu_move rfl) <| Dt 5 rfl (fun W hS => pu_move rfl) <| Dt 6 rfl (fun W hS => pu_conv (z := ((k : Nat) : Int)) Tryz.underlying3 Tryz.underlying5 rfl (by rw [IntKind.wrap_u8]; omega)) <| Dt 7 rfl (fun W hS => pu_nilCheck rfl) <| Dt 8 rfl (fun W hS => pu_fieldAddr (off := 3) (o' := 3) (by kernel_rfl) rfl rfl) <| Dt 9 rfl (fun W hS => pu_indexAddrA (m := k) (s := 1) (o' := 3 + k) Tryz.underlying72 (by kernel_rfl) rfl rfl rfl (by omega) (by omega)) <| Dt 11 rfl (fun W hS => pu_nilCheck rfl) <| Dt 12 rfl (fun W hS => pu_fieldAddr (off := 259) (o' := 259) (by kernel_rfl) rfl rfl) ?_
    have f20 := (((((f_b_13.no k14).no k15).no k16).no k17).no k18)
    refine D_one 10 (by kernel_rfl) (Nx_lo0 rfl (lo_store f20 (by kernel_rfl) rfl rfl rfl (by rw [tabR_length (by simp only [List.length_set, stab_length]) (by simp only [List.length_set, btab_length])]; omega)) ?_)
    rintro _ w19 kf19
    obtain ⟨k19, f_b_19⟩ := kf19
    replace f_b_19 := Bk.eq f_b_19 (tab_setE (i := k) (n := (((((iv k) ^^^ ((iv k) * 2 % 256 ||| (iv k) / 128)) ^^^ ((iv k) * 4 % 256 ||| (iv k) / 64)) ^^^ ((iv k) * 8 % 256 ||| (iv k) / 32)) ^^^ ((iv k) * 16 % 256 ||| (iv k) / 16)) ^^^ 99) (by simp only [List.length_set, stab_length]; omega))
    replace f_b_19 : Bk w19 b (OnceL 0 1 (tabR ((stab k).set k ((((((iv k) ^^^ ((iv k) * 2 % 256 ||| (iv k) / 128)) ^^^ ((iv k) * 4 % 256 ||| (iv k) / 64)) ^^^ ((iv k) * 8 % 256 ||| (iv k) / 32)) ^^^ ((iv k) * 16 % 256 ||| (iv k) / 16)) ^^^ 99)) (btab k))) 199 := f_b_19
    have kk19 := kk18.trans k19 (fun i hi => .inl hi)
    have o21 := ((o19.no k18).on k19 ne_b0_0_b)
    refine ⟨⟨kk19, o21⟩, ?_⟩
    refine Dt 13 rfl (fun W hS => pu_indexAddrA (m := (((((iv k) ^^^ ((iv k) * 2 % 256 ||| (iv k) / 128)) ^^^ ((iv k) * 4 % 256 ||| (iv k) / 64)) ^^^ ((iv k) * 8 % 256 ||| (iv k) / 32)) ^^^ ((iv k) * 16 % 256 ||| (iv k) / 16)) ^^^ 99) (s := 1) (o' := 259 + ((((((iv k) ^^^ ((iv k) * 2 % 256 ||| (iv k) / 128)) ^^^ ((iv k) * 4 % 256 ||| (iv k) / 64)) ^^^ ((iv k) * 8 % 256 ||| (iv k) / 32)) ^^^ ((iv k) * 16 % 256 ||| (iv k) / 16)) ^^^ 99)) Tryz.underlying72 (by kernel_rfl) rfl rfl rfl (by omega) (by omega)) <| D_one 14 (by kernel_rfl) (Nx_lo0 rfl (lo_store f_b_19 (by kernel_rfl) rfl rfl rfl (by rw [tabR_length (by simp only [List.length_set, stab_length]) (by simp only [List.length_set, btab_length])]; omega)) ?_)
    rintro _ w20 kf20
    obtain ⟨k20, f_b_20⟩ := kf20
    replace f_b_20 := Bk.eq f_b_20 (tab_setL (i := ((((((iv k) ^^^ ((iv k) * 2 % 256 ||| (iv k) / 128)) ^^^ ((iv k) * 4 % 256 ||| (iv k) / 64)) ^^^ ((iv k) * 8 % 256 ||| (iv k) / 32)) ^^^ ((iv k) * 16 % 256 ||| (iv k) / 16)) ^^^ 99)) (n := k) (by simp only [List.length_set, stab_length]))
    replace f_b_20 : Bk w20 b (OnceL 0 1 (tabR ((stab k).set k ((((((iv k) ^^^ ((iv k) * 2 % 256 ||| (iv k) / 128)) ^^^ ((iv k) * 4 % 256 ||| (iv k) / 64)) ^^^ ((iv k) * 8 % 256 ||| (iv k) / 32)) ^^^ ((iv k) * 16 % 256 ||| (iv k) / 16)) ^^^ 99)) ((btab k).set ((((((iv k) ^^^ ((iv k) * 2 % 256 ||| (iv k) / 128)) ^^^ ((iv k) * 4 % 256 ||| (iv k) / 64)) ^^^ ((iv k) * 8 % 256 ||| (iv k) / 32)) ^^^ ((iv k) * 16 % 256 ||| (iv k) / 16)) ^^^ 99) k))) 199 := f_b_20
    have kk20 := kk19.trans k20 (fun i hi => .inl hi)
    have o22 := (o21.on k20 ne_b0_0_b)
    refine ⟨⟨kk20, o22⟩, ?_⟩
    refine D_done (by kernel_rfl) <| X_in_normal <| X_then hK6 <| C_region <| Rp (pu_add (z := ((k + 1 : Nat) : Int)) rfl rfl (by rw [IntKind.wrap_i64]; omega)) <| Rp (pu_move rfl) <| R_nil <| X_round (256 - (k + 1)) [(0, .pointer (some ⟨b, 0, none⟩)), (2, .pointer (some ⟨b0_0, 0, none⟩)), (8, .int .i64 (((k + 1) : Nat) : Int))] (by omega) (Sub.cons rfl (Sub.cons rfl (Sub.cons rfl (Sub.nil _)))) ⟨k + 1, rfl, rfl, by omega, kk20, Bk.eq f_b_20 (by rfl), o22⟩
 ·
  refine C_exit <| X_then_exit (X_then_exit (X_in_eq ?_))
  exact X_ret0 (.inr rfl) rfl ⟨rfl, by rw [show SB = tabR (stab k) (btab k) by rw [show k = 256 by omega, stab_all, btab_all]]; exact f_b_2, kk2⟩
theorem box_once (b : Nat) (w : World) (h : Sx w b) : Ret Tryz.prog 97 #[.pointer (some ⟨b, 0, none⟩), .func (.func 112) #[.pointer (some ⟨b, 0, none⟩)] #[]] w
 (fun v w' => v = .tuple #[] ∧ Bk w' b (OnceL 1 0 SB) 199 ∧ Kp (On b) w w') := by
 rcases h with h | h
 ·
  exact once_do w (by kernel_rfl) h (fun w1 h1 => box_build b w1 h1)
 ·
  exact once_was w h
theorem box_sub (b x : Nat) (hx : x < 256) (w : World) (hS : Sx w b) : Ret Tryz.prog 102 #[.pointer (some ⟨b, 0, none⟩), .int .u8 ((x : Nat) : Int)] w (fun v w' => v = .int .u8 ((sF x : Nat) : Int) ∧ Sx w' b ∧ Kp (On b) w w') := by
 have kk0 := Kp.refl (On b) w
 refine enter (n := 19) [.pointer (some ⟨b, 0, none⟩), .int .u8 ((x : Nat) : Int)] Tryz.func102 rfl rfl rfl ?_
 show Cw _ _ _ _ [(0, .pointer (some ⟨b, 0, none⟩)), (1, .int .u8 ((x : Nat) : Int))] _
 refine C_seq fun K1 hK1 => C_region <| Rp (pu_assign rfl) <| R_nil <| X_then hK1 <| C_seq fun K2 hK2 => C_seq fun K3 hK3 => C_region <| Rp (pu_move rfl) <| Rp (pu_eqlpn (by kernel_rfl) rfl rfl) <| R_nil <| X_then hK3 <| C_false rfl <| C_skip <| X_then hK2 <| C_seq fun K4 hK4 => C_region <| Rp (pu_move rfl) <| Rp (pu_nilCheck rfl) <| Rp (pu_fieldAddr (off := 0) (o' := 0) (by kernel_rfl) rfl rfl) <| Rp (pu_move rfl) <| Rp (pu_makeFunc rfl) <| R_lo (lo_call (by kernel_rfl) rfl (box_once b _ hS)) rfl ?_
 rintro _ w1 ⟨rfl, T1, k1⟩
 have kk1 := kk0.trans k1 (fun i hi => .inl hi)
 exact R_nil <| X_then hK4 <| C_seq fun K5 hK5 => C_region <| Rp (pu_move rfl) <| Rp (pu_move rfl) <| Rp (pu_nilCheck rfl) <| Rp (pu_fieldAddr (off := 3) (o' := 3) (by kernel_rfl) rfl rfl) <| Rp (pu_indexAddrA (m := x) (s := 1) (o' := 3 + x) Tryz.underlying72 (by kernel_rfl) rfl rfl rfl (by omega) (by omega)) <| Rp (pu_loadK T1 (by kernel_rfl) rfl (tab_getE (SLit_get x (by omega)))) <| Rp (pu_assign rfl) <| R_nil <| X_then hK5 <| C_ret <| X_ret1 (.inl rfl) rfl rfl ⟨rfl, Sx.built T1, kk1⟩
theorem box_word (b x : Nat) (hx : x < 4294967296) (w : World) (hS : Sx w b) : Ret Tryz.prog 100 #[.pointer (some ⟨b, 0, none⟩), .int .u32 ((x : Nat) : Int)] w (fun v w' => v = .int .u32 ((sW x : Nat) : Int) ∧ Sx w' b ∧ Kp (On b) w w') := by
 have kk0 := Kp.refl (On b) w
 refine enter (n := 34) [.pointer (some ⟨b, 0, none⟩), .int .u32 ((x : Nat) : Int)] Tryz.func100 rfl rfl rfl ?_
 show Cw _ _ _ _ [(0, .pointer (some ⟨b, 0, none⟩)), (1, .int .u32 ((x : Nat) : Int))] _
 refine C_seq fun K1 hK1 => C_region <| Rp (pu_assign rfl) <| R_nil <| X_then hK1 <| C_seq fun K2 hK2 => C_region <| Rp (pu_move rfl) <| Rp (pu_move rfl) <| Rp (pu_shrc (m := 24) (c := 16777216) rfl rfl (by decide) (fdiv_nat x 16777216)) <| Rp (pu_conv (z := (((x / 16777216) % 256 : Nat) : Int)) Tryz.underlying32 Tryz.underlying5 rfl (by have : x / 16777216 < 4294967296 := (show x / 16777216 < 2 ^ 32 from Nat.lt_of_le_of_lt (Nat.div_le_self _ _) hx); rw [IntKind.wrap_u8]; omega)) ?_
 refine R_lo (lo_call (by kernel_rfl) rfl (box_sub b ((x / 16777216) % 256) (Nat.mod_lt _ (by decide)) _ hS)) rfl ?_
 rintro _ w1 ⟨rfl, T1, k1⟩
 have kk1 := kk0.trans k1 (fun i hi => .inl hi)
 refine Rp (pu_conv (z := ((sF ((x / 16777216) % 256) : Nat) : Int)) Tryz.underlying5 Tryz.underlying32 rfl (by have : sF ((x / 16777216) % 256) < 256 := (sF_lt _); rw [IntKind.wrap_u32]; omega)) ?_
 refine Rp (pu_shlc (m := 24) (c := 16777216) (z := (((sF ((x / 16777216) % 256)) * 16777216 % 4294967296 : Nat) : Int)) rfl rfl (by decide) (by rw [IntKind.wrap_u32]; omega)) <| Rp (pu_move rfl) <| Rp (pu_move rfl) <| Rp (pu_shrc (m := 16) (c := 65536) rfl rfl (by decide) (fdiv_nat x 65536)) <| Rp (pu_conv (z := (((x / 65536) % 256 : Nat) : Int)) Tryz.underlying32 Tryz.underlying5 rfl (by have : x / 65536 < 4294967296 := (show x / 65536 < 2 ^ 32 from Nat.lt_of_le_of_lt (Nat.div_le_self _ _) hx); rw [IntKind.wrap_u8]; omega)) ?_
 refine R_lo (lo_call (by kernel_rfl) rfl (box_sub b ((x / 65536) % 256) (Nat.mod_lt _ (by decide)) _ T1)) rfl ?_
 rintro _ w2 ⟨rfl, T2, k2⟩
 have kk2 := kk1.trans k2 (fun i hi => .inl hi)
 refine Rp (pu_conv (z := ((sF ((x / 65536) % 256) : Nat) : Int)) Tryz.underlying5 Tryz.underlying32 rfl (by have : sF ((x / 65536) % 256) < 256 := (sF_lt _); rw [IntKind.wrap_u32]; omega)) ?_
 refine Rp (pu_shlc (m := 16) (c := 65536) (z := (((sF ((x / 65536) % 256)) * 65536 % 4294967296 : Nat) : Int)) rfl rfl (by decide) (by rw [IntKind.wrap_u32]; omega)) <| Rp (pu_or rfl rfl (u32_or_nat ((sF ((x / 16777216) % 256)) * 16777216 % 4294967296) ((sF ((x / 65536) % 256)) * 65536 % 4294967296) (Nat.mod_lt _ (by decide)) (Nat.mod_lt _ (by decide)))) <| Rp (pu_move rfl) <| Rp (pu_move rfl) <| Rp (pu_shrc (m := 8) (c := 256) rfl rfl (by decide) (fdiv_nat x 256)) <| Rp (pu_conv (z := (((x / 256) % 256 : Nat) : Int)) Tryz.underlying32 Tryz.underlying5 rfl (by have : x / 256 < 4294967296 := (show x / 256 < 2 ^ 32 from Nat.lt_of_le_of_lt (Nat.div_le_self _ _) hx); rw [IntKind.wrap_u8]; omega)) ?_
 refine R_lo (lo_call (by kernel_rfl) rfl (box_sub b ((x / 256) % 256) (Nat.mod_lt _ (by decide)) _ T2)) rfl ?_
 rintro _ w3 ⟨rfl, T3, k3⟩
 have kk3 := kk2.trans k3 (fun i hi => .inl hi)
 refine Rp (pu_conv (z := ((sF ((x / 256) % 256) : Nat) : Int)) Tryz.underlying5 Tryz.underlying32 rfl (by have : sF ((x / 256) % 256) < 256 := (sF_lt _); rw [IntKind.wrap_u32]; omega)) ?_
 refine Rp (pu_shlc (m := 8) (c := 256) (z := (((sF ((x / 256) % 256)) * 256 % 4294967296 : Nat) : Int)) rfl rfl (by decide) (by rw [IntKind.wrap_u32]; omega)) <| Rp (pu_or rfl rfl (u32_or_nat (((sF ((x / 16777216) % 256)) * 16777216 % 4294967296) ||| ((sF ((x / 65536) % 256)) * 65536 % 4294967296)) ((sF ((x / 256) % 256)) * 256 % 4294967296) (Nat.or_lt_two_pow (n := 32) (Nat.mod_lt _ (by decide)) (Nat.mod_lt _ (by decide))) (Nat.mod_lt _ (by decide)))) <| Rp (pu_move rfl) <| Rp (pu_move rfl) <| Rp (pu_conv (z := ((x % 256 : Nat) : Int)) Tryz.underlying32 Tryz.underlying5 rfl (by have : x < 4294967296 := hx; rw [IntKind.wrap_u8]; omega)) <| R_lo (lo_call (by kernel_rfl) rfl (box_sub b (x % 256) (Nat.mod_lt _ (by decide)) _ T3)) rfl ?_
 rintro _ w4 ⟨rfl, T4, k4⟩
 have kk4 := kk3.trans k4 (fun i hi => .inl hi)
 exact Rp (pu_conv (z := ((sF (x % 256) : Nat) : Int)) Tryz.underlying5 Tryz.underlying32 rfl (by have : sF (x % 256) < 256 := (sF_lt _); rw [IntKind.wrap_u32]; omega)) <| Rp (pu_or rfl rfl (u32_or_nat ((((sF ((x / 16777216) % 256)) * 16777216 % 4294967296) ||| ((sF ((x / 65536) % 256)) * 65536 % 4294967296)) ||| ((sF ((x / 256) % 256)) * 256 % 4294967296)) (sF (x % 256)) (Nat.or_lt_two_pow (n := 32) (Nat.or_lt_two_pow (n := 32) (Nat.mod_lt _ (by decide)) (Nat.mod_lt _ (by decide))) (Nat.mod_lt _ (by decide))) (Nat.lt_of_lt_of_le (sF_lt _) (by decide)))) <| Rp (pu_assign rfl) <| R_nil <| X_then hK2 <| C_ret <| X_ret1 (.inl rfl) rfl rfl ⟨rfl, T4, kk4⟩
end Go.Proofs.YtlkbkgghfhoggaaGreatDoor
