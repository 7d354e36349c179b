/- Walks of bursaryref09; the body of AesExact. -/
import Derived.Test.YtfoenaleboodpaaGreatDoorRa
import Derived.Test.YtfoenaleboodpaaGreatDoorRb
import Derived.Test.YtfoenaleboodpaaGreatDoorAw
import Derived.Test.YtfoenaleboodpaaGreatDoorAs
import Derived.Test.YtfoenaleboodpaaGreatDoorLz
set_option linter.unusedVariables false
set_option linter.unusedSimpArgs false
namespace Go.Proofs.YtfoenaleboodpaaGreatDoor
open Go.RowKit Gm
set_option maxRecDepth 100000 in
set_option maxHeartbeats 2000000 in
theorem ref_times2 (x : Nat) (hx : x < 256) (w : World)  : Ret Tryz.prog 59 #[.int .u8 ((x : Nat) : Int), .int .i64 2] w (fun v w' => v = .int .u8 ((tw x : Nat) : Int) ∧ Kp No w w') := by
  have kk0 := Kp.refl No w
  refine enter (n := 18) [.int .u8 ((x : Nat) : Int), .int .i64 2] Tryz.func59 rfl rfl rfl ?_
  show Cw _ _ _ _ [(0, .int .u8 ((x : Nat) : Int)), (1, .int .i64 2)] _
  refine C_seq (fun K1 hK1 => ?_)
  refine C_region ?_
  refine R_pu (pu_assign rfl) rfl ?_
  refine R_nil ?_
  refine X_then hK1 ?_
  refine C_seq (fun K2 hK2 => ?_)
  refine C_region ?_
  refine R_pu (pu_move rfl) rfl ?_
  refine R_pu (pu_shlc (m := 1) (c := 2) (z := ((x * 2 % 256 : Nat) : Int)) rfl rfl (by decide) (by rw [IntKind.wrap_u8]; omega)) rfl ?_
  refine R_pu (pu_assign rfl) rfl ?_
  refine R_nil ?_
  refine X_then hK2 ?_
  refine C_seq (fun K3 hK3 => ?_)
  refine C_seq (fun K4 hK4 => ?_)
  refine C_region ?_
  refine R_pu (pu_move rfl) rfl ?_
  refine R_pu (pu_geq (p := x ≥ 128) rfl rfl (by omega)) rfl ?_
  refine R_nil ?_
  refine X_then hK4 ?_
  refine C_dec rfl (fun h9 => ?_) (fun h9 => ?_)
  · refine C_region ?_
    refine R_pu (pu_move rfl) rfl ?_
    refine R_pu (pu_xor rfl rfl (u8_xor_nat (x * 2 % 256) 27 (Nat.mod_lt _ (by decide)) (by decide))) rfl ?_
    refine R_pu (pu_assign rfl) rfl ?_
    refine R_nil ?_
    refine X_then hK3 ?_
    refine C_seq (fun K5 hK5 => ?_)
    refine C_seq (fun K6 hK6 => ?_)
    refine C_region ?_
    refine R_pu (pu_move rfl) rfl ?_
    refine R_pu (pu_false (pu_eql (p := (2 : Nat) = 3) rfl rfl (by omega)) (by decide)) rfl ?_
    refine R_nil ?_
    refine X_then hK6 ?_
    refine C_false rfl ?_
    refine C_skip ?_
    refine X_then hK5 ?_
    refine C_seq (fun K7 hK7 => ?_)
    refine C_region ?_
    refine R_pu (pu_move rfl) rfl ?_
    refine R_pu (pu_assign rfl) rfl ?_
    refine R_nil ?_
    refine X_then hK7 ?_
    refine C_ret ?_
    exact X_ret1 (.inl rfl) rfl rfl ⟨by first | rw [tw_hi2 x hx h9] | rw [tw_lo2 x hx h9], kk0⟩
  · refine C_skip ?_
    refine X_then hK3 ?_
    refine C_seq (fun K8 hK8 => ?_)
    refine C_seq (fun K9 hK9 => ?_)
    refine C_region ?_
    refine R_pu (pu_move rfl) rfl ?_
    refine R_pu (pu_false (pu_eql (p := (2 : Nat) = 3) rfl rfl (by omega)) (by decide)) rfl ?_
    refine R_nil ?_
    refine X_then hK9 ?_
    refine C_false rfl ?_
    refine C_skip ?_
    refine X_then hK8 ?_
    refine C_seq (fun K10 hK10 => ?_)
    refine C_region ?_
    refine R_pu (pu_move rfl) rfl ?_
    refine R_pu (pu_assign rfl) rfl ?_
    refine R_nil ?_
    refine X_then hK10 ?_
    refine C_ret ?_
    exact X_ret1 (.inl rfl) rfl rfl ⟨by first | rw [tw_hi2 x hx h9] | rw [tw_lo2 x hx h9], kk0⟩
set_option maxRecDepth 100000 in
set_option maxHeartbeats 2000000 in
theorem ref_times3 (x : Nat) (hx : x < 256) (w : World)  : Ret Tryz.prog 59 #[.int .u8 ((x : Nat) : Int), .int .i64 3] w (fun v w' => v = .int .u8 ((tw x ^^^ x : Nat) : Int) ∧ Kp No w w') := by
  have kk0 := Kp.refl No w
  refine enter (n := 18) [.int .u8 ((x : Nat) : Int), .int .i64 3] Tryz.func59 rfl rfl rfl ?_
  show Cw _ _ _ _ [(0, .int .u8 ((x : Nat) : Int)), (1, .int .i64 3)] _
  refine C_seq (fun K1 hK1 => ?_)
  refine C_region ?_
  refine R_pu (pu_assign rfl) rfl ?_
  refine R_nil ?_
  refine X_then hK1 ?_
  refine C_seq (fun K2 hK2 => ?_)
  refine C_region ?_
  refine R_pu (pu_move rfl) rfl ?_
  refine R_pu (pu_shlc (m := 1) (c := 2) (z := ((x * 2 % 256 : Nat) : Int)) rfl rfl (by decide) (by rw [IntKind.wrap_u8]; omega)) rfl ?_
  refine R_pu (pu_assign rfl) rfl ?_
  refine R_nil ?_
  refine X_then hK2 ?_
  refine C_seq (fun K3 hK3 => ?_)
  refine C_seq (fun K4 hK4 => ?_)
  refine C_region ?_
  refine R_pu (pu_move rfl) rfl ?_
  refine R_pu (pu_geq (p := x ≥ 128) rfl rfl (by omega)) rfl ?_
  refine R_nil ?_
  refine X_then hK4 ?_
  refine C_dec rfl (fun h9 => ?_) (fun h9 => ?_)
  · refine C_region ?_
    refine R_pu (pu_move rfl) rfl ?_
    refine R_pu (pu_xor rfl rfl (u8_xor_nat (x * 2 % 256) 27 (Nat.mod_lt _ (by decide)) (by decide))) rfl ?_
    refine R_pu (pu_assign rfl) rfl ?_
    refine R_nil ?_
    refine X_then hK3 ?_
    refine C_seq (fun K5 hK5 => ?_)
    refine C_seq (fun K6 hK6 => ?_)
    refine C_region ?_
    refine R_pu (pu_move rfl) rfl ?_
    refine R_pu (pu_true (pu_eql (p := (3 : Nat) = 3) rfl rfl (by omega)) (by decide)) rfl ?_
    refine R_nil ?_
    refine X_then hK6 ?_
    refine C_true rfl ?_
    refine C_region ?_
    refine R_pu (pu_move rfl) rfl ?_
    refine R_pu (pu_move rfl) rfl ?_
    refine R_pu (pu_xor rfl rfl (u8_xor_nat ((x * 2 % 256) ^^^ 27) x (Nat.xor_lt_two_pow (n := 8) (Nat.mod_lt _ (by decide)) (by decide)) hx)) rfl ?_
    refine R_pu (pu_assign rfl) rfl ?_
    refine R_nil ?_
    refine X_then hK5 ?_
    refine C_seq (fun K7 hK7 => ?_)
    refine C_region ?_
    refine R_pu (pu_move rfl) rfl ?_
    refine R_pu (pu_assign rfl) rfl ?_
    refine R_nil ?_
    refine X_then hK7 ?_
    refine C_ret ?_
    exact X_ret1 (.inl rfl) rfl rfl ⟨by first | rw [tw_hi2 x hx h9] | rw [tw_lo2 x hx h9], kk0⟩
  · refine C_skip ?_
    refine X_then hK3 ?_
    refine C_seq (fun K8 hK8 => ?_)
    refine C_seq (fun K9 hK9 => ?_)
    refine C_region ?_
    refine R_pu (pu_move rfl) rfl ?_
    refine R_pu (pu_true (pu_eql (p := (3 : Nat) = 3) rfl rfl (by omega)) (by decide)) rfl ?_
    refine R_nil ?_
    refine X_then hK9 ?_
    refine C_true rfl ?_
    refine C_region ?_
    refine R_pu (pu_move rfl) rfl ?_
    refine R_pu (pu_move rfl) rfl ?_
    refine R_pu (pu_xor rfl rfl (u8_xor_nat (x * 2 % 256) x (Nat.mod_lt _ (by decide)) hx)) rfl ?_
    refine R_pu (pu_assign rfl) rfl ?_
    refine R_nil ?_
    refine X_then hK8 ?_
    refine C_seq (fun K10 hK10 => ?_)
    refine C_region ?_
    refine R_pu (pu_move rfl) rfl ?_
    refine R_pu (pu_assign rfl) rfl ?_
    refine R_nil ?_
    refine X_then hK10 ?_
    refine C_ret ?_
    exact X_ret1 (.inl rfl) rfl rfl ⟨by first | rw [tw_hi2 x hx h9] | rw [tw_lo2 x hx h9], kk0⟩
set_option maxRecDepth 100000 in
set_option maxHeartbeats 2000000 in
theorem ref_mixed (X : List Nat) (bX : By 16 X) (w : World)  : Ret Tryz.prog 39 #[.agg (u8s X : List Value).toArray] w (fun v w' => v = .agg (u8s (colsR X)).toArray ∧ Kp No w w') := by
  have kk0 := Kp.refl No w
  refine enter (n := 45) [.agg (u8s X : List Value).toArray] Tryz.func39 rfl rfl rfl ?_
  show Cw _ _ _ _ [(0, .agg (u8s X : List Value).toArray)] _
  refine C_seq (fun K1 hK1 => ?_)
  refine C_region ?_
  refine R_lo (lo_box (L := u8s X) rfl rfl) rfl ?_
  rintro _ w1 ⟨p0_0, rfl, N1⟩
  have k1 := N1.kp
  have kk1 := kk0.then_ k1
  have f_p0_0_1 : Bk w1 p0_0 (u8s X) 40 := N1.bk
  refine R_lo (lo_alloc (L := u8s (List.replicate 16 0)) (by kernel_rfl)) rfl ?_
  rintro _ w2 ⟨p0_1, rfl, N2⟩
  have k2 := N2.kp
  have kk2 := kk1.then_ k2
  have ne_p0_1_p0_0 : p0_1 ≠ p0_0 := Nat.ne_of_gt (Nat.lt_of_lt_of_le f_p0_0_1.lt N2.le)
  have f_p0_1_2 : Bk w2 p0_1 (u8s (List.replicate 16 0)) 40 := N2.bk
  refine R_nil ?_
  refine X_then hK1 ?_
  refine C_seq (fun K2 hK2 => ?_)
  refine C_region ?_
  have f3 : Bk w2 p0_0 (u8s X) 40 := (f_p0_0_1.no k2)
  refine R_lo (lo_alloc (L := u8s (List.replicate 16 0)) (by kernel_rfl)) rfl ?_
  rintro _ w3 ⟨q, rfl, N3⟩
  have k3 := N3.kp
  have kk3 := kk2.then_ k3
  have ne_q_p0_0 : q ≠ p0_0 := Nat.ne_of_gt (Nat.lt_of_lt_of_le f3.lt N3.le)
  have ne_q_p0_1 : q ≠ p0_1 := Nat.ne_of_gt (Nat.lt_of_lt_of_le f_p0_1_2.lt N3.le)
  have f_q_3 : Bk w3 q (u8s (List.replicate 16 0)) 40 := N3.bk
  refine R_nil ?_
  refine X_then hK2 ?_
  refine C_seq (fun K4 hK4 => ?_)
  refine C_seq (fun K5 hK5 => ?_)
  refine C_region ?_
  refine R_pu (pu_assign rfl) rfl ?_
  refine R_nil ?_
  refine X_then hK5 ?_
  refine C_block ?_
  have f6 : Bk w3 p0_0 (u8s X) 40 := (f3.no k3)
  have f7 : Bk w3 p0_1 (u8s (List.replicate 16 0)) 40 := (f_p0_1_2.no k3)
  refine C_loop (fun m_ l_ wr => ∃ i : Nat, (m_ = 16 - i) ∧ (l_ = [(1, .pointer (some ⟨p0_0, 0, none⟩)), (2, .pointer (some ⟨p0_1, 0, none⟩)), (3, .pointer (some ⟨q, 0, none⟩)), (4, .int .i64 ((i : Nat) : Int))]) ∧ (i ≤ 16) ∧ (Kp No w wr) ∧ (Bk wr p0_0 (u8s X) 40) ∧ (Bk wr p0_1 (u8s (List.replicate 16 0)) 40) ∧ (Bk wr q (u8s (coU X (i))) 40)) (16 - 0) [(1, .pointer (some ⟨p0_0, 0, none⟩)), (2, .pointer (some ⟨p0_1, 0, none⟩)), (3, .pointer (some ⟨q, 0, none⟩)), (4, .int .i64 0)] (Sub.cons rfl (Sub.cons rfl (Sub.cons rfl (Sub.cons rfl (Sub.nil _))))) ⟨0, rfl, rfl, by omega, kk3, f6, f7, Bk.eq f_q_3 (congrArg u8s (rep_upto _ _))⟩ ?_
  rintro _ _ w4 ⟨i, rfl, rfl, hi, kk4, f_p0_0_4, f_p0_1_4, f_q_4⟩
  refine C_seq (fun K8 hK8 => ?_)
  refine C_seq (fun K9 hK9 => ?_)
  refine C_region ?_
  refine R_pu (pu_move rfl) rfl ?_
  refine R_pu (pu_lss (p := i < 16) rfl rfl (by omega)) rfl ?_
  refine R_nil ?_
  refine X_then hK9 ?_
  refine C_dec rfl (fun h7 => ?_) (fun h7 => ?_)
  · refine C_skip ?_
    refine X_then hK8 ?_
    refine C_seq (fun K10 hK10 => ?_)
    refine C_block ?_
    refine C_seq (fun K11 hK11 => ?_)
    refine C_region ?_
    refine R_pu (pu_move rfl) rfl ?_
    refine R_pu (pu_quo (z := ((i / 4 : Nat) : Int)) rfl rfl (by omega) (by rw [Int.tdiv_eq_ediv_of_nonneg (by omega), IntKind.wrap_i64]; omega)) rfl ?_
    refine R_pu (pu_mul (z := (((i / 4) * 4 : Nat) : Int)) rfl rfl (by rw [IntKind.wrap_i64]; omega)) rfl ?_
    refine R_pu (pu_assign rfl) rfl ?_
    refine R_nil ?_
    refine X_then hK11 ?_
    refine D_begin (fun W => Kp No w W ∧ Bk W p0_0 (u8s X) 40 ∧ Bk W p0_1 (u8s (List.replicate 16 0)) 40) 32 rfl (by kernel_rfl) ⟨kk4.drew, f_p0_0_4.draw, f_p0_1_4.draw⟩ ?_
    intro w5 k5 _
    have kk5 := kk4.then_ k5
    refine D_take 0 rfl (by kernel_rfl) (by kernel_rfl) (by kernel_rfl) (fun _ _ _ h => h) rfl (fun W hS => pu_move rfl) ?_
    refine D_take 1 rfl (by kernel_rfl) (by kernel_rfl) (by kernel_rfl) (fun _ _ _ h => h) rfl (fun W hS => pu_move rfl) ?_
    refine D_take 2 rfl (by kernel_rfl) (by kernel_rfl) (by kernel_rfl) (fun _ _ _ h => h) rfl (fun W hS => pu_indexAddrA (m := i) (s := 1) (o' := i) Tryz.underlying40 (by kernel_rfl) rfl rfl rfl (by omega) (by omega)) ?_
    obtain ⟨x, e_x⟩ : ∃ q_, (X)[i]? = some q_ := ⟨_, List.getElem?_eq_getElem (by rw [(bX).1]; omega)⟩
    have b_x : x < 256 := (bX).2 _ (List.mem_of_getElem? e_x)
    refine D_take 3 rfl (by kernel_rfl) (by kernel_rfl) (by kernel_rfl) (fun _ _ _ h => h) rfl (fun W hS => pu_loadK hS.2.1 (by kernel_rfl) rfl (u8s_get e_x)) ?_
    refine D_take 5 rfl (by kernel_rfl) (by kernel_rfl) (by kernel_rfl) (fun _ _ _ h => h) rfl (fun W hS => pu_move rfl) ?_
    refine D_take 6 rfl (by kernel_rfl) (by kernel_rfl) (by kernel_rfl) (fun _ _ _ h => h) rfl (fun W hS => pu_move rfl) ?_
    refine D_take 7 rfl (by kernel_rfl) (by kernel_rfl) (by kernel_rfl) (fun _ _ _ h => h) rfl (fun W hS => pu_add (z := ((i + 1 : Nat) : Int)) rfl rfl (by rw [IntKind.wrap_i64]; omega)) ?_
    refine D_take 8 rfl (by kernel_rfl) (by kernel_rfl) (by kernel_rfl) (fun _ _ _ h => h) rfl (fun W hS => pu_rem (z := (((i + 1) % 4 : Nat) : Int)) rfl rfl (by omega) (by rfl)) ?_
    refine D_take 9 rfl (by kernel_rfl) (by kernel_rfl) (by kernel_rfl) (fun _ _ _ h => h) rfl (fun W hS => pu_add (z := ((((i / 4) * 4) + ((i + 1) % 4) : Nat) : Int)) rfl rfl (by rw [IntKind.wrap_i64]; omega)) ?_
    refine D_take 10 rfl (by kernel_rfl) (by kernel_rfl) (by kernel_rfl) (fun _ _ _ h => h) rfl (fun W hS => pu_indexAddrA (m := ((i / 4) * 4) + ((i + 1) % 4)) (s := 1) (o' := ((i / 4) * 4) + ((i + 1) % 4)) Tryz.underlying40 (by kernel_rfl) rfl rfl rfl (by omega) (by omega)) ?_
    obtain ⟨y, e_y⟩ : ∃ q_, (X)[((i / 4) * 4) + ((i + 1) % 4)]? = some q_ := ⟨_, List.getElem?_eq_getElem (by rw [(bX).1]; omega)⟩
    have b_y : y < 256 := (bX).2 _ (List.mem_of_getElem? e_y)
    refine D_take 11 rfl (by kernel_rfl) (by kernel_rfl) (by kernel_rfl) (fun _ _ _ h => h) rfl (fun W hS => pu_loadK hS.2.1 (by kernel_rfl) rfl (u8s_get e_y)) ?_
    refine D_take 14 rfl (by kernel_rfl) (by kernel_rfl) (by kernel_rfl) (fun _ _ _ h => h) rfl (fun W hS => pu_move rfl) ?_
    refine D_take 15 rfl (by kernel_rfl) (by kernel_rfl) (by kernel_rfl) (fun _ _ _ h => h) rfl (fun W hS => pu_move rfl) ?_
    refine D_take 16 rfl (by kernel_rfl) (by kernel_rfl) (by kernel_rfl) (fun _ _ _ h => h) rfl (fun W hS => pu_add (z := ((i + 2 : Nat) : Int)) rfl rfl (by rw [IntKind.wrap_i64]; omega)) ?_
    refine D_take 17 rfl (by kernel_rfl) (by kernel_rfl) (by kernel_rfl) (fun _ _ _ h => h) rfl (fun W hS => pu_rem (z := (((i + 2) % 4 : Nat) : Int)) rfl rfl (by omega) (by rfl)) ?_
    refine D_take 18 rfl (by kernel_rfl) (by kernel_rfl) (by kernel_rfl) (fun _ _ _ h => h) rfl (fun W hS => pu_add (z := ((((i / 4) * 4) + ((i + 2) % 4) : Nat) : Int)) rfl rfl (by rw [IntKind.wrap_i64]; omega)) ?_
    refine D_take 19 rfl (by kernel_rfl) (by kernel_rfl) (by kernel_rfl) (fun _ _ _ h => h) rfl (fun W hS => pu_indexAddrA (m := ((i / 4) * 4) + ((i + 2) % 4)) (s := 1) (o' := ((i / 4) * 4) + ((i + 2) % 4)) Tryz.underlying40 (by kernel_rfl) rfl rfl rfl (by omega) (by omega)) ?_
    obtain ⟨z, e_z⟩ : ∃ q_, (X)[((i / 4) * 4) + ((i + 2) % 4)]? = some q_ := ⟨_, List.getElem?_eq_getElem (by rw [(bX).1]; omega)⟩
    have b_z : z < 256 := (bX).2 _ (List.mem_of_getElem? e_z)
    refine D_take 20 rfl (by kernel_rfl) (by kernel_rfl) (by kernel_rfl) (fun _ _ _ h => h) rfl (fun W hS => pu_loadK hS.2.1 (by kernel_rfl) rfl (u8s_get e_z)) ?_
    refine D_take 22 rfl (by kernel_rfl) (by kernel_rfl) (by kernel_rfl) (fun _ _ _ h => h) rfl (fun W hS => pu_move rfl) ?_
    refine D_take 23 rfl (by kernel_rfl) (by kernel_rfl) (by kernel_rfl) (fun _ _ _ h => h) rfl (fun W hS => pu_move rfl) ?_
    refine D_take 24 rfl (by kernel_rfl) (by kernel_rfl) (by kernel_rfl) (fun _ _ _ h => h) rfl (fun W hS => pu_add (z := ((i + 3 : Nat) : Int)) rfl rfl (by rw [IntKind.wrap_i64]; omega)) ?_
    refine D_take 25 rfl (by kernel_rfl) (by kernel_rfl) (by kernel_rfl) (fun _ _ _ h => h) rfl (fun W hS => pu_rem (z := (((i + 3) % 4 : Nat) : Int)) rfl rfl (by omega) (by rfl)) ?_
    refine D_take 26 rfl (by kernel_rfl) (by kernel_rfl) (by kernel_rfl) (fun _ _ _ h => h) rfl (fun W hS => pu_add (z := ((((i / 4) * 4) + ((i + 3) % 4) : Nat) : Int)) rfl rfl (by rw [IntKind.wrap_i64]; omega)) ?_
    refine D_take 27 rfl (by kernel_rfl) (by kernel_rfl) (by kernel_rfl) (fun _ _ _ h => h) rfl (fun W hS => pu_indexAddrA (m := ((i / 4) * 4) + ((i + 3) % 4)) (s := 1) (o' := ((i / 4) * 4) + ((i + 3) % 4)) Tryz.underlying40 (by kernel_rfl) rfl rfl rfl (by omega) (by omega)) ?_
    obtain ⟨t, e_t⟩ : ∃ q_, (X)[((i / 4) * 4) + ((i + 3) % 4)]? = some q_ := ⟨_, List.getElem?_eq_getElem (by rw [(bX).1]; omega)⟩
    have b_t : t < 256 := (bX).2 _ (List.mem_of_getElem? e_t)
    refine D_take 28 rfl (by kernel_rfl) (by kernel_rfl) (by kernel_rfl) (fun _ _ _ h => h) rfl (fun W hS => pu_loadK hS.2.1 (by kernel_rfl) rfl (u8s_get e_t)) ?_
    refine D_one 4 (by kernel_rfl) (Nx_lo rfl (lo_call (by kernel_rfl) rfl (ref_times2 x b_x _)) rfl ?_)
    rintro _ w6 ⟨rfl, k6⟩
    have kk6 := kk5.then_ k6
    have f12 : Bk w6 p0_0 (u8s X) 40 := ((f_p0_0_4.no k5).no k6)
    have f13 : Bk w6 p0_1 (u8s (List.replicate 16 0)) 40 := ((f_p0_1_4.no k5).no k6)
    refine ⟨⟨kk6, f12, f13⟩, ?_⟩
    refine D_one 12 (by kernel_rfl) (Nx_lo rfl (lo_call (by kernel_rfl) rfl (ref_times3 y b_y _)) rfl ?_)
    rintro _ w7 ⟨rfl, k7⟩
    have kk7 := kk6.then_ k7
    have f14 : Bk w7 p0_0 (u8s X) 40 := (f12.no k7)
    have f15 : Bk w7 p0_1 (u8s (List.replicate 16 0)) 40 := (f13.no k7)
    refine ⟨⟨kk7, f14, f15⟩, ?_⟩
    refine D_take 13 rfl (by kernel_rfl) (by kernel_rfl) (by kernel_rfl) (fun _ _ _ h => h) rfl (fun W hS => pu_xor rfl rfl (u8_xor_nat (tw x) (tw y ^^^ y) (tw_lt b_x) (xor_lt8 (tw_lt b_y) b_y))) ?_
    refine D_take 21 rfl (by kernel_rfl) (by kernel_rfl) (by kernel_rfl) (fun _ _ _ h => h) rfl (fun W hS => pu_xor rfl rfl (u8_xor_nat ((tw x) ^^^ (tw y ^^^ y)) z (Nat.xor_lt_two_pow (n := 8) (tw_lt b_x) (xor_lt8 (tw_lt b_y) b_y)) b_z)) ?_
    refine D_take 29 rfl (by kernel_rfl) (by kernel_rfl) (by kernel_rfl) (fun _ _ _ h => h) rfl (fun W hS => pu_xor rfl rfl (u8_xor_nat (((tw x) ^^^ (tw y ^^^ y)) ^^^ z) t (Nat.xor_lt_two_pow (n := 8) (Nat.xor_lt_two_pow (n := 8) (tw_lt b_x) (xor_lt8 (tw_lt b_y) b_y)) b_z) b_t)) ?_
    refine D_take 30 rfl (by kernel_rfl) (by kernel_rfl) (by kernel_rfl) (fun _ _ _ h => h) rfl (fun W hS => pu_indexAddrA (m := i) (s := 1) (o' := i) Tryz.underlying40 (by kernel_rfl) rfl rfl rfl (by omega) (by omega)) ?_
    have f16 : Bk w7 q (u8s (coU X (i))) 40 := (((f_q_4.no k5).no k6).no k7)
    refine D_one 31 (by kernel_rfl) (Nx_lo0 rfl (lo_store f16 (by kernel_rfl) rfl rfl rfl (by rw [u8s_length, (coU_by bX _).1]; omega)) ?_)
    rintro _ w8 kf8
    obtain ⟨k8, f_q_8⟩ := kf8
    replace f_q_8 := Bk.eq f_q_8 (u8s_set _ _ ((((tw x) ^^^ (tw y ^^^ y)) ^^^ z) ^^^ t))
    replace f_q_8 : Bk w8 q (u8s ((coU X (i)).set i ((((tw x) ^^^ (tw y ^^^ y)) ^^^ z) ^^^ t))) 40 := f_q_8
    have kk8 := kk7.trans k8 (fun i hi => .inr (hi ▸ (Nat.le_trans kk2.size N3.le)))
    have f17 : Bk w8 p0_0 (u8s X) 40 := (f14.on k8 (Ne.symm ne_q_p0_0))
    have f18 : Bk w8 p0_1 (u8s (List.replicate 16 0)) 40 := (f15.on k8 (Ne.symm ne_q_p0_1))
    refine ⟨⟨kk8, f17, f18⟩, ?_⟩
    refine D_done (by kernel_rfl) ?_
    refine X_in_normal ?_
    refine X_then hK10 ?_
    refine C_region ?_
    refine R_pu (pu_move rfl) rfl ?_
    refine R_pu (pu_add (z := ((i + 1 : Nat) : Int)) rfl rfl (by rw [IntKind.wrap_i64]; omega)) rfl ?_
    refine R_pu (pu_assign rfl) rfl ?_
    refine R_nil ?_
    refine X_round (16 - (i + 1)) [(1, .pointer (some ⟨p0_0, 0, none⟩)), (2, .pointer (some ⟨p0_1, 0, none⟩)), (3, .pointer (some ⟨q, 0, none⟩)), (4, .int .i64 (((i + 1) : Nat) : Int))] (by omega) (Sub.cons rfl (Sub.cons rfl (Sub.cons rfl (Sub.cons rfl (Sub.nil _))))) ⟨i + 1, rfl, rfl, by omega, kk8, f17, f18, Bk.eq f_q_8 (congrArg u8s (coU_one bX h7 e_x e_y e_z e_t))⟩
  · refine C_exit ?_
    refine X_then_exit (X_then_exit (X_in_eq ?_))
    refine X_then hK4 ?_
    refine C_seq (fun K19 hK19 => ?_)
    refine C_region ?_
    refine R_pu (pu_loadRow (len := 16) f_q_4 (by kernel_rfl) (by kernel_rfl) (by rw [u8s_length]; exact (coU_by bX _).1) rfl) rfl ?_
    refine R_lo0 (lo_storeRow (C := u8s (coU X (i))) f_p0_1_4 (by rw [u8s_length, (coU_by bX _).1]; kernel_rfl) rfl rfl (u8s_each _) ((u8s_length _).trans ((coU_by bX _).1.trans ((rep_by 16).1.symm.trans (u8s_length _).symm)))) ?_
    rintro _ w9 kf9
    obtain ⟨k9, f_p0_1_9⟩ := kf9
    replace f_p0_1_9 : Bk w9 p0_1 (u8s (coU X (i))) 40 := f_p0_1_9
    have kk9 := kk4.trans k9 (fun i hi => .inr (hi ▸ (Nat.le_trans kk1.size N2.le)))
    refine R_nil ?_
    refine X_then hK19 ?_
    refine C_ret ?_
    exact X_retRow (len := 16) (.inl rfl) rfl rfl f_p0_1_9 (by kernel_rfl) (by kernel_rfl) (by rw [u8s_length]; exact (coU_by bX _).1) ⟨by rw [← coU_all, show 16 = i by omega], kk9⟩
set_option maxRecDepth 100000 in
set_option maxHeartbeats 2000000 in
theorem ref_words (A : Option Addr) (K : List Nat) (c : Nat) (w : World) (HB : Bs w A K) (hc : K.length ≤ c) (hl : K.length = 32) : Ret Tryz.prog 38 #[.slice A (K.length) (c), .agg (u8s SLit : List Value).toArray] w (fun v w' => v = .agg (u8s (WB K)).toArray ∧ Kp No w w') := by
  have kk0 := Kp.refl No w
  refine enter (n := 110) [.slice A (K.length) (c), .agg (u8s SLit : List Value).toArray] Tryz.func38 rfl rfl rfl ?_
  show Cw _ _ _ _ [(0, .slice A (K.length) (c)), (1, .agg (u8s SLit : List Value).toArray)] _
  refine C_seq (fun K1 hK1 => ?_)
  refine C_region ?_
  refine R_lo (lo_box (L := u8s SLit) rfl rfl) rfl ?_
  rintro _ w1 ⟨ps, rfl, N1⟩
  have k1 := N1.kp
  have kk1 := kk0.then_ k1
  have f_ps_1 : Bk w1 ps (u8s SLit) 37 := N1.bk
  refine R_lo (lo_alloc (L := u8s (List.replicate 240 0)) (by kernel_rfl)) rfl ?_
  rintro _ w2 ⟨p0_1, rfl, N2⟩
  have k2 := N2.kp
  have kk2 := kk1.then_ k2
  have ne_p0_1_ps : p0_1 ≠ ps := Nat.ne_of_gt (Nat.lt_of_lt_of_le f_ps_1.lt N2.le)
  have f_p0_1_2 : Bk w2 p0_1 (u8s (List.replicate 240 0)) 36 := N2.bk
  refine R_nil ?_
  refine X_then hK1 ?_
  refine C_seq (fun K2 hK2 => ?_)
  refine C_region ?_
  have f3 : Bk w2 ps (u8s SLit) 37 := (f_ps_1.no k2)
  refine R_lo (lo_alloc (L := u8s (List.replicate 240 0)) (by kernel_rfl)) rfl ?_
  rintro _ w3 ⟨q, rfl, N3⟩
  have k3 := N3.kp
  have kk3 := kk2.then_ k3
  have ne_q_ps : q ≠ ps := Nat.ne_of_gt (Nat.lt_of_lt_of_le f3.lt N3.le)
  have ne_q_p0_1 : q ≠ p0_1 := Nat.ne_of_gt (Nat.lt_of_lt_of_le f_p0_1_2.lt N3.le)
  have f_q_3 : Bk w3 q (u8s (List.replicate 240 0)) 36 := N3.bk
  refine R_nil ?_
  refine X_then hK2 ?_
  refine C_seq (fun K4 hK4 => ?_)
  refine C_seq (fun K5 hK5 => ?_)
  refine C_region ?_
  refine R_pu (pu_assign rfl) rfl ?_
  refine R_nil ?_
  refine X_then hK5 ?_
  refine C_block ?_
  have f6 : Bk w3 ps (u8s SLit) 37 := (f3.no k3)
  have f7 : Bk w3 p0_1 (u8s (List.replicate 240 0)) 36 := (f_p0_1_2.no k3)
  refine C_loop (fun m_ l_ wr => ∃ i : Nat, (m_ = 60 - i) ∧ (l_ = [(0, .slice A (K.length) (c)), (3, .pointer (some ⟨ps, 0, none⟩)), (4, .pointer (some ⟨p0_1, 0, none⟩)), (5, .pointer (some ⟨q, 0, none⟩)), (6, .int .i64 ((i : Nat) : Int))]) ∧ (i ≤ 60) ∧ (Kp No w wr) ∧ (Bk wr ps (u8s SLit) 37) ∧ (Bk wr p0_1 (u8s (List.replicate 240 0)) 36) ∧ (Bk wr q (u8s (WU K (i * 4))) 36)) (60 - 0) [(0, .slice A (K.length) (c)), (3, .pointer (some ⟨ps, 0, none⟩)), (4, .pointer (some ⟨p0_1, 0, none⟩)), (5, .pointer (some ⟨q, 0, none⟩)), (6, .int .i64 0)] (Sub.cons rfl (Sub.cons rfl (Sub.cons rfl (Sub.cons rfl (Sub.cons rfl (Sub.nil _)))))) ⟨0, rfl, rfl, by omega, kk3, f6, f7, Bk.eq f_q_3 (congrArg u8s (rep_upto _ _))⟩ ?_
  rintro _ _ w4 ⟨i, rfl, rfl, hi, kk4, f_ps_4, f_p0_1_4, f_q_4⟩
  refine C_seq (fun K8 hK8 => ?_)
  refine C_seq (fun K9 hK9 => ?_)
  refine C_region ?_
  refine R_pu (pu_move rfl) rfl ?_
  refine R_pu (pu_lss (p := i < 60) rfl rfl (by omega)) rfl ?_
  refine R_nil ?_
  refine X_then hK9 ?_
  refine C_dec rfl (fun h10 => ?_) (fun h10 => ?_)
  · refine C_skip ?_
    refine X_then hK8 ?_
    refine C_seq (fun K10 hK10 => ?_)
    refine C_block ?_
    refine C_seq (fun K11 hK11 => ?_)
    refine C_seq (fun K12 hK12 => ?_)
    refine C_region ?_
    refine R_pu (pu_move rfl) rfl ?_
    refine R_pu (pu_lss (p := i < 8) rfl rfl (by omega)) rfl ?_
    refine R_nil ?_
    refine X_then hK12 ?_
    refine C_dec rfl (fun h14 => ?_) (fun h14 => ?_)
    · refine C_seq (fun K13 hK13 => ?_)
      have ek := kb_byte HB.byte h14
      refine D_begin (fun W => Kp No w W ∧ Bk W ps (u8s SLit) 37 ∧ Bk W p0_1 (u8s (List.replicate 240 0)) 36) 27 rfl (by kernel_rfl) ⟨kk4.drew, f_ps_4.draw, f_p0_1_4.draw⟩ ?_
      intro w5 k5 _
      have kk5 := kk4.then_ k5
      refine D_take 0 rfl (by kernel_rfl) (by kernel_rfl) (by kernel_rfl) (fun _ _ _ h => h) rfl (fun W hS => pu_move rfl) ?_
      refine D_take 1 rfl (by kernel_rfl) (by kernel_rfl) (by kernel_rfl) (fun _ _ _ h => h) rfl (fun W hS => pu_move rfl) ?_
      refine D_take 2 rfl (by kernel_rfl) (by kernel_rfl) (by kernel_rfl) (fun _ _ _ h => h) rfl (fun W hS => pu_move rfl) ?_
      refine D_take 3 rfl (by kernel_rfl) (by kernel_rfl) (by kernel_rfl) (fun _ _ _ h => h) rfl (fun W hS => pu_mul (z := ((4 * i : Nat) : Int)) rfl rfl (by rw [IntKind.wrap_i64]; omega)) ?_
      refine D_take 4 rfl (by kernel_rfl) (by kernel_rfl) (by kernel_rfl) (fun _ _ _ h => h) rfl (fun W hS => pu_indexAddrB (m := 4 * i) (HB.keptNo hS.1) Tryz.underlying22 (by kernel_rfl) rfl rfl rfl rfl (by omega)) ?_
      obtain ⟨n0, e_n0⟩ : ∃ q_, (K)[4 * i]? = some q_ := ⟨_, List.getElem?_eq_getElem (by omega)⟩
      have b_n0 : n0 < 256 := ((HB.keptNo kk5)).lt e_n0
      refine D_take 5 rfl (by kernel_rfl) (by kernel_rfl) (by kernel_rfl) (fun _ _ _ h => h) rfl (fun W hS => pu_loadB (HB.keptNo hS.1) (by kernel_rfl) rfl e_n0) ?_
      refine D_take 6 rfl (by kernel_rfl) (by kernel_rfl) (by kernel_rfl) (fun _ _ _ h => h) rfl (fun W hS => pu_move rfl) ?_
      refine D_take 7 rfl (by kernel_rfl) (by kernel_rfl) (by kernel_rfl) (fun _ _ _ h => h) rfl (fun W hS => pu_move rfl) ?_
      refine D_take 8 rfl (by kernel_rfl) (by kernel_rfl) (by kernel_rfl) (fun _ _ _ h => h) rfl (fun W hS => pu_mul (z := ((4 * i : Nat) : Int)) rfl rfl (by rw [IntKind.wrap_i64]; omega)) ?_
      refine D_take 9 rfl (by kernel_rfl) (by kernel_rfl) (by kernel_rfl) (fun _ _ _ h => h) rfl (fun W hS => pu_add (z := (((4 * i) + 1 : Nat) : Int)) rfl rfl (by rw [IntKind.wrap_i64]; omega)) ?_
      refine D_take 10 rfl (by kernel_rfl) (by kernel_rfl) (by kernel_rfl) (fun _ _ _ h => h) rfl (fun W hS => pu_indexAddrB (m := (4 * i) + 1) (HB.keptNo hS.1) Tryz.underlying22 (by kernel_rfl) rfl rfl rfl rfl (by omega)) ?_
      obtain ⟨n1, e_n1⟩ : ∃ q_, (K)[(4 * i) + 1]? = some q_ := ⟨_, List.getElem?_eq_getElem (by omega)⟩
      have b_n1 : n1 < 256 := ((HB.keptNo kk5)).lt e_n1
      refine D_take 11 rfl (by kernel_rfl) (by kernel_rfl) (by kernel_rfl) (fun _ _ _ h => h) rfl (fun W hS => pu_loadB (HB.keptNo hS.1) (by kernel_rfl) rfl e_n1) ?_
      refine D_take 12 rfl (by kernel_rfl) (by kernel_rfl) (by kernel_rfl) (fun _ _ _ h => h) rfl (fun W hS => pu_move rfl) ?_
      refine D_take 13 rfl (by kernel_rfl) (by kernel_rfl) (by kernel_rfl) (fun _ _ _ h => h) rfl (fun W hS => pu_move rfl) ?_
      refine D_take 14 rfl (by kernel_rfl) (by kernel_rfl) (by kernel_rfl) (fun _ _ _ h => h) rfl (fun W hS => pu_mul (z := ((4 * i : Nat) : Int)) rfl rfl (by rw [IntKind.wrap_i64]; omega)) ?_
      refine D_take 15 rfl (by kernel_rfl) (by kernel_rfl) (by kernel_rfl) (fun _ _ _ h => h) rfl (fun W hS => pu_add (z := (((4 * i) + 2 : Nat) : Int)) rfl rfl (by rw [IntKind.wrap_i64]; omega)) ?_
      refine D_take 16 rfl (by kernel_rfl) (by kernel_rfl) (by kernel_rfl) (fun _ _ _ h => h) rfl (fun W hS => pu_indexAddrB (m := (4 * i) + 2) (HB.keptNo hS.1) Tryz.underlying22 (by kernel_rfl) rfl rfl rfl rfl (by omega)) ?_
      obtain ⟨n2, e_n2⟩ : ∃ q_, (K)[(4 * i) + 2]? = some q_ := ⟨_, List.getElem?_eq_getElem (by omega)⟩
      have b_n2 : n2 < 256 := ((HB.keptNo kk5)).lt e_n2
      refine D_take 17 rfl (by kernel_rfl) (by kernel_rfl) (by kernel_rfl) (fun _ _ _ h => h) rfl (fun W hS => pu_loadB (HB.keptNo hS.1) (by kernel_rfl) rfl e_n2) ?_
      refine D_take 18 rfl (by kernel_rfl) (by kernel_rfl) (by kernel_rfl) (fun _ _ _ h => h) rfl (fun W hS => pu_move rfl) ?_
      refine D_take 19 rfl (by kernel_rfl) (by kernel_rfl) (by kernel_rfl) (fun _ _ _ h => h) rfl (fun W hS => pu_move rfl) ?_
      refine D_take 20 rfl (by kernel_rfl) (by kernel_rfl) (by kernel_rfl) (fun _ _ _ h => h) rfl (fun W hS => pu_mul (z := ((4 * i : Nat) : Int)) rfl rfl (by rw [IntKind.wrap_i64]; omega)) ?_
      refine D_take 21 rfl (by kernel_rfl) (by kernel_rfl) (by kernel_rfl) (fun _ _ _ h => h) rfl (fun W hS => pu_add (z := (((4 * i) + 3 : Nat) : Int)) rfl rfl (by rw [IntKind.wrap_i64]; omega)) ?_
      refine D_take 22 rfl (by kernel_rfl) (by kernel_rfl) (by kernel_rfl) (fun _ _ _ h => h) rfl (fun W hS => pu_indexAddrB (m := (4 * i) + 3) (HB.keptNo hS.1) Tryz.underlying22 (by kernel_rfl) rfl rfl rfl rfl (by omega)) ?_
      obtain ⟨n3, e_n3⟩ : ∃ q_, (K)[(4 * i) + 3]? = some q_ := ⟨_, List.getElem?_eq_getElem (by omega)⟩
      have b_n3 : n3 < 256 := ((HB.keptNo kk5)).lt e_n3
      refine D_take 23 rfl (by kernel_rfl) (by kernel_rfl) (by kernel_rfl) (fun _ _ _ h => h) rfl (fun W hS => pu_loadB (HB.keptNo hS.1) (by kernel_rfl) rfl e_n3) ?_
      refine D_take 24 rfl (by kernel_rfl) (by kernel_rfl) (by kernel_rfl) (fun _ _ _ h => h) rfl (fun W hS => pu_build (L := u8s [n0, n1, n2, n3]) rfl (by kernel_rfl)) ?_
      refine D_take 25 rfl (by kernel_rfl) (by kernel_rfl) (by kernel_rfl) (fun _ _ _ h => h) rfl (fun W hS => pu_indexAddrA (m := i) (s := 4) (o' := i * 4) Tryz.underlying36 (by kernel_rfl) rfl rfl rfl (by omega) (by omega)) ?_
      have f14 : Bk w5 q (u8s (WU K (i * 4))) 36 := (f_q_4.no k5)
      refine D_one 26 (by kernel_rfl) (Nx_lo0 rfl (lo_storeCs (C := u8s ([n0, n1, n2, n3])) f14 (by rw [u8s_length, (by4 b_n0 b_n1 b_n2 b_n3).1]; kernel_rfl) rfl rfl rfl (u8s_each _) (by rw [u8s_length, u8s_length, (by4 b_n0 b_n1 b_n2 b_n3).1, (WU_by K _).1]; omega)) ?_)
      rintro _ w6 kf6
      obtain ⟨k6, f_q_6⟩ := kf6
      replace f_q_6 := Bk.eq f_q_6 (u8s_store (by4 b_n0 b_n1 b_n2 b_n3).1)
      replace f_q_6 : Bk w6 q (u8s ((WU K (i * 4)).take (i * 4) ++ ([n0, n1, n2, n3]) ++ (WU K (i * 4)).drop (i * 4 + 4))) 36 := f_q_6
      have kk6 := kk5.trans k6 (fun i hi => .inr (hi ▸ (Nat.le_trans kk2.size N3.le)))
      have f15 : Bk w6 ps (u8s SLit) 37 := ((f_ps_4.no k5).on k6 (Ne.symm ne_q_ps))
      have f16 : Bk w6 p0_1 (u8s (List.replicate 240 0)) 36 := ((f_p0_1_4.no k5).on k6 (Ne.symm ne_q_p0_1))
      refine ⟨⟨kk6, f15, f16⟩, ?_⟩
      refine D_done (by kernel_rfl) ?_
      refine X_then hK13 ?_
      refine C_exit ?_
      refine X_then_exit (X_in_eq ?_)
      refine X_then hK10 ?_
      refine C_region ?_
      refine R_pu (pu_move rfl) rfl ?_
      refine R_pu (pu_add (z := ((i + 1 : Nat) : Int)) rfl rfl (by rw [IntKind.wrap_i64]; omega)) rfl ?_
      refine R_pu (pu_assign rfl) rfl ?_
      refine R_nil ?_
      refine X_round (60 - (i + 1)) [(0, .slice A (K.length) (c)), (3, .pointer (some ⟨ps, 0, none⟩)), (4, .pointer (some ⟨p0_1, 0, none⟩)), (5, .pointer (some ⟨q, 0, none⟩)), (6, .int .i64 (((i + 1) : Nat) : Int))] (by omega) (Sub.cons rfl (Sub.cons rfl (Sub.cons rfl (Sub.cons rfl (Sub.cons rfl (Sub.nil _)))))) ⟨i + 1, rfl, rfl, by omega, kk6, f15, f16, Bk.eq f_q_6 (congrArg u8s (WU_row K h10 (by rw [← ek.1, getD_some e_n0]) (by rw [← ek.2.1, getD_some e_n1]) (by rw [← ek.2.2.1, getD_some e_n2]) (by rw [← ek.2.2.2, getD_some e_n3])))⟩
    · refine C_skip ?_
      refine X_then hK11 ?_
      refine C_seq (fun K17 hK17 => ?_)
      refine C_region ?_
      refine R_pu (pu_move rfl) rfl ?_
      refine R_pu (pu_sub (z := ((i - 1 : Nat) : Int)) rfl rfl (by rw [IntKind.wrap_i64]; omega)) rfl ?_
      refine R_pu (pu_indexAddrA (m := i - 1) (s := 4) (o' := (i - 1) * 4) Tryz.underlying36 (by kernel_rfl) rfl rfl rfl (by omega) (by omega)) rfl ?_
      refine R_pu (pu_loadMid (len := 4) (C := u8s (((WU K (i * 4)).drop ((i - 1) * 4)).take 4)) f_q_4 (by kernel_rfl) (by kernel_rfl) rfl (u8s_mid _ _ _) (by rw [u8s_length]; exact (by_mid (o := (i - 1) * 4) (n := 4) (WU_by K _) (by omega)).1)) rfl ?_
      refine R_lo (lo_alloc (L := u8s (List.replicate 4 0)) (by kernel_rfl)) rfl ?_
      rintro _ w7 ⟨pv, rfl, N7⟩
      have k7 := N7.kp
      have kk7 := kk4.then_ k7
      have ne_pv_ps : pv ≠ ps := Nat.ne_of_gt (Nat.lt_of_lt_of_le f_ps_4.lt N7.le)
      have ne_pv_p0_1 : pv ≠ p0_1 := Nat.ne_of_gt (Nat.lt_of_lt_of_le f_p0_1_4.lt N7.le)
      have ne_pv_q : pv ≠ q := Nat.ne_of_gt (Nat.lt_of_lt_of_le f_q_4.lt N7.le)
      have f_pv_7 : Bk w7 pv (u8s (List.replicate 4 0)) 35 := N7.bk
      refine R_lo0 (lo_storeRow (C := u8s (((WU K (i * 4)).drop ((i - 1) * 4)).take 4)) f_pv_7 (by rw [u8s_length, (by_mid (o := (i - 1) * 4) (n := 4) (WU_by K _) (by omega)).1]; kernel_rfl) rfl rfl (u8s_each _) ((u8s_length _).trans ((by_mid (o := (i - 1) * 4) (n := 4) (WU_by K _) (by omega)).1.trans ((rep_by 4).1.symm.trans (u8s_length _).symm)))) ?_
      rintro _ w8 kf8
      obtain ⟨k8, f_pv_8⟩ := kf8
      replace f_pv_8 : Bk w8 pv (u8s (((WU K (i * 4)).drop ((i - 1) * 4)).take 4)) 35 := f_pv_8
      have kk8 := kk7.trans k8 (fun i hi => .inr (hi ▸ (Nat.le_trans kk4.size N7.le)))
      refine R_nil ?_
      refine X_then hK17 ?_
      refine C_seq (fun K18 hK18 => ?_)
      refine C_seq (fun K19 hK19 => ?_)
      have h8 : 8 ≤ i := by omega
      have hp : wF K (i - 1) < 4294967296 := wF_lt HB.byte _ (by omega)
      have fV : Bk w8 pv (u8s [bW (wF K (i - 1)) 0, bW (wF K (i - 1)) 1, bW (wF K (i - 1)) 2, bW (wF K (i - 1)) 3]) 35 := Bk.eq f_pv_8 (congrArg u8s (WU_take (by omega) (by omega)))
      refine C_region ?_
      refine R_pu (pu_move rfl) rfl ?_
      refine R_pu (pu_rem (z := ((i % 8 : Nat) : Int)) rfl rfl (by omega) (by rfl)) rfl ?_
      refine R_pu (pu_eql (p := (i % 8) = 0) rfl rfl (by omega)) rfl ?_
      refine R_nil ?_
      refine X_then hK19 ?_
      refine C_dec rfl (fun h47 => ?_) (fun h47 => ?_)
      · have h2 := pow_le (i / 8 - 1) 7 _ (by omega) rfl; have h20 := Int.natCast_nonneg (2 ^ (i / 8 - 1))
        have x0 := bW_lt (wF K (i - 1)) 0
        have x1 := bW_lt (wF K (i - 1)) 1
        have x2 := bW_lt (wF K (i - 1)) 2
        have x3 := bW_lt (wF K (i - 1)) 3
        have f20 : Bk w8 ps (u8s SLit) 37 := ((f_ps_4.no k7).on k8 (Ne.symm ne_pv_ps))
        have f21 : Bk w8 p0_1 (u8s (List.replicate 240 0)) 36 := ((f_p0_1_4.no k7).on k8 (Ne.symm ne_pv_p0_1))
        have f22 : Bk w8 q (u8s (WU K (i * 4))) 36 := ((f_q_4.no k7).on k8 (Ne.symm ne_pv_q))
        refine Z_begin (fun W => Kp No w W ∧ Bk W ps (u8s SLit) 37 ∧ Bk W p0_1 (u8s (List.replicate 240 0)) 36 ∧ Bk W q (u8s (WU K (i * 4))) 36 ∧ Bk W pv (u8s ([bW (wF K (i - 1)) 0, bW (wF K (i - 1)) 1, bW (wF K (i - 1)) 2, bW (wF K (i - 1)) 3])) 35) 23 24 rfl (by kernel_rfl) ⟨kk8.drew, f20.draw, f21.draw, f22.draw, fV.draw⟩ ?_
        intro w9 k9 _
        have kk9 := kk8.then_ k9
        refine Z_take 0 rfl (by kernel_rfl) (by kernel_rfl) (by kernel_rfl) (by kernel_rfl) (by kernel_rfl) (fun _ _ _ h => h) rfl (fun W hS => pu_indexAddrA (m := 1) (s := 1) (o' := 1) Tryz.underlying35 (by kernel_rfl) rfl rfl rfl (by omega) (by omega)) ?_
        refine Z_take 1 rfl (by kernel_rfl) (by kernel_rfl) (by kernel_rfl) (by kernel_rfl) (by kernel_rfl) (fun _ _ _ h => h) rfl (fun W hS => pu_loadK hS.2.2.2.2 (by kernel_rfl) rfl (u8s_get (i := 1) (n := bW (wF K (i - 1)) 1) rfl)) ?_
        refine Z_take 2 rfl (by kernel_rfl) (by kernel_rfl) (by kernel_rfl) (by kernel_rfl) (by kernel_rfl) (fun _ _ _ h => h) rfl (fun W hS => pu_indexAddrA (m := bW (wF K (i - 1)) 1) (s := 1) (o' := bW (wF K (i - 1)) 1) Tryz.underlying37 (by kernel_rfl) rfl rfl rfl (by omega) (by omega)) ?_
        refine Z_take 3 rfl (by kernel_rfl) (by kernel_rfl) (by kernel_rfl) (by kernel_rfl) (by kernel_rfl) (fun _ _ _ h => h) rfl (fun W hS => pu_loadK hS.2.1 (by kernel_rfl) rfl (u8s_get (SLit_get (bW (wF K (i - 1)) 1) (bW_lt _ _)))) ?_
        refine Z_take 4 rfl (by kernel_rfl) (by kernel_rfl) (by kernel_rfl) (by kernel_rfl) (by kernel_rfl) (fun _ _ _ h => h) rfl (fun W hS => pu_move rfl) ?_
        refine Z_take 5 rfl (by kernel_rfl) (by kernel_rfl) (by kernel_rfl) (by kernel_rfl) (by kernel_rfl) (fun _ _ _ h => h) rfl (fun W hS => pu_quo (z := ((i / 8 : Nat) : Int)) rfl rfl (by omega) (by rw [Int.tdiv_eq_ediv_of_nonneg (by omega), IntKind.wrap_i64]; omega)) ?_
        refine Z_take 6 rfl (by kernel_rfl) (by kernel_rfl) (by kernel_rfl) (by kernel_rfl) (by kernel_rfl) (fun _ _ _ h => h) rfl (fun W hS => pu_sub (z := (((i / 8) - 1 : Nat) : Int)) rfl rfl (by rw [IntKind.wrap_i64]; omega)) ?_
        refine Z_take 10 rfl (by kernel_rfl) (by kernel_rfl) (by kernel_rfl) (by kernel_rfl) (by kernel_rfl) (fun _ _ _ h => h) rfl (fun W hS => pu_indexAddrA (m := 2) (s := 1) (o' := 2) Tryz.underlying35 (by kernel_rfl) rfl rfl rfl (by omega) (by omega)) ?_
        refine Z_take 11 rfl (by kernel_rfl) (by kernel_rfl) (by kernel_rfl) (by kernel_rfl) (by kernel_rfl) (fun _ _ _ h => h) rfl (fun W hS => pu_loadK hS.2.2.2.2 (by kernel_rfl) rfl (u8s_get (i := 2) (n := bW (wF K (i - 1)) 2) rfl)) ?_
        refine Z_take 12 rfl (by kernel_rfl) (by kernel_rfl) (by kernel_rfl) (by kernel_rfl) (by kernel_rfl) (fun _ _ _ h => h) rfl (fun W hS => pu_indexAddrA (m := bW (wF K (i - 1)) 2) (s := 1) (o' := bW (wF K (i - 1)) 2) Tryz.underlying37 (by kernel_rfl) rfl rfl rfl (by omega) (by omega)) ?_
        refine Z_take 13 rfl (by kernel_rfl) (by kernel_rfl) (by kernel_rfl) (by kernel_rfl) (by kernel_rfl) (fun _ _ _ h => h) rfl (fun W hS => pu_loadK hS.2.1 (by kernel_rfl) rfl (u8s_get (SLit_get (bW (wF K (i - 1)) 2) (bW_lt _ _)))) ?_
        refine Z_take 14 rfl (by kernel_rfl) (by kernel_rfl) (by kernel_rfl) (by kernel_rfl) (by kernel_rfl) (fun _ _ _ h => h) rfl (fun W hS => pu_indexAddrA (m := 3) (s := 1) (o' := 3) Tryz.underlying35 (by kernel_rfl) rfl rfl rfl (by omega) (by omega)) ?_
        refine Z_take 15 rfl (by kernel_rfl) (by kernel_rfl) (by kernel_rfl) (by kernel_rfl) (by kernel_rfl) (fun _ _ _ h => h) rfl (fun W hS => pu_loadK hS.2.2.2.2 (by kernel_rfl) rfl (u8s_get (i := 3) (n := bW (wF K (i - 1)) 3) rfl)) ?_
        refine Z_take 16 rfl (by kernel_rfl) (by kernel_rfl) (by kernel_rfl) (by kernel_rfl) (by kernel_rfl) (fun _ _ _ h => h) rfl (fun W hS => pu_indexAddrA (m := bW (wF K (i - 1)) 3) (s := 1) (o' := bW (wF K (i - 1)) 3) Tryz.underlying37 (by kernel_rfl) rfl rfl rfl (by omega) (by omega)) ?_
        refine Z_take 17 rfl (by kernel_rfl) (by kernel_rfl) (by kernel_rfl) (by kernel_rfl) (by kernel_rfl) (fun _ _ _ h => h) rfl (fun W hS => pu_loadK hS.2.1 (by kernel_rfl) rfl (u8s_get (SLit_get (bW (wF K (i - 1)) 3) (bW_lt _ _)))) ?_
        refine Z_take 18 rfl (by kernel_rfl) (by kernel_rfl) (by kernel_rfl) (by kernel_rfl) (by kernel_rfl) (fun _ _ _ h => h) rfl (fun W hS => pu_indexAddrA (m := 0) (s := 1) (o' := 0) Tryz.underlying35 (by kernel_rfl) rfl rfl rfl (by omega) (by omega)) ?_
        refine Z_take 19 rfl (by kernel_rfl) (by kernel_rfl) (by kernel_rfl) (by kernel_rfl) (by kernel_rfl) (fun _ _ _ h => h) rfl (fun W hS => pu_loadK hS.2.2.2.2 (by kernel_rfl) rfl (u8s_get (i := 0) (n := bW (wF K (i - 1)) 0) rfl)) ?_
        refine Z_take 20 rfl (by kernel_rfl) (by kernel_rfl) (by kernel_rfl) (by kernel_rfl) (by kernel_rfl) (fun _ _ _ h => h) rfl (fun W hS => pu_indexAddrA (m := bW (wF K (i - 1)) 0) (s := 1) (o' := bW (wF K (i - 1)) 0) Tryz.underlying37 (by kernel_rfl) rfl rfl rfl (by omega) (by omega)) ?_
        refine Z_take 21 rfl (by kernel_rfl) (by kernel_rfl) (by kernel_rfl) (by kernel_rfl) (by kernel_rfl) (fun _ _ _ h => h) rfl (fun W hS => pu_loadK hS.2.1 (by kernel_rfl) rfl (u8s_get (SLit_get (bW (wF K (i - 1)) 0) (bW_lt _ _)))) ?_
        refine Z_one 7 (by kernel_rfl) (Nz_lo rfl (lo_call (by kernel_rfl) rfl (ref_power ((i / 8) - 1) (by omega) _)) rfl ?_)
        rintro _ w10 ⟨rfl, k10⟩
        have kk10 := kk9.then_ k10
        have f23 : Bk w10 ps (u8s SLit) 37 := ((f20.no k9).no k10)
        have f24 : Bk w10 p0_1 (u8s (List.replicate 240 0)) 36 := ((f21.no k9).no k10)
        have f25 : Bk w10 q (u8s (WU K (i * 4))) 36 := ((f22.no k9).no k10)
        have f26 : Bk w10 pv (u8s ([bW (wF K (i - 1)) 0, bW (wF K (i - 1)) 1, bW (wF K (i - 1)) 2, bW (wF K (i - 1)) 3])) 35 := ((fV.no k9).no k10)
        refine ⟨⟨kk10, f23, f24, f25, f26⟩, ?_⟩
        refine Z_take 8 rfl (by kernel_rfl) (by kernel_rfl) (by kernel_rfl) (by kernel_rfl) (by kernel_rfl) (fun _ _ _ h => h) rfl (fun W hS => pu_conv (z := ((2 ^ ((i / 8) - 1) : Nat) : Int)) Tryz.underlying3 Tryz.underlying5 rfl (by rw [IntKind.wrap_u8]; omega)) ?_
        refine Z_take 9 rfl (by kernel_rfl) (by kernel_rfl) (by kernel_rfl) (by kernel_rfl) (by kernel_rfl) (fun _ _ _ h => h) rfl (fun W hS => pu_xor rfl rfl (u8_xor_nat (sF (bW (wF K (i - 1)) 1)) (2 ^ ((i / 8) - 1)) (sF_lt _) (by omega))) ?_
        refine Z_take 22 rfl (by kernel_rfl) (by kernel_rfl) (by kernel_rfl) (by kernel_rfl) (by kernel_rfl) (fun _ _ _ h => h) rfl (fun W hS => pu_build (L := u8s [(sF (bW (wF K (i - 1)) 1)) ^^^ (2 ^ ((i / 8) - 1)), sF (bW (wF K (i - 1)) 2), sF (bW (wF K (i - 1)) 3), sF (bW (wF K (i - 1)) 0)]) rfl (by kernel_rfl)) ?_
        refine Z_last 23 (by kernel_rfl) rfl (by kernel_rfl) (by kernel_rfl) (lo_storeRow (C := u8s ([(sF (bW (wF K (i - 1)) 1)) ^^^ (2 ^ ((i / 8) - 1)), sF (bW (wF K (i - 1)) 2), sF (bW (wF K (i - 1)) 3), sF (bW (wF K (i - 1)) 0)])) f26 (by rw [u8s_length, (by4 (Nat.xor_lt_two_pow (n := 8) (sF_lt _) (by omega)) (sF_lt _) (sF_lt _) (sF_lt _)).1]; kernel_rfl) rfl rfl (u8s_each _) ((u8s_length _).trans ((by4 (Nat.xor_lt_two_pow (n := 8) (sF_lt _) (by omega)) (sF_lt _) (sF_lt _) (sF_lt _)).1.trans ((by4 (bW_lt _ _) (bW_lt _ _) (bW_lt _ _) (bW_lt _ _)).1.symm.trans (u8s_length _).symm)))) ?_
        rintro _ w11 kf11
        obtain ⟨k11, f_pv_11⟩ := kf11
        replace f_pv_11 : Bk w11 pv (u8s ([(sF (bW (wF K (i - 1)) 1)) ^^^ (2 ^ ((i / 8) - 1)), sF (bW (wF K (i - 1)) 2), sF (bW (wF K (i - 1)) 3), sF (bW (wF K (i - 1)) 0)])) 35 := f_pv_11
        have kk11 := kk10.trans k11 (fun i hi => .inr (hi ▸ (Nat.le_trans kk4.size N7.le)))
        refine X_then hK18 ?_
        refine C_cut (fun l_ wr => (l_ = [(0, .slice A (K.length) (c)), (3, .pointer (some ⟨ps, 0, none⟩)), (4, .pointer (some ⟨p0_1, 0, none⟩)), (5, .pointer (some ⟨q, 0, none⟩)), (6, .int .i64 ((i : Nat) : Int)), (7, .pointer (some ⟨pv, 0, none⟩))]) ∧ (Kp No w wr) ∧ (Bk wr ps (u8s SLit) 37) ∧ (Bk wr p0_1 (u8s (List.replicate 240 0)) 36) ∧ (Bk wr q (u8s (WU K (i * 4))) 36) ∧ (Bk wr pv (u8s (gL (wF K (i - 1)) i)) 35)) (fun K_ hK_ => ?_) ?_
        · refine C_seq (fun K27 hK27 => ?_)
          refine C_region ?_
          refine R_pu (pu_move rfl) rfl ?_
          refine R_pu (pu_rem (z := ((i % 8 : Nat) : Int)) rfl rfl (by omega) (by rfl)) rfl ?_
          refine R_pu (pu_eql (p := (i % 8) = 4) rfl rfl (by omega)) rfl ?_
          refine R_nil ?_
          refine X_then hK27 ?_
          refine C_decf rfl (by omega) ?_
          refine C_skip ?_
          have f28 : Bk w11 ps (u8s SLit) 37 := (f23.on k11 (Ne.symm ne_pv_ps))
          have f29 : Bk w11 p0_1 (u8s (List.replicate 240 0)) 36 := (f24.on k11 (Ne.symm ne_pv_p0_1))
          have f30 : Bk w11 q (u8s (WU K (i * 4))) 36 := (f25.on k11 (Ne.symm ne_pv_q))
          refine X_cut hK_ [(0, .slice A (K.length) (c)), (3, .pointer (some ⟨ps, 0, none⟩)), (4, .pointer (some ⟨p0_1, 0, none⟩)), (5, .pointer (some ⟨q, 0, none⟩)), (6, .int .i64 ((i : Nat) : Int)), (7, .pointer (some ⟨pv, 0, none⟩))] (Sub.cons rfl (Sub.cons rfl (Sub.cons rfl (Sub.cons rfl (Sub.cons rfl (Sub.cons rfl (Sub.nil _))))))) ⟨rfl, kk11, f28, f29, f30, Bk.eq f_pv_11 (congrArg u8s (gL_rot hp h8 h10 h47))⟩
        · rintro _ w12 ⟨rfl, kk12, f_ps_12, f_p0_1_12, f_q_12, f_pv_12⟩
          refine C_seq (fun K31 hK31 => ?_)
          refine C_region ?_
          refine R_pu (pu_assign rfl) rfl ?_
          refine R_nil ?_
          refine X_then hK31 ?_
          refine C_block ?_
          refine C_loop (fun m_ l_ wr => ∃ k : Nat, (m_ = 4 - k) ∧ (l_ = [(0, .slice A (K.length) (c)), (3, .pointer (some ⟨ps, 0, none⟩)), (4, .pointer (some ⟨p0_1, 0, none⟩)), (5, .pointer (some ⟨q, 0, none⟩)), (6, .int .i64 ((i : Nat) : Int)), (7, .pointer (some ⟨pv, 0, none⟩)), (8, .int .i64 ((k : Nat) : Int))]) ∧ (k ≤ 4) ∧ (Kp No w wr) ∧ (Bk wr ps (u8s SLit) 37) ∧ (Bk wr p0_1 (u8s (List.replicate 240 0)) 36) ∧ (Bk wr q (u8s (WU K (i * 4 + k))) 36) ∧ (Bk wr pv (u8s (gL (wF K (i - 1)) i)) 35)) (4 - 0) [(0, .slice A (K.length) (c)), (3, .pointer (some ⟨ps, 0, none⟩)), (4, .pointer (some ⟨p0_1, 0, none⟩)), (5, .pointer (some ⟨q, 0, none⟩)), (6, .int .i64 ((i : Nat) : Int)), (7, .pointer (some ⟨pv, 0, none⟩)), (8, .int .i64 0)] (Sub.cons rfl (Sub.cons rfl (Sub.cons rfl (Sub.cons rfl (Sub.cons rfl (Sub.cons rfl (Sub.cons rfl (Sub.nil _)))))))) ⟨0, rfl, rfl, by omega, kk12, f_ps_12, f_p0_1_12, Bk.eq f_q_12 (congrArg u8s rfl), f_pv_12⟩ ?_
          rintro _ _ w13 ⟨k, rfl, rfl, hk, kk13, f_ps_13, f_p0_1_13, f_q_13, f_pv_13⟩
          refine C_seq (fun K32 hK32 => ?_)
          refine C_seq (fun K33 hK33 => ?_)
          refine C_region ?_
          refine R_pu (pu_move rfl) rfl ?_
          refine R_pu (pu_lss (p := k < 4) rfl rfl (by omega)) rfl ?_
          refine R_nil ?_
          refine X_then hK33 ?_
          refine C_dec rfl (fun h92 => ?_) (fun h92 => ?_)
          · refine C_skip ?_
            refine X_then hK32 ?_
            refine C_seq (fun K34 hK34 => ?_)
            refine C_block ?_
            refine D_begin (fun W => Kp No w W ∧ Bk W ps (u8s SLit) 37 ∧ Bk W p0_1 (u8s (List.replicate 240 0)) 36 ∧ Bk W pv (u8s (gL (wF K (i - 1)) i)) 35) 15 rfl (by kernel_rfl) ⟨kk13.drew, f_ps_13.draw, f_p0_1_13.draw, f_pv_13.draw⟩ ?_
            intro w14 k14 _
            have kk14 := kk13.then_ k14
            refine D_take 0 rfl (by kernel_rfl) (by kernel_rfl) (by kernel_rfl) (fun _ _ _ h => h) rfl (fun W hS => pu_move rfl) ?_
            refine D_take 1 rfl (by kernel_rfl) (by kernel_rfl) (by kernel_rfl) (fun _ _ _ h => h) rfl (fun W hS => pu_move rfl) ?_
            refine D_take 2 rfl (by kernel_rfl) (by kernel_rfl) (by kernel_rfl) (fun _ _ _ h => h) rfl (fun W hS => pu_move rfl) ?_
            refine D_take 3 rfl (by kernel_rfl) (by kernel_rfl) (by kernel_rfl) (fun _ _ _ h => h) rfl (fun W hS => pu_sub (z := ((i - 8 : Nat) : Int)) rfl rfl (by rw [IntKind.wrap_i64]; omega)) ?_
            refine D_take 4 rfl (by kernel_rfl) (by kernel_rfl) (by kernel_rfl) (fun _ _ _ h => h) rfl (fun W hS => pu_move rfl) ?_
            refine D_take 5 rfl (by kernel_rfl) (by kernel_rfl) (by kernel_rfl) (fun _ _ _ h => h) rfl (fun W hS => pu_indexAddrA (m := i - 8) (s := 4) (o' := (i - 8) * 4) Tryz.underlying36 (by kernel_rfl) rfl rfl rfl (by omega) (by omega)) ?_
            refine D_take 6 rfl (by kernel_rfl) (by kernel_rfl) (by kernel_rfl) (fun _ _ _ h => h) rfl (fun W hS => pu_indexAddrA (m := k) (s := 1) (o' := (i - 8) * 4 + k) Tryz.underlying35 (by kernel_rfl) rfl rfl rfl (by omega) (by omega)) ?_
            refine D_take 8 rfl (by kernel_rfl) (by kernel_rfl) (by kernel_rfl) (fun _ _ _ h => h) rfl (fun W hS => pu_move rfl) ?_
            refine D_take 9 rfl (by kernel_rfl) (by kernel_rfl) (by kernel_rfl) (fun _ _ _ h => h) rfl (fun W hS => pu_indexAddrA (m := k) (s := 1) (o' := k) Tryz.underlying35 (by kernel_rfl) rfl rfl rfl (by omega) (by omega)) ?_
            refine D_take 10 rfl (by kernel_rfl) (by kernel_rfl) (by kernel_rfl) (fun _ _ _ h => h) rfl (fun W hS => pu_loadK hS.2.2.2 (by kernel_rfl) rfl (u8s_get (arr_get _ (by omega)))) ?_
            refine D_take 12 rfl (by kernel_rfl) (by kernel_rfl) (by kernel_rfl) (fun _ _ _ h => h) rfl (fun W hS => pu_indexAddrA (m := i) (s := 4) (o' := i * 4) Tryz.underlying36 (by kernel_rfl) rfl rfl rfl (by omega) (by omega)) ?_
            have f35 : Bk w14 q (u8s (WU K (i * 4 + k))) 36 := (f_q_13.no k14)
            have f36 : Bk w14 ps (u8s SLit) 37 := (f_ps_13.no k14)
            have f37 : Bk w14 p0_1 (u8s (List.replicate 240 0)) 36 := (f_p0_1_13.no k14)
            have f38 : Bk w14 pv (u8s (gL (wF K (i - 1)) i)) 35 := (f_pv_13.no k14)
            refine D_one 7 (by kernel_rfl) (Nx_pu rfl (pu_loadK f35 (by kernel_rfl) rfl (u8s_get (upto_lo (by omega) (by omega)))) rfl ⟨⟨kk14, f36, f37, f38⟩, ?_⟩)
            refine D_take 11 rfl (by kernel_rfl) (by kernel_rfl) (by kernel_rfl) (fun _ _ _ h => h) rfl (fun W hS => pu_xor rfl rfl (u8_xor_nat (WBf K ((i - 8) * 4 + k)) (bW (gq (wF K (i - 1)) i) k) (bW_lt _ _) (bW_lt _ _))) ?_
            refine D_take 13 rfl (by kernel_rfl) (by kernel_rfl) (by kernel_rfl) (fun _ _ _ h => h) rfl (fun W hS => pu_indexAddrA (m := k) (s := 1) (o' := i * 4 + k) Tryz.underlying35 (by kernel_rfl) rfl rfl rfl (by omega) (by omega)) ?_
            refine D_one 14 (by kernel_rfl) (Nx_lo0 rfl (lo_store f35 (by kernel_rfl) rfl rfl rfl (by rw [u8s_length, (WU_by K _).1]; omega)) ?_)
            rintro _ w15 kf15
            obtain ⟨k15, f_q_15⟩ := kf15
            replace f_q_15 := Bk.eq f_q_15 (u8s_set _ _ ((WBf K ((i - 8) * 4 + k)) ^^^ (bW (gq (wF K (i - 1)) i) k)))
            replace f_q_15 : Bk w15 q (u8s ((WU K (i * 4 + k)).set (i * 4 + k) ((WBf K ((i - 8) * 4 + k)) ^^^ (bW (gq (wF K (i - 1)) i) k)))) 36 := f_q_15
            have kk15 := kk14.trans k15 (fun i hi => .inr (hi ▸ (Nat.le_trans kk2.size N3.le)))
            have f39 : Bk w15 ps (u8s SLit) 37 := (f36.on k15 (Ne.symm ne_q_ps))
            have f40 : Bk w15 p0_1 (u8s (List.replicate 240 0)) 36 := (f37.on k15 (Ne.symm ne_q_p0_1))
            have f41 : Bk w15 pv (u8s (gL (wF K (i - 1)) i)) 35 := (f38.on k15 ne_pv_q)
            refine ⟨⟨kk15, f39, f40, f41⟩, ?_⟩
            refine D_done (by kernel_rfl) ?_
            refine X_in_normal ?_
            refine X_then hK34 ?_
            refine C_region ?_
            refine R_pu (pu_move rfl) rfl ?_
            refine R_pu (pu_add (z := ((k + 1 : Nat) : Int)) rfl rfl (by rw [IntKind.wrap_i64]; omega)) rfl ?_
            refine R_pu (pu_assign rfl) rfl ?_
            refine R_nil ?_
            refine X_round (4 - (k + 1)) [(0, .slice A (K.length) (c)), (3, .pointer (some ⟨ps, 0, none⟩)), (4, .pointer (some ⟨p0_1, 0, none⟩)), (5, .pointer (some ⟨q, 0, none⟩)), (6, .int .i64 ((i : Nat) : Int)), (7, .pointer (some ⟨pv, 0, none⟩)), (8, .int .i64 (((k + 1) : Nat) : Int))] (by omega) (Sub.cons rfl (Sub.cons rfl (Sub.cons rfl (Sub.cons rfl (Sub.cons rfl (Sub.cons rfl (Sub.cons rfl (Sub.nil _)))))))) ⟨k + 1, rfl, rfl, by omega, kk15, f39, f40, Bk.eq f_q_15 (congrArg u8s (upto_set (WBf_nx K h8 h92))), f41⟩
          · refine C_exit ?_
            refine X_then_exit (X_then_exit (X_in_eq ?_))
            refine X_in_normal ?_
            refine X_then hK10 ?_
            refine C_region ?_
            refine R_pu (pu_move rfl) rfl ?_
            refine R_pu (pu_add (z := ((i + 1 : Nat) : Int)) rfl rfl (by rw [IntKind.wrap_i64]; omega)) rfl ?_
            refine R_pu (pu_assign rfl) rfl ?_
            refine R_nil ?_
            refine X_round (60 - (i + 1)) [(0, .slice A (K.length) (c)), (3, .pointer (some ⟨ps, 0, none⟩)), (4, .pointer (some ⟨p0_1, 0, none⟩)), (5, .pointer (some ⟨q, 0, none⟩)), (6, .int .i64 (((i + 1) : Nat) : Int))] (by omega) (Sub.cons rfl (Sub.cons rfl (Sub.cons rfl (Sub.cons rfl (Sub.cons rfl (Sub.nil _)))))) ⟨i + 1, rfl, rfl, by omega, kk13, f_ps_13, f_p0_1_13, Bk.eq f_q_13 (congrArg u8s (by rw [show i * 4 + k = (i + 1) * 4 by omega]))⟩
      · refine C_skip ?_
        refine X_then hK18 ?_
        refine C_cut (fun l_ wr => (l_ = [(0, .slice A (K.length) (c)), (3, .pointer (some ⟨ps, 0, none⟩)), (4, .pointer (some ⟨p0_1, 0, none⟩)), (5, .pointer (some ⟨q, 0, none⟩)), (6, .int .i64 ((i : Nat) : Int)), (7, .pointer (some ⟨pv, 0, none⟩))]) ∧ (Kp No w wr) ∧ (Bk wr ps (u8s SLit) 37) ∧ (Bk wr p0_1 (u8s (List.replicate 240 0)) 36) ∧ (Bk wr q (u8s (WU K (i * 4))) 36) ∧ (Bk wr pv (u8s (gL (wF K (i - 1)) i)) 35)) (fun K_ hK_ => ?_) ?_
        · refine C_seq (fun K42 hK42 => ?_)
          refine C_region ?_
          refine R_pu (pu_move rfl) rfl ?_
          refine R_pu (pu_rem (z := ((i % 8 : Nat) : Int)) rfl rfl (by omega) (by rfl)) rfl ?_
          refine R_pu (pu_eql (p := (i % 8) = 4) rfl rfl (by omega)) rfl ?_
          refine R_nil ?_
          refine X_then hK42 ?_
          refine C_dec rfl (fun h73 => ?_) (fun h73 => ?_)
          · have x0 := bW_lt (wF K (i - 1)) 0
            have x1 := bW_lt (wF K (i - 1)) 1
            have x2 := bW_lt (wF K (i - 1)) 2
            have x3 := bW_lt (wF K (i - 1)) 3
            have f43 : Bk w8 ps (u8s SLit) 37 := ((f_ps_4.no k7).on k8 (Ne.symm ne_pv_ps))
            have f44 : Bk w8 p0_1 (u8s (List.replicate 240 0)) 36 := ((f_p0_1_4.no k7).on k8 (Ne.symm ne_pv_p0_1))
            have f45 : Bk w8 q (u8s (WU K (i * 4))) 36 := ((f_q_4.no k7).on k8 (Ne.symm ne_pv_q))
            refine Z_begin (fun W => Kp No w W ∧ Bk W ps (u8s SLit) 37 ∧ Bk W p0_1 (u8s (List.replicate 240 0)) 36 ∧ Bk W q (u8s (WU K (i * 4))) 36 ∧ Bk W pv (u8s ([bW (wF K (i - 1)) 0, bW (wF K (i - 1)) 1, bW (wF K (i - 1)) 2, bW (wF K (i - 1)) 3])) 35) 17 18 rfl (by kernel_rfl) ⟨kk8.drew, f43.draw, f44.draw, f45.draw, fV.draw⟩ ?_
            intro w16 k16 _
            have kk16 := kk8.then_ k16
            refine Z_take 0 rfl (by kernel_rfl) (by kernel_rfl) (by kernel_rfl) (by kernel_rfl) (by kernel_rfl) (fun _ _ _ h => h) rfl (fun W hS => pu_indexAddrA (m := 0) (s := 1) (o' := 0) Tryz.underlying35 (by kernel_rfl) rfl rfl rfl (by omega) (by omega)) ?_
            refine Z_take 1 rfl (by kernel_rfl) (by kernel_rfl) (by kernel_rfl) (by kernel_rfl) (by kernel_rfl) (fun _ _ _ h => h) rfl (fun W hS => pu_loadK hS.2.2.2.2 (by kernel_rfl) rfl (u8s_get (i := 0) (n := bW (wF K (i - 1)) 0) rfl)) ?_
            refine Z_take 2 rfl (by kernel_rfl) (by kernel_rfl) (by kernel_rfl) (by kernel_rfl) (by kernel_rfl) (fun _ _ _ h => h) rfl (fun W hS => pu_indexAddrA (m := bW (wF K (i - 1)) 0) (s := 1) (o' := bW (wF K (i - 1)) 0) Tryz.underlying37 (by kernel_rfl) rfl rfl rfl (by omega) (by omega)) ?_
            refine Z_take 3 rfl (by kernel_rfl) (by kernel_rfl) (by kernel_rfl) (by kernel_rfl) (by kernel_rfl) (fun _ _ _ h => h) rfl (fun W hS => pu_loadK hS.2.1 (by kernel_rfl) rfl (u8s_get (SLit_get (bW (wF K (i - 1)) 0) (bW_lt _ _)))) ?_
            refine Z_take 4 rfl (by kernel_rfl) (by kernel_rfl) (by kernel_rfl) (by kernel_rfl) (by kernel_rfl) (fun _ _ _ h => h) rfl (fun W hS => pu_indexAddrA (m := 1) (s := 1) (o' := 1) Tryz.underlying35 (by kernel_rfl) rfl rfl rfl (by omega) (by omega)) ?_
            refine Z_take 5 rfl (by kernel_rfl) (by kernel_rfl) (by kernel_rfl) (by kernel_rfl) (by kernel_rfl) (fun _ _ _ h => h) rfl (fun W hS => pu_loadK hS.2.2.2.2 (by kernel_rfl) rfl (u8s_get (i := 1) (n := bW (wF K (i - 1)) 1) rfl)) ?_
            refine Z_take 6 rfl (by kernel_rfl) (by kernel_rfl) (by kernel_rfl) (by kernel_rfl) (by kernel_rfl) (fun _ _ _ h => h) rfl (fun W hS => pu_indexAddrA (m := bW (wF K (i - 1)) 1) (s := 1) (o' := bW (wF K (i - 1)) 1) Tryz.underlying37 (by kernel_rfl) rfl rfl rfl (by omega) (by omega)) ?_
            refine Z_take 7 rfl (by kernel_rfl) (by kernel_rfl) (by kernel_rfl) (by kernel_rfl) (by kernel_rfl) (fun _ _ _ h => h) rfl (fun W hS => pu_loadK hS.2.1 (by kernel_rfl) rfl (u8s_get (SLit_get (bW (wF K (i - 1)) 1) (bW_lt _ _)))) ?_
            refine Z_take 8 rfl (by kernel_rfl) (by kernel_rfl) (by kernel_rfl) (by kernel_rfl) (by kernel_rfl) (fun _ _ _ h => h) rfl (fun W hS => pu_indexAddrA (m := 2) (s := 1) (o' := 2) Tryz.underlying35 (by kernel_rfl) rfl rfl rfl (by omega) (by omega)) ?_
            refine Z_take 9 rfl (by kernel_rfl) (by kernel_rfl) (by kernel_rfl) (by kernel_rfl) (by kernel_rfl) (fun _ _ _ h => h) rfl (fun W hS => pu_loadK hS.2.2.2.2 (by kernel_rfl) rfl (u8s_get (i := 2) (n := bW (wF K (i - 1)) 2) rfl)) ?_
            refine Z_take 10 rfl (by kernel_rfl) (by kernel_rfl) (by kernel_rfl) (by kernel_rfl) (by kernel_rfl) (fun _ _ _ h => h) rfl (fun W hS => pu_indexAddrA (m := bW (wF K (i - 1)) 2) (s := 1) (o' := bW (wF K (i - 1)) 2) Tryz.underlying37 (by kernel_rfl) rfl rfl rfl (by omega) (by omega)) ?_
            refine Z_take 11 rfl (by kernel_rfl) (by kernel_rfl) (by kernel_rfl) (by kernel_rfl) (by kernel_rfl) (fun _ _ _ h => h) rfl (fun W hS => pu_loadK hS.2.1 (by kernel_rfl) rfl (u8s_get (SLit_get (bW (wF K (i - 1)) 2) (bW_lt _ _)))) ?_
            refine Z_take 12 rfl (by kernel_rfl) (by kernel_rfl) (by kernel_rfl) (by kernel_rfl) (by kernel_rfl) (fun _ _ _ h => h) rfl (fun W hS => pu_indexAddrA (m := 3) (s := 1) (o' := 3) Tryz.underlying35 (by kernel_rfl) rfl rfl rfl (by omega) (by omega)) ?_
            refine Z_take 13 rfl (by kernel_rfl) (by kernel_rfl) (by kernel_rfl) (by kernel_rfl) (by kernel_rfl) (fun _ _ _ h => h) rfl (fun W hS => pu_loadK hS.2.2.2.2 (by kernel_rfl) rfl (u8s_get (i := 3) (n := bW (wF K (i - 1)) 3) rfl)) ?_
            refine Z_take 14 rfl (by kernel_rfl) (by kernel_rfl) (by kernel_rfl) (by kernel_rfl) (by kernel_rfl) (fun _ _ _ h => h) rfl (fun W hS => pu_indexAddrA (m := bW (wF K (i - 1)) 3) (s := 1) (o' := bW (wF K (i - 1)) 3) Tryz.underlying37 (by kernel_rfl) rfl rfl rfl (by omega) (by omega)) ?_
            refine Z_take 15 rfl (by kernel_rfl) (by kernel_rfl) (by kernel_rfl) (by kernel_rfl) (by kernel_rfl) (fun _ _ _ h => h) rfl (fun W hS => pu_loadK hS.2.1 (by kernel_rfl) rfl (u8s_get (SLit_get (bW (wF K (i - 1)) 3) (bW_lt _ _)))) ?_
            refine Z_take 16 rfl (by kernel_rfl) (by kernel_rfl) (by kernel_rfl) (by kernel_rfl) (by kernel_rfl) (fun _ _ _ h => h) rfl (fun W hS => pu_build (L := u8s [sF (bW (wF K (i - 1)) 0), sF (bW (wF K (i - 1)) 1), sF (bW (wF K (i - 1)) 2), sF (bW (wF K (i - 1)) 3)]) rfl (by kernel_rfl)) ?_
            have f46 : Bk w16 pv (u8s ([bW (wF K (i - 1)) 0, bW (wF K (i - 1)) 1, bW (wF K (i - 1)) 2, bW (wF K (i - 1)) 3])) 35 := (fV.no k16)
            refine Z_last 17 (by kernel_rfl) rfl (by kernel_rfl) (by kernel_rfl) (lo_storeRow (C := u8s ([sF (bW (wF K (i - 1)) 0), sF (bW (wF K (i - 1)) 1), sF (bW (wF K (i - 1)) 2), sF (bW (wF K (i - 1)) 3)])) f46 (by rw [u8s_length, (by4 (sF_lt _) (sF_lt _) (sF_lt _) (sF_lt _)).1]; kernel_rfl) rfl rfl (u8s_each _) ((u8s_length _).trans ((by4 (sF_lt _) (sF_lt _) (sF_lt _) (sF_lt _)).1.trans ((by4 (bW_lt _ _) (bW_lt _ _) (bW_lt _ _) (bW_lt _ _)).1.symm.trans (u8s_length _).symm)))) ?_
            rintro _ w17 kf17
            obtain ⟨k17, f_pv_17⟩ := kf17
            replace f_pv_17 : Bk w17 pv (u8s ([sF (bW (wF K (i - 1)) 0), sF (bW (wF K (i - 1)) 1), sF (bW (wF K (i - 1)) 2), sF (bW (wF K (i - 1)) 3)])) 35 := f_pv_17
            have kk17 := kk16.trans k17 (fun i hi => .inr (hi ▸ (Nat.le_trans kk4.size N7.le)))
            have f47 : Bk w17 ps (u8s SLit) 37 := ((f43.no k16).on k17 (Ne.symm ne_pv_ps))
            have f48 : Bk w17 p0_1 (u8s (List.replicate 240 0)) 36 := ((f44.no k16).on k17 (Ne.symm ne_pv_p0_1))
            have f49 : Bk w17 q (u8s (WU K (i * 4))) 36 := ((f45.no k16).on k17 (Ne.symm ne_pv_q))
            refine X_cut hK_ [(0, .slice A (K.length) (c)), (3, .pointer (some ⟨ps, 0, none⟩)), (4, .pointer (some ⟨p0_1, 0, none⟩)), (5, .pointer (some ⟨q, 0, none⟩)), (6, .int .i64 ((i : Nat) : Int)), (7, .pointer (some ⟨pv, 0, none⟩))] (Sub.cons rfl (Sub.cons rfl (Sub.cons rfl (Sub.cons rfl (Sub.cons rfl (Sub.cons rfl (Sub.nil _))))))) ⟨rfl, kk17, f47, f48, f49, Bk.eq f_pv_17 (congrArg u8s (gL_sub hp h47 h73))⟩
          · refine C_skip ?_
            have f50 : Bk w8 ps (u8s SLit) 37 := ((f_ps_4.no k7).on k8 (Ne.symm ne_pv_ps))
            have f51 : Bk w8 p0_1 (u8s (List.replicate 240 0)) 36 := ((f_p0_1_4.no k7).on k8 (Ne.symm ne_pv_p0_1))
            have f52 : Bk w8 q (u8s (WU K (i * 4))) 36 := ((f_q_4.no k7).on k8 (Ne.symm ne_pv_q))
            refine X_cut hK_ [(0, .slice A (K.length) (c)), (3, .pointer (some ⟨ps, 0, none⟩)), (4, .pointer (some ⟨p0_1, 0, none⟩)), (5, .pointer (some ⟨q, 0, none⟩)), (6, .int .i64 ((i : Nat) : Int)), (7, .pointer (some ⟨pv, 0, none⟩))] (Sub.cons rfl (Sub.cons rfl (Sub.cons rfl (Sub.cons rfl (Sub.cons rfl (Sub.cons rfl (Sub.nil _))))))) ⟨rfl, kk8, f50, f51, f52, Bk.eq fV (congrArg u8s (gL_not h47 h73))⟩
        · rintro _ w18 ⟨rfl, kk18, f_ps_18, f_p0_1_18, f_q_18, f_pv_18⟩
          refine C_seq (fun K53 hK53 => ?_)
          refine C_region ?_
          refine R_pu (pu_assign rfl) rfl ?_
          refine R_nil ?_
          refine X_then hK53 ?_
          refine C_block ?_
          refine C_loop (fun m_ l_ wr => ∃ k : Nat, (m_ = 4 - k) ∧ (l_ = [(0, .slice A (K.length) (c)), (3, .pointer (some ⟨ps, 0, none⟩)), (4, .pointer (some ⟨p0_1, 0, none⟩)), (5, .pointer (some ⟨q, 0, none⟩)), (6, .int .i64 ((i : Nat) : Int)), (7, .pointer (some ⟨pv, 0, none⟩)), (8, .int .i64 ((k : Nat) : Int))]) ∧ (k ≤ 4) ∧ (Kp No w wr) ∧ (Bk wr ps (u8s SLit) 37) ∧ (Bk wr p0_1 (u8s (List.replicate 240 0)) 36) ∧ (Bk wr q (u8s (WU K (i * 4 + k))) 36) ∧ (Bk wr pv (u8s (gL (wF K (i - 1)) i)) 35)) (4 - 0) [(0, .slice A (K.length) (c)), (3, .pointer (some ⟨ps, 0, none⟩)), (4, .pointer (some ⟨p0_1, 0, none⟩)), (5, .pointer (some ⟨q, 0, none⟩)), (6, .int .i64 ((i : Nat) : Int)), (7, .pointer (some ⟨pv, 0, none⟩)), (8, .int .i64 0)] (Sub.cons rfl (Sub.cons rfl (Sub.cons rfl (Sub.cons rfl (Sub.cons rfl (Sub.cons rfl (Sub.cons rfl (Sub.nil _)))))))) ⟨0, rfl, rfl, by omega, kk18, f_ps_18, f_p0_1_18, Bk.eq f_q_18 (congrArg u8s rfl), f_pv_18⟩ ?_
          rintro _ _ w19 ⟨k, rfl, rfl, hk, kk19, f_ps_19, f_p0_1_19, f_q_19, f_pv_19⟩
          refine C_seq (fun K54 hK54 => ?_)
          refine C_seq (fun K55 hK55 => ?_)
          refine C_region ?_
          refine R_pu (pu_move rfl) rfl ?_
          refine R_pu (pu_lss (p := k < 4) rfl rfl (by omega)) rfl ?_
          refine R_nil ?_
          refine X_then hK55 ?_
          refine C_dec rfl (fun h92 => ?_) (fun h92 => ?_)
          · refine C_skip ?_
            refine X_then hK54 ?_
            refine C_seq (fun K56 hK56 => ?_)
            refine C_block ?_
            refine D_begin (fun W => Kp No w W ∧ Bk W ps (u8s SLit) 37 ∧ Bk W p0_1 (u8s (List.replicate 240 0)) 36 ∧ Bk W pv (u8s (gL (wF K (i - 1)) i)) 35) 15 rfl (by kernel_rfl) ⟨kk19.drew, f_ps_19.draw, f_p0_1_19.draw, f_pv_19.draw⟩ ?_
            intro w20 k20 _
            have kk20 := kk19.then_ k20
            refine D_take 0 rfl (by kernel_rfl) (by kernel_rfl) (by kernel_rfl) (fun _ _ _ h => h) rfl (fun W hS => pu_move rfl) ?_
            refine D_take 1 rfl (by kernel_rfl) (by kernel_rfl) (by kernel_rfl) (fun _ _ _ h => h) rfl (fun W hS => pu_move rfl) ?_
            refine D_take 2 rfl (by kernel_rfl) (by kernel_rfl) (by kernel_rfl) (fun _ _ _ h => h) rfl (fun W hS => pu_move rfl) ?_
            refine D_take 3 rfl (by kernel_rfl) (by kernel_rfl) (by kernel_rfl) (fun _ _ _ h => h) rfl (fun W hS => pu_sub (z := ((i - 8 : Nat) : Int)) rfl rfl (by rw [IntKind.wrap_i64]; omega)) ?_
            refine D_take 4 rfl (by kernel_rfl) (by kernel_rfl) (by kernel_rfl) (fun _ _ _ h => h) rfl (fun W hS => pu_move rfl) ?_
            refine D_take 5 rfl (by kernel_rfl) (by kernel_rfl) (by kernel_rfl) (fun _ _ _ h => h) rfl (fun W hS => pu_indexAddrA (m := i - 8) (s := 4) (o' := (i - 8) * 4) Tryz.underlying36 (by kernel_rfl) rfl rfl rfl (by omega) (by omega)) ?_
            refine D_take 6 rfl (by kernel_rfl) (by kernel_rfl) (by kernel_rfl) (fun _ _ _ h => h) rfl (fun W hS => pu_indexAddrA (m := k) (s := 1) (o' := (i - 8) * 4 + k) Tryz.underlying35 (by kernel_rfl) rfl rfl rfl (by omega) (by omega)) ?_
            refine D_take 8 rfl (by kernel_rfl) (by kernel_rfl) (by kernel_rfl) (fun _ _ _ h => h) rfl (fun W hS => pu_move rfl) ?_
            refine D_take 9 rfl (by kernel_rfl) (by kernel_rfl) (by kernel_rfl) (fun _ _ _ h => h) rfl (fun W hS => pu_indexAddrA (m := k) (s := 1) (o' := k) Tryz.underlying35 (by kernel_rfl) rfl rfl rfl (by omega) (by omega)) ?_
            refine D_take 10 rfl (by kernel_rfl) (by kernel_rfl) (by kernel_rfl) (fun _ _ _ h => h) rfl (fun W hS => pu_loadK hS.2.2.2 (by kernel_rfl) rfl (u8s_get (arr_get _ (by omega)))) ?_
            refine D_take 12 rfl (by kernel_rfl) (by kernel_rfl) (by kernel_rfl) (fun _ _ _ h => h) rfl (fun W hS => pu_indexAddrA (m := i) (s := 4) (o' := i * 4) Tryz.underlying36 (by kernel_rfl) rfl rfl rfl (by omega) (by omega)) ?_
            have f57 : Bk w20 q (u8s (WU K (i * 4 + k))) 36 := (f_q_19.no k20)
            have f58 : Bk w20 ps (u8s SLit) 37 := (f_ps_19.no k20)
            have f59 : Bk w20 p0_1 (u8s (List.replicate 240 0)) 36 := (f_p0_1_19.no k20)
            have f60 : Bk w20 pv (u8s (gL (wF K (i - 1)) i)) 35 := (f_pv_19.no k20)
            refine D_one 7 (by kernel_rfl) (Nx_pu rfl (pu_loadK f57 (by kernel_rfl) rfl (u8s_get (upto_lo (by omega) (by omega)))) rfl ⟨⟨kk20, f58, f59, f60⟩, ?_⟩)
            refine D_take 11 rfl (by kernel_rfl) (by kernel_rfl) (by kernel_rfl) (fun _ _ _ h => h) rfl (fun W hS => pu_xor rfl rfl (u8_xor_nat (WBf K ((i - 8) * 4 + k)) (bW (gq (wF K (i - 1)) i) k) (bW_lt _ _) (bW_lt _ _))) ?_
            refine D_take 13 rfl (by kernel_rfl) (by kernel_rfl) (by kernel_rfl) (fun _ _ _ h => h) rfl (fun W hS => pu_indexAddrA (m := k) (s := 1) (o' := i * 4 + k) Tryz.underlying35 (by kernel_rfl) rfl rfl rfl (by omega) (by omega)) ?_
            refine D_one 14 (by kernel_rfl) (Nx_lo0 rfl (lo_store f57 (by kernel_rfl) rfl rfl rfl (by rw [u8s_length, (WU_by K _).1]; omega)) ?_)
            rintro _ w21 kf21
            obtain ⟨k21, f_q_21⟩ := kf21
            replace f_q_21 := Bk.eq f_q_21 (u8s_set _ _ ((WBf K ((i - 8) * 4 + k)) ^^^ (bW (gq (wF K (i - 1)) i) k)))
            replace f_q_21 : Bk w21 q (u8s ((WU K (i * 4 + k)).set (i * 4 + k) ((WBf K ((i - 8) * 4 + k)) ^^^ (bW (gq (wF K (i - 1)) i) k)))) 36 := f_q_21
            have kk21 := kk20.trans k21 (fun i hi => .inr (hi ▸ (Nat.le_trans kk2.size N3.le)))
            have f61 : Bk w21 ps (u8s SLit) 37 := (f58.on k21 (Ne.symm ne_q_ps))
            have f62 : Bk w21 p0_1 (u8s (List.replicate 240 0)) 36 := (f59.on k21 (Ne.symm ne_q_p0_1))
            have f63 : Bk w21 pv (u8s (gL (wF K (i - 1)) i)) 35 := (f60.on k21 ne_pv_q)
            refine ⟨⟨kk21, f61, f62, f63⟩, ?_⟩
            refine D_done (by kernel_rfl) ?_
            refine X_in_normal ?_
            refine X_then hK56 ?_
            refine C_region ?_
            refine R_pu (pu_move rfl) rfl ?_
            refine R_pu (pu_add (z := ((k + 1 : Nat) : Int)) rfl rfl (by rw [IntKind.wrap_i64]; omega)) rfl ?_
            refine R_pu (pu_assign rfl) rfl ?_
            refine R_nil ?_
            refine X_round (4 - (k + 1)) [(0, .slice A (K.length) (c)), (3, .pointer (some ⟨ps, 0, none⟩)), (4, .pointer (some ⟨p0_1, 0, none⟩)), (5, .pointer (some ⟨q, 0, none⟩)), (6, .int .i64 ((i : Nat) : Int)), (7, .pointer (some ⟨pv, 0, none⟩)), (8, .int .i64 (((k + 1) : Nat) : Int))] (by omega) (Sub.cons rfl (Sub.cons rfl (Sub.cons rfl (Sub.cons rfl (Sub.cons rfl (Sub.cons rfl (Sub.cons rfl (Sub.nil _)))))))) ⟨k + 1, rfl, rfl, by omega, kk21, f61, f62, Bk.eq f_q_21 (congrArg u8s (upto_set (WBf_nx K h8 h92))), f63⟩
          · refine C_exit ?_
            refine X_then_exit (X_then_exit (X_in_eq ?_))
            refine X_in_normal ?_
            refine X_then hK10 ?_
            refine C_region ?_
            refine R_pu (pu_move rfl) rfl ?_
            refine R_pu (pu_add (z := ((i + 1 : Nat) : Int)) rfl rfl (by rw [IntKind.wrap_i64]; omega)) rfl ?_
            refine R_pu (pu_assign rfl) rfl ?_
            refine R_nil ?_
            refine X_round (60 - (i + 1)) [(0, .slice A (K.length) (c)), (3, .pointer (some ⟨ps, 0, none⟩)), (4, .pointer (some ⟨p0_1, 0, none⟩)), (5, .pointer (some ⟨q, 0, none⟩)), (6, .int .i64 (((i + 1) : Nat) : Int))] (by omega) (Sub.cons rfl (Sub.cons rfl (Sub.cons rfl (Sub.cons rfl (Sub.cons rfl (Sub.nil _)))))) ⟨i + 1, rfl, rfl, by omega, kk19, f_ps_19, f_p0_1_19, Bk.eq f_q_19 (congrArg u8s (by rw [show i * 4 + k = (i + 1) * 4 by omega]))⟩
  · refine C_exit ?_
    refine X_then_exit (X_then_exit (X_in_eq ?_))
    refine X_then hK4 ?_
    refine C_seq (fun K64 hK64 => ?_)
    refine C_region ?_
    refine R_pu (pu_loadRow (len := 240) f_q_4 (by kernel_rfl) (by kernel_rfl) (by rw [u8s_length]; exact (WU_by K _).1) rfl) rfl ?_
    refine R_lo0 (lo_storeRow (C := u8s (WU K (i * 4))) f_p0_1_4 (by rw [u8s_length, (WU_by K _).1]; kernel_rfl) rfl rfl (u8s_each _) ((u8s_length _).trans ((WU_by K _).1.trans ((rep_by 240).1.symm.trans (u8s_length _).symm)))) ?_
    rintro _ w22 kf22
    obtain ⟨k22, f_p0_1_22⟩ := kf22
    replace f_p0_1_22 : Bk w22 p0_1 (u8s (WU K (i * 4))) 36 := f_p0_1_22
    have kk22 := kk4.trans k22 (fun i hi => .inr (hi ▸ (Nat.le_trans kk1.size N2.le)))
    refine R_nil ?_
    refine X_then hK64 ?_
    refine C_ret ?_
    exact X_retRow (len := 240) (.inl rfl) rfl rfl f_p0_1_22 (by kernel_rfl) (by kernel_rfl) (by rw [u8s_length]; exact (WU_by K _).1) ⟨by rw [← WU_all K (by omega : 240 ≤ i * 4)], kk22⟩
set_option maxRecDepth 100000 in
set_option maxHeartbeats 2000000 in
theorem ref_ready (A : Option Addr) (K : List Nat) (c : Nat) (w : World) (HB : Bs w A K) (hc : K.length ≤ c) (hl : K.length = 32) : Ret Tryz.prog 19 #[.slice A (K.length) (c)] w (fun v w' => v = .agg (u8s (CK K)).toArray ∧ Kp No w w') := by
  have kk0 := Kp.refl No w
  refine enter (n := 10) [.slice A (K.length) (c)] Tryz.func19 rfl rfl rfl ?_
  show Cw _ _ _ _ [(0, .slice A (K.length) (c))] _
  refine C_seq (fun K1 hK1 => ?_)
  refine C_region ?_
  refine R_lo (lo_alloc (L := u8s (List.replicate 496 0)) (by kernel_rfl)) rfl ?_
  rintro _ w1 ⟨p0_0, rfl, N1⟩
  have k1 := N1.kp
  have kk1 := kk0.then_ k1
  have f_p0_0_1 : Bk w1 p0_0 (u8s (List.replicate 496 0)) 39 := N1.bk
  refine R_nil ?_
  refine X_then hK1 ?_
  refine C_seq (fun K2 hK2 => ?_)
  refine C_region ?_
  refine R_lo (lo_call (by kernel_rfl) rfl (ref_table _)) rfl ?_
  rintro _ w2 ⟨rfl, k2⟩
  have kk2 := kk1.then_ k2
  have f3 : Bk w2 p0_0 (u8s (List.replicate 496 0)) 39 := (f_p0_0_1.no k2)
  refine R_lo (lo_alloc (L := u8s (List.replicate 256 0)) (by kernel_rfl)) rfl ?_
  rintro _ w3 ⟨p1_1, rfl, N3⟩
  have k3 := N3.kp
  have kk3 := kk2.then_ k3
  have ne_p1_1_p0_0 : p1_1 ≠ p0_0 := Nat.ne_of_gt (Nat.lt_of_lt_of_le f3.lt N3.le)
  have f_p1_1_3 : Bk w3 p1_1 (u8s (List.replicate 256 0)) 37 := N3.bk
  refine R_lo0 (lo_storeRow (C := u8s SLit) f_p1_1_3 (by rw [u8s_length, SLit_by.1]; kernel_rfl) rfl rfl (u8s_each _) ((u8s_length _).trans (SLit_by.1.trans ((rep_by 256).1.symm.trans (u8s_length _).symm)))) ?_
  rintro _ w4 kf4
  obtain ⟨k4, f_p1_1_4⟩ := kf4
  replace f_p1_1_4 : Bk w4 p1_1 (u8s SLit) 37 := f_p1_1_4
  have kk4 := kk3.trans k4 (fun i hi => .inr (hi ▸ (Nat.le_trans kk2.size N3.le)))
  refine R_nil ?_
  refine X_then hK2 ?_
  refine C_seq (fun K4 hK4 => ?_)
  refine D_begin (fun W => Kp No w W ∧ Bk W p1_1 (u8s SLit) 37) 6 rfl (by kernel_rfl) ⟨kk4.drew, f_p1_1_4.draw⟩ ?_
  intro w5 k5 _
  have kk5 := kk4.then_ k5
  refine D_take 0 rfl (by kernel_rfl) (by kernel_rfl) (by kernel_rfl) (fun _ _ _ h => h) rfl (fun W hS => pu_move rfl) ?_
  refine D_take 1 rfl (by kernel_rfl) (by kernel_rfl) (by kernel_rfl) (fun _ _ _ h => h) rfl (fun W hS => pu_loadRow (len := 256) hS.2 (by kernel_rfl) (by kernel_rfl) (by rw [u8s_length]; exact SLit_by.1) rfl) ?_
  refine D_take 3 rfl (by kernel_rfl) (by kernel_rfl) (by kernel_rfl) (fun _ _ _ h => h) rfl (fun W hS => pu_loadRow (len := 256) hS.2 (by kernel_rfl) (by kernel_rfl) (by rw [u8s_length]; exact SLit_by.1) rfl) ?_
  refine D_one 2 (by kernel_rfl) (Nx_lo rfl (lo_call (by kernel_rfl) rfl (ref_words A K c _ (HB.keptNo kk5) hc hl)) rfl ?_)
  rintro _ w6 ⟨rfl, k6⟩
  have kk6 := kk5.then_ k6
  have f5 : Bk w6 p1_1 (u8s SLit) 37 := ((f_p1_1_4.no k5).no k6)
  refine ⟨⟨kk6, f5⟩, ?_⟩
  refine D_take 4 rfl (by kernel_rfl) (by kernel_rfl) (by kernel_rfl) (fun _ _ _ h => h) rfl (fun W hS => pu_build (L := u8s (CK K)) rfl (by rw [u8s_CK]; exact built_two (n := 240) (m := 256) (by kernel_rfl) (by rw [u8s_length]; exact (WB_by K).1) (by rw [u8s_length]; exact SLit_by.1))) ?_
  have f6 : Bk w6 p0_0 (u8s (List.replicate 496 0)) 39 := ((((f3.no k3).on k4 (Ne.symm ne_p1_1_p0_0)).no k5).no k6)
  refine D_one 5 (by kernel_rfl) (Nx_lo0 rfl (lo_storeRow (C := u8s (CK K)) f6 (by rw [u8s_length, (CK_by K).1]; kernel_rfl) rfl rfl (u8s_each _) ((u8s_length _).trans ((CK_by K).1.trans ((rep_by 496).1.symm.trans (u8s_length _).symm)))) ?_)
  rintro _ w7 kf7
  obtain ⟨k7, f_p0_0_7⟩ := kf7
  replace f_p0_0_7 : Bk w7 p0_0 (u8s (CK K)) 39 := f_p0_0_7
  have kk7 := kk6.trans k7 (fun i hi => .inr (hi ▸ (Nat.le_trans kk0.size N1.le)))
  have f7 : Bk w7 p1_1 (u8s SLit) 37 := (f5.on k7 ne_p1_1_p0_0)
  refine ⟨⟨kk7, f7⟩, ?_⟩
  refine D_done (by kernel_rfl) ?_
  refine X_then hK4 ?_
  refine C_ret ?_
  exact X_retRow (len := 496) (.inl rfl) rfl rfl f_p0_0_7 (by kernel_rfl) (by kernel_rfl) (by rw [u8s_length]; exact (CK_by K).1) ⟨rfl, kk7⟩
set_option maxRecDepth 100000 in
set_option maxHeartbeats 2000000 in
theorem ref_enc (K X : List Nat) (bX : By 16 X) (w : World)  : Ret Tryz.prog 20 #[.agg (u8s (CK K) : List Value).toArray, .agg (u8s X : List Value).toArray] w (fun v w' => v = .agg (u8s (encB (KW K) X)).toArray ∧ Kp No w w') := by
  have kk0 := Kp.refl No w
  refine enter (n := 63) [.agg (u8s (CK K) : List Value).toArray, .agg (u8s X : List Value).toArray] Tryz.func20 rfl rfl rfl ?_
  show Cw _ _ _ _ [(0, .agg (u8s (CK K) : List Value).toArray), (1, .agg (u8s X : List Value).toArray)] _
  refine C_seq (fun K1 hK1 => ?_)
  refine C_region ?_
  refine R_lo (lo_box (L := u8s (CK K)) rfl rfl) rfl ?_
  rintro _ w1 ⟨pc, rfl, N1⟩
  have k1 := N1.kp
  have kk1 := kk0.then_ k1
  have f_pc_1 : Bk w1 pc (u8s (CK K)) 39 := N1.bk
  refine R_lo (lo_box (L := u8s X) rfl rfl) rfl ?_
  rintro _ w2 ⟨pb, rfl, N2⟩
  have k2 := N2.kp
  have kk2 := kk1.then_ k2
  have ne_pb_pc : pb ≠ pc := Nat.ne_of_gt (Nat.lt_of_lt_of_le f_pc_1.lt N2.le)
  have f_pb_2 : Bk w2 pb (u8s X) 40 := N2.bk
  have f2 : Bk w2 pc (u8s (CK K)) 39 := (f_pc_1.no k2)
  refine R_lo (lo_alloc (L := u8s (List.replicate 16 0)) (by kernel_rfl)) rfl ?_
  rintro _ w3 ⟨p0_2, rfl, N3⟩
  have k3 := N3.kp
  have kk3 := kk2.then_ k3
  have ne_p0_2_pc : p0_2 ≠ pc := Nat.ne_of_gt (Nat.lt_of_lt_of_le f2.lt N3.le)
  have ne_p0_2_pb : p0_2 ≠ pb := Nat.ne_of_gt (Nat.lt_of_lt_of_le f_pb_2.lt N3.le)
  have f_p0_2_3 : Bk w3 p0_2 (u8s (List.replicate 16 0)) 40 := N3.bk
  refine R_nil ?_
  refine X_then hK1 ?_
  refine C_seq (fun K3 hK3 => ?_)
  refine C_seq (fun K4 hK4 => ?_)
  refine C_region ?_
  refine R_pu (pu_assign rfl) rfl ?_
  refine R_nil ?_
  refine X_then hK4 ?_
  refine C_block ?_
  have f5 : Bk w3 pc (u8s (CK K)) 39 := (f2.no k3)
  have f6 : Bk w3 pb (u8s X) 40 := (f_pb_2.no k3)
  refine C_loop (fun m_ l_ wr => ∃ r : Nat, (m_ = 15 - r) ∧ (l_ = [(2, .pointer (some ⟨pc, 0, none⟩)), (3, .pointer (some ⟨pb, 0, none⟩)), (4, .pointer (some ⟨p0_2, 0, none⟩)), (5, .int .i64 ((r : Nat) : Int))]) ∧ (r ≤ 15) ∧ (Kp No w wr) ∧ (Bk wr pc (u8s (CK K)) 39) ∧ (Bk wr pb (u8s (eH (KW K) X (r))) 40) ∧ (Bk wr p0_2 (u8s (List.replicate 16 0)) 40)) (15 - 0) [(2, .pointer (some ⟨pc, 0, none⟩)), (3, .pointer (some ⟨pb, 0, none⟩)), (4, .pointer (some ⟨p0_2, 0, none⟩)), (5, .int .i64 0)] (Sub.cons rfl (Sub.cons rfl (Sub.cons rfl (Sub.cons rfl (Sub.nil _))))) ⟨0, rfl, rfl, by omega, kk3, f5, Bk.eq f6 (congrArg u8s rfl), f_p0_2_3⟩ ?_
  rintro _ _ w4 ⟨r, rfl, rfl, hr, kk4, f_pc_4, f_pb_4, f_p0_2_4⟩
  refine C_seq (fun K7 hK7 => ?_)
  refine C_seq (fun K8 hK8 => ?_)
  refine C_region ?_
  refine R_pu (pu_move rfl) rfl ?_
  refine R_pu (pu_leq (p := r ≤ 14) rfl rfl (by omega)) rfl ?_
  refine R_nil ?_
  refine X_then hK8 ?_
  refine C_dec rfl (fun h10 => ?_) (fun h10 => ?_)
  · refine C_skip ?_
    refine X_then hK7 ?_
    refine C_seq (fun K9 hK9 => ?_)
    refine C_block ?_
    refine C_seq (fun K10 hK10 => ?_)
    refine C_seq (fun K11 hK11 => ?_)
    refine C_region ?_
    refine R_pu (pu_move rfl) rfl ?_
    refine R_pu (pu_gtr (p := r > 0) rfl rfl (by omega)) rfl ?_
    refine R_nil ?_
    refine X_then hK11 ?_
    refine C_dec rfl (fun h14 => ?_) (fun h14 => ?_)
    · refine C_seq (fun K12 hK12 => ?_)
      refine C_region ?_
      refine R_lo (lo_alloc (L := u8s (List.replicate 16 0)) (by kernel_rfl)) rfl ?_
      rintro _ w5 ⟨pn, rfl, N5⟩
      have k5 := N5.kp
      have kk5 := kk4.then_ k5
      have ne_pn_pc : pn ≠ pc := Nat.ne_of_gt (Nat.lt_of_lt_of_le f_pc_4.lt N5.le)
      have ne_pn_pb : pn ≠ pb := Nat.ne_of_gt (Nat.lt_of_lt_of_le f_pb_4.lt N5.le)
      have ne_pn_p0_2 : pn ≠ p0_2 := Nat.ne_of_gt (Nat.lt_of_lt_of_le f_p0_2_4.lt N5.le)
      have f_pn_5 : Bk w5 pn (u8s (List.replicate 16 0)) 40 := N5.bk
      refine R_nil ?_
      refine X_then hK12 ?_
      refine C_seq (fun K13 hK13 => ?_)
      refine C_seq (fun K14 hK14 => ?_)
      refine C_region ?_
      refine R_pu (pu_assign rfl) rfl ?_
      refine R_nil ?_
      refine X_then hK14 ?_
      refine C_block ?_
      have f15 : Bk w5 pc (u8s (CK K)) 39 := (f_pc_4.no k5)
      have f16 : Bk w5 pb (u8s (eH (KW K) X (r))) 40 := (f_pb_4.no k5)
      have f17 : Bk w5 p0_2 (u8s (List.replicate 16 0)) 40 := (f_p0_2_4.no k5)
      refine C_loop (fun m_ l_ wr => ∃ i : Nat, (m_ = 16 - i) ∧ (l_ = [(2, .pointer (some ⟨pc, 0, none⟩)), (3, .pointer (some ⟨pb, 0, none⟩)), (4, .pointer (some ⟨p0_2, 0, none⟩)), (5, .int .i64 ((r : Nat) : Int)), (6, .pointer (some ⟨pn, 0, none⟩)), (7, .int .i64 ((i : Nat) : Int))]) ∧ (i ≤ 16) ∧ (Kp No w wr) ∧ (Bk wr pc (u8s (CK K)) 39) ∧ (Bk wr pb (u8s (eH (KW K) X (r))) 40) ∧ (Bk wr p0_2 (u8s (List.replicate 16 0)) 40) ∧ (Bk wr pn (u8s (rwU (eH (KW K) X r) (i))) 40)) (16 - 0) [(2, .pointer (some ⟨pc, 0, none⟩)), (3, .pointer (some ⟨pb, 0, none⟩)), (4, .pointer (some ⟨p0_2, 0, none⟩)), (5, .int .i64 ((r : Nat) : Int)), (6, .pointer (some ⟨pn, 0, none⟩)), (7, .int .i64 0)] (Sub.cons rfl (Sub.cons rfl (Sub.cons rfl (Sub.cons rfl (Sub.cons rfl (Sub.cons rfl (Sub.nil _))))))) ⟨0, rfl, rfl, by omega, kk5, f15, f16, f17, Bk.eq f_pn_5 (congrArg u8s (rep_upto _ _))⟩ ?_
      rintro _ _ w6 ⟨i, rfl, rfl, hi, kk6, f_pc_6, f_pb_6, f_p0_2_6, f_pn_6⟩
      refine C_seq (fun K18 hK18 => ?_)
      refine C_seq (fun K19 hK19 => ?_)
      refine C_region ?_
      refine R_pu (pu_move rfl) rfl ?_
      refine R_pu (pu_lss (p := i < 16) rfl rfl (by omega)) rfl ?_
      refine R_nil ?_
      refine X_then hK19 ?_
      refine C_dec rfl (fun h16 => ?_) (fun h16 => ?_)
      · refine C_skip ?_
        refine X_then hK18 ?_
        refine C_seq (fun K20 hK20 => ?_)
        refine C_block ?_
        refine C_region ?_
        refine R_pu (pu_move rfl) rfl ?_
        refine R_pu (pu_move rfl) rfl ?_
        refine R_pu (pu_move rfl) rfl ?_
        refine R_pu (pu_rem (z := ((i % 4 : Nat) : Int)) rfl rfl (by omega) (by rfl)) rfl ?_
        refine R_pu (pu_mul (z := ((4 * (i % 4) : Nat) : Int)) rfl rfl (by rw [IntKind.wrap_i64]; omega)) rfl ?_
        refine R_pu (pu_add (z := ((i + (4 * (i % 4)) : Nat) : Int)) rfl rfl (by rw [IntKind.wrap_i64]; omega)) rfl ?_
        refine R_pu (pu_rem (z := (((i + (4 * (i % 4))) % 16 : Nat) : Int)) rfl rfl (by omega) (by rfl)) rfl ?_
        refine R_pu (pu_indexAddrA (m := (i + (4 * (i % 4))) % 16) (s := 1) (o' := (i + (4 * (i % 4))) % 16) Tryz.underlying40 (by kernel_rfl) rfl rfl rfl (by omega) (by omega)) rfl ?_
        obtain ⟨n, e_n⟩ : ∃ q_, (eH (KW K) X (r))[(i + (4 * (i % 4))) % 16]? = some q_ := ⟨_, List.getElem?_eq_getElem (by rw [((eH_by _ bX _)).1]; omega)⟩
        have b_n : n < 256 := ((eH_by _ bX _)).2 _ (List.mem_of_getElem? e_n)
        refine R_pu (pu_loadK f_pb_6 (by kernel_rfl) rfl (u8s_get e_n)) rfl ?_
        refine R_pu (pu_fieldAddr (off := 240) (o' := 240) (by kernel_rfl) rfl rfl) rfl ?_
        refine R_pu (pu_indexAddrA (m := n) (s := 1) (o' := 240 + n) Tryz.underlying37 (by kernel_rfl) rfl rfl rfl (by omega) (by omega)) rfl ?_
        refine R_pu (pu_loadK f_pc_6 (by kernel_rfl) rfl (u8s_get (CK_s K (by omega)))) rfl ?_
        refine R_pu (pu_indexAddrA (m := i) (s := 1) (o' := i) Tryz.underlying40 (by kernel_rfl) rfl rfl rfl (by omega) (by omega)) rfl ?_
        refine R_lo0 (lo_store f_pn_6 (by kernel_rfl) rfl rfl rfl (by rw [u8s_length, (rwU_by _ _).1]; omega)) ?_
        rintro _ w7 kf7
        obtain ⟨k7, f_pn_7⟩ := kf7
        replace f_pn_7 := Bk.eq f_pn_7 (u8s_set _ _ (sF n))
        replace f_pn_7 : Bk w7 pn (u8s ((rwU (eH (KW K) X r) (i)).set i (sF n))) 40 := f_pn_7
        have kk7 := kk6.trans k7 (fun i hi => .inr (hi ▸ (Nat.le_trans kk4.size N5.le)))
        refine R_nil ?_
        refine X_in_normal ?_
        refine X_then hK20 ?_
        refine C_region ?_
        refine R_pu (pu_move rfl) rfl ?_
        refine R_pu (pu_add (z := ((i + 1 : Nat) : Int)) rfl rfl (by rw [IntKind.wrap_i64]; omega)) rfl ?_
        refine R_pu (pu_assign rfl) rfl ?_
        refine R_nil ?_
        have f21 : Bk w7 pc (u8s (CK K)) 39 := (f_pc_6.on k7 (Ne.symm ne_pn_pc))
        have f22 : Bk w7 pb (u8s (eH (KW K) X (r))) 40 := (f_pb_6.on k7 (Ne.symm ne_pn_pb))
        have f23 : Bk w7 p0_2 (u8s (List.replicate 16 0)) 40 := (f_p0_2_6.on k7 (Ne.symm ne_pn_p0_2))
        refine X_round (16 - (i + 1)) [(2, .pointer (some ⟨pc, 0, none⟩)), (3, .pointer (some ⟨pb, 0, none⟩)), (4, .pointer (some ⟨p0_2, 0, none⟩)), (5, .int .i64 ((r : Nat) : Int)), (6, .pointer (some ⟨pn, 0, none⟩)), (7, .int .i64 (((i + 1) : Nat) : Int))] (by omega) (Sub.cons rfl (Sub.cons rfl (Sub.cons rfl (Sub.cons rfl (Sub.cons rfl (Sub.cons rfl (Sub.nil _))))))) ⟨i + 1, rfl, rfl, by omega, kk7, f21, f22, f23, Bk.eq f_pn_7 (congrArg u8s (rwU_one h16 e_n))⟩
      · refine C_exit ?_
        refine X_then_exit (X_then_exit (X_in_eq ?_))
        refine X_then hK13 ?_
        have fN : Bk w6 pn (u8s (rowsR (eH (KW K) X r))) 40 := Bk.eq f_pn_6 (congrArg u8s (by rw [← rwU_all, show 16 = i by omega]))
        refine C_region ?_
        refine R_pu (pu_loadRow (len := 16) fN (by kernel_rfl) (by kernel_rfl) (by rw [u8s_length]; exact (rowsR_by _).1) rfl) rfl ?_
        refine R_lo0 (lo_storeRow (C := u8s (rowsR (eH (KW K) X r))) f_pb_6 (by rw [u8s_length, (rowsR_by _).1]; kernel_rfl) rfl rfl (u8s_each _) ((u8s_length _).trans ((rowsR_by _).1.trans ((eH_by _ bX _).1.symm.trans (u8s_length _).symm)))) ?_
        rintro _ w8 kf8
        obtain ⟨k8, f_pb_8⟩ := kf8
        replace f_pb_8 : Bk w8 pb (u8s (rowsR (eH (KW K) X r))) 40 := f_pb_8
        have kk8 := kk6.trans k8 (fun i hi => .inr (hi ▸ (Nat.le_trans kk1.size N2.le)))
        refine R_nil ?_
        refine X_then hK10 ?_
        refine C_seq (fun K24 hK24 => ?_)
        refine C_seq (fun K25 hK25 => ?_)
        refine C_region ?_
        refine R_pu (pu_move rfl) rfl ?_
        refine R_pu (pu_true (pu_gtr (p := r > 0) rfl rfl (by omega)) h14) rfl ?_
        refine R_pu (pu_move rfl) rfl ?_
        refine R_gpu rfl rfl (pu_move rfl) rfl ?_
        refine R_gpu rfl rfl (pu_lss (p := r < 14) rfl rfl (by omega)) rfl ?_
        refine R_pu (pu_pickt rfl rfl) rfl ?_
        refine R_nil ?_
        refine X_then hK25 ?_
        refine C_dec rfl (fun h38 => ?_) (fun h38 => ?_)
        · refine C_region ?_
          refine R_pu (pu_loadRow (len := 16) f_pb_8 (by kernel_rfl) (by kernel_rfl) (by rw [u8s_length]; exact (rowsR_by _).1) rfl) rfl ?_
          refine R_lo (lo_call (by kernel_rfl) rfl (ref_mixed (rowsR (eH (KW K) X r)) (rowsR_by _) _)) rfl ?_
          rintro _ w9 ⟨rfl, k9⟩
          have kk9 := kk8.then_ k9
          have f26 : Bk w9 pb (u8s (rowsR (eH (KW K) X r))) 40 := (f_pb_8.no k9)
          refine R_lo0 (lo_storeRow (C := u8s (colsR (rowsR (eH (KW K) X r)))) f26 (by rw [u8s_length, (colsR_by (rowsR_by _)).1]; kernel_rfl) rfl rfl (u8s_each _) ((u8s_length _).trans ((colsR_by (rowsR_by _)).1.trans ((rowsR_by _).1.symm.trans (u8s_length _).symm)))) ?_
          rintro _ w10 kf10
          obtain ⟨k10, f_pb_10⟩ := kf10
          replace f_pb_10 : Bk w10 pb (u8s (colsR (rowsR (eH (KW K) X r)))) 40 := f_pb_10
          have kk10 := kk9.trans k10 (fun i hi => .inr (hi ▸ (Nat.le_trans kk1.size N2.le)))
          refine R_nil ?_
          refine X_then hK24 ?_
          refine C_seq (fun K27 hK27 => ?_)
          refine C_region ?_
          refine R_pu (pu_assign rfl) rfl ?_
          refine R_nil ?_
          refine X_then hK27 ?_
          refine C_block ?_
          have f28 : Bk w10 pc (u8s (CK K)) 39 := (((f_pc_6.on k8 (Ne.symm ne_pb_pc)).no k9).on k10 (Ne.symm ne_pb_pc))
          have f29 : Bk w10 p0_2 (u8s (List.replicate 16 0)) 40 := (((f_p0_2_6.on k8 ne_p0_2_pb).no k9).on k10 ne_p0_2_pb)
          have f30 : Bk w10 pn (u8s (rowsR (eH (KW K) X r))) 40 := (((fN.on k8 ne_pn_pb).no k9).on k10 ne_pn_pb)
          refine C_loop (fun m_ l_ wr => ∃ j : Nat, (m_ = 16 - j) ∧ (l_ = [(2, .pointer (some ⟨pc, 0, none⟩)), (3, .pointer (some ⟨pb, 0, none⟩)), (4, .pointer (some ⟨p0_2, 0, none⟩)), (5, .int .i64 ((r : Nat) : Int)), (8, .int .i64 ((j : Nat) : Int))]) ∧ (j ≤ 16) ∧ (Kp No w wr) ∧ (Bk wr pc (u8s (CK K)) 39) ∧ (Bk wr pb (u8s (adU (KW K) r (colsR (rowsR (eH (KW K) X r))) j)) 40) ∧ (Bk wr p0_2 (u8s (List.replicate 16 0)) 40) ∧ (Bk wr pn (u8s (rowsR (eH (KW K) X r))) 40)) (16 - 0) [(2, .pointer (some ⟨pc, 0, none⟩)), (3, .pointer (some ⟨pb, 0, none⟩)), (4, .pointer (some ⟨p0_2, 0, none⟩)), (5, .int .i64 ((r : Nat) : Int)), (8, .int .i64 0)] (Sub.cons rfl (Sub.cons rfl (Sub.cons rfl (Sub.cons rfl (Sub.cons rfl (Sub.nil _)))))) ⟨0, rfl, rfl, by omega, kk10, f28, Bk.eq f_pb_10 (congrArg u8s (adU_zero (colsR_by (rowsR_by _)) r)), f29, f30⟩ ?_
          rintro _ _ w11 ⟨j, rfl, rfl, hj, kk11, f_pc_11, f_pb_11, f_p0_2_11, f_pn_11⟩
          refine C_seq (fun K31 hK31 => ?_)
          refine C_seq (fun K32 hK32 => ?_)
          refine C_region ?_
          refine R_pu (pu_move rfl) rfl ?_
          refine R_pu (pu_lss (p := j < 16) rfl rfl (by omega)) rfl ?_
          refine R_nil ?_
          refine X_then hK32 ?_
          refine C_dec rfl (fun h42 => ?_) (fun h42 => ?_)
          · refine C_skip ?_
            refine X_then hK31 ?_
            refine C_seq (fun K33 hK33 => ?_)
            refine C_block ?_
            refine D_begin (fun W => Kp No w W ∧ Bk W pc (u8s (CK K)) 39 ∧ Bk W p0_2 (u8s (List.replicate 16 0)) 40 ∧ Bk W pn (u8s (rowsR (eH (KW K) X r))) 40) 18 rfl (by kernel_rfl) ⟨kk11.drew, f_pc_11.draw, f_p0_2_11.draw, f_pn_11.draw⟩ ?_
            intro w12 k12 _
            have kk12 := kk11.then_ k12
            refine D_take 0 rfl (by kernel_rfl) (by kernel_rfl) (by kernel_rfl) (fun _ _ _ h => h) rfl (fun W hS => pu_move rfl) ?_
            refine D_take 1 rfl (by kernel_rfl) (by kernel_rfl) (by kernel_rfl) (fun _ _ _ h => h) rfl (fun W hS => pu_move rfl) ?_
            refine D_take 2 rfl (by kernel_rfl) (by kernel_rfl) (by kernel_rfl) (fun _ _ _ h => h) rfl (fun W hS => pu_indexAddrA (m := j) (s := 1) (o' := j) Tryz.underlying40 (by kernel_rfl) rfl rfl rfl (by omega) (by omega)) ?_
            refine D_take 4 rfl (by kernel_rfl) (by kernel_rfl) (by kernel_rfl) (fun _ _ _ h => h) rfl (fun W hS => pu_move rfl) ?_
            refine D_take 5 rfl (by kernel_rfl) (by kernel_rfl) (by kernel_rfl) (fun _ _ _ h => h) rfl (fun W hS => pu_mul (z := ((4 * r : Nat) : Int)) rfl rfl (by rw [IntKind.wrap_i64]; omega)) ?_
            refine D_take 6 rfl (by kernel_rfl) (by kernel_rfl) (by kernel_rfl) (fun _ _ _ h => h) rfl (fun W hS => pu_move rfl) ?_
            refine D_take 7 rfl (by kernel_rfl) (by kernel_rfl) (by kernel_rfl) (fun _ _ _ h => h) rfl (fun W hS => pu_quo (z := ((j / 4 : Nat) : Int)) rfl rfl (by omega) (by rw [Int.tdiv_eq_ediv_of_nonneg (by omega), IntKind.wrap_i64]; omega)) ?_
            refine D_take 8 rfl (by kernel_rfl) (by kernel_rfl) (by kernel_rfl) (fun _ _ _ h => h) rfl (fun W hS => pu_add (z := (((4 * r) + (j / 4) : Nat) : Int)) rfl rfl (by rw [IntKind.wrap_i64]; omega)) ?_
            refine D_take 9 rfl (by kernel_rfl) (by kernel_rfl) (by kernel_rfl) (fun _ _ _ h => h) rfl (fun W hS => pu_move rfl) ?_
            refine D_take 10 rfl (by kernel_rfl) (by kernel_rfl) (by kernel_rfl) (fun _ _ _ h => h) rfl (fun W hS => pu_rem (z := ((j % 4 : Nat) : Int)) rfl rfl (by omega) (by rfl)) ?_
            refine D_take 11 rfl (by kernel_rfl) (by kernel_rfl) (by kernel_rfl) (fun _ _ _ h => h) rfl (fun W hS => pu_fieldAddr (off := 0) (o' := 0) (by kernel_rfl) rfl rfl) ?_
            refine D_take 12 rfl (by kernel_rfl) (by kernel_rfl) (by kernel_rfl) (fun _ _ _ h => h) rfl (fun W hS => pu_indexAddrA (m := (4 * r) + (j / 4)) (s := 4) (o' := ((4 * r) + (j / 4)) * 4) Tryz.underlying36 (by kernel_rfl) rfl rfl rfl (by omega) (by omega)) ?_
            refine D_take 13 rfl (by kernel_rfl) (by kernel_rfl) (by kernel_rfl) (fun _ _ _ h => h) rfl (fun W hS => pu_indexAddrA (m := j % 4) (s := 1) (o' := ((4 * r) + (j / 4)) * 4 + (j % 4)) Tryz.underlying35 (by kernel_rfl) rfl rfl rfl (by omega) (by omega)) ?_
            refine D_take 14 rfl (by kernel_rfl) (by kernel_rfl) (by kernel_rfl) (fun _ _ _ h => h) rfl (fun W hS => pu_loadK hS.2.1 (by kernel_rfl) rfl (u8s_get (CK_w K (by omega)))) ?_
            obtain ⟨m, e_m⟩ : ∃ q_, (adU (KW K) r (colsR (rowsR (eH (KW K) X r))) j)[j]? = some q_ := ⟨_, List.getElem?_eq_getElem (by rw [((adU_by (colsR_by (rowsR_by _)) _ _)).1]; omega)⟩
            have b_m : m < 256 := ((adU_by (colsR_by (rowsR_by _)) _ _)).2 _ (List.mem_of_getElem? e_m)
            have f34 : Bk w12 pb (u8s (adU (KW K) r (colsR (rowsR (eH (KW K) X r))) j)) 40 := (f_pb_11.no k12)
            have f35 : Bk w12 pc (u8s (CK K)) 39 := (f_pc_11.no k12)
            have f36 : Bk w12 p0_2 (u8s (List.replicate 16 0)) 40 := (f_p0_2_11.no k12)
            have f37 : Bk w12 pn (u8s (rowsR (eH (KW K) X r))) 40 := (f_pn_11.no k12)
            refine D_one 3 (by kernel_rfl) (Nx_pu rfl (pu_loadK f34 (by kernel_rfl) rfl (u8s_get e_m)) rfl ⟨⟨kk12, f35, f36, f37⟩, ?_⟩)
            refine D_take 15 rfl (by kernel_rfl) (by kernel_rfl) (by kernel_rfl) (fun _ _ _ h => h) rfl (fun W hS => pu_xor rfl rfl (u8_xor_nat m (WBf K (((4 * r) + (j / 4)) * 4 + (j % 4))) b_m (bW_lt _ _))) ?_
            refine D_take 16 rfl (by kernel_rfl) (by kernel_rfl) (by kernel_rfl) (fun _ _ _ h => h) rfl (fun W hS => pu_indexAddrA (m := j) (s := 1) (o' := j) Tryz.underlying40 (by kernel_rfl) rfl rfl rfl (by omega) (by omega)) ?_
            refine D_one 17 (by kernel_rfl) (Nx_lo0 rfl (lo_store f34 (by kernel_rfl) rfl rfl rfl (by rw [u8s_length, (adU_by (colsR_by (rowsR_by _)) _ _).1]; omega)) ?_)
            rintro _ w13 kf13
            obtain ⟨k13, f_pb_13⟩ := kf13
            replace f_pb_13 := Bk.eq f_pb_13 (u8s_set _ _ (m ^^^ (WBf K (((4 * r) + (j / 4)) * 4 + (j % 4)))))
            replace f_pb_13 : Bk w13 pb (u8s ((adU (KW K) r (colsR (rowsR (eH (KW K) X r))) j).set j (m ^^^ (WBf K (((4 * r) + (j / 4)) * 4 + (j % 4)))))) 40 := f_pb_13
            have kk13 := kk12.trans k13 (fun i hi => .inr (hi ▸ (Nat.le_trans kk1.size N2.le)))
            have f38 : Bk w13 pc (u8s (CK K)) 39 := (f35.on k13 (Ne.symm ne_pb_pc))
            have f39 : Bk w13 p0_2 (u8s (List.replicate 16 0)) 40 := (f36.on k13 ne_p0_2_pb)
            have f40 : Bk w13 pn (u8s (rowsR (eH (KW K) X r))) 40 := (f37.on k13 ne_pn_pb)
            refine ⟨⟨kk13, f38, f39, f40⟩, ?_⟩
            refine D_done (by kernel_rfl) ?_
            refine X_in_normal ?_
            refine X_then hK33 ?_
            refine C_region ?_
            refine R_pu (pu_move rfl) rfl ?_
            refine R_pu (pu_add (z := ((j + 1 : Nat) : Int)) rfl rfl (by rw [IntKind.wrap_i64]; omega)) rfl ?_
            refine R_pu (pu_assign rfl) rfl ?_
            refine R_nil ?_
            refine X_round (16 - (j + 1)) [(2, .pointer (some ⟨pc, 0, none⟩)), (3, .pointer (some ⟨pb, 0, none⟩)), (4, .pointer (some ⟨p0_2, 0, none⟩)), (5, .int .i64 ((r : Nat) : Int)), (8, .int .i64 (((j + 1) : Nat) : Int))] (by omega) (Sub.cons rfl (Sub.cons rfl (Sub.cons rfl (Sub.cons rfl (Sub.cons rfl (Sub.nil _)))))) ⟨j + 1, rfl, rfl, by omega, kk13, f38, Bk.eq f_pb_13 (congrArg u8s (adU_one (by omega) h42 e_m)), f39, f40⟩
          · refine C_exit ?_
            refine X_then_exit (X_then_exit (X_in_eq ?_))
            refine X_in_normal ?_
            refine X_then hK9 ?_
            refine C_region ?_
            refine R_pu (pu_move rfl) rfl ?_
            refine R_pu (pu_add (z := ((r + 1 : Nat) : Int)) rfl rfl (by rw [IntKind.wrap_i64]; omega)) rfl ?_
            refine R_pu (pu_assign rfl) rfl ?_
            refine R_nil ?_
            refine X_round (15 - (r + 1)) [(2, .pointer (some ⟨pc, 0, none⟩)), (3, .pointer (some ⟨pb, 0, none⟩)), (4, .pointer (some ⟨p0_2, 0, none⟩)), (5, .int .i64 (((r + 1) : Nat) : Int))] (by omega) (Sub.cons rfl (Sub.cons rfl (Sub.cons rfl (Sub.cons rfl (Sub.nil _))))) ⟨r + 1, rfl, rfl, by omega, kk11, f_pc_11, Bk.eq f_pb_11 (congrArg u8s (by rw [show j = 16 by omega, adU_all, eH_mid h14 (by omega)])), f_p0_2_11⟩
        · refine C_skip ?_
          refine X_then hK24 ?_
          refine C_seq (fun K41 hK41 => ?_)
          refine C_region ?_
          refine R_pu (pu_assign rfl) rfl ?_
          refine R_nil ?_
          refine X_then hK41 ?_
          refine C_block ?_
          have f42 : Bk w8 pc (u8s (CK K)) 39 := (f_pc_6.on k8 (Ne.symm ne_pb_pc))
          have f43 : Bk w8 p0_2 (u8s (List.replicate 16 0)) 40 := (f_p0_2_6.on k8 ne_p0_2_pb)
          have f44 : Bk w8 pn (u8s (rowsR (eH (KW K) X r))) 40 := (fN.on k8 ne_pn_pb)
          refine C_loop (fun m_ l_ wr => ∃ j : Nat, (m_ = 16 - j) ∧ (l_ = [(2, .pointer (some ⟨pc, 0, none⟩)), (3, .pointer (some ⟨pb, 0, none⟩)), (4, .pointer (some ⟨p0_2, 0, none⟩)), (5, .int .i64 ((r : Nat) : Int)), (8, .int .i64 ((j : Nat) : Int))]) ∧ (j ≤ 16) ∧ (Kp No w wr) ∧ (Bk wr pc (u8s (CK K)) 39) ∧ (Bk wr pb (u8s (adU (KW K) r (rowsR (eH (KW K) X r)) j)) 40) ∧ (Bk wr p0_2 (u8s (List.replicate 16 0)) 40) ∧ (Bk wr pn (u8s (rowsR (eH (KW K) X r))) 40)) (16 - 0) [(2, .pointer (some ⟨pc, 0, none⟩)), (3, .pointer (some ⟨pb, 0, none⟩)), (4, .pointer (some ⟨p0_2, 0, none⟩)), (5, .int .i64 ((r : Nat) : Int)), (8, .int .i64 0)] (Sub.cons rfl (Sub.cons rfl (Sub.cons rfl (Sub.cons rfl (Sub.cons rfl (Sub.nil _)))))) ⟨0, rfl, rfl, by omega, kk8, f42, Bk.eq f_pb_8 (congrArg u8s (adU_zero (rowsR_by _) r)), f43, f44⟩ ?_
          rintro _ _ w14 ⟨j, rfl, rfl, hj, kk14, f_pc_14, f_pb_14, f_p0_2_14, f_pn_14⟩
          refine C_seq (fun K45 hK45 => ?_)
          refine C_seq (fun K46 hK46 => ?_)
          refine C_region ?_
          refine R_pu (pu_move rfl) rfl ?_
          refine R_pu (pu_lss (p := j < 16) rfl rfl (by omega)) rfl ?_
          refine R_nil ?_
          refine X_then hK46 ?_
          refine C_dec rfl (fun h42 => ?_) (fun h42 => ?_)
          · refine C_skip ?_
            refine X_then hK45 ?_
            refine C_seq (fun K47 hK47 => ?_)
            refine C_block ?_
            refine D_begin (fun W => Kp No w W ∧ Bk W pc (u8s (CK K)) 39 ∧ Bk W p0_2 (u8s (List.replicate 16 0)) 40 ∧ Bk W pn (u8s (rowsR (eH (KW K) X r))) 40) 18 rfl (by kernel_rfl) ⟨kk14.drew, f_pc_14.draw, f_p0_2_14.draw, f_pn_14.draw⟩ ?_
            intro w15 k15 _
            have kk15 := kk14.then_ k15
            refine D_take 0 rfl (by kernel_rfl) (by kernel_rfl) (by kernel_rfl) (fun _ _ _ h => h) rfl (fun W hS => pu_move rfl) ?_
            refine D_take 1 rfl (by kernel_rfl) (by kernel_rfl) (by kernel_rfl) (fun _ _ _ h => h) rfl (fun W hS => pu_move rfl) ?_
            refine D_take 2 rfl (by kernel_rfl) (by kernel_rfl) (by kernel_rfl) (fun _ _ _ h => h) rfl (fun W hS => pu_indexAddrA (m := j) (s := 1) (o' := j) Tryz.underlying40 (by kernel_rfl) rfl rfl rfl (by omega) (by omega)) ?_
            refine D_take 4 rfl (by kernel_rfl) (by kernel_rfl) (by kernel_rfl) (fun _ _ _ h => h) rfl (fun W hS => pu_move rfl) ?_
            refine D_take 5 rfl (by kernel_rfl) (by kernel_rfl) (by kernel_rfl) (fun _ _ _ h => h) rfl (fun W hS => pu_mul (z := ((4 * r : Nat) : Int)) rfl rfl (by rw [IntKind.wrap_i64]; omega)) ?_
            refine D_take 6 rfl (by kernel_rfl) (by kernel_rfl) (by kernel_rfl) (fun _ _ _ h => h) rfl (fun W hS => pu_move rfl) ?_
            refine D_take 7 rfl (by kernel_rfl) (by kernel_rfl) (by kernel_rfl) (fun _ _ _ h => h) rfl (fun W hS => pu_quo (z := ((j / 4 : Nat) : Int)) rfl rfl (by omega) (by rw [Int.tdiv_eq_ediv_of_nonneg (by omega), IntKind.wrap_i64]; omega)) ?_
            refine D_take 8 rfl (by kernel_rfl) (by kernel_rfl) (by kernel_rfl) (fun _ _ _ h => h) rfl (fun W hS => pu_add (z := (((4 * r) + (j / 4) : Nat) : Int)) rfl rfl (by rw [IntKind.wrap_i64]; omega)) ?_
            refine D_take 9 rfl (by kernel_rfl) (by kernel_rfl) (by kernel_rfl) (fun _ _ _ h => h) rfl (fun W hS => pu_move rfl) ?_
            refine D_take 10 rfl (by kernel_rfl) (by kernel_rfl) (by kernel_rfl) (fun _ _ _ h => h) rfl (fun W hS => pu_rem (z := ((j % 4 : Nat) : Int)) rfl rfl (by omega) (by rfl)) ?_
            refine D_take 11 rfl (by kernel_rfl) (by kernel_rfl) (by kernel_rfl) (fun _ _ _ h => h) rfl (fun W hS => pu_fieldAddr (off := 0) (o' := 0) (by kernel_rfl) rfl rfl) ?_
            refine D_take 12 rfl (by kernel_rfl) (by kernel_rfl) (by kernel_rfl) (fun _ _ _ h => h) rfl (fun W hS => pu_indexAddrA (m := (4 * r) + (j / 4)) (s := 4) (o' := ((4 * r) + (j / 4)) * 4) Tryz.underlying36 (by kernel_rfl) rfl rfl rfl (by omega) (by omega)) ?_
            refine D_take 13 rfl (by kernel_rfl) (by kernel_rfl) (by kernel_rfl) (fun _ _ _ h => h) rfl (fun W hS => pu_indexAddrA (m := j % 4) (s := 1) (o' := ((4 * r) + (j / 4)) * 4 + (j % 4)) Tryz.underlying35 (by kernel_rfl) rfl rfl rfl (by omega) (by omega)) ?_
            refine D_take 14 rfl (by kernel_rfl) (by kernel_rfl) (by kernel_rfl) (fun _ _ _ h => h) rfl (fun W hS => pu_loadK hS.2.1 (by kernel_rfl) rfl (u8s_get (CK_w K (by omega)))) ?_
            obtain ⟨m, e_m⟩ : ∃ q_, (adU (KW K) r (rowsR (eH (KW K) X r)) j)[j]? = some q_ := ⟨_, List.getElem?_eq_getElem (by rw [((adU_by (rowsR_by _) _ _)).1]; omega)⟩
            have b_m : m < 256 := ((adU_by (rowsR_by _) _ _)).2 _ (List.mem_of_getElem? e_m)
            have f48 : Bk w15 pb (u8s (adU (KW K) r (rowsR (eH (KW K) X r)) j)) 40 := (f_pb_14.no k15)
            have f49 : Bk w15 pc (u8s (CK K)) 39 := (f_pc_14.no k15)
            have f50 : Bk w15 p0_2 (u8s (List.replicate 16 0)) 40 := (f_p0_2_14.no k15)
            have f51 : Bk w15 pn (u8s (rowsR (eH (KW K) X r))) 40 := (f_pn_14.no k15)
            refine D_one 3 (by kernel_rfl) (Nx_pu rfl (pu_loadK f48 (by kernel_rfl) rfl (u8s_get e_m)) rfl ⟨⟨kk15, f49, f50, f51⟩, ?_⟩)
            refine D_take 15 rfl (by kernel_rfl) (by kernel_rfl) (by kernel_rfl) (fun _ _ _ h => h) rfl (fun W hS => pu_xor rfl rfl (u8_xor_nat m (WBf K (((4 * r) + (j / 4)) * 4 + (j % 4))) b_m (bW_lt _ _))) ?_
            refine D_take 16 rfl (by kernel_rfl) (by kernel_rfl) (by kernel_rfl) (fun _ _ _ h => h) rfl (fun W hS => pu_indexAddrA (m := j) (s := 1) (o' := j) Tryz.underlying40 (by kernel_rfl) rfl rfl rfl (by omega) (by omega)) ?_
            refine D_one 17 (by kernel_rfl) (Nx_lo0 rfl (lo_store f48 (by kernel_rfl) rfl rfl rfl (by rw [u8s_length, (adU_by (rowsR_by _) _ _).1]; omega)) ?_)
            rintro _ w16 kf16
            obtain ⟨k16, f_pb_16⟩ := kf16
            replace f_pb_16 := Bk.eq f_pb_16 (u8s_set _ _ (m ^^^ (WBf K (((4 * r) + (j / 4)) * 4 + (j % 4)))))
            replace f_pb_16 : Bk w16 pb (u8s ((adU (KW K) r (rowsR (eH (KW K) X r)) j).set j (m ^^^ (WBf K (((4 * r) + (j / 4)) * 4 + (j % 4)))))) 40 := f_pb_16
            have kk16 := kk15.trans k16 (fun i hi => .inr (hi ▸ (Nat.le_trans kk1.size N2.le)))
            have f52 : Bk w16 pc (u8s (CK K)) 39 := (f49.on k16 (Ne.symm ne_pb_pc))
            have f53 : Bk w16 p0_2 (u8s (List.replicate 16 0)) 40 := (f50.on k16 ne_p0_2_pb)
            have f54 : Bk w16 pn (u8s (rowsR (eH (KW K) X r))) 40 := (f51.on k16 ne_pn_pb)
            refine ⟨⟨kk16, f52, f53, f54⟩, ?_⟩
            refine D_done (by kernel_rfl) ?_
            refine X_in_normal ?_
            refine X_then hK47 ?_
            refine C_region ?_
            refine R_pu (pu_move rfl) rfl ?_
            refine R_pu (pu_add (z := ((j + 1 : Nat) : Int)) rfl rfl (by rw [IntKind.wrap_i64]; omega)) rfl ?_
            refine R_pu (pu_assign rfl) rfl ?_
            refine R_nil ?_
            refine X_round (16 - (j + 1)) [(2, .pointer (some ⟨pc, 0, none⟩)), (3, .pointer (some ⟨pb, 0, none⟩)), (4, .pointer (some ⟨p0_2, 0, none⟩)), (5, .int .i64 ((r : Nat) : Int)), (8, .int .i64 (((j + 1) : Nat) : Int))] (by omega) (Sub.cons rfl (Sub.cons rfl (Sub.cons rfl (Sub.cons rfl (Sub.cons rfl (Sub.nil _)))))) ⟨j + 1, rfl, rfl, by omega, kk16, f52, Bk.eq f_pb_16 (congrArg u8s (adU_one (by omega) h42 e_m)), f53, f54⟩
          · refine C_exit ?_
            refine X_then_exit (X_then_exit (X_in_eq ?_))
            refine X_in_normal ?_
            refine X_then hK9 ?_
            refine C_region ?_
            refine R_pu (pu_move rfl) rfl ?_
            refine R_pu (pu_add (z := ((r + 1 : Nat) : Int)) rfl rfl (by rw [IntKind.wrap_i64]; omega)) rfl ?_
            refine R_pu (pu_assign rfl) rfl ?_
            refine R_nil ?_
            refine X_round (15 - (r + 1)) [(2, .pointer (some ⟨pc, 0, none⟩)), (3, .pointer (some ⟨pb, 0, none⟩)), (4, .pointer (some ⟨p0_2, 0, none⟩)), (5, .int .i64 (((r + 1) : Nat) : Int))] (by omega) (Sub.cons rfl (Sub.cons rfl (Sub.cons rfl (Sub.cons rfl (Sub.nil _))))) ⟨r + 1, rfl, rfl, by omega, kk14, f_pc_14, Bk.eq f_pb_14 (congrArg u8s (by rw [show j = 16 by omega, adU_all, eH_end h14 (by omega)])), f_p0_2_14⟩
    · refine C_skip ?_
      refine X_then hK10 ?_
      refine C_seq (fun K55 hK55 => ?_)
      refine C_seq (fun K56 hK56 => ?_)
      refine C_region ?_
      refine R_pu (pu_move rfl) rfl ?_
      refine R_pu (pu_false (pu_gtr (p := r > 0) rfl rfl (by omega)) h14) rfl ?_
      refine R_pu (pu_move rfl) rfl ?_
      refine R_gno rfl rfl rfl rfl ?_
      refine R_gno rfl rfl rfl rfl ?_
      refine R_pu (pu_pickf rfl rfl) rfl ?_
      refine R_nil ?_
      refine X_then hK56 ?_
      refine C_false rfl ?_
      refine C_skip ?_
      refine X_then hK55 ?_
      refine C_seq (fun K57 hK57 => ?_)
      refine C_region ?_
      refine R_pu (pu_assign rfl) rfl ?_
      refine R_nil ?_
      refine X_then hK57 ?_
      refine C_block ?_
      refine C_loop (fun m_ l_ wr => ∃ j : Nat, (m_ = 16 - j) ∧ (l_ = [(2, .pointer (some ⟨pc, 0, none⟩)), (3, .pointer (some ⟨pb, 0, none⟩)), (4, .pointer (some ⟨p0_2, 0, none⟩)), (5, .int .i64 ((r : Nat) : Int)), (8, .int .i64 ((j : Nat) : Int))]) ∧ (j ≤ 16) ∧ (Kp No w wr) ∧ (Bk wr pc (u8s (CK K)) 39) ∧ (Bk wr pb (u8s (adU (KW K) r (eH (KW K) X (r)) j)) 40) ∧ (Bk wr p0_2 (u8s (List.replicate 16 0)) 40)) (16 - 0) [(2, .pointer (some ⟨pc, 0, none⟩)), (3, .pointer (some ⟨pb, 0, none⟩)), (4, .pointer (some ⟨p0_2, 0, none⟩)), (5, .int .i64 ((r : Nat) : Int)), (8, .int .i64 0)] (Sub.cons rfl (Sub.cons rfl (Sub.cons rfl (Sub.cons rfl (Sub.cons rfl (Sub.nil _)))))) ⟨0, rfl, rfl, by omega, kk4, f_pc_4, Bk.eq f_pb_4 (congrArg u8s (adU_zero (eH_by _ bX _) r)), f_p0_2_4⟩ ?_
      rintro _ _ w17 ⟨j, rfl, rfl, hj, kk17, f_pc_17, f_pb_17, f_p0_2_17⟩
      refine C_seq (fun K58 hK58 => ?_)
      refine C_seq (fun K59 hK59 => ?_)
      refine C_region ?_
      refine R_pu (pu_move rfl) rfl ?_
      refine R_pu (pu_lss (p := j < 16) rfl rfl (by omega)) rfl ?_
      refine R_nil ?_
      refine X_then hK59 ?_
      refine C_dec rfl (fun h42 => ?_) (fun h42 => ?_)
      · refine C_skip ?_
        refine X_then hK58 ?_
        refine C_seq (fun K60 hK60 => ?_)
        refine C_block ?_
        refine D_begin (fun W => Kp No w W ∧ Bk W pc (u8s (CK K)) 39 ∧ Bk W p0_2 (u8s (List.replicate 16 0)) 40) 18 rfl (by kernel_rfl) ⟨kk17.drew, f_pc_17.draw, f_p0_2_17.draw⟩ ?_
        intro w18 k18 _
        have kk18 := kk17.then_ k18
        refine D_take 0 rfl (by kernel_rfl) (by kernel_rfl) (by kernel_rfl) (fun _ _ _ h => h) rfl (fun W hS => pu_move rfl) ?_
        refine D_take 1 rfl (by kernel_rfl) (by kernel_rfl) (by kernel_rfl) (fun _ _ _ h => h) rfl (fun W hS => pu_move rfl) ?_
        refine D_take 2 rfl (by kernel_rfl) (by kernel_rfl) (by kernel_rfl) (fun _ _ _ h => h) rfl (fun W hS => pu_indexAddrA (m := j) (s := 1) (o' := j) Tryz.underlying40 (by kernel_rfl) rfl rfl rfl (by omega) (by omega)) ?_
        refine D_take 4 rfl (by kernel_rfl) (by kernel_rfl) (by kernel_rfl) (fun _ _ _ h => h) rfl (fun W hS => pu_move rfl) ?_
        refine D_take 5 rfl (by kernel_rfl) (by kernel_rfl) (by kernel_rfl) (fun _ _ _ h => h) rfl (fun W hS => pu_mul (z := ((4 * r : Nat) : Int)) rfl rfl (by rw [IntKind.wrap_i64]; omega)) ?_
        refine D_take 6 rfl (by kernel_rfl) (by kernel_rfl) (by kernel_rfl) (fun _ _ _ h => h) rfl (fun W hS => pu_move rfl) ?_
        refine D_take 7 rfl (by kernel_rfl) (by kernel_rfl) (by kernel_rfl) (fun _ _ _ h => h) rfl (fun W hS => pu_quo (z := ((j / 4 : Nat) : Int)) rfl rfl (by omega) (by rw [Int.tdiv_eq_ediv_of_nonneg (by omega), IntKind.wrap_i64]; omega)) ?_
        refine D_take 8 rfl (by kernel_rfl) (by kernel_rfl) (by kernel_rfl) (fun _ _ _ h => h) rfl (fun W hS => pu_add (z := (((4 * r) + (j / 4) : Nat) : Int)) rfl rfl (by rw [IntKind.wrap_i64]; omega)) ?_
        refine D_take 9 rfl (by kernel_rfl) (by kernel_rfl) (by kernel_rfl) (fun _ _ _ h => h) rfl (fun W hS => pu_move rfl) ?_
        refine D_take 10 rfl (by kernel_rfl) (by kernel_rfl) (by kernel_rfl) (fun _ _ _ h => h) rfl (fun W hS => pu_rem (z := ((j % 4 : Nat) : Int)) rfl rfl (by omega) (by rfl)) ?_
        refine D_take 11 rfl (by kernel_rfl) (by kernel_rfl) (by kernel_rfl) (fun _ _ _ h => h) rfl (fun W hS => pu_fieldAddr (off := 0) (o' := 0) (by kernel_rfl) rfl rfl) ?_
        refine D_take 12 rfl (by kernel_rfl) (by kernel_rfl) (by kernel_rfl) (fun _ _ _ h => h) rfl (fun W hS => pu_indexAddrA (m := (4 * r) + (j / 4)) (s := 4) (o' := ((4 * r) + (j / 4)) * 4) Tryz.underlying36 (by kernel_rfl) rfl rfl rfl (by omega) (by omega)) ?_
        refine D_take 13 rfl (by kernel_rfl) (by kernel_rfl) (by kernel_rfl) (fun _ _ _ h => h) rfl (fun W hS => pu_indexAddrA (m := j % 4) (s := 1) (o' := ((4 * r) + (j / 4)) * 4 + (j % 4)) Tryz.underlying35 (by kernel_rfl) rfl rfl rfl (by omega) (by omega)) ?_
        refine D_take 14 rfl (by kernel_rfl) (by kernel_rfl) (by kernel_rfl) (fun _ _ _ h => h) rfl (fun W hS => pu_loadK hS.2.1 (by kernel_rfl) rfl (u8s_get (CK_w K (by omega)))) ?_
        obtain ⟨m, e_m⟩ : ∃ q_, (adU (KW K) r (eH (KW K) X (r)) j)[j]? = some q_ := ⟨_, List.getElem?_eq_getElem (by rw [((adU_by (eH_by _ bX _) _ _)).1]; omega)⟩
        have b_m : m < 256 := ((adU_by (eH_by _ bX _) _ _)).2 _ (List.mem_of_getElem? e_m)
        have f61 : Bk w18 pb (u8s (adU (KW K) r (eH (KW K) X (r)) j)) 40 := (f_pb_17.no k18)
        have f62 : Bk w18 pc (u8s (CK K)) 39 := (f_pc_17.no k18)
        have f63 : Bk w18 p0_2 (u8s (List.replicate 16 0)) 40 := (f_p0_2_17.no k18)
        refine D_one 3 (by kernel_rfl) (Nx_pu rfl (pu_loadK f61 (by kernel_rfl) rfl (u8s_get e_m)) rfl ⟨⟨kk18, f62, f63⟩, ?_⟩)
        refine D_take 15 rfl (by kernel_rfl) (by kernel_rfl) (by kernel_rfl) (fun _ _ _ h => h) rfl (fun W hS => pu_xor rfl rfl (u8_xor_nat m (WBf K (((4 * r) + (j / 4)) * 4 + (j % 4))) b_m (bW_lt _ _))) ?_
        refine D_take 16 rfl (by kernel_rfl) (by kernel_rfl) (by kernel_rfl) (fun _ _ _ h => h) rfl (fun W hS => pu_indexAddrA (m := j) (s := 1) (o' := j) Tryz.underlying40 (by kernel_rfl) rfl rfl rfl (by omega) (by omega)) ?_
        refine D_one 17 (by kernel_rfl) (Nx_lo0 rfl (lo_store f61 (by kernel_rfl) rfl rfl rfl (by rw [u8s_length, (adU_by (eH_by _ bX _) _ _).1]; omega)) ?_)
        rintro _ w19 kf19
        obtain ⟨k19, f_pb_19⟩ := kf19
        replace f_pb_19 := Bk.eq f_pb_19 (u8s_set _ _ (m ^^^ (WBf K (((4 * r) + (j / 4)) * 4 + (j % 4)))))
        replace f_pb_19 : Bk w19 pb (u8s ((adU (KW K) r (eH (KW K) X (r)) j).set j (m ^^^ (WBf K (((4 * r) + (j / 4)) * 4 + (j % 4)))))) 40 := f_pb_19
        have kk19 := kk18.trans k19 (fun i hi => .inr (hi ▸ (Nat.le_trans kk1.size N2.le)))
        have f64 : Bk w19 pc (u8s (CK K)) 39 := (f62.on k19 (Ne.symm ne_pb_pc))
        have f65 : Bk w19 p0_2 (u8s (List.replicate 16 0)) 40 := (f63.on k19 ne_p0_2_pb)
        refine ⟨⟨kk19, f64, f65⟩, ?_⟩
        refine D_done (by kernel_rfl) ?_
        refine X_in_normal ?_
        refine X_then hK60 ?_
        refine C_region ?_
        refine R_pu (pu_move rfl) rfl ?_
        refine R_pu (pu_add (z := ((j + 1 : Nat) : Int)) rfl rfl (by rw [IntKind.wrap_i64]; omega)) rfl ?_
        refine R_pu (pu_assign rfl) rfl ?_
        refine R_nil ?_
        refine X_round (16 - (j + 1)) [(2, .pointer (some ⟨pc, 0, none⟩)), (3, .pointer (some ⟨pb, 0, none⟩)), (4, .pointer (some ⟨p0_2, 0, none⟩)), (5, .int .i64 ((r : Nat) : Int)), (8, .int .i64 (((j + 1) : Nat) : Int))] (by omega) (Sub.cons rfl (Sub.cons rfl (Sub.cons rfl (Sub.cons rfl (Sub.cons rfl (Sub.nil _)))))) ⟨j + 1, rfl, rfl, by omega, kk19, f64, Bk.eq f_pb_19 (congrArg u8s (adU_one (by omega) h42 e_m)), f65⟩
      · refine C_exit ?_
        refine X_then_exit (X_then_exit (X_in_eq ?_))
        refine X_in_normal ?_
        refine X_then hK9 ?_
        refine C_region ?_
        refine R_pu (pu_move rfl) rfl ?_
        refine R_pu (pu_add (z := ((r + 1 : Nat) : Int)) rfl rfl (by rw [IntKind.wrap_i64]; omega)) rfl ?_
        refine R_pu (pu_assign rfl) rfl ?_
        refine R_nil ?_
        refine X_round (15 - (r + 1)) [(2, .pointer (some ⟨pc, 0, none⟩)), (3, .pointer (some ⟨pb, 0, none⟩)), (4, .pointer (some ⟨p0_2, 0, none⟩)), (5, .int .i64 (((r + 1) : Nat) : Int))] (by omega) (Sub.cons rfl (Sub.cons rfl (Sub.cons rfl (Sub.cons rfl (Sub.nil _))))) ⟨r + 1, rfl, rfl, by omega, kk17, f_pc_17, Bk.eq f_pb_17 (congrArg u8s (by rw [show j = 16 by omega, adU_all, eH_zero (by omega)])), f_p0_2_17⟩
  · refine C_exit ?_
    refine X_then_exit (X_then_exit (X_in_eq ?_))
    refine X_then hK3 ?_
    refine C_seq (fun K66 hK66 => ?_)
    refine C_region ?_
    refine R_pu (pu_loadRow (len := 16) f_pb_4 (by kernel_rfl) (by kernel_rfl) (by rw [u8s_length]; exact (eH_by _ bX _).1) rfl) rfl ?_
    refine R_lo0 (lo_storeRow (C := u8s (eH (KW K) X (r))) f_p0_2_4 (by rw [u8s_length, (eH_by _ bX _).1]; kernel_rfl) rfl rfl (u8s_each _) ((u8s_length _).trans ((eH_by _ bX _).1.trans ((rep_by 16).1.symm.trans (u8s_length _).symm)))) ?_
    rintro _ w20 kf20
    obtain ⟨k20, f_p0_2_20⟩ := kf20
    replace f_p0_2_20 : Bk w20 p0_2 (u8s (eH (KW K) X (r))) 40 := f_p0_2_20
    have kk20 := kk4.trans k20 (fun i hi => .inr (hi ▸ (Nat.le_trans kk2.size N3.le)))
    refine R_nil ?_
    refine X_then hK66 ?_
    refine C_ret ?_
    exact X_retRow (len := 16) (.inl rfl) rfl rfl f_p0_2_20 (by kernel_rfl) (by kernel_rfl) (by rw [u8s_length]; exact (eH_by _ bX _).1) ⟨by rw [show r = 15 by omega]; rfl, kk20⟩
set_option maxRecDepth 100000 in
set_option maxHeartbeats 2000000 in
theorem aes_enc_nil (X : List Nat) (bX : By 16 X) (w : World)  : Ret Tryz.prog 18 #[.pointer none, .agg (u8s X : List Value).toArray] w (fun v w' => v = .agg (u8s (List.replicate 16 0)).toArray ∧ Kp No w w') := by
  have kk0 := Kp.refl No w
  refine enter (n := 26) [.pointer none, .agg (u8s X : List Value).toArray] Tryz.func18 rfl rfl rfl ?_
  show Cw _ _ _ _ [(0, .pointer none), (1, .agg (u8s X : List Value).toArray)] _
  refine C_seq (fun K1 hK1 => ?_)
  refine C_region ?_
  refine R_lo (lo_box (L := u8s X) rfl rfl) rfl ?_
  rintro _ w1 ⟨p0_0, rfl, N1⟩
  have k1 := N1.kp
  have kk1 := kk0.then_ k1
  have f_p0_0_1 : Bk w1 p0_0 (u8s X) 50 := N1.bk
  refine R_lo (lo_alloc (L := u8s (List.replicate 16 0)) (by kernel_rfl)) rfl ?_
  rintro _ w2 ⟨p0_1, rfl, N2⟩
  have k2 := N2.kp
  have kk2 := kk1.then_ k2
  have ne_p0_1_p0_0 : p0_1 ≠ p0_0 := Nat.ne_of_gt (Nat.lt_of_lt_of_le f_p0_0_1.lt N2.le)
  have f_p0_1_2 : Bk w2 p0_1 (u8s (List.replicate 16 0)) 50 := N2.bk
  refine R_nil ?_
  refine X_then hK1 ?_
  refine C_seq (fun K2 hK2 => ?_)
  refine C_seq (fun K3 hK3 => ?_)
  refine C_region ?_
  refine R_pu (pu_move rfl) rfl ?_
  refine R_pu (pu_eqlpn (by kernel_rfl) rfl rfl) rfl ?_
  refine R_nil ?_
  refine X_then hK3 ?_
  refine C_true rfl ?_
  refine C_seq (fun K4 hK4 => ?_)
  refine C_region ?_
  refine R_pu (pu_build (L := u8s (List.replicate 16 0)) rfl (by kernel_rfl)) rfl ?_
  refine R_lo0 (lo_storeRow (C := u8s (List.replicate 16 0)) f_p0_1_2 (by rw [u8s_length, (rep_by 16).1]; kernel_rfl) rfl rfl (u8s_each _) ((u8s_length _).trans ((rep_by 16).1.trans ((rep_by 16).1.symm.trans (u8s_length _).symm)))) ?_
  rintro _ w3 kf3
  obtain ⟨k3, f_p0_1_3⟩ := kf3
  replace f_p0_1_3 : Bk w3 p0_1 (u8s (List.replicate 16 0)) 50 := f_p0_1_3
  have kk3 := kk2.trans k3 (fun i hi => .inr (hi ▸ (Nat.le_trans kk1.size N2.le)))
  refine R_nil ?_
  refine X_then hK4 ?_
  refine C_ret ?_
  refine X_then_ret ?_
  exact X_retRow (len := 16) (.inl rfl) rfl rfl f_p0_1_3 (by kernel_rfl) (by kernel_rfl) (by rw [u8s_length]; exact (rep_by 16).1) ⟨rfl, kk3⟩
end Go.Proofs.YtfoenaleboodpaaGreatDoor
