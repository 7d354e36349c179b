/- Walks of bursaryref01: bits, powers, sums, products, inverses. -/
import Derived.Test.YtjbdimfpjbmggaaDoorGp
import Derived.Test.YtjbdimfpjbmggaaDoorLo
set_option linter.unusedVariables false
set_option linter.unusedSimpArgs false
namespace Go.Proofs.YtjbdimfpjbmggaaDoor
open Go.RowKit Gm
set_option maxRecDepth 100000 in
set_option maxHeartbeats 2000000 in
theorem ref_bit (x p : Nat) (hx : x < 2 ^ 62) (hp : p < 1000) (w : World)  : Ret Tryd.prog 74 #[.int .i64 ((x : Nat) : Int), .int .i64 ((p : Nat) : Int)] w (fun v w' => v = .bool (bit x p) ∧ Kp No w w') := by
  have kk0 := Kp.refl No w
  refine enter (n := 16) [.int .i64 ((x : Nat) : Int), .int .i64 ((p : Nat) : Int)] Tryd.func74 rfl rfl rfl ?_
  show Cw _ _ _ _ [(0, .int .i64 ((x : Nat) : Int)), (1, .int .i64 ((p : Nat) : Int))] _
  refine C_seq (fun K1 hK1 => ?_)
  refine C_region ?_
  refine R_pu (pu_assign rfl) rfl ?_
  refine R_nil ?_
  refine X_then hK1 ?_
  refine C_seq (fun K2 hK2 => ?_)
  refine C_seq (fun K3 hK3 => ?_)
  refine C_region ?_
  refine R_pu (pu_assign rfl) rfl ?_
  refine R_nil ?_
  refine X_then hK3 ?_
  refine C_block ?_
  refine C_loop (fun m_ l_ wr => ∃ i : Nat, (m_ = p - i) ∧ (l_ = [(0, .int .i64 ((x / 2 ^ i : Nat) : Int)), (1, .int .i64 ((p : Nat) : Int)), (4, .bool false), (5, .int .i64 ((i : Nat) : Int))]) ∧ (i ≤ p) ∧ (Kp No w wr)) (p - 0) [(0, .int .i64 ((x / 2 ^ 0 : Nat) : Int)), (1, .int .i64 ((p : Nat) : Int)), (4, .bool false), (5, .int .i64 0)] (Sub.consE rfl (by simp) (Sub.cons rfl (Sub.cons rfl (Sub.cons rfl (Sub.nil _))))) ⟨0, rfl, rfl, by omega, kk0⟩ ?_
  rintro _ _ w1 ⟨i, rfl, rfl, hi, kk1⟩
  have hd := Nat.div_le_self x (2 ^ i); have hd0 := Int.natCast_nonneg (x / 2 ^ i)
  refine C_seq (fun K4 hK4 => ?_)
  refine C_seq (fun K5 hK5 => ?_)
  refine C_region ?_
  refine R_pu (pu_move rfl) rfl ?_
  refine R_pu (pu_move rfl) rfl ?_
  refine R_pu (pu_lss (p := i < p) rfl rfl (by omega)) rfl ?_
  refine R_nil ?_
  refine X_then hK5 ?_
  refine C_dec rfl (fun h8 => ?_) (fun h8 => ?_)
  · refine C_skip ?_
    refine X_then hK4 ?_
    refine C_seq (fun K6 hK6 => ?_)
    refine C_block ?_
    refine C_region ?_
    refine R_pu (pu_move rfl) rfl ?_
    refine R_pu (pu_quo (z := (((x / 2 ^ i) / 2 : Nat) : Int)) rfl rfl (by omega) (by rw [Int.tdiv_eq_ediv_of_nonneg (by omega), IntKind.wrap_i64]; omega)) rfl ?_
    refine R_pu (pu_assign rfl) rfl ?_
    refine R_nil ?_
    refine X_in_normal ?_
    refine X_then hK6 ?_
    refine C_region ?_
    refine R_pu (pu_move rfl) rfl ?_
    refine R_pu (pu_add (z := ((i + 1 : Nat) : Int)) rfl rfl (by rw [IntKind.wrap_i64]; omega)) rfl ?_
    refine R_pu (pu_assign rfl) rfl ?_
    refine R_nil ?_
    refine X_round (p - (i + 1)) [(0, .int .i64 ((x / 2 ^ (i + 1) : Nat) : Int)), (1, .int .i64 ((p : Nat) : Int)), (4, .bool false), (5, .int .i64 (((i + 1) : Nat) : Int))] (by omega) (Sub.consE rfl (by rw [Nat.div_div_eq_div_mul, ← Nat.pow_succ]) (Sub.cons rfl (Sub.cons rfl (Sub.cons rfl (Sub.nil _))))) ⟨i + 1, rfl, rfl, by omega, kk1⟩
  · refine C_exit ?_
    refine X_then_exit (X_then_exit (X_in_eq ?_))
    refine X_then hK2 ?_
    refine C_seq (fun K7 hK7 => ?_)
    refine C_region ?_
    refine R_pu (pu_move rfl) rfl ?_
    refine R_pu (pu_rem (z := (((x / 2 ^ i) % 2 : Nat) : Int)) rfl rfl (by omega) (by rfl)) rfl ?_
    refine R_pu (pu_eql (p := ((x / 2 ^ i) % 2) = 1) rfl rfl (by omega)) rfl ?_
    refine R_pu (pu_assign rfl) rfl ?_
    refine R_nil ?_
    refine X_then hK7 ?_
    refine C_ret ?_
    exact X_ret1 (.inl rfl) rfl rfl ⟨by rw [show p = i by omega], kk1⟩
set_option maxRecDepth 100000 in
set_option maxHeartbeats 2000000 in
theorem ref_power (p : Nat) (hp : p ≤ 20) (w : World)  : Ret Tryd.prog 75 #[.int .i64 ((p : Nat) : Int)] w (fun v w' => v = .int .i64 ((2 ^ p : Nat) : Int) ∧ Kp No w w') := by
  have kk0 := Kp.refl No w
  refine enter (n := 13) [.int .i64 ((p : Nat) : Int)] Tryd.func75 rfl rfl rfl ?_
  show Cw _ _ _ _ [(0, .int .i64 ((p : Nat) : Int))] _
  refine C_seq (fun K1 hK1 => ?_)
  refine C_region ?_
  refine R_pu (pu_assign rfl) rfl ?_
  refine R_nil ?_
  refine X_then hK1 ?_
  refine C_seq (fun K2 hK2 => ?_)
  refine C_region ?_
  refine R_pu (pu_assign rfl) rfl ?_
  refine R_nil ?_
  refine X_then hK2 ?_
  refine C_seq (fun K3 hK3 => ?_)
  refine C_seq (fun K4 hK4 => ?_)
  refine C_region ?_
  refine R_pu (pu_assign rfl) rfl ?_
  refine R_nil ?_
  refine X_then hK4 ?_
  refine C_block ?_
  refine C_loop (fun m_ l_ wr => ∃ i : Nat, (m_ = p - i) ∧ (l_ = [(0, .int .i64 ((p : Nat) : Int)), (2, .int .i64 0), (3, .int .i64 ((2 ^ i : Nat) : Int)), (4, .int .i64 ((i : Nat) : Int))]) ∧ (i ≤ p) ∧ (Kp No w wr)) (p - 0) [(0, .int .i64 ((p : Nat) : Int)), (2, .int .i64 0), (3, .int .i64 ((2 ^ 0 : Nat) : Int)), (4, .int .i64 0)] (Sub.cons rfl (Sub.cons rfl (Sub.cons rfl (Sub.cons rfl (Sub.nil _))))) ⟨0, rfl, rfl, by omega, kk0⟩ ?_
  rintro _ _ w1 ⟨i, rfl, rfl, hi, kk1⟩
  have h2 := pow_le i 20 _ (by omega) rfl
  refine C_seq (fun K5 hK5 => ?_)
  refine C_seq (fun K6 hK6 => ?_)
  refine C_region ?_
  refine R_pu (pu_move rfl) rfl ?_
  refine R_pu (pu_move rfl) rfl ?_
  refine R_pu (pu_lss (p := i < p) rfl rfl (by omega)) rfl ?_
  refine R_nil ?_
  refine X_then hK6 ?_
  refine C_dec rfl (fun h7 => ?_) (fun h7 => ?_)
  · refine C_skip ?_
    refine X_then hK5 ?_
    refine C_seq (fun K7 hK7 => ?_)
    refine C_block ?_
    refine C_region ?_
    refine R_pu (pu_move rfl) rfl ?_
    refine R_pu (pu_mul (z := ((2 * (2 ^ i) : Nat) : Int)) rfl rfl (by rw [IntKind.wrap_i64]; omega)) rfl ?_
    refine R_pu (pu_assign rfl) rfl ?_
    refine R_nil ?_
    refine X_in_normal ?_
    refine X_then hK7 ?_
    refine C_region ?_
    refine R_pu (pu_move rfl) rfl ?_
    refine R_pu (pu_add (z := ((i + 1 : Nat) : Int)) rfl rfl (by rw [IntKind.wrap_i64]; omega)) rfl ?_
    refine R_pu (pu_assign rfl) rfl ?_
    refine R_nil ?_
    refine X_round (p - (i + 1)) [(0, .int .i64 ((p : Nat) : Int)), (2, .int .i64 0), (3, .int .i64 ((2 ^ (i + 1) : Nat) : Int)), (4, .int .i64 (((i + 1) : Nat) : Int))] (by omega) (Sub.cons rfl (Sub.cons rfl (Sub.consE rfl (by rw [Nat.pow_succ, Nat.mul_comm]) (Sub.cons rfl (Sub.nil _))))) ⟨i + 1, rfl, rfl, by omega, kk1⟩
  · refine C_exit ?_
    refine X_then_exit (X_then_exit (X_in_eq ?_))
    refine X_then hK3 ?_
    refine C_seq (fun K8 hK8 => ?_)
    refine C_region ?_
    refine R_pu (pu_move rfl) rfl ?_
    refine R_pu (pu_assign rfl) rfl ?_
    refine R_nil ?_
    refine X_then hK8 ?_
    refine C_ret ?_
    exact X_ret1 (.inl rfl) rfl rfl ⟨by rw [show p = i by omega], kk1⟩
set_option maxRecDepth 100000 in
set_option maxHeartbeats 2000000 in
theorem ref_plus (x y : Nat) (hx : x < 65536) (hy : y < 65536) (w : World)  : Ret Tryd.prog 70 #[.int .i64 ((x : Nat) : Int), .int .i64 ((y : Nat) : Int)] w (fun v w' => v = .int .i64 ((x ^^^ y : Nat) : Int) ∧ Kp No w w') := by
  have kk0 := Kp.refl No w
  refine enter (n := 23) [.int .i64 ((x : Nat) : Int), .int .i64 ((y : Nat) : Int)] Tryd.func70 rfl rfl rfl ?_
  show Cw _ _ _ _ [(0, .int .i64 ((x : Nat) : Int)), (1, .int .i64 ((y : Nat) : Int))] _
  refine C_seq (fun K1 hK1 => ?_)
  refine C_region ?_
  refine R_pu (pu_assign rfl) rfl ?_
  refine R_nil ?_
  refine X_then hK1 ?_
  refine C_seq (fun K2 hK2 => ?_)
  refine C_region ?_
  refine R_pu (pu_assign rfl) rfl ?_
  refine R_nil ?_
  refine X_then hK2 ?_
  refine C_seq (fun K3 hK3 => ?_)
  refine C_seq (fun K4 hK4 => ?_)
  refine C_region ?_
  refine R_pu (pu_assign rfl) rfl ?_
  refine R_nil ?_
  refine X_then hK4 ?_
  refine C_block ?_
  refine C_loop (fun m_ l_ wr => ∃ i : Nat, (m_ = 16 - i) ∧ (l_ = [(0, .int .i64 ((x : Nat) : Int)), (1, .int .i64 ((y : Nat) : Int)), (4, .int .i64 0), (5, .int .i64 (((x ^^^ y) % 2 ^ i : Nat) : Int)), (6, .int .i64 ((i : Nat) : Int))]) ∧ (i ≤ 16) ∧ (Kp No w wr)) (16 - 0) [(0, .int .i64 ((x : Nat) : Int)), (1, .int .i64 ((y : Nat) : Int)), (4, .int .i64 0), (5, .int .i64 (((x ^^^ y) % 2 ^ 0 : Nat) : Int)), (6, .int .i64 0)] (Sub.cons rfl (Sub.cons rfl (Sub.cons rfl (Sub.consE rfl (by rw [Nat.pow_zero, Nat.mod_one]; rfl) (Sub.cons rfl (Sub.nil _)))))) ⟨0, rfl, rfl, by omega, kk0⟩ ?_
  rintro _ _ w1 ⟨i, rfl, rfl, hi, kk1⟩
  have h2 := pow_le i 16 _ (by omega) rfl; have h3 := Nat.mod_lt (x ^^^ y) (Nat.two_pow_pos i)
  refine C_seq (fun K5 hK5 => ?_)
  refine C_seq (fun K6 hK6 => ?_)
  refine C_region ?_
  refine R_pu (pu_move rfl) rfl ?_
  refine R_pu (pu_lss (p := i < 16) rfl rfl (by omega)) rfl ?_
  refine R_nil ?_
  refine X_then hK6 ?_
  refine C_dec rfl (fun h8 => ?_) (fun h8 => ?_)
  · refine C_skip ?_
    refine X_then hK5 ?_
    refine C_seq (fun K7 hK7 => ?_)
    refine C_block ?_
    refine C_seq (fun K8 hK8 => ?_)
    refine C_region ?_
    refine R_pu (pu_move rfl) rfl ?_
    refine R_pu (pu_move rfl) rfl ?_
    refine R_lo (lo_call (by kernel_rfl) rfl (ref_bit x i (by omega) (by omega) _)) rfl ?_
    rintro _ w2 ⟨rfl, k2⟩
    have kk2 := kk1.then_ k2
    refine R_pu (pu_move rfl) rfl ?_
    refine R_pu (pu_move rfl) rfl ?_
    refine R_lo (lo_call (by kernel_rfl) rfl (ref_bit y i (by omega) (by omega) _)) rfl ?_
    rintro _ w3 ⟨rfl, k3⟩
    have kk3 := kk2.then_ k3
    refine R_pu (pu_neqb Tryd.underlying4 rfl rfl) rfl ?_
    refine R_nil ?_
    refine X_then hK8 ?_
    refine C_cond rfl (fun h17 => ?_) (fun h17 => ?_)
    · refine C_region ?_
      refine R_pu (pu_move rfl) rfl ?_
      refine R_pu (pu_move rfl) rfl ?_
      refine R_lo (lo_call (by kernel_rfl) rfl (ref_power i (by omega) _)) rfl ?_
      rintro _ w4 ⟨rfl, k4⟩
      have kk4 := kk3.then_ k4
      refine R_pu (pu_add (z := ((((x ^^^ y) % 2 ^ i) + (2 ^ i) : Nat) : Int)) rfl rfl (by rw [IntKind.wrap_i64]; omega)) rfl ?_
      refine R_pu (pu_assign rfl) rfl ?_
      refine R_nil ?_
      refine X_in_normal ?_
      refine X_then hK7 ?_
      refine C_region ?_
      refine R_pu (pu_move rfl) rfl ?_
      refine R_pu (pu_add (z := ((i + 1 : Nat) : Int)) rfl rfl (by rw [IntKind.wrap_i64]; omega)) rfl ?_
      refine R_pu (pu_assign rfl) rfl ?_
      refine R_nil ?_
      refine X_round (16 - (i + 1)) [(0, .int .i64 ((x : Nat) : Int)), (1, .int .i64 ((y : Nat) : Int)), (4, .int .i64 0), (5, .int .i64 (((x ^^^ y) % 2 ^ (i + 1) : Nat) : Int)), (6, .int .i64 (((i + 1) : Nat) : Int))] (by omega) (Sub.cons rfl (Sub.cons rfl (Sub.cons rfl (Sub.consE rfl (by rw [plus_ne h17]) (Sub.cons rfl (Sub.nil _)))))) ⟨i + 1, rfl, rfl, by omega, kk4⟩
    · refine C_skip ?_
      refine X_in_normal ?_
      refine X_then hK7 ?_
      refine C_region ?_
      refine R_pu (pu_move rfl) rfl ?_
      refine R_pu (pu_add (z := ((i + 1 : Nat) : Int)) rfl rfl (by rw [IntKind.wrap_i64]; omega)) rfl ?_
      refine R_pu (pu_assign rfl) rfl ?_
      refine R_nil ?_
      refine X_round (16 - (i + 1)) [(0, .int .i64 ((x : Nat) : Int)), (1, .int .i64 ((y : Nat) : Int)), (4, .int .i64 0), (5, .int .i64 (((x ^^^ y) % 2 ^ (i + 1) : Nat) : Int)), (6, .int .i64 (((i + 1) : Nat) : Int))] (by omega) (Sub.cons rfl (Sub.cons rfl (Sub.cons rfl (Sub.consE rfl (by rw [plus_eq h17]) (Sub.cons rfl (Sub.nil _)))))) ⟨i + 1, rfl, rfl, by omega, kk3⟩
  · refine C_exit ?_
    refine X_then_exit (X_then_exit (X_in_eq ?_))
    refine X_then hK3 ?_
    refine C_seq (fun K9 hK9 => ?_)
    refine C_region ?_
    refine R_pu (pu_move rfl) rfl ?_
    refine R_pu (pu_assign rfl) rfl ?_
    refine R_nil ?_
    refine X_then hK9 ?_
    refine C_ret ?_
    exact X_ret1 (.inl rfl) rfl rfl ⟨by rw [show i = 16 by omega, plus_all hx hy], kk1⟩
set_option maxRecDepth 100000 in
set_option maxHeartbeats 2000000 in
theorem ref_mul (x y : Nat) (hx : x < 256) (hy : y < 256) (w : World)  : Ret Tryd.prog 57 #[.int .u8 ((x : Nat) : Int), .int .u8 ((y : Nat) : Int)] w (fun v w' => v = .int .u8 ((gmul x y : Nat) : Int) ∧ Kp No w w') := by
  have kk0 := Kp.refl No w
  refine enter (n := 38) [.int .u8 ((x : Nat) : Int), .int .u8 ((y : Nat) : Int)] Tryd.func57 rfl rfl rfl ?_
  show Cw _ _ _ _ [(0, .int .u8 ((x : Nat) : Int)), (1, .int .u8 ((y : Nat) : Int))] _
  refine C_seq (fun K1 hK1 => ?_)
  refine C_region ?_
  refine R_pu (pu_assign rfl) rfl ?_
  refine R_nil ?_
  refine X_then hK1 ?_
  refine C_seq (fun K2 hK2 => ?_)
  refine C_region ?_
  refine R_pu (pu_assign rfl) rfl ?_
  refine R_nil ?_
  refine X_then hK2 ?_
  refine C_seq (fun K3 hK3 => ?_)
  refine C_seq (fun K4 hK4 => ?_)
  refine C_region ?_
  refine R_pu (pu_assign rfl) rfl ?_
  refine R_nil ?_
  refine X_then hK4 ?_
  refine C_block ?_
  refine C_loop (fun m_ l_ wr => ∃ i : Nat, (m_ = 8 - i) ∧ (l_ = [(0, .int .u8 ((x : Nat) : Int)), (1, .int .u8 ((y : Nat) : Int)), (4, .int .u8 0), (5, .int .i64 ((mulA x y i : Nat) : Int)), (6, .int .i64 ((i : Nat) : Int))]) ∧ (i ≤ 8) ∧ (Kp No w wr)) (8 - 0) [(0, .int .u8 ((x : Nat) : Int)), (1, .int .u8 ((y : Nat) : Int)), (4, .int .u8 0), (5, .int .i64 ((mulA x y 0 : Nat) : Int)), (6, .int .i64 0)] (Sub.cons rfl (Sub.cons rfl (Sub.cons rfl (Sub.cons rfl (Sub.cons rfl (Sub.nil _)))))) ⟨0, rfl, rfl, by omega, kk0⟩ ?_
  rintro _ _ w1 ⟨i, rfl, rfl, hi, kk1⟩
  have h2 := pow_le i 8 _ (by omega) rfl; have h3 := mulA_lt (b := y) hx i hi; have h4 : x * 2 ^ i < 65536 := Nat.lt_of_le_of_lt (Nat.mul_le_mul (Nat.le_of_lt_succ hx) h2) (by decide)
  refine C_seq (fun K5 hK5 => ?_)
  refine C_seq (fun K6 hK6 => ?_)
  refine C_region ?_
  refine R_pu (pu_move rfl) rfl ?_
  refine R_pu (pu_lss (p := i < 8) rfl rfl (by omega)) rfl ?_
  refine R_nil ?_
  refine X_then hK6 ?_
  refine C_dec rfl (fun h9 => ?_) (fun h9 => ?_)
  · refine C_skip ?_
    refine X_then hK5 ?_
    refine C_seq (fun K7 hK7 => ?_)
    refine C_block ?_
    refine C_seq (fun K8 hK8 => ?_)
    refine C_region ?_
    refine R_pu (pu_move rfl) rfl ?_
    refine R_pu (pu_conv (z := ((y : Nat) : Int)) Tryd.underlying5 Tryd.underlying3 rfl (by have : y < 256 := hy; rw [IntKind.wrap_i64]; omega)) rfl ?_
    refine R_pu (pu_move rfl) rfl ?_
    refine R_lo (lo_call (by kernel_rfl) rfl (ref_bit y i (by omega) (by omega) _)) rfl ?_
    rintro _ w2 ⟨rfl, k2⟩
    have kk2 := kk1.then_ k2
    refine R_nil ?_
    refine X_then hK8 ?_
    refine C_cond rfl (fun h15 => ?_) (fun h15 => ?_)
    · refine C_region ?_
      refine R_pu (pu_move rfl) rfl ?_
      refine R_pu (pu_move rfl) rfl ?_
      refine R_pu (pu_conv (z := ((x : Nat) : Int)) Tryd.underlying5 Tryd.underlying3 rfl (by have : x < 256 := hx; rw [IntKind.wrap_i64]; omega)) rfl ?_
      refine R_pu (pu_move rfl) rfl ?_
      refine R_lo (lo_call (by kernel_rfl) rfl (ref_power i (by omega) _)) rfl ?_
      rintro _ w3 ⟨rfl, k3⟩
      have kk3 := kk2.then_ k3
      refine R_pu (pu_mul (z := ((x * (2 ^ i) : Nat) : Int)) rfl rfl (by rw [IntKind.wrap_i64]; omega)) rfl ?_
      refine R_lo (lo_call (by kernel_rfl) rfl (ref_plus (mulA x y i) (x * (2 ^ i)) (by omega) (by omega) _)) rfl ?_
      rintro _ w4 ⟨rfl, k4⟩
      have kk4 := kk3.then_ k4
      refine R_pu (pu_assign rfl) rfl ?_
      refine R_nil ?_
      refine X_in_normal ?_
      refine X_then hK7 ?_
      refine C_region ?_
      refine R_pu (pu_move rfl) rfl ?_
      refine R_pu (pu_add (z := ((i + 1 : Nat) : Int)) rfl rfl (by rw [IntKind.wrap_i64]; omega)) rfl ?_
      refine R_pu (pu_assign rfl) rfl ?_
      refine R_nil ?_
      refine X_round (8 - (i + 1)) [(0, .int .u8 ((x : Nat) : Int)), (1, .int .u8 ((y : Nat) : Int)), (4, .int .u8 0), (5, .int .i64 ((mulA x y (i + 1) : Nat) : Int)), (6, .int .i64 (((i + 1) : Nat) : Int))] (by omega) (Sub.cons rfl (Sub.cons rfl (Sub.cons rfl (Sub.consE rfl (by rw [mulA_yes h15]) (Sub.cons rfl (Sub.nil _)))))) ⟨i + 1, rfl, rfl, by omega, kk4⟩
    · refine C_skip ?_
      refine X_in_normal ?_
      refine X_then hK7 ?_
      refine C_region ?_
      refine R_pu (pu_move rfl) rfl ?_
      refine R_pu (pu_add (z := ((i + 1 : Nat) : Int)) rfl rfl (by rw [IntKind.wrap_i64]; omega)) rfl ?_
      refine R_pu (pu_assign rfl) rfl ?_
      refine R_nil ?_
      refine X_round (8 - (i + 1)) [(0, .int .u8 ((x : Nat) : Int)), (1, .int .u8 ((y : Nat) : Int)), (4, .int .u8 0), (5, .int .i64 ((mulA x y (i + 1) : Nat) : Int)), (6, .int .i64 (((i + 1) : Nat) : Int))] (by omega) (Sub.cons rfl (Sub.cons rfl (Sub.cons rfl (Sub.consE rfl (by rw [mulA_no h15]) (Sub.cons rfl (Sub.nil _)))))) ⟨i + 1, rfl, rfl, by omega, kk2⟩
  · refine C_exit ?_
    refine X_then_exit (X_then_exit (X_in_eq ?_))
    refine X_then hK3 ?_
    refine C_seq (fun K9 hK9 => ?_)
    refine C_seq (fun K10 hK10 => ?_)
    refine C_region ?_
    refine R_pu (pu_assign rfl) rfl ?_
    refine R_nil ?_
    refine X_then hK10 ?_
    refine C_block ?_
    refine C_loop (fun m_ l_ wr => ∃ n : Nat, (m_ = 7 - n) ∧ (l_ = [(4, .int .u8 0), (5, .int .i64 ((redN (mulA x y 8) n : Nat) : Int)), (7, .int .i64 ((14 - n : Nat) : Int))]) ∧ (n ≤ 7) ∧ (Kp No w wr)) (7 - 0) [(4, .int .u8 0), (5, .int .i64 ((redN (mulA x y 8) 0 : Nat) : Int)), (7, .int .i64 ((14 - 0 : Nat) : Int))] (Sub.cons rfl (Sub.consE rfl (by rw [show i = 8 by omega]; rfl) (Sub.cons rfl (Sub.nil _)))) ⟨0, rfl, rfl, by omega, kk1⟩ ?_
    rintro _ _ w5 ⟨n, rfl, rfl, hn, kk5⟩
    have h2 := pow_le (14 - n - 8) 6 _ (by omega) rfl; have h3 := redN_lt (mulA_lt (b := y) hx 8 (by decide)) n
    refine C_seq (fun K11 hK11 => ?_)
    refine C_seq (fun K12 hK12 => ?_)
    refine C_region ?_
    refine R_pu (pu_move rfl) rfl ?_
    refine R_pu (pu_geq (p := (14 - n) ≥ 8) rfl rfl (by omega)) rfl ?_
    refine R_nil ?_
    refine X_then hK12 ?_
    refine C_dec rfl (fun h24 => ?_) (fun h24 => ?_)
    · refine C_skip ?_
      refine X_then hK11 ?_
      refine C_seq (fun K13 hK13 => ?_)
      refine C_block ?_
      refine C_seq (fun K14 hK14 => ?_)
      refine C_region ?_
      refine R_pu (pu_move rfl) rfl ?_
      refine R_pu (pu_move rfl) rfl ?_
      refine R_lo (lo_call (by kernel_rfl) rfl (ref_bit (redN (mulA x y 8) n) (14 - n) (by omega) (by omega) _)) rfl ?_
      rintro _ w6 ⟨rfl, k6⟩
      have kk6 := kk5.then_ k6
      refine R_nil ?_
      refine X_then hK14 ?_
      refine C_cond rfl (fun h29 => ?_) (fun h29 => ?_)
      · refine C_region ?_
        refine R_pu (pu_move rfl) rfl ?_
        refine R_pu (pu_move rfl) rfl ?_
        refine R_pu (pu_sub (z := (((14 - n) - 8 : Nat) : Int)) rfl rfl (by rw [IntKind.wrap_i64]; omega)) rfl ?_
        refine R_lo (lo_call (by kernel_rfl) rfl (ref_power ((14 - n) - 8) (by omega) _)) rfl ?_
        rintro _ w7 ⟨rfl, k7⟩
        have kk7 := kk6.then_ k7
        refine R_pu (pu_mul (z := ((283 * (2 ^ ((14 - n) - 8)) : Nat) : Int)) rfl rfl (by rw [IntKind.wrap_i64]; omega)) rfl ?_
        refine R_lo (lo_call (by kernel_rfl) rfl (ref_plus (redN (mulA x y 8) n) (283 * (2 ^ ((14 - n) - 8))) (by omega) (by omega) _)) rfl ?_
        rintro _ w8 ⟨rfl, k8⟩
        have kk8 := kk7.then_ k8
        refine R_pu (pu_assign rfl) rfl ?_
        refine R_nil ?_
        refine X_in_normal ?_
        refine X_then hK13 ?_
        refine C_region ?_
        refine R_pu (pu_move rfl) rfl ?_
        refine R_pu (pu_sub (z := (((14 - n) - 1 : Nat) : Int)) rfl rfl (by rw [IntKind.wrap_i64]; omega)) rfl ?_
        refine R_pu (pu_assign rfl) rfl ?_
        refine R_nil ?_
        refine X_round (7 - (n + 1)) [(4, .int .u8 0), (5, .int .i64 ((redN (mulA x y 8) (n + 1) : Nat) : Int)), (7, .int .i64 ((14 - (n + 1) : Nat) : Int))] (by omega) (Sub.cons rfl (Sub.consE rfl (by rw [red_yes h29]) (Sub.consE rfl (by rw [show 14 - n - 1 = 14 - (n + 1) by omega]) (Sub.nil _)))) ⟨n + 1, rfl, rfl, by omega, kk8⟩
      · refine C_skip ?_
        refine X_in_normal ?_
        refine X_then hK13 ?_
        refine C_region ?_
        refine R_pu (pu_move rfl) rfl ?_
        refine R_pu (pu_sub (z := (((14 - n) - 1 : Nat) : Int)) rfl rfl (by rw [IntKind.wrap_i64]; omega)) rfl ?_
        refine R_pu (pu_assign rfl) rfl ?_
        refine R_nil ?_
        refine X_round (7 - (n + 1)) [(4, .int .u8 0), (5, .int .i64 ((redN (mulA x y 8) (n + 1) : Nat) : Int)), (7, .int .i64 ((14 - (n + 1) : Nat) : Int))] (by omega) (Sub.cons rfl (Sub.consE rfl (by rw [red_no h29]) (Sub.consE rfl (by rw [show 14 - n - 1 = 14 - (n + 1) by omega]) (Sub.nil _)))) ⟨n + 1, rfl, rfl, by omega, kk6⟩
    · refine C_exit ?_
      refine X_then_exit (X_then_exit (X_in_eq ?_))
      refine X_then hK9 ?_
      refine C_seq (fun K15 hK15 => ?_)
      refine C_region ?_
      refine R_pu (pu_move rfl) rfl ?_
      refine R_pu (pu_conv (z := (((redN (mulA x y 8) n) % 256 : Nat) : Int)) Tryd.underlying3 Tryd.underlying5 rfl (by rw [IntKind.wrap_u8]; omega)) rfl ?_
      refine R_pu (pu_assign rfl) rfl ?_
      refine R_nil ?_
      refine X_then hK15 ?_
      refine C_ret ?_
      exact X_ret1 (.inl rfl) rfl rfl ⟨by rw [show n = 7 by omega, mul_all hx hy], kk5⟩
set_option maxRecDepth 100000 in
set_option maxHeartbeats 2000000 in
theorem ref_inv (x : Nat) (hx : x < 256) (w : World)  : Ret Tryd.prog 69 #[.int .u8 ((x : Nat) : Int)] w (fun v w' => v = .int .u8 ((iv x : Nat) : Int) ∧ Kp No w w') := by
  have kk0 := Kp.refl No w
  refine enter (n := 15) [.int .u8 ((x : Nat) : Int)] Tryd.func69 rfl rfl rfl ?_
  show Cw _ _ _ _ [(0, .int .u8 ((x : Nat) : Int))] _
  refine C_seq (fun K1 hK1 => ?_)
  refine C_region ?_
  refine R_pu (pu_assign rfl) rfl ?_
  refine R_nil ?_
  refine X_then hK1 ?_
  refine C_seq (fun K2 hK2 => ?_)
  refine C_seq (fun K3 hK3 => ?_)
  refine C_region ?_
  refine R_pu (pu_assign rfl) rfl ?_
  refine R_nil ?_
  refine X_then hK3 ?_
  refine C_block ?_
  refine C_loop (fun m_ l_ wr => ∃ u : Nat, (m_ = 256 - u) ∧ (l_ = [(0, .int .u8 ((x : Nat) : Int)), (3, .int .i64 ((u : Nat) : Int))]) ∧ (1 ≤ u ∧ u ≤ 256) ∧ (∀ t, 1 ≤ t → t < u → gmul x t ≠ 1) ∧ (Kp No w wr)) (256 - 1) [(0, .int .u8 ((x : Nat) : Int)), (3, .int .i64 1)] (Sub.cons rfl (Sub.cons rfl (Sub.nil _))) ⟨1, rfl, rfl, ⟨by omega, by omega⟩, (fun t h1 h2 => by omega), kk0⟩ ?_
  rintro _ _ w1 ⟨u, rfl, rfl, hu, hn, kk1⟩
  refine C_seq (fun K4 hK4 => ?_)
  refine C_seq (fun K5 hK5 => ?_)
  refine C_region ?_
  refine R_pu (pu_move rfl) rfl ?_
  refine R_pu (pu_lss (p := u < 256) rfl rfl (by omega)) rfl ?_
  refine R_nil ?_
  refine X_then hK5 ?_
  refine C_dec rfl (fun h5 => ?_) (fun h5 => ?_)
  · refine C_skip ?_
    refine X_then hK4 ?_
    refine C_seq (fun K6 hK6 => ?_)
    refine C_block ?_
    refine C_seq (fun K7 hK7 => ?_)
    refine C_region ?_
    refine R_pu (pu_move rfl) rfl ?_
    refine R_pu (pu_move rfl) rfl ?_
    refine R_pu (pu_conv (z := ((u : Nat) : Int)) Tryd.underlying3 Tryd.underlying5 rfl (by rw [IntKind.wrap_u8]; omega)) rfl ?_
    refine R_lo (lo_call (by kernel_rfl) rfl (ref_mul x u hx (by omega) _)) rfl ?_
    rintro _ w2 ⟨rfl, k2⟩
    have kk2 := kk1.then_ k2
    refine R_pu (pu_eql (p := (gmul x u) = 1) rfl rfl (by omega)) rfl ?_
    refine R_nil ?_
    refine X_then hK7 ?_
    refine C_dec rfl (fun h12 => ?_) (fun h12 => ?_)
    · refine C_seq (fun K8 hK8 => ?_)
      refine C_region ?_
      refine R_pu (pu_move rfl) rfl ?_
      refine R_pu (pu_conv (z := ((u : Nat) : Int)) Tryd.underlying3 Tryd.underlying5 rfl (by rw [IntKind.wrap_u8]; omega)) rfl ?_
      refine R_pu (pu_assign rfl) rfl ?_
      refine R_nil ?_
      refine X_then hK8 ?_
      refine C_ret ?_
      refine X_in_ret (X_then_ret (X_then_ret (X_in_ret (X_then_ret ?_))))
      exact X_ret1 (.inl rfl) rfl rfl ⟨by rw [← iv_eq hx (by omega) h12], kk2⟩
    · refine C_skip ?_
      refine X_in_normal ?_
      refine X_then hK6 ?_
      refine C_region ?_
      refine R_pu (pu_move rfl) rfl ?_
      refine R_pu (pu_add (z := ((u + 1 : Nat) : Int)) rfl rfl (by rw [IntKind.wrap_i64]; omega)) rfl ?_
      refine R_pu (pu_assign rfl) rfl ?_
      refine R_nil ?_
      refine X_round (256 - (u + 1)) [(0, .int .u8 ((x : Nat) : Int)), (3, .int .i64 (((u + 1) : Nat) : Int))] (by omega) (Sub.cons rfl (Sub.cons rfl (Sub.nil _))) ⟨u + 1, rfl, rfl, ⟨by omega, by omega⟩, (none_succ hn h12), kk2⟩
  · refine C_exit ?_
    refine X_then_exit (X_then_exit (X_in_eq ?_))
    refine X_then hK2 ?_
    refine C_seq (fun K9 hK9 => ?_)
    refine C_region ?_
    refine R_pu (pu_assign rfl) rfl ?_
    refine R_nil ?_
    refine X_then hK9 ?_
    refine C_ret ?_
    exact X_ret1 (.inl rfl) rfl rfl ⟨by rw [iv_none hx (fun t h1 h2 => hn t h1 (by omega))]; rfl, kk1⟩
end Go.Proofs.YtjbdimfpjbmggaaDoor
