/- Walks of bursaryref01: bits, powers, sums, products, inverses. -/
import Derived.Test.YtjbdimfpjbmggaaGreatDoorLa
import Derived.Test.YtjbdimfpjbmggaaGreatDoorLo
set_option linter.unusedVariables false
set_option linter.unusedSimpArgs false
namespace Go.Proofs.YtjbdimfpjbmggaaGreatDoor
open Go.RowKit Gm
set_option maxRecDepth 100000 in
set_option maxHeartbeats 2000000 in
theorem ref_power (p : Nat) (hp : p ≤ 20) (w : World)  : Ret Tryz.prog 103 #[.int .i64 ((p : Nat) : Int)] w (fun v w' => v = .int .i64 ((2 ^ p : Nat) : Int) ∧ Kp No w w') := by
  have kk0 := Kp.refl No w
  refine enter (n := 13) [.int .i64 ((p : Nat) : Int)] Tryz.func103 rfl rfl rfl ?_
  show Cw _ _ _ _ [(0, .int .i64 ((p : Nat) : Int))] _
  refine C_seq (fun K1 hK1 => ?_)
  refine C_region ?_
  refine R_pu (pu_assign rfl) rfl ?_
  refine R_nil ?_
  refine X_then hK1 ?_
  refine C_seq (fun K2 hK2 => ?_)
  refine C_region ?_
  refine R_pu (pu_assign rfl) rfl ?_
  refine R_nil ?_
  refine X_then hK2 ?_
  refine C_seq (fun K3 hK3 => ?_)
  refine C_seq (fun K4 hK4 => ?_)
  refine C_region ?_
  refine R_pu (pu_assign rfl) rfl ?_
  refine R_nil ?_
  refine X_then hK4 ?_
  refine C_block ?_
  refine C_loop (fun m_ l_ wr => ∃ i : Nat, (m_ = p - i) ∧ (l_ = [(0, .int .i64 ((p : Nat) : Int)), (2, .int .i64 0), (3, .int .i64 ((2 ^ i : Nat) : Int)), (4, .int .i64 ((i : Nat) : Int))]) ∧ (i ≤ p) ∧ (Kp No w wr)) (p - 0) [(0, .int .i64 ((p : Nat) : Int)), (2, .int .i64 0), (3, .int .i64 ((2 ^ 0 : Nat) : Int)), (4, .int .i64 0)] (Sub.cons rfl (Sub.cons rfl (Sub.cons rfl (Sub.cons rfl (Sub.nil _))))) ⟨0, rfl, rfl, by omega, kk0⟩ ?_
  rintro _ _ w1 ⟨i, rfl, rfl, hi, kk1⟩
  have h2 := pow_le i 20 _ (by omega) rfl
  refine C_seq (fun K5 hK5 => ?_)
  refine C_seq (fun K6 hK6 => ?_)
  refine C_region ?_
  refine R_pu (pu_move rfl) rfl ?_
  refine R_pu (pu_move rfl) rfl ?_
  refine R_pu (pu_lss (p := i < p) rfl rfl (by omega)) rfl ?_
  refine R_nil ?_
  refine X_then hK6 ?_
  refine C_dec rfl (fun h7 => ?_) (fun h7 => ?_)
  · refine C_skip ?_
    refine X_then hK5 ?_
    refine C_seq (fun K7 hK7 => ?_)
    refine C_block ?_
    refine C_region ?_
    refine R_pu (pu_move rfl) rfl ?_
    refine R_pu (pu_mul (z := ((2 * (2 ^ i) : Nat) : Int)) rfl rfl (by rw [IntKind.wrap_i64]; omega)) rfl ?_
    refine R_pu (pu_assign rfl) rfl ?_
    refine R_nil ?_
    refine X_in_normal ?_
    refine X_then hK7 ?_
    refine C_region ?_
    refine R_pu (pu_move rfl) rfl ?_
    refine R_pu (pu_add (z := ((i + 1 : Nat) : Int)) rfl rfl (by rw [IntKind.wrap_i64]; omega)) rfl ?_
    refine R_pu (pu_assign rfl) rfl ?_
    refine R_nil ?_
    refine X_round (p - (i + 1)) [(0, .int .i64 ((p : Nat) : Int)), (2, .int .i64 0), (3, .int .i64 ((2 ^ (i + 1) : Nat) : Int)), (4, .int .i64 (((i + 1) : Nat) : Int))] (by omega) (Sub.cons rfl (Sub.cons rfl (Sub.consE rfl (by rw [Nat.pow_succ, Nat.mul_comm]) (Sub.cons rfl (Sub.nil _))))) ⟨i + 1, rfl, rfl, by omega, kk1⟩
  · refine C_exit ?_
    refine X_then_exit (X_then_exit (X_in_eq ?_))
    refine X_then hK3 ?_
    refine C_seq (fun K8 hK8 => ?_)
    refine C_region ?_
    refine R_pu (pu_move rfl) rfl ?_
    refine R_pu (pu_assign rfl) rfl ?_
    refine R_nil ?_
    refine X_then hK8 ?_
    refine C_ret ?_
    exact X_ret1 (.inl rfl) rfl rfl ⟨by rw [show p = i by omega], kk1⟩
end Go.Proofs.YtjbdimfpjbmggaaGreatDoor
