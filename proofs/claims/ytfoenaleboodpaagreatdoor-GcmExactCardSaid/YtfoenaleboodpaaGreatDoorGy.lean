/- Walks of gcm, whatever it is given, and of bursaryref11. -/
import Derived.Test.YtfoenaleboodpaaGreatDoorGx
import Derived.Test.YtfoenaleboodpaaGreatDoorGc
import Derived.Test.YtfoenaleboodpaaGreatDoorRa2
set_option linter.unusedVariables false
set_option linter.unusedSimpArgs false
namespace Go.Proofs.YtfoenaleboodpaaGreatDoor
open Go.RowKit Gm
set_option maxRecDepth 100000 in
set_option maxHeartbeats 2000000 in
theorem gcm_fits_nil (A : Option Addr) (N : List Nat) (c : Nat) (A3 : Option Addr) (D : List Nat) (c3 : Nat) (w : World)  : Ret Tryz.prog 13 #[.pointer none, .slice A (N.length) (c), .slice A3 (D.length) (c3)] w (fun v w' => v = .bool false ∧ Kp No w w') := by
  have kk0 := Kp.refl No w
  refine enter (n := 19) [.pointer none, .slice A (N.length) (c), .slice A3 (D.length) (c3)] Tryz.func13 rfl rfl rfl ?_
  show Cw _ _ _ _ [(0, .pointer none), (1, .slice A (N.length) (c)), (2, .slice A3 (D.length) (c3))] _
  refine C_seq (fun K1 hK1 => ?_)
  refine C_region ?_
  refine R_pu (pu_assign rfl) rfl ?_
  refine R_nil ?_
  refine X_then hK1 ?_
  refine C_seq (fun K2 hK2 => ?_)
  refine C_region ?_
  refine R_pu (pu_move rfl) rfl ?_
  refine R_pu (pu_neqpn (by kernel_rfl) rfl rfl) rfl ?_
  refine R_pu (pu_move rfl) rfl ?_
  refine R_gno rfl rfl rfl rfl ?_
  refine R_gno rfl rfl rfl rfl ?_
  refine R_gno rfl rfl rfl rfl ?_
  refine R_pu (pu_pickf rfl rfl) rfl ?_
  refine R_pu (pu_move rfl) rfl ?_
  refine R_gno rfl rfl rfl rfl ?_
  refine R_gno rfl rfl rfl rfl ?_
  refine R_gno rfl rfl rfl rfl ?_
  refine R_pu (pu_pickf rfl rfl) rfl ?_
  refine R_pu (pu_assign rfl) rfl ?_
  refine R_nil ?_
  refine X_then hK2 ?_
  refine C_ret ?_
  exact X_ret1 (.inl rfl) rfl rfl ⟨rfl, kk0⟩
set_option maxRecDepth 100000 in
set_option maxHeartbeats 2000000 in
theorem gcm_fits_f1 (p : Nat) (A : Option Addr) (N : List Nat) (c : Nat) (A3 : Option Addr) (D : List Nat) (c3 : Nat) (w : World) (h : ¬ N.length = 12) : Ret Tryz.prog 13 #[.pointer (some ⟨p, 0, none⟩), .slice A (N.length) (c), .slice A3 (D.length) (c3)] w (fun v w' => v = .bool false ∧ Kp No w w') := by
  have kk0 := Kp.refl No w
  refine enter (n := 19) [.pointer (some ⟨p, 0, none⟩), .slice A (N.length) (c), .slice A3 (D.length) (c3)] Tryz.func13 rfl rfl rfl ?_
  show Cw _ _ _ _ [(0, .pointer (some ⟨p, 0, none⟩)), (1, .slice A (N.length) (c)), (2, .slice A3 (D.length) (c3))] _
  refine C_seq (fun K1 hK1 => ?_)
  refine C_region ?_
  refine R_pu (pu_assign rfl) rfl ?_
  refine R_nil ?_
  refine X_then hK1 ?_
  refine C_seq (fun K2 hK2 => ?_)
  refine C_region ?_
  refine R_pu (pu_move rfl) rfl ?_
  refine R_pu (pu_neqpn (by kernel_rfl) rfl rfl) rfl ?_
  refine R_pu (pu_move rfl) rfl ?_
  refine R_gpu rfl rfl (pu_move rfl) rfl ?_
  refine R_gpu rfl rfl (pu_len Tryz.underlying22 rfl) rfl ?_
  refine R_gpu rfl rfl (pu_false (pu_eql (p := N.length = 12) rfl rfl (by omega)) h) rfl ?_
  refine R_pu (pu_pickt rfl rfl) rfl ?_
  refine R_pu (pu_move rfl) rfl ?_
  refine R_gno rfl rfl rfl rfl ?_
  refine R_gno rfl rfl rfl rfl ?_
  refine R_gno rfl rfl rfl rfl ?_
  refine R_pu (pu_pickf rfl rfl) rfl ?_
  refine R_pu (pu_assign rfl) rfl ?_
  refine R_nil ?_
  refine X_then hK2 ?_
  refine C_ret ?_
  exact X_ret1 (.inl rfl) rfl rfl ⟨rfl, kk0⟩
set_option maxRecDepth 100000 in
set_option maxHeartbeats 2000000 in
theorem gcm_fits_f2 (p : Nat) (A : Option Addr) (N : List Nat) (c : Nat) (A3 : Option Addr) (D : List Nat) (c3 : Nat) (w : World) (h : N.length = 12 ∧ ¬ D.length ≤ 2048) : Ret Tryz.prog 13 #[.pointer (some ⟨p, 0, none⟩), .slice A (N.length) (c), .slice A3 (D.length) (c3)] w (fun v w' => v = .bool false ∧ Kp No w w') := by
  have kk0 := Kp.refl No w
  refine enter (n := 19) [.pointer (some ⟨p, 0, none⟩), .slice A (N.length) (c), .slice A3 (D.length) (c3)] Tryz.func13 rfl rfl rfl ?_
  show Cw _ _ _ _ [(0, .pointer (some ⟨p, 0, none⟩)), (1, .slice A (N.length) (c)), (2, .slice A3 (D.length) (c3))] _
  refine C_seq (fun K1 hK1 => ?_)
  refine C_region ?_
  refine R_pu (pu_assign rfl) rfl ?_
  refine R_nil ?_
  refine X_then hK1 ?_
  refine C_seq (fun K2 hK2 => ?_)
  refine C_region ?_
  refine R_pu (pu_move rfl) rfl ?_
  refine R_pu (pu_neqpn (by kernel_rfl) rfl rfl) rfl ?_
  refine R_pu (pu_move rfl) rfl ?_
  refine R_gpu rfl rfl (pu_move rfl) rfl ?_
  refine R_gpu rfl rfl (pu_len Tryz.underlying22 rfl) rfl ?_
  refine R_gpu rfl rfl (pu_true (pu_eql (p := N.length = 12) rfl rfl (by omega)) h.1) rfl ?_
  refine R_pu (pu_pickt rfl rfl) rfl ?_
  refine R_pu (pu_move rfl) rfl ?_
  refine R_gpu rfl rfl (pu_move rfl) rfl ?_
  refine R_gpu rfl rfl (pu_len Tryz.underlying22 rfl) rfl ?_
  refine R_gpu rfl rfl (pu_false (pu_leq (p := D.length ≤ 2048) rfl rfl (by omega)) h.2) rfl ?_
  refine R_pu (pu_pickt rfl rfl) rfl ?_
  refine R_pu (pu_assign rfl) rfl ?_
  refine R_nil ?_
  refine X_then hK2 ?_
  refine C_ret ?_
  exact X_ret1 (.inl rfl) rfl rfl ⟨rfl, kk0⟩
theorem gcm_fits_f (p : Nat) (A : Option Addr) (N : List Nat) (c : Nat) (A3 : Option Addr) (D : List Nat) (c3 : Nat) (w : World) (h : ¬ (N.length = 12 ∧ D.length ≤ 2048)) : Ret Tryz.prog 13 #[.pointer (some ⟨p, 0, none⟩), .slice A (N.length) (c), .slice A3 (D.length) (c3)] w (fun v w' => v = .bool false ∧ Kp No w w') := by
  by_cases h1 : N.length = 12
  · exact gcm_fits_f2 p A N c A3 D c3 w ⟨h1, fun h2 => h ⟨h1, h2⟩⟩
  · exact gcm_fits_f1 p A N c A3 D c3 w h1
set_option maxRecDepth 100000 in
set_option maxHeartbeats 2000000 in
theorem gcm_seal_arg (p : Nat) (A : Option Addr) (N : List Nat) (c : Nat) (A2 : Option Addr) (m : List Nat) (c2 : Nat) (A3 : Option Addr) (D : List Nat) (c3 : Nat) (w : World) (HN : Bs w A N) (hcn : N.length ≤ c) (HM : Bs w A2 m) (hcm : m.length ≤ c2) (HD : Bs w A3 D) (hcd : D.length ≤ c3) (h : ¬ (N.length = 12 ∧ m.length ≤ 2048 ∧ D.length ≤ 2048)) : Ret Tryz.prog 5 #[.pointer (some ⟨p, 0, none⟩), .slice A (N.length) (c), .slice A2 (m.length) (c2), .slice A3 (D.length) (c3)] w (fun v w' => v = .tuple #[.slice none 0 0, errE 1] ∧ Kp No w w') := by
  have kk0 := Kp.refl No w
  refine enter (n := 35) [.pointer (some ⟨p, 0, none⟩), .slice A (N.length) (c), .slice A2 (m.length) (c2), .slice A3 (D.length) (c3)] Tryz.func5 rfl rfl rfl ?_
  show Cw _ _ _ _ [(0, .pointer (some ⟨p, 0, none⟩)), (1, .slice A (N.length) (c)), (2, .slice A2 (m.length) (c2)), (3, .slice A3 (D.length) (c3))] _
  refine C_seq (fun K1 hK1 => ?_)
  refine C_region ?_
  refine R_pu (pu_assign rfl) rfl ?_
  refine R_pu (pu_assign rfl) rfl ?_
  refine R_nil ?_
  refine X_then hK1 ?_
  by_cases hft : N.length = 12 ∧ D.length ≤ 2048
  · refine C_seq (fun K2 hK2 => ?_)
    refine C_seq (fun K3 hK3 => ?_)
    refine C_region ?_
    refine R_pu (pu_move rfl) rfl ?_
    refine R_pu (pu_move rfl) rfl ?_
    refine R_pu (pu_move rfl) rfl ?_
    refine R_lo (lo_call (by kernel_rfl) rfl (gcm_fits p A N c A3 D c3 _ hft)) rfl ?_
    rintro _ w1 ⟨rfl, k1⟩
    have kk1 := kk0.then_ k1
    refine R_pu (pu_not rfl) rfl ?_
    refine R_pu (pu_move rfl) rfl ?_
    refine R_gpu rfl rfl (pu_move rfl) rfl ?_
    refine R_gpu rfl rfl (pu_len Tryz.underlying22 rfl) rfl ?_
    refine R_gpu rfl rfl (pu_true (pu_gtr (p := m.length > 2048) rfl rfl (by omega)) (by omega)) rfl ?_
    refine R_pu (pu_pickf rfl rfl) rfl ?_
    refine R_nil ?_
    refine X_then hK3 ?_
    refine C_true rfl ?_
    refine C_seq (fun K4 hK4 => ?_)
    refine C_region ?_
    refine R_pu (pu_makeInterface Tryz.underlying48 rfl rfl) rfl ?_
    refine R_pu (pu_assign rfl) rfl ?_
    refine R_pu (pu_assign rfl) rfl ?_
    refine R_nil ?_
    refine X_then hK4 ?_
    refine C_ret ?_
    refine X_then_ret ?_
    exact X_ret2 (.inl rfl) rfl rfl rfl ⟨rfl, kk1⟩
  · refine C_seq (fun K5 hK5 => ?_)
    refine C_seq (fun K6 hK6 => ?_)
    refine C_region ?_
    refine R_pu (pu_move rfl) rfl ?_
    refine R_pu (pu_move rfl) rfl ?_
    refine R_pu (pu_move rfl) rfl ?_
    refine R_lo (lo_call (by kernel_rfl) rfl (gcm_fits_f p A N c A3 D c3 _ hft)) rfl ?_
    rintro _ w2 ⟨rfl, k2⟩
    have kk2 := kk0.then_ k2
    refine R_pu (pu_not rfl) rfl ?_
    refine R_pu (pu_move rfl) rfl ?_
    refine R_gno rfl rfl rfl rfl ?_
    refine R_gno rfl rfl rfl rfl ?_
    refine R_gno rfl rfl rfl rfl ?_
    refine R_pu (pu_pickt rfl rfl) rfl ?_
    refine R_nil ?_
    refine X_then hK6 ?_
    refine C_true rfl ?_
    refine C_seq (fun K7 hK7 => ?_)
    refine C_region ?_
    refine R_pu (pu_makeInterface Tryz.underlying48 rfl rfl) rfl ?_
    refine R_pu (pu_assign rfl) rfl ?_
    refine R_pu (pu_assign rfl) rfl ?_
    refine R_nil ?_
    refine X_then hK7 ?_
    refine C_ret ?_
    refine X_then_ret ?_
    exact X_ret2 (.inl rfl) rfl rfl rfl ⟨rfl, kk2⟩
set_option maxRecDepth 100000 in
set_option maxHeartbeats 2000000 in
theorem gcm_seal_nil (A : Option Addr) (N : List Nat) (c : Nat) (A2 : Option Addr) (m : List Nat) (c2 : Nat) (A3 : Option Addr) (D : List Nat) (c3 : Nat) (w : World) (HN : Bs w A N) (hcn : N.length ≤ c) (HM : Bs w A2 m) (hcm : m.length ≤ c2) (HD : Bs w A3 D) (hcd : D.length ≤ c3) : Ret Tryz.prog 5 #[.pointer none, .slice A (N.length) (c), .slice A2 (m.length) (c2), .slice A3 (D.length) (c3)] w (fun v w' => v = .tuple #[.slice none 0 0, errE 1] ∧ Kp No w w') := by
  have kk0 := Kp.refl No w
  refine enter (n := 35) [.pointer none, .slice A (N.length) (c), .slice A2 (m.length) (c2), .slice A3 (D.length) (c3)] Tryz.func5 rfl rfl rfl ?_
  show Cw _ _ _ _ [(0, .pointer none), (1, .slice A (N.length) (c)), (2, .slice A2 (m.length) (c2)), (3, .slice A3 (D.length) (c3))] _
  refine C_seq (fun K1 hK1 => ?_)
  refine C_region ?_
  refine R_pu (pu_assign rfl) rfl ?_
  refine R_pu (pu_assign rfl) rfl ?_
  refine R_nil ?_
  refine X_then hK1 ?_
  refine C_seq (fun K2 hK2 => ?_)
  refine C_seq (fun K3 hK3 => ?_)
  refine C_region ?_
  refine R_pu (pu_move rfl) rfl ?_
  refine R_pu (pu_move rfl) rfl ?_
  refine R_pu (pu_move rfl) rfl ?_
  refine R_lo (lo_call (by kernel_rfl) rfl (gcm_fits_nil A N c A3 D c3 _)) rfl ?_
  rintro _ w1 ⟨rfl, k1⟩
  have kk1 := kk0.then_ k1
  refine R_pu (pu_not rfl) rfl ?_
  refine R_pu (pu_move rfl) rfl ?_
  refine R_gno rfl rfl rfl rfl ?_
  refine R_gno rfl rfl rfl rfl ?_
  refine R_gno rfl rfl rfl rfl ?_
  refine R_pu (pu_pickt rfl rfl) rfl ?_
  refine R_nil ?_
  refine X_then hK3 ?_
  refine C_true rfl ?_
  refine C_seq (fun K4 hK4 => ?_)
  refine C_region ?_
  refine R_pu (pu_makeInterface Tryz.underlying48 rfl rfl) rfl ?_
  refine R_pu (pu_assign rfl) rfl ?_
  refine R_pu (pu_assign rfl) rfl ?_
  refine R_nil ?_
  refine X_then hK4 ?_
  refine C_ret ?_
  refine X_then_ret ?_
  exact X_ret2 (.inl rfl) rfl rfl rfl ⟨rfl, kk1⟩
set_option maxRecDepth 100000 in
set_option maxHeartbeats 2000000 in
theorem gcm_open_arg (p : Nat) (A : Option Addr) (N : List Nat) (c : Nat) (A2 : Option Addr) (m : List Nat) (c2 : Nat) (A3 : Option Addr) (D : List Nat) (c3 : Nat) (w : World) (HN : Bs w A N) (hcn : N.length ≤ c) (HM : Bs w A2 m) (hcm : m.length ≤ c2) (HD : Bs w A3 D) (hcd : D.length ≤ c3) (h : ¬ (N.length = 12 ∧ m.length ≤ 2064 ∧ D.length ≤ 2048)) : Ret Tryz.prog 6 #[.pointer (some ⟨p, 0, none⟩), .slice A (N.length) (c), .slice A2 (m.length) (c2), .slice A3 (D.length) (c3)] w (fun v w' => v = .tuple #[.slice none 0 0, errE 1] ∧ Kp No w w') := by
  have kk0 := Kp.refl No w
  refine enter (n := 65) [.pointer (some ⟨p, 0, none⟩), .slice A (N.length) (c), .slice A2 (m.length) (c2), .slice A3 (D.length) (c3)] Tryz.func6 rfl rfl rfl ?_
  show Cw _ _ _ _ [(0, .pointer (some ⟨p, 0, none⟩)), (1, .slice A (N.length) (c)), (2, .slice A2 (m.length) (c2)), (3, .slice A3 (D.length) (c3))] _
  refine C_seq (fun K1 hK1 => ?_)
  refine C_region ?_
  refine R_pu (pu_assign rfl) rfl ?_
  refine R_pu (pu_assign rfl) rfl ?_
  refine R_nil ?_
  refine X_then hK1 ?_
  by_cases hft : N.length = 12 ∧ D.length ≤ 2048
  · refine C_seq (fun K2 hK2 => ?_)
    refine C_seq (fun K3 hK3 => ?_)
    refine C_region ?_
    refine R_pu (pu_move rfl) rfl ?_
    refine R_pu (pu_move rfl) rfl ?_
    refine R_pu (pu_move rfl) rfl ?_
    refine R_lo (lo_call (by kernel_rfl) rfl (gcm_fits p A N c A3 D c3 _ hft)) rfl ?_
    rintro _ w1 ⟨rfl, k1⟩
    have kk1 := kk0.then_ k1
    refine R_pu (pu_not rfl) rfl ?_
    refine R_pu (pu_move rfl) rfl ?_
    refine R_gpu rfl rfl (pu_move rfl) rfl ?_
    refine R_gpu rfl rfl (pu_len Tryz.underlying22 rfl) rfl ?_
    refine R_gpu rfl rfl (pu_true (pu_gtr (p := m.length > 2064) rfl rfl (by omega)) (by omega)) rfl ?_
    refine R_pu (pu_pickf rfl rfl) rfl ?_
    refine R_nil ?_
    refine X_then hK3 ?_
    refine C_true rfl ?_
    refine C_seq (fun K4 hK4 => ?_)
    refine C_region ?_
    refine R_pu (pu_makeInterface Tryz.underlying48 rfl rfl) rfl ?_
    refine R_pu (pu_assign rfl) rfl ?_
    refine R_pu (pu_assign rfl) rfl ?_
    refine R_nil ?_
    refine X_then hK4 ?_
    refine C_ret ?_
    refine X_then_ret ?_
    exact X_ret2 (.inl rfl) rfl rfl rfl ⟨rfl, kk1⟩
  · refine C_seq (fun K5 hK5 => ?_)
    refine C_seq (fun K6 hK6 => ?_)
    refine C_region ?_
    refine R_pu (pu_move rfl) rfl ?_
    refine R_pu (pu_move rfl) rfl ?_
    refine R_pu (pu_move rfl) rfl ?_
    refine R_lo (lo_call (by kernel_rfl) rfl (gcm_fits_f p A N c A3 D c3 _ hft)) rfl ?_
    rintro _ w2 ⟨rfl, k2⟩
    have kk2 := kk0.then_ k2
    refine R_pu (pu_not rfl) rfl ?_
    refine R_pu (pu_move rfl) rfl ?_
    refine R_gno rfl rfl rfl rfl ?_
    refine R_gno rfl rfl rfl rfl ?_
    refine R_gno rfl rfl rfl rfl ?_
    refine R_pu (pu_pickt rfl rfl) rfl ?_
    refine R_nil ?_
    refine X_then hK6 ?_
    refine C_true rfl ?_
    refine C_seq (fun K7 hK7 => ?_)
    refine C_region ?_
    refine R_pu (pu_makeInterface Tryz.underlying48 rfl rfl) rfl ?_
    refine R_pu (pu_assign rfl) rfl ?_
    refine R_pu (pu_assign rfl) rfl ?_
    refine R_nil ?_
    refine X_then hK7 ?_
    refine C_ret ?_
    refine X_then_ret ?_
    exact X_ret2 (.inl rfl) rfl rfl rfl ⟨rfl, kk2⟩
set_option maxRecDepth 100000 in
set_option maxHeartbeats 2000000 in
theorem gcm_open_nil (A : Option Addr) (N : List Nat) (c : Nat) (A2 : Option Addr) (m : List Nat) (c2 : Nat) (A3 : Option Addr) (D : List Nat) (c3 : Nat) (w : World) (HN : Bs w A N) (hcn : N.length ≤ c) (HM : Bs w A2 m) (hcm : m.length ≤ c2) (HD : Bs w A3 D) (hcd : D.length ≤ c3) : Ret Tryz.prog 6 #[.pointer none, .slice A (N.length) (c), .slice A2 (m.length) (c2), .slice A3 (D.length) (c3)] w (fun v w' => v = .tuple #[.slice none 0 0, errE 1] ∧ Kp No w w') := by
  have kk0 := Kp.refl No w
  refine enter (n := 65) [.pointer none, .slice A (N.length) (c), .slice A2 (m.length) (c2), .slice A3 (D.length) (c3)] Tryz.func6 rfl rfl rfl ?_
  show Cw _ _ _ _ [(0, .pointer none), (1, .slice A (N.length) (c)), (2, .slice A2 (m.length) (c2)), (3, .slice A3 (D.length) (c3))] _
  refine C_seq (fun K1 hK1 => ?_)
  refine C_region ?_
  refine R_pu (pu_assign rfl) rfl ?_
  refine R_pu (pu_assign rfl) rfl ?_
  refine R_nil ?_
  refine X_then hK1 ?_
  refine C_seq (fun K2 hK2 => ?_)
  refine C_seq (fun K3 hK3 => ?_)
  refine C_region ?_
  refine R_pu (pu_move rfl) rfl ?_
  refine R_pu (pu_move rfl) rfl ?_
  refine R_pu (pu_move rfl) rfl ?_
  refine R_lo (lo_call (by kernel_rfl) rfl (gcm_fits_nil A N c A3 D c3 _)) rfl ?_
  rintro _ w1 ⟨rfl, k1⟩
  have kk1 := kk0.then_ k1
  refine R_pu (pu_not rfl) rfl ?_
  refine R_pu (pu_move rfl) rfl ?_
  refine R_gno rfl rfl rfl rfl ?_
  refine R_gno rfl rfl rfl rfl ?_
  refine R_gno rfl rfl rfl rfl ?_
  refine R_pu (pu_pickt rfl rfl) rfl ?_
  refine R_nil ?_
  refine X_then hK3 ?_
  refine C_true rfl ?_
  refine C_seq (fun K4 hK4 => ?_)
  refine C_region ?_
  refine R_pu (pu_makeInterface Tryz.underlying48 rfl rfl) rfl ?_
  refine R_pu (pu_assign rfl) rfl ?_
  refine R_pu (pu_assign rfl) rfl ?_
  refine R_nil ?_
  refine X_then hK4 ?_
  refine C_ret ?_
  refine X_then_ret ?_
  exact X_ret2 (.inl rfl) rfl rfl rfl ⟨rfl, kk1⟩
set_option maxRecDepth 100000 in
set_option maxHeartbeats 2000000 in
theorem gcm_opens_arg (p : Nat) (A : Option Addr) (N : List Nat) (c : Nat) (A2 : Option Addr) (m : List Nat) (c2 : Nat) (A3 : Option Addr) (D : List Nat) (c3 : Nat) (w : World) (HN : Bs w A N) (hcn : N.length ≤ c) (HM : Bs w A2 m) (hcm : m.length ≤ c2) (HD : Bs w A3 D) (hcd : D.length ≤ c3) (h : ¬ (N.length = 12 ∧ m.length ≤ 2064 ∧ D.length ≤ 2048)) : Ret Tryz.prog 8 #[.pointer (some ⟨p, 0, none⟩), .slice A (N.length) (c), .slice A2 (m.length) (c2), .slice A3 (D.length) (c3)] w (fun v w' => v = .bool false ∧ Kp No w w') := by
  have kk0 := Kp.refl No w
  refine enter (n := 21) [.pointer (some ⟨p, 0, none⟩), .slice A (N.length) (c), .slice A2 (m.length) (c2), .slice A3 (D.length) (c3)] Tryz.func8 rfl rfl rfl ?_
  show Cw _ _ _ _ [(0, .pointer (some ⟨p, 0, none⟩)), (1, .slice A (N.length) (c)), (2, .slice A2 (m.length) (c2)), (3, .slice A3 (D.length) (c3))] _
  refine C_seq (fun K1 hK1 => ?_)
  refine C_region ?_
  refine R_pu (pu_assign rfl) rfl ?_
  refine R_nil ?_
  refine X_then hK1 ?_
  refine C_seq (fun K2 hK2 => ?_)
  refine C_region ?_
  refine R_pu (pu_move rfl) rfl ?_
  refine R_pu (pu_move rfl) rfl ?_
  refine R_pu (pu_move rfl) rfl ?_
  refine R_pu (pu_move rfl) rfl ?_
  refine R_lo (lo_call (by kernel_rfl) rfl (gcm_open_arg p A N c A2 m c2 A3 D c3 _ HN hcn HM hcm HD hcd h)) rfl ?_
  rintro _ w1 ⟨rfl, k1⟩
  have kk1 := kk0.then_ k1
  refine R_pu (pu_move rfl) rfl ?_
  refine R_pu (pu_extract rfl rfl) rfl ?_
  refine R_pu (pu_extract rfl rfl) rfl ?_
  refine R_pu (pu_assign rfl) rfl ?_
  refine R_pu (pu_assign rfl) rfl ?_
  refine R_nil ?_
  refine X_then hK2 ?_
  refine C_seq (fun K3 hK3 => ?_)
  refine C_region ?_
  refine R_pu (pu_move rfl) rfl ?_
  refine R_pu (pu_eqlin (by kernel_rfl) rfl rfl) rfl ?_
  refine R_pu (pu_assign rfl) rfl ?_
  refine R_nil ?_
  refine X_then hK3 ?_
  refine C_ret ?_
  exact X_ret1 (.inl rfl) rfl rfl ⟨rfl, kk1⟩
set_option maxRecDepth 100000 in
set_option maxHeartbeats 2000000 in
theorem gcm_opens_nil (A : Option Addr) (N : List Nat) (c : Nat) (A2 : Option Addr) (m : List Nat) (c2 : Nat) (A3 : Option Addr) (D : List Nat) (c3 : Nat) (w : World) (HN : Bs w A N) (hcn : N.length ≤ c) (HM : Bs w A2 m) (hcm : m.length ≤ c2) (HD : Bs w A3 D) (hcd : D.length ≤ c3) : Ret Tryz.prog 8 #[.pointer none, .slice A (N.length) (c), .slice A2 (m.length) (c2), .slice A3 (D.length) (c3)] w (fun v w' => v = .bool false ∧ Kp No w w') := by
  have kk0 := Kp.refl No w
  refine enter (n := 21) [.pointer none, .slice A (N.length) (c), .slice A2 (m.length) (c2), .slice A3 (D.length) (c3)] Tryz.func8 rfl rfl rfl ?_
  show Cw _ _ _ _ [(0, .pointer none), (1, .slice A (N.length) (c)), (2, .slice A2 (m.length) (c2)), (3, .slice A3 (D.length) (c3))] _
  refine C_seq (fun K1 hK1 => ?_)
  refine C_region ?_
  refine R_pu (pu_assign rfl) rfl ?_
  refine R_nil ?_
  refine X_then hK1 ?_
  refine C_seq (fun K2 hK2 => ?_)
  refine C_region ?_
  refine R_pu (pu_move rfl) rfl ?_
  refine R_pu (pu_move rfl) rfl ?_
  refine R_pu (pu_move rfl) rfl ?_
  refine R_pu (pu_move rfl) rfl ?_
  refine R_lo (lo_call (by kernel_rfl) rfl (gcm_open_nil A N c A2 m c2 A3 D c3 _ HN hcn HM hcm HD hcd)) rfl ?_
  rintro _ w1 ⟨rfl, k1⟩
  have kk1 := kk0.then_ k1
  refine R_pu (pu_move rfl) rfl ?_
  refine R_pu (pu_extract rfl rfl) rfl ?_
  refine R_pu (pu_extract rfl rfl) rfl ?_
  refine R_pu (pu_assign rfl) rfl ?_
  refine R_pu (pu_assign rfl) rfl ?_
  refine R_nil ?_
  refine X_then hK2 ?_
  refine C_seq (fun K3 hK3 => ?_)
  refine C_region ?_
  refine R_pu (pu_move rfl) rfl ?_
  refine R_pu (pu_eqlin (by kernel_rfl) rfl rfl) rfl ?_
  refine R_pu (pu_assign rfl) rfl ?_
  refine R_nil ?_
  refine X_then hK3 ?_
  refine C_ret ?_
  exact X_ret1 (.inl rfl) rfl rfl ⟨rfl, kk1⟩
set_option maxRecDepth 100000 in
set_option maxHeartbeats 2000000 in
theorem gcm_new_err (A : Option Addr) (l : List Nat) (c : Nat) (w : World) (HB : Bs w A l) (hc : l.length ≤ c) (hl : ¬ l.length = 32) : Ret Tryz.prog 9 #[.slice A (l.length) (c)] w (fun v w' => v = .tuple #[.pointer none, errE 1] ∧ Kp No w w') := by
  have kk0 := Kp.refl No w
  refine enter (n := 20) [.slice A (l.length) (c)] Tryz.func9 rfl rfl rfl ?_
  show Cw _ _ _ _ [(0, .slice A (l.length) (c))] _
  refine C_seq (fun K1 hK1 => ?_)
  refine C_region ?_
  refine R_pu (pu_assign rfl) rfl ?_
  refine R_pu (pu_assign rfl) rfl ?_
  refine R_nil ?_
  refine X_then hK1 ?_
  refine C_seq (fun K2 hK2 => ?_)
  refine C_region ?_
  refine R_pu (pu_move rfl) rfl ?_
  refine R_lo (lo_call (by kernel_rfl) rfl (aes_new_err A l c _ HB hc hl)) rfl ?_
  rintro _ w1 ⟨rfl, k1⟩
  have kk1 := kk0.then_ k1
  refine R_pu (pu_move rfl) rfl ?_
  refine R_pu (pu_extract rfl rfl) rfl ?_
  refine R_pu (pu_extract rfl rfl) rfl ?_
  refine R_pu (pu_assign rfl) rfl ?_
  refine R_pu (pu_assign rfl) rfl ?_
  refine R_nil ?_
  refine X_then hK2 ?_
  refine C_seq (fun K3 hK3 => ?_)
  refine C_seq (fun K4 hK4 => ?_)
  refine C_region ?_
  refine R_pu (pu_move rfl) rfl ?_
  refine R_pu (pu_neqin (by kernel_rfl) rfl rfl) rfl ?_
  refine R_nil ?_
  refine X_then hK4 ?_
  refine C_true rfl ?_
  refine C_seq (fun K5 hK5 => ?_)
  refine C_region ?_
  refine R_pu (pu_move rfl) rfl ?_
  refine R_pu (pu_assign rfl) rfl ?_
  refine R_pu (pu_assign rfl) rfl ?_
  refine R_nil ?_
  refine X_then hK5 ?_
  refine C_ret ?_
  refine X_then_ret ?_
  exact X_ret2 (.inl rfl) rfl rfl rfl ⟨rfl, kk1⟩
set_option maxRecDepth 100000 in
set_option maxHeartbeats 2000000 in
theorem ref11_ready (A : Option Addr) (K : List Nat) (c : Nat) (w : World) (HB : Bs w A K) (hc : K.length ≤ c) (hl : K.length = 32) : Ret Tryz.prog 10 #[.slice A (K.length) (c)] w (fun v w' => v = .agg (u8s (RKL K)).toArray ∧ Kp No w w') := by
  have kk0 := Kp.refl No w
  refine enter (n := 11) [.slice A (K.length) (c)] Tryz.func10 rfl rfl rfl ?_
  show Cw _ _ _ _ [(0, .slice A (K.length) (c))] _
  refine C_seq (fun K1 hK1 => ?_)
  refine C_region ?_
  refine R_lo (lo_alloc (L := u8s (List.replicate 512 0)) (by kernel_rfl)) rfl ?_
  rintro _ w1 ⟨pr, rfl, N1⟩
  have k1 := N1.kp
  have kk1 := kk0.then_ k1
  have f_pr_1 : Bk w1 pr (u8s (List.replicate 512 0)) 42 := N1.bk
  refine R_nil ?_
  refine X_then hK1 ?_
  refine C_seq (fun K2 hK2 => ?_)
  refine C_region ?_
  refine R_pu (pu_move rfl) rfl ?_
  refine R_lo (lo_call (by kernel_rfl) rfl (ref_ready A K c _ (HB.keptNo kk1) hc hl)) rfl ?_
  rintro _ w2 ⟨rfl, k2⟩
  have kk2 := kk1.then_ k2
  have f3 : Bk w2 pr (u8s (List.replicate 512 0)) 42 := (f_pr_1.no k2)
  refine R_lo (lo_alloc (L := u8s (List.replicate 496 0)) (by kernel_rfl)) rfl ?_
  rintro _ w3 ⟨pc, rfl, N3⟩
  have k3 := N3.kp
  have kk3 := kk2.then_ k3
  have ne_pc_pr : pc ≠ pr := Nat.ne_of_gt (Nat.lt_of_lt_of_le f3.lt N3.le)
  have f_pc_3 : Bk w3 pc (u8s (List.replicate 496 0)) 39 := N3.bk
  refine R_lo0 (lo_storeRow (C := u8s (CK K)) f_pc_3 (by rw [u8s_length, (CK_by _).1]; kernel_rfl) rfl rfl (u8s_each _) ((u8s_length _).trans ((CK_by _).1.trans ((rep_by 496).1.symm.trans (u8s_length _).symm)))) ?_
  rintro _ w4 kf4
  obtain ⟨k4, f_pc_4⟩ := kf4
  replace f_pc_4 : Bk w4 pc (u8s (CK K)) 39 := f_pc_4
  have kk4 := kk3.trans k4 (fun i hi => .inr (hi ▸ (Nat.le_trans kk2.size N3.le)))
  refine R_nil ?_
  refine X_then hK2 ?_
  refine C_seq (fun K4 hK4 => ?_)
  have f5 : Bk w4 pr (u8s (List.replicate 512 0)) 42 := ((f3.no k3).on k4 (Ne.symm ne_pc_pr))
  refine Z_begin (fun W => Kp No w W ∧ Bk W pr (u8s (List.replicate 512 0)) 42 ∧ Bk W pc (u8s (CK K)) 39) 5 6 rfl (by kernel_rfl) ⟨kk4.drew, f5.draw, f_pc_4.draw⟩ ?_
  intro w5 k5 _
  have kk5 := kk4.then_ k5
  refine Z_take 0 rfl (by kernel_rfl) (by kernel_rfl) (by kernel_rfl) (by kernel_rfl) (by kernel_rfl) (fun _ _ _ h => h) rfl (fun W hS => pu_loadRow (len := 496) hS.2.2 (by kernel_rfl) (by kernel_rfl) (by rw [u8s_length]; exact (CK_by _).1) rfl) ?_
  refine Z_take 1 rfl (by kernel_rfl) (by kernel_rfl) (by kernel_rfl) (by kernel_rfl) (by kernel_rfl) (fun _ _ _ h => h) rfl (fun W hS => pu_loadRow (len := 496) hS.2.2 (by kernel_rfl) (by kernel_rfl) (by rw [u8s_length]; exact (CK_by _).1) rfl) ?_
  refine Z_take 2 rfl (by kernel_rfl) (by kernel_rfl) (by kernel_rfl) (by kernel_rfl) (by kernel_rfl) (fun _ _ _ h => h) rfl (fun W hS => pu_build (L := u8s (List.replicate 16 0)) rfl (by kernel_rfl)) ?_
  refine Z_one 3 (by kernel_rfl) (Nz_lo rfl (lo_call (by kernel_rfl) rfl (ref_enc K (List.replicate 16 0) (rep_by 16) _)) rfl ?_)
  rintro _ w6 ⟨rfl, k6⟩
  have kk6 := kk5.then_ k6
  have f6 : Bk w6 pr (u8s (List.replicate 512 0)) 42 := ((f5.no k5).no k6)
  have f7 : Bk w6 pc (u8s (CK K)) 39 := ((f_pc_4.no k5).no k6)
  refine ⟨⟨kk6, f6, f7⟩, ?_⟩
  refine Z_take 4 rfl (by kernel_rfl) (by kernel_rfl) (by kernel_rfl) (by kernel_rfl) (by kernel_rfl) (fun _ _ _ h => h) rfl (fun W hS => pu_build (L := u8s (RKL K)) rfl (by rw [u8s_RKL]; exact built_two (n := 496) (m := 16) (by kernel_rfl) (by rw [u8s_length]; exact (CK_by K).1) (by rw [u8s_length]; exact (gmH_by K).1))) ?_
  refine Z_last 5 (by kernel_rfl) rfl (by kernel_rfl) (by kernel_rfl) (lo_storeRow (C := u8s (RKL K)) f6 (by rw [u8s_length, (RKL_by K).1]; kernel_rfl) rfl rfl (u8s_each _) ((u8s_length _).trans ((RKL_by K).1.trans ((rep_by 512).1.symm.trans (u8s_length _).symm)))) ?_
  rintro _ w7 kf7
  obtain ⟨k7, f_pr_7⟩ := kf7
  replace f_pr_7 : Bk w7 pr (u8s (RKL K)) 42 := f_pr_7
  have kk7 := kk6.trans k7 (fun i hi => .inr (hi ▸ (Nat.le_trans kk0.size N1.le)))
  refine X_then hK4 ?_
  refine C_ret ?_
  exact X_retRow (len := 512) (.inl rfl) rfl rfl f_pr_7 (by kernel_rfl) (by kernel_rfl) (by rw [u8s_length]; exact (RKL_by K).1) ⟨rfl, kk7⟩
set_option maxRecDepth 100000 in
set_option maxHeartbeats 2000000 in
theorem ref11_counter (K : List Nat) (A : Option Addr) (N : List Nat) (c : Nat) (n : Nat) (w : World) (bN : By 12 N) (HN : Bs w A N) (hcn : N.length ≤ c) (hn : n < 9223372036854775808) : Ret Tryz.prog 40 #[.agg (u8s (RKL K) : List Value).toArray, .slice A (N.length) (c), .int .i64 ((n : Nat) : Int)] w (fun v w' => v = .agg (u8s (ctrB K N n)).toArray ∧ Kp No w w') := by
  have hN12 := bN.1
  have kk0 := Kp.refl No w
  refine enter (n := 35) [.agg (u8s (RKL K) : List Value).toArray, .slice A (N.length) (c), .int .i64 ((n : Nat) : Int)] Tryz.func40 rfl rfl rfl ?_
  show Cw _ _ _ _ [(0, .agg (u8s (RKL K) : List Value).toArray), (1, .slice A (N.length) (c)), (2, .int .i64 ((n : Nat) : Int))] _
  refine C_seq (fun K1 hK1 => ?_)
  refine C_region ?_
  refine R_lo (lo_box (L := u8s (RKL K)) rfl rfl) rfl ?_
  rintro _ w1 ⟨pk, rfl, N1⟩
  have k1 := N1.kp
  have kk1 := kk0.then_ k1
  have f_pk_1 : Bk w1 pk (u8s (RKL K)) 42 := N1.bk
  refine R_lo (lo_alloc (L := u8s (List.replicate 16 0)) (by kernel_rfl)) rfl ?_
  rintro _ w2 ⟨pr, rfl, N2⟩
  have k2 := N2.kp
  have kk2 := kk1.then_ k2
  have ne_pr_pk : pr ≠ pk := Nat.ne_of_gt (Nat.lt_of_lt_of_le f_pk_1.lt N2.le)
  have f_pr_2 : Bk w2 pr (u8s (List.replicate 16 0)) 40 := N2.bk
  refine R_nil ?_
  refine X_then hK1 ?_
  refine C_seq (fun K2 hK2 => ?_)
  refine C_region ?_
  have f3 : Bk w2 pk (u8s (RKL K)) 42 := (f_pk_1.no k2)
  refine R_lo (lo_alloc (L := u8s (List.replicate 16 0)) (by kernel_rfl)) rfl ?_
  rintro _ w3 ⟨q, rfl, N3⟩
  have k3 := N3.kp
  have kk3 := kk2.then_ k3
  have ne_q_pk : q ≠ pk := Nat.ne_of_gt (Nat.lt_of_lt_of_le f3.lt N3.le)
  have ne_q_pr : q ≠ pr := Nat.ne_of_gt (Nat.lt_of_lt_of_le f_pr_2.lt N3.le)
  have f_q_3 : Bk w3 q (u8s (List.replicate 16 0)) 40 := N3.bk
  refine R_nil ?_
  refine X_then hK2 ?_
  refine C_seq (fun K4 hK4 => ?_)
  refine C_seq (fun K5 hK5 => ?_)
  refine C_region ?_
  refine R_pu (pu_assign rfl) rfl ?_
  refine R_nil ?_
  refine X_then hK5 ?_
  refine C_block ?_
  have f6 : Bk w3 pk (u8s (RKL K)) 42 := (f3.no k3)
  have f7 : Bk w3 pr (u8s (List.replicate 16 0)) 40 := (f_pr_2.no k3)
  refine C_loop (fun m_ l_ wr => ∃ i : Nat, (m_ = 12 - i) ∧ (l_ = [(1, .slice A (N.length) (c)), (2, .int .i64 ((n : Nat) : Int)), (3, .pointer (some ⟨pk, 0, none⟩)), (6, .pointer (some ⟨pr, 0, none⟩)), (7, .pointer (some ⟨q, 0, none⟩)), (8, .int .i64 ((i : Nat) : Int))]) ∧ (i ≤ 12) ∧ (Kp No w wr) ∧ (Bk wr pk (u8s (RKL K)) 42) ∧ (Bk wr pr (u8s (List.replicate 16 0)) 40) ∧ (Bk wr q (u8s (upto (fun i => N.getD i 0) (fun _ => 0) i 16)) 40)) (12 - 0) [(1, .slice A (N.length) (c)), (2, .int .i64 ((n : Nat) : Int)), (3, .pointer (some ⟨pk, 0, none⟩)), (6, .pointer (some ⟨pr, 0, none⟩)), (7, .pointer (some ⟨q, 0, none⟩)), (8, .int .i64 0)] (Sub.cons rfl (Sub.cons rfl (Sub.cons rfl (Sub.cons rfl (Sub.cons rfl (Sub.cons rfl (Sub.nil _))))))) ⟨0, rfl, rfl, by omega, kk3, f6, f7, Bk.eq f_q_3 (congrArg u8s (rep_upto _ _))⟩ ?_
  rintro _ _ w4 ⟨i, rfl, rfl, hi, kk4, f_pk_4, f_pr_4, f_q_4⟩
  refine C_seq (fun K8 hK8 => ?_)
  refine C_seq (fun K9 hK9 => ?_)
  refine C_region ?_
  refine R_pu (pu_move rfl) rfl ?_
  refine R_pu (pu_lss (p := i < 12) rfl rfl (by omega)) rfl ?_
  refine R_nil ?_
  refine X_then hK9 ?_
  refine C_dec rfl (fun h11 => ?_) (fun h11 => ?_)
  · refine C_skip ?_
    refine X_then hK8 ?_
    refine C_seq (fun K10 hK10 => ?_)
    refine C_block ?_
    refine C_region ?_
    refine R_pu (pu_move rfl) rfl ?_
    refine R_pu (pu_move rfl) rfl ?_
    refine R_pu (pu_move rfl) rfl ?_
    refine R_pu (pu_indexAddrB (m := i) (HN.keptNo kk4) Tryz.underlying22 (by kernel_rfl) rfl rfl rfl rfl (by omega)) rfl ?_
    obtain ⟨x, e_x⟩ : ∃ q_, (N)[i]? = some q_ := ⟨_, List.getElem?_eq_getElem (by omega)⟩
    have b_x : x < 256 := ((HN.keptNo kk4)).lt e_x
    refine R_pu (pu_loadB (HN.keptNo kk4) (by kernel_rfl) rfl e_x) rfl ?_
    refine R_pu (pu_indexAddrA (m := i) (s := 1) (o' := i) Tryz.underlying40 (by kernel_rfl) rfl rfl rfl (by omega) (by omega)) rfl ?_
    refine R_lo0 (lo_store f_q_4 (by kernel_rfl) rfl rfl rfl (by rw [u8s_length, (upto_by (fun i _ => getD_lt bN.2 i) (fun _ _ => by decide)).1]; omega)) ?_
    rintro _ w5 kf5
    obtain ⟨k5, f_q_5⟩ := kf5
    replace f_q_5 := Bk.eq f_q_5 (u8s_set _ _ x)
    replace f_q_5 : Bk w5 q (u8s ((upto (fun i => N.getD i 0) (fun _ => 0) i 16).set i x)) 40 := f_q_5
    have kk5 := kk4.trans k5 (fun i hi => .inr (hi ▸ (Nat.le_trans kk2.size N3.le)))
    refine R_nil ?_
    refine X_in_normal ?_
    refine X_then hK10 ?_
    refine C_region ?_
    refine R_pu (pu_move rfl) rfl ?_
    refine R_pu (pu_add (z := ((i + 1 : Nat) : Int)) rfl rfl (by rw [IntKind.wrap_i64]; omega)) rfl ?_
    refine R_pu (pu_assign rfl) rfl ?_
    refine R_nil ?_
    have f11 : Bk w5 pk (u8s (RKL K)) 42 := (f_pk_4.on k5 (Ne.symm ne_q_pk))
    have f12 : Bk w5 pr (u8s (List.replicate 16 0)) 40 := (f_pr_4.on k5 (Ne.symm ne_q_pr))
    refine X_round (12 - (i + 1)) [(1, .slice A (N.length) (c)), (2, .int .i64 ((n : Nat) : Int)), (3, .pointer (some ⟨pk, 0, none⟩)), (6, .pointer (some ⟨pr, 0, none⟩)), (7, .pointer (some ⟨q, 0, none⟩)), (8, .int .i64 (((i + 1) : Nat) : Int))] (by omega) (Sub.cons rfl (Sub.cons rfl (Sub.cons rfl (Sub.cons rfl (Sub.cons rfl (Sub.cons rfl (Sub.nil _))))))) ⟨i + 1, rfl, rfl, by omega, kk5, f11, f12, Bk.eq f_q_5 (congrArg u8s (upto_set (getD_some e_x).symm))⟩
  · refine C_exit ?_
    refine X_then_exit (X_then_exit (X_in_eq ?_))
    refine X_then hK4 ?_
    refine C_seq (fun K13 hK13 => ?_)
    refine C_seq (fun K14 hK14 => ?_)
    have fE15 : Bk w4 q (u8s (ctT N n 0)) 40 := Bk.eq f_q_4 (congrArg u8s (by rw [show i = 12 by omega]; exact ctT_zero bN.1 n))
    refine C_region ?_
    refine R_pu (pu_assign rfl) rfl ?_
    refine R_nil ?_
    refine X_then hK14 ?_
    refine C_block ?_
    refine C_loop (fun m_ l_ wr => ∃ t : Nat, ∃ y : Nat, (m_ = 4 - t) ∧ (l_ = [(2, .int .i64 ((y : Nat) : Int)), (3, .pointer (some ⟨pk, 0, none⟩)), (6, .pointer (some ⟨pr, 0, none⟩)), (7, .pointer (some ⟨q, 0, none⟩)), (9, .int .i64 (15 - ((t : Nat) : Int)))]) ∧ (t ≤ 4) ∧ (y < 9223372036854775808) ∧ (y = n / 256 ^ t) ∧ (Kp No w wr) ∧ (Bk wr pk (u8s (RKL K)) 42) ∧ (Bk wr pr (u8s (List.replicate 16 0)) 40) ∧ (Bk wr q (u8s (ctT N n t)) 40)) (4 - 0) [(2, .int .i64 ((n : Nat) : Int)), (3, .pointer (some ⟨pk, 0, none⟩)), (6, .pointer (some ⟨pr, 0, none⟩)), (7, .pointer (some ⟨q, 0, none⟩)), (9, .int .i64 (15 - ((0 : Nat) : Int)))] (Sub.cons rfl (Sub.cons rfl (Sub.cons rfl (Sub.cons rfl (Sub.consE rfl rfl (Sub.nil _)))))) ⟨0, n, rfl, rfl, by omega, hn, (by rw [Nat.pow_zero, Nat.div_one]), kk4, f_pk_4, f_pr_4, Bk.eq fE15 (congrArg u8s rfl)⟩ ?_
    rintro _ _ w6 ⟨t, y, rfl, rfl, ht, hyb, hyy, kk6, f_pk_6, f_pr_6, f_q_6⟩
    refine C_seq (fun K16 hK16 => ?_)
    refine C_seq (fun K17 hK17 => ?_)
    refine C_region ?_
    refine R_pu (pu_move rfl) rfl ?_
    refine R_pu (pu_geq (p := (15 - ((t : Nat) : Int)) ≥ 12) rfl rfl (by omega)) rfl ?_
    refine R_nil ?_
    refine X_then hK17 ?_
    refine C_dec rfl (fun h21 => ?_) (fun h21 => ?_)
    · refine C_skip ?_
      refine X_then hK16 ?_
      refine C_seq (fun K18 hK18 => ?_)
      refine C_block ?_
      refine C_seq (fun K19 hK19 => ?_)
      refine C_region ?_
      refine R_pu (pu_move rfl) rfl ?_
      refine R_pu (pu_move rfl) rfl ?_
      refine R_pu (pu_rem (z := ((y % 256 : Nat) : Int)) rfl rfl (by omega) (by rfl)) rfl ?_
      refine R_pu (pu_conv (z := ((y % 256 : Nat) : Int)) Tryz.underlying3 Tryz.underlying5 rfl (by rw [IntKind.wrap_u8]; omega)) rfl ?_
      refine R_pu (pu_indexAddrA (m := 15 - t) (s := 1) (o' := 15 - t) Tryz.underlying40 (by kernel_rfl) rfl rfl (by omega) (by omega) (by omega)) rfl ?_
      refine R_lo0 (lo_store f_q_6 (by kernel_rfl) rfl rfl rfl (by rw [u8s_length, (ctT_by bN n _).1]; omega)) ?_
      rintro _ w7 kf7
      obtain ⟨k7, f_q_7⟩ := kf7
      replace f_q_7 := Bk.eq f_q_7 (u8s_set _ _ (y % 256))
      replace f_q_7 : Bk w7 q (u8s ((ctT N n t).set (15 - t) (y % 256))) 40 := f_q_7
      have kk7 := kk6.trans k7 (fun i hi => .inr (hi ▸ (Nat.le_trans kk2.size N3.le)))
      refine R_nil ?_
      refine X_then hK19 ?_
      refine C_region ?_
      refine R_pu (pu_move rfl) rfl ?_
      refine R_pu (pu_quo (z := ((y / 256 : Nat) : Int)) rfl rfl (by omega) (by rw [Int.tdiv_eq_ediv_of_nonneg (by omega), IntKind.wrap_i64]; omega)) rfl ?_
      refine R_pu (pu_assign rfl) rfl ?_
      refine R_nil ?_
      refine X_in_normal ?_
      refine X_then hK18 ?_
      refine C_region ?_
      refine R_pu (pu_move rfl) rfl ?_
      refine R_pu (pu_sub (z := (15 - ((t : Nat) : Int)) - 1) rfl rfl (by rw [IntKind.wrap_i64]; omega)) rfl ?_
      refine R_pu (pu_assign rfl) rfl ?_
      refine R_nil ?_
      have f20 : Bk w7 pk (u8s (RKL K)) 42 := (f_pk_6.on k7 (Ne.symm ne_q_pk))
      have f21 : Bk w7 pr (u8s (List.replicate 16 0)) 40 := (f_pr_6.on k7 (Ne.symm ne_q_pr))
      refine X_round (4 - (t + 1)) [(2, .int .i64 (((y / 256) : Nat) : Int)), (3, .pointer (some ⟨pk, 0, none⟩)), (6, .pointer (some ⟨pr, 0, none⟩)), (7, .pointer (some ⟨q, 0, none⟩)), (9, .int .i64 (15 - (((t + 1) : Nat) : Int)))] (by omega) (Sub.cons rfl (Sub.cons rfl (Sub.cons rfl (Sub.cons rfl (Sub.consE rfl (valI (by omega)) (Sub.nil _)))))) ⟨t + 1, y / 256, rfl, rfl, by omega, (by omega), (by rw [hyy, div_pow]), kk7, f20, f21, Bk.eq f_q_7 (congrArg u8s (by rw [hyy]; exact ctT_set (by omega)))⟩
    · refine C_exit ?_
      refine X_then_exit (X_then_exit (X_in_eq ?_))
      refine X_then hK13 ?_
      refine C_seq (fun K22 hK22 => ?_)
      have fE23 : Bk w6 q (u8s (N ++ be4 n)) 40 := Bk.eq f_q_6 (congrArg u8s (by rw [show t = 4 by omega]; exact ctT_end bN.1 n))
      refine C_region ?_
      refine R_pu (pu_fieldAddr (off := 0) (o' := 0) (by kernel_rfl) rfl rfl) rfl ?_
      refine R_pu (pu_loadMid (len := 496) (C := u8s (CK K)) f_pk_6 (by kernel_rfl) (by kernel_rfl) rfl ((u8s_mid _ _ _).trans (congrArg u8s (RKL_c K))) (by rw [u8s_length]; exact (CK_by K).1)) rfl ?_
      refine R_pu (pu_loadRow (len := 16) fE23 (by kernel_rfl) (by kernel_rfl) (by rw [u8s_length]; exact (nb_by bN n).1) rfl) rfl ?_
      refine R_lo (lo_call (by kernel_rfl) rfl (ref_enc K (N ++ be4 n) (nb_by bN n) _)) rfl ?_
      rintro _ w8 ⟨rfl, k8⟩
      have kk8 := kk6.then_ k8
      have f24 : Bk w8 pr (u8s (List.replicate 16 0)) 40 := (f_pr_6.no k8)
      refine R_lo0 (lo_storeRow (C := u8s (encB (KW K) (N ++ be4 n))) f24 (by rw [u8s_length, (encB_by _ (nb_by bN n)).1]; kernel_rfl) rfl rfl (u8s_each _) ((u8s_length _).trans ((encB_by _ (nb_by bN n)).1.trans ((rep_by 16).1.symm.trans (u8s_length _).symm)))) ?_
      rintro _ w9 kf9
      obtain ⟨k9, f_pr_9⟩ := kf9
      replace f_pr_9 : Bk w9 pr (u8s (encB (KW K) (N ++ be4 n))) 40 := f_pr_9
      have kk9 := kk8.trans k9 (fun i hi => .inr (hi ▸ (Nat.le_trans kk1.size N2.le)))
      refine R_nil ?_
      refine X_then hK22 ?_
      refine C_ret ?_
      exact X_retRow (len := 16) (.inl rfl) rfl rfl f_pr_9 (by kernel_rfl) (by kernel_rfl) (by rw [u8s_length]; exact (encB_by _ (nb_by bN n)).1) ⟨rfl, kk9⟩
set_option maxRecDepth 100000 in
set_option maxHeartbeats 2000000 in
theorem ref11_cipher (K : List Nat) (A : Option Addr) (N : List Nat) (c : Nat) (A2 : Option Addr) (m : List Nat) (c2 : Nat)  (w : World) (bN : By 12 N) (HN : Bs w A N) (hcn : N.length ≤ c) (HM : Bs w A2 m) (hcm : m.length ≤ c2) (hm : m.length ≤ 2064) : Ret Tryz.prog 21 #[.agg (u8s (RKL K) : List Value).toArray, .slice A (N.length) (c), .slice A2 (m.length) (c2)] w (fun v w' => ∃ A c, v = .slice A (cphB K N m).length c ∧ Ob w' w.heap.size (.slice A (cphB K N m).length c) (cphB K N m) ∧ Kp No w w') := by
  have kk0 := Kp.refl No w
  refine enter (n := 49) [.agg (u8s (RKL K) : List Value).toArray, .slice A (N.length) (c), .slice A2 (m.length) (c2)] Tryz.func21 rfl rfl rfl ?_
  show Cw _ _ _ _ [(0, .agg (u8s (RKL K) : List Value).toArray), (1, .slice A (N.length) (c)), (2, .slice A2 (m.length) (c2))] _
  refine C_seq (fun K1 hK1 => ?_)
  refine C_region ?_
  refine R_lo (lo_box (L := u8s (RKL K)) rfl rfl) rfl ?_
  rintro _ w1 ⟨pk, rfl, N1⟩
  have k1 := N1.kp
  have kk1 := kk0.then_ k1
  have f_pk_1 : Bk w1 pk (u8s (RKL K)) 42 := N1.bk
  refine R_pu (pu_assign rfl) rfl ?_
  refine R_nil ?_
  refine X_then hK1 ?_
  refine C_seq (fun K2 hK2 => ?_)
  refine C_region ?_
  refine R_pu (pu_assign rfl) rfl ?_
  refine R_nil ?_
  refine X_then hK2 ?_
  refine C_seq (fun K3 hK3 => ?_)
  refine C_seq (fun K4 hK4 => ?_)
  refine C_region ?_
  refine R_pu (pu_assign rfl) rfl ?_
  refine R_nil ?_
  refine X_then hK4 ?_
  refine C_block ?_
  have ob5 := Ob.nil w1 w1.heap.size
  have z6 := Nat.le_refl w1.heap.size
  refine C_loop (fun m_ l_ wr => ∃ a : Nat, ∃ An : Option Addr, ∃ cn : Nat, (m_ = m.length + 16 - 16 * a) ∧ (l_ = [(1, .slice A (N.length) (c)), (2, .slice A2 (m.length) (c2)), (3, .pointer (some ⟨pk, 0, none⟩)), (6, .slice none (0) (0)), (7, .slice An ((cphT K N m (16 * a)).length) (cn)), (8, .int .i64 ((16 * a : Nat) : Int))]) ∧ (16 * a ≤ m.length + 15) ∧ (Kp No w wr) ∧ (Bk wr pk (u8s (RKL K)) 42) ∧ (Ob wr w1.heap.size (.slice An (cphT K N m (16 * a)).length cn) (cphT K N m (16 * a)) ∧ w1.heap.size ≤ (wr).heap.size)) (m.length + 16 - 16 * 0) [(1, .slice A (N.length) (c)), (2, .slice A2 (m.length) (c2)), (3, .pointer (some ⟨pk, 0, none⟩)), (6, .slice none (0) (0)), (7, .slice none ((cphT K N m (16 * 0)).length) (0)), (8, .int .i64 ((16 * 0 : Nat) : Int))] (Sub.cons rfl (Sub.cons rfl (Sub.cons rfl (Sub.cons rfl (Sub.consE rfl (by rw [show 16 * 0 = 0 from rfl, cphT_zero]; rfl) (Sub.cons rfl (Sub.nil _))))))) ⟨0, none, 0, rfl, rfl, by omega, kk1, f_pk_1, ⟨by rw [show 16 * 0 = 0 from rfl, cphT_zero]; exact ob5, z6⟩⟩ ?_
  rintro _ _ w2 ⟨a, An, cn, rfl, rfl, ha, kk2, f_pk_2, o_2⟩
  refine C_seq (fun K7 hK7 => ?_)
  refine C_seq (fun K8 hK8 => ?_)
  refine C_region ?_
  refine R_pu (pu_move rfl) rfl ?_
  refine R_pu (pu_move rfl) rfl ?_
  refine R_pu (pu_len Tryz.underlying22 rfl) rfl ?_
  refine R_pu (pu_lss (p := (16 * a) < m.length) rfl rfl (by omega)) rfl ?_
  refine R_nil ?_
  refine X_then hK8 ?_
  refine C_dec rfl (fun h14 => ?_) (fun h14 => ?_)
  · refine C_skip ?_
    refine X_then hK7 ?_
    refine C_seq (fun K9 hK9 => ?_)
    refine C_block ?_
    refine C_seq (fun K10 hK10 => ?_)
    refine C_region ?_
    refine R_pu (pu_loadRow (len := 512) f_pk_2 (by kernel_rfl) (by kernel_rfl) (by rw [u8s_length]; exact (RKL_by K).1) rfl) rfl ?_
    refine R_pu (pu_move rfl) rfl ?_
    refine R_pu (pu_move rfl) rfl ?_
    refine R_pu (pu_quo (z := ((a : Nat) : Int)) rfl rfl (by omega) (by rw [Int.tdiv_eq_ediv_of_nonneg (by omega), IntKind.wrap_i64]; omega)) rfl ?_
    refine R_pu (pu_add (z := ((2 + a : Nat) : Int)) rfl rfl (by rw [IntKind.wrap_i64]; omega)) rfl ?_
    refine R_lo (lo_call (by kernel_rfl) rfl (ref11_counter K A N c (2 + a) _ bN (HN.keptNo kk2) hcn (by omega))) rfl ?_
    rintro _ w3 ⟨rfl, k3⟩
    have kk3 := kk2.then_ k3
    have f11 : Bk w3 pk (u8s (RKL K)) 42 := (f_pk_2.no k3)
    have ob12 := (o_2.1.keptNo k3)
    refine R_lo (lo_alloc (L := u8s (List.replicate 16 0)) (by kernel_rfl)) rfl ?_
    rintro _ w4 ⟨q, rfl, N4⟩
    have k4 := N4.kp
    have kk4 := kk3.then_ k4
    have ne_q_pk : q ≠ pk := Nat.ne_of_gt (Nat.lt_of_lt_of_le f11.lt N4.le)
    have f_q_4 : Bk w4 q (u8s (List.replicate 16 0)) 40 := N4.bk
    refine R_lo0 (lo_storeRow (C := u8s (ctrB K N (2 + a))) f_q_4 (by rw [u8s_length, (ctrB_by _ bN _).1]; kernel_rfl) rfl rfl (u8s_each _) ((u8s_length _).trans ((ctrB_by _ bN _).1.trans ((rep_by 16).1.symm.trans (u8s_length _).symm)))) ?_
    rintro _ w5 kf5
    obtain ⟨k5, f_q_5⟩ := kf5
    replace f_q_5 : Bk w5 q (u8s (ctrB K N (2 + a))) 40 := f_q_5
    have kk5 := kk4.trans k5 (fun i hi => .inr (hi ▸ (Nat.le_trans kk3.size N4.le)))
    refine R_nil ?_
    refine X_then hK10 ?_
    refine C_seq (fun K13 hK13 => ?_)
    refine C_region ?_
    refine R_pu (pu_assign rfl) rfl ?_
    refine R_nil ?_
    refine X_then hK13 ?_
    refine C_block ?_
    have hct := (ctrB_by K bN (2 + a)).1
    have f14 : Bk w5 pk (u8s (RKL K)) 42 := ((f11.no k4).on k5 (Ne.symm ne_q_pk))
    have ob15 := ((ob12.keptNo k4).onN k5 ob12 N4.le)
    refine C_loop (fun m_ l_ wr => ∃ i : Nat, ∃ Ai : Option Addr, ∃ ci : Nat, (m_ = 16 - i) ∧ (l_ = [(1, .slice A (N.length) (c)), (2, .slice A2 (m.length) (c2)), (3, .pointer (some ⟨pk, 0, none⟩)), (6, .slice none (0) (0)), (7, .slice Ai ((cphT K N m (16 * a + i)).length) (ci)), (8, .int .i64 ((16 * a : Nat) : Int)), (9, .pointer (some ⟨q, 0, none⟩)), (10, .int .i64 ((i : Nat) : Int))]) ∧ (i ≤ 16) ∧ (∀ b, (Value.slice Ai (cphT K N m (16 * a + i)).length ci).ownBlock = some b → b ≠ q) ∧ (Kp No w wr) ∧ (Bk wr pk (u8s (RKL K)) 42) ∧ (Bk wr q (u8s (ctrB K N (2 + a))) 40) ∧ (Ob wr w1.heap.size (.slice Ai (cphT K N m (16 * a + i)).length ci) (cphT K N m (16 * a + i)) ∧ w1.heap.size ≤ (wr).heap.size)) (16 - 0) [(1, .slice A (N.length) (c)), (2, .slice A2 (m.length) (c2)), (3, .pointer (some ⟨pk, 0, none⟩)), (6, .slice none (0) (0)), (7, .slice An ((cphT K N m (16 * a + 0)).length) (cn)), (8, .int .i64 ((16 * a : Nat) : Int)), (9, .pointer (some ⟨q, 0, none⟩)), (10, .int .i64 0)] (Sub.cons rfl (Sub.cons rfl (Sub.cons rfl (Sub.cons rfl (Sub.consE rfl rfl (Sub.cons rfl (Sub.cons rfl (Sub.cons rfl (Sub.nil _))))))))) ⟨0, An, cn, rfl, rfl, by omega, (fun b hb => Nat.ne_of_lt (Nat.lt_of_lt_of_le (ob12.lt b hb).2 N4.le)), kk5, f14, f_q_5, ⟨by exact ob15, (Nat.le_trans (Nat.le_trans (Nat.le_trans o_2.2 k3.size) k4.size) k5.size)⟩⟩ ?_
    rintro _ _ w6 ⟨i, Ai, ci, rfl, rfl, hi, hoq, kk6, f_pk_6, f_q_6, o_6⟩
    refine C_seq (fun K16 hK16 => ?_)
    refine C_seq (fun K17 hK17 => ?_)
    refine C_region ?_
    refine R_pu (pu_move rfl) rfl ?_
    refine R_pu (pu_lss (p := i < 16) rfl rfl (by omega)) rfl ?_
    by_cases g7_2 : i < 16
    · refine R_pu (pu_true (pu_move rfl) g7_2) rfl ?_
      refine R_gpu rfl rfl (pu_move rfl) rfl ?_
      refine R_gpu rfl rfl (pu_move rfl) rfl ?_
      refine R_gpu rfl rfl (pu_add (z := (((16 * a) + i : Nat) : Int)) rfl rfl (by rw [IntKind.wrap_i64]; omega)) rfl ?_
      refine R_gpu rfl rfl (pu_move rfl) rfl ?_
      refine R_gpu rfl rfl (pu_len Tryz.underlying22 rfl) rfl ?_
      refine R_gpu rfl rfl (pu_lss (p := ((16 * a) + i) < m.length) rfl rfl (by omega)) rfl ?_
      refine R_pu (pu_pickt rfl rfl) rfl ?_
      refine R_nil ?_
      refine X_then hK17 ?_
      refine C_dec rfl (fun h32 => ?_) (fun h32 => ?_)
      · refine C_skip ?_
        refine X_then hK16 ?_
        refine C_seq (fun K18 hK18 => ?_)
        refine C_block ?_
        refine D_begin (fun W => Kp No w W ∧ Bk W pk (u8s (RKL K)) 42 ∧ Bk W q (u8s (ctrB K N (2 + a))) 40) 14 rfl (by kernel_rfl) ⟨kk6.drew, f_pk_6.draw, f_q_6.draw⟩ ?_
        intro w7 k7 _
        have kk7 := kk6.then_ k7
        refine D_take 0 rfl (by kernel_rfl) (by kernel_rfl) (by kernel_rfl) (fun _ _ _ h => h) rfl (fun W hS => pu_move rfl) ?_
        refine D_take 1 rfl (by kernel_rfl) (by kernel_rfl) (by kernel_rfl) (fun _ _ _ h => h) rfl (fun W hS => pu_move rfl) ?_
        refine D_take 2 rfl (by kernel_rfl) (by kernel_rfl) (by kernel_rfl) (fun _ _ _ h => h) rfl (fun W hS => pu_move rfl) ?_
        refine D_take 3 rfl (by kernel_rfl) (by kernel_rfl) (by kernel_rfl) (fun _ _ _ h => h) rfl (fun W hS => pu_move rfl) ?_
        refine D_take 4 rfl (by kernel_rfl) (by kernel_rfl) (by kernel_rfl) (fun _ _ _ h => h) rfl (fun W hS => pu_add (z := (((16 * a) + i : Nat) : Int)) rfl rfl (by rw [IntKind.wrap_i64]; omega)) ?_
        refine D_take 5 rfl (by kernel_rfl) (by kernel_rfl) (by kernel_rfl) (fun _ _ _ h => h) rfl (fun W hS => pu_indexAddrB (m := (16 * a) + i) (HM.keptNo hS.1) Tryz.underlying22 (by kernel_rfl) rfl rfl rfl rfl (by omega)) ?_
        obtain ⟨x, e_x⟩ : ∃ q_, (m)[(16 * a) + i]? = some q_ := ⟨_, List.getElem?_eq_getElem (by omega)⟩
        have b_x : x < 256 := ((HM.keptNo kk7)).lt e_x
        refine D_take 6 rfl (by kernel_rfl) (by kernel_rfl) (by kernel_rfl) (fun _ _ _ h => h) rfl (fun W hS => pu_loadB (HM.keptNo hS.1) (by kernel_rfl) rfl e_x) ?_
        refine D_take 7 rfl (by kernel_rfl) (by kernel_rfl) (by kernel_rfl) (fun _ _ _ h => h) rfl (fun W hS => pu_move rfl) ?_
        refine D_take 8 rfl (by kernel_rfl) (by kernel_rfl) (by kernel_rfl) (fun _ _ _ h => h) rfl (fun W hS => pu_indexAddrA (m := i) (s := 1) (o' := i) Tryz.underlying40 (by kernel_rfl) rfl rfl rfl (by omega) (by omega)) ?_
        obtain ⟨s, e_s⟩ : ∃ q_, (ctrB K N (2 + a))[i]? = some q_ := ⟨_, List.getElem?_eq_getElem (by rw [((ctrB_by _ bN _)).1]; omega)⟩
        have b_s : s < 256 := ((ctrB_by _ bN _)).2 _ (List.mem_of_getElem? e_s)
        refine D_take 9 rfl (by kernel_rfl) (by kernel_rfl) (by kernel_rfl) (fun _ _ _ h => h) rfl (fun W hS => pu_loadK hS.2.2 (by kernel_rfl) rfl (u8s_get e_s)) ?_
        refine D_take 10 rfl (by kernel_rfl) (by kernel_rfl) (by kernel_rfl) (fun _ _ _ h => h) rfl (fun W hS => pu_xor rfl rfl (u8_xor_nat x s b_x b_s)) ?_
        have f19 : Bk w7 pk (u8s (RKL K)) 42 := (f_pk_6.no k7)
        have f20 : Bk w7 q (u8s (ctrB K N (2 + a))) 40 := (f_q_6.no k7)
        have ob21 := (o_6.1.keptNo k7)
        refine D_one 11 (by kernel_rfl) (Nx_lo rfl (lo_buildSlice (L := u8s ([x ^^^ s])) Tryz.underlying22 rfl (by kernel_rfl)) rfl ?_)
        rintro _ w8 ⟨lit, rfl, N8⟩
        have k8 := N8.kp
        have kk8 := kk7.then_ k8
        have ne_lit_pk : lit ≠ pk := Nat.ne_of_gt (Nat.lt_of_lt_of_le f19.lt N8.le)
        have ne_lit_q : lit ≠ q := Nat.ne_of_gt (Nat.lt_of_lt_of_le f20.lt N8.le)
        have f_lit_8 : Bk w8 lit (u8s ([x ^^^ s])) 5 := N8.bk
        have f22 : Bk w8 pk (u8s (RKL K)) 42 := (f19.no k8)
        have f23 : Bk w8 q (u8s (ctrB K N (2 + a))) 40 := (f20.no k8)
        refine ⟨⟨kk8, f22, f23⟩, ?_⟩
        have ob24 := (ob21.keptNo k8)
        refine D_one 12 (by kernel_rfl) (Nx_lo rfl (lo_appN (X := cphT K N m (16 * a + i)) (Y := [x ^^^ s]) ob24 ob24.le.1 rfl rfl (show By 1 [x ^^^ s] from ⟨rfl, fun n hn => by rw [List.mem_singleton.1 hn]; exact (Nat.xor_lt_two_pow (n := 8) b_x b_s)⟩).1 (Bs.ofBk f_lit_8 (show By 1 [x ^^^ s] from ⟨rfl, fun n hn => by rw [List.mem_singleton.1 hn]; exact (Nat.xor_lt_two_pow (n := 8) b_x b_s)⟩)) (by rw [cphT_len]; simp; omega) (Nat.le_trans (Nat.le_trans o_6.2 k7.size) k8.size)) rfl ?_)
        rintro _ w9 ⟨A_9, c_9, rfl, p9⟩
        have k9 := p9.kpo
        have kk9 := kk8.trans k9 (fun i hi => .inr (Nat.le_trans (kk1).size (ob24.lt i hi).1))
        have f25 : Bk w9 pk (u8s (RKL K)) 42 := (f22.kept k9 (fun e => by have h1 := (ob24.lt _ e).1; have h2 := f_pk_1.lt; omega))
        have f26 : Bk w9 q (u8s (ctrB K N (2 + a))) 40 := (f23.kept k9 (fun e => hoq _ e rfl))
        refine ⟨⟨kk9, f25, f26⟩, ?_⟩
        refine D_take 13 rfl (by kernel_rfl) (by kernel_rfl) (by kernel_rfl) (fun _ _ _ h => h) rfl (fun W hS => pu_assign rfl) ?_
        refine D_done (by kernel_rfl) ?_
        refine X_in_normal ?_
        refine X_then hK18 ?_
        refine C_region ?_
        refine R_pu (pu_move rfl) rfl ?_
        refine R_pu (pu_add (z := ((i + 1 : Nat) : Int)) rfl rfl (by rw [IntKind.wrap_i64]; omega)) rfl ?_
        refine R_pu (pu_assign rfl) rfl ?_
        refine R_nil ?_
        refine X_round (16 - (i + 1)) [(1, .slice A (N.length) (c)), (2, .slice A2 (m.length) (c2)), (3, .pointer (some ⟨pk, 0, none⟩)), (6, .slice none (0) (0)), (7, .slice A_9 ((cphT K N m (16 * a + (i + 1))).length) (c_9)), (8, .int .i64 ((16 * a : Nat) : Int)), (9, .pointer (some ⟨q, 0, none⟩)), (10, .int .i64 (((i + 1) : Nat) : Int))] (by omega) (Sub.cons rfl (Sub.cons rfl (Sub.cons rfl (Sub.cons rfl (Sub.consE rfl (by rw [← cphT_step (by omega) e_x e_s]) (Sub.cons rfl (Sub.cons rfl (Sub.cons rfl (Sub.nil _))))))))) ⟨i + 1, A_9, c_9, rfl, rfl, by omega, (by rw [← cphT_step (by omega) e_x e_s]; exact (p9.ne hoq f23.lt)), kk9, f25, f26, ⟨by rw [← cphT_step (by omega) e_x e_s]; exact p9.ob, (Nat.le_trans (Nat.le_trans (Nat.le_trans o_6.2 k7.size) k8.size) k9.size)⟩⟩
      · refine C_exit ?_
        refine X_then_exit (X_then_exit (X_in_eq ?_))
        refine X_in_normal ?_
        refine X_then hK9 ?_
        refine C_region ?_
        refine R_pu (pu_move rfl) rfl ?_
        refine R_pu (pu_add (z := (((16 * a) + 16 : Nat) : Int)) rfl rfl (by rw [IntKind.wrap_i64]; omega)) rfl ?_
        refine R_pu (pu_assign rfl) rfl ?_
        refine R_nil ?_
        refine X_round (m.length + 16 - 16 * (a + 1)) [(1, .slice A (N.length) (c)), (2, .slice A2 (m.length) (c2)), (3, .pointer (some ⟨pk, 0, none⟩)), (6, .slice none (0) (0)), (7, .slice Ai ((cphT K N m (16 * (a + 1))).length) (ci)), (8, .int .i64 ((16 * (a + 1) : Nat) : Int))] (by omega) (Sub.cons rfl (Sub.cons rfl (Sub.cons rfl (Sub.cons rfl (Sub.consE rfl (by rw [← cphT_end (i := i) (by omega) (by omega)]) (Sub.cons rfl (Sub.nil _))))))) ⟨a + 1, Ai, ci, rfl, rfl, by omega, kk6, f_pk_6, ⟨by rw [← cphT_end (i := i) (by omega) (by omega)]; exact o_6.1, o_6.2⟩⟩
    · refine R_pu (pu_false (pu_move rfl) g7_2) rfl ?_
      refine R_gno rfl rfl rfl rfl ?_
      refine R_gno rfl rfl rfl rfl ?_
      refine R_gno rfl rfl rfl rfl ?_
      refine R_gno rfl rfl rfl rfl ?_
      refine R_gno rfl rfl rfl rfl ?_
      refine R_gno rfl rfl rfl rfl ?_
      refine R_pu (pu_pickf rfl rfl) rfl ?_
      refine R_nil ?_
      refine X_then hK17 ?_
      refine C_false rfl ?_
      refine C_exit ?_
      refine X_then_exit (X_then_exit (X_in_eq ?_))
      refine X_in_normal ?_
      refine X_then hK9 ?_
      refine C_region ?_
      refine R_pu (pu_move rfl) rfl ?_
      refine R_pu (pu_add (z := (((16 * a) + 16 : Nat) : Int)) rfl rfl (by rw [IntKind.wrap_i64]; omega)) rfl ?_
      refine R_pu (pu_assign rfl) rfl ?_
      refine R_nil ?_
      refine X_round (m.length + 16 - 16 * (a + 1)) [(1, .slice A (N.length) (c)), (2, .slice A2 (m.length) (c2)), (3, .pointer (some ⟨pk, 0, none⟩)), (6, .slice none (0) (0)), (7, .slice Ai ((cphT K N m (16 * (a + 1))).length) (ci)), (8, .int .i64 ((16 * (a + 1) : Nat) : Int))] (by omega) (Sub.cons rfl (Sub.cons rfl (Sub.cons rfl (Sub.cons rfl (Sub.consE rfl (by rw [← cphT_end (i := i) (by omega) (by omega)]) (Sub.cons rfl (Sub.nil _))))))) ⟨a + 1, Ai, ci, rfl, rfl, by omega, kk6, f_pk_6, ⟨by rw [← cphT_end (i := i) (by omega) (by omega)]; exact o_6.1, o_6.2⟩⟩
  · refine C_exit ?_
    refine X_then_exit (X_then_exit (X_in_eq ?_))
    refine X_then hK3 ?_
    refine C_seq (fun K27 hK27 => ?_)
    refine C_region ?_
    refine R_pu (pu_move rfl) rfl ?_
    refine R_pu (pu_assign rfl) rfl ?_
    refine R_nil ?_
    refine X_then hK27 ?_
    refine C_ret ?_
    exact X_ret1 (.inl rfl) rfl rfl (by have e := cphT_all (K := K) (L := m) bN (show m.length ≤ 16 * a by omega); have h1 := o_2.1.low ((kk1).size); rw [e] at h1 ⊢; exact ⟨_, _, rfl, h1, kk2⟩)
set_option maxRecDepth 100000 in
set_option maxHeartbeats 2000000 in
theorem ref11_tag (K : List Nat) (A : Option Addr) (N : List Nat) (c : Nat) (A2 : Option Addr) (m : List Nat) (c2 : Nat) (A3 : Option Addr) (D : List Nat) (c3 : Nat) (w : World) (bN : By 12 N) (HN : Bs w A N) (hcn : N.length ≤ c) (HM : Bs w A2 m) (hcm : m.length ≤ c2) (HD : Bs w A3 D) (hcd : D.length ≤ c3) (hs : m.length ≤ 2064 ∧ D.length ≤ 2048) : Ret Tryz.prog 22 #[.agg (u8s (RKL K) : List Value).toArray, .slice A (N.length) (c), .slice A2 (m.length) (c2), .slice A3 (D.length) (c3)] w (fun v w' => ∃ q, v = .slice (some ⟨q, 0, none⟩) 16 16 ∧ w.heap.size ≤ q ∧ Bk w' q (u8s (tagB K N m D)) 40 ∧ Kp No w w') := by
  obtain ⟨hs1, hs2⟩ := id hs
  have kk0 := Kp.refl No w
  refine enter (n := 20) [.agg (u8s (RKL K) : List Value).toArray, .slice A (N.length) (c), .slice A2 (m.length) (c2), .slice A3 (D.length) (c3)] Tryz.func22 rfl rfl rfl ?_
  show Cw _ _ _ _ [(0, .agg (u8s (RKL K) : List Value).toArray), (1, .slice A (N.length) (c)), (2, .slice A2 (m.length) (c2)), (3, .slice A3 (D.length) (c3))] _
  refine C_seq (fun K1 hK1 => ?_)
  refine C_region ?_
  refine R_lo (lo_box (L := u8s (RKL K)) rfl rfl) rfl ?_
  rintro _ w1 ⟨pk, rfl, N1⟩
  have k1 := N1.kp
  have kk1 := kk0.then_ k1
  have f_pk_1 : Bk w1 pk (u8s (RKL K)) 42 := N1.bk
  refine R_pu (pu_assign rfl) rfl ?_
  refine R_nil ?_
  refine X_then hK1 ?_
  refine C_seq (fun K2 hK2 => ?_)
  refine Z_begin (fun W => Kp No w W ∧ Bk W pk (u8s (RKL K)) 42) 10 11 rfl (by kernel_rfl) ⟨kk1.drew, f_pk_1.draw⟩ ?_
  intro w2 k2 _
  have kk2 := kk1.then_ k2
  refine Z_take 0 rfl (by kernel_rfl) (by kernel_rfl) (by kernel_rfl) (by kernel_rfl) (by kernel_rfl) (fun _ _ _ h => h) rfl (fun W hS => pu_fieldAddr (off := 496) (o' := 496) (by kernel_rfl) rfl rfl) ?_
  refine Z_take 1 rfl (by kernel_rfl) (by kernel_rfl) (by kernel_rfl) (by kernel_rfl) (by kernel_rfl) (fun _ _ _ h => h) rfl (fun W hS => pu_loadMid (len := 16) (C := u8s (gmH K)) hS.2 (by kernel_rfl) (by kernel_rfl) rfl ((u8s_mid _ _ _).trans (congrArg u8s (RKL_h K))) (by rw [u8s_length]; exact (gmH_by K).1)) ?_
  refine Z_take 2 rfl (by kernel_rfl) (by kernel_rfl) (by kernel_rfl) (by kernel_rfl) (by kernel_rfl) (fun _ _ _ h => h) rfl (fun W hS => pu_move rfl) ?_
  refine Z_take 3 rfl (by kernel_rfl) (by kernel_rfl) (by kernel_rfl) (by kernel_rfl) (by kernel_rfl) (fun _ _ _ h => h) rfl (fun W hS => pu_move rfl) ?_
  refine Z_take 5 rfl (by kernel_rfl) (by kernel_rfl) (by kernel_rfl) (by kernel_rfl) (by kernel_rfl) (fun _ _ _ h => h) rfl (fun W hS => pu_loadRow (len := 512) hS.2 (by kernel_rfl) (by kernel_rfl) (by rw [u8s_length]; exact (RKL_by K).1) rfl) ?_
  refine Z_take 6 rfl (by kernel_rfl) (by kernel_rfl) (by kernel_rfl) (by kernel_rfl) (by kernel_rfl) (fun _ _ _ h => h) rfl (fun W hS => pu_move rfl) ?_
  refine Z_two 4 9 (by kernel_rfl) ?_ ?_
  · refine Nz_lo rfl (lo_call (by kernel_rfl) rfl (ref_hash (gmH K) (gmH_by K) A3 A2 D m c3 c2 _ (HD.keptNo kk2) hcd (HM.keptNo kk2) hcm (by first | omega | (simp; done) | (simp; omega)) (by first | omega | (simp; done) | (simp; omega)))) rfl ?_
    rintro _ w3 ⟨rfl, k3⟩
    have kk3 := kk2.then_ k3
    have f3 : Bk w3 pk (u8s (RKL K)) 42 := ((f_pk_1.no k2).no k3)
    refine ⟨⟨kk3, f3⟩, ?_⟩
    refine Z_two 7 9 (by kernel_rfl) ?_ ?_
    · refine Nz_lo rfl (lo_call (by kernel_rfl) rfl (ref11_counter K A N c 1 _ bN (HN.keptNo kk3) hcn (by decide))) rfl ?_
      rintro _ w4 ⟨rfl, k4⟩
      have kk4 := kk3.then_ k4
      have f4 : Bk w4 pk (u8s (RKL K)) 42 := (f3.no k4)
      refine ⟨⟨kk4, f4⟩, ?_⟩
      refine Z_two 8 9 (by kernel_rfl) ?_ ?_
      · refine Nz_lo rfl (lo_call (by kernel_rfl) rfl (ref_add (hashB (gmH K) D m) (ctrB K N 1) (hashB_by _ _ _) (ctrB_by _ bN _) _)) rfl ?_
        rintro _ w5 ⟨rfl, k5⟩
        have kk5 := kk4.then_ k5
        have f5 : Bk w5 pk (u8s (RKL K)) 42 := (f4.no k5)
        refine ⟨⟨kk5, f5⟩, ?_⟩
        refine Z_one 9 (by kernel_rfl) (Nz_lo rfl (lo_alloc (L := u8s (List.replicate 16 0)) (by kernel_rfl)) rfl ?_)
        rintro _ w6 ⟨q, rfl, N6⟩
        have k6 := N6.kp
        have kk6 := kk5.then_ k6
        have ne_q_pk : q ≠ pk := Nat.ne_of_gt (Nat.lt_of_lt_of_le f5.lt N6.le)
        have f_q_6 : Bk w6 q (u8s (List.replicate 16 0)) 40 := N6.bk
        have f6 : Bk w6 pk (u8s (RKL K)) 42 := (f5.no k6)
        refine ⟨⟨kk6, f6⟩, ?_⟩
        refine Z_last 10 (by kernel_rfl) rfl (by kernel_rfl) (by kernel_rfl) (lo_storeRow (C := u8s (xorL (hashB (gmH K) D m) (ctrB K N 1))) f_q_6 (by rw [u8s_length, (xorL_by (hashB_by _ _ _) (ctrB_by _ bN _)).1]; kernel_rfl) rfl rfl (u8s_each _) ((u8s_length _).trans ((xorL_by (hashB_by _ _ _) (ctrB_by _ bN _)).1.trans ((rep_by 16).1.symm.trans (u8s_length _).symm)))) ?_
        rintro _ w7 kf7
        obtain ⟨k7, f_q_7⟩ := kf7
        replace f_q_7 : Bk w7 q (u8s (xorL (hashB (gmH K) D m) (ctrB K N 1))) 40 := f_q_7
        have kk7 := kk6.trans k7 (fun i hi => .inr (hi ▸ (Nat.le_trans kk5.size N6.le)))
        refine X_then hK2 ?_
        refine C_seq (fun K7 hK7 => ?_)
        refine C_region ?_
        refine R_pu (pu_sliceArr Tryz.underlying40 (by kernel_rfl) rfl) rfl ?_
        refine R_pu (pu_assign rfl) rfl ?_
        refine R_nil ?_
        refine X_then hK7 ?_
        refine C_ret ?_
        exact X_ret1 (.inl rfl) rfl rfl ⟨q, rfl, (Nat.le_trans kk5.size N6.le), Bk.eq f_q_7 (congrArg u8s (addB_xorL' (hashB_by _ _ _) (ctrB_by _ bN _))), kk7⟩
      · refine Nz_lo rfl (lo_alloc (L := u8s (List.replicate 16 0)) (by kernel_rfl)) rfl ?_
        rintro _ w8 ⟨q, rfl, N8⟩
        have k8 := N8.kp
        have kk8 := kk4.then_ k8
        have ne_q_pk : q ≠ pk := Nat.ne_of_gt (Nat.lt_of_lt_of_le f4.lt N8.le)
        have f_q_8 : Bk w8 q (u8s (List.replicate 16 0)) 40 := N8.bk
        have f8 : Bk w8 pk (u8s (RKL K)) 42 := (f4.no k8)
        refine ⟨⟨kk8, f8⟩, ?_⟩
        refine Z_one 8 (by kernel_rfl) (Nz_lo rfl (lo_call (by kernel_rfl) rfl (ref_add (hashB (gmH K) D m) (ctrB K N 1) (hashB_by _ _ _) (ctrB_by _ bN _) _)) rfl ?_)
        rintro _ w9 ⟨rfl, k9⟩
        have kk9 := kk8.then_ k9
        have f9 : Bk w9 pk (u8s (RKL K)) 42 := (f8.no k9)
        refine ⟨⟨kk9, f9⟩, ?_⟩
        have f10 : Bk w9 q (u8s (List.replicate 16 0)) 40 := (f_q_8.no k9)
        refine Z_last 10 (by kernel_rfl) rfl (by kernel_rfl) (by kernel_rfl) (lo_storeRow (C := u8s (xorL (hashB (gmH K) D m) (ctrB K N 1))) f10 (by rw [u8s_length, (xorL_by (hashB_by _ _ _) (ctrB_by _ bN _)).1]; kernel_rfl) rfl rfl (u8s_each _) ((u8s_length _).trans ((xorL_by (hashB_by _ _ _) (ctrB_by _ bN _)).1.trans ((rep_by 16).1.symm.trans (u8s_length _).symm)))) ?_
        rintro _ w10 kf10
        obtain ⟨k10, f_q_10⟩ := kf10
        replace f_q_10 : Bk w10 q (u8s (xorL (hashB (gmH K) D m) (ctrB K N 1))) 40 := f_q_10
        have kk10 := kk9.trans k10 (fun i hi => .inr (hi ▸ (Nat.le_trans kk4.size N8.le)))
        refine X_then hK2 ?_
        refine C_seq (fun K11 hK11 => ?_)
        refine C_region ?_
        refine R_pu (pu_sliceArr Tryz.underlying40 (by kernel_rfl) rfl) rfl ?_
        refine R_pu (pu_assign rfl) rfl ?_
        refine R_nil ?_
        refine X_then hK11 ?_
        refine C_ret ?_
        exact X_ret1 (.inl rfl) rfl rfl ⟨q, rfl, (Nat.le_trans kk4.size N8.le), Bk.eq f_q_10 (congrArg u8s (addB_xorL' (hashB_by _ _ _) (ctrB_by _ bN _))), kk10⟩
    · refine Nz_lo rfl (lo_alloc (L := u8s (List.replicate 16 0)) (by kernel_rfl)) rfl ?_
      rintro _ w11 ⟨q, rfl, N11⟩
      have k11 := N11.kp
      have kk11 := kk3.then_ k11
      have ne_q_pk : q ≠ pk := Nat.ne_of_gt (Nat.lt_of_lt_of_le f3.lt N11.le)
      have f_q_11 : Bk w11 q (u8s (List.replicate 16 0)) 40 := N11.bk
      have f12 : Bk w11 pk (u8s (RKL K)) 42 := (f3.no k11)
      refine ⟨⟨kk11, f12⟩, ?_⟩
      refine Z_one 7 (by kernel_rfl) (Nz_lo rfl (lo_call (by kernel_rfl) rfl (ref11_counter K A N c 1 _ bN (HN.keptNo kk11) hcn (by decide))) rfl ?_)
      rintro _ w12 ⟨rfl, k12⟩
      have kk12 := kk11.then_ k12
      have f13 : Bk w12 pk (u8s (RKL K)) 42 := (f12.no k12)
      refine ⟨⟨kk12, f13⟩, ?_⟩
      refine Z_one 8 (by kernel_rfl) (Nz_lo rfl (lo_call (by kernel_rfl) rfl (ref_add (hashB (gmH K) D m) (ctrB K N 1) (hashB_by _ _ _) (ctrB_by _ bN _) _)) rfl ?_)
      rintro _ w13 ⟨rfl, k13⟩
      have kk13 := kk12.then_ k13
      have f14 : Bk w13 pk (u8s (RKL K)) 42 := (f13.no k13)
      refine ⟨⟨kk13, f14⟩, ?_⟩
      have f15 : Bk w13 q (u8s (List.replicate 16 0)) 40 := ((f_q_11.no k12).no k13)
      refine Z_last 10 (by kernel_rfl) rfl (by kernel_rfl) (by kernel_rfl) (lo_storeRow (C := u8s (xorL (hashB (gmH K) D m) (ctrB K N 1))) f15 (by rw [u8s_length, (xorL_by (hashB_by _ _ _) (ctrB_by _ bN _)).1]; kernel_rfl) rfl rfl (u8s_each _) ((u8s_length _).trans ((xorL_by (hashB_by _ _ _) (ctrB_by _ bN _)).1.trans ((rep_by 16).1.symm.trans (u8s_length _).symm)))) ?_
      rintro _ w14 kf14
      obtain ⟨k14, f_q_14⟩ := kf14
      replace f_q_14 : Bk w14 q (u8s (xorL (hashB (gmH K) D m) (ctrB K N 1))) 40 := f_q_14
      have kk14 := kk13.trans k14 (fun i hi => .inr (hi ▸ (Nat.le_trans kk3.size N11.le)))
      refine X_then hK2 ?_
      refine C_seq (fun K16 hK16 => ?_)
      refine C_region ?_
      refine R_pu (pu_sliceArr Tryz.underlying40 (by kernel_rfl) rfl) rfl ?_
      refine R_pu (pu_assign rfl) rfl ?_
      refine R_nil ?_
      refine X_then hK16 ?_
      refine C_ret ?_
      exact X_ret1 (.inl rfl) rfl rfl ⟨q, rfl, (Nat.le_trans kk3.size N11.le), Bk.eq f_q_14 (congrArg u8s (addB_xorL' (hashB_by _ _ _) (ctrB_by _ bN _))), kk14⟩
  · have f17 : Bk w2 pk (u8s (RKL K)) 42 := (f_pk_1.no k2)
    refine Nz_lo rfl (lo_alloc (L := u8s (List.replicate 16 0)) (by kernel_rfl)) rfl ?_
    rintro _ w15 ⟨q, rfl, N15⟩
    have k15 := N15.kp
    have kk15 := kk2.then_ k15
    have ne_q_pk : q ≠ pk := Nat.ne_of_gt (Nat.lt_of_lt_of_le f17.lt N15.le)
    have f_q_15 : Bk w15 q (u8s (List.replicate 16 0)) 40 := N15.bk
    have f18 : Bk w15 pk (u8s (RKL K)) 42 := (f17.no k15)
    refine ⟨⟨kk15, f18⟩, ?_⟩
    refine Z_one 4 (by kernel_rfl) (Nz_lo rfl (lo_call (by kernel_rfl) rfl (ref_hash (gmH K) (gmH_by K) A3 A2 D m c3 c2 _ (HD.keptNo kk15) hcd (HM.keptNo kk15) hcm (by first | omega | (simp; done) | (simp; omega)) (by first | omega | (simp; done) | (simp; omega)))) rfl ?_)
    rintro _ w16 ⟨rfl, k16⟩
    have kk16 := kk15.then_ k16
    have f19 : Bk w16 pk (u8s (RKL K)) 42 := (f18.no k16)
    refine ⟨⟨kk16, f19⟩, ?_⟩
    refine Z_one 7 (by kernel_rfl) (Nz_lo rfl (lo_call (by kernel_rfl) rfl (ref11_counter K A N c 1 _ bN (HN.keptNo kk16) hcn (by decide))) rfl ?_)
    rintro _ w17 ⟨rfl, k17⟩
    have kk17 := kk16.then_ k17
    have f20 : Bk w17 pk (u8s (RKL K)) 42 := (f19.no k17)
    refine ⟨⟨kk17, f20⟩, ?_⟩
    refine Z_one 8 (by kernel_rfl) (Nz_lo rfl (lo_call (by kernel_rfl) rfl (ref_add (hashB (gmH K) D m) (ctrB K N 1) (hashB_by _ _ _) (ctrB_by _ bN _) _)) rfl ?_)
    rintro _ w18 ⟨rfl, k18⟩
    have kk18 := kk17.then_ k18
    have f21 : Bk w18 pk (u8s (RKL K)) 42 := (f20.no k18)
    refine ⟨⟨kk18, f21⟩, ?_⟩
    have f22 : Bk w18 q (u8s (List.replicate 16 0)) 40 := (((f_q_15.no k16).no k17).no k18)
    refine Z_last 10 (by kernel_rfl) rfl (by kernel_rfl) (by kernel_rfl) (lo_storeRow (C := u8s (xorL (hashB (gmH K) D m) (ctrB K N 1))) f22 (by rw [u8s_length, (xorL_by (hashB_by _ _ _) (ctrB_by _ bN _)).1]; kernel_rfl) rfl rfl (u8s_each _) ((u8s_length _).trans ((xorL_by (hashB_by _ _ _) (ctrB_by _ bN _)).1.trans ((rep_by 16).1.symm.trans (u8s_length _).symm)))) ?_
    rintro _ w19 kf19
    obtain ⟨k19, f_q_19⟩ := kf19
    replace f_q_19 : Bk w19 q (u8s (xorL (hashB (gmH K) D m) (ctrB K N 1))) 40 := f_q_19
    have kk19 := kk18.trans k19 (fun i hi => .inr (hi ▸ (Nat.le_trans kk2.size N15.le)))
    refine X_then hK2 ?_
    refine C_seq (fun K23 hK23 => ?_)
    refine C_region ?_
    refine R_pu (pu_sliceArr Tryz.underlying40 (by kernel_rfl) rfl) rfl ?_
    refine R_pu (pu_assign rfl) rfl ?_
    refine R_nil ?_
    refine X_then hK23 ?_
    refine C_ret ?_
    exact X_ret1 (.inl rfl) rfl rfl ⟨q, rfl, (Nat.le_trans kk2.size N15.le), Bk.eq f_q_19 (congrArg u8s (addB_xorL' (hashB_by _ _ _) (ctrB_by _ bN _))), kk19⟩
set_option maxRecDepth 100000 in
set_option maxHeartbeats 2000000 in
theorem ref11_seal (K : List Nat) (A : Option Addr) (N : List Nat) (c : Nat) (A2 : Option Addr) (m : List Nat) (c2 : Nat) (A3 : Option Addr) (D : List Nat) (c3 : Nat) (w : World) (bN : By 12 N) (HN : Bs w A N) (hcn : N.length ≤ c) (HM : Bs w A2 m) (hcm : m.length ≤ c2) (HD : Bs w A3 D) (hcd : D.length ≤ c3) (hs : m.length ≤ 2048 ∧ D.length ≤ 2048) : Ret Tryz.prog 11 #[.agg (u8s (RKL K) : List Value).toArray, .slice A (N.length) (c), .slice A2 (m.length) (c2), .slice A3 (D.length) (c3)] w (fun v w' => ∃ A c, v = .tuple #[.slice A (sealB K N m D).length c, .int .i64 0] ∧ Ob w' w.heap.size (.slice A (sealB K N m D).length c) (sealB K N m D) ∧ Kp No w w') := by
  obtain ⟨hs1, hs2⟩ := id hs; have hN12 := bN.1
  have kk0 := Kp.refl No w
  refine enter (n := 35) [.agg (u8s (RKL K) : List Value).toArray, .slice A (N.length) (c), .slice A2 (m.length) (c2), .slice A3 (D.length) (c3)] Tryz.func11 rfl rfl rfl ?_
  show Cw _ _ _ _ [(0, .agg (u8s (RKL K) : List Value).toArray), (1, .slice A (N.length) (c)), (2, .slice A2 (m.length) (c2)), (3, .slice A3 (D.length) (c3))] _
  refine C_seq (fun K1 hK1 => ?_)
  refine C_region ?_
  refine R_lo (lo_box (L := u8s (RKL K)) rfl rfl) rfl ?_
  rintro _ w1 ⟨pk, rfl, N1⟩
  have k1 := N1.kp
  have kk1 := kk0.then_ k1
  have f_pk_1 : Bk w1 pk (u8s (RKL K)) 42 := N1.bk
  refine R_pu (pu_assign rfl) rfl ?_
  refine R_pu (pu_assign rfl) rfl ?_
  refine R_nil ?_
  refine X_then hK1 ?_
  refine C_seq (fun K2 hK2 => ?_)
  refine C_seq (fun K3 hK3 => ?_)
  refine C_region ?_
  refine R_pu (pu_move rfl) rfl ?_
  refine R_pu (pu_len Tryz.underlying22 rfl) rfl ?_
  refine R_pu (pu_false (pu_neq (p := N.length = 12) rfl rfl (by omega)) (by omega)) rfl ?_
  refine R_pu (pu_move rfl) rfl ?_
  refine R_gpu rfl rfl (pu_move rfl) rfl ?_
  refine R_gpu rfl rfl (pu_len Tryz.underlying22 rfl) rfl ?_
  refine R_gpu rfl rfl (pu_false (pu_gtr (p := m.length > 2048) rfl rfl (by omega)) (by omega)) rfl ?_
  refine R_pu (pu_pickf rfl rfl) rfl ?_
  refine R_pu (pu_move rfl) rfl ?_
  refine R_gpu rfl rfl (pu_move rfl) rfl ?_
  refine R_gpu rfl rfl (pu_len Tryz.underlying22 rfl) rfl ?_
  refine R_gpu rfl rfl (pu_false (pu_gtr (p := D.length > 2048) rfl rfl (by omega)) (by omega)) rfl ?_
  refine R_pu (pu_pickf rfl rfl) rfl ?_
  refine R_nil ?_
  refine X_then hK3 ?_
  refine C_false rfl ?_
  refine C_skip ?_
  refine X_then hK2 ?_
  refine C_seq (fun K4 hK4 => ?_)
  refine C_region ?_
  refine R_pu (pu_loadRow (len := 512) f_pk_1 (by kernel_rfl) (by kernel_rfl) (by rw [u8s_length]; exact (RKL_by K).1) rfl) rfl ?_
  refine R_pu (pu_move rfl) rfl ?_
  refine R_pu (pu_move rfl) rfl ?_
  refine R_lo (lo_call (by kernel_rfl) rfl (ref11_cipher K A N c A2 m c2 _ bN (HN.keptNo kk1) hcn (HM.keptNo kk1) hcm (by omega))) rfl ?_
  rintro _ w2 ⟨A_cp, c_cp, rfl, Q2, k2⟩
  have kk2 := kk1.then_ k2
  have z5 : w1.heap.size ≤ w2.heap.size := k2.size
  refine R_pu (pu_assign rfl) rfl ?_
  refine R_nil ?_
  refine X_then hK4 ?_
  refine C_seq (fun K6 hK6 => ?_)
  have hcl := cphB_length (K := K) (L := m) bN
  refine C_region ?_
  refine R_pu (pu_move rfl) rfl ?_
  have f7 : Bk w2 pk (u8s (RKL K)) 42 := (f_pk_1.no k2)
  refine R_pu (pu_loadRow (len := 512) f7 (by kernel_rfl) (by kernel_rfl) (by rw [u8s_length]; exact (RKL_by K).1) rfl) rfl ?_
  refine R_pu (pu_move rfl) rfl ?_
  refine R_pu (pu_move rfl) rfl ?_
  refine R_pu (pu_move rfl) rfl ?_
  refine R_lo (lo_call (by kernel_rfl) rfl (ref11_tag K A N c A_cp (cphB K N m) c_cp A3 D c3 _ bN (HN.keptNo kk2) hcn Q2.bs Q2.le.2 (HD.keptNo kk2) hcd ⟨by omega, hs2⟩)) rfl ?_
  rintro _ w3 ⟨tq4, rfl, le3, B3, k3⟩
  have kk3 := kk2.then_ k3
  have ne_tq4_pk : tq4 ≠ pk := Nat.ne_of_gt (Nat.lt_of_lt_of_le f7.lt le3)
  have ob8 := (Q2.keptNo k3)
  refine R_lo (lo_app (X := cphB K N m) (Y := tagB K N (cphB K N m) D) ob8 ob8.le.1 rfl rfl (tagB_by _ _ _ _).1 (Bs.ofBk B3 (tagB_by _ _ _ _)) (by rw [hcl, (tagB_by _ _ _ _).1]; omega) (Nat.le_trans z5 k3.size)) rfl ?_
  rintro _ w4 ⟨A_4, c_4, rfl, p4⟩
  have k4 := p4.kp
  have kk4 := kk3.trans k4 (fun i hi => .inr (Nat.le_trans (kk1).size hi))
  refine R_pu (pu_assign rfl) rfl ?_
  refine R_pu (pu_assign rfl) rfl ?_
  refine R_nil ?_
  refine X_then hK6 ?_
  refine C_ret ?_
  exact X_ret2 (.inl rfl) rfl rfl rfl ⟨_, _, rfl, p4.ob.low ((kk1).size), kk4⟩
set_option maxRecDepth 100000 in
set_option maxHeartbeats 2000000 in
theorem ref11_seal_arg (K : List Nat) (A : Option Addr) (N : List Nat) (c : Nat) (A2 : Option Addr) (m : List Nat) (c2 : Nat) (A3 : Option Addr) (D : List Nat) (c3 : Nat) (w : World) (HN : Bs w A N) (hcn : N.length ≤ c) (HM : Bs w A2 m) (hcm : m.length ≤ c2) (HD : Bs w A3 D) (hcd : D.length ≤ c3) (h : ¬ (N.length = 12 ∧ m.length ≤ 2048 ∧ D.length ≤ 2048)) : Ret Tryz.prog 11 #[.agg (u8s (RKL K) : List Value).toArray, .slice A (N.length) (c), .slice A2 (m.length) (c2), .slice A3 (D.length) (c3)] w (fun v w' => v = .tuple #[.slice none 0 0, .int .i64 1] ∧ Kp No w w') := by
  have kk0 := Kp.refl No w
  refine enter (n := 35) [.agg (u8s (RKL K) : List Value).toArray, .slice A (N.length) (c), .slice A2 (m.length) (c2), .slice A3 (D.length) (c3)] Tryz.func11 rfl rfl rfl ?_
  show Cw _ _ _ _ [(0, .agg (u8s (RKL K) : List Value).toArray), (1, .slice A (N.length) (c)), (2, .slice A2 (m.length) (c2)), (3, .slice A3 (D.length) (c3))] _
  refine C_seq (fun K1 hK1 => ?_)
  refine C_region ?_
  refine R_lo (lo_box (L := u8s (RKL K)) rfl rfl) rfl ?_
  rintro _ w1 ⟨pk, rfl, N1⟩
  have k1 := N1.kp
  have kk1 := kk0.then_ k1
  have f_pk_1 : Bk w1 pk (u8s (RKL K)) 42 := N1.bk
  refine R_pu (pu_assign rfl) rfl ?_
  refine R_pu (pu_assign rfl) rfl ?_
  refine R_nil ?_
  refine X_then hK1 ?_
  refine C_seq (fun K2 hK2 => ?_)
  refine C_seq (fun K3 hK3 => ?_)
  refine C_region ?_
  refine R_pu (pu_move rfl) rfl ?_
  refine R_pu (pu_len Tryz.underlying22 rfl) rfl ?_
  refine R_pu (pu_neq (p := N.length = 12) rfl rfl (by omega)) rfl ?_
  by_cases g1_3 : ¬ (N.length = 12)
  · refine R_pu (pu_true (pu_move rfl) g1_3) rfl ?_
    refine R_gno rfl rfl rfl rfl ?_
    refine R_gno rfl rfl rfl rfl ?_
    refine R_gno rfl rfl rfl rfl ?_
    refine R_pu (pu_pickt rfl rfl) rfl ?_
    refine R_pu (pu_move rfl) rfl ?_
    refine R_gno rfl rfl rfl rfl ?_
    refine R_gno rfl rfl rfl rfl ?_
    refine R_gno rfl rfl rfl rfl ?_
    refine R_pu (pu_pickt rfl rfl) rfl ?_
    refine R_nil ?_
    refine X_then hK3 ?_
    refine C_true rfl ?_
    refine C_seq (fun K4 hK4 => ?_)
    refine C_region ?_
    refine R_pu (pu_assign rfl) rfl ?_
    refine R_pu (pu_assign rfl) rfl ?_
    refine R_nil ?_
    refine X_then hK4 ?_
    refine C_ret ?_
    refine X_then_ret ?_
    exact X_ret2 (.inl rfl) rfl rfl rfl ⟨rfl, kk1⟩
  · refine R_pu (pu_false (pu_move rfl) g1_3) rfl ?_
    refine R_gpu rfl rfl (pu_move rfl) rfl ?_
    refine R_gpu rfl rfl (pu_len Tryz.underlying22 rfl) rfl ?_
    refine R_gpu rfl rfl (pu_gtr (p := m.length > 2048) rfl rfl (by omega)) rfl ?_
    refine R_pu (pu_pickf rfl rfl) rfl ?_
    by_cases g1_8 : m.length > 2048
    · refine R_pu (pu_true (pu_move rfl) g1_8) rfl ?_
      refine R_gno rfl rfl rfl rfl ?_
      refine R_gno rfl rfl rfl rfl ?_
      refine R_gno rfl rfl rfl rfl ?_
      refine R_pu (pu_pickt rfl rfl) rfl ?_
      refine R_nil ?_
      refine X_then hK3 ?_
      refine C_true rfl ?_
      refine C_seq (fun K5 hK5 => ?_)
      refine C_region ?_
      refine R_pu (pu_assign rfl) rfl ?_
      refine R_pu (pu_assign rfl) rfl ?_
      refine R_nil ?_
      refine X_then hK5 ?_
      refine C_ret ?_
      refine X_then_ret ?_
      exact X_ret2 (.inl rfl) rfl rfl rfl ⟨rfl, kk1⟩
    · refine R_pu (pu_false (pu_move rfl) g1_8) rfl ?_
      refine R_gpu rfl rfl (pu_move rfl) rfl ?_
      refine R_gpu rfl rfl (pu_len Tryz.underlying22 rfl) rfl ?_
      refine R_gpu rfl rfl (pu_true (pu_gtr (p := D.length > 2048) rfl rfl (by omega)) (by omega)) rfl ?_
      refine R_pu (pu_pickf rfl rfl) rfl ?_
      refine R_nil ?_
      refine X_then hK3 ?_
      refine C_true rfl ?_
      refine C_seq (fun K6 hK6 => ?_)
      refine C_region ?_
      refine R_pu (pu_assign rfl) rfl ?_
      refine R_pu (pu_assign rfl) rfl ?_
      refine R_nil ?_
      refine X_then hK6 ?_
      refine C_ret ?_
      refine X_then_ret ?_
      exact X_ret2 (.inl rfl) rfl rfl rfl ⟨rfl, kk1⟩
set_option maxRecDepth 100000 in
set_option maxHeartbeats 2000000 in
theorem ref11_open_arg (K : List Nat) (A : Option Addr) (N : List Nat) (c : Nat) (A2 : Option Addr) (m : List Nat) (c2 : Nat) (A3 : Option Addr) (D : List Nat) (c3 : Nat) (w : World) (HN : Bs w A N) (hcn : N.length ≤ c) (HM : Bs w A2 m) (hcm : m.length ≤ c2) (HD : Bs w A3 D) (hcd : D.length ≤ c3) (h : ¬ (N.length = 12 ∧ m.length ≤ 2064 ∧ D.length ≤ 2048)) : Ret Tryz.prog 12 #[.agg (u8s (RKL K) : List Value).toArray, .slice A (N.length) (c), .slice A2 (m.length) (c2), .slice A3 (D.length) (c3)] w (fun v w' => v = .tuple #[.slice none 0 0, .int .i64 1] ∧ Kp No w w') := by
  have kk0 := Kp.refl No w
  refine enter (n := 50) [.agg (u8s (RKL K) : List Value).toArray, .slice A (N.length) (c), .slice A2 (m.length) (c2), .slice A3 (D.length) (c3)] Tryz.func12 rfl rfl rfl ?_
  show Cw _ _ _ _ [(0, .agg (u8s (RKL K) : List Value).toArray), (1, .slice A (N.length) (c)), (2, .slice A2 (m.length) (c2)), (3, .slice A3 (D.length) (c3))] _
  refine C_seq (fun K1 hK1 => ?_)
  refine C_region ?_
  refine R_lo (lo_box (L := u8s (RKL K)) rfl rfl) rfl ?_
  rintro _ w1 ⟨pk, rfl, N1⟩
  have k1 := N1.kp
  have kk1 := kk0.then_ k1
  have f_pk_1 : Bk w1 pk (u8s (RKL K)) 42 := N1.bk
  refine R_pu (pu_assign rfl) rfl ?_
  refine R_pu (pu_assign rfl) rfl ?_
  refine R_nil ?_
  refine X_then hK1 ?_
  refine C_seq (fun K2 hK2 => ?_)
  refine C_seq (fun K3 hK3 => ?_)
  refine C_region ?_
  refine R_pu (pu_move rfl) rfl ?_
  refine R_pu (pu_len Tryz.underlying22 rfl) rfl ?_
  refine R_pu (pu_neq (p := N.length = 12) rfl rfl (by omega)) rfl ?_
  by_cases g1_3 : ¬ (N.length = 12)
  · refine R_pu (pu_true (pu_move rfl) g1_3) rfl ?_
    refine R_gno rfl rfl rfl rfl ?_
    refine R_gno rfl rfl rfl rfl ?_
    refine R_gno rfl rfl rfl rfl ?_
    refine R_pu (pu_pickt rfl rfl) rfl ?_
    refine R_pu (pu_move rfl) rfl ?_
    refine R_gno rfl rfl rfl rfl ?_
    refine R_gno rfl rfl rfl rfl ?_
    refine R_gno rfl rfl rfl rfl ?_
    refine R_pu (pu_pickt rfl rfl) rfl ?_
    refine R_nil ?_
    refine X_then hK3 ?_
    refine C_true rfl ?_
    refine C_seq (fun K4 hK4 => ?_)
    refine C_region ?_
    refine R_pu (pu_assign rfl) rfl ?_
    refine R_pu (pu_assign rfl) rfl ?_
    refine R_nil ?_
    refine X_then hK4 ?_
    refine C_ret ?_
    refine X_then_ret ?_
    exact X_ret2 (.inl rfl) rfl rfl rfl ⟨rfl, kk1⟩
  · refine R_pu (pu_false (pu_move rfl) g1_3) rfl ?_
    refine R_gpu rfl rfl (pu_move rfl) rfl ?_
    refine R_gpu rfl rfl (pu_len Tryz.underlying22 rfl) rfl ?_
    refine R_gpu rfl rfl (pu_gtr (p := m.length > 2064) rfl rfl (by omega)) rfl ?_
    refine R_pu (pu_pickf rfl rfl) rfl ?_
    by_cases g1_8 : m.length > 2064
    · refine R_pu (pu_true (pu_move rfl) g1_8) rfl ?_
      refine R_gno rfl rfl rfl rfl ?_
      refine R_gno rfl rfl rfl rfl ?_
      refine R_gno rfl rfl rfl rfl ?_
      refine R_pu (pu_pickt rfl rfl) rfl ?_
      refine R_nil ?_
      refine X_then hK3 ?_
      refine C_true rfl ?_
      refine C_seq (fun K5 hK5 => ?_)
      refine C_region ?_
      refine R_pu (pu_assign rfl) rfl ?_
      refine R_pu (pu_assign rfl) rfl ?_
      refine R_nil ?_
      refine X_then hK5 ?_
      refine C_ret ?_
      refine X_then_ret ?_
      exact X_ret2 (.inl rfl) rfl rfl rfl ⟨rfl, kk1⟩
    · refine R_pu (pu_false (pu_move rfl) g1_8) rfl ?_
      refine R_gpu rfl rfl (pu_move rfl) rfl ?_
      refine R_gpu rfl rfl (pu_len Tryz.underlying22 rfl) rfl ?_
      refine R_gpu rfl rfl (pu_true (pu_gtr (p := D.length > 2048) rfl rfl (by omega)) (by omega)) rfl ?_
      refine R_pu (pu_pickf rfl rfl) rfl ?_
      refine R_nil ?_
      refine X_then hK3 ?_
      refine C_true rfl ?_
      refine C_seq (fun K6 hK6 => ?_)
      refine C_region ?_
      refine R_pu (pu_assign rfl) rfl ?_
      refine R_pu (pu_assign rfl) rfl ?_
      refine R_nil ?_
      refine X_then hK6 ?_
      refine C_ret ?_
      refine X_then_ret ?_
      exact X_ret2 (.inl rfl) rfl rfl rfl ⟨rfl, kk1⟩
set_option maxRecDepth 100000 in
set_option maxHeartbeats 2000000 in
theorem ref11_open_short (K : List Nat) (A : Option Addr) (N : List Nat) (c : Nat) (A2 : Option Addr) (m : List Nat) (c2 : Nat) (A3 : Option Addr) (D : List Nat) (c3 : Nat) (w : World) (bN : By 12 N) (HN : Bs w A N) (hcn : N.length ≤ c) (HM : Bs w A2 m) (hcm : m.length ≤ c2) (HD : Bs w A3 D) (hcd : D.length ≤ c3) (hs : m.length ≤ 2064 ∧ D.length ≤ 2048) (hl : m.length < 16) : Ret Tryz.prog 12 #[.agg (u8s (RKL K) : List Value).toArray, .slice A (N.length) (c), .slice A2 (m.length) (c2), .slice A3 (D.length) (c3)] w (fun v w' => v = .tuple #[.slice none 0 0, .int .i64 11] ∧ Kp No w w') := by
  obtain ⟨hs1, hs2⟩ := id hs; have hN12 := bN.1
  have kk0 := Kp.refl No w
  refine enter (n := 50) [.agg (u8s (RKL K) : List Value).toArray, .slice A (N.length) (c), .slice A2 (m.length) (c2), .slice A3 (D.length) (c3)] Tryz.func12 rfl rfl rfl ?_
  show Cw _ _ _ _ [(0, .agg (u8s (RKL K) : List Value).toArray), (1, .slice A (N.length) (c)), (2, .slice A2 (m.length) (c2)), (3, .slice A3 (D.length) (c3))] _
  refine C_seq (fun K1 hK1 => ?_)
  refine C_region ?_
  refine R_lo (lo_box (L := u8s (RKL K)) rfl rfl) rfl ?_
  rintro _ w1 ⟨pk, rfl, N1⟩
  have k1 := N1.kp
  have kk1 := kk0.then_ k1
  have f_pk_1 : Bk w1 pk (u8s (RKL K)) 42 := N1.bk
  refine R_pu (pu_assign rfl) rfl ?_
  refine R_pu (pu_assign rfl) rfl ?_
  refine R_nil ?_
  refine X_then hK1 ?_
  refine C_seq (fun K2 hK2 => ?_)
  refine C_seq (fun K3 hK3 => ?_)
  refine C_region ?_
  refine R_pu (pu_move rfl) rfl ?_
  refine R_pu (pu_len Tryz.underlying22 rfl) rfl ?_
  refine R_pu (pu_false (pu_neq (p := N.length = 12) rfl rfl (by omega)) (by omega)) rfl ?_
  refine R_pu (pu_move rfl) rfl ?_
  refine R_gpu rfl rfl (pu_move rfl) rfl ?_
  refine R_gpu rfl rfl (pu_len Tryz.underlying22 rfl) rfl ?_
  refine R_gpu rfl rfl (pu_false (pu_gtr (p := m.length > 2064) rfl rfl (by omega)) (by omega)) rfl ?_
  refine R_pu (pu_pickf rfl rfl) rfl ?_
  refine R_pu (pu_move rfl) rfl ?_
  refine R_gpu rfl rfl (pu_move rfl) rfl ?_
  refine R_gpu rfl rfl (pu_len Tryz.underlying22 rfl) rfl ?_
  refine R_gpu rfl rfl (pu_false (pu_gtr (p := D.length > 2048) rfl rfl (by omega)) (by omega)) rfl ?_
  refine R_pu (pu_pickf rfl rfl) rfl ?_
  refine R_nil ?_
  refine X_then hK3 ?_
  refine C_false rfl ?_
  refine C_skip ?_
  refine X_then hK2 ?_
  refine C_seq (fun K4 hK4 => ?_)
  refine C_region ?_
  refine R_pu (pu_move rfl) rfl ?_
  refine R_pu (pu_len Tryz.underlying22 rfl) rfl ?_
  refine R_pu (pu_sub (z := ((m.length : Nat) : Int) - 16) rfl rfl (by rw [IntKind.wrap_i64]; omega)) rfl ?_
  refine R_pu (pu_assign rfl) rfl ?_
  refine R_nil ?_
  refine X_then hK4 ?_
  refine C_seq (fun K5 hK5 => ?_)
  refine C_seq (fun K6 hK6 => ?_)
  refine D_begin (fun W => Kp No w W ∧ Bk W pk (u8s (RKL K)) 42) 17 rfl (by kernel_rfl) ⟨kk1.drew, f_pk_1.draw⟩ ?_
  intro w2 k2 _
  have kk2 := kk1.then_ k2
  refine D_take 0 rfl (by kernel_rfl) (by kernel_rfl) (by kernel_rfl) (fun _ _ _ h => h) rfl (fun W hS => pu_move rfl) ?_
  refine D_take 1 rfl (by kernel_rfl) (by kernel_rfl) (by kernel_rfl) (fun _ _ _ h => h) rfl (fun W hS => pu_true (pu_lss (p := (((m.length : Nat) : Int) - 16) < 0) rfl rfl (by omega)) (by omega)) ?_
  refine D_take 2 rfl (by kernel_rfl) (by kernel_rfl) (by kernel_rfl) (fun _ _ _ h => h) rfl (fun W hS => pu_move rfl) ?_
  refine D_gno 3 rfl rfl rfl rfl (by kernel_rfl) (by kernel_rfl) (by kernel_rfl) (fun _ _ _ h => h) rfl ?_
  refine D_gno 4 rfl rfl rfl rfl (by kernel_rfl) (by kernel_rfl) (by kernel_rfl) (fun _ _ _ h => h) rfl ?_
  refine D_gno 5 rfl rfl rfl rfl (by kernel_rfl) (by kernel_rfl) (by kernel_rfl) (fun _ _ _ h => h) rfl ?_
  refine D_gno 6 rfl rfl rfl rfl (by kernel_rfl) (by kernel_rfl) (by kernel_rfl) (fun _ _ _ h => h) rfl ?_
  refine D_gno 7 rfl rfl rfl rfl (by kernel_rfl) (by kernel_rfl) (by kernel_rfl) (fun _ _ _ h => h) rfl ?_
  refine D_gno 8 rfl rfl rfl rfl (by kernel_rfl) (by kernel_rfl) (by kernel_rfl) (fun _ _ _ h => h) rfl ?_
  refine D_gno 9 rfl rfl rfl rfl (by kernel_rfl) (by kernel_rfl) (by kernel_rfl) (fun _ _ _ h => h) rfl ?_
  refine D_gno 10 rfl rfl rfl rfl (by kernel_rfl) (by kernel_rfl) (by kernel_rfl) (fun _ _ _ h => h) rfl ?_
  refine D_gno 11 rfl rfl rfl rfl (by kernel_rfl) (by kernel_rfl) (by kernel_rfl) (fun _ _ _ h => h) rfl ?_
  refine D_gno 12 rfl rfl rfl rfl (by kernel_rfl) (by kernel_rfl) (by kernel_rfl) (fun _ _ _ h => h) rfl ?_
  refine D_gno 13 rfl rfl rfl rfl (by kernel_rfl) (by kernel_rfl) (by kernel_rfl) (fun _ _ _ h => h) rfl ?_
  refine D_gno 14 rfl rfl rfl rfl (by kernel_rfl) (by kernel_rfl) (by kernel_rfl) (fun _ _ _ h => h) rfl ?_
  refine D_gno 15 rfl rfl rfl rfl (by kernel_rfl) (by kernel_rfl) (by kernel_rfl) (fun _ _ _ h => h) rfl ?_
  refine D_take 16 rfl (by kernel_rfl) (by kernel_rfl) (by kernel_rfl) (fun _ _ _ h => h) rfl (fun W hS => pu_pickt rfl rfl) ?_
  refine D_done (by kernel_rfl) ?_
  refine X_then hK6 ?_
  refine C_true rfl ?_
  refine C_seq (fun K7 hK7 => ?_)
  refine C_region ?_
  refine R_pu (pu_assign rfl) rfl ?_
  refine R_pu (pu_assign rfl) rfl ?_
  refine R_nil ?_
  refine X_then hK7 ?_
  refine C_ret ?_
  refine X_then_ret ?_
  exact X_ret2 (.inl rfl) rfl rfl rfl ⟨rfl, kk2⟩
set_option maxRecDepth 100000 in
set_option maxHeartbeats 2000000 in
theorem ref11_open_bad (K : List Nat) (A : Option Addr) (N : List Nat) (c : Nat) (A2 : Option Addr) (m : List Nat) (c2 : Nat) (A3 : Option Addr) (D : List Nat) (c3 : Nat) (w : World) (bN : By 12 N) (HN : Bs w A N) (hcn : N.length ≤ c) (HM : Bs w A2 m) (hcm : m.length ≤ c2) (HD : Bs w A3 D) (hcd : D.length ≤ c3) (hs : m.length ≤ 2064 ∧ D.length ≤ 2048) (hl : 16 ≤ m.length ∧ ¬ (m.drop (m.length - 16)) = (tagB K N (m.take (m.length - 16)) D)) : Ret Tryz.prog 12 #[.agg (u8s (RKL K) : List Value).toArray, .slice A (N.length) (c), .slice A2 (m.length) (c2), .slice A3 (D.length) (c3)] w (fun v w' => v = .tuple #[.slice none 0 0, .int .i64 11] ∧ Kp No w w') := by
  obtain ⟨hs1, hs2⟩ := id hs; have hN12 := bN.1
  have hl16 := hl.1
  have kk0 := Kp.refl No w
  refine enter (n := 50) [.agg (u8s (RKL K) : List Value).toArray, .slice A (N.length) (c), .slice A2 (m.length) (c2), .slice A3 (D.length) (c3)] Tryz.func12 rfl rfl rfl ?_
  show Cw _ _ _ _ [(0, .agg (u8s (RKL K) : List Value).toArray), (1, .slice A (N.length) (c)), (2, .slice A2 (m.length) (c2)), (3, .slice A3 (D.length) (c3))] _
  refine C_seq (fun K1 hK1 => ?_)
  refine C_region ?_
  refine R_lo (lo_box (L := u8s (RKL K)) rfl rfl) rfl ?_
  rintro _ w1 ⟨pk, rfl, N1⟩
  have k1 := N1.kp
  have kk1 := kk0.then_ k1
  have f_pk_1 : Bk w1 pk (u8s (RKL K)) 42 := N1.bk
  refine R_pu (pu_assign rfl) rfl ?_
  refine R_pu (pu_assign rfl) rfl ?_
  refine R_nil ?_
  refine X_then hK1 ?_
  refine C_seq (fun K2 hK2 => ?_)
  refine C_seq (fun K3 hK3 => ?_)
  refine C_region ?_
  refine R_pu (pu_move rfl) rfl ?_
  refine R_pu (pu_len Tryz.underlying22 rfl) rfl ?_
  refine R_pu (pu_false (pu_neq (p := N.length = 12) rfl rfl (by omega)) (by omega)) rfl ?_
  refine R_pu (pu_move rfl) rfl ?_
  refine R_gpu rfl rfl (pu_move rfl) rfl ?_
  refine R_gpu rfl rfl (pu_len Tryz.underlying22 rfl) rfl ?_
  refine R_gpu rfl rfl (pu_false (pu_gtr (p := m.length > 2064) rfl rfl (by omega)) (by omega)) rfl ?_
  refine R_pu (pu_pickf rfl rfl) rfl ?_
  refine R_pu (pu_move rfl) rfl ?_
  refine R_gpu rfl rfl (pu_move rfl) rfl ?_
  refine R_gpu rfl rfl (pu_len Tryz.underlying22 rfl) rfl ?_
  refine R_gpu rfl rfl (pu_false (pu_gtr (p := D.length > 2048) rfl rfl (by omega)) (by omega)) rfl ?_
  refine R_pu (pu_pickf rfl rfl) rfl ?_
  refine R_nil ?_
  refine X_then hK3 ?_
  refine C_false rfl ?_
  refine C_skip ?_
  refine X_then hK2 ?_
  refine C_seq (fun K4 hK4 => ?_)
  refine C_region ?_
  refine R_pu (pu_move rfl) rfl ?_
  refine R_pu (pu_len Tryz.underlying22 rfl) rfl ?_
  refine R_pu (pu_sub (z := ((m.length - 16 : Nat) : Int)) rfl rfl (by rw [IntKind.wrap_i64]; omega)) rfl ?_
  refine R_pu (pu_assign rfl) rfl ?_
  refine R_nil ?_
  refine X_then hK4 ?_
  refine C_seq (fun K5 hK5 => ?_)
  refine C_seq (fun K6 hK6 => ?_)
  refine D_begin (fun W => Kp No w W ∧ Bk W pk (u8s (RKL K)) 42) 17 rfl (by kernel_rfl) ⟨kk1.drew, f_pk_1.draw⟩ ?_
  intro w2 k2 _
  have kk2 := kk1.then_ k2
  refine D_take 0 rfl (by kernel_rfl) (by kernel_rfl) (by kernel_rfl) (fun _ _ _ h => h) rfl (fun W hS => pu_move rfl) ?_
  refine D_take 1 rfl (by kernel_rfl) (by kernel_rfl) (by kernel_rfl) (fun _ _ _ h => h) rfl (fun W hS => pu_false (pu_lss (p := (m.length - 16) < 0) rfl rfl (by omega)) (by omega)) ?_
  refine D_take 2 rfl (by kernel_rfl) (by kernel_rfl) (by kernel_rfl) (fun _ _ _ h => h) rfl (fun W hS => pu_move rfl) ?_
  refine D_gtake 3 rfl rfl rfl (by kernel_rfl) (by kernel_rfl) (by kernel_rfl) (fun _ _ _ h => h) rfl (fun W hS => pu_loadRow (len := 512) hS.2 (by kernel_rfl) (by kernel_rfl) (by rw [u8s_length]; exact (RKL_by K).1) rfl) ?_
  refine D_gtake 4 rfl rfl rfl (by kernel_rfl) (by kernel_rfl) (by kernel_rfl) (fun _ _ _ h => h) rfl (fun W hS => pu_move rfl) ?_
  refine D_gtake 5 rfl rfl rfl (by kernel_rfl) (by kernel_rfl) (by kernel_rfl) (fun _ _ _ h => h) rfl (fun W hS => pu_move rfl) ?_
  refine D_gtake 6 rfl rfl rfl (by kernel_rfl) (by kernel_rfl) (by kernel_rfl) (fun _ _ _ h => h) rfl (fun W hS => pu_move rfl) ?_
  have HMt7 := Bs.take HM (m.length - 16)
  refine D_gtake 7 rfl rfl rfl (by kernel_rfl) (by kernel_rfl) (by kernel_rfl) (fun _ _ _ h => h) rfl (fun W hS => pu_sliceHi (hi := m.length - 16) (s := 1) Tryz.underlying22 (by kernel_rfl) rfl rfl rfl (by have := hcm; omega)) ?_
  refine D_gtake 8 rfl rfl rfl (by kernel_rfl) (by kernel_rfl) (by kernel_rfl) (fun _ _ _ h => h) rfl (fun W hS => pu_move rfl) ?_
  refine D_gtake 11 rfl rfl rfl (by kernel_rfl) (by kernel_rfl) (by kernel_rfl) (fun _ _ _ h => h) rfl (fun W hS => pu_move rfl) ?_
  refine D_gtake 12 rfl rfl rfl (by kernel_rfl) (by kernel_rfl) (by kernel_rfl) (fun _ _ _ h => h) rfl (fun W hS => pu_move rfl) ?_
  have HMc8 := Bs.cut HM hcm (m.length - 16)
  refine D_gtake 13 rfl rfl rfl (by kernel_rfl) (by kernel_rfl) (by kernel_rfl) (fun _ _ _ h => h) rfl (fun W hS => pu_sliceLo (lo := m.length - 16) (s := 1) Tryz.underlying22 (by kernel_rfl) rfl rfl rfl (by omega) (by have := hcm; omega)) ?_
  refine D_gtake 14 rfl rfl rfl (by kernel_rfl) (by kernel_rfl) (by kernel_rfl) (fun _ _ _ h => h) rfl (fun W hS => pu_bstr (HMc8.keptNo hS.1) Tryz.underlying22 Tryz.underlying5 Tryz.underlying9 rfl List.length_drop) ?_
  have f9 : Bk w2 pk (u8s (RKL K)) 42 := (f_pk_1.no k2)
  refine D_one 9 (by kernel_rfl) (Nx_glo rfl rfl rfl (lo_callE (by kernel_rfl) rfl (by rw [(show (m.take (m.length - 16)).length = m.length - 16 by rw [List.length_take]; omega)] <;> rfl) (ref11_tag K A N c A2 (m.take (m.length - 16)) c2 A3 D c3 _ bN (HN.keptNo kk2) hcn (HMt7.keptNo kk2) (by rw [(show (m.take (m.length - 16)).length = m.length - 16 by rw [List.length_take]; omega)]; have := hcm; omega) (HD.keptNo kk2) hcd ⟨by rw [List.length_take]; omega, hs2⟩)) rfl ?_)
  rintro _ w3 ⟨tq4, rfl, le3, B3, k3⟩
  have kk3 := kk2.then_ k3
  have ne_tq4_pk : tq4 ≠ pk := Nat.ne_of_gt (Nat.lt_of_lt_of_le f9.lt le3)
  have f10 : Bk w3 pk (u8s (RKL K)) 42 := (f9.no k3)
  refine ⟨⟨kk3, f10⟩, ?_⟩
  refine D_one 10 (by kernel_rfl) (Nx_gpu rfl rfl rfl (pu_bstr (Bs.ofBk B3 (tagB_by _ _ _ _)) Tryz.underlying22 Tryz.underlying5 Tryz.underlying9 rfl (tagB_by _ _ _ _).1) rfl ⟨⟨kk3, f10⟩, ?_⟩)
  refine D_gtake 15 rfl rfl rfl (by kernel_rfl) (by kernel_rfl) (by kernel_rfl) (fun _ _ _ h => h) rfl (fun W hS => pu_neqs (p := (tagB K N (m.take (m.length - 16)) D) = (m.drop (m.length - 16))) rfl rfl (bstr_inj ((Bs.ofBk B3 (tagB_by _ _ _ _))).byte ((HMc8.keptNo kk2)).byte)) ?_
  refine D_take 16 rfl (by kernel_rfl) (by kernel_rfl) (by kernel_rfl) (fun _ _ _ h => h) rfl (fun W hS => pu_pickf rfl rfl) ?_
  refine D_done (by kernel_rfl) ?_
  refine X_then hK6 ?_
  refine C_dect rfl (fun h => hl.2 h.symm) ?_
  refine C_seq (fun K11 hK11 => ?_)
  refine C_region ?_
  refine R_pu (pu_assign rfl) rfl ?_
  refine R_pu (pu_assign rfl) rfl ?_
  refine R_nil ?_
  refine X_then hK11 ?_
  refine C_ret ?_
  refine X_then_ret ?_
  exact X_ret2 (.inl rfl) rfl rfl rfl ⟨rfl, kk3⟩
set_option maxRecDepth 100000 in
set_option maxHeartbeats 2000000 in
theorem ref11_open (K : List Nat) (A : Option Addr) (N : List Nat) (c : Nat) (A2 : Option Addr) (m : List Nat) (c2 : Nat) (A3 : Option Addr) (D : List Nat) (c3 : Nat) (w : World) (bN : By 12 N) (HN : Bs w A N) (hcn : N.length ≤ c) (HM : Bs w A2 m) (hcm : m.length ≤ c2) (HD : Bs w A3 D) (hcd : D.length ≤ c3) (hs : m.length ≤ 2064 ∧ D.length ≤ 2048) (hl : opensB K N m D) : Ret Tryz.prog 12 #[.agg (u8s (RKL K) : List Value).toArray, .slice A (N.length) (c), .slice A2 (m.length) (c2), .slice A3 (D.length) (c3)] w (fun v w' => ∃ A c, v = .tuple #[.slice A (cphB K N (m.take (m.length - 16))).length c, .int .i64 0] ∧ Ob w' w.heap.size (.slice A (cphB K N (m.take (m.length - 16))).length c) (cphB K N (m.take (m.length - 16))) ∧ Kp No w w') := by
  obtain ⟨hs1, hs2⟩ := id hs; have hN12 := bN.1
  have hl16 := hl.1
  have kk0 := Kp.refl No w
  refine enter (n := 50) [.agg (u8s (RKL K) : List Value).toArray, .slice A (N.length) (c), .slice A2 (m.length) (c2), .slice A3 (D.length) (c3)] Tryz.func12 rfl rfl rfl ?_
  show Cw _ _ _ _ [(0, .agg (u8s (RKL K) : List Value).toArray), (1, .slice A (N.length) (c)), (2, .slice A2 (m.length) (c2)), (3, .slice A3 (D.length) (c3))] _
  refine C_seq (fun K1 hK1 => ?_)
  refine C_region ?_
  refine R_lo (lo_box (L := u8s (RKL K)) rfl rfl) rfl ?_
  rintro _ w1 ⟨pk, rfl, N1⟩
  have k1 := N1.kp
  have kk1 := kk0.then_ k1
  have f_pk_1 : Bk w1 pk (u8s (RKL K)) 42 := N1.bk
  refine R_pu (pu_assign rfl) rfl ?_
  refine R_pu (pu_assign rfl) rfl ?_
  refine R_nil ?_
  refine X_then hK1 ?_
  refine C_seq (fun K2 hK2 => ?_)
  refine C_seq (fun K3 hK3 => ?_)
  refine C_region ?_
  refine R_pu (pu_move rfl) rfl ?_
  refine R_pu (pu_len Tryz.underlying22 rfl) rfl ?_
  refine R_pu (pu_false (pu_neq (p := N.length = 12) rfl rfl (by omega)) (by omega)) rfl ?_
  refine R_pu (pu_move rfl) rfl ?_
  refine R_gpu rfl rfl (pu_move rfl) rfl ?_
  refine R_gpu rfl rfl (pu_len Tryz.underlying22 rfl) rfl ?_
  refine R_gpu rfl rfl (pu_false (pu_gtr (p := m.length > 2064) rfl rfl (by omega)) (by omega)) rfl ?_
  refine R_pu (pu_pickf rfl rfl) rfl ?_
  refine R_pu (pu_move rfl) rfl ?_
  refine R_gpu rfl rfl (pu_move rfl) rfl ?_
  refine R_gpu rfl rfl (pu_len Tryz.underlying22 rfl) rfl ?_
  refine R_gpu rfl rfl (pu_false (pu_gtr (p := D.length > 2048) rfl rfl (by omega)) (by omega)) rfl ?_
  refine R_pu (pu_pickf rfl rfl) rfl ?_
  refine R_nil ?_
  refine X_then hK3 ?_
  refine C_false rfl ?_
  refine C_skip ?_
  refine X_then hK2 ?_
  refine C_seq (fun K4 hK4 => ?_)
  refine C_region ?_
  refine R_pu (pu_move rfl) rfl ?_
  refine R_pu (pu_len Tryz.underlying22 rfl) rfl ?_
  refine R_pu (pu_sub (z := ((m.length - 16 : Nat) : Int)) rfl rfl (by rw [IntKind.wrap_i64]; omega)) rfl ?_
  refine R_pu (pu_assign rfl) rfl ?_
  refine R_nil ?_
  refine X_then hK4 ?_
  refine C_seq (fun K5 hK5 => ?_)
  refine C_seq (fun K6 hK6 => ?_)
  refine D_begin (fun W => Kp No w W ∧ Bk W pk (u8s (RKL K)) 42) 17 rfl (by kernel_rfl) ⟨kk1.drew, f_pk_1.draw⟩ ?_
  intro w2 k2 _
  have kk2 := kk1.then_ k2
  refine D_take 0 rfl (by kernel_rfl) (by kernel_rfl) (by kernel_rfl) (fun _ _ _ h => h) rfl (fun W hS => pu_move rfl) ?_
  refine D_take 1 rfl (by kernel_rfl) (by kernel_rfl) (by kernel_rfl) (fun _ _ _ h => h) rfl (fun W hS => pu_false (pu_lss (p := (m.length - 16) < 0) rfl rfl (by omega)) (by omega)) ?_
  refine D_take 2 rfl (by kernel_rfl) (by kernel_rfl) (by kernel_rfl) (fun _ _ _ h => h) rfl (fun W hS => pu_move rfl) ?_
  refine D_gtake 3 rfl rfl rfl (by kernel_rfl) (by kernel_rfl) (by kernel_rfl) (fun _ _ _ h => h) rfl (fun W hS => pu_loadRow (len := 512) hS.2 (by kernel_rfl) (by kernel_rfl) (by rw [u8s_length]; exact (RKL_by K).1) rfl) ?_
  refine D_gtake 4 rfl rfl rfl (by kernel_rfl) (by kernel_rfl) (by kernel_rfl) (fun _ _ _ h => h) rfl (fun W hS => pu_move rfl) ?_
  refine D_gtake 5 rfl rfl rfl (by kernel_rfl) (by kernel_rfl) (by kernel_rfl) (fun _ _ _ h => h) rfl (fun W hS => pu_move rfl) ?_
  refine D_gtake 6 rfl rfl rfl (by kernel_rfl) (by kernel_rfl) (by kernel_rfl) (fun _ _ _ h => h) rfl (fun W hS => pu_move rfl) ?_
  have HMt7 := Bs.take HM (m.length - 16)
  refine D_gtake 7 rfl rfl rfl (by kernel_rfl) (by kernel_rfl) (by kernel_rfl) (fun _ _ _ h => h) rfl (fun W hS => pu_sliceHi (hi := m.length - 16) (s := 1) Tryz.underlying22 (by kernel_rfl) rfl rfl rfl (by have := hcm; omega)) ?_
  refine D_gtake 8 rfl rfl rfl (by kernel_rfl) (by kernel_rfl) (by kernel_rfl) (fun _ _ _ h => h) rfl (fun W hS => pu_move rfl) ?_
  refine D_gtake 11 rfl rfl rfl (by kernel_rfl) (by kernel_rfl) (by kernel_rfl) (fun _ _ _ h => h) rfl (fun W hS => pu_move rfl) ?_
  refine D_gtake 12 rfl rfl rfl (by kernel_rfl) (by kernel_rfl) (by kernel_rfl) (fun _ _ _ h => h) rfl (fun W hS => pu_move rfl) ?_
  have HMc8 := Bs.cut HM hcm (m.length - 16)
  refine D_gtake 13 rfl rfl rfl (by kernel_rfl) (by kernel_rfl) (by kernel_rfl) (fun _ _ _ h => h) rfl (fun W hS => pu_sliceLo (lo := m.length - 16) (s := 1) Tryz.underlying22 (by kernel_rfl) rfl rfl rfl (by omega) (by have := hcm; omega)) ?_
  refine D_gtake 14 rfl rfl rfl (by kernel_rfl) (by kernel_rfl) (by kernel_rfl) (fun _ _ _ h => h) rfl (fun W hS => pu_bstr (HMc8.keptNo hS.1) Tryz.underlying22 Tryz.underlying5 Tryz.underlying9 rfl List.length_drop) ?_
  have f9 : Bk w2 pk (u8s (RKL K)) 42 := (f_pk_1.no k2)
  refine D_one 9 (by kernel_rfl) (Nx_glo rfl rfl rfl (lo_callE (by kernel_rfl) rfl (by rw [(show (m.take (m.length - 16)).length = m.length - 16 by rw [List.length_take]; omega)] <;> rfl) (ref11_tag K A N c A2 (m.take (m.length - 16)) c2 A3 D c3 _ bN (HN.keptNo kk2) hcn (HMt7.keptNo kk2) (by rw [(show (m.take (m.length - 16)).length = m.length - 16 by rw [List.length_take]; omega)]; have := hcm; omega) (HD.keptNo kk2) hcd ⟨by rw [List.length_take]; omega, hs2⟩)) rfl ?_)
  rintro _ w3 ⟨tq4, rfl, le3, B3, k3⟩
  have kk3 := kk2.then_ k3
  have ne_tq4_pk : tq4 ≠ pk := Nat.ne_of_gt (Nat.lt_of_lt_of_le f9.lt le3)
  have f10 : Bk w3 pk (u8s (RKL K)) 42 := (f9.no k3)
  refine ⟨⟨kk3, f10⟩, ?_⟩
  refine D_one 10 (by kernel_rfl) (Nx_gpu rfl rfl rfl (pu_bstr (Bs.ofBk B3 (tagB_by _ _ _ _)) Tryz.underlying22 Tryz.underlying5 Tryz.underlying9 rfl (tagB_by _ _ _ _).1) rfl ⟨⟨kk3, f10⟩, ?_⟩)
  refine D_gtake 15 rfl rfl rfl (by kernel_rfl) (by kernel_rfl) (by kernel_rfl) (fun _ _ _ h => h) rfl (fun W hS => pu_neqs (p := (tagB K N (m.take (m.length - 16)) D) = (m.drop (m.length - 16))) rfl rfl (bstr_inj ((Bs.ofBk B3 (tagB_by _ _ _ _))).byte ((HMc8.keptNo kk2)).byte)) ?_
  refine D_take 16 rfl (by kernel_rfl) (by kernel_rfl) (by kernel_rfl) (fun _ _ _ h => h) rfl (fun W hS => pu_pickf rfl rfl) ?_
  refine D_done (by kernel_rfl) ?_
  refine X_then hK6 ?_
  refine C_decf rfl (fun h => h hl.2.symm) ?_
  refine C_skip ?_
  refine X_then hK5 ?_
  refine C_seq (fun K11 hK11 => ?_)
  refine D_begin (fun W => Kp No w W ∧ Bk W pk (u8s (RKL K)) 42 ∧ Bk W tq4 (u8s (tagB K N (m.take (m.length - 16)) D)) 40) 8 rfl (by kernel_rfl) ⟨kk3.drew, f10.draw, B3.draw⟩ ?_
  intro w4 k4 _
  have kk4 := kk3.then_ k4
  refine D_take 0 rfl (by kernel_rfl) (by kernel_rfl) (by kernel_rfl) (fun _ _ _ h => h) rfl (fun W hS => pu_loadRow (len := 512) hS.2.1 (by kernel_rfl) (by kernel_rfl) (by rw [u8s_length]; exact (RKL_by K).1) rfl) ?_
  refine D_take 1 rfl (by kernel_rfl) (by kernel_rfl) (by kernel_rfl) (fun _ _ _ h => h) rfl (fun W hS => pu_move rfl) ?_
  refine D_take 2 rfl (by kernel_rfl) (by kernel_rfl) (by kernel_rfl) (fun _ _ _ h => h) rfl (fun W hS => pu_move rfl) ?_
  refine D_take 3 rfl (by kernel_rfl) (by kernel_rfl) (by kernel_rfl) (fun _ _ _ h => h) rfl (fun W hS => pu_move rfl) ?_
  have HMt12 := Bs.take HM (m.length - 16)
  refine D_take 4 rfl (by kernel_rfl) (by kernel_rfl) (by kernel_rfl) (fun _ _ _ h => h) rfl (fun W hS => pu_sliceHi (hi := m.length - 16) (s := 1) Tryz.underlying22 (by kernel_rfl) rfl rfl rfl (by have := hcm; omega)) ?_
  have f13 : Bk w4 pk (u8s (RKL K)) 42 := (f10.no k4)
  have f14 : Bk w4 tq4 (u8s (tagB K N (m.take (m.length - 16)) D)) 40 := (B3.no k4)
  refine D_one 5 (by kernel_rfl) (Nx_lo rfl (lo_callE (by kernel_rfl) rfl (by rw [(show (m.take (m.length - 16)).length = m.length - 16 by rw [List.length_take]; omega)] <;> rfl) (ref11_cipher K A N c A2 (m.take (m.length - 16)) c2 _ bN (HN.keptNo kk4) hcn (HMt12.keptNo kk4) (by rw [(show (m.take (m.length - 16)).length = m.length - 16 by rw [List.length_take]; omega)]; have := hcm; omega) (by rw [List.length_take]; omega))) rfl ?_)
  rintro _ w5 ⟨A_cp, c_cp, rfl, Q5, k5⟩
  have kk5 := kk4.then_ k5
  have z15 : w4.heap.size ≤ w5.heap.size := k5.size
  have f16 : Bk w5 pk (u8s (RKL K)) 42 := (f13.no k5)
  have f17 : Bk w5 tq4 (u8s (tagB K N (m.take (m.length - 16)) D)) 40 := (f14.no k5)
  refine ⟨⟨kk5, f16, f17⟩, ?_⟩
  refine D_take 6 rfl (by kernel_rfl) (by kernel_rfl) (by kernel_rfl) (fun _ _ _ h => h) rfl (fun W hS => pu_assign rfl) ?_
  refine D_take 7 rfl (by kernel_rfl) (by kernel_rfl) (by kernel_rfl) (fun _ _ _ h => h) rfl (fun W hS => pu_assign rfl) ?_
  refine D_done (by kernel_rfl) ?_
  refine X_then hK11 ?_
  refine C_ret ?_
  exact X_ret2 (.inl rfl) rfl rfl rfl ⟨_, _, rfl, Q5.low ((kk4).size), kk5⟩
theorem gcm_seal_all (p b bx : Nat) (K : List Nat) (A : Option Addr) (N : List Nat) (c : Nat) (A2 : Option Addr) (m : List Nat) (c2 : Nat) (A3 : Option Addr) (D : List Nat) (c3 : Nat) (E : Nat) (w : World) (hK : By 32 K) (hne1 : p ≠ b) (hne2 : p ≠ bx) (hne3 : b ≠ bx) (hp : Bk w p (gkL b (gmH K)) 59) (hb : Bk w b (keyL bx (KW K)) 88) (hS : Sx w bx) (HN : Bs w A N) (hcn : N.length ≤ c) (aw_HN : Aw (On bx) A N) (HM : Bs w A2 m) (hcm : m.length ≤ c2) (aw_HM : Aw (On bx) A2 m) (HD : Bs w A3 D) (hcd : D.length ≤ c3) (aw_HD : Aw (On bx) A3 D) (hE : E = sealE N m D) : Ret Tryz.prog 5 #[.pointer (some ⟨p, 0, none⟩), .slice A (N.length) (c), .slice A2 (m.length) (c2), .slice A3 (D.length) (c3)] w (fun v w' => ∃ A' c' ev, v = .tuple #[.slice A' (subI E (sealB K N m D) []).length c', ev] ∧ ErrV E ev ∧ Ob w' w.heap.size (.slice A' (subI E (sealB K N m D) []).length c') (subI E (sealB K N m D) []) ∧ Sx w' bx ∧ Kp (On bx) w w') := by
  by_cases h : N.length = 12 ∧ m.length ≤ 2048 ∧ D.length ≤ 2048
  · obtain rfl : E = 0 := hE.trans (if_pos h)
    refine (gcm_seal p b bx K A N c A2 m c2 A3 D c3 w hK hne1 hne2 hne3 hp hb hS ⟨h.1, HN.byte⟩ HN hcn aw_HN HM hcm aw_HM HD hcd aw_HD h.2).mono fun v w' hv => ?_
    obtain ⟨A', c', rfl, h1, h2, h3⟩ := hv
    exact ⟨A', c', .nilIface, rfl, .inl ⟨rfl, rfl⟩, h1, h2, h3⟩
  · obtain rfl : E = 1 := hE.trans (if_neg h)
    exact (gcm_seal_arg p A N c A2 m c2 A3 D c3 w HN hcn HM hcm HD hcd h).mono fun v w' hv => ⟨none, 0, errE 1, hv.1, .inr ⟨by decide, rfl⟩, Ob.nil _ _, hS.no hv.2, hv.2.mono (fun _ h => h.elim)⟩
theorem gcm_open_all (p b bx : Nat) (K : List Nat) (A : Option Addr) (N : List Nat) (c : Nat) (A2 : Option Addr) (m : List Nat) (c2 : Nat) (A3 : Option Addr) (D : List Nat) (c3 : Nat) (E : Nat) (w : World) (hK : By 32 K) (hne1 : p ≠ b) (hne2 : p ≠ bx) (hne3 : b ≠ bx) (hp : Bk w p (gkL b (gmH K)) 59) (hb : Bk w b (keyL bx (KW K)) 88) (hS : Sx w bx) (HN : Bs w A N) (hcn : N.length ≤ c) (aw_HN : Aw (On bx) A N) (HM : Bs w A2 m) (hcm : m.length ≤ c2) (aw_HM : Aw (On bx) A2 m) (HD : Bs w A3 D) (hcd : D.length ≤ c3) (aw_HD : Aw (On bx) A3 D) (hE : E = openE K N m D) : Ret Tryz.prog 6 #[.pointer (some ⟨p, 0, none⟩), .slice A (N.length) (c), .slice A2 (m.length) (c2), .slice A3 (D.length) (c3)] w (fun v w' => ∃ A' c' ev, v = .tuple #[.slice A' (subI E (cphB K N (m.take (m.length - 16))) []).length c', ev] ∧ ErrV E ev ∧ Ob w' w.heap.size (.slice A' (subI E (cphB K N (m.take (m.length - 16))) []).length c') (subI E (cphB K N (m.take (m.length - 16))) []) ∧ Sx w' bx ∧ Kp (On bx) w w') := by
  by_cases h : N.length = 12 ∧ m.length ≤ 2064 ∧ D.length ≤ 2048
  · have hE2 := hE.trans (if_pos h)
    by_cases ho : opensB K N m D
    · obtain rfl : E = 0 := hE2.trans (if_pos ho)
      refine (gcm_open p b bx K A N c A2 m c2 A3 D c3 w hK hne1 hne2 hne3 hp hb hS ⟨h.1, HN.byte⟩ HN hcn aw_HN HM hcm aw_HM HD hcd aw_HD h.2 ho).mono fun v w' hv => ?_
      obtain ⟨A', c', rfl, h1, h2, h3⟩ := hv
      exact ⟨A', c', .nilIface, rfl, .inl ⟨rfl, rfl⟩, h1, h2, h3⟩
    · obtain rfl : E = 11 := hE2.trans (if_neg ho)
      by_cases h16 : 16 ≤ m.length
      · exact (gcm_open_bad p b bx K A N c A2 m c2 A3 D c3 w hK hne1 hne2 hne3 hp hb hS ⟨h.1, HN.byte⟩ HN hcn aw_HN HM hcm aw_HM HD hcd aw_HD h.2 ⟨h16, fun e => ho ⟨h16, e⟩⟩).mono fun v w' hv => ⟨none, 0, errE 11, hv.1, .inr ⟨by decide, rfl⟩, Ob.nil _ _, hv.2.1, hv.2.2⟩
      · exact (gcm_open_short p b bx K A N c A2 m c2 A3 D c3 w hK hne1 hne2 hne3 hp hb hS ⟨h.1, HN.byte⟩ HN hcn aw_HN HM hcm aw_HM HD hcd aw_HD h.2 (by omega)).mono fun v w' hv => ⟨none, 0, errE 11, hv.1, .inr ⟨by decide, rfl⟩, Ob.nil _ _, hv.2.1, hv.2.2⟩
  · obtain rfl : E = 1 := hE.trans (if_neg h)
    exact (gcm_open_arg p A N c A2 m c2 A3 D c3 w HN hcn HM hcm HD hcd h).mono fun v w' hv => ⟨none, 0, errE 1, hv.1, .inr ⟨by decide, rfl⟩, Ob.nil _ _, hS.no hv.2, hv.2.mono (fun _ h => h.elim)⟩
theorem gcm_opens_all (p b bx : Nat) (K : List Nat) (A : Option Addr) (N : List Nat) (c : Nat) (A2 : Option Addr) (m : List Nat) (c2 : Nat) (A3 : Option Addr) (D : List Nat) (c3 : Nat) (w : World) (hK : By 32 K) (hne1 : p ≠ b) (hne2 : p ≠ bx) (hne3 : b ≠ bx) (hp : Bk w p (gkL b (gmH K)) 59) (hb : Bk w b (keyL bx (KW K)) 88) (hS : Sx w bx) (HN : Bs w A N) (hcn : N.length ≤ c) (aw_HN : Aw (On bx) A N) (HM : Bs w A2 m) (hcm : m.length ≤ c2) (aw_HM : Aw (On bx) A2 m) (HD : Bs w A3 D) (hcd : D.length ≤ c3) (aw_HD : Aw (On bx) A3 D) : Ret Tryz.prog 8 #[.pointer (some ⟨p, 0, none⟩), .slice A (N.length) (c), .slice A2 (m.length) (c2), .slice A3 (D.length) (c3)] w (fun v w' => v = .bool (decide (openE K N m D = 0)) ∧ Sx w' bx ∧ Kp (On bx) w w') := by
  by_cases h : N.length = 12 ∧ m.length ≤ 2064 ∧ D.length ≤ 2048
  · refine (gcm_opens p b bx K A N c A2 m c2 A3 D c3 w hK hne1 hne2 hne3 hp hb hS ⟨h.1, HN.byte⟩ HN hcn aw_HN HM hcm aw_HM HD hcd aw_HD h.2).mono fun v w' hv => ⟨hv.1.trans (congrArg Value.bool (decide_eq_decide.2 ?_)), hv.2⟩
    unfold openE
    rw [if_pos h]
    by_cases ho : opensB K N m D
    · rw [if_pos ho]; exact ⟨fun _ => rfl, fun _ => ho⟩
    · rw [if_neg ho]; exact ⟨fun h => absurd h ho, fun h => by cases h⟩
  · refine (gcm_opens_arg p A N c A2 m c2 A3 D c3 w HN hcn HM hcm HD hcd h).mono fun v w' hv => ⟨hv.1.trans (congrArg Value.bool (decide_eq_false ?_).symm), hS.no hv.2, hv.2.mono (fun _ h => h.elim)⟩
    unfold openE
    rw [if_neg h]; decide
theorem ref11_seal_all (K : List Nat) (A : Option Addr) (N : List Nat) (c : Nat) (A2 : Option Addr) (m : List Nat) (c2 : Nat) (A3 : Option Addr) (D : List Nat) (c3 : Nat) (E : Nat) (w : World) (HN : Bs w A N) (hcn : N.length ≤ c) (HM : Bs w A2 m) (hcm : m.length ≤ c2) (HD : Bs w A3 D) (hcd : D.length ≤ c3) (hE : E = sealE N m D) : Ret Tryz.prog 11 #[.agg (u8s (RKL K) : List Value).toArray, .slice A (N.length) (c), .slice A2 (m.length) (c2), .slice A3 (D.length) (c3)] w (fun v w' => ∃ A' c', v = .tuple #[.slice A' (subI E (sealB K N m D) []).length c', .int .i64 ((E : Nat) : Int)] ∧ Ob w' w.heap.size (.slice A' (subI E (sealB K N m D) []).length c') (subI E (sealB K N m D) []) ∧ Kp No w w') := by
  by_cases h : N.length = 12 ∧ m.length ≤ 2048 ∧ D.length ≤ 2048
  · obtain rfl : E = 0 := hE.trans (if_pos h)
    exact ref11_seal K A N c A2 m c2 A3 D c3 w ⟨h.1, HN.byte⟩ HN hcn HM hcm HD hcd h.2
  · obtain rfl : E = 1 := hE.trans (if_neg h)
    exact (ref11_seal_arg K A N c A2 m c2 A3 D c3 w HN hcn HM hcm HD hcd h).mono fun v w' hv => ⟨none, 0, hv.1, Ob.nil _ _, hv.2⟩
theorem ref11_open_all (K : List Nat) (A : Option Addr) (N : List Nat) (c : Nat) (A2 : Option Addr) (m : List Nat) (c2 : Nat) (A3 : Option Addr) (D : List Nat) (c3 : Nat) (E : Nat) (w : World) (HN : Bs w A N) (hcn : N.length ≤ c) (HM : Bs w A2 m) (hcm : m.length ≤ c2) (HD : Bs w A3 D) (hcd : D.length ≤ c3) (hE : E = openE K N m D) : Ret Tryz.prog 12 #[.agg (u8s (RKL K) : List Value).toArray, .slice A (N.length) (c), .slice A2 (m.length) (c2), .slice A3 (D.length) (c3)] w (fun v w' => ∃ A' c', v = .tuple #[.slice A' (subI E (cphB K N (m.take (m.length - 16))) []).length c', .int .i64 ((E : Nat) : Int)] ∧ Ob w' w.heap.size (.slice A' (subI E (cphB K N (m.take (m.length - 16))) []).length c') (subI E (cphB K N (m.take (m.length - 16))) []) ∧ Kp No w w') := by
  by_cases h : N.length = 12 ∧ m.length ≤ 2064 ∧ D.length ≤ 2048
  · have hE2 := hE.trans (if_pos h)
    by_cases ho : opensB K N m D
    · obtain rfl : E = 0 := hE2.trans (if_pos ho)
      exact ref11_open K A N c A2 m c2 A3 D c3 w ⟨h.1, HN.byte⟩ HN hcn HM hcm HD hcd h.2 ho
    · obtain rfl : E = 11 := hE2.trans (if_neg ho)
      by_cases h16 : 16 ≤ m.length
      · exact (ref11_open_bad K A N c A2 m c2 A3 D c3 w ⟨h.1, HN.byte⟩ HN hcn HM hcm HD hcd h.2 ⟨h16, fun e => ho ⟨h16, e⟩⟩).mono fun v w' hv => ⟨none, 0, hv.1, Ob.nil _ _, hv.2⟩
      · exact (ref11_open_short K A N c A2 m c2 A3 D c3 w ⟨h.1, HN.byte⟩ HN hcn HM hcm HD hcd h.2 (by omega)).mono fun v w' hv => ⟨none, 0, hv.1, Ob.nil _ _, hv.2⟩
  · obtain rfl : E = 1 := hE.trans (if_neg h)
    exact (ref11_open_arg K A N c A2 m c2 A3 D c3 w HN hcn HM hcm HD hcd h).mono fun v w' hv => ⟨none, 0, hv.1, Ob.nil _ _, hv.2⟩
end Go.Proofs.YtfoenaleboodpaaGreatDoor
