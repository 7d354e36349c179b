/- Walks: gf's contracts in the forms that laws meet; small facts on tests. -/
import Derived.Test.YtikipijafdcmfaaGw4
import Derived.Test.YtikipijafdcmfaaGm2
import Derived.OpenShut
set_option linter.unusedVariables false
set_option linter.unusedSimpArgs false
namespace Go.Proofs.Ytikipijafdcmfaa
open Go.RowKit Gm

theorem gf_New_ex (w : World) :
    Calls Try.prog 14 #[] w fun e w' => ∃ b, e = .returned (.pointer (some ⟨b, 0, none⟩)) ∧ Tab w' b ∧ Kp No w w' ∧ w.heap.size ≤ b :=
  (gf_New w).mono fun _ _ ⟨he, h, g⟩ => ⟨_, he, h, g, Nat.le_refl _⟩
theorem gf_Div_no (b x y : Nat) (hy : y = 0) (w : World) : Calls Try.prog 15 #[.pointer (some ⟨b, 0, none⟩), .int .u8 (x : Int), .int .u8 (y : Int)] w fun e w' => e = .returned (.tuple #[.int .u8 0, errV 1]) ∧ w = w' := by subst hy; exact gf_Div_zero b x w
theorem gf_Inv_no (b y : Nat) (hy : y = 0) (w : World) : Calls Try.prog 21 #[.pointer (some ⟨b, 0, none⟩), .int .u8 (y : Int)] w fun e w' => e = .returned (.tuple #[.int .u8 0, errV 1]) ∧ w = w' := by subst hy; exact gf_Inv_zero b w
theorem gf_Log_no (b y : Nat) (hy : y = 0) (w : World) : Calls Try.prog 20 #[.pointer (some ⟨b, 0, none⟩), .int .u8 (y : Int)] w fun e w' => e = .returned (.tuple #[.int .i64 0, errV 1]) ∧ w = w' := by subst hy; exact gf_Log_zero b w
theorem is0 {a : Nat} (h : a = 0) : (((a : Nat) : Int) == 0) = true := by subst h; rfl
theorem no0 {a : Nat} (h : a ≠ 0) : (((a : Nat) : Int) == 0) = false := beq_eq_false_iff_ne.2 (by omega)
theorem is0' {a : Nat} (h : a = 0) : (((a : Nat) : Int) != 0) = false := by subst h; rfl
theorem no0' {a : Nat} (h : a ≠ 0) : (((a : Nat) : Int) != 0) = true := by rw [bne_iff_ne]; omega
theorem byte8 {a : Int} (h : (Lit.int .u8 a).wf = true) : ∃ n : Nat, n < 256 ∧ a = (n : Int) := by
  have := bounds_u8 h
  exact ⟨a.toNat, by omega, by omega⟩
theorem word16 {a : Int} (h : (Lit.int .u16 a).wf = true) : ∃ n : Nat, n < 65536 ∧ a = (n : Int) := by
  have := bounds_u16 h
  exact ⟨a.toNat, by omega, by omega⟩
theorem Tab.drewN {w : World} {b : Nat} (h : Tab w b) (n : Nat) : Tab (w.drewN n) b := h
end Go.Proofs.Ytikipijafdcmfaa
