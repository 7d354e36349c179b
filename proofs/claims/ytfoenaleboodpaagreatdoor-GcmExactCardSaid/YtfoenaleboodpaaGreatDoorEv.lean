/- Answers of which one only knows their number. -/
import Derived.Test.YtfoenaleboodpaaGreatDoorLp
import Derived.Test.YtfoenaleboodpaaGreatDoorTb
set_option linter.unusedVariables false
set_option linter.unusedSimpArgs false
namespace Go.Proofs.YtfoenaleboodpaaGreatDoor
open Go.RowKit Gm
/-- An error's value, by its number. -/
def ErrV (n : Nat) (v : Value) : Prop := (n = 0 ∧ v = .nilIface) ∨ (n ≠ 0 ∧ v = errE n)
def subI {α : Type} (e : Nat) (a z : α) : α := if e = 0 then a else z
section
variable {P : Program} {l : List (Nat × Value)} {w : World} {x y : Operand} {t t' : TypeId}
theorem pu_eqlEV {n : Nat} {ev : Value} (h : ErrV n ev) (hu : P.underlying t = some (.interface (P.methodsAt t))) (hx : lk l x = some ev) : Pu P (.binOp .eql t x (.const .nilIface) t') l w (.bool (decide (n = 0))) := by
  rcases h with ⟨h1, h2⟩ | ⟨h1, h2⟩
  · rw [decide_eq_true h1]; exact pu_eqlnn hu (hx.trans (congrArg some h2))
  · rw [decide_eq_false h1]; exact pu_eqlin hu (hx.trans (congrArg some h2)) rfl
end
end Go.Proofs.YtfoenaleboodpaaGreatDoor
