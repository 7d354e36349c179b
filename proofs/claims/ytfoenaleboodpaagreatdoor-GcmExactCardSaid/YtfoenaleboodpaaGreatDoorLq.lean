/- Rows of bytes by value, for the walk by explicit steps. -/
import Derived.Test.YtfoenaleboodpaaGreatDoorLo
import Derived.Test.YtfoenaleboodpaaGreatDoorBe
set_option linter.unusedVariables false
set_option linter.unusedSimpArgs false
namespace Go.Proofs.YtfoenaleboodpaaGreatDoor
open Go.RowKit
theorem by_lit {n : Nat} (l : List Nat) (h : (decide (l.length = n) && l.all (· < 256)) = true) : By n l := by simp at h; exact ⟨h.1, h.2⟩
theorem rep_by (n : Nat) : By n (List.replicate n 0) := ⟨by simp, fun x hx => by rw [(List.mem_replicate.1 hx).2]; decide⟩
theorem by_set {n i v : Nat} {l : List Nat} (h : By n l) (hv : v < 256) : By n (l.set i v) := ⟨by rw [List.length_set]; exact h.1, fun x hx => by
  rcases List.mem_or_eq_of_mem_set hx with hx | rfl
  · exact h.2 x hx
  · exact hv⟩
theorem u8s_rep (n : Nat) : u8s (List.replicate n 0) = List.replicate n (.int .u8 0) := by simp [u8s]
theorem u8s_mid (X : List Nat) (o n : Nat) : ((u8s X).drop o).take n = u8s ((X.drop o).take n) := by unfold u8s; rw [← List.map_drop, ← List.map_take]
theorem by_mid {m o n : Nat} {X : List Nat} (h : By m X) (hn : o + n ≤ m) : By n ((X.drop o).take n) := ⟨by rw [List.length_take, List.length_drop, h.1]; omega, fun x hx => h.2 x (List.mem_of_mem_drop (List.mem_of_mem_take hx))⟩
section
variable {P : Program} {l : List (Nat × Value)} {w : World} {x y : Operand} {t t' e n : Nat} {X Y : List Nat}
theorem pu_eqlB (ht : P.underlying t = some (.array n e)) (he : P.underlying e = some (.int .u8)) (hs : sizeB P e 1 = true) (hg : P.eqGuardType P.depth t = false) (bx : By n X) (bY : By n Y) (hx : lk l x = some (.agg (u8s X).toArray)) (hy : lk l y = some (.agg (u8s Y).toArray)) :
    Pu P (.binOp .eql t x y t') l w (.bool (decide (X = Y))) := fun n A ha d ty pos af g => by
  unfold execOp
  simp only [ha.eval hx, ha.eval hy, Sem.run_bind, Sem.run_pure, Result.andThen_ok, run_eqGuard_agg w _ t x y _ _ hg, run_eql_struct, run_eqlRow t e _ ht he (sizeB_run hs) bx bY w]
theorem pu_neqB (ht : P.underlying t = some (.array n e)) (he : P.underlying e = some (.int .u8)) (hs : sizeB P e 1 = true) (hg : P.eqGuardType P.depth t = false) (bx : By n X) (bY : By n Y) (hx : lk l x = some (.agg (u8s X).toArray)) (hy : lk l y = some (.agg (u8s Y).toArray)) :
    Pu P (.binOp .neq t x y t') l w (.bool (decide (¬ (X = Y)))) := fun n A ha d ty pos af g => by
  have e : (!decide (X = Y)) = decide (¬ (X = Y)) := by simp
  unfold execOp
  simp only [ha.eval hx, ha.eval hy, Sem.run_bind, Sem.run_pure, Result.andThen_ok, run_eqGuard_agg w _ t x y _ _ hg, run_neq_struct, run_eqlRow t _ _ ht he (sizeB_run hs) bx bY w, e]
end
end Go.Proofs.YtfoenaleboodpaaGreatDoor
