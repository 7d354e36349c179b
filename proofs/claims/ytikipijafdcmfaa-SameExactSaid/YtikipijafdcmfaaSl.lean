/- Walks: the statements of layer 12. -/
import Derived.Test.YtikipijafdcmfaaSw
import Derived.Lib.SlBytesConst
set_option linter.unusedVariables false
set_option linter.unusedSimpArgs false
namespace Go.Proofs.Ytikipijafdcmfaa
open Go.RowKit

theorem Bs.of_block {w : World} {b : Nat} {l : List Nat} {t : TypeId} {fr : Nat × Nat} (h : w.heap[b]? = some (.cells (u8s l).toArray t fr)) (hl : ∀ n ∈ l, n < 256) : Bs w (some ⟨b, 0, none⟩) l :=
  ⟨hl, fun _ => ⟨b, 0, rfl, fun i n hi => by
    have : (u8s l).toArray[i]? = some (.int .u8 (n : Int)) := by rw [List.getElem?_toArray]; exact u8s_get hi
    simp [World.cell?, h, this]⟩⟩

/-- The bytes of a constant text: a new block, marked. -/
theorem conv_const (w : World) (C : Array Value) (n c N : Nat) (hN : N = w.heap.size) :
    (convert 22 22 (.slice (some ⟨N, 0, none⟩) n c)).run Try.prog (w.alloc (.cells C 5)) = .ok (.slice (some ⟨N, 0, none⟩) n c) (w.alloc (.cells C 5 (C.size, C.size + 1))) := by
  rw [hN]; exact Lib.run_convert_bytes_const (P := Try.prog) w 22 5 C n c Try.underlying22 Try.underlying5
theorem new_is {w : World} {n : Nat} (o : Obj) (h : n = w.heap.size) : (w.alloc o).heap[n]? = some o := by rw [h]; exact new_at w o

set_option maxRecDepth 100000 in
set_option maxHeartbeats 400000 in
theorem law12_sure (w : World) :
    Calls Try.prog 8 #[] w fun e w' => e = .returned (.bool true) ∧ Kp No w w' := by
  have n1 : decide (([97, 98] : List Nat) = [97, 98, 99]) = false := by decide
  have kc := conv_const
  go_enter Try.func8, Try.ntmps8
  go_wp2_with fail
  refine Calls.mono (same_Equal (some ⟨w.heap.size, 0, none⟩) (some ⟨w.heap.size + 1, 0, none⟩) 2 3 [97, 98] [97, 98, 99] _ (by exact Bs.of_block (old_at _ (new_at w _)) (by decide)) (by exact Bs.of_block (new_is _ (by simp)) (by decide)) (by decide) (by decide)) ?_
  rintro e w' ⟨rfl, rfl⟩
  go_wp2_with fail
  refine Calls.mono (same_Equal (some ⟨w.heap.size + 2, 0, none⟩) (some ⟨w.heap.size + 3, 0, none⟩) 2 2 [97, 98] [97, 98] _ (by exact Bs.of_block (old_at _ (new_is _ (by simp))) (by decide)) (by exact Bs.of_block (new_is _ (by simp)) (by decide)) (by decide) (by decide)) ?_
  rintro e w' ⟨rfl, rfl⟩
  go_wp2_with fail
  go_ret
  exact ⟨rfl, ((((Kp.refl No w).alloc _).alloc _).alloc _).alloc _⟩
end Go.Proofs.Ytikipijafdcmfaa
