/- GhashField, as its row asks for it. -/
import Derived.Test.YtfoenaleboodpaaHw6
import Derived.Test.YtfoenaleboodpaaRk
set_option linter.unusedVariables false
namespace Go.Proofs.Ytfoenaleboodpaa
open Go.RowKit
theorem u8_ints : ∀ {a : List Int}, (∀ x ∈ a, (Lit.int .u8 x).wf = true) → ∃ l : List Nat, a.map (Value.int .u8) = u8s l ∧ l.length = a.length ∧ ∀ n ∈ l, n < 256
  | [], _ => ⟨[], rfl, rfl, by simp⟩
  | x :: a, h => by
    have h0 := h x (by simp)
    have h1 := Go.bounds_u8 h0
    obtain ⟨n, rfl⟩ : ∃ n : Nat, x = (n : Int) := ⟨x.toNat, by omega⟩
    obtain ⟨l, e, hl, hb⟩ := u8_ints (a := a) (fun x hx => h x (by simp [hx]))
    exact ⟨n :: l, by simp [u8s] at e ⊢; exact e, by simp [hl], by intro m hm; rcases List.mem_cons.1 hm with rfl | hm; omega; exact hb m hm⟩
theorem GhashField_walk (a b c : List Int) (w : World) (la : a.length = 16) (wa : ∀ x ∈ a, (Lit.int .u8 x).wf = true) (lb : b.length = 16) (wb : ∀ x ∈ b, (Lit.int .u8 x).wf = true) (lc : c.length = 16) (wc : ∀ x ∈ c, (Lit.int .u8 x).wf = true) :
    Calls Try.prog 3 #[.agg (a.map (Value.int .u8)).toArray, .agg (b.map (Value.int .u8)).toArray, .agg (c.map (Value.int .u8)).toArray] w fun e w' => e = .returned (.bool true) ∧ Below w.heap.size w w' := by
  obtain ⟨x, ex, lx, bx⟩ := u8_ints wa
  obtain ⟨y, ey, ly, by_⟩ := u8_ints wb
  obtain ⟨z, ez, lz, bz⟩ := u8_ints wc
  rw [ex, ey, ez]
  exact (ghashField_ x y z ⟨lx.trans la, bx⟩ ⟨ly.trans lb, by_⟩ ⟨lz.trans lc, bz⟩ w).mono fun e w' h => ⟨h.1, h.2.below⟩
end Go.Proofs.Ytfoenaleboodpaa
