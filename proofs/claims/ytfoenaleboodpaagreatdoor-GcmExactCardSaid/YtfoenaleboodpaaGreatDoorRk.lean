/- Small laws that open arguments: an array of whole numbers. -/
import Derived.Test.YtfoenaleboodpaaGreatDoorProg
import Derived.WalkKit
import Derived.ProofKit
import Derived.OpenShut
set_option linter.unusedVariables false
set_option linter.unusedSimpArgs false
namespace Go.Proofs.YtfoenaleboodpaaGreatDoor.Rk
open Go Go.RowKit Go.WideShapes
variable {P : Program} {W : World} {base : Nat} {r : Reach} {H : Type} {enc : TypeId × Value → H} {spare : Nat → Bool} {held : Bool} {b0 : Nat}

theorem okWide_array {t e : TypeId} {n : Nat} {v : Value} (ht : P.underlying t = some (.array n e)) (h : Value.okWide P W r base t v) : ∃ cs, v = .agg cs ∧ cs.size = P.cellsOf t := by
  simp only [Value.okWide, ht] at h
  obtain ⟨cs, h1, h2, _⟩ := h
  exact ⟨cs, h1, h2⟩

theorem list_all {α : Type} {p : α → Prop} {f : Int → α} : ∀ (l : List α), (∀ (i : Nat) (v : α), l[i]? = some v → ∃ x, v = f x ∧ p v) → ∃ xs : List Int, l = xs.map f ∧ ∀ v ∈ l, p v
  | [], _ => ⟨[], rfl, by simp⟩
  | v :: l, h => by
    obtain ⟨x, rfl, hp⟩ := h 0 v rfl
    obtain ⟨xs, rfl, hq⟩ := list_all l (fun i u hu => h (i + 1) u (by simpa using hu))
    exact ⟨x :: xs, rfl, by simpa [hp] using hq⟩

/-- An array of whole numbers, by value. -/
theorem open_intArray {t e : TypeId} {n : Nat} {k : IntKind} {v : Value} {d : DataW H} {p : List MemPlace} (ht : P.underlying t = some (.array n e)) (he : P.underlying e = some (.int k)) (hce : P.cellsOf e = 1) (hct : P.cellsOf t = n)
    (hv : Value.okWide P W r base t v) (h : DataW.Trod enc P W b0 spare held t v d p) :
    ∃ xs : List Int, v = .agg (xs.map (Value.int k)).toArray ∧ xs.length = n ∧ ∀ x ∈ xs, (Lit.int k x).wf = true := by
  obtain ⟨cs, rfl, hsz⟩ := okWide_array ht hv
  obtain ⟨fuel, hf⟩ := h
  obtain ⟨ys, m, _, _, hl, hn, hx⟩ := DataW.trod_array ht hf
  rw [hct] at hsz
  have hlen : cs.toList.length = n := by simpa using hsz
  obtain ⟨xs, hxs, hw⟩ := list_all (p := fun v => ∀ x, v = .int k x → (Lit.int k x).wf = true) (f := Value.int k) cs.toList (fun (i : Nat) (v : Value) hv => by
    have hi : i < n := by rw [← hlen]; exact (List.getElem?_eq_some_iff.1 hv).1
    have h1 := hx i hi
    have hy : (List.take (P.cellsOf e) (List.drop (i * P.cellsOf e) (Value.cells (.agg cs)).toList)) = [v] := by
      rw [hce, Nat.mul_one]
      show List.take 1 (List.drop i cs.toList) = [v]
      rw [List.drop_eq_getElem_cons (by rw [hlen]; exact hi)]
      obtain ⟨_, hg⟩ := List.getElem?_eq_some_iff.1 hv
      simp [hg]
    rw [hy] at h1
    obtain ⟨y, hy1⟩ : ∃ y, ys[i]? = some y := ⟨_, List.getElem?_eq_getElem (by omega)⟩
    rw [hy1] at h1
    obtain ⟨z, hz1, _, hz3⟩ := DataW.trod_int he h1
    simp at hz1
    subst hz1
    exact ⟨z, rfl, fun x hxe => by injection hxe with _ h2; subst h2; exact hz3⟩)
  refine ⟨xs, ?_, ?_, ?_⟩
  · rw [← hxs]
  · rw [← hlen, hxs, List.length_map]
  · intro x hxm
    exact hw (.int k x) (by rw [hxs]; exact List.mem_map_of_mem hxm) x rfl
end Go.Proofs.YtfoenaleboodpaaGreatDoor.Rk
