/- Small laws that open arguments: structs of numbers and of slices of bytes. -/
import Derived.Test.YtfoenaleboodpaaGreatDoorRk3
set_option linter.unusedVariables false
set_option linter.unusedSimpArgs false
namespace Go.Proofs.YtfoenaleboodpaaGreatDoor
open Go Go.RowKit Go.WideShapes Go.ChangeShapes
namespace Rk
variable {P : Program} {W : World} {base : Nat} {r : Reach} {H : Type} {enc : TypeId × Value → H} {held : Bool} {b0 : Nat}
theorem open_struct {t : TypeId} {fs : Array Field} {v : Value} {d : DataW H} {p : List MemPlace} (ht : P.underlying t = some (.struct fs)) (hv : Value.okWide P W r base t v) (h : DataW.Trod enc P W b0 (fun _ => true) held t v d p) :
    ∃ cs : List Value, v = .agg cs.toArray ∧ cs.length = P.cellsOf t ∧ ∀ (i : Nat) (f : Field), fs[i]? = some f → ∃ n y, DataW.trod enc P W b0 (fun _ => true) held n f.type ((cs.drop f.offset).take (P.cellsOf f.type)) = some y := by
  obtain ⟨cs, rfl, hsz⟩ := okWide_struct ht hv
  obtain ⟨fuel, hf⟩ := h
  obtain ⟨xs, n, _, _, hl, hlen, hx⟩ := DataW.trod_struct ht hf
  refine ⟨cs.toList, by simp, by simpa using hsz, fun i f hi => ?_⟩
  have h1 := hx i f hi
  have hlt : i < xs.length := by rw [hlen]; exact (Array.getElem?_eq_some_iff.1 hi).1
  rw [List.getElem?_eq_getElem hlt] at h1
  exact ⟨n, _, h1⟩
variable {cs : List Value} {fs : Array Field} {f : Field} {o : Nat}
abbrev Fields (P : Program) (W : World) (enc : TypeId × Value → H) (held : Bool) (b0 : Nat) (fs : Array Field) (cs : List Value) : Prop := ∀ (i : Nat) (f : Field), fs[i]? = some f → ∃ n y, DataW.trod enc P W b0 (fun _ => true) held n f.type ((cs.drop f.offset).take (P.cellsOf f.type)) = some y
theorem one_of {v : Value} (h : (cs.drop o).take 1 = [v]) : cs[o]? = some v := by
  have := congrArg (fun l : List Value => l[0]?) h
  simpa [List.getElem?_take, List.getElem?_drop] using this
theorem sf_int (sf : Fields P W enc held b0 fs cs) (i : Nat) (hf : fs[i]? = some f) {k : IntKind} (hu : P.underlying f.type = some (.int k)) (hc : P.cellsOf f.type = 1) (ho : f.offset = o) : ∃ x : Int, cs[o]? = some (.int k x) ∧ (Lit.int k x).wf = true := by
  subst ho
  obtain ⟨n, y, h⟩ := sf i f hf
  rw [hc] at h
  obtain ⟨x, hx1, _, hx3⟩ := DataW.trod_int hu h
  exact ⟨x, one_of hx1, hx3⟩
theorem sf_bytes (sf : Fields P W enc held b0 fs cs) (i : Nat) (hf : fs[i]? = some f) {e : TypeId} (hu : P.underlying f.type = some (.slice e)) (he : P.underlying e = some (.int .u8)) (hce : P.cellsOf e = 1) (hc : P.cellsOf f.type = 1) (ho : f.offset = o) :
    ∃ (a : Option Addr) (l : List Nat) (cap : Nat), cs[o]? = some (.slice a l.length cap) ∧ Bs W a l ∧ l.length ≤ cap ∧ cap ≤ maxLen := by
  subst ho
  obtain ⟨n, y, h⟩ := sf i f hf
  rw [hc] at h
  obtain ⟨a, l, cap, h1, h2, h3, h4⟩ := trod_bytes hu he hce h
  exact ⟨a, l, cap, one_of h1, h2, h3, h4⟩
theorem list3 {a b c : Value} (h : cs.length = 3) (h0 : cs[0]? = some a) (h1 : cs[1]? = some b) (h2 : cs[2]? = some c) : cs = [a, b, c] := by
  match cs, h with
  | [x, y, z], _ => simp at h0 h1 h2; subst h0 h1 h2; rfl
theorem list4 {a b c d : Value} (h : cs.length = 4) (h0 : cs[0]? = some a) (h1 : cs[1]? = some b) (h2 : cs[2]? = some c) (h3 : cs[3]? = some d) : cs = [a, b, c, d] := by
  match cs, h with
  | [x, y, z, w], _ => simp at h0 h1 h2 h3; subst h0 h1 h2 h3; rfl
end Rk
end Go.Proofs.YtfoenaleboodpaaGreatDoor
