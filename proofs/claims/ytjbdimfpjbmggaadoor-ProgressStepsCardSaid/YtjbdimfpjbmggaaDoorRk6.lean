/- Small laws that open arguments: strings, structs within structs, slices of parts within structs. -/
import Derived.Test.YtjbdimfpjbmggaaDoorRk5
set_option linter.unusedVariables false
set_option linter.unusedSimpArgs false
namespace Go.Proofs.YtjbdimfpjbmggaaDoor
open Go Go.RowKit Go.WideShapes Go.ChangeShapes
namespace Rk
variable {P : Program} {W : World} {base : Nat} {r : Reach} {H : Type} {enc : TypeId × Value → H} {held : Bool} {b0 : Nat}
variable {cs : List Value} {fs fs2 : Array Field} {f : Field} {o k : Nat}
theorem sf_string (sf : Fields P W enc held b0 fs cs) (i : Nat) (hf : fs[i]? = some f) (hu : P.underlying f.type = some .string) (hc : P.cellsOf f.type = 1) (ho : f.offset = o) : ∃ s : ByteArray, cs[o]? = some (.string s) ∧ s.size ≤ maxLen := by
  subst ho
  obtain ⟨n, y, h⟩ := sf i f hf
  rw [hc] at h
  obtain ⟨s, h1, _, h3⟩ := DataW.trod_string hu h
  exact ⟨s, one_of h1, h3⟩
theorem sf_struct (sf : Fields P W enc held b0 fs cs) (i : Nat) (hf : fs[i]? = some f) (hu : P.underlying f.type = some (.struct fs2)) (hc : P.cellsOf f.type = k) (ho : f.offset = o) : Fields P W enc held b0 fs2 ((cs.drop o).take k) := by
  subst ho hc
  obtain ⟨n, y, h⟩ := sf i f hf
  obtain ⟨xs, m, _, _, hl, hlen, hx⟩ := DataW.trod_struct hu h
  intro j g hg
  have h1 := hx j g hg
  have hlt : j < xs.length := by rw [hlen]; exact (Array.getElem?_eq_some_iff.1 hg).1
  rw [List.getElem?_eq_getElem hlt] at h1
  exact ⟨m, _, h1⟩
theorem sub_at {j : Nat} {v : Value} (h : ((cs.drop o).take k)[j]? = some v) : cs[o + j]? = some v := by
  rw [List.getElem?_take] at h
  split at h
  · rwa [List.getElem?_drop] at h
  · cases h
/-- A slice of parts, as a tread's own. -/
theorem trod_shares {t e e3 : TypeId} {f0 f1 f2 : Field} {n : Nat} {y : DataW H × List MemPlace} (ht : P.underlying t = some (.slice e)) (hu : P.underlying e = some (.struct #[f0, f1, f2])) (h0 : P.underlying f0.type = some (.int .u8)) (h1 : P.underlying f1.type = some (.int .u32)) (h2 : P.underlying f2.type = some (.slice e3)) (h3 : P.underlying e3 = some (.int .u8)) (hc3 : P.cellsOf e3 = 1)
    (c0 : P.cellsOf f0.type = 1) (c1 : P.cellsOf f1.type = 1) (c2 : P.cellsOf f2.type = 1) (o0 : f0.offset = 0) (o1 : f1.offset = 1) (o2 : f2.offset = 2) (hc : P.cellsOf e = 3)
    (h : DataW.trod enc P W b0 (fun _ => true) held n t cs = some y) :
    ∃ (A : Option Addr) (L : List Shr) (cap : Nat), cs = [.slice A L.length cap] ∧ Ss W A L ∧ L.length ≤ cap ∧ cap ≤ maxLen := by
  rcases Go.Deep.open_slice ht h with ⟨hcs, _⟩ | ⟨a, len, cap, m, n, D, Pl, hcs, hb, hl, hm, hmm, _, hx⟩
  · exact ⟨none, [], 0, hcs, Ss.nil _ _, Nat.le_refl _, by decide⟩
  · subst hcs
    simp only [if_true] at hmm
    subst hmm
    rw [hc] at hx
    obtain ⟨L, hL, hp⟩ := list_shr (p := fun i s => s.ok W ∧ ∀ j u, (shC s)[j]? = some u → W.cell? (a.add (i * 3 + j)) = some u) len (fun i hi => by
      obtain ⟨cs', h1', h2'⟩ := hx i (by omega)
      obtain ⟨s, rfl, hs⟩ := shr_of hu h0 h1 h2 h3 hc3 c0 c1 c2 o0 o1 o2 hc h2'
      refine ⟨s, hs, fun j u hju => ?_⟩
      have hc := World.cells?_some h1'
      have hj3 : j < 3 := (List.getElem?_eq_some_iff.1 hju).1
      rw [← Go.Deep.add_add, hc.2.2 j hj3]; exact hju)
    subst hL
    refine ⟨some a, L, _, rfl, ⟨fun s hs => ?_, fun hne => ?_⟩, hl, hm⟩
    · obtain ⟨i, hi, e⟩ := List.getElem_of_mem hs
      exact (hp i s (List.getElem?_eq_some_iff.2 ⟨hi, e⟩)).1
    · obtain ⟨s, es⟩ : ∃ s, L[0]? = some s := ⟨_, List.getElem?_eq_getElem (List.length_pos_iff.2 hne)⟩
      have hc0 := (hp 0 s es).2 0 _ rfl
      rw [Nat.zero_mul, Nat.add_zero, add_zero'] at hc0
      have hsp := spot_none hc0
      refine ⟨a.block, a.off, by rw [← hsp], fun j u hu' => ?_⟩
      obtain ⟨i, s', k, es', ek, rfl⟩ := shsC_inv hu'
      have := (hp i s' es').2 k u ek
      rwa [add_of hsp] at this
theorem sf_shares (sf : Fields P W enc held b0 fs cs) (i : Nat) (hf : fs[i]? = some f) {e e3 : TypeId} {f0 f1 f2 : Field} (ht : P.underlying f.type = some (.slice e)) (hu : P.underlying e = some (.struct #[f0, f1, f2])) (h0 : P.underlying f0.type = some (.int .u8)) (h1 : P.underlying f1.type = some (.int .u32)) (h2 : P.underlying f2.type = some (.slice e3)) (h3 : P.underlying e3 = some (.int .u8)) (hc3 : P.cellsOf e3 = 1)
    (c0 : P.cellsOf f0.type = 1) (c1 : P.cellsOf f1.type = 1) (c2 : P.cellsOf f2.type = 1) (o0 : f0.offset = 0) (o1 : f1.offset = 1) (o2 : f2.offset = 2) (hce : P.cellsOf e = 3) (hc : P.cellsOf f.type = 1) (ho : f.offset = o) :
    ∃ (A : Option Addr) (L : List Shr) (cap : Nat), cs[o]? = some (.slice A L.length cap) ∧ Ss W A L ∧ L.length ≤ cap ∧ cap ≤ maxLen := by
  subst ho
  obtain ⟨n, y, h⟩ := sf i f hf
  rw [hc] at h
  obtain ⟨A, L, cap, h1, h2, h3, h4⟩ := trod_shares ht hu h0 h1 h2 h3 hc3 c0 c1 c2 o0 o1 o2 hce h
  exact ⟨A, L, cap, one_of h1, h2, h3, h4⟩
theorem list5 {a b c d e : Value} (h : cs.length = 5) (h0 : cs[0]? = some a) (h1 : cs[1]? = some b) (h2 : cs[2]? = some c) (h3 : cs[3]? = some d) (h4 : cs[4]? = some e) : cs = [a, b, c, d, e] := by
  match cs, h with
  | [x, y, z, w, v], _ => simp at h0 h1 h2 h3 h4; subst h0 h1 h2 h3 h4; rfl
end Rk
end Go.Proofs.YtjbdimfpjbmggaaDoor
