/- Small laws that open arguments: slices of parts. -/
import Derived.Test.YtjbdimfpjbmggaaDoorRk4
import Derived.Test.YtjbdimfpjbmggaaDoorSh
import Derived.DataReads
set_option linter.unusedVariables false
set_option linter.unusedSimpArgs false
namespace Go.Proofs.YtjbdimfpjbmggaaDoor
open Go Go.RowKit Go.WideShapes Go.ChangeShapes
namespace Rk
variable {P : Program} {W : World} {base : Nat} {r : Reach} {H : Type} {enc : TypeId × Value → H} {held : Bool} {b0 : Nat}
theorem shr_of {e e3 : TypeId} {f0 f1 f2 : Field} {n : Nat} {cs : List Value} {y : DataW H × List MemPlace} (hu : P.underlying e = some (.struct #[f0, f1, f2])) (h0 : P.underlying f0.type = some (.int .u8)) (h1 : P.underlying f1.type = some (.int .u32)) (h2 : P.underlying f2.type = some (.slice e3)) (h3 : P.underlying e3 = some (.int .u8)) (hc3 : P.cellsOf e3 = 1)
    (c0 : P.cellsOf f0.type = 1) (c1 : P.cellsOf f1.type = 1) (c2 : P.cellsOf f2.type = 1) (o0 : f0.offset = 0) (o1 : f1.offset = 1) (o2 : f2.offset = 2) (hc : P.cellsOf e = 3) (h : DataW.trod enc P W b0 (fun _ => true) held n e cs = some y) : ∃ s : Shr, cs = shC s ∧ s.ok W := by
  obtain ⟨xs, m, _, _, hl, hlen, hx⟩ := DataW.trod_struct hu h
  rw [hc] at hl
  have sf : Fields P W enc held b0 #[f0, f1, f2] cs := fun i f hi => by
    have h1 := hx i f hi
    have hlt : i < xs.length := by rw [hlen]; exact (Array.getElem?_eq_some_iff.1 hi).1
    rw [List.getElem?_eq_getElem hlt] at h1
    exact ⟨m, _, h1⟩
  obtain ⟨x0, e0', w0⟩ := sf_int sf 0 rfl h0 c0 o0
  obtain ⟨x1, e1', w1⟩ := sf_int sf 1 rfl h1 c1 o1
  obtain ⟨a, l, cap, e2', hb, hle, hm⟩ := sf_bytes sf 2 rfl h2 h3 hc3 c2 o2
  have b0' := bounds_u8 w0
  obtain ⟨g, rfl, hg⟩ := nat_u32 w1
  obtain ⟨ix, rfl⟩ : ∃ n : Nat, x0 = (n : Int) := ⟨x0.toNat, by omega⟩
  exact ⟨⟨ix, g, a, l, cap⟩, list3 hl e0' e1' e2', ⟨by show ix < 256; omega, hg, hb, hle, hm⟩⟩
theorem list_shr {p : Nat → Shr → Prop} : ∀ (n : Nat), (∀ i, i < n → ∃ s, p i s) → ∃ L : List Shr, L.length = n ∧ ∀ i s, L[i]? = some s → p i s
  | 0, _ => ⟨[], rfl, by simp⟩
  | n + 1, h => by
    obtain ⟨L, hl, hp⟩ := list_shr n (fun i hi => h i (by omega))
    obtain ⟨s, hs⟩ := h n (by omega)
    refine ⟨L ++ [s], by simp [hl], fun i u hu => ?_⟩
    rcases Nat.lt_or_ge i L.length with h1 | h1
    · rw [List.getElem?_append_left h1] at hu; exact hp i u hu
    · rw [List.getElem?_append_right h1] at hu
      have : i - L.length = 0 := by
        have := (List.getElem?_eq_some_iff.1 hu).1
        simpa using this
      rw [this] at hu; cases hu
      obtain rfl : i = n := by omega
      exact hs
theorem shsC_inv {L : List Shr} {j : Nat} {u : Value} (h : (shsC L)[j]? = some u) : ∃ i s k, L[i]? = some s ∧ (shC s)[k]? = some u ∧ j = i * 3 + k := by
  have hj := (List.getElem?_eq_some_iff.1 h).1
  rw [shsC_length] at hj
  obtain ⟨s, es⟩ : ∃ s, L[j / 3]? = some s := ⟨_, List.getElem?_eq_getElem (by omega)⟩
  obtain ⟨v, ev⟩ : ∃ v, (shC s)[j % 3]? = some v := ⟨_, List.getElem?_eq_getElem (by show j % 3 < 3; omega)⟩
  have := shsC_get es ev
  rw [show j / 3 * 3 + j % 3 = j by omega, h] at this
  cases this
  exact ⟨_, s, _, es, ev, by omega⟩
/-- A slice of parts. -/
theorem open_shares {t e e3 : TypeId} {f0 f1 f2 : Field} {v : Value} {d : DataW H} {p : List MemPlace} (ht : P.underlying t = some (.slice e)) (hu : P.underlying e = some (.struct #[f0, f1, f2])) (h0 : P.underlying f0.type = some (.int .u8)) (h1 : P.underlying f1.type = some (.int .u32)) (h2 : P.underlying f2.type = some (.slice e3)) (h3 : P.underlying e3 = some (.int .u8)) (hc3 : P.cellsOf e3 = 1)
    (c0 : P.cellsOf f0.type = 1) (c1 : P.cellsOf f1.type = 1) (c2 : P.cellsOf f2.type = 1) (o0 : f0.offset = 0) (o1 : f1.offset = 1) (o2 : f2.offset = 2) (hc : P.cellsOf e = 3)
    (hv : Value.okWide P W r base t v) (h : DataW.Trod enc P W b0 (fun _ => true) held t v d p) :
    ∃ (A : Option Addr) (L : List Shr) (cap : Nat), v = .slice A L.length cap ∧ Ss W A L ∧ L.length ≤ cap ∧ cap ≤ maxLen := by
  obtain ⟨a0, len0, cap0, rfl⟩ := okWide_slice ht hv
  obtain ⟨fuel, hf⟩ := h
  rcases Go.Deep.open_slice ht hf with ⟨hcs, _⟩ | ⟨a, len, cap, m, n, D, Pl, hcs, hb, hl, hm, hmm, _, hx⟩
  · simp [Value.cells] at hcs
    obtain ⟨rfl, rfl, rfl⟩ := hcs
    exact ⟨none, [], 0, rfl, Ss.nil _ _, Nat.le_refl _, by decide⟩
  · simp [Value.cells] at hcs
    obtain ⟨rfl, rfl, rfl⟩ := hcs
    simp only [if_true] at hmm
    subst hmm
    rw [hc] at hx
    obtain ⟨L, hL, hp⟩ := list_shr (p := fun i s => s.ok W ∧ ∀ j u, (shC s)[j]? = some u → W.cell? (a.add (i * 3 + j)) = some u) len0 (fun i hi => by
      obtain ⟨cs', h1', h2'⟩ := hx i (by omega)
      obtain ⟨s, rfl, hs⟩ := shr_of hu h0 h1 h2 h3 hc3 c0 c1 c2 o0 o1 o2 hc h2'
      refine ⟨s, hs, fun j u hju => ?_⟩
      have hc := World.cells?_some h1'
      have hj3 : j < 3 := (List.getElem?_eq_some_iff.1 hju).1
      rw [← Go.Deep.add_add, hc.2.2 j hj3]; exact hju)
    subst hL
    refine ⟨some a, L, _, rfl, ⟨fun s hs => ?_, fun hne => ?_⟩, hl, hm⟩
    · obtain ⟨i, hi, e⟩ := List.getElem_of_mem hs
      exact (hp i s (List.getElem?_eq_some_iff.2 ⟨hi, e⟩)).1
    · obtain ⟨s, es⟩ : ∃ s, L[0]? = some s := ⟨_, List.getElem?_eq_getElem (List.length_pos_iff.2 hne)⟩
      have hc0 := (hp 0 s es).2 0 _ rfl
      rw [Nat.zero_mul, Nat.add_zero, add_zero'] at hc0
      have hsp := spot_none hc0
      refine ⟨a.block, a.off, by rw [← hsp], fun j u hu' => ?_⟩
      obtain ⟨i, s', k, es', ek, rfl⟩ := shsC_inv hu'
      have := (hp i s' es').2 k u ek
      rwa [add_of hsp] at this
end Rk
end Go.Proofs.YtjbdimfpjbmggaaDoor
