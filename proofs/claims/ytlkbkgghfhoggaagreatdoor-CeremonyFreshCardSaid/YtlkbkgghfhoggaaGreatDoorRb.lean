/- A struct of two rows, built of both. -/
import Derived.Test.YtlkbkgghfhoggaaGreatDoorLo
set_option linter.unusedVariables false
set_option linter.unusedSimpArgs false
namespace Go.Proofs.YtlkbkgghfhoggaaGreatDoor
open Go.RowKit
theorem fold_set (C : List Value) : ∀ (k off : Nat) (cells : Array Value), off + k + C.length ≤ cells.size →
    ((C.zipIdx k).foldl (fun (cs : Array Value) (x : Value × Nat) => cs.setIfInBounds (off + x.2) x.1) cells).size = cells.size ∧
    ∀ i : Nat, ((C.zipIdx k).foldl (fun (cs : Array Value) (x : Value × Nat) => cs.setIfInBounds (off + x.2) x.1) cells)[i]? = if off + k ≤ i ∧ i < off + k + C.length then C[i - (off + k)]? else cells[i]? := by
  induction C with
  | nil => intro k off cells _; exact ⟨rfl, fun i => by rw [if_neg (by rw [List.length_nil]; omega)]; rfl⟩
  | cons c C ih =>
    intro k off cells h
    rw [List.length_cons] at h
    have h2 := ih (k + 1) off (cells.setIfInBounds (off + k) c) (by rw [Array.size_setIfInBounds]; omega)
    rw [Array.size_setIfInBounds] at h2
    refine ⟨h2.1, fun i => ?_⟩
    show ((C.zipIdx (k + 1)).foldl _ (cells.setIfInBounds (off + k) c))[i]? = _
    rw [h2.2 i, List.length_cons]
    by_cases h1 : off + k = i
    · subst h1
      rw [if_neg (by omega), if_pos (by omega), Nat.sub_self, Array.getElem?_setIfInBounds_self_of_lt (by omega)]; rfl
    · by_cases h3 : off + (k + 1) ≤ i ∧ i < off + (k + 1) + C.length
      · rw [if_pos h3, if_pos (by omega), show i - (off + k) = i - (off + (k + 1)) + 1 by omega]; rfl
      · rw [if_neg h3, if_neg (by omega), Array.getElem?_setIfInBounds_ne h1]
def twoB (P : Program) (t n m : Nat) : Bool := match P.info? t, P.underlying t with
  | some it, some (.struct fields) => match it.zero, fields.toList.mapM (fun f => (P.info? f.type).map fun i => (f.offset, i.size)) with
    | some z, some places => Nat.beq z.cells.size (n + m) && (places == [(0, n), (n, m)])
    | _, _ => false
  | _, _ => false
theorem built_two {P : Program} {t n m : Nat} (h : twoB P t n m = true) {A B : List Value} (hA : A.length = n) (hB : B.length = m) :
    (P.built t [(0, .agg A.toArray), (1, .agg B.toArray)]).map Array.toList = some (A ++ B) := by
  unfold twoB at h
  unfold Program.built
  cases hi : P.info? t with
  | none => simp [hi] at h
  | some it =>
    cases hu : P.underlying t with
    | none => simp [hi, hu] at h
    | some d =>
      cases d <;> try (simp [hi, hu] at h; done)
      case struct fields =>
        cases hz : it.zero with
        | none => simp [hi, hu, hz] at h
        | some z =>
          cases hp : fields.toList.mapM (fun f => (P.info? f.type).map fun i => (f.offset, i.size)) with
          | none => simp [hi, hu, hz, hp] at h
          | some places =>
            simp only [hi, hu, hz, hp, Bool.and_eq_true] at h
            have hn := Nat.eq_of_beq_eq_true h.1
            obtain rfl : places = [(0, n), (n, m)] := by simpa using h.2
            subst hA hB
            have e1 := fold_set A 0 0 z.cells (by omega)
            have e2 := fold_set B 0 A.length ((A.zipIdx 0).foldl (fun (cs : Array Value) (x : Value × Nat) => cs.setIfInBounds (0 + x.2) x.1) z.cells) (by rw [e1.1]; omega)
            have c1 (L : List Value) : Value.cells (.agg L.toArray) = L.toArray := rfl
            have f1 (L : List Value) (off : Nat) (cs : Array Value) : (L.toArray.zipIdx.foldl (fun (cs : Array Value) (x : Value × Nat) => cs.setIfInBounds (off + x.2) x.1) cs) = (L.zipIdx 0).foldl (fun (cs : Array Value) (x : Value × Nat) => cs.setIfInBounds (off + x.2) x.1) cs := by
              rw [← Array.foldl_toList, Array.toList_zipIdx]
            simp only [hz, hp, Instr.fill, c1, List.size_toArray]
            have g0 : (([(0, A.length), (A.length, B.length)] : List (Nat × Nat)).toArray)[0]? = some (0, A.length) := rfl
            have g1 : (([(0, A.length), (A.length, B.length)] : List (Nat × Nat)).toArray)[1]? = some (A.length, B.length) := rfl
            rw [g0]
            simp only [g1]
            rw [if_neg (by simp; omega)]
            have s1 : (A.toArray.zipIdx.foldl (fun (cs : Array Value) (x : Value × Nat) => cs.setIfInBounds (0 + x.2) x.1) z.cells).size = z.cells.size := by rw [f1]; exact e1.1
            rw [if_neg (by
              rw [Bool.or_eq_true]; rintro (h | h)
              · simp at h
              · have := of_decide_eq_true h
                have s2 := s1
                omega)]
            simp only [Option.map_some, Option.some.injEq]
            apply List.ext_getElem?
            intro i
            rw [Array.getElem?_toList]
            have q1 := e2.2 i
            have q2 := e1.2 i
            rw [← f1 A 0 z.cells, ← f1 B A.length] at q1
            rw [← f1 A 0 z.cells] at q2
            refine q1.trans ?_
            rw [q2]
            rcases Nat.lt_or_ge i A.length with h1 | h1
            · rw [if_neg (by omega), if_pos (by omega), List.getElem?_append_left h1]; rfl
            · rw [List.getElem?_append_right h1]
              rcases Nat.lt_or_ge i (A.length + B.length) with h2 | h2
              · rw [if_pos (by omega)]; rfl
              · rw [if_neg (by omega), if_neg (by omega), Array.getElem?_eq_none (by omega), List.getElem?_eq_none (by omega)]
end Go.Proofs.YtlkbkgghfhoggaaGreatDoor
