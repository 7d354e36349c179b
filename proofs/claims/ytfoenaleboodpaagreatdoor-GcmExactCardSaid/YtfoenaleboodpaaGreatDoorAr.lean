/- Rows written place by place: 'upto f g k n': the first k places hold f's numbers, the others g's. -/
import Derived.Test.YtfoenaleboodpaaGreatDoorLq
set_option linter.unusedVariables false
namespace Go.Proofs.YtfoenaleboodpaaGreatDoor
def arr (n : Nat) (f : Nat → Nat) : List Nat := (List.range n).map f
def upto (f g : Nat → Nat) (k n : Nat) : List Nat := arr n (fun i => if i < k then f i else g i)
theorem arr_length (n : Nat) (f : Nat → Nat) : (arr n f).length = n := by simp [arr]
theorem arr_get {n : Nat} (f : Nat → Nat) {i : Nat} (h : i < n) : (arr n f)[i]? = some (f i) := by simp [arr, List.getElem?_map, List.getElem?_range h]
theorem arr_get' {n : Nat} {f : Nat → Nat} {i v : Nat} (h : (arr n f)[i]? = some v) : i < n ∧ v = f i := by
  have h1 := (List.getElem?_eq_some_iff.1 h).1
  rw [arr_length] at h1
  rw [arr_get f h1] at h
  exact ⟨h1, (Option.some.inj h).symm⟩
theorem arr_of {n : Nat} {x : List Nat} (h : x.length = n) : arr n (fun i => x.getD i 0) = x := by
  apply List.ext_getElem?
  intro i
  by_cases hi : i < n
  · rw [arr_get _ hi, List.getD_eq_getElem?_getD, List.getElem?_eq_getElem (by omega)]; rfl
  · rw [List.getElem?_eq_none (by rw [arr_length]; omega), List.getElem?_eq_none (by omega)]
theorem arr_ext {n : Nat} {f g : Nat → Nat} (h : ∀ i, i < n → f i = g i) : arr n f = arr n g := List.map_congr_left fun i hi => h i (List.mem_range.1 hi)
theorem arr_by {n : Nat} {f : Nat → Nat} (h : ∀ i, i < n → f i < 256) : By n (arr n f) := ⟨arr_length n f, fun v hv => by
  obtain ⟨i, hi, rfl⟩ := List.mem_map.1 hv; exact h i (List.mem_range.1 hi)⟩
theorem arr_set {n k v : Nat} (f : Nat → Nat) : (arr n f).set k v = arr n (fun i => if i = k then v else f i) := by
  apply List.ext_getElem?
  intro i
  by_cases hi : i < n
  · rw [arr_get _ hi, List.getElem?_set]
    by_cases e : k = i
    · subst e; simp [arr_length, hi]
    · have e' : ¬ i = k := fun h => e h.symm
      simp [e, e', arr_get f hi]
  · rw [List.getElem?_eq_none (by rw [List.length_set, arr_length]; omega), List.getElem?_eq_none (by rw [arr_length]; omega)]
theorem upto_zero (f g : Nat → Nat) (n : Nat) : upto f g 0 n = arr n g := arr_ext fun i _ => by simp
theorem upto_all (f g : Nat → Nat) {n k : Nat} (h : n ≤ k) : upto f g k n = arr n f := arr_ext fun i hi => by rw [if_pos (by omega)]
theorem upto_set {f g : Nat → Nat} {k n v : Nat} (h : v = f k) : (upto f g k n).set k v = upto f g (k + 1) n := by
  unfold upto
  rw [arr_set]
  refine arr_ext fun i hi => ?_
  by_cases e : i = k
  · subst e; rw [if_pos rfl, if_pos (by omega), h]
  · rw [if_neg e]
    by_cases e2 : i < k
    · rw [if_pos e2, if_pos (by omega)]
    · rw [if_neg e2, if_neg (by omega)]
theorem upto_get {f g : Nat → Nat} {k n i v : Nat} (h : (upto f g k n)[i]? = some v) : i < n ∧ v = if i < k then f i else g i := arr_get' h
theorem getD_lt {x : List Nat} (h : ∀ n ∈ x, n < 256) (i : Nat) : x.getD i 0 < 256 := by
  rw [List.getD_eq_getElem?_getD]
  cases hx : x[i]? with
  | none => decide
  | some v => exact h v (List.mem_of_getElem? hx)
theorem getD_some {x : List Nat} {i v : Nat} (h : x[i]? = some v) : x.getD i 0 = v := by rw [List.getD_eq_getElem?_getD, h]; rfl
theorem xor_lt8 {a b : Nat} (h : a < 256) (h' : b < 256) : a ^^^ b < 256 := Nat.xor_lt_two_pow (n := 8) h h'
theorem upto_by {f g : Nat → Nat} {k n : Nat} (hf : ∀ i, i < n → f i < 256) (hg : ∀ i, i < n → g i < 256) : By n (upto f g k n) := arr_by fun i hi => by split; exact hf i hi; exact hg i hi
end Go.Proofs.YtfoenaleboodpaaGreatDoor
