/- Small laws that open arguments: rows of bytes by value, rows of rows. -/
import Derived.Test.YtfoenaleboodpaaGreatDoorRk2
import Derived.Test.YtfoenaleboodpaaGreatDoorLq
set_option linter.unusedVariables false
set_option linter.unusedSimpArgs false
namespace Go.Proofs.YtfoenaleboodpaaGreatDoor
open Go Go.RowKit Go.WideShapes Go.ChangeShapes
namespace Rk
variable {P : Program} {W : World} {base : Nat} {r : Reach} {H : Type} {enc : TypeId × Value → H} {spare : Nat → Bool} {held : Bool} {b0 : Nat}
theorem ints_u8 : ∀ (l : List Value), (∀ (i : Nat) (v : Value), l[i]? = some v → ∃ x : Int, v = .int .u8 x ∧ (Lit.int .u8 x).wf = true) → ∃ xs : List Nat, l = u8s xs ∧ ∀ n ∈ xs, n < 256
  | [], _ => ⟨[], rfl, by simp⟩
  | v :: l, h => by
    obtain ⟨x, rfl, hp⟩ := h 0 v rfl
    obtain ⟨xs, rfl, hq⟩ := ints_u8 l (fun i u hu => h (i + 1) u (by simpa using hu))
    have hb := Go.bounds_u8 hp
    obtain ⟨n, rfl⟩ : ∃ n : Nat, x = (n : Int) := ⟨x.toNat, by omega⟩
    exact ⟨n :: xs, rfl, fun m hm => by rcases List.mem_cons.1 hm with rfl | hm; omega; exact hq m hm⟩
theorem one_at {cs : List Value} {i : Nat} {v : Value} (h : cs[i]? = some v) : (cs.drop i).take 1 = [v] := by
  obtain ⟨hi, hg⟩ := List.getElem?_eq_some_iff.1 h
  rw [List.drop_eq_getElem_cons hi]
  simp [hg]
/-- An array of bytes, by value. -/
theorem open_u8Array {t e : TypeId} {n : Nat} {v : Value} {d : DataW H} {p : List MemPlace} (ht : P.underlying t = some (.array n e)) (he : P.underlying e = some (.int .u8)) (hce : P.cellsOf e = 1) (hct : P.cellsOf t = n)
    (hv : Value.okWide P W r base t v) (h : DataW.Trod enc P W b0 spare held t v d p) : ∃ xs : List Nat, v = .agg (u8s xs).toArray ∧ By n xs := by
  obtain ⟨xs, rfl, hl, hw⟩ := open_intArray ht he hce hct hv h
  obtain ⟨ys, hy, hb⟩ := ints_u8 (xs.map (Value.int .u8)) (fun i v hv => by
    rw [List.getElem?_map, Option.map_eq_some_iff] at hv
    obtain ⟨x, hx, rfl⟩ := hv
    exact ⟨x, rfl, hw x (List.mem_of_getElem? hx)⟩)
  refine ⟨ys, by rw [hy], ?_, hb⟩
  have := congrArg List.length hy
  rw [List.length_map, u8s_length, hl] at this
  exact this.symm
/-- An array of arrays of bytes, by value. -/
theorem open_u8Array2 {t s e : TypeId} {n m : Nat} {v : Value} {d : DataW H} {p : List MemPlace} (ht : P.underlying t = some (.array n s)) (hs : P.underlying s = some (.array m e)) (he : P.underlying e = some (.int .u8)) (hce : P.cellsOf e = 1) (hcs : P.cellsOf s = m) (hct : P.cellsOf t = n * m)
    (hv : Value.okWide P W r base t v) (h : DataW.Trod enc P W b0 spare held t v d p) : ∃ xs : List Nat, v = .agg (u8s xs).toArray ∧ By (n * m) xs := by
  obtain ⟨cs, rfl, hsz⟩ := okWide_array ht hv
  obtain ⟨fuel, hf⟩ := h
  obtain ⟨ys, k, _, _, hl, hn, hx⟩ := DataW.trod_array ht hf
  rw [hct] at hsz
  have hlen : cs.toList.length = n * m := by simpa using hsz
  obtain ⟨xs, hxs, hb⟩ := ints_u8 cs.toList (fun i v hv => by
    have hi : i < n * m := by rw [← hlen]; exact (List.getElem?_eq_some_iff.1 hv).1
    have hm : 0 < m := by rcases Nat.eq_zero_or_pos m with e | e; subst e; simp at hi; exact e
    have hq : i / m < n := by rw [Nat.div_lt_iff_lt_mul hm]; exact hi
    have hr : i % m < m := Nat.mod_lt _ hm
    have h1 := hx (i / m) hq
    rw [hcs] at h1
    obtain ⟨y, hy1⟩ : ∃ y, ys[i / m]? = some y := ⟨_, List.getElem?_eq_getElem (by omega)⟩
    rw [hy1] at h1
    obtain ⟨zs, k2, _, _, hl2, hn2, hx2⟩ := DataW.trod_array hs h1
    have h2 := hx2 (i % m) hr
    rw [hce, Nat.mul_one] at h2
    have hv2 : (((Value.cells (.agg cs)).toList.drop (i / m * m)).take m)[i % m]? = some v := by
      rw [List.getElem?_take_of_lt hr, List.getElem?_drop, Nat.mul_comm, Nat.div_add_mod]; exact hv
    rw [one_at hv2] at h2
    obtain ⟨z, hz1⟩ : ∃ z, zs[i % m]? = some z := ⟨_, List.getElem?_eq_getElem (by omega)⟩
    rw [hz1] at h2
    obtain ⟨x, hx1, _, hx3⟩ := DataW.trod_int he h2
    simp at hx1
    exact ⟨x, hx1, hx3⟩)
  refine ⟨xs, by rw [← hxs], ?_, hb⟩
  have := congrArg List.length hxs
  rw [u8s_length, hlen] at this
  exact this.symm
theorem nat_u8 {a : Int} (h : (Lit.int .u8 a).wf = true) : ∃ m : Nat, a = (m : Int) ∧ m < 256 := by
  have := bounds_u8 h
  exact ⟨a.toNat, by omega, by omega⟩
theorem nat_u16 {a : Int} (h : (Lit.int .u16 a).wf = true) : ∃ m : Nat, a = (m : Int) ∧ m < 65536 := by
  have := bounds_u16 h
  exact ⟨a.toNat, by omega, by omega⟩
theorem nat_u32 {a : Int} (h : (Lit.int .u32 a).wf = true) : ∃ m : Nat, a = (m : Int) ∧ m < 4294967296 := by
  have := bounds_u32 h
  exact ⟨a.toNat, by omega, by omega⟩
theorem nat_u64 {a : Int} (h : (Lit.int .u64 a).wf = true) : ∃ m : Nat, a = (m : Int) ∧ m < 18446744073709551616 := by
  have := bounds_u64 h
  exact ⟨a.toNat, by omega, by omega⟩
end Rk
end Go.Proofs.YtfoenaleboodpaaGreatDoor
