/- Small laws that open arguments: slices of bytes, lists and arrays of such. -/
import Derived.Test.YtjbdimfpjbmggaaGreatDoorLb
import Derived.Laws.BytesArg
import Derived.Laws.BitsLemmas
import Derived.Deep.Slices
section
set_option linter.unusedVariables false
set_option linter.unusedSimpArgs false
namespace Go.Proofs.YtjbdimfpjbmggaaGreatDoor
open Go.RowKit

/-- The slice at a reads as the bytes l. -/
structure Bs (w : World) (a : Option Addr) (l : List Nat) : Prop where
  byte : ∀ n ∈ l, n < 256
  cell : l ≠ [] → ∃ b o, a = some ⟨b, o, none⟩ ∧ ∀ (i n : Nat), l[i]? = some n → w.cell? ⟨b, o + i, none⟩ = some (.int .u8 (n : Int))
def blockIs (a : Option Addr) (S : Nat → Prop) : Prop := ∀ x, a = some x → S x.block
section
variable {w w' : World} {a : Option Addr} {l : List Nat} {S : Nat → Prop}
theorem Bs.kept (h : Bs w a l) (k : Kp S w w') (hn : ∀ x, a = some x → ¬ S x.block) : Bs w' a l :=
  ⟨h.byte, fun hl => by
    obtain ⟨b, o, rfl, hc⟩ := h.cell hl
    exact ⟨b, o, rfl, fun i n hi => k.cell (hc i n hi) (hn ⟨b, o, none⟩ rfl)⟩⟩
theorem Bs.keptNo (h : Bs w a l) (k : Kp No w w') : Bs w' a l := h.kept k (fun _ _ f => f)
/-- A slice that has no cell in the blocks S. -/
def Aw (S : Nat → Prop) (a : Option Addr) (l : List Nat) : Prop := l ≠ [] → ∀ x, a = some x → ¬ S x.block
theorem Bs.keptS (h : Bs w a l) (k : Kp S w w') (hn : Aw S a l) : Bs w' a l :=
  ⟨h.byte, fun hl => by
    obtain ⟨b, o, rfl, hc⟩ := h.cell hl
    exact ⟨b, o, rfl, fun i n hi => k.cell (hc i n hi) (hn hl ⟨b, o, none⟩ rfl)⟩⟩
theorem Bs.aw (h : Bs w a l) {b : Nat} (hb : w.heap.size ≤ b) : Aw (On b) a l := fun hl x hx hc => by
  obtain ⟨b', o, rfl, hcell⟩ := h.cell hl
  injection hx with hx; subst hx
  obtain ⟨n, hn⟩ : ∃ n, l[0]? = some n := ⟨_, List.getElem?_eq_getElem (List.length_pos_iff.2 hl)⟩
  have := World.block_lt_of_cell? _ _ (hcell 0 n hn)
  have hc' : b' = b := hc
  subst hc'
  exact absurd this (Nat.not_lt.2 hb)
theorem Bs.drewN (h : Bs w a l) (n : Nat) : Bs (w.drewN n) a l := ⟨h.byte, h.cell⟩
theorem Bs.drew (h : Bs w a l) : Bs w.drew a l := ⟨h.byte, h.cell⟩
theorem Bs.nil (w : World) (a : Option Addr) : Bs w a [] := ⟨by simp, fun h => absurd rfl h⟩
theorem Bs.at (h : Bs w a l) {i n : Nat} (hi : l[i]? = some n) : ∃ b o, a = some ⟨b, o, none⟩ ∧ w.cell? ⟨b, o + i, none⟩ = some (.int .u8 (n : Int)) := by
  obtain ⟨b, o, e, hc⟩ := h.cell (by intro e; subst e; simp at hi)
  exact ⟨b, o, e, hc i n hi⟩
theorem Bs.lt (h : Bs w a l) {i n : Nat} (hi : l[i]? = some n) : n < 256 := h.byte n (List.mem_of_getElem? hi)
theorem Bs.take (h : Bs w a l) (n : Nat) : Bs w a (l.take n) :=
  ⟨fun x hx => h.byte x (List.mem_of_mem_take hx), fun hl => by
    obtain ⟨b, o, e, hc⟩ := h.cell (by intro e; subst e; simp at hl)
    refine ⟨b, o, e, fun i m hi => hc i m ?_⟩
    rw [List.getElem?_take] at hi
    split at hi
    · exact hi
    · cases hi⟩
end

/-! ### as a string -/
def bstr (l : List Nat) : ByteArray := strOfNums (l.map fun n : Nat => (n : Int))
theorem bstr_data (l : List Nat) : (bstr l).data.toList = l.map UInt8.ofNat := by
  unfold bstr; rw [strOfNums_data, List.map_map]; rfl
theorem map_u8_inj : ∀ {l m : List Nat}, (∀ n ∈ l, n < 256) → (∀ n ∈ m, n < 256) → l.map UInt8.ofNat = m.map UInt8.ofNat → l = m
  | [], [], _, _, _ => rfl
  | [], _ :: _, _, _, h => by simp at h
  | _ :: _, [], _, _, h => by simp at h
  | a :: l, b :: m, hl, hm, h => by
    simp only [List.map_cons, List.cons.injEq] at h
    have h1 := congrArg UInt8.toNat h.1
    rw [UInt8.toNat_ofNat_of_lt' (hl a (by simp)), UInt8.toNat_ofNat_of_lt' (hm b (by simp))] at h1
    rw [h1, map_u8_inj (fun n hn => hl n (by simp [hn])) (fun n hn => hm n (by simp [hn])) h.2]
theorem bstr_inj {l m : List Nat} (hl : ∀ n ∈ l, n < 256) (hm : ∀ n ∈ m, n < 256) : bstr l = bstr m ↔ l = m := by
  constructor
  · intro h
    have := congrArg (fun s => s.data.toList) h
    simp only [bstr_data] at this
    exact map_u8_inj hl hm this
  · intro h; rw [h]
theorem bytes_string {P : Program} {w : World} {a : Option Addr} {l : List Nat} {src dst e : TypeId} (hs : P.underlying src = some (.slice e)) (he : P.underlying e = some (.int .u8)) (hd : P.underlying dst = some .string)
    (h : Bs w a l) (cap : Nat) : (convert src dst (.slice a l.length cap)).run P w = .ok (.string (bstr l)) w := by
  have hl : ∀ x, a = some x → (loadCells x l.length).run P w = .ok ((l.map fun n : Nat => (n : Int)).map (Value.int .u8)).toArray w := by
    intro x hx
    have := run_loadCells_list (P := P) w x ((l.map fun n : Nat => (n : Int)).map (Value.int .u8)) (fun j v hj => by
      simp only [List.getElem?_map, Option.map_eq_some_iff] at hj
      obtain ⟨z, ⟨n, hn, rfl⟩, rfl⟩ := hj
      obtain ⟨b, o, e, hc⟩ := h.at hn
      rw [hx] at e
      injection e with e
      subst e
      have hplain : (⟨b, o, none⟩ : Addr).add j = ⟨b, o + j, none⟩ := by unfold Addr.add; split <;> simp_all
      rw [hplain]
      exact hc)
    simpa using this
  cases a with
  | none =>
    have hl0 : l = [] := by
      cases l with
      | nil => rfl
      | cons n l => obtain ⟨b, o, e, _⟩ := h.cell (by simp); cases e
    subst hl0
    exact run_convert_bytes_nil w src e hs he 0 cap dst hd
  | some x =>
    rw [run_convert_bytes_string w src dst e _ _ cap hs he hd, run_bytesToString w x l.length cap _ (hl x rfl), foldl_push_bytes]
    simp [bstr, strOfNums, ByteArray.empty, ByteArray.emptyWithCapacity]
    rfl
end Go.Proofs.YtjbdimfpjbmggaaGreatDoor
end
section
set_option linter.unusedVariables false
set_option linter.unusedSimpArgs false
namespace Go.Proofs.YtjbdimfpjbmggaaGreatDoor
open Go Go.RowKit Go.WideShapes Go.ChangeShapes

abbrev Row3 := Option Addr × List Nat × Nat
def Row3.val (r : Row3) : Value := .slice r.1 r.2.1.length r.2.2
/-- The slice at A holds these slices of bytes. -/
structure Rs3 (w : World) (A : Option Addr) (rows : List Row3) : Prop where
  cell : ∀ (i : Nat) r, rows[i]? = some r → ∃ b o, A = some ⟨b, o, none⟩ ∧ w.cell? ⟨b, o + i, none⟩ = some r.val
  bytes : ∀ r ∈ rows, Bs w r.1 r.2.1

namespace Rk
variable {P : Program} {W : World} {base : Nat} {r : Reach} {H : Type} {enc : TypeId × Value → H} {spare : Nat → Bool} {held : Bool} {b0 : Nat}

theorem spot_none {w : World} {a : Addr} {v : Value} (h : w.cell? a = some v) : a.spot = none := by
  unfold World.cell? at h
  split at h
  · split at h
    · cases h
    · rename_i hs
      cases e : a.spot with
      | none => rfl
      | some x => rw [e] at hs; simp at hs
  · cases h
theorem add_of {a : Addr} (h : a.spot = none) (i : Nat) : a.add i = ⟨a.block, a.off + i, none⟩ := by
  obtain ⟨b, o, s⟩ := a
  simp only at h
  subst h
  unfold Addr.add
  split <;> simp_all
theorem add_zero' (a : Addr) : a.add 0 = a := by unfold Addr.add; simp

theorem bytes_of {w : World} {x : Addr} {zs : List Int} {len : Nat} (hl : len ≤ zs.length) (h : ∀ i, i < zs.length → w.cell? (x.add i) = some (.int .u8 (zs.getD i 0))) (hw : ∀ n ∈ zs, (Lit.int .u8 n).wf = true) :
    ∃ l : List Nat, l.length = len ∧ Bs w (some x) l := by
  refine ⟨(zs.take len).map Int.toNat, by simp; omega, ⟨?_, ?_⟩⟩
  · intro n hn
    obtain ⟨z, hz, rfl⟩ := List.mem_map.1 hn
    have := bounds_u8 (hw z (List.mem_of_mem_take hz))
    omega
  · intro hne
    have h0 : 0 < zs.length := by
      rcases Nat.eq_zero_or_pos zs.length with e | e
      · have : zs = [] := List.eq_nil_of_length_eq_zero e
        subst this
        simp at hne
      · exact e
    have hs := spot_none (by have := h 0 h0; rwa [add_zero'] at this)
    refine ⟨x.block, x.off, by rw [← hs], fun i n hi => ?_⟩
    rw [List.getElem?_map, Option.map_eq_some_iff] at hi
    obtain ⟨z, hz, rfl⟩ := hi
    rw [List.getElem?_take] at hz
    split at hz
    · have hi := (List.getElem?_eq_some_iff.1 hz).1
      have hc := h i hi
      rw [add_of hs] at hc
      rw [hc, List.getD_eq_getElem?_getD, hz]
      have := bounds_u8 (hw z (List.mem_of_getElem? hz))
      simp only [Option.getD_some]
      congr 2
      omega
    · cases hz

theorem trod_bytes {t e : TypeId} {m : Nat} {cs : List Value} {y : DataW H × List MemPlace} (ht : P.underlying t = some (.slice e)) (he : P.underlying e = some (.int .u8)) (hc : P.cellsOf e = 1)
    (h : DataW.trod enc P W b0 (fun _ => true) held m t cs = some y) : ∃ (a : Option Addr) (l : List Nat) (cap : Nat), cs = [.slice a l.length cap] ∧ Bs W a l ∧ l.length ≤ cap ∧ cap ≤ maxLen := by
  rcases open_ints ht he hc h with ⟨rfl, _⟩ | ⟨x, len, cap, zs, rfl, _, hl, hm, hz, _, hcell, hw⟩
  · exact ⟨none, [], 0, rfl, Bs.nil _ _, Nat.le_refl _, by decide⟩
  · have hz' : zs.length = cap := by simpa using hz
    obtain ⟨l, hll, hb⟩ := bytes_of (len := len) (by omega) hcell hw
    exact ⟨some x, l, cap, by rw [hll], hb, by omega, hm⟩

/-- A slice of bytes. -/
theorem open_bytes {t e : TypeId} {v : Value} {d : DataW H} {p : List MemPlace} (ht : P.underlying t = some (.slice e)) (he : P.underlying e = some (.int .u8)) (hc : P.cellsOf e = 1)
    (hv : Value.okWide P W r base t v) (h : DataW.Trod enc P W b0 (fun _ => true) held t v d p) :
    ∃ (a : Option Addr) (l : List Nat) (cap : Nat), v = .slice a l.length cap ∧ Bs W a l ∧ l.length ≤ cap ∧ cap ≤ maxLen := by
  obtain ⟨a0, len, cap, rfl⟩ := okWide_slice ht hv
  obtain ⟨fuel, hf⟩ := h
  obtain ⟨a, l, cap', hcs, hb, h1, h2⟩ := trod_bytes ht he hc hf
  simp [Value.cells] at hcs
  obtain ⟨rfl, rfl, rfl⟩ := hcs
  exact ⟨_, l, _, rfl, hb, h1, h2⟩

theorem list_rows {p : Row3 → Prop} : ∀ (l : List Value), (∀ (i : Nat) (v : Value), l[i]? = some v → ∃ x : Row3, v = x.val ∧ p x) → ∃ xs : List Row3, l = xs.map Row3.val ∧ ∀ x ∈ xs, p x
  | [], _ => ⟨[], rfl, by simp⟩
  | v :: l, h => by
    obtain ⟨x, rfl, hp⟩ := h 0 v rfl
    obtain ⟨xs, rfl, hq⟩ := list_rows l (fun i u hu => h (i + 1) u (by simpa using hu))
    exact ⟨x :: xs, rfl, by simpa [hp] using hq⟩

/-- An array of slices of bytes, by value. -/
theorem open_bytesArray {t s e : TypeId} {n : Nat} {v : Value} {d : DataW H} {p : List MemPlace} (ht : P.underlying t = some (.array n s)) (hs : P.underlying s = some (.slice e)) (he : P.underlying e = some (.int .u8)) (hce : P.cellsOf e = 1) (hcs : P.cellsOf s = 1) (hct : P.cellsOf t = n)
    (hv : Value.okWide P W r base t v) (h : DataW.Trod enc P W b0 (fun _ => true) held t v d p) :
    ∃ xs : List Row3, v = .agg (xs.map Row3.val).toArray ∧ xs.length = n ∧ ∀ x ∈ xs, Bs W x.1 x.2.1 ∧ x.2.1.length ≤ x.2.2 ∧ x.2.2 ≤ maxLen := by
  obtain ⟨cs, rfl, hsz⟩ := okWide_array ht hv
  obtain ⟨fuel, hf⟩ := h
  obtain ⟨ys, m, _, _, hl, hn, hx⟩ := DataW.trod_array ht hf
  rw [hct] at hsz
  have hlen : cs.toList.length = n := by simpa using hsz
  obtain ⟨xs, hxs, hw⟩ := list_rows (p := fun x => Bs W x.1 x.2.1 ∧ x.2.1.length ≤ x.2.2 ∧ x.2.2 ≤ maxLen) cs.toList (fun (i : Nat) (v : Value) hv => by
    have hi : i < n := by rw [← hlen]; exact (List.getElem?_eq_some_iff.1 hv).1
    have h1 := hx i hi
    have hy : (List.take (P.cellsOf s) (List.drop (i * P.cellsOf s) (Value.cells (.agg cs)).toList)) = [v] := by
      rw [hcs, Nat.mul_one]
      show List.take 1 (List.drop i cs.toList) = [v]
      rw [List.drop_eq_getElem_cons (by rw [hlen]; exact hi)]
      obtain ⟨_, hg⟩ := List.getElem?_eq_some_iff.1 hv
      simp [hg]
    rw [hy] at h1
    obtain ⟨y, hy1⟩ : ∃ y, ys[i]? = some y := ⟨_, List.getElem?_eq_getElem (by omega)⟩
    rw [hy1] at h1
    obtain ⟨a, l, cap, hcs', hb, h2, h3⟩ := trod_bytes hs he hce h1
    simp at hcs'
    exact ⟨(a, l, cap), hcs', hb, h2, h3⟩)
  refine ⟨xs, by rw [← hxs], by rw [← hlen, hxs, List.length_map], hw⟩

/-- A slice of slices of bytes. -/
theorem open_rows {t s e : TypeId} {v : Value} {d : DataW H} {p : List MemPlace} (ht : P.underlying t = some (.slice s)) (hs : P.underlying s = some (.slice e)) (he : P.underlying e = some (.int .u8)) (hce : P.cellsOf e = 1) (hcs : P.cellsOf s = 1)
    (hv : Value.okWide P W r base t v) (h : DataW.Trod enc P W b0 (fun _ => true) held t v d p) :
    ∃ (A : Option Addr) (rows : List Row3) (cap : Nat), v = .slice A rows.length cap ∧ Rs3 W A rows ∧ rows.length ≤ cap ∧ cap ≤ maxLen ∧ ∀ x ∈ rows, x.2.1.length ≤ x.2.2 ∧ x.2.2 ≤ maxLen := by
  obtain ⟨a0, len0, cap0, rfl⟩ := okWide_slice ht hv
  obtain ⟨fuel, hf⟩ := h
  rcases Go.Deep.open_slice1 ht hcs hf with ⟨hcs, _⟩ | ⟨a, len, cap, m, n, V, D, Pl, hcs, _, hl, hm, hmm, _, hx⟩
  · simp [Value.cells] at hcs
    obtain ⟨rfl, rfl, rfl⟩ := hcs
    exact ⟨none, [], 0, rfl, ⟨by simp, by simp⟩, Nat.le_refl _, by decide, by simp⟩
  · simp [Value.cells] at hcs
    obtain ⟨rfl, rfl, rfl⟩ := hcs
    simp only [if_true] at hmm
    subst hmm
    obtain ⟨xs, hxs, hw⟩ := list_rows (p := fun x => Bs W x.1 x.2.1 ∧ x.2.1.length ≤ x.2.2 ∧ x.2.2 ≤ maxLen) ((List.range len0).map V) (fun (i : Nat) (v : Value) hv => by
      rw [List.getElem?_map, Option.map_eq_some_iff] at hv
      obtain ⟨j, hj, rfl⟩ := hv
      obtain ⟨hj1, hj2⟩ := List.getElem?_eq_some_iff.1 hj
      simp at hj2 hj1
      subst hj2
      obtain ⟨a1, l, cap1, hcs', hb, h2, h3⟩ := trod_bytes hs he hce (hx i (by omega)).2
      simp at hcs'
      exact ⟨(a1, l, cap1), hcs', hb, h2, h3⟩)
    have hlen : xs.length = len0 := by
      have := congrArg List.length hxs
      simpa using this.symm
    subst hlen
    refine ⟨some a, xs, _, rfl, ⟨fun i r hr => ?_, fun r hr => (hw r hr).1⟩, hl, hm, fun r hr => (hw r hr).2⟩
    have hi := (List.getElem?_eq_some_iff.1 hr).1
    have hc0 := (hx 0 (by omega)).1
    rw [add_zero'] at hc0
    have hsp := spot_none hc0
    refine ⟨a.block, a.off, by rw [← hsp], ?_⟩
    have hc := (hx i (by omega)).1
    rw [add_of hsp] at hc
    rw [hc]
    have hV := congrArg (fun l : List Value => l[i]?) hxs
    simp only [List.getElem?_map, hr, Option.map_some] at hV
    rw [List.getElem?_range hi] at hV
    simpa using hV
end Rk
end Go.Proofs.YtjbdimfpjbmggaaGreatDoor
end
