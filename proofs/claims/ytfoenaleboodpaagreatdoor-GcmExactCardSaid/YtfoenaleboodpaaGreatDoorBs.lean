/- Slices of bytes that read as a list: 'Bs w a l'. -/
import Derived.Test.YtfoenaleboodpaaGreatDoorLb
import Derived.Laws.BytesArg
import Derived.Laws.BitsLemmas
set_option linter.unusedVariables false
set_option linter.unusedSimpArgs false
namespace Go.Proofs.YtfoenaleboodpaaGreatDoor
open Go.RowKit

/-- The slice at a reads as the bytes l. -/
structure Bs (w : World) (a : Option Addr) (l : List Nat) : Prop where
  byte : ∀ n ∈ l, n < 256
  cell : l ≠ [] → ∃ b o, a = some ⟨b, o, none⟩ ∧ ∀ (i n : Nat), l[i]? = some n → w.cell? ⟨b, o + i, none⟩ = some (.int .u8 (n : Int))
def blockIs (a : Option Addr) (S : Nat → Prop) : Prop := ∀ x, a = some x → S x.block
section
variable {w w' : World} {a : Option Addr} {l : List Nat} {S : Nat → Prop}
theorem Bs.kept (h : Bs w a l) (k : Kp S w w') (hn : ∀ x, a = some x → ¬ S x.block) : Bs w' a l :=
  ⟨h.byte, fun hl => by
    obtain ⟨b, o, rfl, hc⟩ := h.cell hl
    exact ⟨b, o, rfl, fun i n hi => k.cell (hc i n hi) (hn ⟨b, o, none⟩ rfl)⟩⟩
theorem Bs.keptNo (h : Bs w a l) (k : Kp No w w') : Bs w' a l := h.kept k (fun _ _ f => f)
/-- A slice that has no cell in the blocks S. -/
def Aw (S : Nat → Prop) (a : Option Addr) (l : List Nat) : Prop := l ≠ [] → ∀ x, a = some x → ¬ S x.block
theorem Bs.keptS (h : Bs w a l) (k : Kp S w w') (hn : Aw S a l) : Bs w' a l :=
  ⟨h.byte, fun hl => by
    obtain ⟨b, o, rfl, hc⟩ := h.cell hl
    exact ⟨b, o, rfl, fun i n hi => k.cell (hc i n hi) (hn hl ⟨b, o, none⟩ rfl)⟩⟩
theorem Bs.aw (h : Bs w a l) {b : Nat} (hb : w.heap.size ≤ b) : Aw (On b) a l := fun hl x hx hc => by
  obtain ⟨b', o, rfl, hcell⟩ := h.cell hl
  injection hx with hx; subst hx
  obtain ⟨n, hn⟩ : ∃ n, l[0]? = some n := ⟨_, List.getElem?_eq_getElem (List.length_pos_iff.2 hl)⟩
  have := World.block_lt_of_cell? _ _ (hcell 0 n hn)
  have hc' : b' = b := hc
  subst hc'
  exact absurd this (Nat.not_lt.2 hb)
theorem Bs.drewN (h : Bs w a l) (n : Nat) : Bs (w.drewN n) a l := ⟨h.byte, h.cell⟩
theorem Bs.drew (h : Bs w a l) : Bs w.drew a l := ⟨h.byte, h.cell⟩
theorem Bs.nil (w : World) (a : Option Addr) : Bs w a [] := ⟨by simp, fun h => absurd rfl h⟩
theorem Bs.at (h : Bs w a l) {i n : Nat} (hi : l[i]? = some n) : ∃ b o, a = some ⟨b, o, none⟩ ∧ w.cell? ⟨b, o + i, none⟩ = some (.int .u8 (n : Int)) := by
  obtain ⟨b, o, e, hc⟩ := h.cell (by intro e; subst e; simp at hi)
  exact ⟨b, o, e, hc i n hi⟩
theorem Bs.lt (h : Bs w a l) {i n : Nat} (hi : l[i]? = some n) : n < 256 := h.byte n (List.mem_of_getElem? hi)
theorem Bs.take (h : Bs w a l) (n : Nat) : Bs w a (l.take n) :=
  ⟨fun x hx => h.byte x (List.mem_of_mem_take hx), fun hl => by
    obtain ⟨b, o, e, hc⟩ := h.cell (by intro e; subst e; simp at hl)
    refine ⟨b, o, e, fun i m hi => hc i m ?_⟩
    rw [List.getElem?_take] at hi
    split at hi
    · exact hi
    · cases hi⟩
end

/-! ### as a string -/
def bstr (l : List Nat) : ByteArray := strOfNums (l.map fun n : Nat => (n : Int))
theorem bstr_data (l : List Nat) : (bstr l).data.toList = l.map UInt8.ofNat := by
  unfold bstr; rw [strOfNums_data, List.map_map]; rfl
theorem map_u8_inj : ∀ {l m : List Nat}, (∀ n ∈ l, n < 256) → (∀ n ∈ m, n < 256) → l.map UInt8.ofNat = m.map UInt8.ofNat → l = m
  | [], [], _, _, _ => rfl
  | [], _ :: _, _, _, h => by simp at h
  | _ :: _, [], _, _, h => by simp at h
  | a :: l, b :: m, hl, hm, h => by
    simp only [List.map_cons, List.cons.injEq] at h
    have h1 := congrArg UInt8.toNat h.1
    rw [UInt8.toNat_ofNat_of_lt' (hl a (by simp)), UInt8.toNat_ofNat_of_lt' (hm b (by simp))] at h1
    rw [h1, map_u8_inj (fun n hn => hl n (by simp [hn])) (fun n hn => hm n (by simp [hn])) h.2]
theorem bstr_inj {l m : List Nat} (hl : ∀ n ∈ l, n < 256) (hm : ∀ n ∈ m, n < 256) : bstr l = bstr m ↔ l = m := by
  constructor
  · intro h
    have := congrArg (fun s => s.data.toList) h
    simp only [bstr_data] at this
    exact map_u8_inj hl hm this
  · intro h; rw [h]
theorem bytes_string {P : Program} {w : World} {a : Option Addr} {l : List Nat} {src dst e : TypeId} (hs : P.underlying src = some (.slice e)) (he : P.underlying e = some (.int .u8)) (hd : P.underlying dst = some .string)
    (h : Bs w a l) (cap : Nat) : (convert src dst (.slice a l.length cap)).run P w = .ok (.string (bstr l)) w := by
  have hl : ∀ x, a = some x → (loadCells x l.length).run P w = .ok ((l.map fun n : Nat => (n : Int)).map (Value.int .u8)).toArray w := by
    intro x hx
    have := run_loadCells_list (P := P) w x ((l.map fun n : Nat => (n : Int)).map (Value.int .u8)) (fun j v hj => by
      simp only [List.getElem?_map, Option.map_eq_some_iff] at hj
      obtain ⟨z, ⟨n, hn, rfl⟩, rfl⟩ := hj
      obtain ⟨b, o, e, hc⟩ := h.at hn
      rw [hx] at e
      injection e with e
      subst e
      have hplain : (⟨b, o, none⟩ : Addr).add j = ⟨b, o + j, none⟩ := by unfold Addr.add; split <;> simp_all
      rw [hplain]
      exact hc)
    simpa using this
  cases a with
  | none =>
    have hl0 : l = [] := by
      cases l with
      | nil => rfl
      | cons n l => obtain ⟨b, o, e, _⟩ := h.cell (by simp); cases e
    subst hl0
    exact run_convert_bytes_nil w src e hs he 0 cap dst hd
  | some x =>
    rw [run_convert_bytes_string w src dst e _ _ cap hs he hd, run_bytesToString w x l.length cap _ (hl x rfl), foldl_push_bytes]
    simp [bstr, strOfNums, ByteArray.empty, ByteArray.emptyWithCapacity]
    rfl
end Go.Proofs.YtfoenaleboodpaaGreatDoor
