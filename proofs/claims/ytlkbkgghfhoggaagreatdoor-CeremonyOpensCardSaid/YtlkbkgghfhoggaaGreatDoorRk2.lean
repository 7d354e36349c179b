/- Small laws that open arguments: slices of bytes, lists and arrays of such. -/
import Derived.Test.YtlkbkgghfhoggaaGreatDoorProg
import Derived.WalkKit
import Derived.ProofKit
import Derived.OpenShut
import Derived.WalkSpells
import Derived.Lib.Hide
import Derived.Lib.SmallJoins
import Derived.Deep.QuietTactic
import Derived.BigQuiet
import Derived.Laws.BytesArg
import Derived.Laws.BitsLemmas
import Derived.Deep.Slices
section
set_option linter.unusedVariables false
set_option linter.unusedSimpArgs false
namespace Go.Proofs.YtlkbkgghfhoggaaGreatDoor.Rk
open Go Go.RowKit Go.WideShapes
variable {P : Program} {W : World} {base : Nat} {r : Reach} {H : Type} {enc : TypeId × Value → H} {spare : Nat → Bool} {held : Bool} {b0 : Nat}



end Go.Proofs.YtlkbkgghfhoggaaGreatDoor.Rk
end
section
set_option linter.unusedVariables false
set_option linter.unusedSimpArgs false
namespace Go.Proofs.YtlkbkgghfhoggaaGreatDoor
open Go.RowKit

structure Kp (S : Nat → Prop) (w w' : World) : Prop where
  os : w'.os = w.os
  tape : w'.tape = w.tape
  output : w'.output = w.output
  size : w.heap.size ≤ w'.heap.size
  block : ∀ k, k < w.heap.size → ¬ S k → w'.heap[k]? = w.heap[k]?

abbrev No : Nat → Prop := fun _ => False
abbrev On (b : Nat) : Nat → Prop := fun k => k = b
section
variable {S S' : Nat → Prop} {w w1 w2 : World}
theorem Kp.refl (S : Nat → Prop) (w : World) : Kp S w w := ⟨rfl, rfl, rfl, Nat.le_refl _, fun _ _ _ => rfl⟩
theorem Kp.trans (h : Kp S w w1) (k : Kp S' w1 w2) (hs : ∀ i, S' i → S i ∨ w.heap.size ≤ i) : Kp S w w2 :=
  ⟨k.os.trans h.os, k.tape.trans h.tape, k.output.trans h.output, Nat.le_trans h.size k.size, fun i hi hn =>
    (k.block i (Nat.lt_of_lt_of_le hi h.size) (fun hk => (hs i hk).elim hn (fun hl => by omega))).trans (h.block i hi hn)⟩
theorem Kp.then_ (h : Kp S w w1) (k : Kp S w1 w2) : Kp S w w2 := h.trans k (fun _ => .inl)
theorem Kp.thenNo (h : Kp S w w1) (k : Kp No w1 w2) : Kp S w w2 := h.trans k (fun _ f => f.elim)
theorem Kp.mono (h : Kp S w w1) (hs : ∀ i, S i → S' i) : Kp S' w w1 := ⟨h.os, h.tape, h.output, h.size, fun i hi hn => h.block i hi (fun hk => hn (hs i hk))⟩
theorem Kp.alloc (h : Kp S w w1) (o : Obj) : Kp S w (w1.alloc o) :=
  ⟨h.os, h.tape, h.output, Nat.le_trans h.size (by simp), fun i hi hn => (Below.heap_alloc _ _ _ (Nat.lt_of_lt_of_le hi h.size)).trans (h.block i hi hn)⟩
theorem Kp.drew (h : Kp S w w1) : Kp S w w1.drew := ⟨h.os, h.tape, h.output, h.size, h.block⟩
theorem Kp.setCell (h : Kp S w w1) {p : Addr} (hp : S p.block ∨ w.heap.size ≤ p.block) (u : Value) : Kp S w (w1.setCell p u) :=
  ⟨h.os, h.tape, h.output, Nat.le_trans h.size (by simp), fun i hi hn =>
    (Below.heap_setCell _ _ _ _ (fun e => by subst e; exact hp.elim hn (fun hl => by omega))).trans (h.block i hi hn)⟩
theorem Kp.setRow (h : Kp S w w1) {g : Nat} (hp : S g ∨ w.heap.size ≤ g) (D : Array Value) : Kp S w (w1.setRow g D) :=
  ⟨h.os, h.tape, h.output, Nat.le_trans h.size (by simp), fun i hi hn =>
    (setRow_other _ _ _ _ (fun e => by subst e; exact hp.elim hn (fun hl => by omega))).trans (h.block i hi hn)⟩
theorem Kp.setOn {b : Nat} (h : Kp (On b) w w1) (i : Nat) (u : Value) : Kp (On b) w (w1.setCell ⟨b, i, none⟩ u) := h.setCell (p := ⟨b, i, none⟩) (.inl rfl) u
theorem Kp.below (h : Kp No w w1) : Below w.heap.size w w1 := ⟨h.os, h.tape, h.output, h.size, fun k hk => h.block k hk (fun f => f)⟩
theorem Kp.of_below (h : Below w.heap.size w w1) (S : Nat → Prop) : Kp S w w1 := ⟨h.os, h.tape, h.output, h.size, fun k hk _ => h.block k hk⟩
theorem Kp.grown {row : Option Nat} (h : Kp S w w1) (hg : w1.grownBy w2 row) (hr : ∀ k, row = some k → S k ∨ w.heap.size ≤ k) : Kp S w w2 :=
  h.trans (S' := fun k => row = some k) ⟨hg.os, hg.tape, hg.output, hg.size, fun i hi hn => hg.block i hi (fun e => hn e.symm)⟩ (fun i hi => hr i hi)
/-- The blocks of S are new: nothing old has changed. -/
theorem Kp.fresh (h : Kp S w w1) (hs : ∀ k, S k → w.heap.size ≤ k) : Kp No w w1 :=
  ⟨h.os, h.tape, h.output, h.size, fun i hi _ => h.block i hi (fun hk => by have := hs i hk; omega)⟩
theorem Kp.blk (h : Kp S w w1) {b : Nat} {o : Obj} (hb : w.heap[b]? = some o) (hn : ¬ S b) : w1.heap[b]? = some o := (h.block b (lt_of_block hb) hn).trans hb
theorem Kp.cell (h : Kp S w w1) {a : Addr} {v : Value} (hc : w.cell? a = some v) (hn : ¬ S a.block) : w1.cell? a = some v :=
  (World.cell?_of_block (h.block a.block (World.block_lt_of_cell? w a hc) hn)).trans hc
theorem Kp.lt (h : Kp S w w1) {b : Nat} (hb : b < w.heap.size) : b < w1.heap.size := Nat.lt_of_lt_of_le hb h.size
end

/-! ### a block known whole -/
section
variable {w : World} {b : Nat} {C : Array Value} {t : TypeId}
theorem cell_at (h : w.heap[b]? = some (.cells C t (0, 0))) {i : Nat} {v : Value} (hv : C[i]? = some v) : w.cell? ⟨b, i, none⟩ = some v := by simp [World.cell?, h, hv]
theorem free_at (h : w.heap[b]? = some (.cells C t (0, 0))) (i : Nat) : w.frozen? ⟨b, i, none⟩ = false := by simp [World.frozen?, h]
theorem set_at (h : w.heap[b]? = some (.cells C t (0, 0))) (i : Nat) (v : Value) : (w.setCell ⟨b, i, none⟩ v).heap[b]? = some (.cells (C.setIfInBounds i v) t (0, 0)) := Go.Joins.block_setCell h v
theorem new_at (w : World) (o : Obj) : (w.alloc o).heap[w.heap.size]? = some o := by show (w.heap.push o)[w.heap.size]? = _; rw [Array.getElem?_push, if_pos rfl]
theorem cell_far {w : World} {a p : Addr} {v x : Value} (hc : w.cell? a = some v) (h : a.block ≠ p.block) : (w.setCell p x).cell? a = some v :=
  (World.cell?_of_block (w := w) (Below.heap_setCell w p x a.block h)).trans hc
theorem new_is {w : World} {n : Nat} (o : Obj) (h : n = w.heap.size) : (w.alloc o).heap[n]? = some o := by rw [h]; exact new_at w o
theorem row_at (h : w.heap[b]? = some (.cells C t (0, 0))) (D : Array Value) : (w.setRow b D).heap[b]? = some (.cells D t (0, 0)) := setRow_heap w b C D t (0, 0) h
theorem row_far {o : Option Obj} {g : Nat} (h : w.heap[b]? = o) (hn : b ≠ g) (D : Array Value) : (w.setRow g D).heap[b]? = o := (setRow_other w g b D hn).trans h
theorem old_at {o : Obj} (o' : Obj) (h : w.heap[b]? = some o) : (w.alloc o').heap[b]? = some o := (Below.heap_alloc _ _ _ (lt_of_block h)).trans h
end

/-! ### numbers of eight bits as values -/
def u8s (l : List Nat) : List Value := l.map fun n : Nat => .int .u8 (n : Int)
theorem u8s_get {l : List Nat} {i n : Nat} (h : l[i]? = some n) : (u8s l)[i]? = some (.int .u8 (n : Int)) := by simp [u8s, h]
theorem u8s_length (l : List Nat) : (u8s l).length = l.length := by simp [u8s]
theorem u8s_row (l : List Nat) : (u8s l).toArray.size = l.length := by simp [u8s]
theorem u8s_one (l : List Nat) : (u8s l).toArray.all (·.oneCell') = true := by simp [u8s, Value.oneCell']
theorem row_info {P : Program} {t : TypeId} {n : Nat} (h : (P.info? t).map (·.size) = some n) {l : List Nat} (hl : l.length = n) : (P.info? t).map (·.size) = some (u8s l).toArray.size := by rw [h, u8s_row, hl]
theorem u8s_set (l : List Nat) (i n : Nat) : (u8s l).set i (.int .u8 (n : Int)) = u8s (l.set i n) := by simp [u8s, List.map_set]

end Go.Proofs.YtlkbkgghfhoggaaGreatDoor
end
section
set_option linter.unusedVariables false
set_option linter.unusedSimpArgs false
namespace Go.Proofs.YtlkbkgghfhoggaaGreatDoor
open Go.RowKit

/-- The slice at a reads as the bytes l. -/
structure Bs (w : World) (a : Option Addr) (l : List Nat) : Prop where
  byte : ∀ n ∈ l, n < 256
  cell : l ≠ [] → ∃ b o, a = some ⟨b, o, none⟩ ∧ ∀ (i n : Nat), l[i]? = some n → w.cell? ⟨b, o + i, none⟩ = some (.int .u8 (n : Int))
section
variable {w w' : World} {a : Option Addr} {l : List Nat} {S : Nat → Prop}
theorem Bs.kept (h : Bs w a l) (k : Kp S w w') (hn : ∀ x, a = some x → ¬ S x.block) : Bs w' a l :=
  ⟨h.byte, fun hl => by
    obtain ⟨b, o, rfl, hc⟩ := h.cell hl
    exact ⟨b, o, rfl, fun i n hi => k.cell (hc i n hi) (hn ⟨b, o, none⟩ rfl)⟩⟩
theorem Bs.keptNo (h : Bs w a l) (k : Kp No w w') : Bs w' a l := h.kept k (fun _ _ f => f)
/-- A slice that has no cell in the blocks S. -/
def Aw (S : Nat → Prop) (a : Option Addr) (l : List Nat) : Prop := l ≠ [] → ∀ x, a = some x → ¬ S x.block
theorem Bs.keptS (h : Bs w a l) (k : Kp S w w') (hn : Aw S a l) : Bs w' a l :=
  ⟨h.byte, fun hl => by
    obtain ⟨b, o, rfl, hc⟩ := h.cell hl
    exact ⟨b, o, rfl, fun i n hi => k.cell (hc i n hi) (hn hl ⟨b, o, none⟩ rfl)⟩⟩
theorem Bs.aw (h : Bs w a l) {b : Nat} (hb : w.heap.size ≤ b) : Aw (On b) a l := fun hl x hx hc => by
  obtain ⟨b', o, rfl, hcell⟩ := h.cell hl
  injection hx with hx; subst hx
  obtain ⟨n, hn⟩ : ∃ n, l[0]? = some n := ⟨_, List.getElem?_eq_getElem (List.length_pos_iff.2 hl)⟩
  have := World.block_lt_of_cell? _ _ (hcell 0 n hn)
  have hc' : b' = b := hc
  subst hc'
  exact absurd this (Nat.not_lt.2 hb)
theorem Bs.drew (h : Bs w a l) : Bs w.drew a l := ⟨h.byte, h.cell⟩
theorem Bs.nil (w : World) (a : Option Addr) : Bs w a [] := ⟨by simp, fun h => absurd rfl h⟩
theorem Bs.at (h : Bs w a l) {i n : Nat} (hi : l[i]? = some n) : ∃ b o, a = some ⟨b, o, none⟩ ∧ w.cell? ⟨b, o + i, none⟩ = some (.int .u8 (n : Int)) := by
  obtain ⟨b, o, e, hc⟩ := h.cell (by intro e; subst e; simp at hi)
  exact ⟨b, o, e, hc i n hi⟩
theorem Bs.lt (h : Bs w a l) {i n : Nat} (hi : l[i]? = some n) : n < 256 := h.byte n (List.mem_of_getElem? hi)
theorem Bs.take (h : Bs w a l) (n : Nat) : Bs w a (l.take n) :=
  ⟨fun x hx => h.byte x (List.mem_of_mem_take hx), fun hl => by
    obtain ⟨b, o, e, hc⟩ := h.cell (by intro e; subst e; simp at hl)
    refine ⟨b, o, e, fun i m hi => hc i m ?_⟩
    rw [List.getElem?_take] at hi
    split at hi
    · exact hi
    · cases hi⟩
end

/-! ### as a string -/
def bstr (l : List Nat) : ByteArray := strOfNums (l.map fun n : Nat => (n : Int))
theorem bstr_data (l : List Nat) : (bstr l).data.toList = l.map UInt8.ofNat := by
  unfold bstr; rw [strOfNums_data, List.map_map]; rfl
theorem map_u8_inj : ∀ {l m : List Nat}, (∀ n ∈ l, n < 256) → (∀ n ∈ m, n < 256) → l.map UInt8.ofNat = m.map UInt8.ofNat → l = m
  | [], [], _, _, _ => rfl
  | [], _ :: _, _, _, h => by simp at h
  | _ :: _, [], _, _, h => by simp at h
  | a :: l, b :: m, hl, hm, h => by
    simp only [List.map_cons, List.cons.injEq] at h
    have h1 := congrArg UInt8.toNat h.1
    rw [UInt8.toNat_ofNat_of_lt' (hl a (by simp)), UInt8.toNat_ofNat_of_lt' (hm b (by simp))] at h1
    rw [h1, map_u8_inj (fun n hn => hl n (by simp [hn])) (fun n hn => hm n (by simp [hn])) h.2]
theorem bstr_inj {l m : List Nat} (hl : ∀ n ∈ l, n < 256) (hm : ∀ n ∈ m, n < 256) : bstr l = bstr m ↔ l = m := by
  constructor
  · intro h
    have := congrArg (fun s => s.data.toList) h
    simp only [bstr_data] at this
    exact map_u8_inj hl hm this
  · intro h; rw [h]
theorem bytes_string {P : Program} {w : World} {a : Option Addr} {l : List Nat} {src dst e : TypeId} (hs : P.underlying src = some (.slice e)) (he : P.underlying e = some (.int .u8)) (hd : P.underlying dst = some .string)
    (h : Bs w a l) (cap : Nat) : (convert src dst (.slice a l.length cap)).run P w = .ok (.string (bstr l)) w := by
  have hl : ∀ x, a = some x → (loadCells x l.length).run P w = .ok ((l.map fun n : Nat => (n : Int)).map (Value.int .u8)).toArray w := by
    intro x hx
    have := run_loadCells_list (P := P) w x ((l.map fun n : Nat => (n : Int)).map (Value.int .u8)) (fun j v hj => by
      simp only [List.getElem?_map, Option.map_eq_some_iff] at hj
      obtain ⟨z, ⟨n, hn, rfl⟩, rfl⟩ := hj
      obtain ⟨b, o, e, hc⟩ := h.at hn
      rw [hx] at e
      injection e with e
      subst e
      have hplain : (⟨b, o, none⟩ : Addr).add j = ⟨b, o + j, none⟩ := by unfold Addr.add; split <;> simp_all
      rw [hplain]
      exact hc)
    simpa using this
  cases a with
  | none =>
    have hl0 : l = [] := by
      cases l with
      | nil => rfl
      | cons n l => obtain ⟨b, o, e, _⟩ := h.cell (by simp); cases e
    subst hl0
    exact run_convert_bytes_nil w src e hs he 0 cap dst hd
  | some x =>
    rw [run_convert_bytes_string w src dst e _ _ cap hs he hd, run_bytesToString w x l.length cap _ (hl x rfl), foldl_push_bytes]
    simp [bstr, strOfNums, ByteArray.empty, ByteArray.emptyWithCapacity]
    rfl
end Go.Proofs.YtlkbkgghfhoggaaGreatDoor
end
section
set_option linter.unusedVariables false
set_option linter.unusedSimpArgs false
namespace Go.Proofs.YtlkbkgghfhoggaaGreatDoor
open Go Go.RowKit Go.WideShapes Go.ChangeShapes

abbrev Row3 := Option Addr × List Nat × Nat
def Row3.val (r : Row3) : Value := .slice r.1 r.2.1.length r.2.2
/-- The slice at A holds these slices of bytes. -/
structure Rs3 (w : World) (A : Option Addr) (rows : List Row3) : Prop where
  cell : ∀ (i : Nat) r, rows[i]? = some r → ∃ b o, A = some ⟨b, o, none⟩ ∧ w.cell? ⟨b, o + i, none⟩ = some r.val
  bytes : ∀ r ∈ rows, Bs w r.1 r.2.1

namespace Rk
variable {P : Program} {W : World} {base : Nat} {r : Reach} {H : Type} {enc : TypeId × Value → H} {spare : Nat → Bool} {held : Bool} {b0 : Nat}

theorem spot_none {w : World} {a : Addr} {v : Value} (h : w.cell? a = some v) : a.spot = none := by
  unfold World.cell? at h
  split at h
  · split at h
    · cases h
    · rename_i hs
      cases e : a.spot with
      | none => rfl
      | some x => rw [e] at hs; simp at hs
  · cases h
theorem add_of {a : Addr} (h : a.spot = none) (i : Nat) : a.add i = ⟨a.block, a.off + i, none⟩ := by
  obtain ⟨b, o, s⟩ := a
  simp only at h
  subst h
  unfold Addr.add
  split <;> simp_all
theorem add_zero' (a : Addr) : a.add 0 = a := by unfold Addr.add; simp

theorem bytes_of {w : World} {x : Addr} {zs : List Int} {len : Nat} (hl : len ≤ zs.length) (h : ∀ i, i < zs.length → w.cell? (x.add i) = some (.int .u8 (zs.getD i 0))) (hw : ∀ n ∈ zs, (Lit.int .u8 n).wf = true) :
    ∃ l : List Nat, l.length = len ∧ Bs w (some x) l := by
  refine ⟨(zs.take len).map Int.toNat, by simp; omega, ⟨?_, ?_⟩⟩
  · intro n hn
    obtain ⟨z, hz, rfl⟩ := List.mem_map.1 hn
    have := bounds_u8 (hw z (List.mem_of_mem_take hz))
    omega
  · intro hne
    have h0 : 0 < zs.length := by
      rcases Nat.eq_zero_or_pos zs.length with e | e
      · have : zs = [] := List.eq_nil_of_length_eq_zero e
        subst this
        simp at hne
      · exact e
    have hs := spot_none (by have := h 0 h0; rwa [add_zero'] at this)
    refine ⟨x.block, x.off, by rw [← hs], fun i n hi => ?_⟩
    rw [List.getElem?_map, Option.map_eq_some_iff] at hi
    obtain ⟨z, hz, rfl⟩ := hi
    rw [List.getElem?_take] at hz
    split at hz
    · have hi := (List.getElem?_eq_some_iff.1 hz).1
      have hc := h i hi
      rw [add_of hs] at hc
      rw [hc, List.getD_eq_getElem?_getD, hz]
      have := bounds_u8 (hw z (List.mem_of_getElem? hz))
      simp only [Option.getD_some]
      congr 2
      omega
    · cases hz

theorem trod_bytes {t e : TypeId} {m : Nat} {cs : List Value} {y : DataW H × List MemPlace} (ht : P.underlying t = some (.slice e)) (he : P.underlying e = some (.int .u8)) (hc : P.cellsOf e = 1)
    (h : DataW.trod enc P W b0 (fun _ => true) held m t cs = some y) : ∃ (a : Option Addr) (l : List Nat) (cap : Nat), cs = [.slice a l.length cap] ∧ Bs W a l ∧ l.length ≤ cap ∧ cap ≤ maxLen := by
  rcases open_ints ht he hc h with ⟨rfl, _⟩ | ⟨x, len, cap, zs, rfl, _, hl, hm, hz, _, hcell, hw⟩
  · exact ⟨none, [], 0, rfl, Bs.nil _ _, Nat.le_refl _, by decide⟩
  · have hz' : zs.length = cap := by simpa using hz
    obtain ⟨l, hll, hb⟩ := bytes_of (len := len) (by omega) hcell hw
    exact ⟨some x, l, cap, by rw [hll], hb, by omega, hm⟩




end Rk
end Go.Proofs.YtlkbkgghfhoggaaGreatDoor
end
