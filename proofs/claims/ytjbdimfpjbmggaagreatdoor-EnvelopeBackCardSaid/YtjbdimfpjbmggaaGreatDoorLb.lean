/- Small words on worlds, for all walks of this seat: 'Kp S w w'': beyond the blocks S, what lay in w lies in w' as it did. -/
import Derived.Test.YtjbdimfpjbmggaaGreatDoorProg
import Derived.WalkKit
import Derived.ProofKit
import Derived.OpenShut
import Derived.WalkSpells
import Derived.Lib.Hide
import Derived.Lib.SmallJoins
import Derived.Deep.QuietTactic
import Derived.BigQuiet
section
set_option linter.unusedVariables false
set_option linter.unusedSimpArgs false
namespace Go.Proofs.YtjbdimfpjbmggaaGreatDoor.Rk
open Go Go.RowKit Go.WideShapes
variable {P : Program} {W : World} {base : Nat} {r : Reach} {H : Type} {enc : TypeId × Value → H} {spare : Nat → Bool} {held : Bool} {b0 : Nat}

theorem okWide_array {t e : TypeId} {n : Nat} {v : Value} (ht : P.underlying t = some (.array n e)) (h : Value.okWide P W r base t v) : ∃ cs, v = .agg cs ∧ cs.size = P.cellsOf t := by
  simp only [Value.okWide, ht] at h
  obtain ⟨cs, h1, h2, _⟩ := h
  exact ⟨cs, h1, h2⟩

theorem list_all {α : Type} {p : α → Prop} {f : Int → α} : ∀ (l : List α), (∀ (i : Nat) (v : α), l[i]? = some v → ∃ x, v = f x ∧ p v) → ∃ xs : List Int, l = xs.map f ∧ ∀ v ∈ l, p v
  | [], _ => ⟨[], rfl, by simp⟩
  | v :: l, h => by
    obtain ⟨x, rfl, hp⟩ := h 0 v rfl
    obtain ⟨xs, rfl, hq⟩ := list_all l (fun i u hu => h (i + 1) u (by simpa using hu))
    exact ⟨x :: xs, rfl, by simpa [hp] using hq⟩

/-- An array of whole numbers, by value. -/
theorem open_intArray {t e : TypeId} {n : Nat} {k : IntKind} {v : Value} {d : DataW H} {p : List MemPlace} (ht : P.underlying t = some (.array n e)) (he : P.underlying e = some (.int k)) (hce : P.cellsOf e = 1) (hct : P.cellsOf t = n)
    (hv : Value.okWide P W r base t v) (h : DataW.Trod enc P W b0 spare held t v d p) :
    ∃ xs : List Int, v = .agg (xs.map (Value.int k)).toArray ∧ xs.length = n ∧ ∀ x ∈ xs, (Lit.int k x).wf = true := by
  obtain ⟨cs, rfl, hsz⟩ := okWide_array ht hv
  obtain ⟨fuel, hf⟩ := h
  obtain ⟨ys, m, _, _, hl, hn, hx⟩ := DataW.trod_array ht hf
  rw [hct] at hsz
  have hlen : cs.toList.length = n := by simpa using hsz
  obtain ⟨xs, hxs, hw⟩ := list_all (p := fun v => ∀ x, v = .int k x → (Lit.int k x).wf = true) (f := Value.int k) cs.toList (fun (i : Nat) (v : Value) hv => by
    have hi : i < n := by rw [← hlen]; exact (List.getElem?_eq_some_iff.1 hv).1
    have h1 := hx i hi
    have hy : (List.take (P.cellsOf e) (List.drop (i * P.cellsOf e) (Value.cells (.agg cs)).toList)) = [v] := by
      rw [hce, Nat.mul_one]
      show List.take 1 (List.drop i cs.toList) = [v]
      rw [List.drop_eq_getElem_cons (by rw [hlen]; exact hi)]
      obtain ⟨_, hg⟩ := List.getElem?_eq_some_iff.1 hv
      simp [hg]
    rw [hy] at h1
    obtain ⟨y, hy1⟩ : ∃ y, ys[i]? = some y := ⟨_, List.getElem?_eq_getElem (by omega)⟩
    rw [hy1] at h1
    obtain ⟨z, hz1, _, hz3⟩ := DataW.trod_int he h1
    simp at hz1
    subst hz1
    exact ⟨z, rfl, fun x hxe => by injection hxe with _ h2; subst h2; exact hz3⟩)
  refine ⟨xs, ?_, ?_, ?_⟩
  · rw [← hxs]
  · rw [← hlen, hxs, List.length_map]
  · intro x hxm
    exact hw (.int k x) (by rw [hxs]; exact List.mem_map_of_mem hxm) x rfl
end Go.Proofs.YtjbdimfpjbmggaaGreatDoor.Rk
end
section
set_option linter.unusedVariables false
set_option linter.unusedSimpArgs false
namespace Go.Proofs.YtjbdimfpjbmggaaGreatDoor
open Go.RowKit

structure Kp (S : Nat → Prop) (w w' : World) : Prop where
  os : w'.os = w.os
  tape : w'.tape = w.tape
  output : w'.output = w.output
  size : w.heap.size ≤ w'.heap.size
  block : ∀ k, k < w.heap.size → ¬ S k → w'.heap[k]? = w.heap[k]?

abbrev No : Nat → Prop := fun _ => False
abbrev On (b : Nat) : Nat → Prop := fun k => k = b
section
variable {S S' : Nat → Prop} {w w1 w2 : World}
theorem Kp.refl (S : Nat → Prop) (w : World) : Kp S w w := ⟨rfl, rfl, rfl, Nat.le_refl _, fun _ _ _ => rfl⟩
theorem Kp.trans (h : Kp S w w1) (k : Kp S' w1 w2) (hs : ∀ i, S' i → S i ∨ w.heap.size ≤ i) : Kp S w w2 :=
  ⟨k.os.trans h.os, k.tape.trans h.tape, k.output.trans h.output, Nat.le_trans h.size k.size, fun i hi hn =>
    (k.block i (Nat.lt_of_lt_of_le hi h.size) (fun hk => (hs i hk).elim hn (fun hl => by omega))).trans (h.block i hi hn)⟩
theorem Kp.then_ (h : Kp S w w1) (k : Kp S w1 w2) : Kp S w w2 := h.trans k (fun _ => .inl)
theorem Kp.thenNo (h : Kp S w w1) (k : Kp No w1 w2) : Kp S w w2 := h.trans k (fun _ f => f.elim)
theorem Kp.mono (h : Kp S w w1) (hs : ∀ i, S i → S' i) : Kp S' w w1 := ⟨h.os, h.tape, h.output, h.size, fun i hi hn => h.block i hi (fun hk => hn (hs i hk))⟩
theorem Kp.alloc (h : Kp S w w1) (o : Obj) : Kp S w (w1.alloc o) :=
  ⟨h.os, h.tape, h.output, Nat.le_trans h.size (by simp), fun i hi hn => (Below.heap_alloc _ _ _ (Nat.lt_of_lt_of_le hi h.size)).trans (h.block i hi hn)⟩
theorem Kp.drew (h : Kp S w w1) : Kp S w w1.drew := ⟨h.os, h.tape, h.output, h.size, h.block⟩
theorem Kp.drewN (h : Kp S w w1) (n : Nat) : Kp S w (w1.drewN n) := ⟨h.os, h.tape, h.output, h.size, h.block⟩
theorem Kp.setCell (h : Kp S w w1) {p : Addr} (hp : S p.block ∨ w.heap.size ≤ p.block) (u : Value) : Kp S w (w1.setCell p u) :=
  ⟨h.os, h.tape, h.output, Nat.le_trans h.size (by simp), fun i hi hn =>
    (Below.heap_setCell _ _ _ _ (fun e => by subst e; exact hp.elim hn (fun hl => by omega))).trans (h.block i hi hn)⟩
theorem Kp.setRow (h : Kp S w w1) {g : Nat} (hp : S g ∨ w.heap.size ≤ g) (D : Array Value) : Kp S w (w1.setRow g D) :=
  ⟨h.os, h.tape, h.output, Nat.le_trans h.size (by simp), fun i hi hn =>
    (setRow_other _ _ _ _ (fun e => by subst e; exact hp.elim hn (fun hl => by omega))).trans (h.block i hi hn)⟩
theorem Kp.setOn {b : Nat} (h : Kp (On b) w w1) (i : Nat) (u : Value) : Kp (On b) w (w1.setCell ⟨b, i, none⟩ u) := h.setCell (p := ⟨b, i, none⟩) (.inl rfl) u
theorem Kp.below (h : Kp No w w1) : Below w.heap.size w w1 := ⟨h.os, h.tape, h.output, h.size, fun k hk => h.block k hk (fun f => f)⟩
theorem Kp.of_below (h : Below w.heap.size w w1) (S : Nat → Prop) : Kp S w w1 := ⟨h.os, h.tape, h.output, h.size, fun k hk _ => h.block k hk⟩
theorem Kp.grown {row : Option Nat} (h : Kp S w w1) (hg : w1.grownBy w2 row) (hr : ∀ k, row = some k → S k ∨ w.heap.size ≤ k) : Kp S w w2 :=
  h.trans (S' := fun k => row = some k) ⟨hg.os, hg.tape, hg.output, hg.size, fun i hi hn => hg.block i hi (fun e => hn e.symm)⟩ (fun i hi => hr i hi)
/-- The blocks of S are new: nothing old has changed. -/
theorem Kp.fresh (h : Kp S w w1) (hs : ∀ k, S k → w.heap.size ≤ k) : Kp No w w1 :=
  ⟨h.os, h.tape, h.output, h.size, fun i hi _ => h.block i hi (fun hk => by have := hs i hk; omega)⟩
theorem Kp.blk (h : Kp S w w1) {b : Nat} {o : Obj} (hb : w.heap[b]? = some o) (hn : ¬ S b) : w1.heap[b]? = some o := (h.block b (lt_of_block hb) hn).trans hb
theorem Kp.cell (h : Kp S w w1) {a : Addr} {v : Value} (hc : w.cell? a = some v) (hn : ¬ S a.block) : w1.cell? a = some v :=
  (World.cell?_of_block (h.block a.block (World.block_lt_of_cell? w a hc) hn)).trans hc
theorem Kp.lt (h : Kp S w w1) {b : Nat} (hb : b < w.heap.size) : b < w1.heap.size := Nat.lt_of_lt_of_le hb h.size
end

/-! ### a block known whole -/
section
variable {w : World} {b : Nat} {C : Array Value} {t : TypeId}
theorem cell_at (h : w.heap[b]? = some (.cells C t (0, 0))) {i : Nat} {v : Value} (hv : C[i]? = some v) : w.cell? ⟨b, i, none⟩ = some v := by simp [World.cell?, h, hv]
theorem free_at (h : w.heap[b]? = some (.cells C t (0, 0))) (i : Nat) : w.frozen? ⟨b, i, none⟩ = false := by simp [World.frozen?, h]
theorem set_at (h : w.heap[b]? = some (.cells C t (0, 0))) (i : Nat) (v : Value) : (w.setCell ⟨b, i, none⟩ v).heap[b]? = some (.cells (C.setIfInBounds i v) t (0, 0)) := Go.Joins.block_setCell h v
theorem new_at (w : World) (o : Obj) : (w.alloc o).heap[w.heap.size]? = some o := by show (w.heap.push o)[w.heap.size]? = _; rw [Array.getElem?_push, if_pos rfl]
theorem cell_far {w : World} {a p : Addr} {v x : Value} (hc : w.cell? a = some v) (h : a.block ≠ p.block) : (w.setCell p x).cell? a = some v :=
  (World.cell?_of_block (w := w) (Below.heap_setCell w p x a.block h)).trans hc
theorem new_is {w : World} {n : Nat} (o : Obj) (h : n = w.heap.size) : (w.alloc o).heap[n]? = some o := by rw [h]; exact new_at w o
theorem row_at (h : w.heap[b]? = some (.cells C t (0, 0))) (D : Array Value) : (w.setRow b D).heap[b]? = some (.cells D t (0, 0)) := setRow_heap w b C D t (0, 0) h
theorem row_far {o : Option Obj} {g : Nat} (h : w.heap[b]? = o) (hn : b ≠ g) (D : Array Value) : (w.setRow g D).heap[b]? = o := (setRow_other w g b D hn).trans h
theorem old_at {o : Obj} (o' : Obj) (h : w.heap[b]? = some o) : (w.alloc o').heap[b]? = some o := (Below.heap_alloc _ _ _ (lt_of_block h)).trans h
end

/-! ### numbers of eight bits as values -/
def u8s (l : List Nat) : List Value := l.map fun n : Nat => .int .u8 (n : Int)
theorem u8s_get {l : List Nat} {i n : Nat} (h : l[i]? = some n) : (u8s l)[i]? = some (.int .u8 (n : Int)) := by simp [u8s, h]
theorem u8s_length (l : List Nat) : (u8s l).length = l.length := by simp [u8s]
theorem u8s_row (l : List Nat) : (u8s l).toArray.size = l.length := by simp [u8s]
theorem u8s_one (l : List Nat) : (u8s l).toArray.all (·.oneCell') = true := by simp [u8s, Value.oneCell']
theorem row_info {P : Program} {t : TypeId} {n : Nat} (h : (P.info? t).map (·.size) = some n) {l : List Nat} (hl : l.length = n) : (P.info? t).map (·.size) = some (u8s l).toArray.size := by rw [h, u8s_row, hl]
theorem u8s_set (l : List Nat) (i n : Nat) : (u8s l).set i (.int .u8 (n : Int)) = u8s (l.set i n) := by simp [u8s, List.map_set]

theorem ret1 {a b : Value} (h : a = b) : Ending.returned a = .returned b := by rw [h]
theorem retI {k : IntKind} {a b : Int} (h : a = b) : Ending.returned (.int k a) = .returned (.int k b) := by rw [h]
theorem valI {k : IntKind} {a b : Int} (h : a = b) : Value.int k a = .int k b := by rw [h]
theorem quiet_same {P : Program} {f : FuncId} {args : Array Value} {w : World} {n : Nat} {v : Value}
    (h : Calls P f args (w.drewN n) fun e w' => e = .returned v ∧ w.drewN n = w') : Calls P f args (w.drewN n) fun e w'' => e = .returned v ∧ ∃ m, w'' = w.drewN m :=
  h.mono fun _ _ ⟨he, hm⟩ => ⟨he, n, hm.symm⟩
end Go.Proofs.YtjbdimfpjbmggaaGreatDoor
end
