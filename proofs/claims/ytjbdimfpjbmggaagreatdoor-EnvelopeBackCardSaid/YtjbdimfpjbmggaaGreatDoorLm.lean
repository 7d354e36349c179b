/- Operations on memory: addresses, loads, stores, new blocks, calls; regions that draw their order. -/
import Derived.Test.YtjbdimfpjbmggaaGreatDoorLp
import Derived.Test.YtjbdimfpjbmggaaGreatDoorOb
import Derived.Deep.MidRow
import Derived.Deep.WholeRow
set_option linter.unusedVariables false
set_option linter.unusedSimpArgs false
namespace Go.Proofs.YtjbdimfpjbmggaaGreatDoor
open Go.RowKit

/-- Block p holds the cells L. -/
def Bk (w : World) (p : Nat) (L : List Value) (t : TypeId) : Prop := w.heap[p]? = some (.cells L.toArray t (0, 0))
section
variable {w w' : World} {p : Nat} {L : List Value} {t : TypeId} {S : Nat → Prop}
theorem Bk.cell (h : Bk w p L t) {i : Nat} {v : Value} (hv : L[i]? = some v) : w.cell? ⟨p, i, none⟩ = some v := cell_at h (by simpa using hv)
theorem Bk.lt (h : Bk w p L t) : p < w.heap.size := lt_of_block h
theorem Bk.kept (h : Bk w p L t) (k : Kp S w w') (hn : ¬ S p) : Bk w' p L t := k.blk h hn
theorem Bk.no (h : Bk w p L t) (k : Kp No w w') : Bk w' p L t := k.blk h (fun f => f)
theorem Bk.on (h : Bk w p L t) {q : Nat} (k : Kp (On q) w w') (hn : p ≠ q) : Bk w' p L t := k.blk h hn
theorem Bk.eq {L' : List Value} (h : Bk w p L t) (e : L = L') : Bk w p L' t := e ▸ h
theorem Bk.draw (h : Bk w p L t) : Bk w.drew p L t := h
theorem Bk.range (h : Bk w p L t) (o n : Nat) : w.rangeAt p o ((L.drop o).take n) := fun j v hv => h.cell (by
  rw [List.getElem?_take] at hv
  split at hv
  · rwa [List.getElem?_drop] at hv
  · cases hv)
end
def isRowB (P : Program) (t : TypeId) : Bool := match P.underlying t with
  | some (.struct _) | some (.array _ _) => true
  | _ => false
def flatB (P : Program) (t : TypeId) : Bool := match P.underlying t with
  | some (.struct _) | some (.array _ _) | none => false
  | _ => true
def sizeB (P : Program) (t : TypeId) (n : Nat) : Bool := match P.info? t with
  | some i => i.size == n
  | none => false
theorem sizeB_info {P : Program} {t : TypeId} {n : Nat} (h : sizeB P t n = true) : (P.info? t).map (·.size) = some n := by
  unfold sizeB at h
  cases hi : P.info? t with
  | none => simp [hi] at h
  | some i => simp [hi] at h; simp [h]
theorem sizeB_run {P : Program} {t : TypeId} {n : Nat} (h : sizeB P t n = true) (w : World) : (sizeOf t).run P w = .ok n w := by
  unfold sizeB at h
  cases hi : P.info? t with
  | none => simp [hi] at h
  | some i => simp [hi] at h; simp [sizeOf, typeInfo, hi, h]
theorem flat_run {P : Program} {t : TypeId} (h : flatB P t = true) (w : World) : (isAgg t).run P w = .ok false w := by
  unfold flatB at h
  cases hu : P.underlying t with
  | none => simp [hu] at h
  | some d => cases d <;> simp [hu] at h <;> simp [isAgg, run_underlying hu]
/-- Where a field lies: its first cell. -/
def fieldOff (P : Program) (s : TypeId) (i : Nat) : Option Nat := match P.underlying s with
  | some (.struct fs) => match fs[i]? with
    | some f => match P.info? f.type with
      | some d => if d.size = 0 then none else some f.offset
      | none => none
    | none => none
  | _ => none
theorem fieldOff_spec {P : Program} {s i off : Nat} (h : fieldOff P s i = some off) : ∃ fs f, P.underlying s = some (.struct fs) ∧ fs[i]? = some f ∧ f.offset = off ∧ ∃ d, P.info? f.type = some d ∧ d.size ≠ 0 := by
  unfold fieldOff at h
  cases hu : P.underlying s with
  | none => simp [hu] at h
  | some ds =>
    cases ds with
    | struct fs =>
      simp only [hu] at h
      cases hf : fs[i]? with
      | none => simp [hf] at h
      | some f =>
        simp only [hf] at h
        cases hd : P.info? f.type with
        | none => simp [hd] at h
        | some d =>
          simp only [hd] at h
          split at h
          · cases h
          · rename_i hz; exact ⟨fs, f, rfl, hf, Option.some.inj h, d, hd, hz⟩
    | _ => simp [hu] at h
theorem add_at (p o j : Nat) : (⟨p, o, none⟩ : Addr).add j = ⟨p, o + j, none⟩ := by unfold Addr.add; split <;> simp_all

/-! ### addresses -/
section
variable {P : Program} {l : List (Nat × Value)} {w : World} {x y : Operand} {v : Value} {t e : TypeId} {p o o' len : Nat} {k : IntKind}
theorem pu_fieldAddr {i off : Nat} (hf : fieldOff P t i = some off) (hx : lk l x = some (.pointer (some ⟨p, o, none⟩))) (ho : o + off = o') : Pu P (.fieldAddr t x i) l w (.pointer (some ⟨p, o', none⟩)) := fun n A ha d ty pos af g => by
  obtain ⟨fs, f, hu, hi, rfl, d', hd, hz⟩ := fieldOff_spec hf
  subst ho
  unfold execOp
  simp only [ha.eval hx]
  simp [Instr.fieldAt, run_underlying hu, hi, Instr.sureAddr, fieldPlace, sizeOf, typeInfo, hd, hz, add_at]
theorem pu_indexAddrA {m s : Nat} {i : Int} (hu : P.underlying t = some (.array len e)) (hs : sizeB P e s = true) (hx : lk l x = some (.pointer (some ⟨p, o, none⟩))) (hy : lk l y = some (.int k i)) (hi : i = (m : Int)) (hm : m < len) (ho : o + m * s = o') :
    Pu P (.indexAddr t x y) l w (.pointer (some ⟨p, o', none⟩)) := fun n A ha d ty pos af g => by
  subst hi ho
  have h1 : (m : Int) < (len : Int) := by omega
  unfold execOp
  simp only [ha.eval hx, ha.eval hy]
  simp [Instr.indexAt, asIntOf, run_underlying hu, Instr.sureAddr, sizeB_run hs, hm, add_at]
theorem pu_indexAddrS {m s c : Nat} {i : Int} {q : Addr} (hu : P.underlying t = some (.slice e)) (hs : sizeB P e s = true) (hx : lk l x = some (.slice (some q) len c)) (hy : lk l y = some (.int k i)) (hi : i = (m : Int)) (hm : m < len) :
    Pu P (.indexAddr t x y) l w (.pointer (some (q.add (m * s)))) := fun n A ha d ty pos af g => by
  subst hi
  have h1 : (m : Int) < (len : Int) := by omega
  unfold execOp
  simp only [ha.eval hx, ha.eval hy]
  simp [Instr.indexAt, asIntOf, run_underlying hu, sizeB_run hs, hm]
theorem pu_indexAddrP {m s c : Nat} {i : Int} (hu : P.underlying t = some (.slice e)) (hs : sizeB P e s = true) (hx : lk l x = some (.slice (some ⟨p, o, none⟩) len c)) (hy : lk l y = some (.int k i)) (hi : i = (m : Int)) (hm : m < len) (ho : o + m * s = o') :
    Pu P (.indexAddr t x y) l w (.pointer (some ⟨p, o', none⟩)) := by
  have h1 := pu_indexAddrS (w := w) hu hs hx hy hi hm
  rw [add_at, ho] at h1
  exact h1
/-- The place of a slice that is not nil. -/
def adr (A : Option Addr) : Addr := A.getD ⟨0, 0, none⟩
theorem Bs.adr {a : Option Addr} {L : List Nat} (h : Bs w a L) {i n : Nat} (hi : L[i]? = some n) : a = some (adr a) ∧ w.cell? ((Go.Proofs.YtjbdimfpjbmggaaGreatDoor.adr a).add i) = some (.int .u8 (n : Int)) := by
  obtain ⟨b, o, rfl, hc⟩ := h.at hi
  exact ⟨rfl, by show w.cell? ((⟨b, o, none⟩ : Addr).add i) = _; rw [add_at]; exact hc⟩
theorem pu_indexAddrB {m c : Nat} {i : Int} {a : Option Addr} {L : List Nat} (hB : Bs w a L) (hu : P.underlying t = some (.slice e)) (hs : sizeB P e 1 = true) (hx : lk l x = some (.slice a len c)) (hl : L.length = len) (hy : lk l y = some (.int k i)) (hi : i = (m : Int))
    (hm : m < L.length) : Pu P (.indexAddr t x y) l w (.pointer (some ((adr a).add m))) := by
  have h0 := (hB.adr (List.getElem?_eq_getElem hm)).1
  have h1 := pu_indexAddrS (w := w) (q := adr a) (c := c) hu hs (by rw [← h0]; exact hx) hy hi (hl ▸ hm)
  rwa [Nat.mul_one] at h1

/-! ### loads -/
theorem pu_load {q : Addr} (hf : flatB P t = true) (hx : lk l x = some (.pointer (some q))) (hc : w.cell? q = some v) : Pu P (.load t x) l w v := fun n A ha d ty pos af g => by
  unfold execOp
  simp only [ha.eval hx]
  simp [Instr.loadAt, Instr.sureAddr, loadVar, flat_run hf, hc]
theorem pu_loadB {m n' : Nat} {a : Option Addr} {L : List Nat} (hB : Bs w a L) (hf : flatB P t = true) (hx : lk l x = some (.pointer (some ((adr a).add m)))) (hm : L[m]? = some n') : Pu P (.load t x) l w (.int .u8 (n' : Int)) :=
  pu_load hf hx (hB.adr hm).2
theorem pu_loadK {L : List Value} {t' : TypeId} (hB : Bk w p L t') (hf : flatB P t = true) (hx : lk l x = some (.pointer (some ⟨p, o, none⟩))) (hv : L[o]? = some v) : Pu P (.load t x) l w v :=
  pu_load hf hx (hB.cell hv)
theorem rowB_desc (h : isRowB P t = true) : ∃ d, P.underlying t = some d ∧ d.isRow = true := by
  unfold isRowB at h
  cases hu : P.underlying t with
  | none => simp [hu] at h
  | some d => cases d <;> simp [hu] at h <;> exact ⟨_, rfl, rfl⟩
theorem pu_loadRange {C : List Value} (hr : isRowB P t = true) (hs : sizeB P t C.length = true) (hx : lk l x = some (.pointer (some ⟨p, o, none⟩))) (hC : w.rangeAt p o C) : Pu P (.load t x) l w (.agg C.toArray) := fun n A ha d ty pos af g => by
  obtain ⟨d', hu, hd⟩ := rowB_desc hr
  unfold execOp
  simp only [ha.eval hx, Sem.run_bind, run_loadAt_mid w p o t C d' hC hu hd (sizeB_info hs), Sem.run_pure, Result.andThen_ok]
theorem pu_loadRow {L : List Value} {t' : TypeId} (hB : Bk w p L t') (hr : isRowB P t = true) (hs : sizeB P t len = true) (hl : L.length = len) (hx : lk l x = some (.pointer (some ⟨p, 0, none⟩))) : Pu P (.load t x) l w (.agg L.toArray) :=
  pu_loadRange hr (hl ▸ hs) hx (fun j v hv => hB.cell (by rw [Nat.zero_add]; exact hv))
theorem pu_loadMid {L C : List Value} {t' : TypeId} (hB : Bk w p L t') (hr : isRowB P t = true) (hs : sizeB P t len = true) (hx : lk l x = some (.pointer (some ⟨p, o, none⟩))) (hC : (L.drop o).take len = C) (hl : C.length = len) : Pu P (.load t x) l w (.agg C.toArray) :=
  pu_loadRange hr (hl ▸ hs) hx (hC ▸ hB.range o len)
/-- An element of a row by value. -/
theorem pu_index {C : List Value} {m : Nat} {i : Int} (hu : P.underlying t = some (.array len e)) (hf : flatB P e = true) (hs : sizeB P e 1 = true) (hx : lk l x = some (.agg C.toArray)) (hy : lk l y = some (.int k i)) (hi : i = (m : Int)) (hm : m < len) (hv : C[m]? = some v) :
    Pu P (.index t x y) l w v := fun n A ha d ty pos af g => by
  subst hi
  have h1 : (m : Int) < (len : Int) := by omega
  unfold execOp
  simp only [ha.eval hx, ha.eval hy]
  simp [Instr.index, asIntOf, run_underlying hu, sizeB_run hs, hm, part, flat_run hf, hv]
theorem pu_field {C : List Value} {i off : Nat} {fs : Array Field} {f : Field} (hu : P.underlying t = some (.struct fs)) (hi : fs[i]? = some f) (hf : flatB P f.type = true) (hx : lk l x = some (.agg C.toArray)) (hv : C[f.offset]? = some v) : Pu P (.field t x i) l w v := fun n A ha d ty pos af g => by
  unfold execOp
  simp only [ha.eval hx]
  simp [Instr.field, run_underlying hu, hi, part, asAgg, flat_run hf, hv]

/-! ### slices -/
theorem pu_sliceArr (hu : P.underlying t = some (.array len e)) (hs : sizeB P e 1 = true) (hx : lk l x = some (.pointer (some ⟨p, o, none⟩))) : Pu P (.slice t x none none none) l w (.slice (some ⟨p, o, none⟩) len len) := fun n A ha d ty pos af g => by
  unfold execOp
  simp only [ha.eval hx]
  by_cases h0 : len = 0
  · subst h0; simp [Instr.sliceAt, run_underlying hu, Instr.sureAddr, Instr.sliceBounds, sizeB_run hs]
  · have h1 : ¬ (len = 0) := h0
    simp [Instr.sliceAt, run_underlying hu, Instr.sureAddr, Instr.sliceBounds, sizeB_run hs, h1, add_at]
def cutA (A : Option Addr) (lo c s : Nat) : Option Addr := if c = lo then A else A.map (·.add (lo * s))
theorem pu_slice2 {A : Option Addr} {c lo hi s : Nat} {k k' : IntKind} {i j : Int} {u z : Operand} (hu : P.underlying t = some (.slice e)) (hs : sizeB P e s = true) (hx : lk l x = some (.slice A len c)) (hl : lk l u = some (.int k i)) (hi' : i = (lo : Int)) (hh : lk l z = some (.int k' j)) (hj : j = (hi : Int))
    (h1 : lo ≤ hi) (h2 : hi ≤ c) : Pu P (.slice t x (some u) (some z) none) l w (.slice (cutA A lo c s) (hi - lo) (c - lo)) := fun n B ha d ty pos af g => by
  subst hi' hj
  unfold execOp
  simp only [Option.map_some, Option.map_none, ha.eval hx, ha.eval hl, ha.eval hh]
  have e1 : (0 : Int) ≤ (lo : Int) ∧ (lo : Int) ≤ (hi : Int) := by omega
  have e2 : (0 : Int) ≤ (hi : Int) ∧ (hi : Int) ≤ (c : Int) := by omega
  simp [Instr.sliceAt, Instr.slice, run_underlying hu, Instr.sliceBounds, Instr.sliceBound, asIntOf, sizeB_run hs, h1, h2, cutA]
theorem pu_sliceLo {A : Option Addr} {c lo s : Nat} {i : Int} {u : Operand} (hu : P.underlying t = some (.slice e)) (hs : sizeB P e s = true) (hx : lk l x = some (.slice A len c)) (hl : lk l u = some (.int k i)) (hi' : i = (lo : Int))
    (h1 : lo ≤ len) (h2 : len ≤ c) : Pu P (.slice t x (some u) none none) l w (.slice (cutA A lo c s) (len - lo) (c - lo)) := fun n B ha d ty pos af g => by
  subst hi'
  unfold execOp
  simp only [Option.map_some, Option.map_none, ha.eval hx, ha.eval hl]
  have e1 : (0 : Int) ≤ (lo : Int) ∧ (lo : Int) ≤ (len : Int) := by omega
  simp [Instr.sliceAt, Instr.slice, run_underlying hu, Instr.sliceBounds, Instr.sliceBound, asIntOf, sizeB_run hs, h1, cutA]
theorem pu_sliceHi {A : Option Addr} {c hi s : Nat} {j : Int} {z : Operand} (hu : P.underlying t = some (.slice e)) (hs : sizeB P e s = true) (hx : lk l x = some (.slice A len c)) (hh : lk l z = some (.int k j)) (hj : j = (hi : Int))
    (h2 : hi ≤ c) : Pu P (.slice t x none (some z) none) l w (.slice A hi c) := fun n B ha d ty pos af g => by
  subst hj
  unfold execOp
  simp only [Option.map_some, Option.map_none, ha.eval hx, ha.eval hh]
  have e2 : (0 : Int) ≤ (hi : Int) ∧ (hi : Int) ≤ (c : Int) := by omega
  have e3 : A.map (·.add (0 * s)) = A := by cases A <;> simp [Addr.add]
  simp only [Instr.sliceAt, Instr.slice, run_underlying hu, Instr.sliceBounds, Instr.sliceBound, asIntOf, Sem.run_bind, Sem.run_pure, Result.andThen_ok]
  simp [run_underlying hu, h2, sizeB_run hs, Addr.add]
end
end Go.Proofs.YtjbdimfpjbmggaaGreatDoor
