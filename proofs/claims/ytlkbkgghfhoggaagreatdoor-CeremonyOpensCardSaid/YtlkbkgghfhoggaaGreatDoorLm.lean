/- Operations on memory: addresses, loads, stores, new blocks, calls; regions that draw their order. -/
import Derived.Test.YtlkbkgghfhoggaaGreatDoorRk2
import Derived.Maps.AppendAt
import Derived.Laws.OwnMore
import Derived.Laws.MakeOwn
import Derived.OwnWalk
import Derived.Test.YtlkbkgghfhoggaaGreatDoorLp
import Derived.Deep.MidRow
import Derived.Deep.WholeRow
section
set_option linter.unusedVariables false
set_option linter.unusedSimpArgs false
namespace Go.Proofs.YtlkbkgghfhoggaaGreatDoor
open Go.RowKit

/-- v is a slice of the call's own (its block at base or behind), which holds the bytes l; or nil, and l is empty. -/
structure Ob (w : World) (base : Nat) (v : Value) (l : List Nat) : Prop where
  own : w.ownsRow base 5 1 v l.length (u8s l)
  byte : ∀ n ∈ l, n < 256

theorem u8_info : (Tryz.prog.info? 5).map (fun i => (i.zero, i.size, i.bytes)) = some (some (.int .u8 0), 1, 1) := by kernel_rfl
theorem u8_under : Tryz.prog.underlying 22 = some (.slice 5) := Tryz.underlying22

theorem u8s_append (l m : List Nat) : u8s (l ++ m) = u8s l ++ u8s m := by simp [u8s]
theorem u8s_each (l : List Nat) : ∀ u ∈ u8s l, u.oneCell' = true := by
  intro u hu
  obtain ⟨n, _, rfl⟩ := List.mem_map.1 hu
  rfl

section
variable {w w' : World} {base : Nat} {v : Value} {l m : List Nat} {S : Nat → Prop}
theorem Ob.nil (w : World) (base : Nat) : Ob w base (.slice none 0 0) [] := ⟨⟨by simp [u8s], .inl ⟨rfl, rfl⟩⟩, by simp⟩
theorem Ob.reads (h : Ob w base v l) : ∃ A c, v = .slice A l.length c ∧ Bs w A l ∧ ∀ x, A = some x → base ≤ x.block := by
  rcases h.own.2 with ⟨rfl, hn⟩ | ⟨g, cap, cur, rfl, hb, hh, hn, _, _, ht⟩
  · have : l = [] := List.eq_nil_of_length_eq_zero hn
    subst this
    exact ⟨none, 0, rfl, Bs.nil _ _, by simp⟩
  · refine ⟨_, cap, rfl, ⟨h.byte, fun _ => ⟨g, 0, rfl, fun i n hi => ?_⟩⟩, fun x hx => by injection hx with hx; subst hx; exact hb⟩
    have hc : cur[i]? = some (.int .u8 (n : Int)) := by
      have h1 := u8s_get hi
      rw [← ht, List.getElem?_take] at h1
      split at h1
      · simpa using h1
      · cases h1
    rw [Nat.zero_add]
    simp [World.cell?, hh, hc]
theorem Ob.kept (h : Ob w base v l) (k : Kp S w w') (hn : ∀ b, v.ownBlock = some b → ¬ S b) : Ob w' base v l :=
  ⟨by
    refine ⟨h.own.1, ?_⟩
    rcases h.own.2 with h1 | ⟨g, cap, cur, rfl, hb, hh, hr⟩
    · exact .inl h1
    · exact .inr ⟨g, cap, cur, rfl, hb, k.blk hh (hn g rfl), hr⟩, h.byte⟩
theorem Ob.keptNo (h : Ob w base v l) (k : Kp No w w') : Ob w' base v l := h.kept k (fun _ _ f => f)
theorem Ob.lt (h : Ob w base v l) : ∀ b, v.ownBlock = some b → base ≤ b ∧ b < w.heap.size := by
  intro b hb
  rcases h.own.2 with ⟨rfl, _⟩ | ⟨g, cap, cur, rfl, h1, hh, _⟩
  · cases hb
  · injection hb with hb; subst hb; exact ⟨h1, lt_of_block hh⟩
theorem Ob.low {base' : Nat} (h : Ob w base v l) (hb : base' ≤ base) : Ob w base' v l :=
  ⟨⟨h.own.1, by
    rcases h.own.2 with h1 | ⟨g, cap, cur, rfl, h2, hr⟩
    · exact .inl h1
    · exact .inr ⟨g, cap, cur, rfl, Nat.le_trans hb h2, hr⟩⟩, h.byte⟩
/-- A literal, or what was made. -/
theorem Ob.of_block {g cap : Nat} {cs : List Nat} (hh : w.heap[g]? = some (.cells (u8s cs).toArray 5 (0, 0))) (hb : base ≤ g) (hc : cs.length = cap) (hcap : cap ≤ maxLen) (hl : ∀ n ∈ cs, n < 256) {k : Nat} (hk : k ≤ cap) : Ob w base (.slice (some ⟨g, 0, none⟩) (cs.take k).length cap) (cs.take k) :=
  ⟨⟨by simp [u8s], .inr ⟨g, cap, _, rfl, hb, hh, by simp; omega, hcap, by simp [u8s, hc], by simp [u8s, List.map_take]⟩⟩, fun n hn => hl n (List.mem_of_mem_take hn)⟩
end

section
variable {w : World} {base : Nat} {v : Value} {l m : List Nat}
theorem run_app_nil (ty : TypeId) (h : Ob w base v l) (c : Nat) : (Builtin.append_ #[22, 22] ty #[v, .slice none 0 c]).run Tryz.prog w = .ok v w := by
  obtain ⟨i, hi, hzz⟩ := Option.map_eq_some_iff.1 u8_info
  rcases h.own.2 with ⟨rfl, h0⟩ | ⟨g, cap, cur, rfl, _, _, hnc, _⟩
  · simp [Builtin.append_, run_underlying u8_under, sizeOf, typeInfo, hi, Builtin.lenOf, Builtin.firstCells]
  · simp [Builtin.append_, run_underlying u8_under, sizeOf, typeInfo, hi, Builtin.lenOf, Builtin.firstCells, hnc, storeCells]

set_option maxRecDepth 100000 in
theorem run_app (ty : TypeId) (h : Ob w base v l) (A : Option Addr) (c : Nat) (hr : Bs w A m) (hlen : l.length + m.length ≤ 70368744177664) (hbase : base ≤ w.heap.size) :
    ∃ v' w', (Builtin.append_ #[22, 22] ty #[v, .slice A m.length c]).run Tryz.prog w = .ok v' w' ∧ Ob w' base v' (l ++ m) ∧ w.grownBy w' v.ownBlock ∧ (v'.ownBlock = v.ownBlock ∨ v'.ownBlock = some w.heap.size) := by
  have hbyte : ∀ n ∈ l ++ m, n < 256 := fun n hn => (List.mem_append.1 hn).elim (h.byte n) (hr.byte n)
  rcases A with _ | ad
  · have hm : m = [] := by
      cases m with
      | nil => rfl
      | cons n m => obtain ⟨b, o, e, _⟩ := hr.cell (by simp); cases e
    subst hm
    exact ⟨v, w, run_app_nil ty h c, by simpa using h, World.grownBy.refl w _, .inl rfl⟩
  · obtain ⟨i, hi, hzz⟩ := Option.map_eq_some_iff.1 u8_info
    simp only [Prod.mk.injEq] at hzz
    obtain ⟨hz0, hz1, hz2⟩ := hzz
    have hcells : ∀ j u, (u8s m)[j]? = some u → w.cell? (ad.add j) = some u := by
      intro j u hu
      simp only [u8s, List.getElem?_map, Option.map_eq_some_iff] at hu
      obtain ⟨n, hn, rfl⟩ := hu
      obtain ⟨b, o, e, hc⟩ := hr.at hn
      injection e with e
      subst e
      have hplain : (⟨b, o, none⟩ : Addr).add j = ⟨b, o + j, none⟩ := by unfold Addr.add; split <;> simp_all
      rw [hplain]; exact hc
    obtain ⟨v', w', hrun, h2, h3, _, h5⟩ := run_append_own_at (P := Tryz.prog) w base 22 ty 5 i (.int .u8 0) 1 1 u8_under hi hz0 hz1 hz2 rfl (by decide) v l.length (u8s l) h.own ad m.length c (u8s m) (by simp [u8s]) hcells (u8s_each m) (by unfold maxLen; omega) (by omega) hbase
    exact ⟨v', w', hrun, ⟨by rw [u8s_append, List.length_append]; exact h2, hbyte⟩, h3, h5⟩

theorem wp_app {o : Oper} {a : Act} {K : Act → World → Prop} {Q : Exit → Act → World → Prop} (s x : Operand)
    (ho : o.op = .call { callee := .builtin .append, args := #[s, x], argTypes := #[22, 22] })
    (base : Nat) (v : Value) (l m : List Nat) (hs : a.eval s = v) (h : Ob w base v l) (A : Option Addr) (c : Nat) (hx : a.eval x = .slice A m.length c) (hr : Bs w A m) (hlen : l.length + m.length ≤ 70368744177664) (hbase : base ≤ w.heap.size)
    (hk : ∀ v' w', Ob w' base v' (l ++ m) → w.grownBy w' v.ownBlock → (v'.ownBlock = v.ownBlock ∨ v'.ownBlock = some w.heap.size) → K (a.put o.dst v') w') : o.wp Tryz.prog a w K Q := by
  obtain ⟨v', w', hrun, h2, h3, h4⟩ := run_app o.type h A c hr hlen hbase
  unfold Oper.wp execOp
  simp only [ho, resolve, invoke, builtin, Sem.run_bind, Sem.run_pure, Result.andThen_ok, List.map_toArray, List.map_cons, List.map_nil, hs, hx, hrun]
  exact hk v' w' h2 h3 h4
end
end Go.Proofs.YtlkbkgghfhoggaaGreatDoor
end
section
set_option linter.unusedVariables false
set_option linter.unusedSimpArgs false
namespace Go.Proofs.YtlkbkgghfhoggaaGreatDoor
open Go.RowKit

/-- Block p holds the cells L. -/
def Bk (w : World) (p : Nat) (L : List Value) (t : TypeId) : Prop := w.heap[p]? = some (.cells L.toArray t (0, 0))
section
variable {w w' : World} {p : Nat} {L : List Value} {t : TypeId} {S : Nat → Prop}
theorem Bk.cell (h : Bk w p L t) {i : Nat} {v : Value} (hv : L[i]? = some v) : w.cell? ⟨p, i, none⟩ = some v := cell_at h (by simpa using hv)
theorem Bk.lt (h : Bk w p L t) : p < w.heap.size := lt_of_block h
theorem Bk.kept (h : Bk w p L t) (k : Kp S w w') (hn : ¬ S p) : Bk w' p L t := k.blk h hn
theorem Bk.no (h : Bk w p L t) (k : Kp No w w') : Bk w' p L t := k.blk h (fun f => f)
theorem Bk.on (h : Bk w p L t) {q : Nat} (k : Kp (On q) w w') (hn : p ≠ q) : Bk w' p L t := k.blk h hn
theorem Bk.eq {L' : List Value} (h : Bk w p L t) (e : L = L') : Bk w p L' t := e ▸ h
theorem Bk.draw (h : Bk w p L t) : Bk w.drew p L t := h
theorem Bk.range (h : Bk w p L t) (o n : Nat) : w.rangeAt p o ((L.drop o).take n) := fun j v hv => h.cell (by
  rw [List.getElem?_take] at hv
  split at hv
  · rwa [List.getElem?_drop] at hv
  · cases hv)
end
def isRowB (P : Program) (t : TypeId) : Bool := match P.underlying t with
  | some (.struct _) | some (.array _ _) => true
  | _ => false
def flatB (P : Program) (t : TypeId) : Bool := match P.underlying t with
  | some (.struct _) | some (.array _ _) | none => false
  | _ => true
def sizeB (P : Program) (t : TypeId) (n : Nat) : Bool := match P.info? t with
  | some i => i.size == n
  | none => false
theorem sizeB_info {P : Program} {t : TypeId} {n : Nat} (h : sizeB P t n = true) : (P.info? t).map (·.size) = some n := by
  unfold sizeB at h
  cases hi : P.info? t with
  | none => simp [hi] at h
  | some i => simp [hi] at h; simp [h]
theorem sizeB_run {P : Program} {t : TypeId} {n : Nat} (h : sizeB P t n = true) (w : World) : (sizeOf t).run P w = .ok n w := by
  unfold sizeB at h
  cases hi : P.info? t with
  | none => simp [hi] at h
  | some i => simp [hi] at h; simp [sizeOf, typeInfo, hi, h]
theorem flat_run {P : Program} {t : TypeId} (h : flatB P t = true) (w : World) : (isAgg t).run P w = .ok false w := by
  unfold flatB at h
  cases hu : P.underlying t with
  | none => simp [hu] at h
  | some d => cases d <;> simp [hu] at h <;> simp [isAgg, run_underlying hu]
/-- Where a field lies: its first cell. -/
def fieldOff (P : Program) (s : TypeId) (i : Nat) : Option Nat := match P.underlying s with
  | some (.struct fs) => match fs[i]? with
    | some f => match P.info? f.type with
      | some d => if d.size = 0 then none else some f.offset
      | none => none
    | none => none
  | _ => none
theorem fieldOff_spec {P : Program} {s i off : Nat} (h : fieldOff P s i = some off) : ∃ fs f, P.underlying s = some (.struct fs) ∧ fs[i]? = some f ∧ f.offset = off ∧ ∃ d, P.info? f.type = some d ∧ d.size ≠ 0 := by
  unfold fieldOff at h
  cases hu : P.underlying s with
  | none => simp [hu] at h
  | some ds =>
    cases ds with
    | struct fs =>
      simp only [hu] at h
      cases hf : fs[i]? with
      | none => simp [hf] at h
      | some f =>
        simp only [hf] at h
        cases hd : P.info? f.type with
        | none => simp [hd] at h
        | some d =>
          simp only [hd] at h
          split at h
          · cases h
          · rename_i hz; exact ⟨fs, f, rfl, hf, Option.some.inj h, d, hd, hz⟩
    | _ => simp [hu] at h
theorem add_at (p o j : Nat) : (⟨p, o, none⟩ : Addr).add j = ⟨p, o + j, none⟩ := by unfold Addr.add; split <;> simp_all

/-! ### addresses -/
section
variable {P : Program} {l : List (Nat × Value)} {w : World} {x y : Operand} {v : Value} {t e : TypeId} {p o o' len : Nat} {k : IntKind}
theorem pu_fieldAddr {i off : Nat} (hf : fieldOff P t i = some off) (hx : lk l x = some (.pointer (some ⟨p, o, none⟩))) (ho : o + off = o') : Pu P (.fieldAddr t x i) l w (.pointer (some ⟨p, o', none⟩)) := fun n A ha d ty pos af g => by
  obtain ⟨fs, f, hu, hi, rfl, d', hd, hz⟩ := fieldOff_spec hf
  subst ho
  unfold execOp
  simp only [ha.eval hx]
  simp [Instr.fieldAt, run_underlying hu, hi, Instr.sureAddr, fieldPlace, sizeOf, typeInfo, hd, hz, add_at]
theorem pu_indexAddrA {m s : Nat} {i : Int} (hu : P.underlying t = some (.array len e)) (hs : sizeB P e s = true) (hx : lk l x = some (.pointer (some ⟨p, o, none⟩))) (hy : lk l y = some (.int k i)) (hi : i = (m : Int)) (hm : m < len) (ho : o + m * s = o') :
    Pu P (.indexAddr t x y) l w (.pointer (some ⟨p, o', none⟩)) := fun n A ha d ty pos af g => by
  subst hi ho
  have h1 : (m : Int) < (len : Int) := by omega
  unfold execOp
  simp only [ha.eval hx, ha.eval hy]
  simp [Instr.indexAt, asIntOf, run_underlying hu, Instr.sureAddr, sizeB_run hs, hm, add_at]
theorem pu_indexAddrS {m s c : Nat} {i : Int} {q : Addr} (hu : P.underlying t = some (.slice e)) (hs : sizeB P e s = true) (hx : lk l x = some (.slice (some q) len c)) (hy : lk l y = some (.int k i)) (hi : i = (m : Int)) (hm : m < len) :
    Pu P (.indexAddr t x y) l w (.pointer (some (q.add (m * s)))) := fun n A ha d ty pos af g => by
  subst hi
  have h1 : (m : Int) < (len : Int) := by omega
  unfold execOp
  simp only [ha.eval hx, ha.eval hy]
  simp [Instr.indexAt, asIntOf, run_underlying hu, sizeB_run hs, hm]
theorem pu_indexAddrP {m s c : Nat} {i : Int} (hu : P.underlying t = some (.slice e)) (hs : sizeB P e s = true) (hx : lk l x = some (.slice (some ⟨p, o, none⟩) len c)) (hy : lk l y = some (.int k i)) (hi : i = (m : Int)) (hm : m < len) (ho : o + m * s = o') :
    Pu P (.indexAddr t x y) l w (.pointer (some ⟨p, o', none⟩)) := by
  have h1 := pu_indexAddrS (w := w) hu hs hx hy hi hm
  rw [add_at, ho] at h1
  exact h1
/-- The place of a slice that is not nil. -/
def adr (A : Option Addr) : Addr := A.getD ⟨0, 0, none⟩
theorem Bs.adr {a : Option Addr} {L : List Nat} (h : Bs w a L) {i n : Nat} (hi : L[i]? = some n) : a = some (adr a) ∧ w.cell? ((Go.Proofs.YtlkbkgghfhoggaaGreatDoor.adr a).add i) = some (.int .u8 (n : Int)) := by
  obtain ⟨b, o, rfl, hc⟩ := h.at hi
  exact ⟨rfl, by show w.cell? ((⟨b, o, none⟩ : Addr).add i) = _; rw [add_at]; exact hc⟩
theorem pu_indexAddrB {m c : Nat} {i : Int} {a : Option Addr} {L : List Nat} (hB : Bs w a L) (hu : P.underlying t = some (.slice e)) (hs : sizeB P e 1 = true) (hx : lk l x = some (.slice a len c)) (hl : L.length = len) (hy : lk l y = some (.int k i)) (hi : i = (m : Int))
    (hm : m < L.length) : Pu P (.indexAddr t x y) l w (.pointer (some ((adr a).add m))) := by
  have h0 := (hB.adr (List.getElem?_eq_getElem hm)).1
  have h1 := pu_indexAddrS (w := w) (q := adr a) (c := c) hu hs (by rw [← h0]; exact hx) hy hi (hl ▸ hm)
  rwa [Nat.mul_one] at h1

/-! ### loads -/
theorem pu_load {q : Addr} (hf : flatB P t = true) (hx : lk l x = some (.pointer (some q))) (hc : w.cell? q = some v) : Pu P (.load t x) l w v := fun n A ha d ty pos af g => by
  unfold execOp
  simp only [ha.eval hx]
  simp [Instr.loadAt, Instr.sureAddr, loadVar, flat_run hf, hc]
theorem pu_loadB {m n' : Nat} {a : Option Addr} {L : List Nat} (hB : Bs w a L) (hf : flatB P t = true) (hx : lk l x = some (.pointer (some ((adr a).add m)))) (hm : L[m]? = some n') : Pu P (.load t x) l w (.int .u8 (n' : Int)) :=
  pu_load hf hx (hB.adr hm).2
theorem pu_loadK {L : List Value} {t' : TypeId} (hB : Bk w p L t') (hf : flatB P t = true) (hx : lk l x = some (.pointer (some ⟨p, o, none⟩))) (hv : L[o]? = some v) : Pu P (.load t x) l w v :=
  pu_load hf hx (hB.cell hv)
theorem rowB_desc (h : isRowB P t = true) : ∃ d, P.underlying t = some d ∧ d.isRow = true := by
  unfold isRowB at h
  cases hu : P.underlying t with
  | none => simp [hu] at h
  | some d => cases d <;> simp [hu] at h <;> exact ⟨_, rfl, rfl⟩
theorem pu_loadRange {C : List Value} (hr : isRowB P t = true) (hs : sizeB P t C.length = true) (hx : lk l x = some (.pointer (some ⟨p, o, none⟩))) (hC : w.rangeAt p o C) : Pu P (.load t x) l w (.agg C.toArray) := fun n A ha d ty pos af g => by
  obtain ⟨d', hu, hd⟩ := rowB_desc hr
  unfold execOp
  simp only [ha.eval hx, Sem.run_bind, run_loadAt_mid w p o t C d' hC hu hd (sizeB_info hs), Sem.run_pure, Result.andThen_ok]
theorem pu_loadRow {L : List Value} {t' : TypeId} (hB : Bk w p L t') (hr : isRowB P t = true) (hs : sizeB P t len = true) (hl : L.length = len) (hx : lk l x = some (.pointer (some ⟨p, 0, none⟩))) : Pu P (.load t x) l w (.agg L.toArray) :=
  pu_loadRange hr (hl ▸ hs) hx (fun j v hv => hB.cell (by rw [Nat.zero_add]; exact hv))
theorem pu_loadMid {L C : List Value} {t' : TypeId} (hB : Bk w p L t') (hr : isRowB P t = true) (hs : sizeB P t len = true) (hx : lk l x = some (.pointer (some ⟨p, o, none⟩))) (hC : (L.drop o).take len = C) (hl : C.length = len) : Pu P (.load t x) l w (.agg C.toArray) :=
  pu_loadRange hr (hl ▸ hs) hx (hC ▸ hB.range o len)
/-- An element of a row by value. -/
theorem pu_index {C : List Value} {m : Nat} {i : Int} (hu : P.underlying t = some (.array len e)) (hf : flatB P e = true) (hs : sizeB P e 1 = true) (hx : lk l x = some (.agg C.toArray)) (hy : lk l y = some (.int k i)) (hi : i = (m : Int)) (hm : m < len) (hv : C[m]? = some v) :
    Pu P (.index t x y) l w v := fun n A ha d ty pos af g => by
  subst hi
  have h1 : (m : Int) < (len : Int) := by omega
  unfold execOp
  simp only [ha.eval hx, ha.eval hy]
  simp [Instr.index, asIntOf, run_underlying hu, sizeB_run hs, hm, part, flat_run hf, hv]

/-! ### slices -/
theorem pu_sliceArr (hu : P.underlying t = some (.array len e)) (hs : sizeB P e 1 = true) (hx : lk l x = some (.pointer (some ⟨p, o, none⟩))) : Pu P (.slice t x none none none) l w (.slice (some ⟨p, o, none⟩) len len) := fun n A ha d ty pos af g => by
  unfold execOp
  simp only [ha.eval hx]
  by_cases h0 : len = 0
  · subst h0; simp [Instr.sliceAt, run_underlying hu, Instr.sureAddr, Instr.sliceBounds, sizeB_run hs]
  · have h1 : ¬ (len = 0) := h0
    simp [Instr.sliceAt, run_underlying hu, Instr.sureAddr, Instr.sliceBounds, sizeB_run hs, h1, add_at]
def cutA (A : Option Addr) (lo c s : Nat) : Option Addr := if c = lo then A else A.map (·.add (lo * s))
theorem pu_slice2 {A : Option Addr} {c lo hi s : Nat} {k k' : IntKind} {i j : Int} {u z : Operand} (hu : P.underlying t = some (.slice e)) (hs : sizeB P e s = true) (hx : lk l x = some (.slice A len c)) (hl : lk l u = some (.int k i)) (hi' : i = (lo : Int)) (hh : lk l z = some (.int k' j)) (hj : j = (hi : Int))
    (h1 : lo ≤ hi) (h2 : hi ≤ c) : Pu P (.slice t x (some u) (some z) none) l w (.slice (cutA A lo c s) (hi - lo) (c - lo)) := fun n B ha d ty pos af g => by
  subst hi' hj
  unfold execOp
  simp only [Option.map_some, Option.map_none, ha.eval hx, ha.eval hl, ha.eval hh]
  have e1 : (0 : Int) ≤ (lo : Int) ∧ (lo : Int) ≤ (hi : Int) := by omega
  have e2 : (0 : Int) ≤ (hi : Int) ∧ (hi : Int) ≤ (c : Int) := by omega
  simp [Instr.sliceAt, Instr.slice, run_underlying hu, Instr.sliceBounds, Instr.sliceBound, asIntOf, sizeB_run hs, h1, h2, cutA]
theorem pu_sliceLo {A : Option Addr} {c lo s : Nat} {i : Int} {u : Operand} (hu : P.underlying t = some (.slice e)) (hs : sizeB P e s = true) (hx : lk l x = some (.slice A len c)) (hl : lk l u = some (.int k i)) (hi' : i = (lo : Int))
    (h1 : lo ≤ len) (h2 : len ≤ c) : Pu P (.slice t x (some u) none none) l w (.slice (cutA A lo c s) (len - lo) (c - lo)) := fun n B ha d ty pos af g => by
  subst hi'
  unfold execOp
  simp only [Option.map_some, Option.map_none, ha.eval hx, ha.eval hl]
  have e1 : (0 : Int) ≤ (lo : Int) ∧ (lo : Int) ≤ (len : Int) := by omega
  simp [Instr.sliceAt, Instr.slice, run_underlying hu, Instr.sliceBounds, Instr.sliceBound, asIntOf, sizeB_run hs, h1, cutA]
theorem pu_sliceHi {A : Option Addr} {c hi s : Nat} {j : Int} {z : Operand} (hu : P.underlying t = some (.slice e)) (hs : sizeB P e s = true) (hx : lk l x = some (.slice A len c)) (hh : lk l z = some (.int k j)) (hj : j = (hi : Int))
    (h2 : hi ≤ c) : Pu P (.slice t x none (some z) none) l w (.slice A hi c) := fun n B ha d ty pos af g => by
  subst hj
  unfold execOp
  simp only [Option.map_some, Option.map_none, ha.eval hx, ha.eval hh]
  have e2 : (0 : Int) ≤ (hi : Int) ∧ (hi : Int) ≤ (c : Int) := by omega
  have e3 : A.map (·.add (0 * s)) = A := by cases A <;> simp [Addr.add]
  simp only [Instr.sliceAt, Instr.slice, run_underlying hu, Instr.sliceBounds, Instr.sliceBound, asIntOf, Sem.run_bind, Sem.run_pure, Result.andThen_ok]
  simp [run_underlying hu, h2, sizeB_run hs, Addr.add]
end
end Go.Proofs.YtlkbkgghfhoggaaGreatDoor
end
