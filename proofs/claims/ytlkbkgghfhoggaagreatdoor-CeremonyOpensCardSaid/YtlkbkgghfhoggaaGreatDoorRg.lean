/- Ranges over functions: code in a round, behind a loop; the iterator of slices.Chunk. -/
import Derived.Test.YtlkbkgghfhoggaaGreatDoorLo
import Derived.RangeFuncNested
import Derived.RangeFuncLeaves
import Derived.RangeFuncCalls
set_option linter.unusedVariables false
set_option linter.unusedSimpArgs false
namespace Go.Proofs.YtlkbkgghfhoggaaGreatDoor
open Go.RowKit

/-! ### an operation at the wide fence, in a round or not -/
def noDefer (o : Oper) : Bool := match o.op with
  | .defer _ => false
  | _ => true
abbrev Wf (r : Option Nat) : Fence := { Fence.wide with round := r }
section
variable {r : Option Nat} {m n D : Nat} {P : Program} {Q Q0 : Exit → Act → World → Prop} {l l' : List (Nat × Value)} {w w' A B C : World} {x y c : Code} {K : Act → World → Prop} {S : Nat → Prop} {B0 p q : Nat}
theorem callsIn_wf {f : FuncId} {args : Array Value} {R : Ending → World → Prop} (h : Calls P f args w R) : CallsIn (Wf r) m P f args w R := callsIn_wide.2 h
theorem rowsIn_wf {row : String} {args : Array Value} {R : Value → World → Prop} (h : Rows P row args w R) : RowsIn (Wf r) m P row args w R := fun c cs _ =>
  let ⟨v, w', h1, h2⟩ := h c cs; ⟨v, w', h1, stepsIn_wide.2 h2⟩
theorem oper_wf {o : Oper} {a : Act} (hd : noDefer o = true) (h : o.wp P a w K Q) : o.wpIn (Wf r) m P a w K Q := by
  refine ⟨fun _ _ => trivial, ?_⟩
  rw [show o.semAt (Wf r).round a.eval = execOp a.eval o from Oper.semAt_eq r a.eval o (fun c hc => by simp [noDefer, hc] at hd)]
  unfold Oper.wp at h
  revert h
  generalize (execOp a.eval o).run P w = z
  intro h
  cases z with
  | ok z w' =>
    cases z with
    | value v => exact h
    | skip => exact h
    | defer d => exact h
    | enter f args => exact ⟨fun hh => Bool.noConfusion hh, callsIn_wf (Calls.mono h fun e w'' he => by cases e <;> exact he)⟩
    | row row args => exact ⟨fun hh => Bool.noConfusion hh, rowsIn_wf h⟩
    | _ => exact h.elim
  | halt z w' =>
    cases z with
    | panic v => exact h
    | _ => exact h.elim
theorem wpList_wf {ops : Array Oper} (hQ : ¬ LetsOut Q) : ∀ (rest : List Oper) (a : Act) (w : World), rest.all noDefer = true → wpList P ops Q rest a w → wpListIn (Wf r) m P ops Q rest a w
  | [], a, w, _, h => h
  | o :: rest, a, w, hd, h => by
    rw [List.all_cons, Bool.and_eq_true] at hd
    unfold wpList at h
    unfold wpListIn
    split
    · rename_i hw
      rw [if_pos hw] at h
      rcases h with h | h
      · exact oper_wf hd.1 (Oper.wp_mono (fun a w hh => wpList_wf hQ rest a w hd.2 hh) h)
      · exact absurd h.2 hQ
    · rename_i hw
      rw [if_neg hw] at h
      exact ⟨fun _ _ => trivial, wpList_wf hQ rest _ _ hd.2 h⟩

/-! ### code in a round -/
def Cr (r : Option Nat) (P : Program) (c : Code) (Q : Exit → Act → World → Prop) (n : Nat) (l : List (Nat × Value)) (w : World) : Prop := ∀ m a, St n l a → c.wpIn (Wf r) m P Q a w
theorem Cr_seq (h : ∀ K : Act → World → Prop, (∀ n l w, Cr r P y Q n l w → ∀ a, St n l a → K a w) → Cr r P x (Exit.then K Q) n l w) : Cr r P (.seq x y) Q n l w := fun m a ha =>
  wpIn_seq_k fun K hK => h K (fun n l w hc a ha => hK _ _ (hc m a ha)) m a ha
theorem Cr_region {id : Nat} {os : List Oper} (hd : os.all noDefer = true) (hQ : ¬ LetsOut Q) (h : Rw P os.toArray Q os n l w) : Cr r P (.region id os.toArray false) Q n l w := fun m a ha => wpIn_region_lit (wpList_wf hQ os a w hd (h a ha))
theorem Cr_block {id : Nat} (h : Cr r P c (Exit.inBlock id Q) n l w) : Cr r P (.block id c) Q n l w := fun m a ha => wpIn_block (h m a ha)
theorem Xr_then (hK : ∀ n l w, Cr r P y Q n l w → ∀ a, St n l a → K a w) (h : Cr r P y Q n l w) : Xw (Exit.then K Q0) .normal n l w := fun a ha => hK _ _ _ h a ha
theorem no_out {p : World → Prop} : ¬ LetsOut (fun (e : Exit) (_ : Act) (W : World) => e = .normal ∧ p W) := fun ⟨_, _, h, _⟩ => by cases h

/-! ### behind a loop over a function: a mark among the deferred calls -/
structure StM (D n : Nat) (l : List (Nat × Value)) (a : Act) : Prop where
  size : n ≤ a.tmps.size
  defers : a.defers = [{ target := .collected D, args := #[] }]
  slot : ∀ t v, lkN l t = some v → a.tmps[t]? = some v
def Cm (D : Nat) (P : Program) (c : Code) (Q : Exit → Act → World → Prop) (n : Nat) (l : List (Nat × Value)) (w : World) : Prop := ∀ a, StM D n l a → c.wp P Q a w
def Xm (D : Nat) (Q : Exit → Act → World → Prop) (e : Exit) (n : Nat) (l : List (Nat × Value)) (w : World) : Prop := ∀ a, StM D n l a → Q e a w
def Rm (D : Nat) (P : Program) (ops : Array Oper) (Q : Exit → Act → World → Prop) (rest : List Oper) (n : Nat) (l : List (Nat × Value)) (w : World) : Prop := ∀ a, StM D n l a → wpList P ops Q rest a w
theorem StM.bare {a : Act} (h : StM D n l a) : St n l { a with defers := [] } := ⟨h.size, rfl, h.slot⟩
theorem eval_bare (a : Act) (ds : List Deferred) : ({ a with defers := ds } : Act).eval = a.eval := funext fun o => by cases o <;> rfl
theorem StM.put {a : Act} (h : StM D n l a) {d : Nat} (hd : Nat.blt d n = true) (v : Value) : StM D n ((d, v) :: l) (a.put (some d) v) :=
  ⟨(h.bare.put hd v).size, h.defers, (h.bare.put hd v).slot⟩
theorem C_seqW (h : ∀ K : Act → World → Prop, (∀ a w, y.wp P Q a w → K a w) → Cw P x (Exit.then K Q) n l w) : Cw P (.seq x y) Q n l w := fun a ha => wp_seq_k fun K hK => h K hK a ha
theorem Xm_thenW (hK : ∀ a w, y.wp P Q a w → K a w) (h : Cm D P y Q n l w) : Xm D (Exit.then K Q0) .normal n l w := fun a ha => hK _ _ (h a ha)
theorem Cm_seq (h : ∀ K : Act → World → Prop, (∀ n l w, Cm D P y Q n l w → ∀ a, StM D n l a → K a w) → Cm D P x (Exit.then K Q) n l w) : Cm D P (.seq x y) Q n l w := fun a ha =>
  wp_seq_k fun K hK => h K (fun n l w hc a ha => hK _ _ (hc a ha)) a ha
theorem Cm_region {id : Nat} {os : List Oper} (h : Rm D P os.toArray Q os n l w) : Cm D P (.region id os.toArray false) Q n l w := fun a ha => wp_region_lit (h a ha)
theorem Cm_skip (h : Xm D Q .normal n l w) : Cm D P .skip Q n l w := fun a ha => wp_skip (h a ha)
theorem Cm_ret (h : Xm D Q .ret n l w) : Cm D P .ret Q n l w := fun a ha => wp_ret (h a ha)
theorem Xm_then (hK : ∀ n l w, Cm D P y Q n l w → ∀ a, StM D n l a → K a w) (h : Cm D P y Q n l w) : Xm D (Exit.then K Q0) .normal n l w := fun a ha => hK _ _ _ h a ha
theorem Xm_in_normal {id : Nat} (h : Xm D Q .normal n l w) : Xm D (Exit.inBlock id Q) .normal n l w := h
theorem Rm_nil {ops : Array Oper} (h : Xm D Q .normal n l w) : Rm D P ops Q [] n l w := fun a ha => wpList_nil (h a ha)
theorem Rm_pu {ops : Array Oper} {rest : List Oper} {op : Op} {v : Value} {d : Nat} {ty : TypeId} {pos : String} {af : Array Edge} (h : Pu P op l w v) (hd : Nat.blt d n = true) (k : Rm D P ops Q rest n ((d, v) :: l) w) :
    Rm D P ops Q (⟨some d, op, ty, pos, af, none⟩ :: rest) n l w := fun a ha =>
  wpList_plain rfl fun K hK => by
    unfold Oper.wp
    rw [← eval_bare a [], h n _ ha.bare]
    exact hK _ _ (k _ (ha.put hd v))
theorem Xm_ret1 {e : Exit} {fn : Func} {Φ : Value → World → Prop} (he : e = .ret ∨ e = .normal) {t : Nat} {v : Value} (hf : fn.results = #[.tmp t]) (hv : lkN l t = some v) (hK : w.heap[D]? = some (.deferred (some [])))
    (h : Φ v (w.putObj D (.deferred none))) : Xm D (bodyPostM Fence.wide m P fn (RetR Φ)) e n l w := fun a ha => by
  have hr : LeavesInM Fence.wide m P fn a.tmps (RetR Φ) a.defers .returning w := by
    rw [ha.defers]
    refine ⟨by simp, .inl ⟨D, _, rfl, run_takeDeferred hK, ?_⟩⟩
    exact ⟨_, by rw [results_tmp hf, show a.tmps.getD t undef = v from ha.bare.tmp hv], v, rfl, h⟩
  rcases he with rfl | rfl <;> exact hr
theorem enterM {f : FuncId} {fn : Func} {Φ : Value → World → Prop} (m : Nat) (vs : List Value) (hf : P.funcs[f]? = some fn) (hb : fn.body = some c) (hn : fn.ntmps = n) (hs : Nat.ble vs.length n = true)
    (h : Cw P c (bodyPostM Fence.wide m P fn (RetR Φ)) n (argsOf 0 vs) w) : Ret P f vs.toArray w Φ := by
  refine callsIn_wide.1 (callsIn_of_wp_marks (n := m) hf hb trivial (wpIn_wide.2 (h _ ⟨?_, rfl, fun t v hv => ?_⟩)))
  · simp at hs; simp [hn]; omega
  · obtain ⟨_, h2⟩ := lkN_argsOf vs 0 t v hv
    simp only [Nat.sub_zero] at h2
    have hlt := (List.getElem?_eq_some_iff.1 h2).1
    have h3 : vs[t] = v := by rw [List.getElem?_eq_getElem hlt] at h2; exact Option.some.inj h2
    simp [Array.getElem?_append, hlt, h3]

/-! ### a step of the book-keeping: blocks that hold no cells -/
def Bw (B0 : Nat) (A B : World) : Prop := ∃ S : Nat → Prop, Kp S A B ∧ ∀ i, S i → B0 ≤ i ∧ ∃ o, A.heap[i]? = some o ∧ o.isCells = false
theorem Bw.of {row : Option Nat} (hg : A.grownBy B row) (hr : ∀ i, row = some i → B0 ≤ i ∧ ∃ o : Obj, A.heap[i]? = some o ∧ o.isCells = false) : Bw B0 A B :=
  ⟨fun i => row = some i, ⟨hg.os, hg.tape, hg.output, hg.size, fun i hi hn => hg.block i hi (fun e => hn e.symm)⟩, hr⟩
theorem Bw.size (b : Bw B0 A B) : A.heap.size ≤ B.heap.size := b.elim fun _ h => h.1.size
theorem Bw.put {o o' : Obj} (hq : B0 ≤ q) (h : A.heap[q]? = some o) (ho : o.isCells = false) : Bw B0 A (A.putObj q o') := .of (grownBy_putObj' A q o') (fun i e => by cases e; exact ⟨hq, o, h, ho⟩)
theorem Kp.bw {w0 : World} (h : Kp S w0 A) (b : Bw B0 A B) (hB : w0.heap.size ≤ B0) : Kp S w0 B := by
  obtain ⟨S', k, hS⟩ := b
  exact h.trans k fun i hi => .inr (Nat.le_trans hB (hS i hi).1)
theorem Bk.bw {L : List Value} {t : TypeId} (h : Bk A p L t) (b : Bw B0 A B) : Bk B p L t := by
  obtain ⟨S', k, hS⟩ := b
  refine h.kept k fun hp => ?_
  obtain ⟨_, o, h1, h2⟩ := hS p hp
  rw [show A.heap[p]? = some _ from h] at h1; cases h1; cases h2
theorem Bk.cells {L : List Value} {t : TypeId} (h : Bk A p L t) : ∃ o, A.heap[p]? = some o ∧ o.isCells = true := ⟨_, h, rfl⟩
theorem Bs.bw {a : Option Addr} {L : List Nat} (h : Bs A a L) (b : Bw B0 A B) : Bs B a L := by
  obtain ⟨S', k, hS⟩ := b
  refine h.keptS k fun hl x hx hs => ?_
  obtain ⟨b', o', rfl, hc⟩ := h.cell hl
  cases hx
  obtain ⟨n, hn⟩ : ∃ n, L[0]? = some n := ⟨_, List.getElem?_eq_getElem (List.length_pos_iff.2 hl)⟩
  obtain ⟨o1, h1, h2⟩ := cells_of_cell (hc 0 n hn)
  obtain ⟨_, o, h3, h4⟩ := hS b' hs
  rw [show A.heap[b']? = some o1 from h1] at h3; cases h3; rw [h2] at h4; cases h4
theorem keepsFrom_of_kp (k : Kp S A B) (hc : ∀ i, S i → ∃ o : Obj, A.heap[i]? = some o ∧ o.isCells = true) : KeepsFrom B0 A B :=
  ⟨k.size, fun i o _ hi ho => k.blk hi fun hs => by obtain ⟨o', h1, h2⟩ := hc i hs; rw [hi] at h1; cases h1; rw [ho] at h2; cases h2⟩
end

/-! ### the iterator's own code: a call of yield -/
section
variable {m n : Nat} {P : Program} {Q : Exit → Act → World → Prop} {l : List (Nat × Value)} {w : World} {ops : Array Oper} {rest : List Oper} {op : Op} {v : Value} {d : Nat} {ty : TypeId} {pos : String} {af : Array Edge}
def RI (P : Program) (m : Nat) (ops : Array Oper) (Q : Exit → Act → World → Prop) (rest : List Oper) (n : Nat) (l : List (Nat × Value)) (w : World) : Prop := ∀ a, St n l a → wpListIn Fence.wide m P ops Q rest a w
theorem C_regionI {id : Nat} {os : List Oper} (m : Nat) (h : RI P m os.toArray Q os n l w) : Cw P (.region id os.toArray false) Q n l w := fun a ha => wpIn_wide.1 (wpIn_region_lit (h a ha))
theorem RI_nil (h : Xw Q .normal n l w) : RI P m ops Q [] n l w := fun a ha => wpListIn_nil (h a ha)
theorem RI_pu (h : Pu P op l w v) (hd : Nat.blt d n = true) (k : RI P m ops Q rest n ((d, v) :: l) w) : RI P m ops Q (⟨some d, op, ty, pos, af, none⟩ :: rest) n l w := fun a ha =>
  wpListIn_plain rfl fun K hK => by
    refine ⟨fun _ _ => trivial, ?_⟩
    rw [show Oper.semAt Fence.wide.round a.eval ⟨some d, op, ty, pos, af, none⟩ = execOp a.eval ⟨some d, op, ty, pos, af, none⟩ from rfl, h n a ha]
    exact hK _ _ (k _ (ha.put hd v))
theorem RI_yield {l0 : Nat} {fo : Operand} {xs : List Operand} {vs : List Value} {ts : Array TypeId} {R : Ending → World → Prop} {Φ : Value → World → Prop} (hy : YieldAt Fence.wide (m - 1) P l0 vs.toArray w R)
    (hf : lk l fo = some (.func (.yield l0) #[] #[])) (hx : lkL l xs = some vs) (hR : ∀ e w', R e w' → ∃ v, e = .returned v ∧ Φ v w') (hd : Nat.blt d n = true) (k : ∀ v w', Φ v w' → RI P m ops Q rest n ((d, v) :: l) w') :
    RI P m ops Q (⟨some d, .call ⟨.value fo, xs.toArray, ts⟩, ty, pos, af, none⟩ :: rest) n l w := fun a ha =>
  wpListIn_plain rfl fun K hK => by
    obtain ⟨fn, tmps, assign, body, h1, h2⟩ := hy
    have hrun : (execOp a.eval ⟨some d, .call ⟨.value fo, xs.toArray, ts⟩, ty, pos, af, none⟩).run P w = .ok (.round l0 fn tmps assign body) w := by
      unfold execOp
      have he : xs.toArray.map a.eval = vs.toArray := by rw [List.map_toArray, ha.evalL hx]
      simp only [resolve, ha.eval hf, Deferred.ofValue, invoke, Sem.run_bind, Sem.run_pure, Result.andThen_ok]
      rw [show (#[] ++ Array.map a.eval xs.toArray) = vs.toArray by rw [he]; simp]
      exact h1
    refine ⟨fun _ _ => trivial, ?_⟩
    rw [show Oper.semAt Fence.wide.round a.eval ⟨some d, .call ⟨.value fo, xs.toArray, ts⟩, ty, pos, af, none⟩ = execOp a.eval ⟨some d, .call ⟨.value fo, xs.toArray, ts⟩, ty, pos, af, none⟩ from rfl, hrun, Oper.uponIn_round]
    refine ⟨fun hh => Bool.noConfusion hh, h2.mono fun e w' he => ?_⟩
    obtain ⟨v, rfl, hv⟩ := hR e w' he
    exact hK _ _ (k v w' hv _ (ha.put hd v))
end
end Go.Proofs.YtlkbkgghfhoggaaGreatDoor
