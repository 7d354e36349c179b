/- Operations that change the world: new blocks, stores, calls, append, copy; regions that draw their order. -/
import Derived.Test.YtlkbkgghfhoggaaGreatDoorLm
import Derived.Great.BuildSlice
import Derived.Laws.MakeOwn
set_option linter.unusedVariables false
set_option linter.unusedSimpArgs false
namespace Go.Proofs.YtlkbkgghfhoggaaGreatDoor
open Go.RowKit

/-- The operation comes to a value and a world of which Φ holds. -/
def Lo (P : Program) (o : Oper) (n : Nat) (l : List (Nat × Value)) (w : World) (Φ : Value → World → Prop) : Prop :=
  ∀ a, St n l a → ∀ (K : Act → World → Prop) (Q : Exit → Act → World → Prop), (∀ v w', Φ v w' → K (a.put o.dst v) w') → o.wp P a w K Q
section
variable {P : Program} {Q : Exit → Act → World → Prop} {n : Nat} {l : List (Nat × Value)} {w : World} {ops : Array Oper} {rest : List Oper} {op : Op} {v : Value} {d : Nat} {d? : Option Tmp} {ty : TypeId} {pos : String} {af : Array Edge} {Φ Ψ : Value → World → Prop} {g? : Option (Nat × Bool)}
theorem Lo.mono {o : Oper} (h : Lo P o n l w Φ) (hm : ∀ v w', Φ v w' → Ψ v w') : Lo P o n l w Ψ := fun a ha K Q hK => h a ha K Q fun v w' hv => hK v w' (hm v w' hv)
theorem R_lo (h : Lo P ⟨some d, op, ty, pos, af, none⟩ n l w Φ) (hd : Nat.blt d n = true) (k : ∀ v w', Φ v w' → Rw P ops Q rest n ((d, v) :: l) w') : Rw P ops Q (⟨some d, op, ty, pos, af, none⟩ :: rest) n l w := fun a ha =>
  wpList_plain rfl fun K hK => h a ha K Q fun v w' hv => hK _ _ (k v w' hv _ (ha.put hd v))
theorem R_lo0 (h : Lo P ⟨none, op, ty, pos, af, none⟩ n l w Φ) (k : ∀ v w', Φ v w' → Rw P ops Q rest n l w') : Rw P ops Q (⟨none, op, ty, pos, af, none⟩ :: rest) n l w := fun a ha =>
  wpList_plain rfl fun K hK => h a ha K Q fun v w' hv => hK _ _ (k v w' hv _ ha)
theorem R_glo {j dj : Nat} {want : Bool} (hj : (ops[j]?).bind (·.dst) = some dj) (hv : lkN l dj = some (.bool want)) (h : Lo P ⟨some d, op, ty, pos, af, some (j, want)⟩ n l w Φ) (hd : Nat.blt d n = true) (k : ∀ v w', Φ v w' → Rw P ops Q rest n ((d, v) :: l) w') :
    Rw P ops Q (⟨some d, op, ty, pos, af, some (j, want)⟩ :: rest) n l w := fun a ha =>
  wpList_step fun K hK => by
    rw [if_pos (by rw [wanted_of ha rfl hj hv]; cases want <;> rfl)]
    exact h a ha K Q fun v w' hv => hK _ _ (k v w' hv _ (ha.put hd v))

theorem lo_run {w' : World} (h : ∀ a, St n l a → (execOp a.eval ⟨d?, op, ty, pos, af, g?⟩).run P w = .ok (.value v) w') (hp : Φ v w') : Lo P ⟨d?, op, ty, pos, af, g?⟩ n l w Φ := fun a ha K Q hK => by
  unfold Oper.wp; rw [h a ha]; exact hK _ _ hp
theorem lo_skip {w' : World} (h : ∀ a, St n l a → (execOp a.eval ⟨d?, op, ty, pos, af, g?⟩).run P w = .ok .skip w') (hp : Φ undef w') : Lo P ⟨d?, op, ty, pos, af, g?⟩ n l w Φ := fun a ha K Q hK => by
  unfold Oper.wp; rw [h a ha]; exact hK _ _ hp
def callable (P : Program) (f : FuncId) : Bool := match P.funcs[f]? with
  | some fn => (fn.name != "runtime.NumGoroutine") && fn.body.isSome
  | none => false
theorem run_callFunc {f : FuncId} (h : callable P f = true) (args : Array Value) (w : World) : (callFunc f args).run P w = .ok (.enter f args) w := by
  unfold callable at h
  cases hf : P.funcs[f]? with
  | none => simp [hf] at h
  | some fn =>
    simp only [hf, Bool.and_eq_true, bne_iff_ne, ne_eq] at h
    obtain ⟨h1, h2⟩ := h
    obtain ⟨b, hb⟩ := Option.isSome_iff_exists.1 h2
    simp [callFunc, hf, h1, hb]
theorem lo_call {f : FuncId} {xs : List Operand} {vs : List Value} {ts : Array TypeId} (hf : callable P f = true) (hx : lkL l xs = some vs) (h : Ret P f vs.toArray w Φ) :
    Lo P ⟨d?, .call ⟨.value (.func f), xs.toArray, ts⟩, ty, pos, af, g?⟩ n l w Φ := fun a ha K Q hK => by
  have hrun : (execOp a.eval ⟨d?, .call ⟨.value (.func f), xs.toArray, ts⟩, ty, pos, af, g?⟩).run P w = .ok (.enter f vs.toArray) w := by
    unfold execOp
    have he : xs.toArray.map a.eval = vs.toArray := by rw [List.map_toArray, ha.evalL hx]
    simp only [resolve, Deferred.ofValue, Act.eval, invoke, Sem.run_bind, Sem.run_pure, Result.andThen_ok]
    rw [show (#[] ++ Array.map a.eval xs.toArray ++ #[]) = vs.toArray by rw [he]; simp]
    exact run_callFunc hf vs.toArray w
  unfold Oper.wp
  rw [hrun, Oper.upon_enter]
  refine Calls.mono h fun e w' ⟨v, he, hv⟩ => ?_
  subst he
  exact hK v w' hv

theorem lo_callE {f : FuncId} {xs : List Operand} {vs vs' : List Value} {ts : Array TypeId} (hf : callable P f = true) (hx : lkL l xs = some vs) (he : vs = vs') (h : Ret P f vs'.toArray w Φ) :
    Lo P ⟨d?, .call ⟨.value (.func f), xs.toArray, ts⟩, ty, pos, af, g?⟩ n l w Φ := lo_call hf hx (he ▸ h)

/-! ### new blocks -/
def zeroL (P : Program) (t : TypeId) : Option (List Value) := (P.info? t).bind fun i => i.zero.map fun v => v.cells.toList
/-- A new block. -/
structure New (w : World) (p : Nat) (L : List Value) (t : TypeId) (w' : World) : Prop where
  le : w.heap.size ≤ p
  kp : Kp No w w'
  bk : Bk w' p L t
theorem New.alloc (w : World) (L : List Value) (t : TypeId) : New w w.heap.size L t (w.alloc (.cells L.toArray t)) := ⟨Nat.le_refl _, (Kp.refl No w).alloc _, new_at w _⟩
theorem lo_alloc {t : TypeId} {L : List Value} (hz : zeroL P t = some L) : Lo P ⟨d?, .alloc t, ty, pos, af, g?⟩ n l w (fun v w' => ∃ p, v = .pointer (some ⟨p, 0, none⟩) ∧ New w p L t w') := by
  unfold zeroL at hz
  cases hi : P.info? t with
  | none => simp [hi] at hz
  | some i =>
    cases hzz : i.zero with
    | none => simp [hi, hzz] at hz
    | some z =>
      simp [hi, hzz] at hz
      subst hz
      refine lo_run (v := .pointer (some ⟨w.heap.size, 0, none⟩)) (w' := w.alloc (.cells z.cells.toList.toArray t)) (fun a ha => ?_) ⟨_, rfl, New.alloc w _ t⟩
      unfold execOp
      simp [Instr.alloc, zeroValue, typeInfo, hi, hzz, newVar, newRow]
theorem lo_box {t : TypeId} {x : Operand} {v : Value} {L : List Value} (hx : lk l x = some v) (hL : v.cells = L.toArray) : Lo P ⟨d?, .box t x, ty, pos, af, g?⟩ n l w (fun v w' => ∃ p, v = .pointer (some ⟨p, 0, none⟩) ∧ New w p L t w') := by
  refine lo_run (v := .pointer (some ⟨w.heap.size, 0, none⟩)) (w' := w.alloc (.cells L.toArray t)) (fun a ha => ?_) ⟨_, rfl, New.alloc w _ t⟩
  unfold execOp
  simp [Instr.box, ha.eval hx, newVar, newRow, hL]
theorem lo_make {t e : TypeId} {x y : Operand} {z : Value} {bytes ln cp : Nat} {k k' : IntKind} {i j : Int} (ht : P.underlying t = some (.slice e)) (hinfo : (P.info? e).map (fun i => (i.zero, i.size, i.bytes)) = some (some z, 1, bytes)) (hz1 : z.cells = #[z])
    (hx : lk l x = some (.int k i)) (hi : i = (ln : Int)) (hy : lk l y = some (.int k' j)) (hj : j = (cp : Int)) (h1 : ln ≤ cp) (hb : bytes * cp ≤ 281474976710656) (h63 : cp ≤ 9223372036854775807) :
    Lo P ⟨d?, .makeSlice t x y, ty, pos, af, g?⟩ n l w (fun v w' => ∃ p, v = .slice (some ⟨p, 0, none⟩) ln cp ∧ New w p (List.replicate cp z) e w') := by
  subst hi hj
  obtain ⟨ie, hie, hzz⟩ := Option.map_eq_some_iff.1 hinfo
  simp only [Prod.mk.injEq] at hzz
  obtain ⟨hz, hs, hbb⟩ := hzz
  have hb' : (ie.bytes : Int) * (cp : Int) ≤ 281474976710656 := by
    rw [hbb]
    have h : ((bytes * cp : Nat) : Int) ≤ 281474976710656 := by omega
    rwa [Int.natCast_mul] at h
  have hr := run_make (P := P) w t e ie z ht hie hz k k' (ln : Int) (cp : Int) (by omega) (by omega) hb' (by omega)
  have hm : madeCells z.cells (cp * ie.size) = (List.replicate cp z).toArray := by
    apply Array.ext'
    rw [hs, Nat.mul_one, hz1]
    unfold madeCells
    simp only [Array.toList_map, Array.toList_range, List.size_toArray, List.length_cons, List.length_nil]
    refine List.ext_getElem (by simp) (fun j h1 h2 => ?_)
    simp [Nat.mod_one]
  simp only [Int.toNat_natCast, hm] at hr
  refine lo_run (v := .slice (some ⟨w.heap.size, 0, none⟩) ln cp) (w' := w.alloc (.cells (List.replicate cp z).toArray e)) (fun a ha => ?_) ⟨_, rfl, New.alloc w _ e⟩
  unfold execOp
  simp only [ha.eval hx, ha.eval hy, Sem.run_bind, hr, Result.andThen_ok, Sem.run_pure]
/-- A slice literal. -/
def litL (P : Program) (e : TypeId) (len : Nat) (parts : List (Nat × Value)) : Option (List Value) := match P.info? e with
  | some i => match i.zero with
    | some z => if len * i.size > 2 ^ 24 then none else if len * i.size = 0 then none else (Instr.fill (fun j => some (j * i.size, i.size)) ((Array.range (len * i.size)).map (z.cells[· % z.cells.size]!)) parts).map Array.toList
    | none => none
  | none => none
def lkP (l : List (Nat × Value)) : List (Nat × Operand) → Option (List (Nat × Value))
  | [] => some []
  | (i, x) :: xs => match lk l x, lkP l xs with
    | some v, some vs => some ((i, v) :: vs)
    | _, _ => none
theorem St.evalP {a : Act} (h : St n l a) : ∀ {xs : List (Nat × Operand)} {vs : List (Nat × Value)}, lkP l xs = some vs → xs.map (fun (i, x) => (i, a.eval x)) = vs
  | [], vs, hx => Option.some.inj hx
  | (i, x) :: xs, vs, hx => by
    unfold lkP at hx
    cases h1 : lk l x with
    | none => simp [h1] at hx
    | some u =>
      cases h2 : lkP l xs with
      | none => simp [h1, h2] at hx
      | some us =>
        simp only [h1, h2, Option.some.injEq] at hx
        rw [← hx, List.map_cons, St.evalP h h2]
        show (i, a.eval x) :: us = _
        rw [h.eval h1]
theorem lo_buildSlice {t e : TypeId} {len : Nat} {xs : List (Nat × Operand)} {vs : List (Nat × Value)} {L : List Value} (hu : P.underlying t = some (.slice e)) (hx : lkP l xs = some vs) (hl : litL P e len vs = some L) :
    Lo P ⟨d?, .buildSlice t len xs.toArray, ty, pos, af, g?⟩ n l w (fun v w' => ∃ p, v = .slice (some ⟨p, 0, none⟩) len len ∧ New w p L e w') := by
  unfold litL at hl
  cases hi : P.info? e with
  | none => simp [hi] at hl
  | some i =>
    cases hz : i.zero with
    | none => simp [hi, hz] at hl
    | some z =>
      simp only [hi, hz] at hl
      split at hl
      · cases hl
      · split at hl
        · cases hl
        · rename_i h1 h2
          obtain ⟨cells, hc, rfl⟩ := Option.map_eq_some_iff.1 hl
          refine lo_run (v := .slice (some ⟨w.heap.size, 0, none⟩) len len) (w' := w.alloc (.cells cells.toList.toArray e)) (fun a ha => ?_) ⟨_, rfl, New.alloc w _ e⟩
          have he : (xs.toArray.map fun (i, x) => (i, a.eval x)).toList = vs := by rw [List.map_toArray]; exact ha.evalP hx
          unfold execOp
          simp only [Sem.run_bind, run_buildSlice w t e len _ cells i z hu hi hz h1 h2 (by rw [he]; exact hc), Result.andThen_ok, Array.toArray_toList, Sem.run_pure]
theorem pu_build {t : TypeId} {xs : List (Nat × Operand)} {vs : List (Nat × Value)} {L : List Value} (hx : lkP l xs = some vs) (hb : (P.built t vs).map Array.toList = some L) : Pu P (.build t xs.toArray) l w (.agg L.toArray) := fun n a ha d ty pos af g => by
  obtain ⟨cells, hc, rfl⟩ := Option.map_eq_some_iff.1 hb
  have he : (xs.toArray.map fun (i, x) => (i, a.eval x)).toList = vs := by rw [List.map_toArray]; exact ha.evalP hx
  unfold execOp
  simp only [Sem.run_bind, run_build w t _ cells (by rw [he]; exact hc), Result.andThen_ok, Array.toArray_toList, Sem.run_pure]

/-! ### stores -/
theorem Kp.rowed (w : World) (p : Nat) (C : Array Value) : Kp (On p) w (w.setRow p C) := (Kp.refl (On p) w).setRow (.inl rfl) C
theorem one_cells {v : Value} (h : v.oneCell' = true) : v.cells = #[v] := by cases v <;> first | rfl | cases h
theorem take_set_drop {α : Type} (L : List α) (o : Nat) (v : α) (h : o < L.length) : L.take o ++ [v] ++ L.drop (o + 1) = L.set o v := by
  rw [List.set_eq_take_append_cons_drop, if_pos h]; simp
theorem lo_storeCs {t t' : TypeId} {x y : Operand} {p o : Nat} {L C : List Value} {v : Value} (hB : Bk w p L t') (hs : sizeB P t C.length = true) (hx : lk l x = some (.pointer (some ⟨p, o, none⟩))) (hy : lk l y = some v) (hv : v.cells = C.toArray)
    (h1 : ∀ u ∈ C, u.oneCell' = true) (ho : o + C.length ≤ L.length) : Lo P ⟨d?, .store t x y, ty, pos, af, g?⟩ n l w (fun v w' => Kp (On p) w w' ∧ Bk w' p (L.take o ++ C ++ L.drop (o + C.length)) t') := by
  have hst := run_storeCells_at (P := P) p o t' C 0 L.toArray w hB (by simpa using ho) h1
  simp only [Nat.add_zero, List.toList_toArray] at hst
  refine lo_skip (w' := w.setRow p (L.take o ++ C ++ L.drop (o + C.length)).toArray) (fun a ha => ?_) ⟨Kp.rowed _ _ _, setRow_heap w p _ _ t' _ hB⟩
  unfold execOp
  simp only [ha.eval hx, ha.eval hy, Instr.storeAt, Instr.sureAddr, Sem.run_bind, Sem.run_pure, Result.andThen_ok, storeVar, sizeB_run hs, hv, List.size_toArray]
  simp [hst]
theorem lo_store {t t' : TypeId} {x y : Operand} {p o : Nat} {L : List Value} {v : Value} (hB : Bk w p L t') (hs : sizeB P t 1 = true) (hx : lk l x = some (.pointer (some ⟨p, o, none⟩))) (hy : lk l y = some v) (h1 : v.oneCell' = true) (ho : o < L.length) :
    Lo P ⟨d?, .store t x y, ty, pos, af, g?⟩ n l w (fun _ w' => Kp (On p) w w' ∧ Bk w' p (L.set o v) t') :=
  (lo_storeCs hB (C := [v]) hs hx hy (one_cells h1) (fun u hu => by rw [List.mem_singleton.1 hu]; exact h1) ho).mono fun _ _ h => ⟨h.1, by have := h.2; rw [show [v].length = 1 from rfl, take_set_drop L o v ho] at this; exact this⟩
theorem lo_storeRow {t t' : TypeId} {x y : Operand} {p : Nat} {L C : List Value} (hB : Bk w p L t') (hs : sizeB P t C.length = true) (hx : lk l x = some (.pointer (some ⟨p, 0, none⟩))) (hy : lk l y = some (.agg C.toArray)) (h1 : ∀ u ∈ C, u.oneCell' = true) (hl : C.length = L.length) :
    Lo P ⟨d?, .store t x y, ty, pos, af, g?⟩ n l w (fun _ w' => Kp (On p) w w' ∧ Bk w' p C t') :=
  (lo_storeCs hB hs hx hy rfl h1 (by omega)).mono fun _ _ h => ⟨h.1, by have := h.2; rw [Nat.zero_add, hl, List.drop_length, List.take_zero, List.append_nil, List.nil_append] at this; exact this⟩
end

/-! ### a region that draws its order -/
def Dw (P : Program) (ops : Array Oper) (Q : Exit → Act → World → Prop) (S : World → Prop) (fuel : Nat) (listed : Array Bool) (n : Nat) (l : List (Nat × Value)) (w : World) : Prop :=
  ∀ a, St n l a → S w → wpAnyH P .any ops Q S fuel listed a w
section
variable {P : Program} {Q : Exit → Act → World → Prop} {S : World → Prop} {n fuel : Nat} {listed : Array Bool} {l : List (Nat × Value)} {w : World} {ops : Array Oper} {op : Op} {v : Value} {d : Nat} {ty : TypeId} {pos : String} {af : Array Edge} {Φ : Value → World → Prop} {i : Nat}
theorem D_begin {id : Nat} (S : World → Prop) (fuel : Nat) (hf : ops.size = fuel) (hm : P.follows .mixedOrders = true) (hS : S w.drew) (h : ∀ w', Kp No w w' → S w' → Dw P ops Q S fuel (Array.replicate fuel false) n l w') : Cw P (.region id ops true) Q n l w := fun a ha => by
  subst hf
  exact wp_region_held_drew hm hS (fun hS' => h w.drew ((Kp.refl No w).drew) hS a ha hS)
theorem D_take (i : Nat) (hi : ops[i]? = some ⟨some d, op, ty, pos, af, none⟩) (hs : Region.noSelect ops = true) (hf : Region.free .any ops listed i = true) (hr : (Region.ready .any ops listed).contains i = true)
    (hQ : ∀ c a w, Q (.panic c) (a.put (some d) v) w → Q (.panic c) a w) (hd : Nat.blt d n = true) (hy : ∀ W, S W → Pu P op l W v) (h : Dw P ops Q S fuel (listed.setIfInBounds i true) n ((d, v) :: l) w) : Dw P ops Q S (fuel + 1) listed n l w := fun a ha hS =>
  wpAnyH_take hi hs hf hr hQ (.inl ⟨rfl, fun W hW => hy W hW n a ha _ _ _ _ _⟩) hS (h _ (ha.put hd v) hS)
theorem D_gtake {j dj : Nat} {want : Bool} (i : Nat) (hi : ops[i]? = some ⟨some d, op, ty, pos, af, some (j, want)⟩) (hj : (ops[j]?).bind (·.dst) = some dj) (hv : lkN l dj = some (.bool want)) (hs : Region.noSelect ops = true) (hf : Region.free .any ops listed i = true)
    (hr : (Region.ready .any ops listed).contains i = true) (hQ : ∀ c a w, Q (.panic c) (a.put (some d) v) w → Q (.panic c) a w) (hd : Nat.blt d n = true) (hy : ∀ W, S W → Pu P op l W v)
    (h : Dw P ops Q S fuel (listed.setIfInBounds i true) n ((d, v) :: l) w) : Dw P ops Q S (fuel + 1) listed n l w := fun a ha hS =>
  wpAnyH_take hi hs hf hr hQ (.inl ⟨by rw [wanted_of ha rfl hj hv]; cases want <;> rfl, fun W hW => hy W hW n a ha _ _ _ _ _⟩) hS (h _ (ha.put hd v) hS)
/-! The same, told shortly (wip/wg/mini.py). -/
theorem Dt (i : Nat) (hi : ops[i]? = some ⟨some d, op, ty, pos, af, none⟩) (hy : ∀ W, S W → Pu P op l W v) (h : Dw P ops Q S fuel (listed.setIfInBounds i true) n ((d, v) :: l) w) (hs : Region.noSelect ops = true := by kernel_rfl) (hf : Region.free .any ops listed i = true := by kernel_rfl) (hr : (Region.ready .any ops listed).contains i = true := by kernel_rfl)
    (hQ : ∀ c a w, Q (.panic c) (a.put (some d) v) w → Q (.panic c) a w := by exact fun _ _ _ h => h) (hd : Nat.blt d n = true := by rfl) : Dw P ops Q S (fuel + 1) listed n l w := D_take i hi hs hf hr hQ hd hy h
theorem Dg {j dj : Nat} {want : Bool} (i : Nat) (hi : ops[i]? = some ⟨some d, op, ty, pos, af, some (j, want)⟩) (hy : ∀ W, S W → Pu P op l W v) (h : Dw P ops Q S fuel (listed.setIfInBounds i true) n ((d, v) :: l) w) (hj : (ops[j]?).bind (·.dst) = some dj := by rfl) (hv : lkN l dj = some (.bool want) := by rfl) (hs : Region.noSelect ops = true := by kernel_rfl) (hf : Region.free .any ops listed i = true := by kernel_rfl)
    (hr : (Region.ready .any ops listed).contains i = true := by kernel_rfl) (hQ : ∀ c a w, Q (.panic c) (a.put (some d) v) w → Q (.panic c) a w := by exact fun _ _ _ h => h) (hd : Nat.blt d n = true := by rfl) : Dw P ops Q S (fuel + 1) listed n l w := D_gtake i hi hj hv hs hf hr hQ hd hy h
/-- One of those that may come up next. -/
def Nx (P : Program) (ops : Array Oper) (Q : Exit → Act → World → Prop) (S : World → Prop) (fuel : Nat) (listed : Array Bool) (n : Nat) (l : List (Nat × Value)) (w : World) (i : Nat) : Prop :=
  ∀ a, St n l a → wpOp P ops Q i (fun a' w' => S w' ∧ wpAnyH P .any ops Q S fuel (listed.setIfInBounds i true) a' w') a w
theorem D_any {rs : List Nat} (hr : Region.ready .any ops listed = rs) (hne : rs ≠ []) (h : ∀ i ∈ rs, Nx P ops Q S fuel listed n l w i) : Dw P ops Q S (fuel + 1) listed n l w := fun a ha _ => wpAnyH_all hr hne fun i hi => h i hi a ha
theorem D_one (i : Nat) (hr : Region.ready .any ops listed = [i]) (h : Nx P ops Q S fuel listed n l w i) : Dw P ops Q S (fuel + 1) listed n l w := D_any hr (by simp) fun j hj => by rw [List.mem_singleton.1 hj]; exact h
theorem D_two (i j : Nat) (hr : Region.ready .any ops listed = [i, j]) (h : Nx P ops Q S fuel listed n l w i) (h' : Nx P ops Q S fuel listed n l w j) : Dw P ops Q S (fuel + 1) listed n l w := D_any hr (by simp) fun k hk => by
  rcases List.mem_cons.1 hk with rfl | hk
  · exact h
  · rw [List.mem_singleton.1 hk]; exact h'
theorem D_three (i j k : Nat) (hr : Region.ready .any ops listed = [i, j, k]) (h : Nx P ops Q S fuel listed n l w i) (h' : Nx P ops Q S fuel listed n l w j) (h'' : Nx P ops Q S fuel listed n l w k) : Dw P ops Q S (fuel + 1) listed n l w := D_any hr (by simp) fun m hm => by
  rcases List.mem_cons.1 hm with rfl | hm
  · exact h
  · rcases List.mem_cons.1 hm with rfl | hm
    · exact h'
    · rw [List.mem_singleton.1 hm]; exact h''
theorem Nx_lo (hi : ops[i]? = some ⟨some d, op, ty, pos, af, none⟩) (h : Lo P ⟨some d, op, ty, pos, af, none⟩ n l w Φ) (hd : Nat.blt d n = true) (k : ∀ v w', Φ v w' → S w' ∧ Dw P ops Q S fuel (listed.setIfInBounds i true) n ((d, v) :: l) w') : Nx P ops Q S fuel listed n l w i := fun a ha => by
  unfold wpOp
  rw [hi]
  exact .inl (h a ha _ _ fun v w' hv => ⟨(k v w' hv).1, (k v w' hv).2 _ (ha.put hd v) (k v w' hv).1⟩)
theorem Nx_lo0 (hi : ops[i]? = some ⟨none, op, ty, pos, af, none⟩) (h : Lo P ⟨none, op, ty, pos, af, none⟩ n l w Φ) (k : ∀ v w', Φ v w' → S w' ∧ Dw P ops Q S fuel (listed.setIfInBounds i true) n l w') : Nx P ops Q S fuel listed n l w i := fun a ha => by
  unfold wpOp
  rw [hi]
  exact .inl (h a ha _ _ fun v w' hv => ⟨(k v w' hv).1, (k v w' hv).2 _ ha (k v w' hv).1⟩)
theorem Nx_glo {j dj : Nat} {want : Bool} (hi : ops[i]? = some ⟨some d, op, ty, pos, af, some (j, want)⟩) (hj : (ops[j]?).bind (·.dst) = some dj) (hv : lkN l dj = some (.bool want)) (h : Lo P ⟨some d, op, ty, pos, af, some (j, want)⟩ n l w Φ) (hd : Nat.blt d n = true)
    (k : ∀ v w', Φ v w' → S w' ∧ Dw P ops Q S fuel (listed.setIfInBounds i true) n ((d, v) :: l) w') : Nx P ops Q S fuel listed n l w i := fun a ha => by
  unfold wpOp
  rw [hi]
  show if Region.wanted _ _ = true then _ else _
  rw [if_pos (by rw [wanted_of ha rfl hj hv]; cases want <;> rfl)]
  exact .inl (h a ha _ _ fun v w' hv => ⟨(k v w' hv).1, (k v w' hv).2 _ (ha.put hd v) (k v w' hv).1⟩)
/-- A pure operation that is met when it comes up. -/
theorem Nx_pu (hi : ops[i]? = some ⟨some d, op, ty, pos, af, none⟩) (h : Pu P op l w v) (hd : Nat.blt d n = true) (k : S w ∧ Dw P ops Q S fuel (listed.setIfInBounds i true) n ((d, v) :: l) w) : Nx P ops Q S fuel listed n l w i :=
  Nx_lo hi (Φ := fun u w' => u = v ∧ w' = w) (fun a ha K Q hK => by unfold Oper.wp; rw [h n a ha]; exact hK _ _ ⟨rfl, rfl⟩) hd (fun u w' hu => by rw [hu.1, hu.2]; exact k)
theorem Nx_gpu {j dj : Nat} {want : Bool} (hi : ops[i]? = some ⟨some d, op, ty, pos, af, some (j, want)⟩) (hj : (ops[j]?).bind (·.dst) = some dj) (hv : lkN l dj = some (.bool want)) (h : Pu P op l w v) (hd : Nat.blt d n = true) (k : S w ∧ Dw P ops Q S fuel (listed.setIfInBounds i true) n ((d, v) :: l) w) : Nx P ops Q S fuel listed n l w i :=
  Nx_glo hi hj hv (Φ := fun u w' => u = v ∧ w' = w) (fun a ha K Q hK => by unfold Oper.wp; rw [h n a ha]; exact hK _ _ ⟨rfl, rfl⟩) hd (fun u w' hu => by rw [hu.1, hu.2]; exact k)
theorem D_done (hr : Region.ready .any ops listed = []) (h : Xw Q .normal n l w) : Dw P ops Q S fuel listed n l w := fun a ha _ => wpAnyH_done hr (h a ha) fuel
end
section
variable {P : Program} {n : Nat} {l : List (Nat × Value)} {w : World} {fn : Func} {Φ : Value → World → Prop} {e : Exit} {t ty t' : Nat} {p len : Nat} {L : List Value}
theorem X_retRow (he : e = .ret ∨ e = .normal) (hf : fn.results = #[.cell t ty]) (hv : lkN l t = some (.pointer (some ⟨p, 0, none⟩))) (hB : Bk w p L t') (hr : isRowB P ty = true) (hs : sizeB P ty len = true) (hl : L.length = len) (h : Φ (.agg L.toArray) w) :
    Xw (bodyPost P fn (RetR Φ)) e n l w := X_end he _ (fun a ha => by
  obtain ⟨d, hu, hd⟩ := rowB_desc hr
  have hi := sizeB_info hs
  exact results_cell_row hf _ _ p t' L.toArray (0, 0) d (ha.tmp hv) hB hu (by cases d <;> simp_all) (by rw [hi, List.size_toArray, hl])) h
end
end Go.Proofs.YtlkbkgghfhoggaaGreatDoor
