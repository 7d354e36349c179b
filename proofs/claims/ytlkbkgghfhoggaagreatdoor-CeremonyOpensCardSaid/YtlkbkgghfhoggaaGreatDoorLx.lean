/- The walk by explicit steps: a frame as a list of slots that are known, a world as a letter with facts beside it. -/
import Derived.Test.YtlkbkgghfhoggaaGreatDoorRk2
import Derived.Deep.RegionHeld
import Derived.Laws.Rows
import Derived.Laws.CopyRow
set_option linter.unusedVariables false
set_option linter.unusedSimpArgs false
namespace Go.Proofs.YtlkbkgghfhoggaaGreatDoor
open Go.RowKit

/-! ### what is known of a frame -/
def lkN : List (Nat × Value) → Nat → Option Value
  | [], _ => none
  | (k, v) :: r, t => bif Nat.beq k t then some v else lkN r t
def lk (l : List (Nat × Value)) : Operand → Option Value
  | .tmp t => lkN l t
  | .const v => some v
  | .global g => some (.pointer (some ⟨g, 0, none⟩))
  | .func f => some (.func (.func f) #[] #[])
def lkL (l : List (Nat × Value)) : List Operand → Option (List Value)
  | [] => some []
  | x :: xs => match lk l x, lkL l xs with
    | some v, some vs => some (v :: vs)
    | _, _ => none
def Sub (l' l : List (Nat × Value)) : Prop := ∀ t v, lkN l' t = some v → lkN l t = some v
structure St (n : Nat) (l : List (Nat × Value)) (a : Act) : Prop where
  size : n ≤ a.tmps.size
  defers : a.defers = []
  slot : ∀ t v, lkN l t = some v → a.tmps[t]? = some v
theorem lkN_cons (k t : Nat) (v : Value) (r : List (Nat × Value)) : lkN ((k, v) :: r) t = if k = t then some v else lkN r t := by
  by_cases h : k = t
  · subst h; simp [lkN]
  · have : Nat.beq k t = false := by rw [← Bool.not_eq_true]; intro hc; exact h (Nat.eq_of_beq_eq_true hc)
    simp [lkN, this, h]
theorem Sub.refl (l : List (Nat × Value)) : Sub l l := fun _ _ h => h
theorem Sub.nil (l : List (Nat × Value)) : Sub [] l := fun _ _ h => by simp [lkN] at h
theorem Sub.cons {l' l : List (Nat × Value)} {t : Nat} {v : Value} (h : lkN l t = some v) (r : Sub l' l) : Sub ((t, v) :: l') l := fun u x hx => by
  rw [lkN_cons] at hx
  split at hx
  · rename_i e; subst e; injection hx with e; rw [← e]; exact h
  · exact r u x hx
theorem Sub.consE {l' l : List (Nat × Value)} {t : Nat} {v u : Value} (h : lkN l t = some v) (e : v = u) (r : Sub l' l) : Sub ((t, u) :: l') l := Sub.cons (e ▸ h) r
section
variable {n : Nat} {l l' : List (Nat × Value)} {a : Act} {v : Value}
theorem St.sub (h : St n l a) (hs : Sub l' l) : St n l' a := ⟨h.size, h.defers, fun t v hv => h.slot t v (hs t v hv)⟩
theorem St.tmp (h : St n l a) {t : Nat} (hx : lkN l t = some v) : a.tmps.getD t undef = v := by
  rw [Array.getD_eq_getD_getElem?, h.slot t v hx]; rfl
theorem St.eval (h : St n l a) {x : Operand} (hx : lk l x = some v) : a.eval x = v := by
  cases x with
  | tmp t => exact h.tmp hx
  | const u => injection hx
  | global g => injection hx
  | func f => injection hx
theorem St.evalL (h : St n l a) : ∀ {xs : List Operand} {vs : List Value}, lkL l xs = some vs → xs.map a.eval = vs
  | [], vs, hx => Option.some.inj hx
  | x :: xs, vs, hx => by
    unfold lkL at hx
    cases h1 : lk l x with
    | none => simp [h1] at hx
    | some u =>
      cases h2 : lkL l xs with
      | none => simp [h1, h2] at hx
      | some us =>
        simp only [h1, h2, Option.some.injEq] at hx
        rw [← hx, List.map_cons, h.eval h1, St.evalL h h2]
theorem St.put (h : St n l a) {d : Nat} (hd : Nat.blt d n = true) (v : Value) : St n ((d, v) :: l) (a.put (some d) v) := by
  have hd' : d < a.tmps.size := by have := h.size; simp at hd; omega
  refine ⟨by simpa [Act.put] using h.size, h.defers, fun t u hu => ?_⟩
  rw [lkN_cons] at hu
  simp only [Act.put]
  split at hu
  · rename_i e; subst e; rw [Array.getElem?_setIfInBounds_self_of_lt hd']; exact hu
  · rename_i e; rw [Array.getElem?_setIfInBounds_ne e]; exact h.slot t u hu
end

/-! ### code -/
def Cw (P : Program) (c : Code) (Q : Exit → Act → World → Prop) (n : Nat) (l : List (Nat × Value)) (w : World) : Prop := ∀ a, St n l a → c.wp P Q a w
def Xw (Q : Exit → Act → World → Prop) (e : Exit) (n : Nat) (l : List (Nat × Value)) (w : World) : Prop := ∀ a, St n l a → Q e a w
def Rw (P : Program) (ops : Array Oper) (Q : Exit → Act → World → Prop) (rest : List Oper) (n : Nat) (l : List (Nat × Value)) (w : World) : Prop := ∀ a, St n l a → wpList P ops Q rest a w
/-- A call returns a value of which Φ holds. -/
def RetR (Φ : Value → World → Prop) (e : Ending) (w : World) : Prop := ∃ v, e = .returned v ∧ Φ v w
def Ret (P : Program) (f : FuncId) (args : Array Value) (w : World) (Φ : Value → World → Prop) : Prop := Calls P f args w (RetR Φ)
section
variable {P : Program} {Q Q0 : Exit → Act → World → Prop} {n : Nat} {l l' : List (Nat × Value)} {w : World} {x y c : Code} {K : Act → World → Prop}
theorem Ret.mono {f : FuncId} {args : Array Value} {Φ Ψ : Value → World → Prop} (h : Ret P f args w Φ) (hr : ∀ v w', Φ v w' → Ψ v w') : Ret P f args w Ψ :=
  Calls.mono h fun _ _ ⟨v, e, hv⟩ => ⟨v, e, hr _ _ hv⟩
theorem Ret.of_calls {f : FuncId} {args : Array Value} {R : Ending → World → Prop} {Φ : Value → World → Prop} (h : Calls P f args w R) (hr : ∀ e w', R e w' → ∃ v, e = .returned v ∧ Φ v w') : Ret P f args w Φ :=
  Calls.mono h hr
theorem Ret.calls {f : FuncId} {args : Array Value} {R : Ending → World → Prop} {Φ : Value → World → Prop} (h : Ret P f args w Φ) (hr : ∀ v w', Φ v w' → R (.returned v) w') : Calls P f args w R :=
  Calls.mono h fun e w' ⟨v, he, hv⟩ => he ▸ hr v w' hv
theorem C_seq (h : ∀ K : Act → World → Prop, (∀ n l w, Cw P y Q n l w → ∀ a, St n l a → K a w) → Cw P x (Exit.then K Q) n l w) : Cw P (.seq x y) Q n l w := fun a ha =>
  wp_seq_k fun K hK => h K (fun n l w hc a ha => hK _ _ (hc a ha)) a ha
theorem C_skip (h : Xw Q .normal n l w) : Cw P .skip Q n l w := fun a ha => wp_skip (h a ha)
theorem C_exit {id : Nat} (h : Xw Q (.exit id) n l w) : Cw P (.exit id) Q n l w := fun a ha => wp_exit (h a ha)
theorem C_ret (h : Xw Q .ret n l w) : Cw P .ret Q n l w := fun a ha => wp_ret (h a ha)
theorem C_block {id : Nat} (h : Cw P c (Exit.inBlock id Q) n l w) : Cw P (.block id c) Q n l w := fun a ha => wp_block (h a ha)
theorem C_true {o : Operand} (ho : lk l o = some (.bool true)) (h : Cw P x Q n l w) : Cw P (.cond o x y) Q n l w := fun a ha => wp_cond_true (ha.eval ho) (h a ha)
theorem C_false {o : Operand} (ho : lk l o = some (.bool false)) (h : Cw P y Q n l w) : Cw P (.cond o x y) Q n l w := fun a ha => wp_cond_false (ha.eval ho) (h a ha)
theorem C_cond {o : Operand} {b : Bool} (ho : lk l o = some (.bool b)) (ht : b = true → Cw P x Q n l w) (hf : b = false → Cw P y Q n l w) : Cw P (.cond o x y) Q n l w := fun a ha =>
  wp_cond_split (ha.eval ho) (fun h => ht h a ha) (fun h => hf h a ha)
theorem C_dec {o : Operand} {p : Prop} [Decidable p] (ho : lk l o = some (.bool (decide p))) (ht : p → Cw P x Q n l w) (hf : ¬ p → Cw P y Q n l w) : Cw P (.cond o x y) Q n l w :=
  C_cond ho (fun h => ht (of_decide_eq_true h)) (fun h => hf (of_decide_eq_false h))
theorem C_dect {o : Operand} {p : Prop} [Decidable p] (ho : lk l o = some (.bool (decide p))) (hp : p) (ht : Cw P x Q n l w) : Cw P (.cond o x y) Q n l w :=
  C_true (by rw [ho, decide_eq_true hp]) ht
theorem C_decf {o : Operand} {p : Prop} [Decidable p] (ho : lk l o = some (.bool (decide p))) (hp : ¬ p) (hf : Cw P y Q n l w) : Cw P (.cond o x y) Q n l w :=
  C_false (by rw [ho, decide_eq_false hp]) hf
theorem C_region {id : Nat} {os : List Oper} (h : Rw P os.toArray Q os n l w) : Cw P (.region id os.toArray false) Q n l w := fun a ha => wp_region_lit (h a ha)
theorem X_then (hK : ∀ n l w, Cw P y Q n l w → ∀ a, St n l a → K a w) (h : Cw P y Q n l w) : Xw (Exit.then K Q0) .normal n l w := fun a ha => hK _ _ _ h a ha
theorem X_then_exit {id : Nat} (h : Xw Q (.exit id) n l w) : Xw (Exit.then K Q) (.exit id) n l w := h
theorem X_then_ret (h : Xw Q .ret n l w) : Xw (Exit.then K Q) .ret n l w := h
theorem X_in_ret {id : Nat} (h : Xw Q .ret n l w) : Xw (Exit.inBlock id Q) .ret n l w := h
theorem X_in_normal {id : Nat} (h : Xw Q .normal n l w) : Xw (Exit.inBlock id Q) .normal n l w := h
theorem X_in_eq {id : Nat} (h : Xw Q .normal n l w) : Xw (Exit.inBlock id Q) (.exit id) n l w := fun a ha => by simp only [Exit.inBlock, if_true]; exact h a ha

/-! ### rounds -/
/-- What a round must come to. -/
def Again (I : Nat → List (Nat × Value) → World → Prop) (n m : Nat) (a : Act) (w : World) : Prop := ∃ m' l', m' < m ∧ St n l' a ∧ I m' l' w
theorem least {p : Nat → Prop} (h : ∃ m, p m) : ∃ m, p m ∧ ∀ k, p k → m ≤ k := by
  obtain ⟨m, hm⟩ := h
  induction m using Nat.strongRecOn with
  | _ m ih =>
    by_cases hc : ∃ k, k < m ∧ p k
    · obtain ⟨k, hk, hp⟩ := hc; exact ih k hk hp
    · exact ⟨m, hm, fun k hp => by
        rcases Nat.lt_or_ge k m with h | h
        · exact absurd ⟨k, h, hp⟩ hc
        · exact h⟩
theorem C_loop (I : Nat → List (Nat × Value) → World → Prop) (m : Nat) (l0 : List (Nat × Value)) (hs : Sub l0 l) (h0 : I m l0 w)
    (round : ∀ m l w, I m l w → Cw P c (Exit.then (Again I n m) Q) n l w) : Cw P (.loop c) Q n l w := fun a ha => by
  classical
  refine wp_loop (fun a w => ∃ m l, St n l a ∧ I m l w) (fun a w => if h : ∃ m l, St n l a ∧ I m l w then Classical.choose (least h) else 0) ⟨m, l0, ha.sub hs, h0⟩ (fun a w h => ?_)
  obtain ⟨⟨l1, hl1, hI1⟩, hmin⟩ := Classical.choose_spec (least h)
  refine wp_mono (round _ _ _ hI1 a hl1) (fun e a' w' hq => ?_)
  cases e with
  | normal =>
    obtain ⟨m', l', hlt, hst, hI⟩ := hq
    have hex : ∃ m l, St n l a' ∧ I m l w' := ⟨m', l', hst, hI⟩
    refine ⟨hex, ?_⟩
    simp only [dif_pos hex, dif_pos h]
    exact Nat.lt_of_le_of_lt ((Classical.choose_spec (least hex)).2 m' ⟨l', hst, hI⟩) hlt
  | _ => exact hq
theorem X_round {I : Nat → List (Nat × Value) → World → Prop} {m : Nat} (m' : Nat) (l0 : List (Nat × Value)) (hm : m' < m) (hs : Sub l0 l) (hI : I m' l0 w) : Xw (Exit.then (Again I n m) Q) .normal n l w :=
  fun a ha => ⟨m', l0, hm, ha.sub hs, hI⟩

/-! ### a cut: what stands ahead of it comes to J, what stands behind it starts from J -/
theorem C_cut (J : List (Nat × Value) → World → Prop) (h1 : ∀ K : Act → World → Prop, (∀ l w a, J l w → St n l a → K a w) → Cw P x (Exit.then K Q) n l w) (h2 : ∀ l w, J l w → Cw P y Q n l w) : Cw P (.seq x y) Q n l w :=
  C_seq fun K hK => h1 K fun l w a hJ ha => hK n l w (h2 l w hJ) a ha
theorem X_cut {J : List (Nat × Value) → World → Prop} (hK : ∀ l w a, J l w → St n l a → K a w) (l0 : List (Nat × Value)) (hs : Sub l0 l) (hJ : J l0 w) : Xw (Exit.then K Q0) .normal n l w := fun a ha => hK l0 w a hJ (ha.sub hs)

theorem Xc {J : List (Nat × Value) → World → Prop} (hK : ∀ l w a, J l w → St n l a → K a w) {l0 : List (Nat × Value)} (hJ : J l0 w) (hs : Sub l0 l) : Xw (Exit.then K Q0) .normal n l w := X_cut hK l0 hs hJ
/-! ### begin and end of a function -/
def argsOf : Nat → List Value → List (Nat × Value)
  | _, [] => []
  | i, v :: vs => (i, v) :: argsOf (i + 1) vs
theorem lkN_argsOf : ∀ (vs : List Value) (i t : Nat) (v : Value), lkN (argsOf i vs) t = some v → i ≤ t ∧ vs[t - i]? = some v
  | [], i, t, v, h => by simp [argsOf, lkN] at h
  | u :: vs, i, t, v, h => by
    rw [argsOf, lkN_cons] at h
    split at h
    · rename_i e; subst e; simp; exact Option.some.inj h
    · rename_i e
      obtain ⟨h1, h2⟩ := lkN_argsOf vs (i + 1) t v h
      refine ⟨by omega, ?_⟩
      rw [show t - i = (t - (i + 1)) + 1 by omega]
      simpa using h2
theorem enter {f : FuncId} {fn : Func} {Φ : Value → World → Prop} (vs : List Value) (hf : P.funcs[f]? = some fn) (hb : fn.body = some c) (hn : fn.ntmps = n) (hs : Nat.ble vs.length n = true)
    (h : Cw P c (bodyPost P fn (RetR Φ)) n (argsOf 0 vs) w) : Ret P f vs.toArray w Φ := by
  refine calls_of_wp hf hb (h _ ⟨?_, rfl, fun t v hv => ?_⟩)
  · simp at hs; simp [hn]; omega
  · obtain ⟨_, h2⟩ := lkN_argsOf vs 0 t v hv
    simp only [Nat.sub_zero] at h2
    have hlt := (List.getElem?_eq_some_iff.1 h2).1
    have h3 : vs[t] = v := by rw [List.getElem?_eq_getElem hlt] at h2; exact Option.some.inj h2
    simp [Array.getElem?_append, hlt, h3]
theorem X_end {e : Exit} {fn : Func} {Φ : Value → World → Prop} (he : e = .ret ∨ e = .normal) (v : Value) (hr : ∀ a, St n l a → (results fn a.tmps).run P w = .ok v w) (h : Φ v w) : Xw (bodyPost P fn (RetR Φ)) e n l w := fun a ha => by
  rcases he with rfl | rfl <;> exact ⟨ha.defers, v, hr a ha, v, rfl, h⟩
theorem X_ret0 {e : Exit} {fn : Func} {Φ : Value → World → Prop} (he : e = .ret ∨ e = .normal) (hf : fn.results = #[]) (h : Φ (.tuple #[]) w) : Xw (bodyPost P fn (RetR Φ)) e n l w :=
  X_end he _ (fun a ha => results_none hf _ _ _) h
theorem X_ret1 {e : Exit} {fn : Func} {Φ : Value → World → Prop} (he : e = .ret ∨ e = .normal) {t : Nat} {v : Value} (hf : fn.results = #[.tmp t]) (hv : lkN l t = some v) (h : Φ v w) : Xw (bodyPost P fn (RetR Φ)) e n l w :=
  X_end he v (fun a ha => by rw [results_tmp hf, ha.tmp hv]) h
theorem X_ret2 {e : Exit} {fn : Func} {Φ : Value → World → Prop} (he : e = .ret ∨ e = .normal) {t u : Nat} {v v' : Value} (hf : fn.results = #[.tmp t, .tmp u]) (hv : lkN l t = some v) (hv' : lkN l u = some v') (h : Φ (.tuple #[v, v']) w) :
    Xw (bodyPost P fn (RetR Φ)) e n l w :=
  X_end he _ (fun a ha => by rw [results_tmp2 hf, ha.tmp hv, ha.tmp hv']) h
end
end Go.Proofs.YtlkbkgghfhoggaaGreatDoor
