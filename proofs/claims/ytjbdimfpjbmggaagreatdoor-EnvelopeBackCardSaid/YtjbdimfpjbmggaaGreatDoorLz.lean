/- A region that draws its order and ends in one store (number z) which waits for what was read: the blocks that are read may be held till it comes. -/
import Derived.Test.YtjbdimfpjbmggaaGreatDoorLo
set_option linter.unusedVariables false
set_option linter.unusedSimpArgs false
namespace Go.Proofs.YtjbdimfpjbmggaaGreatDoor
open Go.RowKit
section
variable {P : Program} {ops : Array Oper} {Q : Exit → Act → World → Prop} {S : World → Prop} {z : Nat}
/-- Whatever order is picked: S holds as long as z has not come up. -/
def Zw (P : Program) (ops : Array Oper) (Q : Exit → Act → World → Prop) (S : World → Prop) (z : Nat) : Nat → Array Bool → Act → World → Prop
  | 0, ls, a, w => Region.ready .any ops ls = [] ∧ Q .normal a w
  | fuel + 1, ls, a, w => (Region.ready .any ops ls = [] → Q .normal a w) ∧
    ∀ i ∈ Region.ready .any ops ls, wpOp P ops Q i (fun a' w' => ((ls.setIfInBounds i true).getD z false = false → S w') ∧ Zw P ops Q S z fuel (ls.setIfInBounds i true) a' w') a w
theorem Zw.any : ∀ (fuel : Nat) (ls : Array Bool) (a : Act) (w : World), Zw P ops Q S z fuel ls a w → wpAny P .any ops Q fuel ls a w
  | 0, _, _, _, h => h
  | fuel + 1, _, _, _, h => ⟨h.1, fun i hi => wpOp_mono (fun a' w' h' => Zw.any fuel _ a' w' h'.2) (h.2 i hi)⟩
/-- z waits for i. -/
def waits (ops : Array Oper) (z i : Nat) : Bool := !(Nat.beq i z) && (ops[z]?).any fun o => o.after.toList.any fun e => Region.binds .any e && Nat.beq e.on i
theorem Zw.first {i : Nat} {oi : Oper} {v : Value} (hi : ops[i]? = some oi) (hsel : ∀ (j : Nat) (o : Oper) cs b, ops[j]? = some o → o.op ≠ .select cs b)
    (hQ : ∀ c a w, Q (.panic c) (a.put oi.dst v) w → Q (.panic c) a w) (hiz : i ≠ z) (hz : ∃ oz, ops[z]? = some oz ∧ ∃ e ∈ oz.after, Region.binds .any e = true ∧ e.on = i) :
    ∀ (fuel : Nat) (ls : Array Bool) (a : Act) (w : World),
      (∀ j oj, ops[j]? = some oj → j ≠ i → ls.getD j true = false → (∀ e ∈ oj.after, Region.binds .any e = true → e.on ≠ i) → oi.apart ops oj = true) →
      i ∈ Region.ready .any ops ls → YieldsIf P ops S oi v a → ls.getD z false = false → S w →
      Zw P ops Q S z fuel (ls.setIfInBounds i true) (a.put oi.dst v) w → Zw P ops Q S z (fuel + 1) ls a w := by
  intro fuel
  induction fuel with
  | zero =>
    intro ls a w _ hr hy hl hS H
    refine ⟨fun h => (by rw [h] at hr; cases hr), fun j hj => ?_⟩
    by_cases hji : j = i
    · subst hji; exact hy.wpOp hi hS ⟨fun _ => hS, H⟩
    · have := ready_mono hj hji
      rw [H.1] at this
      cases this
  | succ fuel ih =>
    intro ls a w hfree hr hy hl hS H
    refine ⟨fun h => (by rw [h] at hr; cases hr), fun j hj => ?_⟩
    by_cases hji : j = i
    · subst hji; exact hy.wpOp hi hS ⟨fun _ => hS, H⟩
    · have h1 := H.2 j (ready_mono hj hji)
      obtain ⟨hjun, oj, hoj, hall⟩ := mem_ready.1 hj
      have hnot : ∀ e ∈ oj.after, Region.binds .any e = true → e.on ≠ i := fun e he hb heq => by
        have h1 := hall e he hb
        have h0 := (mem_ready.1 hr).1
        rw [heq] at h1
        rcases Nat.lt_or_ge i ls.size with h' | h'
        · simp [h'] at h0 h1; rw [h0] at h1; cases h1
        · simp [Array.getElem?_eq_none h'] at h1
      have hjz : j ≠ z := fun e => by
        obtain ⟨oz, ho, x, hx, hb, hon⟩ := hz
        rw [e, ho] at hoj
        cases hoj
        exact hnot x hx hb hon
      have h2 := wpOp_putIf hoj (hfree j oj hoj hji hjun hnot) (fun cs b => hsel i oi cs b hi) (fun cs b => hsel j oj cs b hoj) hQ hy h1
      have hfree' : ∀ k ok, ops[k]? = some ok → k ≠ i → (ls.setIfInBounds j true).getD k true = false →
          (∀ e ∈ ok.after, Region.binds .any e = true → e.on ≠ i) → oi.apart ops ok = true := fun k ok hk hki hun hno => by
        refine hfree k ok hk hki ?_ hno
        by_cases hjk : j = k
        · subst hjk; exact hjun
        · rw [getD_set_ne true hjk] at hun; exact hun
      have hl' : (ls.setIfInBounds j true).getD z false = false := by rw [getD_set_ne false hjz]; exact hl
      refine wpOp_mono (fun a' w' h3 => ?_) h2
      have hS' : S w' := h3.2.1 (by rw [Array.setIfInBounds_comm _ _ (Ne.symm hji), getD_set_ne false hiz]; exact hl')
      refine ⟨fun _ => hS', ih (ls.setIfInBounds j true) a' w' hfree' (ready_mono hr (Ne.symm hji)) h3.1 hl' hS' ?_⟩
      rw [Array.setIfInBounds_comm _ _ hji]
      exact h3.2.2
theorem Zw.take {i : Nat} {oi : Oper} {v : Value} {fuel : Nat} {ls : Array Bool} {a : Act} {w : World} (hi : ops[i]? = some oi)
    (hs : Region.noSelect ops = true) (hf : Region.free .any ops ls i = true) (hr : (Region.ready .any ops ls).contains i = true) (hz : waits ops z i = true) (hl : ls.getD z false = false)
    (hQ : ∀ c a w, Q (.panic c) (a.put oi.dst v) w → Q (.panic c) a w) (hy : YieldsIf P ops S oi v a) (hS : S w)
    (h : Zw P ops Q S z fuel (ls.setIfInBounds i true) (a.put oi.dst v) w) : Zw P ops Q S z (fuel + 1) ls a w := by
  unfold waits at hz
  rw [Bool.and_eq_true] at hz
  refine Zw.first hi (Region.noSelect_spec hs) hQ ?_ ?_ fuel ls a w (Region.free_spec hi hf) (by simpa using hr) hy hl hS h
  · intro e; rw [e] at hz; simp at hz
  · cases ho : ops[z]? with
    | none => rw [ho] at hz; simp at hz
    | some oz =>
      rw [ho] at hz
      obtain ⟨e, he, hb⟩ := List.any_eq_true.1 (by simpa using hz.2 : oz.after.toList.any (fun e => Region.binds .any e && Nat.beq e.on i) = true)
      rw [Bool.and_eq_true] at hb
      exact ⟨oz, rfl, e, by simpa using he, hb.1, Nat.eq_of_beq_eq_true hb.2⟩
theorem Zw.done {ls : Array Bool} {a : Act} {w : World} (hr : Region.ready .any ops ls = []) (h : Q .normal a w) : ∀ fuel, Zw P ops Q S z fuel ls a w
  | 0 => ⟨hr, h⟩
  | _ + 1 => ⟨fun _ => h, by rw [hr]; simp⟩
end
def Zd (P : Program) (ops : Array Oper) (Q : Exit → Act → World → Prop) (S : World → Prop) (z fuel : Nat) (ls : Array Bool) (n : Nat) (l : List (Nat × Value)) (w : World) : Prop :=
  ∀ a, St n l a → S w → Zw P ops Q S z fuel ls a w
section
variable {P : Program} {Q : Exit → Act → World → Prop} {S : World → Prop} {n fuel z : Nat} {ls : Array Bool} {l : List (Nat × Value)} {w : World} {ops : Array Oper} {op : Op} {v : Value} {d : Nat} {ty : TypeId} {pos : String} {af : Array Edge} {Φ : Value → World → Prop} {i : Nat}
theorem Z_begin {id : Nat} (S : World → Prop) (z fuel : Nat) (hf : ops.size = fuel) (hm : P.follows .mixedOrders = true) (hS : S w.drew) (h : ∀ w', Kp No w w' → S w' → Zd P ops Q S z fuel (Array.replicate fuel false) n l w') : Cw P (.region id ops true) Q n l w := fun a ha => by
  subst hf
  exact wp_region_any hm (Zw.any _ _ _ _ (h w.drew ((Kp.refl No w).drew) hS a ha hS))
theorem Z_take (i : Nat) (hi : ops[i]? = some ⟨some d, op, ty, pos, af, none⟩) (hs : Region.noSelect ops = true) (hf : Region.free .any ops ls i = true) (hr : (Region.ready .any ops ls).contains i = true) (hz : waits ops z i = true) (hl : ls.getD z false = false)
    (hQ : ∀ c a w, Q (.panic c) (a.put (some d) v) w → Q (.panic c) a w) (hd : Nat.blt d n = true) (hy : ∀ W, S W → Pu P op l W v) (h : Zd P ops Q S z fuel (ls.setIfInBounds i true) n ((d, v) :: l) w) : Zd P ops Q S z (fuel + 1) ls n l w := fun a ha hS =>
  Zw.take hi hs hf hr hz hl hQ (.inl ⟨rfl, fun W hW => hy W hW n a ha _ _ _ _ _⟩) hS (h _ (ha.put hd v) hS)
/-- One of those that may come up next. -/
def Nz (P : Program) (ops : Array Oper) (Q : Exit → Act → World → Prop) (S : World → Prop) (z fuel : Nat) (ls : Array Bool) (n : Nat) (l : List (Nat × Value)) (w : World) (i : Nat) : Prop :=
  ∀ a, St n l a → wpOp P ops Q i (fun a' w' => ((ls.setIfInBounds i true).getD z false = false → S w') ∧ Zw P ops Q S z fuel (ls.setIfInBounds i true) a' w') a w
theorem Z_any {rs : List Nat} (hr : Region.ready .any ops ls = rs) (hne : rs ≠ []) (h : ∀ i ∈ rs, Nz P ops Q S z fuel ls n l w i) : Zd P ops Q S z (fuel + 1) ls n l w := fun a ha _ =>
  ⟨fun h0 => absurd (hr ▸ h0) hne, fun i hi => h i (hr ▸ hi) a ha⟩
theorem Z_one (i : Nat) (hr : Region.ready .any ops ls = [i]) (h : Nz P ops Q S z fuel ls n l w i) : Zd P ops Q S z (fuel + 1) ls n l w := Z_any hr (by simp) fun j hj => by rw [List.mem_singleton.1 hj]; exact h
theorem Z_two (i j : Nat) (hr : Region.ready .any ops ls = [i, j]) (h : Nz P ops Q S z fuel ls n l w i) (h' : Nz P ops Q S z fuel ls n l w j) : Zd P ops Q S z (fuel + 1) ls n l w := Z_any hr (by simp) fun k hk => by
  rcases List.mem_cons.1 hk with rfl | hk
  · exact h
  · rw [List.mem_singleton.1 hk]; exact h'
theorem Nz_lo (hi : ops[i]? = some ⟨some d, op, ty, pos, af, none⟩) (h : Lo P ⟨some d, op, ty, pos, af, none⟩ n l w Φ) (hd : Nat.blt d n = true) (k : ∀ v w', Φ v w' → S w' ∧ Zd P ops Q S z fuel (ls.setIfInBounds i true) n ((d, v) :: l) w') : Nz P ops Q S z fuel ls n l w i := fun a ha => by
  unfold wpOp
  rw [hi]
  exact .inl (h a ha _ _ fun v w' hv => ⟨fun _ => (k v w' hv).1, (k v w' hv).2 _ (ha.put hd v) (k v w' hv).1⟩)
theorem Nz_lo0 (hi : ops[i]? = some ⟨none, op, ty, pos, af, none⟩) (h : Lo P ⟨none, op, ty, pos, af, none⟩ n l w Φ) (k : ∀ v w', Φ v w' → S w' ∧ Zd P ops Q S z fuel (ls.setIfInBounds i true) n l w') : Nz P ops Q S z fuel ls n l w i := fun a ha => by
  unfold wpOp
  rw [hi]
  exact .inl (h a ha _ _ fun v w' hv => ⟨fun _ => (k v w' hv).1, (k v w' hv).2 _ ha (k v w' hv).1⟩)
/-- z itself, the last of all. -/
theorem Z_last (z : Nat) (hr : Region.ready .any ops ls = [z]) (hi : ops[z]? = some ⟨none, op, ty, pos, af, none⟩) (hz : (ls.setIfInBounds z true).getD z false = true) (hr' : Region.ready .any ops (ls.setIfInBounds z true) = []) (h : Lo P ⟨none, op, ty, pos, af, none⟩ n l w Φ) (k : ∀ v w', Φ v w' → Xw Q .normal n l w') : Zd P ops Q S z (fuel + 1) ls n l w :=
  Z_one z hr fun a ha => by
    unfold wpOp
    rw [hi]
    exact .inl (h a ha _ _ fun v w' hv => ⟨fun e => (by rw [hz] at e; cases e), Zw.done hr' (k v w' hv a ha) _⟩)
end
end Go.Proofs.YtjbdimfpjbmggaaGreatDoor
