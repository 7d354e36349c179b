/- A region that draws its order and ends in one store (number z) which waits for what was read: the blocks that are read may be held till it comes. -/
import Derived.Test.YtlkbkgghfhoggaaGreatDoorKa
import Derived.Test.YtlkbkgghfhoggaaGreatDoorFt
import Derived.Test.YtlkbkgghfhoggaaGreatDoorLo
section
set_option linter.unusedVariables false
set_option linter.unusedSimpArgs false
namespace Go.Proofs.YtlkbkgghfhoggaaGreatDoor
open Go.RowKit
section
variable {P : Program} {n : Nat} {l : List (Nat × Value)} {w : World} {d? : Option Tmp} {ty : TypeId} {pos : String} {af : Array Edge} {g? : Option (Nat × Bool)} {x y z : Operand} {t e : TypeId} {p o len : Nat} {k : IntKind}
theorem not_nat {a : Nat} (h : a < 4294967296) : 4294967295 ^^^ a = 4294967295 - a := by
  have h1 : (BitVec.allOnes 32 ^^^ BitVec.ofNat 32 a).toNat = (~~~ BitVec.ofNat 32 a).toNat := by rw [BitVec.allOnes_xor]
  rw [BitVec.toNat_xor, BitVec.toNat_not, BitVec.toNat_ofNat, BitVec.toNat_allOnes, Nat.mod_eq_of_lt (by omega)] at h1
  exact h1
theorem pu_notx {a : Nat} (hx : lk l x = some (.int .u32 (a : Int))) (h : a < 4294967296) : Pu P (.unOp .xor t x) l w (.int .u32 ((4294967295 - a : Nat) : Int)) := fun n A ha d ty pos af g => by
  have hz : bits .xor .u32 (4294967295 : Int) (a : Int) = ((4294967295 - a : Nat) : Int) := by
    have := u32_xor_nat 4294967295 a (by decide) h
    rw [not_nat h] at this; exact this
  have hm : IntKind.u32.max = 4294967295 := by decide
  unfold execOp
  simp [ha.eval hx, Op.unary, hm, intBits_xor, hz, IntKind.signed]
theorem pu_sliceArrLo {lo : Nat} {i : Int} (hu : P.underlying t = some (.array len e)) (hs : sizeB P e 1 = true) (hx : lk l x = some (.pointer (some ⟨p, o, none⟩))) (hl : lk l y = some (.int k i)) (hi : i = (lo : Int)) (h1 : lo < len) :
    Pu P (.slice t x (some y) none none) l w (.slice (some ⟨p, o + lo, none⟩) (len - lo) (len - lo)) := fun n A ha d ty pos af g => by
  subst hi
  unfold execOp
  simp only [Option.map_some, Option.map_none, ha.eval hx, ha.eval hl]
  have e1 : (0 : Int) ≤ (lo : Int) ∧ (lo : Int) ≤ (len : Int) := by omega
  have e2 : ¬ len = lo := by omega
  have e3 : lo ≤ len := by omega
  simp [Instr.sliceAt, run_underlying hu, Instr.sureAddr, Instr.sliceBounds, Instr.sliceBound, asIntOf, sizeB_run hs, e2, e3, add_at]
theorem pu_sliceArrHi {hi : Nat} {i : Int} (hu : P.underlying t = some (.array len e)) (hs : sizeB P e 1 = true) (hx : lk l x = some (.pointer (some ⟨p, o, none⟩))) (hh : lk l y = some (.int k i)) (hi' : i = (hi : Int)) (h1 : hi ≤ len) (h0 : 0 < len) :
    Pu P (.slice t x none (some y) none) l w (.slice (some ⟨p, o, none⟩) hi len) := fun n A ha d ty pos af g => by
  subst hi'
  unfold execOp
  simp only [Option.map_some, Option.map_none, ha.eval hx, ha.eval hh]
  have e1 : (0 : Int) ≤ (hi : Int) ∧ (hi : Int) ≤ (len : Int) := by omega
  have e2 : ¬ len = 0 := by omega
  simp [Instr.sliceAt, run_underlying hu, Instr.sureAddr, Instr.sliceBounds, Instr.sliceBound, asIntOf, sizeB_run hs, e2, h1, add_at]
theorem lo_copyW {m m' c c' o2 k : Nat} {X : List Nat} {t' : TypeId} (hB : Bk w p (u32s X) t') (hx : lk l x = some (.slice (some ⟨p, o, none⟩) k c)) (hy : lk l y = some (.slice (some ⟨p, o2, none⟩) m c')) (hm : m' = min m k) (ho : o + m' ≤ X.length) (ho2 : o2 + m' ≤ X.length) :
    Lo Tryz.prog ⟨d?, .call ⟨.builtin .copy, #[x, y], #[215, 215]⟩, ty, pos, af, g?⟩ n l w (fun v w' => v = .int .i64 ((m' : Nat) : Int) ∧ Kp (On p) w w' ∧ Bk w' p (u32s (X.take o ++ (X.drop o2).take m' ++ X.drop (o + m'))) t') := by
  subst hm
  have hq : (u32s ((X.drop o2).take (min m k))).length = min m k := by rw [u32s_length, List.length_take, List.length_drop]; omega
  have r := run_copy_row (P := Tryz.prog) w 215 215 ty 32 p o k c ⟨p, o2, none⟩ m c' (u32s X).toArray t' (u32s ((X.drop o2).take (min m k))) Tryz.underlying215 (by kernel_rfl) hB hq
    (fun j v hv => by
      simp only [u32s, List.getElem?_map, Option.map_eq_some_iff] at hv
      obtain ⟨q, hq, rfl⟩ := hv
      rw [List.getElem?_take] at hq
      split at hq
      · rw [add_at]; rw [List.getElem?_drop] at hq; exact hB.cell (u32s_get hq)
      · cases hq)
    (by rw [hq]; simp [u32s]; omega) (u32s_each _)
  rw [hq] at r
  have e : ((u32s X).toArray.toList.take o ++ u32s ((X.drop o2).take (min m k)) ++ (u32s X).toArray.toList.drop (o + min m k)) = u32s (X.take o ++ (X.drop o2).take (min m k) ++ X.drop (o + min m k)) := by simp [u32s]
  rw [e] at r
  refine lo_run (v := .int .i64 ((min m k : Nat) : Int)) (w' := w.setRow p (u32s (X.take o ++ (X.drop o2).take (min m k) ++ X.drop (o + min m k))).toArray) (fun a ha => ?_) ⟨rfl, Kp.rowed _ _ _, setRow_heap w p _ _ t' _ hB⟩
  unfold execOp
  simp only [resolve, invoke, builtin, Sem.run_bind, Sem.run_pure, Result.andThen_ok, List.map_toArray, List.map_cons, List.map_nil, ha.eval hx, ha.eval hy, r]
  rfl
end
theorem shf_eq {v : List Nat} (h : Wd 8 v) : v.take 1 ++ (v.drop 0).take 7 ++ v.drop (1 + 7) = shf v := by
  rw [List.drop_zero, List.drop_eq_nil_of_le (by rw [h.1]; decide), List.append_nil]; rfl
end Go.Proofs.YtlkbkgghfhoggaaGreatDoor
end
section
set_option linter.unusedVariables false
set_option linter.unusedSimpArgs false
namespace Go.Proofs.YtlkbkgghfhoggaaGreatDoor
open Go.RowKit
def orders (ops : Array Oper) (lF : Array Bool) : Nat → Array Bool → List Nat → Bool
  | _, listed, [] => listed == lF
  | 0, _, _ :: _ => false
  | f + 1, listed, i :: is => let r := Region.ready .any ops listed; !r.isEmpty && r.all fun j => (i :: is).contains j && orders ops lF f (listed.setIfInBounds j true) ((i :: is).erase j)
section
variable {P : Program} {Q : Exit → Act → World → Prop} {S I : World → Prop} {n : Nat} {l : List (Nat × Value)} {w : World} {ops : Array Oper}
theorem D_sub {l' : List (Nat × Value)} {f : Nat} {listed : Array Bool} (hs : Sub l' l) (h : Dw P ops Q S f listed n l' w) : Dw P ops Q S f listed n l w := fun a ha => h a (ha.sub hs)
theorem Lo.sub {o : Oper} {l' : List (Nat × Value)} {Φ : Value → World → Prop} (h : Lo P o n l' w Φ) (hs : Sub l' l) : Lo P o n l w Φ := fun a ha => h a (ha.sub hs)
/-- What an operation of the set must give. -/
def One (P : Program) (ops : Array Oper) (φ : Nat → Value → World → Prop) (I : World → Prop) (n : Nat) (l : List (Nat × Value)) (i d : Nat) : Prop :=
  ∃ op ty pos af, ops[i]? = some ⟨some d, op, ty, pos, af, none⟩ ∧ Nat.blt d n = true ∧ lkN l d = none ∧ ∀ W, I W → Lo P ⟨some d, op, ty, pos, af, none⟩ n l W (fun v W' => φ d v W' ∧ Kp No W W' ∧ ∀ p o, v = .pointer (some ⟨p, o, none⟩) → W.heap.size ≤ p)
theorem D_set (is ds : List Nat) (lF : Array Bool) (φ : Nat → Value → World → Prop) {f : Nat} {listed : Array Bool}
    (ho : orders ops lF is.length listed is = true)
    (hI : ∀ W W', I W → Kp No W W' → I W') (hS : ∀ W, I W → S W) (h0 : I w)
    (mono : ∀ d v W W', φ d v W → Kp No W W' → φ d v W') (old : ∀ d p o W, φ d (.pointer (some ⟨p, o, none⟩)) W → p < W.heap.size)
    (step : ∀ i ∈ is, ∃ d ∈ ds, (ops[i]?).bind (·.dst) = some d ∧ One P ops φ I n l i d)
    (hds : ∀ d ∈ ds, ∃ i ∈ is, (ops[i]?).bind (·.dst) = some d)
    (fin : ∀ l' W, Sub l l' → I W → (∀ d ∈ ds, ∃ v, lkN l' d = some v ∧ φ d v W) → (∀ d ∈ ds, ∀ e ∈ ds, d ≠ e → ∀ p q o o', lkN l' d = some (.pointer (some ⟨p, o, none⟩)) → lkN l' e = some (.pointer (some ⟨q, o', none⟩)) → p ≠ q) → Dw P ops Q S f lF n l' W) :
    Dw P ops Q S (f + is.length) listed n l w := by
  -- what holds ahead of each of them: the rest of the set, the frame
  suffices h : ∀ m rest, rest.length = m → ∀ listed l' W, orders ops lF m listed rest = true → I W → Sub l l' → (∀ i ∈ rest, i ∈ is) → (∀ d ∈ ds, ∀ v, lkN l' d = some v → φ d v W) →
      (∀ d ∈ ds, ∀ e ∈ ds, d ≠ e → ∀ p q o o', lkN l' d = some (.pointer (some ⟨p, o, none⟩)) → lkN l' e = some (.pointer (some ⟨q, o', none⟩)) → p ≠ q) →
      (∀ i ∈ is, i ∈ rest ∨ ∃ d v, (ops[i]?).bind (·.dst) = some d ∧ lkN l' d = some v) → Dw P ops Q S (f + m) listed n l' W by
    have none_ : ∀ d ∈ ds, lkN l d = none := fun d hd => by
      obtain ⟨i, hi, hd'⟩ := hds d hd
      obtain ⟨d2, _, e2, _, _, _, _, _, _, hn, _⟩ := step i hi
      rw [hd'] at e2; cases e2; exact hn
    exact h _ is rfl listed l w ho h0 (Sub.refl l) (fun i hi => hi) (fun d hd v hv => by rw [none_ d hd] at hv; cases hv) (fun d hd e he _ p q o o' hp _ => by rw [none_ d hd] at hp; cases hp) (fun i hi => .inl hi)
  intro m
  induction m with
  | zero =>
    intro rest hm listed l' W ho hW hs _ hφ hne hall
    have hr : rest = [] := List.eq_nil_of_length_eq_zero hm
    subst hr
    unfold orders at ho
    have hl := eq_of_beq ho
    subst hl
    refine fin l' W hs hW (fun d hd => ?_) hne
    obtain ⟨i, hi, hd'⟩ := hds d hd
    rcases hall i hi with h | ⟨d2, v, e2, hv⟩
    · cases h
    · rw [hd'] at e2; cases e2; exact ⟨v, hv, hφ d hd v hv⟩
  | succ m ih =>
    intro rest hm listed l' W ho hW hs hsub hφ hne hall
    obtain ⟨i0, is', rfl⟩ : ∃ i0 is', rest = i0 :: is' := by
      cases rest with
      | nil => cases hm
      | cons a b => exact ⟨a, b, rfl⟩
    simp only [orders, Bool.and_eq_true, Bool.not_eq_true', List.all_eq_true] at ho
    obtain ⟨hne0, hr⟩ := ho
    refine D_any rfl (fun e => by rw [e] at hne0; cases hne0) (fun j hj => ?_)
    obtain ⟨hjc, hjo⟩ := hr j hj
    have hj' : j ∈ i0 :: is' := by simpa using hjc
    obtain ⟨d, hd, hdd, op, ty, pos, af, hop, hlt, hn, hlo⟩ := step j (hsub j hj')
    refine Nx_lo hop ((hlo W hW).sub hs) hlt (fun v W' hv => ?_)
    obtain ⟨hv1, hk, hfr⟩ := hv
    have hW' := hI W W' hW hk
    refine ⟨hS W' hW', ih _ (by rw [List.length_erase_of_mem hj']; simpa using hm) _ _ _ hjo hW' ?_ (fun i hi => hsub i (List.mem_of_mem_erase hi)) ?_ ?_ ?_⟩
    · intro t u hu
      rw [lkN_cons]
      split
      · rename_i e; subst e; rw [hn] at hu; cases hu
      · exact hs t u hu
    · intro e he u hu
      rw [lkN_cons] at hu
      split at hu
      · rename_i e'; subst e'; cases hu; exact hv1
      · exact mono e u W W' (hφ e he u hu) hk
    · intro a ha b hb hab p q o o' hp hq
      rw [lkN_cons] at hp hq
      split at hp
      · rename_i e1
        split at hq
        · rename_i e2; exact absurd (e1.symm.trans e2) hab
        · cases hp
          have h1 := old b q o' W (hφ b hb _ hq)
          have h2 := hfr p o rfl
          omega
      · split at hq
        · cases hq
          have h1 := old a p o W (hφ a ha _ hp)
          have h2 := hfr q o' rfl
          omega
        · exact hne a ha b hb hab p q o o' hp hq
    · intro i hi
      by_cases e : i = j
      · subst e; exact .inr ⟨d, v, hdd, by rw [lkN_cons, if_pos rfl]⟩
      · rcases hall i hi with h | ⟨d2, v2, e2, hv2⟩
        · exact .inl ((List.mem_erase_of_ne e).2 h)
        · refine .inr ⟨d2, ?_⟩
          by_cases ed : d = d2
          · subst ed; exact ⟨v, e2, by rw [lkN_cons, if_pos rfl]⟩
          · exact ⟨v2, e2, by rw [lkN_cons, if_neg ed]; exact hv2⟩
end
end Go.Proofs.YtlkbkgghfhoggaaGreatDoor
end
section
set_option linter.unusedVariables false
set_option linter.unusedSimpArgs false
namespace Go.Proofs.YtlkbkgghfhoggaaGreatDoor
open Go.RowKit
section
variable {P : Program} {ops : Array Oper} {Q : Exit → Act → World → Prop} {S : World → Prop} {z : Nat}
/-- Whatever order is picked: S holds as long as z has not come up. -/
def Zw (P : Program) (ops : Array Oper) (Q : Exit → Act → World → Prop) (S : World → Prop) (z : Nat) : Nat → Array Bool → Act → World → Prop
  | 0, ls, a, w => Region.ready .any ops ls = [] ∧ Q .normal a w
  | fuel + 1, ls, a, w => (Region.ready .any ops ls = [] → Q .normal a w) ∧
    ∀ i ∈ Region.ready .any ops ls, wpOp P ops Q i (fun a' w' => ((ls.setIfInBounds i true).getD z false = false → S w') ∧ Zw P ops Q S z fuel (ls.setIfInBounds i true) a' w') a w
theorem Zw.any : ∀ (fuel : Nat) (ls : Array Bool) (a : Act) (w : World), Zw P ops Q S z fuel ls a w → wpAny P .any ops Q fuel ls a w
  | 0, _, _, _, h => h
  | fuel + 1, _, _, _, h => ⟨h.1, fun i hi => wpOp_mono (fun a' w' h' => Zw.any fuel _ a' w' h'.2) (h.2 i hi)⟩
/-- z waits for i. -/
def waits (ops : Array Oper) (z i : Nat) : Bool := !(Nat.beq i z) && (ops[z]?).any fun o => o.after.toList.any fun e => Region.binds .any e && Nat.beq e.on i
theorem Zw.first {i : Nat} {oi : Oper} {v : Value} (hi : ops[i]? = some oi) (hsel : ∀ (j : Nat) (o : Oper) cs b, ops[j]? = some o → o.op ≠ .select cs b)
    (hQ : ∀ c a w, Q (.panic c) (a.put oi.dst v) w → Q (.panic c) a w) (hiz : i ≠ z) (hz : ∃ oz, ops[z]? = some oz ∧ ∃ e ∈ oz.after, Region.binds .any e = true ∧ e.on = i) :
    ∀ (fuel : Nat) (ls : Array Bool) (a : Act) (w : World),
      (∀ j oj, ops[j]? = some oj → j ≠ i → ls.getD j true = false → (∀ e ∈ oj.after, Region.binds .any e = true → e.on ≠ i) → oi.apart ops oj = true) →
      i ∈ Region.ready .any ops ls → YieldsIf P ops S oi v a → ls.getD z false = false → S w →
      Zw P ops Q S z fuel (ls.setIfInBounds i true) (a.put oi.dst v) w → Zw P ops Q S z (fuel + 1) ls a w := by
  intro fuel
  induction fuel with
  | zero =>
    intro ls a w _ hr hy hl hS H
    refine ⟨fun h => (by rw [h] at hr; cases hr), fun j hj => ?_⟩
    by_cases hji : j = i
    · subst hji; exact hy.wpOp hi hS ⟨fun _ => hS, H⟩
    · have := ready_mono hj hji
      rw [H.1] at this
      cases this
  | succ fuel ih =>
    intro ls a w hfree hr hy hl hS H
    refine ⟨fun h => (by rw [h] at hr; cases hr), fun j hj => ?_⟩
    by_cases hji : j = i
    · subst hji; exact hy.wpOp hi hS ⟨fun _ => hS, H⟩
    · have h1 := H.2 j (ready_mono hj hji)
      obtain ⟨hjun, oj, hoj, hall⟩ := mem_ready.1 hj
      have hnot : ∀ e ∈ oj.after, Region.binds .any e = true → e.on ≠ i := fun e he hb heq => by
        have h1 := hall e he hb
        have h0 := (mem_ready.1 hr).1
        rw [heq] at h1
        rcases Nat.lt_or_ge i ls.size with h' | h'
        · simp [h'] at h0 h1; rw [h0] at h1; cases h1
        · simp [Array.getElem?_eq_none h'] at h1
      have hjz : j ≠ z := fun e => by
        obtain ⟨oz, ho, x, hx, hb, hon⟩ := hz
        rw [e, ho] at hoj
        cases hoj
        exact hnot x hx hb hon
      have h2 := wpOp_putIf hoj (hfree j oj hoj hji hjun hnot) (fun cs b => hsel i oi cs b hi) (fun cs b => hsel j oj cs b hoj) hQ hy h1
      have hfree' : ∀ k ok, ops[k]? = some ok → k ≠ i → (ls.setIfInBounds j true).getD k true = false →
          (∀ e ∈ ok.after, Region.binds .any e = true → e.on ≠ i) → oi.apart ops ok = true := fun k ok hk hki hun hno => by
        refine hfree k ok hk hki ?_ hno
        by_cases hjk : j = k
        · subst hjk; exact hjun
        · rw [getD_set_ne true hjk] at hun; exact hun
      have hl' : (ls.setIfInBounds j true).getD z false = false := by rw [getD_set_ne false hjz]; exact hl
      refine wpOp_mono (fun a' w' h3 => ?_) h2
      have hS' : S w' := h3.2.1 (by rw [Array.setIfInBounds_comm _ _ (Ne.symm hji), getD_set_ne false hiz]; exact hl')
      refine ⟨fun _ => hS', ih (ls.setIfInBounds j true) a' w' hfree' (ready_mono hr (Ne.symm hji)) h3.1 hl' hS' ?_⟩
      rw [Array.setIfInBounds_comm _ _ hji]
      exact h3.2.2
theorem Zw.take {i : Nat} {oi : Oper} {v : Value} {fuel : Nat} {ls : Array Bool} {a : Act} {w : World} (hi : ops[i]? = some oi)
    (hs : Region.noSelect ops = true) (hf : Region.free .any ops ls i = true) (hr : (Region.ready .any ops ls).contains i = true) (hz : waits ops z i = true) (hl : ls.getD z false = false)
    (hQ : ∀ c a w, Q (.panic c) (a.put oi.dst v) w → Q (.panic c) a w) (hy : YieldsIf P ops S oi v a) (hS : S w)
    (h : Zw P ops Q S z fuel (ls.setIfInBounds i true) (a.put oi.dst v) w) : Zw P ops Q S z (fuel + 1) ls a w := by
  unfold waits at hz
  rw [Bool.and_eq_true] at hz
  refine Zw.first hi (Region.noSelect_spec hs) hQ ?_ ?_ fuel ls a w (Region.free_spec hi hf) (by simpa using hr) hy hl hS h
  · intro e; rw [e] at hz; simp at hz
  · cases ho : ops[z]? with
    | none => rw [ho] at hz; simp at hz
    | some oz =>
      rw [ho] at hz
      obtain ⟨e, he, hb⟩ := List.any_eq_true.1 (by simpa using hz.2 : oz.after.toList.any (fun e => Region.binds .any e && Nat.beq e.on i) = true)
      rw [Bool.and_eq_true] at hb
      exact ⟨oz, rfl, e, by simpa using he, hb.1, Nat.eq_of_beq_eq_true hb.2⟩
theorem Zw.done {ls : Array Bool} {a : Act} {w : World} (hr : Region.ready .any ops ls = []) (h : Q .normal a w) : ∀ fuel, Zw P ops Q S z fuel ls a w
  | 0 => ⟨hr, h⟩
  | _ + 1 => ⟨fun _ => h, by rw [hr]; simp⟩
end
def Zd (P : Program) (ops : Array Oper) (Q : Exit → Act → World → Prop) (S : World → Prop) (z fuel : Nat) (ls : Array Bool) (n : Nat) (l : List (Nat × Value)) (w : World) : Prop :=
  ∀ a, St n l a → S w → Zw P ops Q S z fuel ls a w
section
variable {P : Program} {Q : Exit → Act → World → Prop} {S : World → Prop} {n fuel z : Nat} {ls : Array Bool} {l : List (Nat × Value)} {w : World} {ops : Array Oper} {op : Op} {v : Value} {d : Nat} {ty : TypeId} {pos : String} {af : Array Edge} {Φ : Value → World → Prop} {i : Nat}
theorem Z_begin {id : Nat} (S : World → Prop) (z fuel : Nat) (hf : ops.size = fuel) (hm : P.follows .mixedOrders = true) (hS : S w.drew) (h : ∀ w', Kp No w w' → S w' → Zd P ops Q S z fuel (Array.replicate fuel false) n l w') : Cw P (.region id ops true) Q n l w := fun a ha => by
  subst hf
  exact wp_region_any hm (Zw.any _ _ _ _ (h w.drew ((Kp.refl No w).drew) hS a ha hS))
theorem Z_take (i : Nat) (hi : ops[i]? = some ⟨some d, op, ty, pos, af, none⟩) (hs : Region.noSelect ops = true) (hf : Region.free .any ops ls i = true) (hr : (Region.ready .any ops ls).contains i = true) (hz : waits ops z i = true) (hl : ls.getD z false = false)
    (hQ : ∀ c a w, Q (.panic c) (a.put (some d) v) w → Q (.panic c) a w) (hd : Nat.blt d n = true) (hy : ∀ W, S W → Pu P op l W v) (h : Zd P ops Q S z fuel (ls.setIfInBounds i true) n ((d, v) :: l) w) : Zd P ops Q S z (fuel + 1) ls n l w := fun a ha hS =>
  Zw.take hi hs hf hr hz hl hQ (.inl ⟨rfl, fun W hW => hy W hW n a ha _ _ _ _ _⟩) hS (h _ (ha.put hd v) hS)
/-- One of those that may come up next. -/
def Nz (P : Program) (ops : Array Oper) (Q : Exit → Act → World → Prop) (S : World → Prop) (z fuel : Nat) (ls : Array Bool) (n : Nat) (l : List (Nat × Value)) (w : World) (i : Nat) : Prop :=
  ∀ a, St n l a → wpOp P ops Q i (fun a' w' => ((ls.setIfInBounds i true).getD z false = false → S w') ∧ Zw P ops Q S z fuel (ls.setIfInBounds i true) a' w') a w
theorem Z_any {rs : List Nat} (hr : Region.ready .any ops ls = rs) (hne : rs ≠ []) (h : ∀ i ∈ rs, Nz P ops Q S z fuel ls n l w i) : Zd P ops Q S z (fuel + 1) ls n l w := fun a ha _ =>
  ⟨fun h0 => absurd (hr ▸ h0) hne, fun i hi => h i (hr ▸ hi) a ha⟩
theorem Z_one (i : Nat) (hr : Region.ready .any ops ls = [i]) (h : Nz P ops Q S z fuel ls n l w i) : Zd P ops Q S z (fuel + 1) ls n l w := Z_any hr (by simp) fun j hj => by rw [List.mem_singleton.1 hj]; exact h
theorem Nz_lo (hi : ops[i]? = some ⟨some d, op, ty, pos, af, none⟩) (h : Lo P ⟨some d, op, ty, pos, af, none⟩ n l w Φ) (hd : Nat.blt d n = true) (k : ∀ v w', Φ v w' → S w' ∧ Zd P ops Q S z fuel (ls.setIfInBounds i true) n ((d, v) :: l) w') : Nz P ops Q S z fuel ls n l w i := fun a ha => by
  unfold wpOp
  rw [hi]
  exact .inl (h a ha _ _ fun v w' hv => ⟨fun _ => (k v w' hv).1, (k v w' hv).2 _ (ha.put hd v) (k v w' hv).1⟩)
/-- z itself, the last of all. -/
theorem Z_last (z : Nat) (hr : Region.ready .any ops ls = [z]) (hi : ops[z]? = some ⟨none, op, ty, pos, af, none⟩) (hz : (ls.setIfInBounds z true).getD z false = true) (hr' : Region.ready .any ops (ls.setIfInBounds z true) = []) (h : Lo P ⟨none, op, ty, pos, af, none⟩ n l w Φ) (k : ∀ v w', Φ v w' → Xw Q .normal n l w') : Zd P ops Q S z (fuel + 1) ls n l w :=
  Z_one z hr fun a ha => by
    unfold wpOp
    rw [hi]
    exact .inl (h a ha _ _ fun v w' hv => ⟨fun e => (by rw [hz] at e; cases e), Zw.done hr' (k v w' hv a ha) _⟩)
end
end Go.Proofs.YtlkbkgghfhoggaaGreatDoor
end
