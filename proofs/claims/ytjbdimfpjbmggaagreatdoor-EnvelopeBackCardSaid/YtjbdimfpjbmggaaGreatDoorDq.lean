/- A region that draws its order: a set of operations that come in whatever order, each with a fact that stays. -/
import Derived.Test.YtjbdimfpjbmggaaGreatDoorKa
import Derived.Test.YtjbdimfpjbmggaaGreatDoorFt
import Derived.Test.YtjbdimfpjbmggaaGreatDoorLo
section
set_option linter.unusedVariables false
set_option linter.unusedSimpArgs false
namespace Go.Proofs.YtjbdimfpjbmggaaGreatDoor
open Go.RowKit
theorem u32s_mid (X : List Nat) (o n : Nat) : ((u32s X).drop o).take n = u32s ((X.drop o).take n) := by unfold u32s; rw [← List.map_drop, ← List.map_take]
theorem u32s_rep (n : Nat) : u32s (List.replicate n 0) = List.replicate n (.int .u32 0) := by simp [u32s]
section
variable {P : Program} {n : Nat} {l : List (Nat × Value)} {w : World} {d? : Option Tmp} {ty : TypeId} {pos : String} {af : Array Edge} {g? : Option (Nat × Bool)} {x y z : Operand} {t e : TypeId} {p o len : Nat} {k : IntKind}
theorem not_nat {a : Nat} (h : a < 4294967296) : 4294967295 ^^^ a = 4294967295 - a := by
  have h1 : (BitVec.allOnes 32 ^^^ BitVec.ofNat 32 a).toNat = (~~~ BitVec.ofNat 32 a).toNat := by rw [BitVec.allOnes_xor]
  rw [BitVec.toNat_xor, BitVec.toNat_not, BitVec.toNat_ofNat, BitVec.toNat_allOnes, Nat.mod_eq_of_lt (by omega)] at h1
  exact h1
theorem pu_notx {a : Nat} (hx : lk l x = some (.int .u32 (a : Int))) (h : a < 4294967296) : Pu P (.unOp .xor t x) l w (.int .u32 ((4294967295 - a : Nat) : Int)) := fun n A ha d ty pos af g => by
  have hz : bits .xor .u32 (4294967295 : Int) (a : Int) = ((4294967295 - a : Nat) : Int) := by
    have := u32_xor_nat 4294967295 a (by decide) h
    rw [not_nat h] at this; exact this
  have hm : IntKind.u32.max = 4294967295 := by decide
  unfold execOp
  simp [ha.eval hx, Op.unary, hm, intBits_xor, hz, IntKind.signed]
theorem pu_sliceArrLo {lo : Nat} {i : Int} (hu : P.underlying t = some (.array len e)) (hs : sizeB P e 1 = true) (hx : lk l x = some (.pointer (some ⟨p, o, none⟩))) (hl : lk l y = some (.int k i)) (hi : i = (lo : Int)) (h1 : lo < len) :
    Pu P (.slice t x (some y) none none) l w (.slice (some ⟨p, o + lo, none⟩) (len - lo) (len - lo)) := fun n A ha d ty pos af g => by
  subst hi
  unfold execOp
  simp only [Option.map_some, Option.map_none, ha.eval hx, ha.eval hl]
  have e1 : (0 : Int) ≤ (lo : Int) ∧ (lo : Int) ≤ (len : Int) := by omega
  have e2 : ¬ len = lo := by omega
  have e3 : lo ≤ len := by omega
  simp [Instr.sliceAt, run_underlying hu, Instr.sureAddr, Instr.sliceBounds, Instr.sliceBound, asIntOf, sizeB_run hs, e2, e3, add_at]
theorem pu_sliceArrHi {hi : Nat} {i : Int} (hu : P.underlying t = some (.array len e)) (hs : sizeB P e 1 = true) (hx : lk l x = some (.pointer (some ⟨p, o, none⟩))) (hh : lk l y = some (.int k i)) (hi' : i = (hi : Int)) (h1 : hi ≤ len) (h0 : 0 < len) :
    Pu P (.slice t x none (some y) none) l w (.slice (some ⟨p, o, none⟩) hi len) := fun n A ha d ty pos af g => by
  subst hi'
  unfold execOp
  simp only [Option.map_some, Option.map_none, ha.eval hx, ha.eval hh]
  have e1 : (0 : Int) ≤ (hi : Int) ∧ (hi : Int) ≤ (len : Int) := by omega
  have e2 : ¬ len = 0 := by omega
  simp [Instr.sliceAt, run_underlying hu, Instr.sureAddr, Instr.sliceBounds, Instr.sliceBound, asIntOf, sizeB_run hs, e2, h1, add_at]
theorem lo_copyW {m m' c c' o2 k : Nat} {X : List Nat} {t' : TypeId} (hB : Bk w p (u32s X) t') (hx : lk l x = some (.slice (some ⟨p, o, none⟩) k c)) (hy : lk l y = some (.slice (some ⟨p, o2, none⟩) m c')) (hm : m' = min m k) (ho : o + m' ≤ X.length) (ho2 : o2 + m' ≤ X.length) :
    Lo Tryz.prog ⟨d?, .call ⟨.builtin .copy, #[x, y], #[196, 196]⟩, ty, pos, af, g?⟩ n l w (fun v w' => v = .int .i64 ((m' : Nat) : Int) ∧ Kp (On p) w w' ∧ Bk w' p (u32s (X.take o ++ (X.drop o2).take m' ++ X.drop (o + m'))) t') := by
  subst hm
  have hq : (u32s ((X.drop o2).take (min m k))).length = min m k := by rw [u32s_length, List.length_take, List.length_drop]; omega
  have r := run_copy_row (P := Tryz.prog) w 196 196 ty 23 p o k c ⟨p, o2, none⟩ m c' (u32s X).toArray t' (u32s ((X.drop o2).take (min m k))) Tryz.underlying196 (by kernel_rfl) hB hq
    (fun j v hv => by
      simp only [u32s, List.getElem?_map, Option.map_eq_some_iff] at hv
      obtain ⟨q, hq, rfl⟩ := hv
      rw [List.getElem?_take] at hq
      split at hq
      · rw [add_at]; rw [List.getElem?_drop] at hq; exact hB.cell (u32s_get hq)
      · cases hq)
    (by rw [hq]; simp [u32s]; omega) (u32s_each _)
  rw [hq] at r
  have e : ((u32s X).toArray.toList.take o ++ u32s ((X.drop o2).take (min m k)) ++ (u32s X).toArray.toList.drop (o + min m k)) = u32s (X.take o ++ (X.drop o2).take (min m k) ++ X.drop (o + min m k)) := by simp [u32s]
  rw [e] at r
  refine lo_run (v := .int .i64 ((min m k : Nat) : Int)) (w' := w.setRow p (u32s (X.take o ++ (X.drop o2).take (min m k) ++ X.drop (o + min m k))).toArray) (fun a ha => ?_) ⟨rfl, Kp.rowed _ _ _, setRow_heap w p _ _ t' _ hB⟩
  unfold execOp
  simp only [resolve, invoke, builtin, Sem.run_bind, Sem.run_pure, Result.andThen_ok, List.map_toArray, List.map_cons, List.map_nil, ha.eval hx, ha.eval hy, r]
  rfl
end
theorem shf_eq {v : List Nat} (h : Wd 8 v) : v.take 1 ++ (v.drop 0).take 7 ++ v.drop (1 + 7) = shf v := by
  rw [List.drop_zero, List.drop_eq_nil_of_le (by rw [h.1]; decide), List.append_nil]; rfl
end Go.Proofs.YtjbdimfpjbmggaaGreatDoor
end
section
set_option linter.unusedVariables false
set_option linter.unusedSimpArgs false
namespace Go.Proofs.YtjbdimfpjbmggaaGreatDoor
open Go.RowKit
def orders (ops : Array Oper) (lF : Array Bool) : Nat → Array Bool → List Nat → Bool
  | _, listed, [] => listed == lF
  | 0, _, _ :: _ => false
  | f + 1, listed, i :: is => let r := Region.ready .any ops listed; !r.isEmpty && r.all fun j => (i :: is).contains j && orders ops lF f (listed.setIfInBounds j true) ((i :: is).erase j)
section
variable {P : Program} {Q : Exit → Act → World → Prop} {S I : World → Prop} {n : Nat} {l : List (Nat × Value)} {w : World} {ops : Array Oper}
theorem D_sub {l' : List (Nat × Value)} {f : Nat} {listed : Array Bool} (hs : Sub l' l) (h : Dw P ops Q S f listed n l' w) : Dw P ops Q S f listed n l w := fun a ha => h a (ha.sub hs)
theorem Lo.sub {o : Oper} {l' : List (Nat × Value)} {Φ : Value → World → Prop} (h : Lo P o n l' w Φ) (hs : Sub l' l) : Lo P o n l w Φ := fun a ha => h a (ha.sub hs)
/-- What an operation of the set must give. -/
def One (P : Program) (ops : Array Oper) (φ : Nat → Value → World → Prop) (I : World → Prop) (n : Nat) (l : List (Nat × Value)) (i d : Nat) : Prop :=
  ∃ op ty pos af, ops[i]? = some ⟨some d, op, ty, pos, af, none⟩ ∧ Nat.blt d n = true ∧ lkN l d = none ∧ ∀ W, I W → Lo P ⟨some d, op, ty, pos, af, none⟩ n l W (fun v W' => φ d v W' ∧ Kp No W W' ∧ ∀ p o, v = .pointer (some ⟨p, o, none⟩) → W.heap.size ≤ p)
theorem D_set (is ds : List Nat) (lF : Array Bool) (φ : Nat → Value → World → Prop) {f : Nat} {listed : Array Bool}
    (ho : orders ops lF is.length listed is = true)
    (hI : ∀ W W', I W → Kp No W W' → I W') (hS : ∀ W, I W → S W) (h0 : I w)
    (mono : ∀ d v W W', φ d v W → Kp No W W' → φ d v W') (old : ∀ d p o W, φ d (.pointer (some ⟨p, o, none⟩)) W → p < W.heap.size)
    (step : ∀ i ∈ is, ∃ d ∈ ds, (ops[i]?).bind (·.dst) = some d ∧ One P ops φ I n l i d)
    (hds : ∀ d ∈ ds, ∃ i ∈ is, (ops[i]?).bind (·.dst) = some d)
    (fin : ∀ l' W, Sub l l' → I W → (∀ d ∈ ds, ∃ v, lkN l' d = some v ∧ φ d v W) → (∀ d ∈ ds, ∀ e ∈ ds, d ≠ e → ∀ p q o o', lkN l' d = some (.pointer (some ⟨p, o, none⟩)) → lkN l' e = some (.pointer (some ⟨q, o', none⟩)) → p ≠ q) → Dw P ops Q S f lF n l' W) :
    Dw P ops Q S (f + is.length) listed n l w := by
  -- what holds ahead of each of them: the rest of the set, the frame
  suffices h : ∀ m rest, rest.length = m → ∀ listed l' W, orders ops lF m listed rest = true → I W → Sub l l' → (∀ i ∈ rest, i ∈ is) → (∀ d ∈ ds, ∀ v, lkN l' d = some v → φ d v W) →
      (∀ d ∈ ds, ∀ e ∈ ds, d ≠ e → ∀ p q o o', lkN l' d = some (.pointer (some ⟨p, o, none⟩)) → lkN l' e = some (.pointer (some ⟨q, o', none⟩)) → p ≠ q) →
      (∀ i ∈ is, i ∈ rest ∨ ∃ d v, (ops[i]?).bind (·.dst) = some d ∧ lkN l' d = some v) → Dw P ops Q S (f + m) listed n l' W by
    have none_ : ∀ d ∈ ds, lkN l d = none := fun d hd => by
      obtain ⟨i, hi, hd'⟩ := hds d hd
      obtain ⟨d2, _, e2, _, _, _, _, _, _, hn, _⟩ := step i hi
      rw [hd'] at e2; cases e2; exact hn
    exact h _ is rfl listed l w ho h0 (Sub.refl l) (fun i hi => hi) (fun d hd v hv => by rw [none_ d hd] at hv; cases hv) (fun d hd e he _ p q o o' hp _ => by rw [none_ d hd] at hp; cases hp) (fun i hi => .inl hi)
  intro m
  induction m with
  | zero =>
    intro rest hm listed l' W ho hW hs _ hφ hne hall
    have hr : rest = [] := List.eq_nil_of_length_eq_zero hm
    subst hr
    unfold orders at ho
    have hl := eq_of_beq ho
    subst hl
    refine fin l' W hs hW (fun d hd => ?_) hne
    obtain ⟨i, hi, hd'⟩ := hds d hd
    rcases hall i hi with h | ⟨d2, v, e2, hv⟩
    · cases h
    · rw [hd'] at e2; cases e2; exact ⟨v, hv, hφ d hd v hv⟩
  | succ m ih =>
    intro rest hm listed l' W ho hW hs hsub hφ hne hall
    obtain ⟨i0, is', rfl⟩ : ∃ i0 is', rest = i0 :: is' := by
      cases rest with
      | nil => cases hm
      | cons a b => exact ⟨a, b, rfl⟩
    simp only [orders, Bool.and_eq_true, Bool.not_eq_true', List.all_eq_true] at ho
    obtain ⟨hne0, hr⟩ := ho
    refine D_any rfl (fun e => by rw [e] at hne0; cases hne0) (fun j hj => ?_)
    obtain ⟨hjc, hjo⟩ := hr j hj
    have hj' : j ∈ i0 :: is' := by simpa using hjc
    obtain ⟨d, hd, hdd, op, ty, pos, af, hop, hlt, hn, hlo⟩ := step j (hsub j hj')
    refine Nx_lo hop ((hlo W hW).sub hs) hlt (fun v W' hv => ?_)
    obtain ⟨hv1, hk, hfr⟩ := hv
    have hW' := hI W W' hW hk
    refine ⟨hS W' hW', ih _ (by rw [List.length_erase_of_mem hj']; simpa using hm) _ _ _ hjo hW' ?_ (fun i hi => hsub i (List.mem_of_mem_erase hi)) ?_ ?_ ?_⟩
    · intro t u hu
      rw [lkN_cons]
      split
      · rename_i e; subst e; rw [hn] at hu; cases hu
      · exact hs t u hu
    · intro e he u hu
      rw [lkN_cons] at hu
      split at hu
      · rename_i e'; subst e'; cases hu; exact hv1
      · exact mono e u W W' (hφ e he u hu) hk
    · intro a ha b hb hab p q o o' hp hq
      rw [lkN_cons] at hp hq
      split at hp
      · rename_i e1
        split at hq
        · rename_i e2; exact absurd (e1.symm.trans e2) hab
        · cases hp
          have h1 := old b q o' W (hφ b hb _ hq)
          have h2 := hfr p o rfl
          omega
      · split at hq
        · cases hq
          have h1 := old a p o W (hφ a ha _ hp)
          have h2 := hfr q o' rfl
          omega
        · exact hne a ha b hb hab p q o o' hp hq
    · intro i hi
      by_cases e : i = j
      · subst e; exact .inr ⟨d, v, hdd, by rw [lkN_cons, if_pos rfl]⟩
      · rcases hall i hi with h | ⟨d2, v2, e2, hv2⟩
        · exact .inl ((List.mem_erase_of_ne e).2 h)
        · refine .inr ⟨d2, ?_⟩
          by_cases ed : d = d2
          · subst ed; exact ⟨v, e2, by rw [lkN_cons, if_pos rfl]⟩
          · exact ⟨v2, e2, by rw [lkN_cons, if_neg ed]; exact hv2⟩
end
end Go.Proofs.YtjbdimfpjbmggaaGreatDoor
end
