/- Answers of which one only knows their number; plans held against one another. -/
import Derived.Test.YtjbdimfpjbmggaaDoorPz
import Derived.Laws.StructEq
set_option linter.unusedVariables false
set_option linter.unusedSimpArgs false
namespace Go.Proofs.YtjbdimfpjbmggaaDoor
open Go.RowKit Gm
/-- An error's value, by its number. -/
def ErrV (n : Nat) (v : Value) : Prop := (n = 0 ∧ v = .nilIface) ∨ (n ≠ 0 ∧ v = errE n)
def subI {α : Type} (e : Nat) (a z : α) : α := if e = 0 then a else z
noncomputable def mayB (ka nn : Int) (ge : Nat) (mk : ByteArray) (L : List Shr) : Bool := open Classical in decide (MayP ka nn ge mk L)
theorem mayB_t {ka nn : Int} {ge : Nat} {mk : ByteArray} {L : List Shr} (h : MayP ka nn ge mk L) : mayB ka nn ge mk L = true := by unfold mayB; exact @decide_eq_true _ (Classical.propDecidable _) h
theorem mayB_f {ka nn : Int} {ge : Nat} {mk : ByteArray} {L : List Shr} (h : ¬ MayP ka nn ge mk L) : mayB ka nn ge mk L = false := by unfold mayB; exact @decide_eq_false _ (Classical.propDecidable _) h
def chkE (b : Bool) : Nat := if b then 0 else 1
noncomputable def secE (ka nn : Int) (ge : Nat) (mk : ByteArray) (L : List Shr) : Nat :=
  open Classical in
  if ¬ MayP ka nn ge mk L then 1 else if (L.length : Int) < ka then 2 else 0
theorem secE_arg {ka nn : Int} {ge : Nat} {mk : ByteArray} {L : List Shr} (h : ¬ MayP ka nn ge mk L) : secE ka nn ge mk L = 1 := by unfold secE; rw [if_pos h]
theorem secE_short {ka nn : Int} {ge : Nat} {mk : ByteArray} {L : List Shr} (h : MayP ka nn ge mk L) (h2 : (L.length : Int) < ka) : secE ka nn ge mk L = 2 := by unfold secE; rw [if_neg (fun x => x h), if_pos h2]
theorem secE_ok {ka nn : Int} {ge : Nat} {mk : ByteArray} {L : List Shr} (h : MayP ka nn ge mk L) (h2 : ¬ (L.length : Int) < ka) : secE ka nn ge mk L = 0 := by unfold secE; rw [if_neg (fun x => x h), if_neg h2]
section
variable {P : Program} {l : List (Nat × Value)} {w : World} {x y : Operand} {t t' : TypeId}
theorem run_eqS3 {f0 f1 f2 : Field} {k0 k1 k2 : IntKind} (hf : P.underlying t = some (.struct #[f0, f1, f2])) (hp : P.stoodInHeld t = false) (n0 : f0.name ≠ "_") (n1 : f1.name ≠ "_") (n2 : f2.name ≠ "_")
    (u0 : P.underlying f0.type = some (.int k0)) (u1 : P.underlying f1.type = some (.int k1)) (u2 : P.underlying f2.type = some (.int k2)) (o0 : f0.offset = 0) (o1 : f1.offset = 1) (o2 : f2.offset = 2) (a0 a1 a2 b0 b1 b2 : Int) :
    (Op.equalIn 10000 t (.agg #[.int k0 a0, .int k1 a1, .int k2 a2]) (.agg #[.int k0 b0, .int k1 b1, .int k2 b2])).run P w = .ok (decide (a0 = b0 ∧ a1 = b1 ∧ a2 = b2)) w := by
  have hF : P.fieldsOf t = #[f0, f1, f2] := by unfold Program.fieldsOf; rw [hf]
  have p : ∀ (f : Field) (k : IntKind) (xs : Array Value) (v : Value), P.underlying f.type = some (.int k) → xs[f.offset]? = some v → (part f.type xs f.offset).run P w = .ok v w := fun f k xs v hu hx => by simp [part, isAgg, run_underlying hu, hx]
  rw [run_equalIn_agg w 9999 t _ _ (by rw [hF]; exact hf) hp, hF]
  have q0 := p f0 k0 #[.int k0 a0, .int k1 a1, .int k2 a2] (.int k0 a0) u0 (by rw [o0]; rfl)
  have q1 := p f1 k1 #[.int k0 a0, .int k1 a1, .int k2 a2] (.int k1 a1) u1 (by rw [o1]; rfl)
  have q2 := p f2 k2 #[.int k0 a0, .int k1 a1, .int k2 a2] (.int k2 a2) u2 (by rw [o2]; rfl)
  have r0 := p f0 k0 #[.int k0 b0, .int k1 b1, .int k2 b2] (.int k0 b0) u0 (by rw [o0]; rfl)
  have r1 := p f1 k1 #[.int k0 b0, .int k1 b1, .int k2 b2] (.int k1 b1) u1 (by rw [o1]; rfl)
  have r2 := p f2 k2 #[.int k0 b0, .int k1 b1, .int k2 b2] (.int k2 b2) u2 (by rw [o2]; rfl)
  have e0 := fun a b => run_equalIn_int w 9998 f0.type k0 k0 a b u0
  have e1 := fun a b => run_equalIn_int w 9998 f1.type k1 k1 a b u1
  have e2 := fun a b => run_equalIn_int w 9998 f2.type k2 k2 a b u2
  simp only [Op.eqFields, if_pos n0, if_pos n1, if_pos n2, Sem.run_bind, q0, r0, Result.andThen_ok, e0]
  by_cases h0 : a0 = b0
  · subst h0
    simp only [beq_self_eq_true, Bool.not_true, Bool.false_eq_true, if_false, Sem.run_bind, q1, r1, Result.andThen_ok, e1]
    by_cases h1 : a1 = b1
    · subst h1
      simp only [beq_self_eq_true, Bool.not_true, Bool.false_eq_true, if_false, Sem.run_bind, q2, r2, Result.andThen_ok, e2]
      by_cases h2 : a2 = b2
      · subst h2; simp
      · simp [h2]
    · simp [h1]
  · simp [h0]
theorem pu_eqlS3 {f0 f1 f2 : Field} {k0 k1 k2 : IntKind} {a0 a1 a2 b0 b1 b2 : Int} (hf : P.underlying t = some (.struct #[f0, f1, f2])) (hp : P.stoodInHeld t = false) (hg : P.eqGuardType P.depth t = false) (n0 : f0.name ≠ "_") (n1 : f1.name ≠ "_") (n2 : f2.name ≠ "_")
    (u0 : P.underlying f0.type = some (.int k0)) (u1 : P.underlying f1.type = some (.int k1)) (u2 : P.underlying f2.type = some (.int k2)) (o0 : f0.offset = 0) (o1 : f1.offset = 1) (o2 : f2.offset = 2)
    (hx : lk l x = some (.agg #[.int k0 a0, .int k1 a1, .int k2 a2])) (hy : lk l y = some (.agg #[.int k0 b0, .int k1 b1, .int k2 b2])) : Pu P (.binOp .eql t x y t') l w (.bool (decide (a0 = b0 ∧ a1 = b1 ∧ a2 = b2))) := fun n A ha d ty pos af g => by
  unfold execOp
  simp only [ha.eval hx, ha.eval hy, Sem.run_bind, Sem.run_pure, Result.andThen_ok, run_eqGuard_agg w _ t x y _ _ hg, run_eql_struct, run_eqS3 hf hp n0 n1 n2 u0 u1 u2 o0 o1 o2]
theorem pu_eqlEV {n : Nat} {ev : Value} (h : ErrV n ev) (hu : P.underlying t = some (.interface (P.methodsAt t))) (hx : lk l x = some ev) : Pu P (.binOp .eql t x (.const .nilIface) t') l w (.bool (decide (n = 0))) := by
  rcases h with ⟨h1, h2⟩ | ⟨h1, h2⟩
  · rw [decide_eq_true h1]; exact pu_eqlnn hu (hx.trans (congrArg some h2))
  · rw [decide_eq_false h1]; exact pu_eqlin hu (hx.trans (congrArg some h2)) rfl
end
end Go.Proofs.YtjbdimfpjbmggaaDoor
