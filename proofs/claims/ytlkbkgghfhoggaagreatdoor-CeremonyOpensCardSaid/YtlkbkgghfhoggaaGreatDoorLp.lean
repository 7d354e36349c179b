/- Operations that yield a value and leave the world: one law each. -/
import Derived.Test.YtlkbkgghfhoggaaGreatDoorLx
import Derived.Test.YtlkbkgghfhoggaaGreatDoorRk2
import Derived.Laws.BitsAllLaws
import Derived.Deep.MidRow
set_option linter.unusedVariables false
set_option linter.unusedSimpArgs false
namespace Go.Proofs.YtlkbkgghfhoggaaGreatDoor
open Go.RowKit

/-- The operation yields v, and the world stays. -/
def Pu (P : Program) (op : Op) (l : List (Nat × Value)) (w : World) (v : Value) : Prop :=
  ∀ n a, St n l a → ∀ d ty pos af g, (execOp a.eval ⟨d, op, ty, pos, af, g⟩).run P w = .ok (.value v) w
section
variable {P : Program} {Q : Exit → Act → World → Prop} {n : Nat} {l : List (Nat × Value)} {w : World} {ops : Array Oper} {rest : List Oper} {op : Op} {v : Value} {d : Nat} {ty : TypeId} {pos : String} {af : Array Edge}
theorem R_nil (h : Xw Q .normal n l w) : Rw P ops Q [] n l w := fun a ha => wpList_nil (h a ha)
theorem R_pu (h : Pu P op l w v) (hd : Nat.blt d n = true) (k : Rw P ops Q rest n ((d, v) :: l) w) : Rw P ops Q (⟨some d, op, ty, pos, af, none⟩ :: rest) n l w := fun a ha =>
  wpList_plain rfl fun K hK => by
    unfold Oper.wp
    rw [h n a ha]
    exact hK _ _ (k _ (ha.put hd v))
theorem wanted_of {o : Oper} {a : Act} {j dj : Nat} {want b : Bool} (ha : St n l a) (hg : o.guard = some (j, want)) (hj : (ops[j]?).bind (·.dst) = some dj) (hv : lkN l dj = some (.bool b)) :
    Region.wanted o (yielded ops a.tmps) = (b == want) := by
  unfold Region.wanted yielded
  rw [hg]
  simp only [hj, Option.bind_some, ha.slot _ _ hv]
  cases b <;> cases want <;> rfl
theorem unwanted_of {o : Oper} {a : Act} {j dj : Nat} {want : Bool} (ha : St n l a) (hg : o.guard = some (j, want)) (hj : (ops[j]?).bind (·.dst) = some dj) (hv : lkN l dj = some undef) :
    Region.wanted o (yielded ops a.tmps) = false := by
  unfold Region.wanted yielded
  rw [hg]
  simp only [hj, Option.bind_some, ha.slot _ _ hv]
  rfl
/-- A guarded operation that is carried out. -/
theorem R_gpu {j dj : Nat} {want : Bool} (hj : (ops[j]?).bind (·.dst) = some dj) (hv : lkN l dj = some (.bool want)) (h : Pu P op l w v) (hd : Nat.blt d n = true) (k : Rw P ops Q rest n ((d, v) :: l) w) :
    Rw P ops Q (⟨some d, op, ty, pos, af, some (j, want)⟩ :: rest) n l w := fun a ha =>
  wpList_step fun K hK => by
    rw [if_pos (by rw [wanted_of ha rfl hj hv]; cases want <;> rfl)]
    unfold Oper.wp
    rw [h n a ha]
    exact hK _ _ (k _ (ha.put hd v))
/-! The same, told shortly (wip/wg/mini.py). -/
theorem Rp (h : Pu P op l w v) (k : Rw P ops Q rest n ((d, v) :: l) w) (hd : Nat.blt d n = true := by rfl) : Rw P ops Q (⟨some d, op, ty, pos, af, none⟩ :: rest) n l w := R_pu h hd k
theorem Rg {j dj : Nat} {want : Bool} (h : Pu P op l w v) (k : Rw P ops Q rest n ((d, v) :: l) w) (hj : (ops[j]?).bind (·.dst) = some dj := by rfl) (hv : lkN l dj = some (.bool want) := by rfl) (hd : Nat.blt d n = true := by rfl) : Rw P ops Q (⟨some d, op, ty, pos, af, some (j, want)⟩ :: rest) n l w := R_gpu hj hv h hd k
/-- A guarded operation that is passed over. -/
theorem R_gno {j dj : Nat} {want b : Bool} (hj : (ops[j]?).bind (·.dst) = some dj) (hv : lkN l dj = some (.bool b)) (hb : (b == want) = false) (hd : Nat.blt d n = true) (k : Rw P ops Q rest n ((d, undef) :: l) w) :
    Rw P ops Q (⟨some d, op, ty, pos, af, some (j, want)⟩ :: rest) n l w := fun a ha =>
  wpList_step fun K hK => by
    rw [if_neg (by rw [wanted_of ha rfl hj hv, hb]; simp)]
    exact hK _ _ (k _ (ha.put hd undef))
theorem R_gun {j dj : Nat} {want : Bool} (hj : (ops[j]?).bind (·.dst) = some dj) (hv : lkN l dj = some undef) (hd : Nat.blt d n = true) (k : Rw P ops Q rest n ((d, undef) :: l) w) :
    Rw P ops Q (⟨some d, op, ty, pos, af, some (j, want)⟩ :: rest) n l w := fun a ha =>
  wpList_step fun K hK => by
    rw [if_neg (by rw [unwanted_of ha rfl hj hv]; simp)]
    exact hK _ _ (k _ (ha.put hd undef))
end

/-! ### moves, tests, numbers -/
section
variable {P : Program} {l : List (Nat × Value)} {w : World} {x y c : Operand} {v u : Value} {t t' : TypeId} {k : IntKind} {a b z : Int}
theorem pu_move (hx : lk l x = some v) : Pu P (.move x) l w v := fun n a ha d ty pos af g => by simp [execOp, ha.eval hx]
theorem pu_assign (hx : lk l x = some v) : Pu P (.assign x) l w v := fun n a ha d ty pos af g => by simp [execOp, ha.eval hx]
theorem pu_pickt (hc : lk l c = some (.bool true)) (hx : lk l x = some v) : Pu P (.pick c x y) l w v := fun n a ha d ty pos af g => by simp [execOp, ha.eval hx, ha.eval hc, asBool]
theorem pu_pickf (hc : lk l c = some (.bool false)) (hy : lk l y = some v) : Pu P (.pick c x y) l w v := fun n a ha d ty pos af g => by simp [execOp, ha.eval hy, ha.eval hc, asBool]
theorem pu_nilCheck {p : Addr} (hx : lk l x = some (.pointer (some p))) : Pu P (.nilCheck x) l w (.pointer (some p)) := fun n a ha d ty pos af g => by simp [execOp, ha.eval hx]
theorem pu_not {b : Bool} (hx : lk l x = some (.bool b)) : Pu P (.unOp .not t x) l w (.bool (!b)) := fun n a ha d ty pos af g => by simp [execOp, ha.eval hx, Op.unary]
theorem pu_add (hx : lk l x = some (.int k a)) (hy : lk l y = some (.int k b)) (hz : k.wrap (a + b) = z) : Pu P (.binOp .add t x y t') l w (.int k z) := fun n A ha d ty pos af g => by
  simp [execOp, ha.eval hx, ha.eval hy, eqGuard, binOp, Op.intArith, hz]
theorem pu_sub (hx : lk l x = some (.int k a)) (hy : lk l y = some (.int k b)) (hz : k.wrap (a - b) = z) : Pu P (.binOp .sub t x y t') l w (.int k z) := fun n A ha d ty pos af g => by
  simp [execOp, ha.eval hx, ha.eval hy, eqGuard, binOp, Op.intArith, hz]
theorem pu_mul (hx : lk l x = some (.int k a)) (hy : lk l y = some (.int k b)) (hz : k.wrap (a * b) = z) : Pu P (.binOp .mul t x y t') l w (.int k z) := fun n A ha d ty pos af g => by
  simp [execOp, ha.eval hx, ha.eval hy, eqGuard, binOp, Op.intArith, hz]
theorem pu_rem (hx : lk l x = some (.int k a)) (hy : lk l y = some (.int k b)) (hb : b ≠ 0) (hz : a.tmod b = z) : Pu P (.binOp .rem t x y t') l w (.int k z) := fun n A ha d ty pos af g => by
  simp [execOp, ha.eval hx, ha.eval hy, eqGuard, binOp, Op.intDiv, hb, hz]
theorem pu_and (hx : lk l x = some (.int k a)) (hy : lk l y = some (.int k b)) (hz : bits .and k a b = z) : Pu P (.binOp .and t x y t') l w (.int k z) := fun n A ha d ty pos af g => by
  simp [execOp, ha.eval hx, ha.eval hy, eqGuard, binOp_and, intBits_and, hz]
theorem pu_or (hx : lk l x = some (.int k a)) (hy : lk l y = some (.int k b)) (hz : bits .or k a b = z) : Pu P (.binOp .or t x y t') l w (.int k z) := fun n A ha d ty pos af g => by
  simp [execOp, ha.eval hx, ha.eval hy, eqGuard, binOp_or, intBits_or, hz]
theorem pu_xor (hx : lk l x = some (.int k a)) (hy : lk l y = some (.int k b)) (hz : bits .xor k a b = z) : Pu P (.binOp .xor t x y t') l w (.int k z) := fun n A ha d ty pos af g => by
  simp [execOp, ha.eval hx, ha.eval hy, eqGuard, binOp_xor, intBits_xor, hz]
theorem pu_shl {k' : IntKind} {m : Nat} (hx : lk l x = some (.int k a)) (hy : lk l y = some (.int k' (m : Int))) (hz : k.wrap (a * 2 ^ min m k.bits) = z) : Pu P (.binOp .shl t x y t') l w (.int k z) := fun n A ha d ty pos af g => by
  have h0 : ¬ (m : Int) < 0 := by omega
  simp [execOp, ha.eval hx, ha.eval hy, eqGuard, binOp, Op.shift, h0, hz]
theorem pu_shr {k' : IntKind} {m : Nat} (hx : lk l x = some (.int k a)) (hy : lk l y = some (.int k' (m : Int))) (hz : a.fdiv (2 ^ min m k.bits) = z) : Pu P (.binOp .shr t x y t') l w (.int k z) := fun n A ha d ty pos af g => by
  have h0 : ¬ (m : Int) < 0 := by omega
  simp [execOp, ha.eval hx, ha.eval hy, eqGuard, binOp, Op.shift, h0, hz]
variable {p : Prop} [Decidable p]
theorem pu_lss (hx : lk l x = some (.int k a)) (hy : lk l y = some (.int k b)) (hz : a < b ↔ p) : Pu P (.binOp .lss t x y t') l w (.bool (decide p)) := fun n A ha d ty pos af g => by
  simp [execOp, ha.eval hx, ha.eval hy, eqGuard, binOp, Op.intCmp, hz]
theorem pu_leq (hx : lk l x = some (.int k a)) (hy : lk l y = some (.int k b)) (hz : a ≤ b ↔ p) : Pu P (.binOp .leq t x y t') l w (.bool (decide p)) := fun n A ha d ty pos af g => by
  simp [execOp, ha.eval hx, ha.eval hy, eqGuard, binOp, Op.intCmp, hz]
theorem pu_gtr (hx : lk l x = some (.int k a)) (hy : lk l y = some (.int k b)) (hz : b < a ↔ p) : Pu P (.binOp .gtr t x y t') l w (.bool (decide p)) := fun n A ha d ty pos af g => by
  simp [execOp, ha.eval hx, ha.eval hy, eqGuard, binOp, Op.intCmp, hz]
theorem pu_geq (hx : lk l x = some (.int k a)) (hy : lk l y = some (.int k b)) (hz : b ≤ a ↔ p) : Pu P (.binOp .geq t x y t') l w (.bool (decide p)) := fun n A ha d ty pos af g => by
  simp [execOp, ha.eval hx, ha.eval hy, eqGuard, binOp, Op.intCmp, hz]
theorem pu_eql (hx : lk l x = some (.int k a)) (hy : lk l y = some (.int k b)) (hz : a = b ↔ p) : Pu P (.binOp .eql t x y t') l w (.bool (decide p)) := fun n A ha d ty pos af g => by
  have : (a == b) = decide p := by rw [Bool.eq_iff_iff]; simp [hz]
  simp [execOp, ha.eval hx, ha.eval hy, eqGuard, binOp, Op.intCmp, this]
theorem pu_neq (hx : lk l x = some (.int k a)) (hy : lk l y = some (.int k b)) (hz : a = b ↔ p) : Pu P (.binOp .neq t x y t') l w (.bool (decide (¬ p))) := fun n A ha d ty pos af g => by
  have : (a != b) = decide (¬ p) := by rw [Bool.eq_iff_iff]; simp [hz]
  simp [execOp, ha.eval hx, ha.eval hy, eqGuard, binOp, Op.intCmp, this]
theorem data_toList (b : ByteArray) : b.toList = b.data.toList := ByteArray.toList_eq b
theorem str_toList {b c : ByteArray} : b.toList = c.toList ↔ b = c := by
  constructor
  · intro h
    rw [data_toList, data_toList] at h
    exact ByteArray.ext (Array.ext' h)
  · intro h; rw [h]
theorem pu_eqls {b c : ByteArray} (hx : lk l x = some (.string b)) (hy : lk l y = some (.string c)) (hz : b = c ↔ p) : Pu P (.binOp .eql t x y t') l w (.bool (decide p)) := fun n A ha d ty pos af g => by
  have : (b.toList == c.toList) = decide p := by rw [Bool.eq_iff_iff, beq_iff_eq, decide_eq_true_iff, str_toList, hz]
  unfold execOp
  simp only [ha.eval hx, ha.eval hy, binOp_string_eql, this]
  simp [eqGuard]
theorem pu_neqs {b c : ByteArray} (hx : lk l x = some (.string b)) (hy : lk l y = some (.string c)) (hz : b = c ↔ p) : Pu P (.binOp .neq t x y t') l w (.bool (decide (¬ p))) := fun n A ha d ty pos af g => by
  have : (!(b.toList == c.toList)) = decide (¬ p) := by rw [Bool.eq_iff_iff]; simp only [Bool.not_eq_true', beq_eq_false_iff_ne, ne_eq, decide_eq_true_iff, str_toList, hz]
  unfold execOp
  simp only [ha.eval hx, ha.eval hy, binOp_string_neq, this]
  simp [eqGuard]
/-- A number of another kind. -/
theorem pu_conv {s t : TypeId} {ds : TypeDesc} {k' : IntKind} (hs : P.underlying s = some ds) (ht : P.underlying t = some (.int k')) (hx : lk l x = some (.int k a)) (hz : k'.wrap a = z) : Pu P (.convert s t x) l w (.int k' z) := fun n A ha d ty pos af g => by
  simp [execOp, ha.eval hx, convert, run_underlying hs, run_underlying ht, Conv.intToInt, hz]
/-- A pointer against nil. -/
theorem pu_eqlpn {q : Option Addr} (hu : P.underlying t = some (.pointer (P.pointee t))) (hx : lk l x = some (.pointer q)) (hy : lk l y = some (.pointer none)) : Pu P (.binOp .eql t x y t') l w (.bool q.isNone) := fun n A ha d ty pos af g => by
  unfold execOp
  simp only [ha.eval hx, ha.eval hy]
  simp [eqGuard, run_eql_pointer_nil w t q hu]
theorem pu_neqpn {q : Option Addr} (hu : P.underlying t = some (.pointer (P.pointee t))) (hx : lk l x = some (.pointer q)) (hy : lk l y = some (.pointer none)) : Pu P (.binOp .neq t x y t') l w (.bool q.isSome) := fun n A ha d ty pos af g => by
  unfold execOp
  simp only [ha.eval hx, ha.eval hy]
  cases q <;> simp [eqGuard, run_neq_pointer_nil w t _ hu]
/-- An interface's value against nil. -/
theorem pu_eqlin {u : TypeId} (hu : P.underlying t = some (.interface (P.methodsAt t))) (hx : lk l x = some (.iface u v)) (hy : lk l y = some .nilIface) : Pu P (.binOp .eql t x y t') l w (.bool false) := fun n A ha d ty pos af g => by
  unfold execOp
  simp only [ha.eval hx, ha.eval hy]
  simp [eqGuard, run_eql_held_nil w t u v hu]
theorem pu_neqin {u : TypeId} (hu : P.underlying t = some (.interface (P.methodsAt t))) (hx : lk l x = some (.iface u v)) (hy : lk l y = some .nilIface) : Pu P (.binOp .neq t x y t') l w (.bool true) := fun n A ha d ty pos af g => by
  unfold execOp
  simp only [ha.eval hx, ha.eval hy]
  simp [eqGuard, run_neq_held_nil w t u v hu]
theorem pu_eqlnn (hu : P.underlying t = some (.interface (P.methodsAt t))) (hx : lk l x = some .nilIface) : Pu P (.binOp .eql t x (.const .nilIface) t') l w (.bool true) := fun n A ha d ty pos af g => by
  have h2 : A.eval (.const .nilIface) = .nilIface := rfl
  unfold execOp
  simp only [ha.eval hx, h2]
  simp [eqGuard, run_eql_nil_nil w t hu]
theorem pu_neqnn (hu : P.underlying t = some (.interface (P.methodsAt t))) (hx : lk l x = some .nilIface) : Pu P (.binOp .neq t x (.const .nilIface) t') l w (.bool false) := fun n A ha d ty pos af g => by
  have h2 : A.eval (.const .nilIface) = .nilIface := rfl
  unfold execOp
  simp only [ha.eval hx, h2]
  simp [eqGuard, run_neq_nil_nil w t hu]
theorem pu_makeInterface {d' : TypeDesc} (hu : P.underlying t = some d') (hd : (match d' with | .interface _ => false | _ => true) = true) (hx : lk l x = some v) : Pu P (.makeInterface t x) l w (.iface t v) := fun n A ha d ty pos af g => by
  unfold execOp
  simp only [ha.eval hx, Instr.makeInterface, Sem.run_bind, run_underlying hu, Result.andThen_ok]
  cases d' <;> simp at hd <;> simp
theorem pu_extract {vs : List Value} {i : Nat} (hx : lk l x = some (.tuple vs.toArray)) (hi : vs[i]? = some v) : Pu P (.extract x i) l w v := fun n A ha d ty pos af g => by
  unfold execOp
  simp [ha.eval hx, Instr.extract, hi]
theorem pu_len {k e : Nat} {a : Option Addr} {c : Nat} (hu : P.underlying t = some (.slice e)) (hx : lk l x = some (.slice a k c)) : Pu P (.call ⟨.builtin .len, #[x], #[t]⟩) l w (.int .i64 (k : Int)) := fun n A ha d ty pos af g => by
  unfold execOp
  simp only [resolve, invoke, Sem.run_bind, Sem.run_pure, Result.andThen_ok]
  simp [builtin, Builtin.len_, ha.eval hx, run_underlying hu, goInt]
theorem pu_lens {s : ByteArray} (hu : P.underlying t = some .string) (hx : lk l x = some (.string s)) : Pu P (.call ⟨.builtin .len, #[x], #[t]⟩) l w (.int .i64 (s.size : Int)) := fun n A ha d ty pos af g => by
  unfold execOp
  simp only [resolve, invoke, Sem.run_bind, Sem.run_pure, Result.andThen_ok]
  simp [builtin, Builtin.len_, ha.eval hx, run_underlying hu, goInt]
/-- Shifts by a number that is written out. -/
theorem pu_shlc {k' : IntKind} {m : Nat} {c : Int} (hx : lk l x = some (.int k a)) (hy : lk l y = some (.int k' (m : Int))) (hc : (2 : Int) ^ min m k.bits = c) (hz : k.wrap (a * c) = z) : Pu P (.binOp .shl t x y t') l w (.int k z) :=
  pu_shl hx hy (by rw [hc]; exact hz)
theorem pu_shrc {k' : IntKind} {m : Nat} {c : Int} (hx : lk l x = some (.int k a)) (hy : lk l y = some (.int k' (m : Int))) (hc : (2 : Int) ^ min m k.bits = c) (hz : a.fdiv c = z) : Pu P (.binOp .shr t x y t') l w (.int k z) :=
  pu_shr hx hy (by rw [hc]; exact hz)
theorem fdiv_nat (a c : Nat) : (a : Int).fdiv (c : Int) = ((a / c : Nat) : Int) := by
  rw [Int.fdiv_eq_ediv_of_nonneg _ (by omega)]; rfl
theorem shr_nat (a m : Nat) {k : IntKind} (h : m ≤ k.bits) : (a : Int).fdiv (2 ^ min m k.bits) = ((a / 2 ^ m : Nat) : Int) := by
  rw [Nat.min_eq_left h, show (2 : Int) ^ m = ((2 ^ m : Nat) : Int) by simp]
  exact fdiv_nat a (2 ^ m)
theorem shl_nat_u32 (a m : Nat) (h : m ≤ 32) : IntKind.u32.wrap ((a : Int) * 2 ^ min m IntKind.u32.bits) = ((a * 2 ^ m % 4294967296 : Nat) : Int) := by
  rw [show min m IntKind.u32.bits = m from Nat.min_eq_left h, IntKind.wrap_u32, show (2 : Int) ^ m = ((2 ^ m : Nat) : Int) by simp, ← Int.natCast_mul]; omega
/-- A test that is decided. -/
theorem pu_true {op : Op} (h : Pu P op l w (.bool (decide p))) (hp : p) : Pu P op l w (.bool true) := by rwa [decide_eq_true hp] at h
theorem pu_false {op : Op} (h : Pu P op l w (.bool (decide p))) (hp : ¬ p) : Pu P op l w (.bool false) := by rwa [decide_eq_false hp] at h
theorem pu_b {op : Op} {b c : Bool} (h : Pu P op l w (.bool b)) (hp : b = c) : Pu P op l w (.bool c) := by rwa [hp] at h
theorem pu_makeFunc {fn : Fn} {xs : List Operand} {vs : List Value} (hx : lkL l xs = some vs) : Pu P (.makeFunc fn xs.toArray #[]) l w (.func fn vs.toArray #[]) := fun n A ha d ty pos af g => by
  have he : xs.toArray.map A.eval = vs.toArray := by rw [List.map_toArray, ha.evalL hx]
  unfold execOp
  simp only [he, Instr.makeFunc, Sem.run_bind, Sem.run_pure, Result.andThen_ok, List.map_toArray, List.map_nil]
end
end Go.Proofs.YtlkbkgghfhoggaaGreatDoor
