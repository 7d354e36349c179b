/- Rows of bytes by value: how they are loaded and compared where a region draws its order. -/
import Derived.Test.YtfoenaleboodpaaGreatDoorLb
import Derived.Deep.RegionHeld
import Derived.Stop.BytesEq
set_option linter.unusedVariables false
set_option linter.unusedSimpArgs false
namespace Go.Proofs.YtfoenaleboodpaaGreatDoor
open Go.RowKit

theorem u8s_cells {l : List Nat} (hb : ∀ n ∈ l, n < 256) : u8s l = (l.map UInt8.ofNat).map Extern.Stop.cell := by
  unfold u8s
  rw [List.map_map]
  apply List.map_congr_left
  intro n hn
  have := hb n hn
  have e : Int.ofNat (UInt8.ofNat n).toNat = (n : Int) := by
    have e2 : (UInt8.ofNat n).toNat = n := by rw [UInt8.toNat_ofNat']; exact Nat.mod_eq_of_lt (by omega)
    rw [e2]; rfl
  show Value.int .u8 (n : Int) = Value.int .u8 (Int.ofNat (UInt8.ofNat n).toNat)
  rw [e]
theorem ofNat_inj : ∀ {l m : List Nat}, (∀ n ∈ l, n < 256) → (∀ n ∈ m, n < 256) → (l.map UInt8.ofNat == m.map UInt8.ofNat) = decide (l = m) := by
  intro l m hl hm
  by_cases h : l = m
  · rw [h]; simp
  · rw [decide_eq_false h, beq_eq_false_iff_ne]
    intro hc
    apply h
    have h2 : (l.map UInt8.ofNat).map UInt8.toNat = (m.map UInt8.ofNat).map UInt8.toNat := by rw [hc]
    have h3 : ∀ l : List Nat, (∀ n ∈ l, n < 256) → (l.map UInt8.ofNat).map UInt8.toNat = l := by
      intro l hl
      rw [List.map_map]
      conv => rhs; rw [← List.map_id l]
      apply List.map_congr_left
      intro n hn
      show (UInt8.ofNat n).toNat = n
      rw [UInt8.toNat_ofNat']
      exact Nat.mod_eq_of_lt (by have := hl n hn; omega)
    rw [h3 l hl, h3 m hm] at h2
    exact h2
/-- A list of bytes, n of them. -/
def By (n : Nat) (l : List Nat) : Prop := l.length = n ∧ ∀ x ∈ l, x < 256

section
variable {P : Program} {ops : Array Oper} {S : World → Prop} {o : Oper} {a : Act}
/-- A load of a whole row is taken first, where the row is held. -/
theorem yields_row (ty : TypeId) (x : Operand) (hw : Region.wanted o (yielded ops a.tmps) = true) (ho : o.op = .load ty x)
    (g : Nat) (hx : a.eval x = .pointer (some ⟨g, 0, none⟩)) (cs : Array Value) (t : TypeId) (d : TypeDesc) (hu : P.underlying ty = some d) (hd : (match d with | .struct _ | .array _ _ => true | _ => false) = true)
    (hi : (P.info? ty).map (·.size) = some cs.size) (h : ∀ W, S W → W.heap[g]? = some (.cells cs t (0, 0))) : YieldsIf P ops S o (.agg cs) a :=
  .inl ⟨hw, fun W hS => by
    unfold execOp
    simp only [ho, hx, Instr.loadAt, Instr.sureAddr, Sem.run_bind, Sem.run_pure, Result.andThen_ok, run_loadVar_row W g t ty cs (0, 0) d (h W hS) hu hd hi]⟩
theorem run_eqlRow (t e : TypeId) (n : Nat) (ht : P.underlying t = some (.array n e)) (he : P.underlying e = some (.int .u8)) (hsz : ∀ w, (sizeOf e).run P w = .ok 1 w)
    {l m : List Nat} (hl : By n l) (hm : By n m) (w : World) : (Op.equalIn 10000 t (.agg (u8s l).toArray) (.agg (u8s m).toArray)).run P w = .ok (decide (l = m)) w := by
  rw [u8s_cells hl.2, u8s_cells hm.2, ← ofNat_inj hl.2 hm.2]
  exact run_equalIn_bytes w 9998 t e n ht he hsz _ _ (by rw [List.length_map]; exact hl.1) (by rw [List.length_map]; exact hm.1)
theorem yields_eql (t e t' : TypeId) (n : Nat) (x y : Operand) (hw : Region.wanted o (yielded ops a.tmps) = true) (ho : o.op = .binOp .eql t x y t')
    (l m : List Nat) (hx : a.eval x = .agg (u8s l).toArray) (hy : a.eval y = .agg (u8s m).toArray)
    (ht : P.underlying t = some (.array n e)) (he : P.underlying e = some (.int .u8)) (hsz : ∀ w, (sizeOf e).run P w = .ok 1 w) (hg : P.eqGuardType P.depth t = false)
    (hl : By n l) (hm : By n m) (b : Bool) (hb : decide (l = m) = b) : YieldsIf P ops S o (.bool b) a :=
  .inl ⟨hw, fun W hS => by
    unfold execOp
    simp only [ho, hx, hy, Sem.run_bind, Sem.run_pure, Result.andThen_ok, run_eqGuard_agg W _ t x y _ _ hg, run_eql_struct, run_eqlRow t e n ht he hsz hl hm W, hb]⟩
theorem yields_neq (t e t' : TypeId) (n : Nat) (x y : Operand) (hw : Region.wanted o (yielded ops a.tmps) = true) (ho : o.op = .binOp .neq t x y t')
    (l m : List Nat) (hx : a.eval x = .agg (u8s l).toArray) (hy : a.eval y = .agg (u8s m).toArray)
    (ht : P.underlying t = some (.array n e)) (he : P.underlying e = some (.int .u8)) (hsz : ∀ w, (sizeOf e).run P w = .ok 1 w) (hg : P.eqGuardType P.depth t = false)
    (hl : By n l) (hm : By n m) (b : Bool) (hb : (!decide (l = m)) = b) : YieldsIf P ops S o (.bool b) a :=
  .inl ⟨hw, fun W hS => by
    unfold execOp
    simp only [ho, hx, hy, Sem.run_bind, Sem.run_pure, Result.andThen_ok, run_eqGuard_agg W _ t x y _ _ hg, run_neq_struct, run_eqlRow t e n ht he hsz hl hm W, hb]⟩
/-- What no guard asks for. -/
theorem yields_not (hw : Region.wanted o (yielded ops a.tmps) = false) : YieldsIf P ops S o undef a := .inr ⟨hw, rfl⟩
end

theorem alloc_size (w : World) (o : Obj) : (w.alloc o).heap.size = w.heap.size + 1 := by simp
end Go.Proofs.YtfoenaleboodpaaGreatDoor
