/- The numbers of eight bits: powers, inverses, squares. Nothing of Go. -/
import Derived.Test.YtjbdimfpjbmggaaGreatDoorLb
import Derived.Deep.RegionHeld
import Derived.Stop.BytesEq
import Derived.Test.YtjbdimfpjbmggaaGreatDoorLo
import Derived.Test.YtjbdimfpjbmggaaGreatDoorRk2
import Derived.Test.YtjbdimfpjbmggaaGreatDoorGm
section
set_option linter.unusedVariables false
set_option linter.unusedSimpArgs false
namespace Go.Proofs.YtjbdimfpjbmggaaGreatDoor
open Go.RowKit

theorem u8s_cells {l : List Nat} (hb : ∀ n ∈ l, n < 256) : u8s l = (l.map UInt8.ofNat).map Extern.Stop.cell := by
  unfold u8s
  rw [List.map_map]
  apply List.map_congr_left
  intro n hn
  have := hb n hn
  have e : Int.ofNat (UInt8.ofNat n).toNat = (n : Int) := by
    have e2 : (UInt8.ofNat n).toNat = n := by rw [UInt8.toNat_ofNat']; exact Nat.mod_eq_of_lt (by omega)
    rw [e2]; rfl
  show Value.int .u8 (n : Int) = Value.int .u8 (Int.ofNat (UInt8.ofNat n).toNat)
  rw [e]
theorem ofNat_inj : ∀ {l m : List Nat}, (∀ n ∈ l, n < 256) → (∀ n ∈ m, n < 256) → (l.map UInt8.ofNat == m.map UInt8.ofNat) = decide (l = m) := by
  intro l m hl hm
  by_cases h : l = m
  · rw [h]; simp
  · rw [decide_eq_false h, beq_eq_false_iff_ne]
    intro hc
    apply h
    have h2 : (l.map UInt8.ofNat).map UInt8.toNat = (m.map UInt8.ofNat).map UInt8.toNat := by rw [hc]
    have h3 : ∀ l : List Nat, (∀ n ∈ l, n < 256) → (l.map UInt8.ofNat).map UInt8.toNat = l := by
      intro l hl
      rw [List.map_map]
      conv => rhs; rw [← List.map_id l]
      apply List.map_congr_left
      intro n hn
      show (UInt8.ofNat n).toNat = n
      rw [UInt8.toNat_ofNat']
      exact Nat.mod_eq_of_lt (by have := hl n hn; omega)
    rw [h3 l hl, h3 m hm] at h2
    exact h2
/-- A list of bytes, n of them. -/
def By (n : Nat) (l : List Nat) : Prop := l.length = n ∧ ∀ x ∈ l, x < 256

section
variable {P : Program} {ops : Array Oper} {S : World → Prop} {o : Oper} {a : Act}
/-- A load of a whole row is taken first, where the row is held. -/
theorem yields_row (ty : TypeId) (x : Operand) (hw : Region.wanted o (yielded ops a.tmps) = true) (ho : o.op = .load ty x)
    (g : Nat) (hx : a.eval x = .pointer (some ⟨g, 0, none⟩)) (cs : Array Value) (t : TypeId) (d : TypeDesc) (hu : P.underlying ty = some d) (hd : (match d with | .struct _ | .array _ _ => true | _ => false) = true)
    (hi : (P.info? ty).map (·.size) = some cs.size) (h : ∀ W, S W → W.heap[g]? = some (.cells cs t (0, 0))) : YieldsIf P ops S o (.agg cs) a :=
  .inl ⟨hw, fun W hS => by
    unfold execOp
    simp only [ho, hx, Instr.loadAt, Instr.sureAddr, Sem.run_bind, Sem.run_pure, Result.andThen_ok, run_loadVar_row W g t ty cs (0, 0) d (h W hS) hu hd hi]⟩
theorem run_eqlRow (t e : TypeId) (n : Nat) (ht : P.underlying t = some (.array n e)) (he : P.underlying e = some (.int .u8)) (hsz : ∀ w, (sizeOf e).run P w = .ok 1 w)
    {l m : List Nat} (hl : By n l) (hm : By n m) (w : World) : (Op.equalIn 10000 t (.agg (u8s l).toArray) (.agg (u8s m).toArray)).run P w = .ok (decide (l = m)) w := by
  rw [u8s_cells hl.2, u8s_cells hm.2, ← ofNat_inj hl.2 hm.2]
  exact run_equalIn_bytes w 9998 t e n ht he hsz _ _ (by rw [List.length_map]; exact hl.1) (by rw [List.length_map]; exact hm.1)
theorem yields_eql (t e t' : TypeId) (n : Nat) (x y : Operand) (hw : Region.wanted o (yielded ops a.tmps) = true) (ho : o.op = .binOp .eql t x y t')
    (l m : List Nat) (hx : a.eval x = .agg (u8s l).toArray) (hy : a.eval y = .agg (u8s m).toArray)
    (ht : P.underlying t = some (.array n e)) (he : P.underlying e = some (.int .u8)) (hsz : ∀ w, (sizeOf e).run P w = .ok 1 w) (hg : P.eqGuardType P.depth t = false)
    (hl : By n l) (hm : By n m) (b : Bool) (hb : decide (l = m) = b) : YieldsIf P ops S o (.bool b) a :=
  .inl ⟨hw, fun W hS => by
    unfold execOp
    simp only [ho, hx, hy, Sem.run_bind, Sem.run_pure, Result.andThen_ok, run_eqGuard_agg W _ t x y _ _ hg, run_eql_struct, run_eqlRow t e n ht he hsz hl hm W, hb]⟩
theorem yields_neq (t e t' : TypeId) (n : Nat) (x y : Operand) (hw : Region.wanted o (yielded ops a.tmps) = true) (ho : o.op = .binOp .neq t x y t')
    (l m : List Nat) (hx : a.eval x = .agg (u8s l).toArray) (hy : a.eval y = .agg (u8s m).toArray)
    (ht : P.underlying t = some (.array n e)) (he : P.underlying e = some (.int .u8)) (hsz : ∀ w, (sizeOf e).run P w = .ok 1 w) (hg : P.eqGuardType P.depth t = false)
    (hl : By n l) (hm : By n m) (b : Bool) (hb : (!decide (l = m)) = b) : YieldsIf P ops S o (.bool b) a :=
  .inl ⟨hw, fun W hS => by
    unfold execOp
    simp only [ho, hx, hy, Sem.run_bind, Sem.run_pure, Result.andThen_ok, run_eqGuard_agg W _ t x y _ _ hg, run_neq_struct, run_eqlRow t e n ht he hsz hl hm W, hb]⟩
/-- What no guard asks for. -/
theorem yields_not (hw : Region.wanted o (yielded ops a.tmps) = false) : YieldsIf P ops S o undef a := .inr ⟨hw, rfl⟩
end

theorem alloc_size (w : World) (o : Obj) : (w.alloc o).heap.size = w.heap.size + 1 := by simp
end Go.Proofs.YtjbdimfpjbmggaaGreatDoor
end
section
set_option linter.unusedVariables false
set_option linter.unusedSimpArgs false
namespace Go.Proofs.YtjbdimfpjbmggaaGreatDoor
open Go.RowKit
theorem by_lit {n : Nat} (l : List Nat) (h : (decide (l.length = n) && l.all (· < 256)) = true) : By n l := by simp at h; exact ⟨h.1, h.2⟩
theorem rep_by (n : Nat) : By n (List.replicate n 0) := ⟨by simp, fun x hx => by rw [(List.mem_replicate.1 hx).2]; decide⟩
theorem by_set {n i v : Nat} {l : List Nat} (h : By n l) (hv : v < 256) : By n (l.set i v) := ⟨by rw [List.length_set]; exact h.1, fun x hx => by
  rcases List.mem_or_eq_of_mem_set hx with hx | rfl
  · exact h.2 x hx
  · exact hv⟩
theorem u8s_rep (n : Nat) : u8s (List.replicate n 0) = List.replicate n (.int .u8 0) := by simp [u8s]
theorem u8s_mid (X : List Nat) (o n : Nat) : ((u8s X).drop o).take n = u8s ((X.drop o).take n) := by unfold u8s; rw [← List.map_drop, ← List.map_take]
theorem by_mid {m o n : Nat} {X : List Nat} (h : By m X) (hn : o + n ≤ m) : By n ((X.drop o).take n) := ⟨by rw [List.length_take, List.length_drop, h.1]; omega, fun x hx => h.2 x (List.mem_of_mem_drop (List.mem_of_mem_take hx))⟩
section
variable {P : Program} {l : List (Nat × Value)} {w : World} {x y : Operand} {t t' e n : Nat} {X Y : List Nat}
theorem pu_eqlB (ht : P.underlying t = some (.array n e)) (he : P.underlying e = some (.int .u8)) (hs : sizeB P e 1 = true) (hg : P.eqGuardType P.depth t = false) (bx : By n X) (bY : By n Y) (hx : lk l x = some (.agg (u8s X).toArray)) (hy : lk l y = some (.agg (u8s Y).toArray)) :
    Pu P (.binOp .eql t x y t') l w (.bool (decide (X = Y))) := fun n A ha d ty pos af g => by
  unfold execOp
  simp only [ha.eval hx, ha.eval hy, Sem.run_bind, Sem.run_pure, Result.andThen_ok, run_eqGuard_agg w _ t x y _ _ hg, run_eql_struct, run_eqlRow t e _ ht he (sizeB_run hs) bx bY w]
theorem pu_neqB (ht : P.underlying t = some (.array n e)) (he : P.underlying e = some (.int .u8)) (hs : sizeB P e 1 = true) (hg : P.eqGuardType P.depth t = false) (bx : By n X) (bY : By n Y) (hx : lk l x = some (.agg (u8s X).toArray)) (hy : lk l y = some (.agg (u8s Y).toArray)) :
    Pu P (.binOp .neq t x y t') l w (.bool (decide (¬ (X = Y)))) := fun n A ha d ty pos af g => by
  have e : (!decide (X = Y)) = decide (¬ (X = Y)) := by simp
  unfold execOp
  simp only [ha.eval hx, ha.eval hy, Sem.run_bind, Sem.run_pure, Result.andThen_ok, run_eqGuard_agg w _ t x y _ _ hg, run_neq_struct, run_eqlRow t _ _ ht he (sizeB_run hs) bx bY w, e]
end
end Go.Proofs.YtjbdimfpjbmggaaGreatDoor
end
section
set_option linter.unusedVariables false
set_option linter.unusedSimpArgs false
namespace Go.Proofs.YtjbdimfpjbmggaaGreatDoor
open Go Go.RowKit Go.WideShapes Go.ChangeShapes
namespace Rk
variable {P : Program} {W : World} {base : Nat} {r : Reach} {H : Type} {enc : TypeId × Value → H} {spare : Nat → Bool} {held : Bool} {b0 : Nat}
theorem ints_u8 : ∀ (l : List Value), (∀ (i : Nat) (v : Value), l[i]? = some v → ∃ x : Int, v = .int .u8 x ∧ (Lit.int .u8 x).wf = true) → ∃ xs : List Nat, l = u8s xs ∧ ∀ n ∈ xs, n < 256
  | [], _ => ⟨[], rfl, by simp⟩
  | v :: l, h => by
    obtain ⟨x, rfl, hp⟩ := h 0 v rfl
    obtain ⟨xs, rfl, hq⟩ := ints_u8 l (fun i u hu => h (i + 1) u (by simpa using hu))
    have hb := Go.bounds_u8 hp
    obtain ⟨n, rfl⟩ : ∃ n : Nat, x = (n : Int) := ⟨x.toNat, by omega⟩
    exact ⟨n :: xs, rfl, fun m hm => by rcases List.mem_cons.1 hm with rfl | hm; omega; exact hq m hm⟩
theorem one_at {cs : List Value} {i : Nat} {v : Value} (h : cs[i]? = some v) : (cs.drop i).take 1 = [v] := by
  obtain ⟨hi, hg⟩ := List.getElem?_eq_some_iff.1 h
  rw [List.drop_eq_getElem_cons hi]
  simp [hg]
/-- An array of bytes, by value. -/
theorem open_u8Array {t e : TypeId} {n : Nat} {v : Value} {d : DataW H} {p : List MemPlace} (ht : P.underlying t = some (.array n e)) (he : P.underlying e = some (.int .u8)) (hce : P.cellsOf e = 1) (hct : P.cellsOf t = n)
    (hv : Value.okWide P W r base t v) (h : DataW.Trod enc P W b0 spare held t v d p) : ∃ xs : List Nat, v = .agg (u8s xs).toArray ∧ By n xs := by
  obtain ⟨xs, rfl, hl, hw⟩ := open_intArray ht he hce hct hv h
  obtain ⟨ys, hy, hb⟩ := ints_u8 (xs.map (Value.int .u8)) (fun i v hv => by
    rw [List.getElem?_map, Option.map_eq_some_iff] at hv
    obtain ⟨x, hx, rfl⟩ := hv
    exact ⟨x, rfl, hw x (List.mem_of_getElem? hx)⟩)
  refine ⟨ys, by rw [hy], ?_, hb⟩
  have := congrArg List.length hy
  rw [List.length_map, u8s_length, hl] at this
  exact this.symm
/-- An array of arrays of bytes, by value. -/
theorem open_u8Array2 {t s e : TypeId} {n m : Nat} {v : Value} {d : DataW H} {p : List MemPlace} (ht : P.underlying t = some (.array n s)) (hs : P.underlying s = some (.array m e)) (he : P.underlying e = some (.int .u8)) (hce : P.cellsOf e = 1) (hcs : P.cellsOf s = m) (hct : P.cellsOf t = n * m)
    (hv : Value.okWide P W r base t v) (h : DataW.Trod enc P W b0 spare held t v d p) : ∃ xs : List Nat, v = .agg (u8s xs).toArray ∧ By (n * m) xs := by
  obtain ⟨cs, rfl, hsz⟩ := okWide_array ht hv
  obtain ⟨fuel, hf⟩ := h
  obtain ⟨ys, k, _, _, hl, hn, hx⟩ := DataW.trod_array ht hf
  rw [hct] at hsz
  have hlen : cs.toList.length = n * m := by simpa using hsz
  obtain ⟨xs, hxs, hb⟩ := ints_u8 cs.toList (fun i v hv => by
    have hi : i < n * m := by rw [← hlen]; exact (List.getElem?_eq_some_iff.1 hv).1
    have hm : 0 < m := by rcases Nat.eq_zero_or_pos m with e | e; subst e; simp at hi; exact e
    have hq : i / m < n := by rw [Nat.div_lt_iff_lt_mul hm]; exact hi
    have hr : i % m < m := Nat.mod_lt _ hm
    have h1 := hx (i / m) hq
    rw [hcs] at h1
    obtain ⟨y, hy1⟩ : ∃ y, ys[i / m]? = some y := ⟨_, List.getElem?_eq_getElem (by omega)⟩
    rw [hy1] at h1
    obtain ⟨zs, k2, _, _, hl2, hn2, hx2⟩ := DataW.trod_array hs h1
    have h2 := hx2 (i % m) hr
    rw [hce, Nat.mul_one] at h2
    have hv2 : (((Value.cells (.agg cs)).toList.drop (i / m * m)).take m)[i % m]? = some v := by
      rw [List.getElem?_take_of_lt hr, List.getElem?_drop, Nat.mul_comm, Nat.div_add_mod]; exact hv
    rw [one_at hv2] at h2
    obtain ⟨z, hz1⟩ : ∃ z, zs[i % m]? = some z := ⟨_, List.getElem?_eq_getElem (by omega)⟩
    rw [hz1] at h2
    obtain ⟨x, hx1, _, hx3⟩ := DataW.trod_int he h2
    simp at hx1
    exact ⟨x, hx1, hx3⟩)
  refine ⟨xs, by rw [← hxs], ?_, hb⟩
  have := congrArg List.length hxs
  rw [u8s_length, hlen] at this
  exact this.symm
theorem nat_u8 {a : Int} (h : (Lit.int .u8 a).wf = true) : ∃ m : Nat, a = (m : Int) ∧ m < 256 := by
  have := bounds_u8 h
  exact ⟨a.toNat, by omega, by omega⟩
theorem nat_u16 {a : Int} (h : (Lit.int .u16 a).wf = true) : ∃ m : Nat, a = (m : Int) ∧ m < 65536 := by
  have := bounds_u16 h
  exact ⟨a.toNat, by omega, by omega⟩
theorem nat_u32 {a : Int} (h : (Lit.int .u32 a).wf = true) : ∃ m : Nat, a = (m : Int) ∧ m < 4294967296 := by
  have := bounds_u32 h
  exact ⟨a.toNat, by omega, by omega⟩
theorem nat_u64 {a : Int} (h : (Lit.int .u64 a).wf = true) : ∃ m : Nat, a = (m : Int) ∧ m < 18446744073709551616 := by
  have := bounds_u64 h
  exact ⟨a.toNat, by omega, by omega⟩
end Rk
end Go.Proofs.YtjbdimfpjbmggaaGreatDoor
end
section
set_option linter.unusedVariables false
set_option linter.unusedSimpArgs false
namespace Go.Proofs.YtjbdimfpjbmggaaGreatDoor.Gm
theorem gpow_of {a n : Nat} (ha : a ≠ 0) : gpow a n = gexp (glog a * n) := by
  unfold gpow
  by_cases hn : n = 0
  · subst hn; simp [gexp]
  rw [if_neg hn, if_neg ha, exp_mod, ← exp_mod, ← exp_mod (glog a * n)]
  congr 1
  rw [Nat.mul_mod, Nat.mod_mod, ← Nat.mul_mod]
theorem gpow_zero {n : Nat} (hn : n ≠ 0) : gpow 0 n = 0 := by unfold gpow; rw [if_neg hn, if_pos rfl]
theorem gpow_ne0 {a : Nat} (n : Nat) (ha : a ≠ 0) : gpow a n ≠ 0 := by
  rw [gpow_of ha, ← exp_mod]; exact exp_ne0 _ (by omega)
theorem log_gexp (n : Nat) : glog (gexp n) = n % 255 := by rw [← exp_mod, log_exp _ (by omega)]
theorem gpow_add {a : Nat} (m n : Nat) (h : a < 256) : gmul (gpow a m) (gpow a n) = gpow a (m + n) := by
  by_cases ha : a = 0
  · subst ha
    by_cases hm : m = 0
    · subst hm
      rw [Nat.zero_add, gmul_comm]
      exact gmul_one (gpow_lt _ _)
    · rw [gpow_zero hm, zero_gmul, gpow_zero (by omega)]
  rw [gmul_of (gpow_ne0 m ha) (gpow_ne0 n ha), gpow_of ha, gpow_of ha, gpow_of ha, log_gexp, log_gexp, ← Nat.add_mod, exp_mod, Nat.mul_add]
theorem gpow_255 {a : Nat} (ha : a ≠ 0) : gpow a 255 = 1 := by
  unfold gpow; rw [if_neg (by decide), if_neg ha]; simp [gexp]
theorem gpow_256 {a : Nat} (h : a < 256) : gpow a 256 = a := by
  by_cases ha : a = 0
  · subst ha; exact gpow_zero (by decide)
  unfold gpow
  rw [if_neg (by decide), if_neg ha, show 256 % 255 = 1 from rfl, Nat.mul_one, Nat.mod_eq_of_lt (log_lt h ha), exp_log h ha]
theorem gpow_two {a : Nat} : gpow a 2 = gmul a a := by
  by_cases ha : a = 0
  · subst ha; rw [gpow_zero (by decide), zero_gmul]
  rw [gpow_of ha, gmul_of ha ha, exp_mod, Nat.mul_two]
theorem gmul_sq {a b : Nat} (ha : a < 256) (hb : b < 256) : gmul (a ^^^ b) (a ^^^ b) = gmul a a ^^^ gmul b b := by
  rw [gmul_xor ha hb, gmul_comm _ a, gmul_comm _ b, gmul_xor ha hb, gmul_xor ha hb, gmul_comm b a, Nat.xor_assoc, ← Nat.xor_assoc (gmul a b), Nat.xor_self, Nat.zero_xor]
theorem gdiv_ne0 {a b : Nat} (ha : a ≠ 0) : gdiv a b ≠ 0 := by
  unfold gdiv; rw [if_neg ha, ← exp_mod]; exact exp_ne0 _ (by omega)
theorem gmul_cancel {a b c : Nat} (ha : a < 256) (hb : b < 256) (h0 : c ≠ 0) (h : gmul a c = gmul b c) : a = b := by
  by_cases ha0 : a = 0
  · subst ha0
    rw [zero_gmul] at h
    rcases (gmul_eq0 b c).1 h.symm with hb0 | hc0
    · exact hb0.symm
    · exact absurd hc0 h0
  by_cases hb0 : b = 0
  · subst hb0
    rw [zero_gmul] at h
    exact absurd h (gmul_ne0 ha0 h0)
  have e := congrArg glog h
  rw [log_gmul ha0 h0, log_gmul hb0 h0] at e
  have la := log_lt ha ha0
  have lb := log_lt hb hb0
  have : glog a = glog b := by omega
  rw [← exp_log ha ha0, ← exp_log hb hb0, this]
theorem inv_inv {a : Nat} (h : a < 256) (h0 : a ≠ 0) : gdiv 1 (gdiv 1 a) = a := by
  have hi : gdiv 1 a ≠ 0 := gdiv_ne0 (by decide)
  refine gmul_cancel (gdiv_lt _ _) h hi ?_
  rw [gdiv_mul (by decide) (gdiv_lt _ _) hi, gmul_comm, gdiv_mul (by decide) h h0]
theorem mul_inv {a : Nat} (h : a < 256) (h0 : a ≠ 0) : gmul a (gdiv 1 a) = 1 := by rw [gmul_comm, gdiv_mul (by decide) h h0]
theorem pow_log {a : Nat} (h : a < 256) (h0 : a ≠ 0) : gpow 3 (glog a) = a := by
  have h3 : glog 3 = 1 := by decide
  rw [gpow_of (by decide), h3, Nat.one_mul, exp_log h h0]

end Go.Proofs.YtjbdimfpjbmggaaGreatDoor.Gm
end
