/- Bytes as strings. -/
import Derived.Test.YtlkbkgghfhoggaaGreatDoorLo
import Derived.LaidEql
import Derived.Stop.Asserts
import Derived.Test.YtlkbkgghfhoggaaGreatDoorOn
import Derived.Test.YtlkbkgghfhoggaaGreatDoorPt
import Derived.Test.YtlkbkgghfhoggaaGreatDoorFt
section
set_option linter.unusedVariables false
set_option linter.unusedSimpArgs false
namespace Go.Proofs.YtlkbkgghfhoggaaGreatDoor
open Go.RowKit Go.Extern.Stop Go.Stop Go.Extern
/-- What errors.errorType holds. -/
def Gt (w : World) : Prop := w.cell? ⟨0, 0, none⟩ = some (.iface 144 (.agg #[.pointer (some ⟨1, 41, none⟩)]))
namespace As
theorem valueOfP (t : Addr) (w : World) : (ReflectliteValue.unpack (.iface 93 (.pointer (some t)))).run Tryz.prog w
    = .ok (.agg #[.pointer (some ⟨1, 93, none⟩), .pointer (some ⟨w.heap.size, 0, none⟩), .int .u64 150]) (w.alloc (.cells #[.pointer (some t)] 93)) := by kernel_rfl
theorem typeP (a : Addr) (w : World) : (ReflectliteValue.methodAny (ReflectliteValue.valueError "reflectlite.Value.Type" 0) (fun t _ _ _ => ReflectliteType.toType t) #[.agg #[.pointer (some ⟨1, 93, none⟩), .pointer (some a), .int .u64 150]]).run Tryz.prog w
    = .ok (.iface 144 (.agg #[.pointer (some ⟨1, 93, none⟩)])) w := by kernel_rfl
theorem methodKind (h : Value) (w : World) : (Go.method 363 144 (.agg #[h]) "Kind").run Tryz.prog w = .ok (154, h) w := by kernel_rfl
theorem kindP (w : World) : ((ReflectliteType.abiMethod fun t => (fun a : Nat => Value.int IntKind.u8 (a : Int)) <$> Rtype.kind t) #[.pointer (some ⟨1, 93, none⟩)]).run Tryz.prog w = .ok (.int .u8 22) w := by kernel_rfl
theorem kindE (w : World) : ((ReflectliteType.abiMethod fun t => (fun a : Nat => Value.int IntKind.u8 (a : Int)) <$> Rtype.kind t) #[.pointer (some ⟨1, 76, none⟩)]).run Tryz.prog w = .ok (.int .u8 2) w := by kernel_rfl
theorem rlm (z : Sem Value) (f : TypeId → Addr → Nat → Nat → Sem Value) (v : Value) :
    ReflectliteValue.method z f #[v] = (do match ← ReflectliteValue.parts v with | none => z | some (t, a, fl) => f t a fl (fl % 32)) := rfl
theorem partsP (a : Addr) (w : World) : (ReflectliteValue.parts (.agg #[.pointer (some ⟨1, 93, none⟩), .pointer (some a), .int .u64 150])).run Tryz.prog w = .ok (some (93, a, 150)) w := by kernel_rfl
theorem isNilP (a p : Addr) (W : World) (ha : W.cell? a = some (.pointer (some p))) :
    (ReflectliteValue.method (ReflectliteValue.valueError "reflectlite.Value.IsNil" 0) ReflectliteValue.isNil #[.agg #[.pointer (some ⟨1, 93, none⟩), .pointer (some a), .int .u64 150]]).run Tryz.prog W = .ok (.bool false) W := by
  rw [rlm]
  simp only [Sem.run_bind, partsP, Result.andThen]
  simp [ReflectliteValue.isNil, loadVar, isAgg, underlying, Tryz.underlying93, ha, Result.andThen]
theorem methodElem (h : Value) (w : World) : (Go.method 363 144 (.agg #[h]) "Elem").run Tryz.prog w = .ok (164, .agg #[h]) w := by kernel_rfl
theorem methodImplements (h : Value) (w : World) : (Go.method 363 144 (.agg #[h]) "Implements").run Tryz.prog w = .ok (165, .agg #[h]) w := by kernel_rfl
theorem methodAssignableTo (h : Value) (w : World) : (Go.method 363 144 (.agg #[h]) "AssignableTo").run Tryz.prog w = .ok (162, .agg #[h]) w := by kernel_rfl
theorem elemT (w : World) : (ReflectliteType.method ReflectliteType.elem #[.agg #[.pointer (some ⟨1, 93, none⟩)]]).run Tryz.prog w = .ok (.iface 144 (.agg #[.pointer (some ⟨1, 76, none⟩)])) w := by kernel_rfl
theorem implementsE (w : World) : (ReflectliteType.relation "Implements" ReflectliteType.implements_ #[.agg #[.pointer (some ⟨1, 76, none⟩)], .iface 144 (.agg #[.pointer (some ⟨1, 41, none⟩)])]).run Tryz.prog w = .ok (.bool true) w := by kernel_rfl
theorem typeOfE (v : Value) (w : World) : (ReflectliteType.typeOf #[.iface 76 v]).run Tryz.prog w = .ok (.iface 144 (.agg #[.pointer (some ⟨1, 76, none⟩)])) w := by kernel_rfl
theorem assignableE (w : World) : (ReflectliteType.relation "AssignableTo" ReflectliteType.assignableTo #[.agg #[.pointer (some ⟨1, 76, none⟩)], .iface 144 (.agg #[.pointer (some ⟨1, 76, none⟩)])]).run Tryz.prog w = .ok (.bool true) w := by kernel_rfl
theorem valueOfE (e : Int) (w : World) : (ReflectliteValue.unpack (.iface 76 (.int .i64 e))).run Tryz.prog w
    = .ok (.agg #[.pointer (some ⟨1, 76, none⟩), .pointer (some ⟨w.heap.size, 0, none⟩), .int .u64 130]) (w.alloc (.cells #[.int .i64 e] 76)) := by kernel_rfl
theorem elemOfP (w : World) : (Rtype.elem? 93).run Tryz.prog w = .ok (some 76) w := by kernel_rfl
theorem mkE (p : Addr) (w : World) : (ReflectliteValue.mk 76 p ReflectliteValue.flagAddr).run Tryz.prog w = .ok (.agg #[.pointer (some ⟨1, 76, none⟩), .pointer (some p), .int .u64 386]) w := by kernel_rfl
theorem elemV (a p : Addr) (W : World) (ha : W.cell? a = some (.pointer (some p))) :
    (ReflectliteValue.method (ReflectliteValue.valueError "reflectlite.Value.Elem" 0) ReflectliteValue.elem #[.agg #[.pointer (some ⟨1, 93, none⟩), .pointer (some a), .int .u64 150]]).run Tryz.prog W
      = .ok (.agg #[.pointer (some ⟨1, 76, none⟩), .pointer (some p), .int .u64 386]) W := by
  rw [rlm]
  simp only [Sem.run_bind, partsP, Result.andThen]
  simp [ReflectliteValue.elem, loadVar, isAgg, underlying, Tryz.underlying93, ha, Result.andThen, elemOfP, mkE]
theorem rls (v x : Value) : ReflectliteValue.set #[v, x] = (do
    let (some (dst, a, fl), some (src, b, _)) := (← ReflectliteValue.parts v, ← ReflectliteValue.parts x)
      | unsupported (.noEntry "extern/(internal/reflectlite.Value).Set.zeroValue")
    if fl / ReflectliteValue.flagAddr % 2 == 0 then unsupported (.noEntry "extern/(internal/reflectlite.Value).Set.unaddressable")
    let val ← loadVar src b
    if ← Rtype.directlyAssignable dst src then storeVar dst a val
    else if ← Rtype.implements dst src then
      if (← Rtype.kind src) == 20 then
        match val with
        | .nilIface => unsupported (.noEntry "extern/reflectlite: a nil value of one interface type handed on as a value of another")
        | _ => storeVar dst a val
      else storeVar dst a (.iface src val)
    else panicString ("reflectlite.Set: value of type " ++ (← Rtype.spelt src) ++ " is not assignable to type " ++ (← Rtype.spelt dst))
    pure (.tuple #[])) := rfl
theorem partsEa (a : Addr) (w : World) : (ReflectliteValue.parts (.agg #[.pointer (some ⟨1, 76, none⟩), .pointer (some a), .int .u64 386])).run Tryz.prog w = .ok (some (76, a, 386)) w := by kernel_rfl
theorem partsE (a : Addr) (w : World) : (ReflectliteValue.parts (.agg #[.pointer (some ⟨1, 76, none⟩), .pointer (some a), .int .u64 130])).run Tryz.prog w = .ok (some (76, a, 130)) w := by kernel_rfl
theorem directE (w : World) : (Rtype.directlyAssignable 76 76).run Tryz.prog w = .ok true w := by kernel_rfl
theorem setE (ta b : Addr) (e : Int) (old : Value) (W : World) (hb : W.cell? b = some (.int .i64 e)) (ht : W.cell? ta = some old) (hf : W.frozen? ta = false) :
    (ReflectliteValue.set #[.agg #[.pointer (some ⟨1, 76, none⟩), .pointer (some ta), .int .u64 386], .agg #[.pointer (some ⟨1, 76, none⟩), .pointer (some b), .int .u64 130]]).run Tryz.prog W
      = .ok (.tuple #[]) (W.setCell ta (.int .i64 e)) := by
  rw [rls]
  simp only [Sem.run_bind, partsEa, partsE, Result.andThen]
  simp [ReflectliteValue.flagAddr, loadVar, isAgg, underlying, Tryz.underlying76, hb, Result.andThen, directE, storeVar, Value.cells, storeCells, Addr.add]
  rw [run_store Tryz.prog W ta _ _ (by rfl)]
  simp [ht, hf]
set_option maxHeartbeats 4000000 in
theorem as_hit (e : Int) (t : Addr) (old : Value) (w : World) (hg : Gt w) (ht0 : w.cell? t = some old) (hf0 : w.frozen? t = false) :
    Calls Tryz.prog 28 #[.iface 76 (.int .i64 e), .iface 93 (.pointer (some t))] w fun ev w' => ev = .returned (.bool true) ∧ w' = ((((w.alloc (.cells #[.pointer (some t)] 93)).alloc (.cells #[.pointer (some ⟨1, 93, none⟩), .pointer (some ⟨w.heap.size, 0, none⟩), .int .u64 150] 116)).alloc (.cells #[.pointer (some ⟨1, 93, none⟩), .pointer (some ⟨w.heap.size, 0, none⟩), .int .u64 150] 116)).alloc (.cells #[.int .i64 e] 76)).setCell t (.int .i64 e) := by
  have h6 := @run_callFunc_extern Tryz.prog 45 _ (fun args => ReflectliteValue.unpack (args.getD 0 (.tuple #[]))) Tryz.func45 (by kernel_rfl) (by kernel_rfl) (by kernel_rfl) (by kernel_rfl)
  have h7 := @run_callFunc_extern Tryz.prog 46 _ (ReflectliteValue.methodAny (ReflectliteValue.valueError "reflectlite.Value.Type" 0) (fun t _ _ _ => ReflectliteType.toType t)) Tryz.func46 (by kernel_rfl) (by kernel_rfl) (by kernel_rfl) (by kernel_rfl)
  have h8 := @run_callFunc_extern Tryz.prog 47 _ (ReflectliteValue.method (ReflectliteValue.valueError "reflectlite.Value.IsNil" 0) ReflectliteValue.isNil) Tryz.func47 (by kernel_rfl) (by kernel_rfl) (by kernel_rfl) (by kernel_rfl)
  have h27 := @run_callFunc_extern Tryz.prog 154 _ (ReflectliteType.abiMethod fun t => do pure (.int .u8 (← Rtype.kind t))) Tryz.func154 (by kernel_rfl) (by kernel_rfl) (by kernel_rfl) (by kernel_rfl)
  have h37 := @run_callFunc_extern Tryz.prog 164 _ (ReflectliteType.method ReflectliteType.elem) Tryz.func164 (by kernel_rfl) (by kernel_rfl) (by kernel_rfl) (by kernel_rfl)
  have h38 := @run_callFunc_extern Tryz.prog 165 _ (ReflectliteType.relation "Implements" ReflectliteType.implements_) Tryz.func165 (by kernel_rfl) (by kernel_rfl) (by kernel_rfl) (by kernel_rfl)
  have h10 := @run_callFunc_extern Tryz.prog 62 _ ReflectliteType.typeOf Tryz.func62 (by kernel_rfl) (by kernel_rfl) (by kernel_rfl) (by kernel_rfl)
  have h35 := @run_callFunc_extern Tryz.prog 162 _ (ReflectliteType.relation "AssignableTo" ReflectliteType.assignableTo) Tryz.func162 (by kernel_rfl) (by kernel_rfl) (by kernel_rfl) (by kernel_rfl)
  have h11 := @run_callFunc_extern Tryz.prog 63 _ (ReflectliteValue.method (ReflectliteValue.valueError "reflectlite.Value.Elem" 0) ReflectliteValue.elem) Tryz.func63 (by kernel_rfl) (by kernel_rfl) (by kernel_rfl) (by kernel_rfl)
  have h12 := @run_callFunc_extern Tryz.prog 64 _ ReflectliteValue.set Tryz.func64 (by kernel_rfl) (by kernel_rfl) (by kernel_rfl) (by kernel_rfl)
  have tO := typeOfE
  have mA := methodAssignableTo
  have a25 := assignableE
  have v25 := valueOfE
  have f6 := valueOfP
  have f7 := typeP
  have mK := methodKind
  have mE := methodElem
  have mI := methodImplements
  have k27 := kindP
  have k25 := kindE
  have e27 := elemT
  have i25 := implementsE
  have hg : w.cell? ⟨0, 0, none⟩ = some (.iface 144 (.agg #[.pointer (some ⟨1, 41, none⟩)])) := hg
  have n8 := isNilP ⟨w.heap.size, 0, none⟩ t ((w.alloc (.cells #[.pointer (some t)] 93)).alloc (.cells #[.pointer (some ⟨1, 93, none⟩), .pointer (some ⟨w.heap.size, 0, none⟩), .int .u64 150] 116)) (by simp)
  have hlt : 0 < w.heap.size := World.block_lt_of_cell? w ⟨0, 0, none⟩ hg
  have hg2 : ((w.alloc (.cells #[.pointer (some t)] 93)).alloc (.cells #[.pointer (some ⟨1, 93, none⟩), .pointer (some ⟨w.heap.size, 0, none⟩), .int .u64 150] 116)).cell? ⟨0, 0, none⟩ = some (.iface 144 (.agg #[.pointer (some ⟨1, 41, none⟩)])) := by
    rw [World.cell?_alloc_lt _ _ ⟨0, 0, none⟩ (by simp <;> omega), World.cell?_alloc_lt _ _ ⟨0, 0, none⟩ hlt]; exact hg
  have htl : t.block < w.heap.size := World.block_lt_of_cell? w t ht0
  have el := elemV ⟨w.heap.size, 0, none⟩ t (((w.alloc (.cells #[.pointer (some t)] 93)).alloc (.cells #[.pointer (some ⟨1, 93, none⟩), .pointer (some ⟨w.heap.size, 0, none⟩), .int .u64 150] 116)).alloc (.cells #[.pointer (some ⟨1, 93, none⟩), .pointer (some ⟨w.heap.size, 0, none⟩), .int .u64 150] 116)) (by rw [World.cell?_alloc_lt _ _ ⟨w.heap.size, 0, none⟩ (by simp; omega)]; simp)
  have st := setE t ⟨w.heap.size + 1 + 1 + 1, 0, none⟩ e old ((((w.alloc (.cells #[.pointer (some t)] 93)).alloc (.cells #[.pointer (some ⟨1, 93, none⟩), .pointer (some ⟨w.heap.size, 0, none⟩), .int .u64 150] 116)).alloc (.cells #[.pointer (some ⟨1, 93, none⟩), .pointer (some ⟨w.heap.size, 0, none⟩), .int .u64 150] 116)).alloc (.cells #[.int .i64 e] 76))
    (by rw [World.cell?_alloc_at _ _ _ _ (by simp)]; rfl)
    (by rw [World.cell?_alloc_lt _ _ t (by simp; omega), World.cell?_alloc_lt _ _ t (by simp; omega), World.cell?_alloc_lt _ _ t (by simp; omega), World.cell?_alloc_lt _ _ t htl]; exact ht0)
    (by rw [World.frozen?_alloc_old _ _ t (by simp; omega), World.frozen?_alloc_old _ _ t (by simp; omega), World.frozen?_alloc_old _ _ t (by simp; omega), World.frozen?_alloc_old _ _ t (Nat.ne_of_lt htl)]; exact hf0)
  go_enter Tryz.func28, Tryz.ntmps28
  go_wp2
  refine wp_loop_rounds 1 ?_
  rw [rounds_succ]
  go_wp2
  go_ret
  exact ⟨rfl, rfl⟩
end As
theorem bk_set {w : World} {p t : Nat} {L : List Value} (h : Bk w p L t) (i : Nat) (v : Value) : Bk (w.setCell ⟨p, i, none⟩ v) p (L.set i v) t := by
  have := set_at h i v
  rwa [List.setIfInBounds_toArray] at this
theorem as_ret (e : Int) (p : Nat) (old : Value) (w : World) (hg : Gt w) (hb : Bk w p [old] 76) :
    Ret Tryz.prog 28 #[.iface 76 (.int .i64 e), .iface 93 (.pointer (some ⟨p, 0, none⟩))] w (fun v w' => v = .bool true ∧ Bk w' p [.int .i64 e] 76 ∧ Kp (On p) w w') :=
  Ret.of_calls (As.as_hit e ⟨p, 0, none⟩ old w hg (cell_at hb rfl) (free_at hb 0)) fun ev w' h => ⟨_, h.1, rfl, by
    obtain ⟨_, rfl⟩ := h
    exact bk_set (L := [old]) (old_at _ (old_at _ (old_at _ (old_at _ hb)))) 0 (.int .i64 e), by
    obtain ⟨_, rfl⟩ := h
    exact (((((Kp.refl (On p) w).alloc _).alloc _).alloc _).alloc _).setOn 0 _⟩
section
variable {w w' : World} {S : Nat → Prop}
theorem Gt.kept (h : Gt w) (k : Kp S w w') (hn : ¬ S 0) : Gt w' := Kp.cell k (a := ⟨0, 0, none⟩) h hn
theorem Gt.no (h : Gt w) (k : Kp No w w') : Gt w' := h.kept k (fun f => f)
theorem Gt.on (h : Gt w) {q : Nat} (k : Kp (On q) w w') (hn : 0 ≠ q) : Gt w' := h.kept k hn
theorem Gt.lt (h : Gt w) : 0 < w.heap.size := World.block_lt_of_cell? w ⟨0, 0, none⟩ h
theorem Gt.draw (h : Gt w) : Gt w.drew := h
end
end Go.Proofs.YtlkbkgghfhoggaaGreatDoor
end
section
set_option linter.unusedVariables false
set_option linter.unusedSimpArgs false
namespace Go.Proofs.YtlkbkgghfhoggaaGreatDoor
open Go.RowKit
def bL (f : Nat → Bool) : List Value := (List.range 256).map fun v => .bool (f v)
theorem bL_length (f : Nat → Bool) : (bL f).length = 256 := by simp [bL]
theorem bL_get {f : Nat → Bool} {v : Nat} (h : v < 256) : (bL f)[v]? = some (.bool (f v)) := by simp [bL, List.getElem?_map, List.getElem?_range h]
theorem bL_one (f : Nat → Bool) : ∀ u ∈ bL f, u.oneCell' = true := fun u hu => by obtain ⟨v, _, rfl⟩ := List.mem_map.1 hu; rfl
theorem bL_set {f : Nat → Bool} {n : Nat} : (bL f).set n (.bool true) = bL (fun v => decide (v = n) || f v) := by
  apply List.ext_getElem?
  intro i
  by_cases hi : i < 256
  · rw [bL_get hi, List.getElem?_set]
    by_cases e : n = i
    · subst e; simp [bL_length, hi]
    · have e' : ¬ i = n := fun h => e h.symm
      simp [e, e', bL_get hi]
  · rw [List.getElem?_eq_none (by rw [List.length_set, bL_length]; omega), List.getElem?_eq_none (by rw [bL_length]; omega)]
def seen (l : List Nat) (i v : Nat) : Bool := decide (v ∈ l.take i)
theorem seen_zero (l : List Nat) : bL (fun _ => false) = bL (seen l 0) := congrArg bL (funext fun v => by simp [seen])
theorem seen_step {l : List Nat} {i n : Nat} (h : l[i]? = some n) : bL (fun v => decide (v = n) || seen l i v) = bL (seen l (i + 1)) := congrArg bL (funext fun v => by
  unfold seen
  rw [List.take_add_one, h, Bool.eq_iff_iff]
  simp [or_comm])
theorem may_seen {l : List Nat} {i n : Nat} (e : l[i]? = some n) (h : seen l i n = true) : ¬ Gm.May l := by
  have := of_decide_eq_true h
  obtain ⟨j, hj, hn⟩ := List.getElem_of_mem this
  have hj2 : j < i := by rw [List.length_take] at hj; omega
  rw [List.getElem_take] at hn
  exact Gm.may_twice hj2 (List.getElem?_eq_some_iff.2 ⟨_, hn⟩) e rfl
theorem di_seen {l : List Nat} {i n : Nat} (hD : ∀ a b, a < b → b < i → l.getD a 0 ≠ l.getD b 0) (e : l[i]? = some n) (h : seen l i n = false) : ∀ a b, a < b → b < i + 1 → l.getD a 0 ≠ l.getD b 0 := fun a b h1 h2 => by
  rcases Nat.lt_or_ge b i with h3 | h3
  · exact hD a b h1 h3
  · obtain rfl : b = i := by omega
    intro heq
    have hn : l.getD b 0 = n := by rw [List.getD_eq_getElem?_getD, e]; rfl
    have hb := (List.getElem?_eq_some_iff.1 e).1
    refine of_decide_eq_false h ?_
    rw [← hn, ← heq, List.getD_eq_getElem?_getD, List.getElem?_eq_getElem (by omega : a < l.length)]
    exact List.mem_take_iff_getElem.2 ⟨a, by omega, rfl⟩
end Go.Proofs.YtlkbkgghfhoggaaGreatDoor
end
