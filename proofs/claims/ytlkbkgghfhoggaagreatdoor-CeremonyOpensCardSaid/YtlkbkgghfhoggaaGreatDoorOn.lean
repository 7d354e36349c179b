/- sync.Once: what is built is built once, by whatever function over the block that holds it. -/
import Derived.Test.YtlkbkgghfhoggaaGreatDoorRk2
import Derived.Deep.RegionHeld
import Derived.Stop.BytesEq
import Derived.Test.YtlkbkgghfhoggaaGreatDoorLo
import Derived.Test.YtlkbkgghfhoggaaGreatDoorGm
import Derived.Laws.CopyOwn
import Derived.Laws.LoneSync
import Derived.Defers
import Derived.RegionCalls
section
set_option linter.unusedVariables false
set_option linter.unusedSimpArgs false
namespace Go.Proofs.YtlkbkgghfhoggaaGreatDoor
open Go.RowKit

theorem u8s_cells {l : List Nat} (hb : ∀ n ∈ l, n < 256) : u8s l = (l.map UInt8.ofNat).map Extern.Stop.cell := by
  unfold u8s
  rw [List.map_map]
  apply List.map_congr_left
  intro n hn
  have := hb n hn
  have e : Int.ofNat (UInt8.ofNat n).toNat = (n : Int) := by
    have e2 : (UInt8.ofNat n).toNat = n := by rw [UInt8.toNat_ofNat']; exact Nat.mod_eq_of_lt (by omega)
    rw [e2]; rfl
  show Value.int .u8 (n : Int) = Value.int .u8 (Int.ofNat (UInt8.ofNat n).toNat)
  rw [e]
theorem ofNat_inj : ∀ {l m : List Nat}, (∀ n ∈ l, n < 256) → (∀ n ∈ m, n < 256) → (l.map UInt8.ofNat == m.map UInt8.ofNat) = decide (l = m) := by
  intro l m hl hm
  by_cases h : l = m
  · rw [h]; simp
  · rw [decide_eq_false h, beq_eq_false_iff_ne]
    intro hc
    apply h
    have h2 : (l.map UInt8.ofNat).map UInt8.toNat = (m.map UInt8.ofNat).map UInt8.toNat := by rw [hc]
    have h3 : ∀ l : List Nat, (∀ n ∈ l, n < 256) → (l.map UInt8.ofNat).map UInt8.toNat = l := by
      intro l hl
      rw [List.map_map]
      conv => rhs; rw [← List.map_id l]
      apply List.map_congr_left
      intro n hn
      show (UInt8.ofNat n).toNat = n
      rw [UInt8.toNat_ofNat']
      exact Nat.mod_eq_of_lt (by have := hl n hn; omega)
    rw [h3 l hl, h3 m hm] at h2
    exact h2
/-- A list of bytes, n of them. -/
def By (n : Nat) (l : List Nat) : Prop := l.length = n ∧ ∀ x ∈ l, x < 256

section
variable {P : Program} {ops : Array Oper} {S : World → Prop} {o : Oper} {a : Act}
/-- A load of a whole row is taken first, where the row is held. -/
theorem yields_row (ty : TypeId) (x : Operand) (hw : Region.wanted o (yielded ops a.tmps) = true) (ho : o.op = .load ty x)
    (g : Nat) (hx : a.eval x = .pointer (some ⟨g, 0, none⟩)) (cs : Array Value) (t : TypeId) (d : TypeDesc) (hu : P.underlying ty = some d) (hd : (match d with | .struct _ | .array _ _ => true | _ => false) = true)
    (hi : (P.info? ty).map (·.size) = some cs.size) (h : ∀ W, S W → W.heap[g]? = some (.cells cs t (0, 0))) : YieldsIf P ops S o (.agg cs) a :=
  .inl ⟨hw, fun W hS => by
    unfold execOp
    simp only [ho, hx, Instr.loadAt, Instr.sureAddr, Sem.run_bind, Sem.run_pure, Result.andThen_ok, run_loadVar_row W g t ty cs (0, 0) d (h W hS) hu hd hi]⟩
end

theorem alloc_size (w : World) (o : Obj) : (w.alloc o).heap.size = w.heap.size + 1 := by simp
end Go.Proofs.YtlkbkgghfhoggaaGreatDoor
end
section
set_option linter.unusedVariables false
set_option linter.unusedSimpArgs false
namespace Go.Proofs.YtlkbkgghfhoggaaGreatDoor
open Go.RowKit
theorem by_lit {n : Nat} (l : List Nat) (h : (decide (l.length = n) && l.all (· < 256)) = true) : By n l := by simp at h; exact ⟨h.1, h.2⟩
theorem rep_by (n : Nat) : By n (List.replicate n 0) := ⟨by simp, fun x hx => by rw [(List.mem_replicate.1 hx).2]; decide⟩
theorem by_set {n i v : Nat} {l : List Nat} (h : By n l) (hv : v < 256) : By n (l.set i v) := ⟨by rw [List.length_set]; exact h.1, fun x hx => by
  rcases List.mem_or_eq_of_mem_set hx with hx | rfl
  · exact h.2 x hx
  · exact hv⟩
theorem u8s_rep (n : Nat) : u8s (List.replicate n 0) = List.replicate n (.int .u8 0) := by simp [u8s]
section
variable {P : Program} {l : List (Nat × Value)} {w : World} {x y : Operand} {t t' e n : Nat} {X Y : List Nat}
end
end Go.Proofs.YtlkbkgghfhoggaaGreatDoor
end
section
set_option linter.unusedVariables false
set_option linter.unusedSimpArgs false
namespace Go.Proofs.YtlkbkgghfhoggaaGreatDoor
open Go Go.RowKit Go.WideShapes Go.ChangeShapes
namespace Rk
variable {P : Program} {W : World} {base : Nat} {r : Reach} {H : Type} {enc : TypeId × Value → H} {spare : Nat → Bool} {held : Bool} {b0 : Nat}
theorem nat_u8 {a : Int} (h : (Lit.int .u8 a).wf = true) : ∃ m : Nat, a = (m : Int) ∧ m < 256 := by
  have := bounds_u8 h
  exact ⟨a.toNat, by omega, by omega⟩
end Rk
end Go.Proofs.YtlkbkgghfhoggaaGreatDoor
end
section
set_option linter.unusedVariables false
set_option linter.unusedSimpArgs false
namespace Go.Proofs.YtlkbkgghfhoggaaGreatDoor
open Go Go.RowKit Go.WideShapes Go.ChangeShapes
namespace Rk
variable {P : Program} {W : World} {base : Nat} {r : Reach} {H : Type} {enc : TypeId × Value → H} {held : Bool} {b0 : Nat}
theorem open_struct {t : TypeId} {fs : Array Field} {v : Value} {d : DataW H} {p : List MemPlace} (ht : P.underlying t = some (.struct fs)) (hv : Value.okWide P W r base t v) (h : DataW.Trod enc P W b0 (fun _ => true) held t v d p) :
    ∃ cs : List Value, v = .agg cs.toArray ∧ cs.length = P.cellsOf t ∧ ∀ (i : Nat) (f : Field), fs[i]? = some f → ∃ n y, DataW.trod enc P W b0 (fun _ => true) held n f.type ((cs.drop f.offset).take (P.cellsOf f.type)) = some y := by
  obtain ⟨cs, rfl, hsz⟩ := okWide_struct ht hv
  obtain ⟨fuel, hf⟩ := h
  obtain ⟨xs, n, _, _, hl, hlen, hx⟩ := DataW.trod_struct ht hf
  refine ⟨cs.toList, by simp, by simpa using hsz, fun i f hi => ?_⟩
  have h1 := hx i f hi
  have hlt : i < xs.length := by rw [hlen]; exact (Array.getElem?_eq_some_iff.1 hi).1
  rw [List.getElem?_eq_getElem hlt] at h1
  exact ⟨n, _, h1⟩
variable {cs : List Value} {fs : Array Field} {f : Field} {o : Nat}
abbrev Fields (P : Program) (W : World) (enc : TypeId × Value → H) (held : Bool) (b0 : Nat) (fs : Array Field) (cs : List Value) : Prop := ∀ (i : Nat) (f : Field), fs[i]? = some f → ∃ n y, DataW.trod enc P W b0 (fun _ => true) held n f.type ((cs.drop f.offset).take (P.cellsOf f.type)) = some y
theorem one_of {v : Value} (h : (cs.drop o).take 1 = [v]) : cs[o]? = some v := by
  have := congrArg (fun l : List Value => l[0]?) h
  simpa [List.getElem?_take, List.getElem?_drop] using this
theorem sf_int (sf : Fields P W enc held b0 fs cs) (i : Nat) (hf : fs[i]? = some f) {k : IntKind} (hu : P.underlying f.type = some (.int k)) (hc : P.cellsOf f.type = 1) (ho : f.offset = o) : ∃ x : Int, cs[o]? = some (.int k x) ∧ (Lit.int k x).wf = true := by
  subst ho
  obtain ⟨n, y, h⟩ := sf i f hf
  rw [hc] at h
  obtain ⟨x, hx1, _, hx3⟩ := DataW.trod_int hu h
  exact ⟨x, one_of hx1, hx3⟩
theorem sf_bytes (sf : Fields P W enc held b0 fs cs) (i : Nat) (hf : fs[i]? = some f) {e : TypeId} (hu : P.underlying f.type = some (.slice e)) (he : P.underlying e = some (.int .u8)) (hce : P.cellsOf e = 1) (hc : P.cellsOf f.type = 1) (ho : f.offset = o) :
    ∃ (a : Option Addr) (l : List Nat) (cap : Nat), cs[o]? = some (.slice a l.length cap) ∧ Bs W a l ∧ l.length ≤ cap ∧ cap ≤ maxLen := by
  subst ho
  obtain ⟨n, y, h⟩ := sf i f hf
  rw [hc] at h
  obtain ⟨a, l, cap, h1, h2, h3, h4⟩ := trod_bytes hu he hce h
  exact ⟨a, l, cap, one_of h1, h2, h3, h4⟩
theorem list4 {a b c d : Value} (h : cs.length = 4) (h0 : cs[0]? = some a) (h1 : cs[1]? = some b) (h2 : cs[2]? = some c) (h3 : cs[3]? = some d) : cs = [a, b, c, d] := by
  match cs, h with
  | [x, y, z, w], _ => simp at h0 h1 h2 h3; subst h0 h1 h2 h3; rfl
end Rk
end Go.Proofs.YtlkbkgghfhoggaaGreatDoor
end
section
set_option linter.unusedVariables false
set_option linter.unusedSimpArgs false
namespace Go.Proofs.YtlkbkgghfhoggaaGreatDoor.Gm
theorem gmul_cancel {a b c : Nat} (ha : a < 256) (hb : b < 256) (h0 : c ≠ 0) (h : gmul a c = gmul b c) : a = b := by
  by_cases ha0 : a = 0
  · subst ha0
    rw [zero_gmul] at h
    rcases (gmul_eq0 b c).1 h.symm with hb0 | hc0
    · exact hb0.symm
    · exact absurd hc0 h0
  by_cases hb0 : b = 0
  · subst hb0
    rw [zero_gmul] at h
    exact absurd h (gmul_ne0 ha0 h0)
  have e := congrArg glog h
  rw [log_gmul ha0 h0, log_gmul hb0 h0] at e
  have la := log_lt ha ha0
  have lb := log_lt hb hb0
  have : glog a = glog b := by omega
  rw [← exp_log ha ha0, ← exp_log hb hb0, this]
theorem mul_inv {a : Nat} (h : a < 256) (h0 : a ≠ 0) : gmul a (gdiv 1 a) = 1 := by rw [gmul_comm, gdiv_mul (by decide) h h0]

end Go.Proofs.YtlkbkgghfhoggaaGreatDoor.Gm
end
section
set_option linter.unusedVariables false
set_option linter.unusedSimpArgs false
namespace Go.Proofs.YtlkbkgghfhoggaaGreatDoor.Gm
/-- What times a is 1; 0 of 0. -/
def iv (a : Nat) : Nat := if a = 0 then 0 else gdiv 1 a
theorem iv_lt (a : Nat) : iv a < 256 := by unfold iv; split; decide; exact gdiv_lt _ _
theorem gdiv_eq {a b : Nat} (ha : a < 256) (hb : b < 256) (h0 : b ≠ 0) : gdiv a b = gmul a (gdiv 1 b) :=
  gmul_cancel (gdiv_lt _ _) (gmul_lt _ _) h0 (by rw [gdiv_mul ha hb h0, ← gmul_assoc, gdiv_mul (by decide) hb h0, gmul_one ha])
end Go.Proofs.YtlkbkgghfhoggaaGreatDoor.Gm
end
section
set_option linter.unusedVariables false
set_option linter.unusedSimpArgs false
namespace Go.Proofs.YtlkbkgghfhoggaaGreatDoor
open Go.RowKit
theorem Bs.ofBk {w : World} {p n t : Nat} {X : List Nat} (h : Bk w p (u8s X) t) (b : By n X) : Bs w (some ⟨p, 0, none⟩) X :=
  ⟨b.2, fun _ => ⟨p, 0, rfl, fun i v hi => by rw [Nat.zero_add]; exact h.cell (u8s_get hi)⟩⟩
theorem Ob.bs {w : World} {base n c : Nat} {A : Option Addr} {X : List Nat} (h : Ob w base (.slice A n c) X) : Bs w A X := by
  obtain ⟨A', c', e, hb, _⟩ := h.reads
  injection e with e1 e2 e3
  rw [e1]; exact hb
theorem Ob.le {w : World} {base n c : Nat} {A : Option Addr} {X : List Nat} (h : Ob w base (.slice A n c) X) : X.length = n ∧ X.length ≤ c := by
  rcases h.own.2 with ⟨e, hn⟩ | ⟨g, cap, cur, e, _, _, hn, _⟩
  · injection e with e1 e2 e3; omega
  · injection e with e1 e2 e3; subst e2 e3; exact ⟨rfl, hn⟩
theorem Ob.on {w w' : World} {base p : Nat} {v : Value} {X : List Nat} (h : Ob w base v X) (k : Kp (On p) w w') (hp : p < base) : Ob w' base v X := h.kept k (fun b hb hc => by have := (h.lt b hb).1; have : b = p := hc; omega)
theorem Ob.onN {w w' w0 : World} {base base' p : Nat} {v : Value} {X Y : List Nat} (h : Ob w base v X) (k : Kp (On p) w w') (h0 : Ob w0 base' v Y) (hp : w0.heap.size ≤ p) : Ob w' base v X := h.kept k (fun b hb hc => by have := (h0.lt b hb).2; have : b = p := hc; omega)
theorem Ob.top {w : World} {base : Nat} {v : Value} {X : List Nat} (h : Ob w base v X) : ∀ b, v.ownBlock = some b → b < w.heap.size := fun b hb => (h.lt b hb).2
theorem Ob.draw {w : World} {base : Nat} {v : Value} {X : List Nat} (h : Ob w base v X) : Ob w.drew base v X := ⟨h.own, h.byte⟩
/-- The bytes X lie in a slice of the call's own, behind base; nothing below base is touched. -/
structure Apd (w : World) (base : Nat) (X : List Nat) (A : Option Addr) (c : Nat) (w' : World) : Prop where
  ob : Ob w' base (.slice A X.length c) X
  le : X.length ≤ c
  kp : Kp (fun i => base ≤ i) w w'
section
variable {n : Nat} {l : List (Nat × Value)} {w : World} {d? : Option Tmp} {ty : TypeId} {pos : String} {af : Array Edge} {g? : Option (Nat × Bool)} {x y : Operand} {A B : Option Addr} {X Y : List Nat} {c c' k k' base : Nat}
theorem lo_app (h : Ob w base (.slice A k c) X) (hk : X.length = k) (hx : lk l x = some (.slice A k c)) (hy : lk l y = some (.slice B k' c')) (hk' : Y.length = k') (hB : Bs w B Y) (hlen : X.length + Y.length ≤ 70368744177664) (hbase : base ≤ w.heap.size) :
    Lo Tryz.prog ⟨d?, .call ⟨.builtin .append, #[x, y], #[22, 22]⟩, ty, pos, af, g?⟩ n l w (fun v w' => ∃ A' c', v = .slice A' (X ++ Y).length c' ∧ Apd w base (X ++ Y) A' c' w') := fun a ha K Q hK => by
  subst hk'
  refine wp_app x y rfl base (.slice A k c) X Y (ha.eval hx) h B c' (ha.eval hy) hB hlen hbase (fun v' w' h1 h2 h3 => ?_)
  obtain ⟨A', c2, rfl, h4, _⟩ := h1.reads
  exact hK _ _ ⟨A', c2, rfl, h1, h1.le.2, (Kp.refl _ w).grown h2 (fun b hb => .inl (h.lt b hb).1)⟩
end
end Go.Proofs.YtlkbkgghfhoggaaGreatDoor
end
section
set_option linter.unusedVariables false
set_option linter.unusedSimpArgs false
namespace Go.Proofs.YtlkbkgghfhoggaaGreatDoor
open Go.RowKit

theorem race_disable (w : World) : (callFunc 125 #[]).run Tryz.prog w = .ok (.value (.tuple #[])) w := run_call_mark0 Tryz.func125 (by kernel_rfl) (by kernel_rfl) (by kernel_rfl) .disable (by kernel_rfl) w
theorem race_enable (w : World) : (callFunc 127 #[]).run Tryz.prog w = .ok (.value (.tuple #[])) w := run_call_mark0 Tryz.func127 (by kernel_rfl) (by kernel_rfl) (by kernel_rfl) .enable (by kernel_rfl) w
theorem race_acquire (a : Addr) (w : World) : (callFunc 128 #[.pointer (some a)]).run Tryz.prog w = .ok (.value (.tuple #[])) w := run_call_marked Tryz.func128 (by kernel_rfl) (by kernel_rfl) (by kernel_rfl) .acquire (by kernel_rfl) a w
theorem race_releaseMerge (a : Addr) (w : World) : (callFunc 130 #[.pointer (some a)]).run Tryz.prog w = .ok (.value (.tuple #[])) w := run_call_marked Tryz.func130 (by kernel_rfl) (by kernel_rfl) (by kernel_rfl) .releaseMerge (by kernel_rfl) a w

set_option maxHeartbeats 400000 in
theorem bool_Load (a : Addr) (d : Int) (w : World) (h0 : w.cell? a = some (.int .u32 d)) :
    Calls Tryz.prog 109 #[.pointer (some a)] w fun e w' => e = .returned (.bool (d != 0)) ∧ w = w' := by
  have hl := run_call_load (P := Tryz.prog) Tryz.func115 (by kernel_rfl) (by kernel_rfl) (by kernel_rfl) .u32 (by kernel_rfl) h0
  go_enter Tryz.func109, Tryz.ntmps109
  go_wp2
  go_ret
  exact ⟨rfl, rfl⟩
set_option maxHeartbeats 400000 in
theorem store_deferred (a : Addr) (x : Value) (u : FrameMode) (w : World) (hc : w.cell? a = some x) (hz : w.frozen? a = false) :
    CallsD Tryz.prog 118 #[.pointer (some a), .bool true] u w fun e u' w' => u' = u ∧ (e = .returned (.tuple #[]) ∧ w' = w.drew.setCell a (.int .u32 1)) := by
  have hc' : w.drew.cell? a = some x := by go_simp
  have hz' : w.drew.frozen? a = false := by go_simp
  have hst := run_call_store (P := Tryz.prog) Tryz.func123 (by kernel_rfl) (by kernel_rfl) (by kernel_rfl) (by kernel_rfl) (k := .u32) (y := 1) hc' hz'
  go_enter_d Tryz.func118, Tryz.ntmps118
  go_wp2
  go_region_calls
  all_goals (go_end0; exact ⟨rfl, rfl⟩)
set_option maxRecDepth 100000 in
set_option maxHeartbeats 400000 in
theorem unlock_deferred (a : Addr) (u : FrameMode) (w : World) (hc : w.cell? a = some (.int .i32 1)) (hz : w.frozen? a = false) :
    CallsD Tryz.prog 117 #[.pointer (some a)] u w fun e u' w' => u' = u ∧ (e = .returned (.tuple #[]) ∧ w' = w.setCell a (.int .i32 0)) := by
  have hd := race_disable
  have he := race_enable
  have hr := race_releaseMerge
  have hadd := run_call_add (P := Tryz.prog) Tryz.func131 (by kernel_rfl) (by kernel_rfl) (by kernel_rfl) .i32 (by kernel_rfl) (y := -1) (s := 0) hc hz (by simp [go_sem]; rfl)
  have hcv := run_convert_to_unsafe (P := Tryz.prog) (src := 225) (dst := 113) Tryz.underlying225 Tryz.underlying113 (by kernel_rfl) hc
  go_enter_d Tryz.func117, Tryz.ntmps117
  go_wp2
  go_end0
  go_wp2
  go_end0
  exact ⟨rfl, rfl⟩
set_option maxRecDepth 100000 in
set_option maxHeartbeats 400000 in
theorem lock_free (a : Addr) (w : World) (hc : w.cell? a = some (.int .i32 0)) (hz : w.frozen? a = false) :
    Calls Tryz.prog 116 #[.pointer (some a)] w fun e w' => e = .returned (.tuple #[]) ∧ w' = w.setCell a (.int .i32 1) := by
  have hd := race_disable
  have he := race_enable
  have ha := race_acquire
  have hcas := run_call_cas_hit (P := Tryz.prog) Tryz.func126 (by kernel_rfl) (by kernel_rfl) (by kernel_rfl) .i32 (by kernel_rfl) (y := 1) hc hz
  have hc' : (w.setCell a (.int .i32 1)).cell? a = some (.int .i32 1) := World.cell?_setCell_same w a _ hc
  have hcv := run_convert_to_unsafe (P := Tryz.prog) (src := 225) (dst := 113) Tryz.underlying225 Tryz.underlying113 (by kernel_rfl) hc'
  go_enter Tryz.func116, Tryz.ntmps116
  go_wp2
  first | go_end0 | (simp only [Exit.inBlock, Exit.then]; refine bodyPost_ret (results_none rfl _ _ _) rfl ?_) | refine bodyPost_ret (results_none rfl _ _ _) rfl ?_
  go_wp2
  go_end0
  exact ⟨rfl, rfl⟩

theorem Bk.set {w : World} {p t : Nat} {L : List Value} (h : Bk w p L t) (i : Nat) (v : Value) : Bk (w.setCell ⟨p, i, none⟩ v) p (L.set i v) t := by
  have := set_at h i v
  rwa [List.setIfInBounds_toArray] at this
theorem Bk.free {w : World} {p t : Nat} {L : List Value} (h : Bk w p L t) (i : Nat) : w.frozen? ⟨p, i, none⟩ = false := free_at h i
/-- The block holds a Once (done d, state s), and R behind it. -/
abbrev OnceL (d s : Nat) (R : List Value) : List Value := .int .u32 (d : Int) :: .int .i32 (s : Int) :: .int .u32 0 :: R

set_option maxRecDepth 100000 in
set_option maxHeartbeats 1600000 in
theorem once_slow {F b t : Nat} {R R' : List Value} (w : World) (hc : callable Tryz.prog F = true) (h : Bk w b (OnceL 0 0 R) t)
    (hF : ∀ w1, Bk w1 b (OnceL 0 1 R) t → Ret Tryz.prog F #[.pointer (some ⟨b, 0, none⟩)] w1 (fun v w' => v = .tuple #[] ∧ Bk w' b (OnceL 0 1 R') t ∧ Kp (On b) w1 w')) :
    Calls Tryz.prog 110 #[.pointer (some ⟨b, 0, none⟩), .func (.func F) #[.pointer (some ⟨b, 0, none⟩)] #[]] w fun e w' => e = .returned (.tuple #[]) ∧ Bk w' b (OnceL 1 0 R') t ∧ Kp (On b) w w' := by
  have h1 : Bk (w.setCell ⟨b, 1, none⟩ (.int .i32 1)) b (OnceL 0 1 R) t := h.set 1 _
  have g1 : Kp (On b) w (w.setCell ⟨b, 1, none⟩ (.int .i32 1)) := (Kp.refl _ w).setOn 1 _
  have c1 : w.cell? ⟨b, 1, none⟩ = some (.int .i32 0) := h.cell rfl
  have f1 := h.free 1
  have hl : (w.setCell ⟨b, 1, none⟩ (.int .i32 1)).cell? ⟨b, 0, none⟩ = some (.int .u32 0) := h1.cell rfl
  have H1 := Lib.hid h1
  have G1 := Lib.hid g1
  have HF := Lib.hid hF
  have hnot : ∀ (x : Bool) (w : World), (Op.unary .not (.bool x)).run Tryz.prog w = .ok (.bool (!x)) w := fun _ _ => rfl
  have hcall : ∀ (args : Array Value) (w : World), (callFunc F args).run Tryz.prog w = .ok (.enter F args) w := fun args w => run_callFunc hc args w
  clear h h1 g1 hF hc
  go_enter_defers Tryz.func110, Tryz.ntmps110
  go_wp2_with (first | (go_at_call 116; refine (lock_free ⟨b, 1, none⟩ _ c1 f1).mono ?_; rintro e w' ⟨rfl, rfl⟩) | (go_at_call 109; refine (bool_Load ⟨b, 0, none⟩ 0 _ hl).mono ?_; rintro e w' ⟨rfl, rfl⟩))
  refine Calls.mono (HF.out _ H1.out) ?_
  rintro e w2 ⟨v, rfl, rfl, h2, g2⟩
  have H2 := Lib.hid h2
  have G2 := Lib.hid g2
  clear h2 g2
  go_wp2
  refine leaves_cons (f := 118) (args := #[.pointer (some ⟨b, 0, none⟩), .bool true]) (by simp) (by simp [go_sem]) ?_
  refine (store_deferred ⟨b, 0, none⟩ (.int .u32 0) .returning _ (H2.out.cell rfl) (H2.out.free 0)).mono ?_
  rintro e u' w'' ⟨rfl, rfl, rfl⟩
  have h3 : Bk (w2.drew.setCell ⟨b, 0, none⟩ (.int .u32 1)) b (OnceL 1 1 R') t := (H2.out.draw).set 0 _
  refine leaves_cons (f := 117) (args := #[.pointer (some ⟨b, 1, none⟩)]) (by simp [settle]) (by simp [go_sem]) ?_
  refine (unlock_deferred ⟨b, 1, none⟩ _ _ (h3.cell rfl) (h3.free 1)).mono ?_
  rintro e u' w'' ⟨rfl, rfl, rfl⟩
  have h4 := h3.set 1 (.int .i32 0)
  have g4 := ((G1.out.then_ G2.out).drew.setOn 0 (.int .u32 1)).setOn 1 (.int .i32 0)
  refine ⟨_, by simp [settle, results, Tryz.results110], rfl, h4, g4⟩

set_option maxRecDepth 100000 in
set_option maxHeartbeats 400000 in
/-- Not built yet: it is built. -/
theorem once_do {F b t : Nat} {R R' : List Value} (w : World) (hc : callable Tryz.prog F = true) (h : Bk w b (OnceL 0 0 R) t)
    (hF : ∀ w1, Bk w1 b (OnceL 0 1 R) t → Ret Tryz.prog F #[.pointer (some ⟨b, 0, none⟩)] w1 (fun v w' => v = .tuple #[] ∧ Bk w' b (OnceL 0 1 R') t ∧ Kp (On b) w1 w')) :
    Ret Tryz.prog 97 #[.pointer (some ⟨b, 0, none⟩), .func (.func F) #[.pointer (some ⟨b, 0, none⟩)] #[]] w (fun v w' => v = .tuple #[] ∧ Bk w' b (OnceL 1 0 R') t ∧ Kp (On b) w w') := by
  have hnot : ∀ (x : Bool) (w : World), (Op.unary .not (.bool x)).run Tryz.prog w = .ok (.bool (!x)) w := fun _ _ => rfl
  have c0 : w.cell? ⟨b, 0, none⟩ = some (.int .u32 0) := h.cell rfl
  have H := Lib.hid h
  have HF := Lib.hid hF
  have HC := Lib.hid hc
  clear h hF hc
  unfold Ret
  go_enter Tryz.func97, Tryz.ntmps97
  go_wp2_with (first | (go_at_call 109; refine (bool_Load ⟨b, 0, none⟩ 0 _ c0).mono ?_; rintro e w' ⟨rfl, rfl⟩) | (go_at_call 110; refine (once_slow _ HC.out H.out HF.out).mono ?_; rintro e w' ⟨rfl, h2, g2⟩))
  go_end0
  exact ⟨_, rfl, rfl, h2, g2⟩
set_option maxRecDepth 100000 in
set_option maxHeartbeats 400000 in
/-- Built: nothing happens. -/
theorem once_was {F b t : Nat} {R : List Value} (w : World) (h : Bk w b (OnceL 1 0 R) t) :
    Ret Tryz.prog 97 #[.pointer (some ⟨b, 0, none⟩), .func (.func F) #[.pointer (some ⟨b, 0, none⟩)] #[]] w (fun v w' => v = .tuple #[] ∧ Bk w' b (OnceL 1 0 R) t ∧ Kp (On b) w w') := by
  have hnot : ∀ (x : Bool) (w : World), (Op.unary .not (.bool x)).run Tryz.prog w = .ok (.bool (!x)) w := fun _ _ => rfl
  have c0 : w.cell? ⟨b, 0, none⟩ = some (.int .u32 1) := h.cell rfl
  have H := Lib.hid h
  clear h
  unfold Ret
  go_enter Tryz.func97, Tryz.ntmps97
  go_wp2_with (go_at_call 109; refine (bool_Load ⟨b, 0, none⟩ 1 _ c0).mono ?_; rintro e w' ⟨rfl, rfl⟩)
  go_end0
  exact ⟨_, rfl, rfl, H.out, Kp.refl _ _⟩
end Go.Proofs.YtlkbkgghfhoggaaGreatDoor
end
