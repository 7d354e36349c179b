/- sync.Once: what is built is built once, by whatever function over the block that holds it. -/
import Derived.Test.YtfoenaleboodpaaGreatDoorLa
import Derived.Laws.LoneSync
import Derived.Defers
import Derived.RegionCalls
set_option linter.unusedVariables false
set_option linter.unusedSimpArgs false
namespace Go.Proofs.YtfoenaleboodpaaGreatDoor
open Go.RowKit

theorem race_disable (w : World) : (callFunc 81 #[]).run Tryz.prog w = .ok (.value (.tuple #[])) w := run_call_mark0 Tryz.func81 (by kernel_rfl) (by kernel_rfl) (by kernel_rfl) .disable (by kernel_rfl) w
theorem race_enable (w : World) : (callFunc 83 #[]).run Tryz.prog w = .ok (.value (.tuple #[])) w := run_call_mark0 Tryz.func83 (by kernel_rfl) (by kernel_rfl) (by kernel_rfl) .enable (by kernel_rfl) w
theorem race_acquire (a : Addr) (w : World) : (callFunc 84 #[.pointer (some a)]).run Tryz.prog w = .ok (.value (.tuple #[])) w := run_call_marked Tryz.func84 (by kernel_rfl) (by kernel_rfl) (by kernel_rfl) .acquire (by kernel_rfl) a w
theorem race_releaseMerge (a : Addr) (w : World) : (callFunc 86 #[.pointer (some a)]).run Tryz.prog w = .ok (.value (.tuple #[])) w := run_call_marked Tryz.func86 (by kernel_rfl) (by kernel_rfl) (by kernel_rfl) .releaseMerge (by kernel_rfl) a w

set_option maxHeartbeats 400000 in
theorem bool_Load (a : Addr) (d : Int) (w : World) (h0 : w.cell? a = some (.int .u32 d)) :
    Calls Tryz.prog 65 #[.pointer (some a)] w fun e w' => e = .returned (.bool (d != 0)) ∧ w = w' := by
  have hl := run_call_load (P := Tryz.prog) Tryz.func70 (by kernel_rfl) (by kernel_rfl) (by kernel_rfl) .u32 (by kernel_rfl) h0
  go_enter Tryz.func65, Tryz.ntmps65
  go_wp2
  go_ret
  exact ⟨rfl, rfl⟩
set_option maxHeartbeats 400000 in
theorem store_deferred (a : Addr) (x : Value) (u : FrameMode) (w : World) (hc : w.cell? a = some x) (hz : w.frozen? a = false) :
    CallsD Tryz.prog 73 #[.pointer (some a), .bool true] u w fun e u' w' => u' = u ∧ (e = .returned (.tuple #[]) ∧ w' = w.drew.setCell a (.int .u32 1)) := by
  have hc' : w.drew.cell? a = some x := by go_simp
  have hz' : w.drew.frozen? a = false := by go_simp
  have hst := run_call_store (P := Tryz.prog) Tryz.func77 (by kernel_rfl) (by kernel_rfl) (by kernel_rfl) (by kernel_rfl) (k := .u32) (y := 1) hc' hz'
  go_enter_d Tryz.func73, Tryz.ntmps73
  go_wp2
  go_region_calls
  all_goals (go_end0; exact ⟨rfl, rfl⟩)
set_option maxRecDepth 100000 in
set_option maxHeartbeats 400000 in
theorem unlock_deferred (a : Addr) (u : FrameMode) (w : World) (hc : w.cell? a = some (.int .i32 1)) (hz : w.frozen? a = false) :
    CallsD Tryz.prog 72 #[.pointer (some a)] u w fun e u' w' => u' = u ∧ (e = .returned (.tuple #[]) ∧ w' = w.setCell a (.int .i32 0)) := by
  have hd := race_disable
  have he := race_enable
  have hr := race_releaseMerge
  have hadd := run_call_add (P := Tryz.prog) Tryz.func87 (by kernel_rfl) (by kernel_rfl) (by kernel_rfl) .i32 (by kernel_rfl) (y := -1) (s := 0) hc hz (by simp [go_sem]; rfl)
  have hcv := run_convert_to_unsafe (P := Tryz.prog) (src := 157) (dst := 72) Tryz.underlying157 Tryz.underlying72 (by kernel_rfl) hc
  go_enter_d Tryz.func72, Tryz.ntmps72
  go_wp2
  go_end0
  go_wp2
  go_end0
  exact ⟨rfl, rfl⟩
set_option maxRecDepth 100000 in
set_option maxHeartbeats 400000 in
theorem lock_free (a : Addr) (w : World) (hc : w.cell? a = some (.int .i32 0)) (hz : w.frozen? a = false) :
    Calls Tryz.prog 71 #[.pointer (some a)] w fun e w' => e = .returned (.tuple #[]) ∧ w' = w.setCell a (.int .i32 1) := by
  have hd := race_disable
  have he := race_enable
  have ha := race_acquire
  have hcas := run_call_cas_hit (P := Tryz.prog) Tryz.func82 (by kernel_rfl) (by kernel_rfl) (by kernel_rfl) .i32 (by kernel_rfl) (y := 1) hc hz
  have hc' : (w.setCell a (.int .i32 1)).cell? a = some (.int .i32 1) := World.cell?_setCell_same w a _ hc
  have hcv := run_convert_to_unsafe (P := Tryz.prog) (src := 157) (dst := 72) Tryz.underlying157 Tryz.underlying72 (by kernel_rfl) hc'
  go_enter Tryz.func71, Tryz.ntmps71
  go_wp2
  first | go_end0 | (simp only [Exit.inBlock, Exit.then]; refine bodyPost_ret (results_none rfl _ _ _) rfl ?_) | refine bodyPost_ret (results_none rfl _ _ _) rfl ?_
  go_wp2
  go_end0
  exact ⟨rfl, rfl⟩

theorem Bk.set {w : World} {p t : Nat} {L : List Value} (h : Bk w p L t) (i : Nat) (v : Value) : Bk (w.setCell ⟨p, i, none⟩ v) p (L.set i v) t := by
  have := set_at h i v
  rwa [List.setIfInBounds_toArray] at this
theorem Bk.free {w : World} {p t : Nat} {L : List Value} (h : Bk w p L t) (i : Nat) : w.frozen? ⟨p, i, none⟩ = false := free_at h i
/-- The block holds a Once (done d, state s), and R behind it. -/
abbrev OnceL (d s : Nat) (R : List Value) : List Value := .int .u32 (d : Int) :: .int .i32 (s : Int) :: .int .u32 0 :: R

set_option maxRecDepth 100000 in
set_option maxHeartbeats 1600000 in
theorem once_slow {F b t : Nat} {R R' : List Value} (w : World) (hc : callable Tryz.prog F = true) (h : Bk w b (OnceL 0 0 R) t)
    (hF : ∀ w1, Bk w1 b (OnceL 0 1 R) t → Ret Tryz.prog F #[.pointer (some ⟨b, 0, none⟩)] w1 (fun v w' => v = .tuple #[] ∧ Bk w' b (OnceL 0 1 R') t ∧ Kp (On b) w1 w')) :
    Calls Tryz.prog 66 #[.pointer (some ⟨b, 0, none⟩), .func (.func F) #[.pointer (some ⟨b, 0, none⟩)] #[]] w fun e w' => e = .returned (.tuple #[]) ∧ Bk w' b (OnceL 1 0 R') t ∧ Kp (On b) w w' := by
  have h1 : Bk (w.setCell ⟨b, 1, none⟩ (.int .i32 1)) b (OnceL 0 1 R) t := h.set 1 _
  have g1 : Kp (On b) w (w.setCell ⟨b, 1, none⟩ (.int .i32 1)) := (Kp.refl _ w).setOn 1 _
  have c1 : w.cell? ⟨b, 1, none⟩ = some (.int .i32 0) := h.cell rfl
  have f1 := h.free 1
  have hl : (w.setCell ⟨b, 1, none⟩ (.int .i32 1)).cell? ⟨b, 0, none⟩ = some (.int .u32 0) := h1.cell rfl
  have H1 := Lib.hid h1
  have G1 := Lib.hid g1
  have HF := Lib.hid hF
  have hnot : ∀ (x : Bool) (w : World), (Op.unary .not (.bool x)).run Tryz.prog w = .ok (.bool (!x)) w := fun _ _ => rfl
  have hcall : ∀ (args : Array Value) (w : World), (callFunc F args).run Tryz.prog w = .ok (.enter F args) w := fun args w => run_callFunc hc args w
  clear h h1 g1 hF hc
  go_enter_defers Tryz.func66, Tryz.ntmps66
  go_wp2_with (first | (go_at_call 71; refine (lock_free ⟨b, 1, none⟩ _ c1 f1).mono ?_; rintro e w' ⟨rfl, rfl⟩) | (go_at_call 65; refine (bool_Load ⟨b, 0, none⟩ 0 _ hl).mono ?_; rintro e w' ⟨rfl, rfl⟩))
  refine Calls.mono (HF.out _ H1.out) ?_
  rintro e w2 ⟨v, rfl, rfl, h2, g2⟩
  have H2 := Lib.hid h2
  have G2 := Lib.hid g2
  clear h2 g2
  go_wp2
  refine leaves_cons (f := 73) (args := #[.pointer (some ⟨b, 0, none⟩), .bool true]) (by simp) (by simp [go_sem]) ?_
  refine (store_deferred ⟨b, 0, none⟩ (.int .u32 0) .returning _ (H2.out.cell rfl) (H2.out.free 0)).mono ?_
  rintro e u' w'' ⟨rfl, rfl, rfl⟩
  have h3 : Bk (w2.drew.setCell ⟨b, 0, none⟩ (.int .u32 1)) b (OnceL 1 1 R') t := (H2.out.draw).set 0 _
  refine leaves_cons (f := 72) (args := #[.pointer (some ⟨b, 1, none⟩)]) (by simp [settle]) (by simp [go_sem]) ?_
  refine (unlock_deferred ⟨b, 1, none⟩ _ _ (h3.cell rfl) (h3.free 1)).mono ?_
  rintro e u' w'' ⟨rfl, rfl, rfl⟩
  have h4 := h3.set 1 (.int .i32 0)
  have g4 := ((G1.out.then_ G2.out).drew.setOn 0 (.int .u32 1)).setOn 1 (.int .i32 0)
  refine ⟨_, by simp [settle, results, Tryz.results66], rfl, h4, g4⟩

set_option maxRecDepth 100000 in
set_option maxHeartbeats 400000 in
/-- Not built yet: it is built. -/
theorem once_do {F b t : Nat} {R R' : List Value} (w : World) (hc : callable Tryz.prog F = true) (h : Bk w b (OnceL 0 0 R) t)
    (hF : ∀ w1, Bk w1 b (OnceL 0 1 R) t → Ret Tryz.prog F #[.pointer (some ⟨b, 0, none⟩)] w1 (fun v w' => v = .tuple #[] ∧ Bk w' b (OnceL 0 1 R') t ∧ Kp (On b) w1 w')) :
    Ret Tryz.prog 62 #[.pointer (some ⟨b, 0, none⟩), .func (.func F) #[.pointer (some ⟨b, 0, none⟩)] #[]] w (fun v w' => v = .tuple #[] ∧ Bk w' b (OnceL 1 0 R') t ∧ Kp (On b) w w') := by
  have hnot : ∀ (x : Bool) (w : World), (Op.unary .not (.bool x)).run Tryz.prog w = .ok (.bool (!x)) w := fun _ _ => rfl
  have c0 : w.cell? ⟨b, 0, none⟩ = some (.int .u32 0) := h.cell rfl
  have H := Lib.hid h
  have HF := Lib.hid hF
  have HC := Lib.hid hc
  clear h hF hc
  unfold Ret
  go_enter Tryz.func62, Tryz.ntmps62
  go_wp2_with (first | (go_at_call 65; refine (bool_Load ⟨b, 0, none⟩ 0 _ c0).mono ?_; rintro e w' ⟨rfl, rfl⟩) | (go_at_call 66; refine (once_slow _ HC.out H.out HF.out).mono ?_; rintro e w' ⟨rfl, h2, g2⟩))
  go_end0
  exact ⟨_, rfl, rfl, h2, g2⟩
set_option maxRecDepth 100000 in
set_option maxHeartbeats 400000 in
/-- Built: nothing happens. -/
theorem once_was {F b t : Nat} {R : List Value} (w : World) (h : Bk w b (OnceL 1 0 R) t) :
    Ret Tryz.prog 62 #[.pointer (some ⟨b, 0, none⟩), .func (.func F) #[.pointer (some ⟨b, 0, none⟩)] #[]] w (fun v w' => v = .tuple #[] ∧ Bk w' b (OnceL 1 0 R) t ∧ Kp (On b) w w') := by
  have hnot : ∀ (x : Bool) (w : World), (Op.unary .not (.bool x)).run Tryz.prog w = .ok (.bool (!x)) w := fun _ _ => rfl
  have c0 : w.cell? ⟨b, 0, none⟩ = some (.int .u32 1) := h.cell rfl
  have H := Lib.hid h
  clear h
  unfold Ret
  go_enter Tryz.func62, Tryz.ntmps62
  go_wp2_with (go_at_call 65; refine (bool_Load ⟨b, 0, none⟩ 1 _ c0).mono ?_; rintro e w' ⟨rfl, rfl⟩)
  go_end0
  exact ⟨_, rfl, rfl, H.out, Kp.refl _ _⟩
end Go.Proofs.YtfoenaleboodpaaGreatDoor
