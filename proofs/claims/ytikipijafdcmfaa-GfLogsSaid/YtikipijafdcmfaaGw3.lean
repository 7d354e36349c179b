/- Walks: the table is built once; products, quotients, powers, logarithms. -/
import Derived.Test.YtikipijafdcmfaaGw2
set_option linter.unusedVariables false
set_option linter.unusedSimpArgs false
namespace Go.Proofs.Ytikipijafdcmfaa
open Go.RowKit Gm

set_option maxRecDepth 100000 in
set_option maxHeartbeats 1600000 in
theorem slow_build (b : Nat) (w : World) (h : TabAt w b 0 0 (etab 0) (ltab 0)) :
    Calls Try.prog 27 #[.pointer (some ⟨b, 0, none⟩), .func (.func 24) #[.pointer (some ⟨b, 0, none⟩)] #[]] w fun e w' => e = .returned (.tuple #[]) ∧ TabAt w' b 1 0 ET Gm.LT ∧ Kp (On b) w w' := by
  have h1 := tab_setState h 1
  have g1 : Kp (On b) w (w.setCell ⟨b, 1, none⟩ (.int .i32 1)) := (Kp.refl _ w).setOn 1 _
  have c1 := tab_state h
  have f1 := tab_free h 1
  have hl := tab_done h1
  have H1 := Lib.hid h1
  have G1 := Lib.hid g1
  have hnot : ∀ (x : Bool) (w : World), (Op.unary .not (.bool x)).run Try.prog w = .ok (.bool (!x)) w := fun _ _ => rfl
  clear h h1 g1
  go_enter_defers Try.func27, Try.ntmps27
  go_wp2_with (first | (go_at_call 30; refine (lock_free ⟨b, 1, none⟩ _ c1 f1).mono ?_; rintro e w' ⟨rfl, rfl⟩) | (go_at_call 26; refine (bool_Load ⟨b, 0, none⟩ 0 _ hl).mono ?_; rintro e w' ⟨rfl, rfl⟩))
  refine (gf_build b 0 1 _ H1.out).mono ?_
  rintro e w2 ⟨rfl, h2, g2⟩
  have H2 := Lib.hid h2
  have G2 := Lib.hid g2
  clear h2 g2
  go_wp2
  -- the door: two deferred calls, the last laid first
  refine leaves_cons (f := 32) (args := #[.pointer (some ⟨b, 0, none⟩), .bool true]) (by simp) (by simp [go_sem]) ?_
  refine (store_deferred ⟨b, 0, none⟩ (.int .u32 0) .returning _ (tab_done H2.out) (tab_free H2.out 0)).mono ?_
  rintro e u' w'' ⟨rfl, rfl, rfl⟩
  have h2' : TabAt w2.drew b 0 1 ET Gm.LT := H2.out
  have h3 := tab_setDone h2' 1
  refine leaves_cons (f := 31) (args := #[.pointer (some ⟨b, 1, none⟩)]) (by simp [settle]) (by simp [go_sem]) ?_
  refine (unlock_deferred ⟨b, 1, none⟩ _ _ (tab_state h3) (tab_free h3 1)).mono ?_
  rintro e u' w'' ⟨rfl, rfl, rfl⟩
  have h4 := tab_setState h3 0
  have g4 := ((G1.out.then_ G2.out).drew.setOn 0 (.int .u32 1)).setOn 1 (.int .i32 0)
  refine ⟨_, by simp [settle, results, Try.results27], rfl, h4, g4⟩

/-- A table, not built yet or built. -/
def Tab (w : World) (b : Nat) : Prop := TabAt w b 0 0 (etab 0) (ltab 0) ∨ TabAt w b 1 0 ET Gm.LT
def Built (w : World) (b : Nat) : Prop := TabAt w b 1 0 ET Gm.LT
theorem Built.tab {w : World} {b : Nat} (h : Built w b) : Tab w b := .inr h
theorem Tab.lt {w : World} {b : Nat} (h : Tab w b) : b < w.heap.size := h.elim tab_lt tab_lt
theorem Tab.kept {S : Nat → Prop} {w w' : World} {b : Nat} (h : Tab w b) (k : Kp S w w') (hn : ¬ S b) : Tab w' b := h.imp (fun h => k.blk h hn) (fun h => k.blk h hn)
theorem Built.exp {w : World} {b : Nat} (h : Built w b) (n : Nat) : w.cell? ⟨b, 3 + n % 255, none⟩ = some (.int .u8 ((gexp (n % 255) : Nat) : Int)) := tab_exp h (ET_get (by omega))
theorem Built.log {w : World} {b : Nat} (h : Built w b) {a : Nat} (ha : a < 256) (h0 : a ≠ 0) : w.cell? ⟨b, 259 + a, none⟩ = some (.int .u8 ((glog a : Nat) : Int)) := tab_log h ET_length (LT_get ha h0)

set_option maxRecDepth 100000 in
set_option maxHeartbeats 400000 in
theorem once_Do (b : Nat) (w : World) (h : Tab w b) :
    Calls Try.prog 23 #[.pointer (some ⟨b, 0, none⟩), .func (.func 24) #[.pointer (some ⟨b, 0, none⟩)] #[]] w fun e w' => e = .returned (.tuple #[]) ∧ Built w' b ∧ Kp (On b) w w' := by
  have hnot : ∀ (x : Bool) (w : World), (Op.unary .not (.bool x)).run Try.prog w = .ok (.bool (!x)) w := fun _ _ => rfl
  rcases h with h | h
  · have H := Lib.hid h
    clear h
    go_enter Try.func23, Try.ntmps23
    go_wp2_with (first | (go_at_call 26; refine (bool_Load ⟨b, 0, none⟩ 0 _ (tab_done H.out)).mono ?_; rintro e w' ⟨rfl, rfl⟩) | (go_at_call 27; refine (slow_build b _ H.out).mono ?_; rintro e w' ⟨rfl, h2, g2⟩))
    go_end0
    exact ⟨rfl, h2, g2⟩
  · have H := Lib.hid h
    clear h
    go_enter Try.func23, Try.ntmps23
    go_wp2_with (go_at_call 26; refine (bool_Load ⟨b, 0, none⟩ 1 _ (tab_done H.out)).mono ?_; rintro e w' ⟨rfl, rfl⟩)
    go_end0
    exact ⟨rfl, H.out, Kp.refl _ _⟩

set_option maxHeartbeats 400000 in
theorem gf_power_built (b n : Nat) (w : World) (hn : n < 100000) (h : Built w b) :
    Calls Try.prog 25 #[.pointer (some ⟨b, 0, none⟩), .int .i64 (n : Int)] w fun e w' => e = .returned (.int .u8 ((gexp (n % 255) : Nat) : Int)) ∧ w = w' :=
  gf_power b n _ _ _ _ _ w hn h (ET_get (by omega))

set_option maxRecDepth 100000 in
set_option maxHeartbeats 800000 in
theorem gf_Mul (b x y : Nat) (hx : x < 256) (hy : y < 256) (w : World) (h : Tab w b) :
    Calls Try.prog 16 #[.pointer (some ⟨b, 0, none⟩), .int .u8 (x : Int), .int .u8 (y : Int)] w fun e w' => e = .returned (.int .u8 ((gmul x y : Nat) : Int)) ∧ Tab w' b ∧ Kp (On b) w w' := by
  have H := Lib.hid h
  have hmf : ∀ (fn : Fn) (first cap : Array Value) (w : World), (Instr.makeFunc fn first cap).run Try.prog w = .ok (.func fn first cap) w := fun _ _ _ _ => rfl
  clear h
  by_cases hx0 : x = 0
  · subst hx0
    have e0 := Lib.hid (zero_gmul y)
    go_enter Try.func16, Try.ntmps16
    go_wp2
    go_ret
    exact ⟨retI (by rw [e0.out]; rfl), H.out, Kp.refl _ _⟩
  by_cases hy0 : y = 0
  · subst hy0
    have e0 := Lib.hid (gmul_zero x)
    have hx1 : ((x : Int) == 0) = false := beq_eq_false_iff_ne.2 (by omega)
    go_enter Try.func16, Try.ntmps16
    go_wp2
    go_ret
    exact ⟨retI (by rw [e0.out]; rfl), H.out, Kp.refl _ _⟩
  have e0 := Lib.hid (gmul_of hx0 hy0)
  have hx1 : ((x : Int) == 0) = false := beq_eq_false_iff_ne.2 (by omega)
  have hy1 : ((y : Int) == 0) = false := beq_eq_false_iff_ne.2 (by omega)
  have lx := log_lt hx hx0
  have ly := log_lt hy hy0
  go_enter Try.func16, Try.ntmps16
  go_wp2_with (go_at_call 23; refine (once_Do b _ H.out).mono ?_; rintro e w' ⟨rfl, h2, g2⟩)
  have H2 := Lib.hid h2
  have G2 := Lib.hid g2
  have c1 := h2.log hx hx0
  have c2 := h2.log hy hy0
  clear h2 g2 hx0 hy0
  have hs : IntKind.i64.wrap (((glog x : Nat) : Int) + ((glog y : Nat) : Int)) = ((glog x + glog y : Nat) : Int) := by rw [IntWalk.i64_in _ (by omega)]; omega
  go_quiet ((go_at_call 25; exact quiet_same (gf_power_built b (glog x + glog y) _ (by omega) H2.out)))
  go_wp2
  go_ret
  exact ⟨retI (by rw [e0.out]), H2.out.tab, G2.out.drewN _⟩
end Go.Proofs.Ytikipijafdcmfaa
