/- Walks: bytes cleared. -/
import Derived.Test.YtikipijafdcmfaaOb
import Derived.Lib.SliceRun
import Derived.Laws.IdiomCopy
import Derived.Deep.Upon
set_option linter.unusedVariables false
set_option linter.unusedSimpArgs false
namespace Go.Proofs.Ytikipijafdcmfaa
open Go.RowKit

theorem zero_u8 (w : World) : (zeroValue 5).run Try.prog w = .ok (.int .u8 0) w := by kernel_rfl
theorem Kp.setCells {w : World} (b o : Nat) (vs : List Value) : Kp (On b) w (w.setCells b o vs) := by
  have : ∀ (vs : List Value) (o : Nat) (w1 : World), Kp (On b) w w1 → Kp (On b) w (w1.setCells b o vs) := by
    intro vs
    induction vs with
    | nil => intro o w1 h; exact h
    | cons v vs ih => intro o w1 h; exact ih (o + 1) _ (h.setOn o v)
  exact this vs o w (Kp.refl _ _)

set_option maxHeartbeats 400000 in
theorem same_Clear (v : Value) (base : Nat) (l : List Nat) (w : World) (h : Ob w base v l) :
    Calls Try.prog 13 #[v] w fun e w' => e = .returned (.tuple #[]) ∧ (∃ A c, v = .slice A l.length c ∧ Bs w' A (List.replicate l.length 0)) ∧ Kp (fun k => v.ownBlock = some k) w w' := by
  have hbl := h.reads
  rcases Nat.eq_zero_or_pos l.length with h0 | h0
  · have hl : l = [] := List.eq_nil_of_length_eq_zero h0
    subst hl
    obtain ⟨A, c, rfl, _, _⟩ := hbl
    have hcl : ∀ ty, (Builtin.clear_ #[22] ty #[.slice A 0 c]).run Try.prog w = .ok (.tuple #[]) w := by
      intro ty
      cases A <;> simp [Builtin.clear_, run_underlying u8_under]
    clear h h0
    go_enter Try.func13, Try.ntmps13
    go_wp2
    go_end0
    exact ⟨rfl, ⟨_, c, rfl, Bs.nil _ _⟩, Kp.refl _ _⟩
  · rcases h.own.2 with ⟨rfl, hn⟩ | ⟨g, cap, cur, rfl, hb, hh, hn, hcap, hsz, ht⟩
    · omega
    · have hc : ∀ j, j < l.length → (w.cell? ⟨g, 0 + j, none⟩).isSome = true := by
        intro j hj
        have : j < cur.size := by omega
        simp [World.cell?, hh, this]
      have hf : ∀ j, j < l.length → w.frozen? ⟨g, 0 + j, none⟩ = false := by
        intro j hj
        simp [World.frozen?, hh]
      have hrun := fun ty => Lib.run_clear_slice (P := Try.prog) w 22 5 ty (.int .u8 0) u8_under zero_u8 rfl rfl g 0 l.length cap h0 hc hf
      have hB : Bs (w.setCells g 0 (List.replicate l.length (.int .u8 0))) (some ⟨g, 0, none⟩) (List.replicate l.length 0) := by
        refine ⟨fun n hn => by have := (List.mem_replicate.1 hn).2; omega, fun _ => ⟨g, 0, rfl, fun i n hi => ?_⟩⟩
        have hil := (List.getElem?_eq_some_iff.1 hi).1
        simp only [List.length_replicate] at hil
        have := World.cell?_setCells_in g (List.replicate l.length (.int .u8 0)) 0 w (by intro j hj; exact hc j (by simpa using hj)) i (by simpa using hil)
        rw [this]
        rw [List.getElem?_replicate, if_pos hil] at hi
        injection hi with hi
        subst hi
        simp
      have hBB := Lib.hid hB
      have hKK := Lib.hid (Kp.setCells (w := w) g 0 (List.replicate l.length (.int .u8 0)))
      clear hB hf hc hh ht hsz hbl h
      go_enter Try.func13, Try.ntmps13
      go_wp2
      go_end0
      exact ⟨rfl, ⟨_, cap, rfl, hBB.out⟩, hKK.out.mono (fun k hk => by simp only [On] at hk; subst hk; rfl)⟩
end Go.Proofs.Ytikipijafdcmfaa
