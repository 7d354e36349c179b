/- Walks: SameSteps. -/
import Derived.Test.YtikipijafdcmfaaSl
import Derived.Test.YtikipijafdcmfaaRk2
set_option linter.unusedVariables false
set_option linter.unusedSimpArgs false
namespace Go.Proofs.Ytikipijafdcmfaa
open Go.RowKit
attribute [local go_sem] bmax2 bmax

theorem neb {a b : Nat} (h : a ≠ b) : (((a : Nat) : Int) != ((b : Nat) : Int)) = true := by rw [bne_iff_ne]; omega
theorem eqb {a b : Nat} (h : a = b) : (((a : Nat) : Int) != ((b : Nat) : Int)) = false := by subst h; simp

set_option maxRecDepth 100000 in
set_option maxHeartbeats 1000000 in
theorem SameSteps_sure (a c p q : Option Addr) (ca cc cp cq : Nat) (l m l' m' : List Nat) (w : World)
    (hg : 500 < l.length ∨ ¬ 500 < l.length ∧ (500 < m.length ∨ ¬ 500 < m.length ∧ (l'.length ≠ l.length ∨ l'.length = l.length ∧ m'.length ≠ m.length))) :
    Calls Try.prog 3 #[.slice a l.length ca, .slice c m.length cc, .agg #[.slice p l'.length cp, .slice q m'.length cq]] w fun e w' => e = .returned (.bool true) ∧ Kp No w w' := by
  rcases hg with h1 | ⟨h1, h2 | ⟨h2, h3 | ⟨h3, h4⟩⟩⟩
  · go_enter Try.func3, Try.ntmps3
    go_wp2_with fail
    refine (law12_sure _).mono ?_
    rintro e w' ⟨rfl, g⟩
    go_wp2_with fail
    go_ret
    exact ⟨rfl, ((Kp.refl No w).alloc _).then_ g⟩
  · go_enter Try.func3, Try.ntmps3
    go_wp2_with fail
    refine (law12_sure _).mono ?_
    rintro e w' ⟨rfl, g⟩
    go_wp2_with fail
    go_ret
    exact ⟨rfl, ((Kp.refl No w).alloc _).then_ g⟩
  · have b := neb h3
    clear h3
    go_enter Try.func3, Try.ntmps3
    go_wp2_with fail
    refine (law12_sure _).mono ?_
    rintro e w' ⟨rfl, g⟩
    go_wp2_with fail
    go_ret
    exact ⟨rfl, ((Kp.refl No w).alloc _).then_ g⟩
  · have b := eqb h3
    have b' := neb h4
    clear h3 h4
    go_enter Try.func3, Try.ntmps3
    go_wp2_with fail
    refine (law12_sure _).mono ?_
    rintro e w' ⟨rfl, g⟩
    go_wp2_with fail
    go_ret
    exact ⟨rfl, ((Kp.refl No w).alloc _).then_ g⟩

theorem same_Equal_at (N : Nat) (a c : Option Addr) (cap cap' : Nat) (l m : List Nat) (w : World) (h : Bs w a l) (h' : Bs w c m) (hl : l.length < 2 ^ 40) (hm : m.length < 2 ^ 40) (hN : max l.length m.length = N) :
    Calls Try.prog 9 #[.slice a l.length cap, .slice c m.length cap'] w fun e w' => e = .returned (.tuple #[.bool (decide (l = m)), .int .i64 (N : Int)]) ∧ w = w' := by
  subst hN; exact same_Equal a c cap cap' l m w h h' hl hm

set_option maxRecDepth 100000 in
set_option maxHeartbeats 1000000 in
theorem SameSteps_go (a c p q : Option Addr) (ca cc cp cq : Nat) (l m l' m' : List Nat) (w : World) (ha : Bs w a l) (hc : Bs w c m) (hp : Bs w p l') (hq : Bs w q m')
    (h1 : ¬ 500 < l.length) (h2 : ¬ 500 < m.length) (h3 : l'.length = l.length) (h4 : m'.length = m.length) :
    Calls Try.prog 3 #[.slice a l.length ca, .slice c m.length cc, .agg #[.slice p l'.length cp, .slice q m'.length cq]] w fun e w' => e = .returned (.bool true) ∧ Kp No w w' := by
  have b := eqb h3
  have b' := eqb h4
  have s1 : l.length < 2 ^ 40 := by omega
  have s2 : m.length < 2 ^ 40 := by omega
  have s3 : l'.length < 2 ^ 40 := by omega
  have s4 : m'.length < 2 ^ 40 := by omega
  have K : ∀ o, Kp No w (w.alloc o) := fun o => (Kp.refl No w).alloc o
  rcases Nat.lt_or_ge l.length m.length with hlm | hlm
  · have e1 := fun o => same_Equal_at m.length a c ca cc l m (w.alloc o) (ha.keptNo (K o)) (hc.keptNo (K o)) s1 s2 (by omega)
    have e2 := fun o => same_Equal_at m.length p q cp cq l' m' (w.alloc o) (hp.keptNo (K o)) (hq.keptNo (K o)) s3 s4 (by omega)
    have e3 := fun o => same_Equal_at m.length c a cc ca m l (w.alloc o) (hc.keptNo (K o)) (ha.keptNo (K o)) s2 s1 (by omega)
    have E1 := Lib.hid e1
    have E2 := Lib.hid e2
    have E3 := Lib.hid e3
    clear e1 e2 e3 K ha hc hp hq s1 s2 s3 s4 h3 h4
    go_enter Try.func3, Try.ntmps3
    go_wp2_with fail
    refine (E1.out _).mono ?_
    rintro e w' ⟨rfl, rfl⟩
    go_wp2_with fail
    refine (E2.out _).mono ?_
    rintro e w' ⟨rfl, rfl⟩
    go_wp2_with fail
    refine (E3.out _).mono ?_
    rintro e w' ⟨rfl, rfl⟩
    go_wp2_with fail
    refine (law12_sure _).mono ?_
    rintro e w' ⟨rfl, g⟩
    go_wp2_with fail
    go_ret
    exact ⟨rfl, ((Kp.refl No w).alloc _).then_ g⟩
  · have e1 := fun o => same_Equal_at l.length a c ca cc l m (w.alloc o) (ha.keptNo (K o)) (hc.keptNo (K o)) s1 s2 (by omega)
    have e2 := fun o => same_Equal_at l.length p q cp cq l' m' (w.alloc o) (hp.keptNo (K o)) (hq.keptNo (K o)) s3 s4 (by omega)
    have e3 := fun o => same_Equal_at l.length c a cc ca m l (w.alloc o) (hc.keptNo (K o)) (ha.keptNo (K o)) s2 s1 (by omega)
    have E1 := Lib.hid e1
    have E2 := Lib.hid e2
    have E3 := Lib.hid e3
    clear e1 e2 e3 K ha hc hp hq s1 s2 s3 s4 h3 h4
    go_enter Try.func3, Try.ntmps3
    go_wp2_with fail
    refine (E1.out _).mono ?_
    rintro e w' ⟨rfl, rfl⟩
    go_wp2_with fail
    refine (E2.out _).mono ?_
    rintro e w' ⟨rfl, rfl⟩
    go_wp2_with fail
    refine (E3.out _).mono ?_
    rintro e w' ⟨rfl, rfl⟩
    go_wp2_with fail
    refine (law12_sure _).mono ?_
    rintro e w' ⟨rfl, g⟩
    go_wp2_with fail
    go_ret
    exact ⟨rfl, ((Kp.refl No w).alloc _).then_ g⟩

theorem SameSteps_walk (a0 : Option Addr) (l0 : List Nat) (c0 : Nat) (a1 : Option Addr) (l1 : List Nat) (c1 : Nat) (xs : List Row3) (w : World) (h0 : Bs w a0 l0) (n0 : l0.length ≤ c0 ∧ c0 ≤ maxLen) (h1 : Bs w a1 l1) (n1 : l1.length ≤ c1 ∧ c1 ≤ maxLen)
    (h2 : xs.length = 2) (h3 : ∀ x ∈ xs, Bs w x.1 x.2.1 ∧ x.2.1.length ≤ x.2.2 ∧ x.2.2 ≤ maxLen) :
    Calls Try.prog 3 #[.slice a0 l0.length c0, .slice a1 l1.length c1, .agg (xs.map Row3.val).toArray] w fun e w' => e = .returned (.bool true) ∧ Below w.heap.size w w' := by
  match xs, h2 with
  | [(p, l', cp), (q, m', cq)], _ =>
    have hp := (h3 (p, l', cp) (by simp)).1
    have hq := (h3 (q, m', cq) (by simp)).1
    by_cases g1 : 500 < l0.length
    · exact (SameSteps_sure a0 a1 p q c0 c1 cp cq l0 l1 l' m' w (.inl g1)).mono fun e w' ⟨he, k⟩ => ⟨he, k.below⟩
    by_cases g2 : 500 < l1.length
    · exact (SameSteps_sure a0 a1 p q c0 c1 cp cq l0 l1 l' m' w (.inr ⟨g1, .inl g2⟩)).mono fun e w' ⟨he, k⟩ => ⟨he, k.below⟩
    by_cases g3 : l'.length = l0.length
    · by_cases g4 : m'.length = l1.length
      · exact (SameSteps_go a0 a1 p q c0 c1 cp cq l0 l1 l' m' w h0 h1 hp hq g1 g2 g3 g4).mono fun e w' ⟨he, k⟩ => ⟨he, k.below⟩
      · exact (SameSteps_sure a0 a1 p q c0 c1 cp cq l0 l1 l' m' w (.inr ⟨g1, .inr ⟨g2, .inr ⟨g3, g4⟩⟩⟩)).mono fun e w' ⟨he, k⟩ => ⟨he, k.below⟩
    · exact (SameSteps_sure a0 a1 p q c0 c1 cp cq l0 l1 l' m' w (.inr ⟨g1, .inr ⟨g2, .inl g3⟩⟩)).mono fun e w' ⟨he, k⟩ => ⟨he, k.below⟩
end Go.Proofs.Ytikipijafdcmfaa
