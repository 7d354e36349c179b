/- The row of the law GcmFlips: whatever its arguments are, it returns true, and each argument reads as it did. No condition. -/
import Derived.Test.YtfoenaleboodpaaDoorRows
import Derived.Test.YtfoenaleboodpaaDoorRk4
import Derived.Test.YtfoenaleboodpaaDoorGd
import Derived.Test.YtfoenaleboodpaaDoorDr
import Derived.Test.YtfoenaleboodpaaDoorCards
import Derived.Test.YtfoenaleboodpaaDoorTie
import Derived.SevenTiedAt
import Derived.WalkKit
import Derived.ProofKit
import Derived.OpenShut
import Derived.ShutString
import Derived.ChangeOld
import Derived.Below
import Derived.SizedLaws
namespace Go.Proofs.YtfoenaleboodpaaDoor.gcmFlips
open Go.ChangeShapes Go.WideShapes Go.ChangeAt Go.RowKit
open Go.ChangeMaps (open_string shut_string)
set_option linter.unusedVariables false
theorem own : ownKnob Tryd.prog.godebug = none := by kernel_rfl
theorem laidOut : laidOutB Tryd.prog = true := by kernel_rfl
set_option maxRecDepth 100000 in
theorem lifted (os : Os) (started : os.Started) (H : Type) (enc : TypeId × Value → H) :
    ReturnsInHanded {} Tryd.checked os 6 .any (fun w args => (Rows.gcmFlipsSpec.pre enc Tryd.prog Tryd.f6 [] false w args ∧ laidMetH Tryd.prog Dr.laid w) ∧ sizedMet enc Tryd.prog Tryd.f6 (OpenSpec.ofChange Rows.gcmFlipsSpec) false w args) (Rows.gcmFlipsSpec.post enc Tryd.prog Tryd.f6 false true false false) := by
  refine returnsInHanded_of_change_and (C := Tryd.checked) (X := fun w _ => laidMetH Tryd.prog Dr.laid w) (fun _ _ _ hh h => h.of_heap hh) own started (by kernel_rfl) Tryd.func6
    (ChangeSpec.witness_at (enc := enc) (C := Tryd.checked) (os := os) (X := fun w _ => laidMetH Tryd.prog Dr.laid w) false (Dr.laidWorld os) #[.agg #[.slice none 0 0, .slice none 0 0, .slice none 0 0], .slice none 0 0, .int .i64 0] 8 rfl (by kernel_rfl) (by kernel_rfl) (by kernel_rfl) (by kernel_rfl) (by kernel_rfl) (Dr.laidWorld_met os _)) ?_
  intro W base args ds gs before hval0 hW hcnd hsz0 hL _
  have hsz : (DataW.weightsEach Tryd.prog (Tryd.f6.params.toList ++ Rows.gcmFlipsSpec.plain.varTypes Tryd.prog) (ds ++ gs)).all (· ≤ reachBytes) = true := hsz0
  have hval : ∀ (j : Nat) t v, Tryd.f6.params[j]? = some t → args[j]? = some v → Value.okWide Tryd.prog W .any base t v := hval0
  have hW' := hW
  obtain ⟨p, q, hA0, hV, rfl, hfz, hnd⟩ := hW
  have hA : DataW.TrodAll enc Tryd.prog W 0 (fun _ => true) true Tryd.f6.params.toList args.toList ds p := hA0
  rw [Tryd.params6] at hA hval hsz
  obtain ⟨v0, vs0, d0, ds0, p0, q0, hargs, rfl, rfl, h0, r0⟩ := trodAll_cons hA
  obtain ⟨v1, vs1, d1, ds1, p1, q1, rfl, rfl, rfl, h1, r1⟩ := trodAll_cons r0
  obtain ⟨v2, vs2, d2, ds2, p2, q2, rfl, rfl, rfl, h2, r2⟩ := trodAll_cons r1
  obtain ⟨rfl, rfl, rfl⟩ := trodAll_nil r2
  obtain rfl : args = #[v0, v1, v2] := by cases args; simp_all
  obtain ⟨rfl, rfl⟩ := trodVars_none hV
  have k0 := h0
  have lt0 : ∀ x ∈ p0, x.block < W.heap.size := by obtain ⟨m, hm⟩ := k0; exact DataW.trod_lt m _ _ _ hm
  obtain ⟨cs0, rfl, cl0, sf0⟩ := Rk.open_struct Tryd.underlying45 (hval 0 45 v0 rfl rfl) h0
  obtain ⟨a0_0, l0_0, c0_0, e0_0, y0_0, z0_0⟩ := Rk.sf_bytes sf0 0 rfl Tryd.underlying22 Tryd.underlying5 (by kernel_rfl) (by kernel_rfl) rfl
  obtain ⟨a0_1, l0_1, c0_1, e0_1, y0_1, z0_1⟩ := Rk.sf_bytes sf0 1 rfl Tryd.underlying22 Tryd.underlying5 (by kernel_rfl) (by kernel_rfl) rfl
  obtain ⟨a0_2, l0_2, c0_2, e0_2, y0_2, z0_2⟩ := Rk.sf_bytes sf0 2 rfl Tryd.underlying22 Tryd.underlying5 (by kernel_rfl) (by kernel_rfl) rfl
  obtain rfl : cs0 = [.slice a0_0 l0_0.length c0_0, .slice a0_1 l0_1.length c0_1, .slice a0_2 l0_2.length c0_2] := Rk.list3 (cl0.trans (by kernel_rfl)) e0_0 e0_1 e0_2
  have k1 := h1
  have lt1 : ∀ x ∈ p1, x.block < W.heap.size := by obtain ⟨m, hm⟩ := k1; exact DataW.trod_lt m _ _ _ hm
  obtain ⟨a1, l1, c1, rfl, y1, z1⟩ := Rk.open_bytes Tryd.underlying22 Tryd.underlying5 (by kernel_rfl) (hval 1 22 v1 rfl rfl) h1
  obtain ⟨a2, rfl, rfl, rfl, w2⟩ := open_int Tryd.underlying3 (hval 2 3 v2 rfl rfl) h2
  clear hA0 hval0 hsz0 hsz
  refine ((gcmFlips_ a0_0 l0_0 c0_0 a0_1 l0_1 c0_1 a0_2 l0_2 c0_2 a1 l1 c1 a2 w2 W y0_0 z0_0.1 y0_1 z0_1.1 y0_2 z0_2.1 y1 z1.1 (Dr.handle_of_laid hL)).calls (R := fun e W' => e = .returned (.bool true) ∧ Below W.heap.size W W') (fun v W' h => ⟨congrArg _ h.1, h.2.below⟩)).mono fun e W' ⟨he, bel⟩ => ?_
  subst he
  exact ⟨_, rfl, _, _, _, [], _, [], hW', trodAll_mk1 (shut_bool Tryd.underlying4 _), (trodAll_cons_mk (Below.trod laidOut (by kernel_rfl) (of_decide_eq_true (by kernel_rfl)) k0 bel lt0) (trodAll_cons_mk (Below.trod laidOut (by kernel_rfl) (of_decide_eq_true (by kernel_rfl)) k1 bel lt1) (trodAll_cons_mk (shut_int Tryd.underlying3 w2) trodAll_mk0))), rfl, bel.frame _, fun h => by cases h⟩
theorem over : Rows.gcmFlipsRow.holds Tryd.pinned (OpenSpec.ofChange Rows.gcmFlipsSpec) :=
  OpenClaim.holds_of_wide 6 Tryd.f6 rfl rfl rfl rfl rfl rfl rfl ⟨rfl, rfl, rfl, rfl, rfl⟩ rfl rfl rfl rfl rfl (by kernel_rfl) Tryd.func6 (by kernel_rfl)
    (of_decide_eq_true (by kernel_rfl)) (by unfold Func.isWrapper; first | (rw [if_pos (by decide +kernel)]; kernel_rfl) | (rw [if_neg (by decide +kernel)]; exact ⟨rfl, rfl⟩))
    (fun os started H enc _ => lifted os started H enc)
theorem proved : Rows.GcmFlipsSaid := over
theorem card : Rows.GcmFlipsCardSaid :=
  Claim7.holds_tied_plain_at .later [] [.handle] true (true, "edc0ed3452540793785597af1f28041cbd191083da350786757dedd98ef25e18") true
    proved (fun _ h => by cases h) (by kernel_rfl) (fun _ h => by cases h) gcmFlips_row_tie rfl ⟨rfl, rfl⟩ (by kernel_rfl) rfl
    (fun f fn hf hfn => by
      obtain rfl : f = 6 := Option.some.inj ((show Tryd.prog.funcNamed "bursary/bursarylaw11.GcmFlips" = some 6 by kernel_rfl).symm.trans hf) |>.symm
      obtain rfl : fn = Tryd.f6 := (Option.some.inj (Tryd.func6.symm.trans hfn)).symm
      exact ⟨by kernel_rfl, fun j t ht => by
        rw [Tryd.params6] at ht
        have hm : t ∈ [45, 22, 3] := by simpa using Array.mem_of_getElem? ht
        have hall : ([45, 22, 3].all fun u => !Tryd.prog.wantsStandIn u) = true := by kernel_rfl
        exact (show Tryd.prog.wantsStandIn t = false by simpa using List.all_eq_true.1 hall t hm)⟩)
    (by kernel_rfl)
#print axioms card
end Go.Proofs.YtfoenaleboodpaaDoor.gcmFlips
namespace Go.Proofs.YtfoenaleboodpaaDoor
/-- The row, under a short name, for the claim. -/
theorem gcmFlips_holds : Rows.GcmFlipsCardSaid := gcmFlips.card
end Go.Proofs.YtfoenaleboodpaaDoor
