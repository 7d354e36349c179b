/- The row of the law ProgressSteps: whatever its arguments are, it returns true, and each argument reads as it did. No condition. -/
import Derived.Test.YtjbdimfpjbmggaaDoorRows
import Derived.Test.YtjbdimfpjbmggaaDoorRk6
import Derived.Test.YtjbdimfpjbmggaaDoorQe
import Derived.Test.YtjbdimfpjbmggaaDoorDr
import Derived.Test.YtjbdimfpjbmggaaDoorCards
import Derived.Test.YtjbdimfpjbmggaaDoorTie
import Derived.SevenTiedAt
import Derived.WalkKit
import Derived.ProofKit
import Derived.OpenShut
import Derived.ShutString
import Derived.ChangeOld
import Derived.Below
import Derived.SizedLaws
namespace Go.Proofs.YtjbdimfpjbmggaaDoor.progressSteps
open Go.ChangeShapes Go.WideShapes Go.ChangeAt Go.RowKit
open Go.ChangeMaps (open_string shut_string)
set_option linter.unusedVariables false
theorem own : ownKnob Tryd.prog.godebug = none := by kernel_rfl
theorem laidOut : laidOutB Tryd.prog = true := by kernel_rfl
set_option maxRecDepth 100000 in
theorem lifted (os : Os) (started : os.Started) (H : Type) (enc : TypeId × Value → H) :
    ReturnsInHanded {} Tryd.checked os 8 .any (fun w args => (Rows.progressStepsSpec.pre enc Tryd.prog Tryd.f8 [] false w args ∧ laidMetH Tryd.prog Dr.laid w) ∧ sizedMet enc Tryd.prog Tryd.f8 (OpenSpec.ofChange Rows.progressStepsSpec) false w args) (Rows.progressStepsSpec.post enc Tryd.prog Tryd.f8 false true false false) := by
  refine returnsInHanded_of_change_and (C := Tryd.checked) (X := fun w _ => laidMetH Tryd.prog Dr.laid w) (fun _ _ _ hh h => h.of_heap hh) own started (by kernel_rfl) Tryd.func8
    (ChangeSpec.witness_at (enc := enc) (C := Tryd.checked) (os := os) (X := fun w _ => laidMetH Tryd.prog Dr.laid w) false (Dr.laidWorld os) #[.agg #[.int .i64 0, .int .i64 0, .int .u32 0, .string ByteArray.empty, .slice none 0 0], .string ByteArray.empty, .agg #[.int .u8 0, .int .u32 0, .slice none 0 0]] 8 rfl (by kernel_rfl) (by kernel_rfl) (by kernel_rfl) (by kernel_rfl) (by kernel_rfl) (Dr.laidWorld_met os _)) ?_
  intro W base args ds gs before hval0 hW hcnd hsz0 hL _
  have hsz : (DataW.weightsEach Tryd.prog (Tryd.f8.params.toList ++ Rows.progressStepsSpec.plain.varTypes Tryd.prog) (ds ++ gs)).all (· ≤ reachBytes) = true := hsz0
  have hval : ∀ (j : Nat) t v, Tryd.f8.params[j]? = some t → args[j]? = some v → Value.okWide Tryd.prog W .any base t v := hval0
  have hW' := hW
  obtain ⟨p, q, hA0, hV, rfl, hfz, hnd⟩ := hW
  have hA : DataW.TrodAll enc Tryd.prog W 0 (fun _ => true) true Tryd.f8.params.toList args.toList ds p := hA0
  rw [Tryd.params8] at hA hval hsz
  obtain ⟨v0, vs0, d0, ds0, p0, q0, hargs, rfl, rfl, h0, r0⟩ := trodAll_cons hA
  obtain ⟨v1, vs1, d1, ds1, p1, q1, rfl, rfl, rfl, h1, r1⟩ := trodAll_cons r0
  obtain ⟨v2, vs2, d2, ds2, p2, q2, rfl, rfl, rfl, h2, r2⟩ := trodAll_cons r1
  obtain ⟨rfl, rfl, rfl⟩ := trodAll_nil r2
  obtain rfl : args = #[v0, v1, v2] := by cases args; simp_all
  obtain ⟨rfl, rfl⟩ := trodVars_none hV
  have k0 := h0
  have lt0 : ∀ x ∈ p0, x.block < W.heap.size := by obtain ⟨m, hm⟩ := k0; exact DataW.trod_lt m _ _ _ hm
  obtain ⟨cs0, rfl, cl0, sf0⟩ := Rk.open_struct Tryd.underlying68 (hval 0 68 v0 rfl rfl) h0
  have sub0_0 := Rk.sf_struct sf0 0 rfl Tryd.underlying25 (k := 3) (by kernel_rfl) rfl
  obtain ⟨x0_0_0, e0_0_0, w0_0_0⟩ := Rk.sf_int sub0_0 0 rfl Tryd.underlying3 (by kernel_rfl) rfl
  replace e0_0_0 := Rk.sub_at e0_0_0
  obtain ⟨x0_0_1, e0_0_1, w0_0_1⟩ := Rk.sf_int sub0_0 1 rfl Tryd.underlying3 (by kernel_rfl) rfl
  replace e0_0_1 := Rk.sub_at e0_0_1
  obtain ⟨x0_0_2, e0_0_2, w0_0_2⟩ := Rk.sf_int sub0_0 2 rfl Tryd.underlying23 (by kernel_rfl) rfl
  replace e0_0_2 := Rk.sub_at e0_0_2
  obtain ⟨x0_1, e0_1, w0_1⟩ := Rk.sf_string sf0 1 rfl Tryd.underlying9 (by kernel_rfl) rfl
  obtain ⟨a0_2, l0_2, c0_2, e0_2, y0_2, z0_2⟩ := Rk.sf_shares sf0 2 rfl Tryd.underlying36 Tryd.underlying56 Tryd.underlying5 Tryd.underlying23 Tryd.underlying22 Tryd.underlying5 (by kernel_rfl) (by kernel_rfl) (by kernel_rfl) (by kernel_rfl) rfl rfl rfl (by kernel_rfl) (by kernel_rfl) rfl
  obtain rfl : cs0 = [.int .i64 x0_0_0, .int .i64 x0_0_1, .int .u32 x0_0_2, .string x0_1, .slice a0_2 l0_2.length c0_2] := Rk.list5 (cl0.trans (by kernel_rfl)) e0_0_0 e0_0_1 e0_0_2 e0_1 e0_2
  obtain ⟨a1, rfl, rfl, rfl, y1⟩ := open_string Tryd.underlying9 (hval 1 9 v1 rfl rfl) h1
  have w1 : a1.size ≤ 140737488351232 := by
    have z := sized_string hsz (j := 1) (t := 9) rfl rfl
    rw [Array.length_toList] at z
    exact z
  have k2 := h2
  have lt2 : ∀ x ∈ p2, x.block < W.heap.size := by obtain ⟨m, hm⟩ := k2; exact DataW.trod_lt m _ _ _ hm
  obtain ⟨cs2, rfl, cl2, sf2⟩ := Rk.open_struct Tryd.underlying56 (hval 2 56 v2 rfl rfl) h2
  obtain ⟨x2_0, e2_0, w2_0⟩ := Rk.sf_int sf2 0 rfl Tryd.underlying5 (by kernel_rfl) rfl
  obtain ⟨x2_1, e2_1, w2_1⟩ := Rk.sf_int sf2 1 rfl Tryd.underlying23 (by kernel_rfl) rfl
  obtain ⟨a2_2, l2_2, c2_2, e2_2, y2_2, z2_2⟩ := Rk.sf_bytes sf2 2 rfl Tryd.underlying22 Tryd.underlying5 (by kernel_rfl) (by kernel_rfl) rfl
  obtain rfl : cs2 = [.int .u8 x2_0, .int .u32 x2_1, .slice a2_2 l2_2.length c2_2] := Rk.list3 (cl2.trans (by kernel_rfl)) e2_0 e2_1 e2_2
  obtain ⟨m0_0_2, rfl, g0_0_2⟩ : ∃ m : Nat, x0_0_2 = (m : Int) ∧ m < 4294967296 := Rk.nat_u32 w0_0_2
  obtain ⟨m2_0, rfl, g2_0⟩ : ∃ m : Nat, x2_0 = (m : Int) ∧ m < 256 := Rk.nat_u8 w2_0
  obtain ⟨m2_1, rfl, g2_1⟩ : ∃ m : Nat, x2_1 = (m : Int) ∧ m < 4294967296 := Rk.nat_u32 w2_1
  clear hA0 hval0 hsz0 hsz
  refine ((progressSteps_ x0_0_0 w0_0_0 x0_0_1 w0_0_1 m0_0_2 g0_0_2 x0_1 a0_2 l0_2 c0_2 a1 m2_0 g2_0 m2_1 g2_1 a2_2 l2_2 c2_2 W w0_1 y0_2 z0_2.1 z0_2.2 w1 y2_2 z2_2.1 z2_2.2 (Dr.handle_of_laid hL)).calls (R := fun e W' => e = .returned (.bool true) ∧ Below W.heap.size W W') (fun v W' h => ⟨congrArg _ h.1, h.2.below⟩)).mono fun e W' ⟨he, bel⟩ => ?_
  subst he
  exact ⟨_, rfl, _, _, _, [], _, [], hW', trodAll_mk1 (shut_bool Tryd.underlying4 _), (trodAll_cons_mk (Below.trod laidOut (by kernel_rfl) (of_decide_eq_true (by kernel_rfl)) k0 bel lt0) (trodAll_cons_mk (shut_string Tryd.underlying9 y1) (trodAll_cons_mk (Below.trod laidOut (by kernel_rfl) (of_decide_eq_true (by kernel_rfl)) k2 bel lt2) trodAll_mk0))), rfl, bel.frame _, fun h => by cases h⟩
theorem over : Rows.progressStepsRow.holds Tryd.pinned (OpenSpec.ofChange Rows.progressStepsSpec) :=
  OpenClaim.holds_of_wide 8 Tryd.f8 rfl rfl rfl rfl rfl rfl rfl ⟨rfl, rfl, rfl, rfl, rfl⟩ rfl rfl rfl rfl rfl (by kernel_rfl) Tryd.func8 (by kernel_rfl)
    (of_decide_eq_true (by kernel_rfl)) (by unfold Func.isWrapper; first | (rw [if_pos (by decide +kernel)]; kernel_rfl) | (rw [if_neg (by decide +kernel)]; exact ⟨rfl, rfl⟩))
    (fun os started H enc _ => lifted os started H enc)
theorem proved : Rows.ProgressStepsSaid := over
theorem card : Rows.ProgressStepsCardSaid :=
  Claim7.holds_tied_plain_at .later [] [.handle] true (true, "4a3d3c939af1d994e4c6fc6c4a0bc3f9bec36ae3e3e36d3cfb374c8158010a1e") true
    proved (fun _ h => by cases h) (by kernel_rfl) (fun _ h => by cases h) progressSteps_row_tie rfl ⟨rfl, rfl⟩ (by kernel_rfl) rfl
    (fun f fn hf hfn => by
      obtain rfl : f = 8 := Option.some.inj ((show Tryd.prog.funcNamed "bursary/bursarylaw23.ProgressSteps" = some 8 by kernel_rfl).symm.trans hf) |>.symm
      obtain rfl : fn = Tryd.f8 := (Option.some.inj (Tryd.func8.symm.trans hfn)).symm
      exact ⟨by kernel_rfl, fun j t ht => by
        rw [Tryd.params8] at ht
        have hm : t ∈ [68, 9, 56] := by simpa using Array.mem_of_getElem? ht
        have hall : ([68, 9, 56].all fun u => !Tryd.prog.wantsStandIn u) = true := by kernel_rfl
        exact (show Tryd.prog.wantsStandIn t = false by simpa using List.all_eq_true.1 hall t hm)⟩)
    (by kernel_rfl)
#print axioms card
end Go.Proofs.YtjbdimfpjbmggaaDoor.progressSteps
namespace Go.Proofs.YtjbdimfpjbmggaaDoor
/-- The row, under a short name, for the claim. -/
theorem progressSteps_holds : Rows.ProgressStepsCardSaid := progressSteps.card
end Go.Proofs.YtjbdimfpjbmggaaDoor
