/- The row of the law CeremonyOpens: whatever its arguments are, it returns true, and each argument reads as it did. No condition. -/
import Derived.Test.YtlkbkgghfhoggaaGreatDoorRows
import Derived.Test.YtlkbkgghfhoggaaGreatDoorOn
import Derived.Test.YtlkbkgghfhoggaaGreatDoorVe
import Derived.Test.YtlkbkgghfhoggaaGreatDoorDr
import Derived.Test.YtlkbkgghfhoggaaGreatDoorCards
import Derived.Test.YtlkbkgghfhoggaaGreatDoorTie
import Derived.SevenTiedAt
import Derived.WalkKit
import Derived.ProofKit
import Derived.OpenShut
import Derived.ShutString
import Derived.ChangeOld
import Derived.Below
import Derived.SizedLaws
namespace Go.Proofs.YtlkbkgghfhoggaaGreatDoor.ceremonyOpens
open Go.ChangeShapes Go.WideShapes Go.ChangeAt Go.RowKit
open Go.ChangeMaps (open_string shut_string)
set_option linter.unusedVariables false
theorem own : ownKnob Tryz.prog.godebug = none := by kernel_rfl
theorem laidOut : laidOutB Tryz.prog = true := by kernel_rfl
set_option maxRecDepth 100000 in
theorem lifted (os : Os) (started : os.Started) (H : Type) (enc : TypeId × Value → H) :
    ReturnsInHanded {} Tryz.checked os 4 .any (fun w args => (Rows.ceremonyOpensSpec.pre enc Tryz.prog Tryz.f4 [] false w args ∧ laidMetH Tryz.prog Dr.laid w) ∧ sizedMet enc Tryz.prog Tryz.f4 (OpenSpec.ofChange Rows.ceremonyOpensSpec) false w args) (Rows.ceremonyOpensSpec.post enc Tryz.prog Tryz.f4 false true false false) := by
  refine returnsInHanded_of_change_and (C := Tryz.checked) (X := fun w _ => laidMetH Tryz.prog Dr.laid w) (fun _ _ _ hh h => h.of_heap hh) own started (by kernel_rfl) Tryz.func4
    (ChangeSpec.witness_at (enc := enc) (C := Tryz.checked) (os := os) (X := fun w _ => laidMetH Tryz.prog Dr.laid w) false (Dr.laidWorld os) #[.agg #[.int .i64 0, .int .i64 0, .slice none 0 0, .slice none 0 0], .agg #[.int .i64 0, .int .i64 0, .slice none 0 0, .slice none 0 0], .int .u8 0] 8 rfl (by kernel_rfl) (by kernel_rfl) (by kernel_rfl) (by kernel_rfl) (by kernel_rfl) (Dr.laidWorld_met os _)) ?_
  intro W base args ds gs before hval0 hW hcnd hsz0 hL _
  have hsz : (DataW.weightsEach Tryz.prog (Tryz.f4.params.toList ++ Rows.ceremonyOpensSpec.plain.varTypes Tryz.prog) (ds ++ gs)).all (· ≤ reachBytes) = true := hsz0
  have hval : ∀ (j : Nat) t v, Tryz.f4.params[j]? = some t → args[j]? = some v → Value.okWide Tryz.prog W .any base t v := hval0
  have hW' := hW
  obtain ⟨p, q, hA0, hV, rfl, hfz, hnd⟩ := hW
  have hA : DataW.TrodAll enc Tryz.prog W 0 (fun _ => true) true Tryz.f4.params.toList args.toList ds p := hA0
  rw [Tryz.params4] at hA hval hsz
  obtain ⟨v0, vs0, d0, ds0, p0, q0, hargs, rfl, rfl, h0, r0⟩ := trodAll_cons hA
  obtain ⟨v1, vs1, d1, ds1, p1, q1, rfl, rfl, rfl, h1, r1⟩ := trodAll_cons r0
  obtain ⟨v2, vs2, d2, ds2, p2, q2, rfl, rfl, rfl, h2, r2⟩ := trodAll_cons r1
  obtain ⟨rfl, rfl, rfl⟩ := trodAll_nil r2
  obtain rfl : args = #[v0, v1, v2] := by cases args; simp_all
  obtain ⟨rfl, rfl⟩ := trodVars_none hV
  have k0 := h0
  have lt0 : ∀ x ∈ p0, x.block < W.heap.size := by obtain ⟨m, hm⟩ := k0; exact DataW.trod_lt m _ _ _ hm
  obtain ⟨cs0, rfl, cl0, sf0⟩ := Rk.open_struct Tryz.underlying24 (hval 0 24 v0 rfl rfl) h0
  obtain ⟨x0_0, e0_0, w0_0⟩ := Rk.sf_int sf0 0 rfl Tryz.underlying3 (by kernel_rfl) rfl
  obtain ⟨x0_1, e0_1, w0_1⟩ := Rk.sf_int sf0 1 rfl Tryz.underlying3 (by kernel_rfl) rfl
  obtain ⟨a0_2, l0_2, c0_2, e0_2, y0_2, z0_2⟩ := Rk.sf_bytes sf0 2 rfl Tryz.underlying22 Tryz.underlying5 (by kernel_rfl) (by kernel_rfl) rfl
  obtain ⟨a0_3, l0_3, c0_3, e0_3, y0_3, z0_3⟩ := Rk.sf_bytes sf0 3 rfl Tryz.underlying22 Tryz.underlying5 (by kernel_rfl) (by kernel_rfl) rfl
  obtain rfl : cs0 = [.int .i64 x0_0, .int .i64 x0_1, .slice a0_2 l0_2.length c0_2, .slice a0_3 l0_3.length c0_3] := Rk.list4 (cl0.trans (by kernel_rfl)) e0_0 e0_1 e0_2 e0_3
  have k1 := h1
  have lt1 : ∀ x ∈ p1, x.block < W.heap.size := by obtain ⟨m, hm⟩ := k1; exact DataW.trod_lt m _ _ _ hm
  obtain ⟨cs1, rfl, cl1, sf1⟩ := Rk.open_struct Tryz.underlying24 (hval 1 24 v1 rfl rfl) h1
  obtain ⟨x1_0, e1_0, w1_0⟩ := Rk.sf_int sf1 0 rfl Tryz.underlying3 (by kernel_rfl) rfl
  obtain ⟨x1_1, e1_1, w1_1⟩ := Rk.sf_int sf1 1 rfl Tryz.underlying3 (by kernel_rfl) rfl
  obtain ⟨a1_2, l1_2, c1_2, e1_2, y1_2, z1_2⟩ := Rk.sf_bytes sf1 2 rfl Tryz.underlying22 Tryz.underlying5 (by kernel_rfl) (by kernel_rfl) rfl
  obtain ⟨a1_3, l1_3, c1_3, e1_3, y1_3, z1_3⟩ := Rk.sf_bytes sf1 3 rfl Tryz.underlying22 Tryz.underlying5 (by kernel_rfl) (by kernel_rfl) rfl
  obtain rfl : cs1 = [.int .i64 x1_0, .int .i64 x1_1, .slice a1_2 l1_2.length c1_2, .slice a1_3 l1_3.length c1_3] := Rk.list4 (cl1.trans (by kernel_rfl)) e1_0 e1_1 e1_2 e1_3
  obtain ⟨a2, rfl, rfl, rfl, w2⟩ := open_int Tryz.underlying5 (hval 2 5 v2 rfl rfl) h2
  obtain ⟨m2, rfl, g2⟩ : ∃ m : Nat, a2 = (m : Int) ∧ m < 256 := Rk.nat_u8 w2
  clear hA0 hval0 hsz0 hsz
  refine ((ceremonyOpens_ x0_0 w0_0 x0_1 w0_1 a0_2 l0_2 c0_2 a0_3 l0_3 c0_3 x1_0 w1_0 x1_1 w1_1 a1_2 l1_2 c1_2 a1_3 l1_3 c1_3 m2 g2 W y0_2 z0_2.1 y0_3 z0_3.1 y1_2 z1_2.1 y1_3 z1_3.1 (Dr.handle_of_laid hL)).calls (R := fun e W' => e = .returned (.bool true) ∧ Below W.heap.size W W') (fun v W' h => ⟨congrArg _ h.1, h.2.below⟩)).mono fun e W' ⟨he, bel⟩ => ?_
  subst he
  exact ⟨_, rfl, _, _, _, [], _, [], hW', trodAll_mk1 (shut_bool Tryz.underlying4 _), (trodAll_cons_mk (Below.trod laidOut (by kernel_rfl) (of_decide_eq_true (by kernel_rfl)) k0 bel lt0) (trodAll_cons_mk (Below.trod laidOut (by kernel_rfl) (of_decide_eq_true (by kernel_rfl)) k1 bel lt1) (trodAll_cons_mk (shut_int Tryz.underlying5 w2) trodAll_mk0))), rfl, bel.frame _, fun h => by cases h⟩
theorem over : Rows.ceremonyOpensRow.holds Tryz.pinned (OpenSpec.ofChange Rows.ceremonyOpensSpec) :=
  OpenClaim.holds_of_wide 4 Tryz.f4 rfl rfl rfl rfl rfl rfl rfl ⟨rfl, rfl, rfl, rfl, rfl⟩ rfl rfl rfl rfl rfl (by kernel_rfl) Tryz.func4 (by kernel_rfl)
    (of_decide_eq_true (by kernel_rfl)) (by unfold Func.isWrapper; first | (rw [if_pos (by decide +kernel)]; kernel_rfl) | (rw [if_neg (by decide +kernel)]; exact ⟨rfl, rfl⟩))
    (fun os started H enc _ => lifted os started H enc)
theorem proved : Rows.CeremonyOpensSaid := over
theorem card : Rows.CeremonyOpensCardSaid :=
  Claim7.holds_tied_plain_at .later [] [.handle] true (true, "bd615e4b08a23897d1dd787a644fa7fb08bf27a2eebeeb89c1a2c5141ac94589") true
    proved (fun _ h => by cases h) (by kernel_rfl) (fun _ h => by cases h) ceremonyOpens_row_tie rfl ⟨rfl, rfl⟩ (by kernel_rfl) rfl
    (fun f fn hf hfn => by
      obtain rfl : f = 4 := Option.some.inj ((show Tryz.prog.funcNamed "bursary/bursarylaw36.CeremonyOpens" = some 4 by kernel_rfl).symm.trans hf) |>.symm
      obtain rfl : fn = Tryz.f4 := (Option.some.inj (Tryz.func4.symm.trans hfn)).symm
      exact ⟨by kernel_rfl, fun j t ht => by
        rw [Tryz.params4] at ht
        have hm : t ∈ [24, 24, 5] := by simpa using Array.mem_of_getElem? ht
        have hall : ([24, 24, 5].all fun u => !Tryz.prog.wantsStandIn u) = true := by kernel_rfl
        exact (show Tryz.prog.wantsStandIn t = false by simpa using List.all_eq_true.1 hall t hm)⟩)
    (by kernel_rfl)
#print axioms card
end Go.Proofs.YtlkbkgghfhoggaaGreatDoor.ceremonyOpens
namespace Go.Proofs.YtlkbkgghfhoggaaGreatDoor
/-- The row, under a short name, for the claim. -/
theorem ceremonyOpens_holds : Rows.CeremonyOpensCardSaid := ceremonyOpens.card
end Go.Proofs.YtlkbkgghfhoggaaGreatDoor
