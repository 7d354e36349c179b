/- Walks: ghash's blocks as halves, and back; its sum and its product: printed by wip/gen/gen10.py. -/
import Derived.Test.YtlkbkgghfhoggaaGreatDoorHw2
import Derived.Deep.RegionHeld
set_option linter.unusedVariables false
set_option linter.unusedSimpArgs false
namespace Go.Proofs.YtlkbkgghfhoggaaGreatDoor
open Go.RowKit
attribute [local go_sem] hv_def

/-- A block of 16 bytes. -/
def bk (l : List Nat) : Value := .agg (u8s l).toArray
theorem or_byte (a p : Nat) (ha : a < 2 ^ 56) (hp : p < 256) : bits .or .u64 ((a : Int) * 256) (p : Int) = ((256 * a + p : Nat) : Int) := by
  have h1 : (a : Int) * 256 = ((256 * a : Nat) : Int) := by omega
  rw [h1, u64_or_nat _ _ (by omega) (by omega)]
  congr 1
  exact (Nat.two_pow_add_eq_or_of_lt (i := 8) hp a).symm
theorem be_take_succ {l : List Nat} {k p : Nat} (h : l[k]? = some p) : Hm.be (l.take (k + 1)) = 256 * Hm.be (l.take k) + p := by
  rw [List.take_add_one, h]
  exact Hm.be_snoc _ _
theorem be_take_lt {l : List Nat} (hb : ∀ n ∈ l, n < 256) {k : Nat} (hk : k ≤ 7) : Hm.be (l.take k) < 2 ^ 56 := by
  have h1 := Hm.be_lt (l := l.take k) (fun n hn => hb n (List.mem_of_mem_take hn))
  have h2 : 256 ^ (l.take k).length ≤ 256 ^ 7 := Nat.pow_le_pow_right (by decide) (by rw [List.length_take]; omega)
  have h3 : (256 : Nat) ^ 7 = 2 ^ 56 := by decide
  omega
theorem be_halves {l : List Nat} (hl : l.length = 16) (hb : ∀ n ∈ l, n < 256) : hv (Hm.be l) = .agg #[.int .u64 ((Hm.be (l.take 8) : Nat) : Int), .int .u64 ((Hm.be ((l.drop 8).take 8) : Nat) : Int)] := by
  have h1 : (l.drop 8).take 8 = l.drop 8 := List.take_of_length_le (by rw [List.length_drop]; omega)
  rw [h1]
  have h2 := Hm.be_lt (l := l.drop 8) (fun n hn => hb n (List.mem_of_mem_drop hn))
  have h3 : (l.drop 8).length = 8 := by rw [List.length_drop]; omega
  rw [h3] at h2
  refine hv_eq (by simpa using h2) ?_
  have h4 := Hm.be_append (l.take 8) (l.drop 8)
  rw [List.take_append_drop, h3] at h4
  rw [h4]

set_option maxRecDepth 100000 in
set_option maxHeartbeats 1000000 in
theorem gh_of (l : List Nat) (hl : l.length = 16) (hb : ∀ n ∈ l, n < 256) (w : World) :
    Calls Tryz.prog 90 #[bk l] w fun e w' => e = .returned (hv (Hm.be l)) ∧ Kp No w w' := by
  obtain ⟨C, hC⟩ : ∃ C, C = (u8s l).toArray := ⟨_, rfl⟩
  have HC := Lib.hid hC
  have HB := Lib.hid hb
  have HL := Lib.hid (be_halves hl hb)
  unfold bk
  rw [← hC]
  clear hC hb
  go_enter Tryz.func90, Tryz.ntmps90
  go_wp2
  go_loopw [5] (fun i wr => ∃ k : Nat, k ≤ 8 ∧ i = .int .i64 (k : Int) ∧ wr.heap[w.heap.size]? = some (.cells C 134 (0, 0)) ∧ wr.heap[w.heap.size + 1]? = some (.cells (hvC 0) 190 (0, 0)) ∧ wr.heap[w.heap.size + 2]? = some (.cells #[.int .u64 ((Hm.be (l.take k) : Nat) : Int), .int .u64 ((Hm.be ((l.drop 8).take k) : Nat) : Int)] 190 (0, 0)) ∧ Kp No w wr) (fun i _ => 8 - (intOf i).toNat)
  case atStart =>
    refine ⟨0, by omega, rfl, old_at _ (old_at _ (new_at w _)), ?_, ?_, (((Kp.refl No w).alloc _).alloc _).alloc _⟩
    · have e0 : hvC 0 = #[.int .u64 0, .int .u64 0] := by simp [hvC, hi, lo]
      rw [e0]
      exact old_at _ (new_is _ (by simp))
    · have e0 : (#[.int .u64 ((Hm.be (l.take 0) : Nat) : Int), .int .u64 ((Hm.be ((l.drop 8).take 0) : Nat) : Int)] : Array Value) = #[.int .u64 0, .int .u64 0] := by simp [Hm.be]
      rw [e0]
      exact new_is _ (by simp)
  case round =>
    obtain ⟨k, hk, rfl, hX, hR, hH, hg⟩ := hrel
    by_cases hlt : k < 8
    · obtain ⟨p, hp⟩ : ∃ p, l[k]? = some p := ⟨_, List.getElem?_eq_getElem (by omega)⟩
      obtain ⟨q, hq⟩ : ∃ q, l[8 + k]? = some q := ⟨_, List.getElem?_eq_getElem (by omega)⟩
      have hq' : (l.drop 8)[k]? = some q := by rw [List.getElem?_drop]; exact hq
      have ea := be_take_succ hp
      have eb := be_take_succ hq'
      have la := be_take_lt HB.out (k := k) (by omega)
      have lb := be_take_lt (l := l.drop 8) (fun n hn => HB.out n (List.mem_of_mem_drop hn)) (k := k) (by omega)
      have lp := HB.out p (List.mem_of_getElem? hp)
      have lq := HB.out q (List.mem_of_getElem? hq)
      obtain ⟨a, ha⟩ : ∃ a, a = Hm.be (l.take k) := ⟨_, rfl⟩
      obtain ⟨b, hb'⟩ : ∃ b, b = Hm.be ((l.drop 8).take k) := ⟨_, rfl⟩
      rw [← ha] at hH ea la
      rw [← hb'] at hH eb lb
      have a0 : wr.cell? ⟨w.heap.size + 2, 0, none⟩ = some (.int .u64 (a : Int)) := cell_at hH rfl
      have a1 : wr.cell? ⟨w.heap.size + 2, 1, none⟩ = some (.int .u64 (b : Int)) := cell_at hH rfl
      have f0 := free_at hH 0
      have f1 := free_at hH 1
      have c0 : wr.cell? ⟨w.heap.size, k, none⟩ = some (.int .u8 (p : Int)) := cell_at hX (by rw [HC.out, List.getElem?_toArray]; exact u8s_get hp)
      have c1 : wr.cell? ⟨w.heap.size, 8 + k, none⟩ = some (.int .u8 (q : Int)) := cell_at hX (by rw [HC.out, List.getElem?_toArray]; exact u8s_get hq)
      have i1 : IntKind.i64.wrap (8 + (k : Int)) = ((8 + k : Nat) : Int) := by rw [IntWalk.i64_in _ (by omega)]; omega
      have i2 : (8 : Int) + (k : Int) < 16 := by omega
      have i3 : (k : Int) < 16 := by omega
      have i4 : (0 : Int) ≤ 8 + (k : Int) := by omega
      have i5 : ((8 : Int) + (k : Int)).toNat = 8 + k := by omega
      have o1 := or_byte a p la lp
      have o2 := or_byte b q lb lq
      have s1 : IntKind.u64.wrap ((a : Int) * 256) = (a : Int) * 256 := IntWalk.u64_in _ (by omega)
      have s2 : IntKind.u64.wrap ((b : Int) * 256) = (b : Int) * 256 := IntWalk.u64_in _ (by omega)
      have q1 := Lib.hid (hX)
      have q2 := Lib.hid (hR)
      have q3 := Lib.hid (hH)
      have q4 := Lib.hid (hg)
      have EA := Lib.hid ea
      have O1 := Lib.hid o1
      have O2 := Lib.hid o2
      have EB := Lib.hid eb
      clear hX hR hH hg hp hq hq' ha hb' ea eb
      go_wp2_with fail
      refine wp_region_held_drew (S := (fun W => W.cell? ⟨w.heap.size, k, none⟩ = some (.int .u8 (p : Int)) ∧ W.cell? ⟨w.heap.size, 8 + k, none⟩ = some (.int .u8 (q : Int)))) (by kernel_rfl) ⟨c0, c1⟩ (fun hHeld => ?_)
      refine wpAnyH_take (i := 0) (oi := _) (v := ?v0_1) rfl (by kernel_rfl) (by kernel_rfl) (by kernel_rfl) (fun _ _ _ h => h) (Or.inl ⟨by rfl, ?hy0_1⟩) (by assumption) ?hz0_1
      case hy0_1 => (intro w hSw; (try dsimp only at hSw); go_simp; try with_reducible rfl)
      try simp only [List.getElem_toArray, List.getElem_cons_zero, List.getElem_cons_succ, Act.put, List.setIfInBounds_toArray, List.set_cons_zero, List.set_cons_succ]
      refine wpAnyH_take (i := 3) (oi := _) (v := ?v3_2) rfl (by kernel_rfl) (by kernel_rfl) (by kernel_rfl) (fun _ _ _ h => h) (Or.inl ⟨by rfl, ?hy3_2⟩) (by assumption) ?hz3_2
      case hy3_2 => (intro w hSw; (try dsimp only at hSw); go_simp; try with_reducible rfl)
      try simp only [List.getElem_toArray, List.getElem_cons_zero, List.getElem_cons_succ, Act.put, List.setIfInBounds_toArray, List.set_cons_zero, List.set_cons_succ]
      refine wpAnyH_take (i := 4) (oi := _) (v := ?v4_3) rfl (by kernel_rfl) (by kernel_rfl) (by kernel_rfl) (fun _ _ _ h => h) (Or.inl ⟨by rfl, ?hy4_3⟩) (by assumption) ?hz4_3
      case hy4_3 => (intro w hSw; (try dsimp only at hSw); go_simp; try with_reducible rfl)
      try simp only [List.getElem_toArray, List.getElem_cons_zero, List.getElem_cons_succ, Act.put, List.setIfInBounds_toArray, List.set_cons_zero, List.set_cons_succ]
      refine wpAnyH_take (i := 5) (oi := _) (v := ?v5_4) rfl (by kernel_rfl) (by kernel_rfl) (by kernel_rfl) (fun _ _ _ h => h) (Or.inl ⟨by rfl, ?hy5_4⟩) (by assumption) ?hz5_4
      case hy5_4 => (intro w hSw; (try dsimp only at hSw); go_simp; try with_reducible rfl)
      try simp only [List.getElem_toArray, List.getElem_cons_zero, List.getElem_cons_succ, Act.put, List.setIfInBounds_toArray, List.set_cons_zero, List.set_cons_succ]
      refine wpAnyH_take (i := 6) (oi := _) (v := ?v6_5) rfl (by kernel_rfl) (by kernel_rfl) (by kernel_rfl) (fun _ _ _ h => h) (Or.inl ⟨by rfl, ?hy6_5⟩) (by assumption) ?hz6_5
      case hy6_5 => (intro w hSw; (try dsimp only at hSw); go_simp; try with_reducible rfl)
      try simp only [List.getElem_toArray, List.getElem_cons_zero, List.getElem_cons_succ, Act.put, List.setIfInBounds_toArray, List.set_cons_zero, List.set_cons_succ]
      refine wpAnyH_take (i := 8) (oi := _) (v := ?v8_6) rfl (by kernel_rfl) (by kernel_rfl) (by kernel_rfl) (fun _ _ _ h => h) (Or.inl ⟨by rfl, ?hy8_6⟩) (by assumption) ?hz8_6
      case hy8_6 => (intro w hSw; (try dsimp only at hSw); go_simp; try with_reducible rfl)
      try simp only [List.getElem_toArray, List.getElem_cons_zero, List.getElem_cons_succ, Act.put, List.setIfInBounds_toArray, List.set_cons_zero, List.set_cons_succ]
      refine wpAnyH_take (i := 11) (oi := _) (v := ?v11_7) rfl (by kernel_rfl) (by kernel_rfl) (by kernel_rfl) (fun _ _ _ h => h) (Or.inl ⟨by rfl, ?hy11_7⟩) (by assumption) ?hz11_7
      case hy11_7 => (intro w hSw; (try dsimp only at hSw); go_simp; try with_reducible rfl)
      try simp only [List.getElem_toArray, List.getElem_cons_zero, List.getElem_cons_succ, Act.put, List.setIfInBounds_toArray, List.set_cons_zero, List.set_cons_succ]
      refine wpAnyH_take (i := 12) (oi := _) (v := ?v12_8) rfl (by kernel_rfl) (by kernel_rfl) (by kernel_rfl) (fun _ _ _ h => h) (Or.inl ⟨by rfl, ?hy12_8⟩) (by assumption) ?hz12_8
      case hy12_8 => (intro w hSw; (try dsimp only at hSw); go_simp; try with_reducible rfl)
      try simp only [List.getElem_toArray, List.getElem_cons_zero, List.getElem_cons_succ, Act.put, List.setIfInBounds_toArray, List.set_cons_zero, List.set_cons_succ]
      refine wpAnyH_take (i := 13) (oi := _) (v := ?v13_9) rfl (by kernel_rfl) (by kernel_rfl) (by kernel_rfl) (fun _ _ _ h => h) (Or.inl ⟨by rfl, ?hy13_9⟩) (by assumption) ?hz13_9
      case hy13_9 => (intro w hSw; (try dsimp only at hSw); go_simp; try with_reducible rfl)
      try simp only [List.getElem_toArray, List.getElem_cons_zero, List.getElem_cons_succ, Act.put, List.setIfInBounds_toArray, List.set_cons_zero, List.set_cons_succ]
      refine wpAnyH_take (i := 14) (oi := _) (v := ?v14_10) rfl (by kernel_rfl) (by kernel_rfl) (by kernel_rfl) (fun _ _ _ h => h) (Or.inl ⟨by rfl, ?hy14_10⟩) (by assumption) ?hz14_10
      case hy14_10 => (intro w hSw; (try dsimp only at hSw); go_simp; try with_reducible rfl)
      try simp only [List.getElem_toArray, List.getElem_cons_zero, List.getElem_cons_succ, Act.put, List.setIfInBounds_toArray, List.set_cons_zero, List.set_cons_succ]
      refine wpAnyH_take (i := 15) (oi := _) (v := ?v15_11) rfl (by kernel_rfl) (by kernel_rfl) (by kernel_rfl) (fun _ _ _ h => h) (Or.inl ⟨by rfl, ?hy15_11⟩) (by assumption) ?hz15_11
      case hy15_11 => (intro w hSw; (try dsimp only at hSw); go_simp; try with_reducible rfl)
      try simp only [List.getElem_toArray, List.getElem_cons_zero, List.getElem_cons_succ, Act.put, List.setIfInBounds_toArray, List.set_cons_zero, List.set_cons_succ]
      refine wpAnyH_ready (rs := [1, 9]) (by kernel_rfl) (by simp) ?_
      refine AllReadyH.cons (i := 1) (o := _) rfl (fun K hK => ?_) (AllReadyH.cons (i := 9) (o := _) rfl (fun K hK => ?_) AllReadyH.nil)
      · go_simp
        refine hK.out _ _ ⟨by first | exact c0 | exact cell_far c0 (by dsimp only; omega) | exact cell_far (cell_far c0 (by dsimp only; omega)) (by dsimp only; omega), by first | exact c1 | exact cell_far c1 (by dsimp only; omega) | exact cell_far (cell_far c1 (by dsimp only; omega)) (by dsimp only; omega)⟩ (fun hHeld => ?_)
        clear hK K
        try simp only [List.getElem_toArray, List.getElem_cons_zero, List.getElem_cons_succ, Act.put, List.setIfInBounds_toArray, List.set_cons_zero, List.set_cons_succ]
        refine wpAnyH_take (i := 2) (oi := _) (v := ?v2_12) rfl (by kernel_rfl) (by kernel_rfl) (by kernel_rfl) (fun _ _ _ h => h) (Or.inl ⟨by rfl, ?hy2_12⟩) (by assumption) ?hz2_12
        case hy2_12 => (intro w hSw; (try dsimp only at hSw); go_simp; try with_reducible rfl)
        try simp only [List.getElem_toArray, List.getElem_cons_zero, List.getElem_cons_succ, Act.put, List.setIfInBounds_toArray, List.set_cons_zero, List.set_cons_succ]
        refine wpAnyH_take (i := 7) (oi := _) (v := ?v7_13) rfl (by kernel_rfl) (by kernel_rfl) (by kernel_rfl) (fun _ _ _ h => h) (Or.inl ⟨by rfl, ?hy7_13⟩) (by assumption) ?hz7_13
        case hy7_13 => (intro w hSw; (try dsimp only at hSw); go_simp; try with_reducible rfl)
        try simp only [List.getElem_toArray, List.getElem_cons_zero, List.getElem_cons_succ, Act.put, List.setIfInBounds_toArray, List.set_cons_zero, List.set_cons_succ]
        refine wpAnyH_ready (rs := [9]) (by kernel_rfl) (by simp) ?_
        refine AllReadyH.cons (i := 9) (o := _) rfl (fun K hK => ?_) AllReadyH.nil
        go_simp
        refine hK.out _ _ ⟨by first | exact c0 | exact cell_far c0 (by dsimp only; omega) | exact cell_far (cell_far c0 (by dsimp only; omega)) (by dsimp only; omega), by first | exact c1 | exact cell_far c1 (by dsimp only; omega) | exact cell_far (cell_far c1 (by dsimp only; omega)) (by dsimp only; omega)⟩ (fun hHeld => ?_)
        clear hK K
        try simp only [List.getElem_toArray, List.getElem_cons_zero, List.getElem_cons_succ, Act.put, List.setIfInBounds_toArray, List.set_cons_zero, List.set_cons_succ]
        refine wpAnyH_take (i := 10) (oi := _) (v := ?v10_14) rfl (by kernel_rfl) (by kernel_rfl) (by kernel_rfl) (fun _ _ _ h => h) (Or.inl ⟨by rfl, ?hy10_14⟩) (by assumption) ?hz10_14
        case hy10_14 => (intro w hSw; (try dsimp only at hSw); go_simp; try with_reducible rfl)
        try simp only [List.getElem_toArray, List.getElem_cons_zero, List.getElem_cons_succ, Act.put, List.setIfInBounds_toArray, List.set_cons_zero, List.set_cons_succ]
        refine wpAnyH_take (i := 16) (oi := _) (v := ?v16_15) rfl (by kernel_rfl) (by kernel_rfl) (by kernel_rfl) (fun _ _ _ h => h) (Or.inl ⟨by rfl, ?hy16_15⟩) (by assumption) ?hz16_15
        case hy16_15 => (intro w hSw; (try dsimp only at hSw); go_simp; try with_reducible rfl)
        try simp only [List.getElem_toArray, List.getElem_cons_zero, List.getElem_cons_succ, Act.put, List.setIfInBounds_toArray, List.set_cons_zero, List.set_cons_succ]
        refine wpAnyH_take (i := 17) (oi := _) (v := ?v17_16) rfl (by kernel_rfl) (by kernel_rfl) (by kernel_rfl) (fun _ _ _ h => h) (Or.inl ⟨by rfl, ?hy17_16⟩) (by assumption) ?hz17_16
        case hy17_16 => (intro w hSw; (try dsimp only at hSw); go_simp; try with_reducible rfl)
        try simp only [List.getElem_toArray, List.getElem_cons_zero, List.getElem_cons_succ, Act.put, List.setIfInBounds_toArray, List.set_cons_zero, List.set_cons_succ]
        refine wpAnyH_ready (rs := [18]) (by kernel_rfl) (by simp) ?_
        refine AllReadyH.cons (i := 18) (o := _) rfl (fun K hK => ?_) AllReadyH.nil
        go_simp
        refine hK.out _ _ ⟨by first | exact c0 | exact cell_far c0 (by dsimp only; omega) | exact cell_far (cell_far c0 (by dsimp only; omega)) (by dsimp only; omega), by first | exact c1 | exact cell_far c1 (by dsimp only; omega) | exact cell_far (cell_far c1 (by dsimp only; omega)) (by dsimp only; omega)⟩ (fun hHeld => ?_)
        clear hK K
        try simp only [List.getElem_toArray, List.getElem_cons_zero, List.getElem_cons_succ, Act.put, List.setIfInBounds_toArray, List.set_cons_zero, List.set_cons_succ]
        refine wpAnyH_take (i := 19) (oi := _) (v := ?v19_17) rfl (by kernel_rfl) (by kernel_rfl) (by kernel_rfl) (fun _ _ _ h => h) (Or.inl ⟨by rfl, ?hy19_17⟩) (by assumption) ?hz19_17
        case hy19_17 => (intro w hSw; (try dsimp only at hSw); go_simp; try with_reducible rfl)
        try simp only [List.getElem_toArray, List.getElem_cons_zero, List.getElem_cons_succ, Act.put, List.setIfInBounds_toArray, List.set_cons_zero, List.set_cons_succ]
        refine wpAnyH_ready (rs := [20]) (by kernel_rfl) (by simp) ?_
        refine AllReadyH.cons (i := 20) (o := _) rfl (fun K hK => ?_) AllReadyH.nil
        go_simp
        refine hK.out _ _ ⟨by first | exact c0 | exact cell_far c0 (by dsimp only; omega) | exact cell_far (cell_far c0 (by dsimp only; omega)) (by dsimp only; omega), by first | exact c1 | exact cell_far c1 (by dsimp only; omega) | exact cell_far (cell_far c1 (by dsimp only; omega)) (by dsimp only; omega)⟩ (fun hHeld => ?_)
        clear hK K
        try simp only [List.getElem_toArray, List.getElem_cons_zero, List.getElem_cons_succ, Act.put, List.setIfInBounds_toArray, List.set_cons_zero, List.set_cons_succ]
        refine wpAnyH_done (by kernel_rfl) ?_ _
        go_wp2_with fail
        go_roundw
        case rel =>
          have z := set_at (set_at q3.out 0 (.int .u64 (bits .or .u64 ((a : Int) * 256) (p : Int)))) 1 (.int .u64 (bits .or .u64 ((b : Int) * 256) (q : Int)))
          refine ⟨k + 1, by omega, by go_num, set_far (set_far q1.out (by dsimp only; omega) _) (by dsimp only; omega) _, set_far (set_far q2.out (by dsimp only; omega) _) (by dsimp only; omega) _, ?_, ((q4.out.setCell (p := ⟨w.heap.size + 2, 0, none⟩) (.inr (by simp)) _).setCell (p := ⟨w.heap.size + 2, 1, none⟩) (.inr (by simp)) _).drew⟩
          rw [EA.out, EB.out, ← O1.out, ← O2.out]
          exact z
        case measure => simp [intOf]; omega
      · go_simp
        refine hK.out _ _ ⟨by first | exact c0 | exact cell_far c0 (by dsimp only; omega) | exact cell_far (cell_far c0 (by dsimp only; omega)) (by dsimp only; omega), by first | exact c1 | exact cell_far c1 (by dsimp only; omega) | exact cell_far (cell_far c1 (by dsimp only; omega)) (by dsimp only; omega)⟩ (fun hHeld => ?_)
        clear hK K
        try simp only [List.getElem_toArray, List.getElem_cons_zero, List.getElem_cons_succ, Act.put, List.setIfInBounds_toArray, List.set_cons_zero, List.set_cons_succ]
        refine wpAnyH_take (i := 10) (oi := _) (v := ?v10_18) rfl (by kernel_rfl) (by kernel_rfl) (by kernel_rfl) (fun _ _ _ h => h) (Or.inl ⟨by rfl, ?hy10_18⟩) (by assumption) ?hz10_18
        case hy10_18 => (intro w hSw; (try dsimp only at hSw); go_simp; try with_reducible rfl)
        try simp only [List.getElem_toArray, List.getElem_cons_zero, List.getElem_cons_succ, Act.put, List.setIfInBounds_toArray, List.set_cons_zero, List.set_cons_succ]
        refine wpAnyH_take (i := 16) (oi := _) (v := ?v16_19) rfl (by kernel_rfl) (by kernel_rfl) (by kernel_rfl) (fun _ _ _ h => h) (Or.inl ⟨by rfl, ?hy16_19⟩) (by assumption) ?hz16_19
        case hy16_19 => (intro w hSw; (try dsimp only at hSw); go_simp; try with_reducible rfl)
        try simp only [List.getElem_toArray, List.getElem_cons_zero, List.getElem_cons_succ, Act.put, List.setIfInBounds_toArray, List.set_cons_zero, List.set_cons_succ]
        refine wpAnyH_ready (rs := [1]) (by kernel_rfl) (by simp) ?_
        refine AllReadyH.cons (i := 1) (o := _) rfl (fun K hK => ?_) AllReadyH.nil
        go_simp
        refine hK.out _ _ ⟨by first | exact c0 | exact cell_far c0 (by dsimp only; omega) | exact cell_far (cell_far c0 (by dsimp only; omega)) (by dsimp only; omega), by first | exact c1 | exact cell_far c1 (by dsimp only; omega) | exact cell_far (cell_far c1 (by dsimp only; omega)) (by dsimp only; omega)⟩ (fun hHeld => ?_)
        clear hK K
        try simp only [List.getElem_toArray, List.getElem_cons_zero, List.getElem_cons_succ, Act.put, List.setIfInBounds_toArray, List.set_cons_zero, List.set_cons_succ]
        refine wpAnyH_take (i := 2) (oi := _) (v := ?v2_20) rfl (by kernel_rfl) (by kernel_rfl) (by kernel_rfl) (fun _ _ _ h => h) (Or.inl ⟨by rfl, ?hy2_20⟩) (by assumption) ?hz2_20
        case hy2_20 => (intro w hSw; (try dsimp only at hSw); go_simp; try with_reducible rfl)
        try simp only [List.getElem_toArray, List.getElem_cons_zero, List.getElem_cons_succ, Act.put, List.setIfInBounds_toArray, List.set_cons_zero, List.set_cons_succ]
        refine wpAnyH_take (i := 7) (oi := _) (v := ?v7_21) rfl (by kernel_rfl) (by kernel_rfl) (by kernel_rfl) (fun _ _ _ h => h) (Or.inl ⟨by rfl, ?hy7_21⟩) (by assumption) ?hz7_21
        case hy7_21 => (intro w hSw; (try dsimp only at hSw); go_simp; try with_reducible rfl)
        try simp only [List.getElem_toArray, List.getElem_cons_zero, List.getElem_cons_succ, Act.put, List.setIfInBounds_toArray, List.set_cons_zero, List.set_cons_succ]
        refine wpAnyH_take (i := 17) (oi := _) (v := ?v17_22) rfl (by kernel_rfl) (by kernel_rfl) (by kernel_rfl) (fun _ _ _ h => h) (Or.inl ⟨by rfl, ?hy17_22⟩) (by assumption) ?hz17_22
        case hy17_22 => (intro w hSw; (try dsimp only at hSw); go_simp; try with_reducible rfl)
        try simp only [List.getElem_toArray, List.getElem_cons_zero, List.getElem_cons_succ, Act.put, List.setIfInBounds_toArray, List.set_cons_zero, List.set_cons_succ]
        refine wpAnyH_ready (rs := [18]) (by kernel_rfl) (by simp) ?_
        refine AllReadyH.cons (i := 18) (o := _) rfl (fun K hK => ?_) AllReadyH.nil
        go_simp
        refine hK.out _ _ ⟨by first | exact c0 | exact cell_far c0 (by dsimp only; omega) | exact cell_far (cell_far c0 (by dsimp only; omega)) (by dsimp only; omega), by first | exact c1 | exact cell_far c1 (by dsimp only; omega) | exact cell_far (cell_far c1 (by dsimp only; omega)) (by dsimp only; omega)⟩ (fun hHeld => ?_)
        clear hK K
        try simp only [List.getElem_toArray, List.getElem_cons_zero, List.getElem_cons_succ, Act.put, List.setIfInBounds_toArray, List.set_cons_zero, List.set_cons_succ]
        refine wpAnyH_take (i := 19) (oi := _) (v := ?v19_23) rfl (by kernel_rfl) (by kernel_rfl) (by kernel_rfl) (fun _ _ _ h => h) (Or.inl ⟨by rfl, ?hy19_23⟩) (by assumption) ?hz19_23
        case hy19_23 => (intro w hSw; (try dsimp only at hSw); go_simp; try with_reducible rfl)
        try simp only [List.getElem_toArray, List.getElem_cons_zero, List.getElem_cons_succ, Act.put, List.setIfInBounds_toArray, List.set_cons_zero, List.set_cons_succ]
        refine wpAnyH_ready (rs := [20]) (by kernel_rfl) (by simp) ?_
        refine AllReadyH.cons (i := 20) (o := _) rfl (fun K hK => ?_) AllReadyH.nil
        go_simp
        refine hK.out _ _ ⟨by first | exact c0 | exact cell_far c0 (by dsimp only; omega) | exact cell_far (cell_far c0 (by dsimp only; omega)) (by dsimp only; omega), by first | exact c1 | exact cell_far c1 (by dsimp only; omega) | exact cell_far (cell_far c1 (by dsimp only; omega)) (by dsimp only; omega)⟩ (fun hHeld => ?_)
        clear hK K
        try simp only [List.getElem_toArray, List.getElem_cons_zero, List.getElem_cons_succ, Act.put, List.setIfInBounds_toArray, List.set_cons_zero, List.set_cons_succ]
        refine wpAnyH_done (by kernel_rfl) ?_ _
        go_wp2_with fail
        go_roundw
        case rel =>
          have z := set_at (set_at q3.out 0 (.int .u64 (bits .or .u64 ((a : Int) * 256) (p : Int)))) 1 (.int .u64 (bits .or .u64 ((b : Int) * 256) (q : Int)))
          refine ⟨k + 1, by omega, by go_num, set_far (set_far q1.out (by dsimp only; omega) _) (by dsimp only; omega) _, set_far (set_far q2.out (by dsimp only; omega) _) (by dsimp only; omega) _, ?_, ((q4.out.setCell (p := ⟨w.heap.size + 2, 0, none⟩) (.inr (by simp)) _).setCell (p := ⟨w.heap.size + 2, 1, none⟩) (.inr (by simp)) _).drew⟩
          rw [EA.out, EB.out, ← O1.out, ← O2.out]
          exact z
        case measure => simp [intOf]; omega
    · obtain rfl : k = 8 := by omega
      have q3 := set_at (set_at hR 0 (.int .u64 ((Hm.be (l.take 8) : Nat) : Int))) 1 (.int .u64 ((Hm.be ((l.drop 8).take 8) : Nat) : Int))
      have a0 : wr.cell? ⟨w.heap.size + 2, 0, none⟩ = some (.int .u64 ((Hm.be (l.take 8) : Nat) : Int)) := cell_at hH rfl
      have a1 : wr.cell? ⟨w.heap.size + 2, 1, none⟩ = some (.int .u64 ((Hm.be ((l.drop 8).take 8) : Nat) : Int)) := cell_at hH rfl
      have r0 : wr.cell? ⟨w.heap.size + 1, 0, none⟩ = some (.int .u64 ((hi 0 : Nat) : Int)) := cell_at hR rfl
      have r1 : wr.cell? ⟨w.heap.size + 1, 1, none⟩ = some (.int .u64 ((lo 0 : Nat) : Int)) := cell_at hR rfl
      have f0 := free_at hR 0
      have f1 := free_at hR 1
      have HQ := Lib.hid q3
      have HG := Lib.hid hg
      clear q3 hX hR hH hg
      go_wp2_with fail
      have q0 : ((wr.setCell ⟨w.heap.size + 1, 0, none⟩ (.int .u64 ((Hm.be (l.take 8) : Nat) : Int))).setCell ⟨w.heap.size + 1, 1, none⟩ (.int .u64 ((Hm.be ((l.drop 8).take 8) : Nat) : Int))).cell? ⟨w.heap.size + 1, 0, none⟩ = some (.int .u64 ((Hm.be (l.take 8) : Nat) : Int)) := cell_at HQ.out rfl
      have q1 : ((wr.setCell ⟨w.heap.size + 1, 0, none⟩ (.int .u64 ((Hm.be (l.take 8) : Nat) : Int))).setCell ⟨w.heap.size + 1, 1, none⟩ (.int .u64 ((Hm.be ((l.drop 8).take 8) : Nat) : Int))).cell? ⟨w.heap.size + 1, 1, none⟩ = some (.int .u64 ((Hm.be ((l.drop 8).take 8) : Nat) : Int)) := cell_at HQ.out rfl
      exact bodyPost_ret (v := .agg #[.int .u64 ((Hm.be (l.take 8) : Nat) : Int), .int .u64 ((Hm.be ((l.drop 8).take 8) : Nat) : Int)]) (by simp [results, Tryz.results90, go_sem, q0, q1]) rfl ⟨by rw [HL.out], (HG.out.setCell (p := ⟨w.heap.size + 1, 0, none⟩) (.inr (by simp)) _).setCell (p := ⟨w.heap.size + 1, 1, none⟩) (.inr (by simp)) _⟩


/-- The bytes that are laid behind k rounds. -/
def part (v k : Nat) : List Nat := (List.range 16).map fun j => if j % 8 < k then v / 256 ^ (15 - j) % 256 else 0
theorem part_get (v k j : Nat) (hj : j < 16) : (part v k)[j]? = some (if j % 8 < k then v / 256 ^ (15 - j) % 256 else 0) := by
  unfold part; rw [List.getElem?_map, List.getElem?_range hj]; rfl
theorem part_length (v k : Nat) : (part v k).length = 16 := by unfold part; simp
theorem part_succ (v k : Nat) (hk : k < 8) : ((part v k).set k (v / 256 ^ (15 - k) % 256)).set (8 + k) (v / 256 ^ (7 - k) % 256) = part v (k + 1) := by
  apply List.ext_getElem?
  intro j
  by_cases hj : j < 16
  · rw [part_get v (k + 1) j hj, List.getElem?_set, List.getElem?_set, List.length_set, part_length, part_get v k j hj]
    by_cases h1 : 8 + k = j
    · subst h1
      rw [if_pos rfl, if_pos (by omega), if_pos (by omega)]
      congr 4
      omega
    · rw [if_neg h1]
      by_cases h2 : k = j
      · subst h2
        rw [if_pos rfl, if_pos (by omega), if_pos (by omega)]
      · rw [if_neg h2]
        by_cases h3 : j % 8 < k
        · rw [if_pos h3, if_pos (by omega)]
        · rw [if_neg h3, if_neg (by omega)]
  · rw [List.getElem?_eq_none (by simp [part_length]; omega), List.getElem?_eq_none (by rw [part_length]; omega)]
theorem part_all (v : Nat) : part v 8 = Hm.toB 16 v := by
  apply List.ext_getElem?
  intro j
  by_cases hj : j < 16
  · rw [part_get v 8 j hj, Hm.toB_get 16 v j hj, if_pos (by omega)]
  · rw [List.getElem?_eq_none (by rw [part_length]; omega), List.getElem?_eq_none (by rw [Hm.toB_length]; omega)]
theorem part_zero (v : Nat) : part v 0 = List.replicate 16 0 := by
  apply List.ext_getElem?
  intro j
  by_cases hj : j < 16
  · rw [part_get v 0 j hj, if_neg (by omega), List.getElem?_replicate, if_pos hj]
  · rw [List.getElem?_eq_none (by rw [part_length]; omega), List.getElem?_eq_none (by simp; omega)]
theorem hi_byte (v k : Nat) (hk : k < 8) : hi v / 2 ^ (56 - 8 * k) % 256 = v / 256 ^ (15 - k) % 256 := by
  unfold hi
  rw [Nat.div_div_eq_div_mul, ← Nat.pow_add]
  have : (256 : Nat) ^ (15 - k) = 2 ^ (64 + (56 - 8 * k)) := by
    rw [show (256 : Nat) = 2 ^ 8 from rfl, ← Nat.pow_mul]
    congr 1
    omega
  rw [this]
theorem lo_byte (v k : Nat) (hk : k < 8) : lo v / 2 ^ (56 - 8 * k) % 256 = v / 256 ^ (7 - k) % 256 := by
  unfold lo
  have h1 : (256 : Nat) ^ (7 - k) = 2 ^ (56 - 8 * k) := by
    rw [show (256 : Nat) = 2 ^ 8 from rfl, ← Nat.pow_mul]
    congr 1
    omega
  rw [h1]
  have h2 : (2 : Nat) ^ 64 = 2 ^ (56 - 8 * k) * 2 ^ (8 + 8 * k) := by rw [← Nat.pow_add]; congr 1; omega
  rw [h2, Nat.mod_mul_right_div_self]
  have h3 : (2 : Nat) ^ (8 + 8 * k) = 256 * 2 ^ (8 * k) := by rw [Nat.pow_add]
  rw [h3, Nat.mod_mul_right_mod]

set_option maxRecDepth 100000 in
set_option maxHeartbeats 1000000 in
theorem gh_block (v : Nat) (w : World) :
    Calls Tryz.prog 92 #[hv v] w fun e w' => e = .returned (bk (Hm.toB 16 v)) ∧ Kp No w w' := by
  go_enter Tryz.func92, Tryz.ntmps92
  go_wp2
  go_loopw [5] (fun i wr => ∃ k : Nat, k ≤ 8 ∧ i = .int .i64 (k : Int) ∧ wr.heap[w.heap.size]? = some (.cells (hvC v) 190 (0, 0)) ∧ wr.heap[w.heap.size + 1]? = some (.cells (u8s (List.replicate 16 0)).toArray 134 (0, 0)) ∧ wr.heap[w.heap.size + 2]? = some (.cells (u8s (part v k)).toArray 134 (0, 0)) ∧ Kp No w wr) (fun i _ => 8 - (intOf i).toNat)
  case atStart =>
    refine ⟨0, by omega, rfl, old_at _ (old_at _ (new_at w _)), ?_, ?_, (((Kp.refl No w).alloc _).alloc _).alloc _⟩
    · have e0 : (u8s (List.replicate 16 0)).toArray = #[.int .u8 0, .int .u8 0, .int .u8 0, .int .u8 0, .int .u8 0, .int .u8 0, .int .u8 0, .int .u8 0, .int .u8 0, .int .u8 0, .int .u8 0, .int .u8 0, .int .u8 0, .int .u8 0, .int .u8 0, .int .u8 0] := rfl
      rw [e0]
      exact old_at _ (new_is _ (by simp))
    · have e0 : (u8s (part v 0)).toArray = #[.int .u8 0, .int .u8 0, .int .u8 0, .int .u8 0, .int .u8 0, .int .u8 0, .int .u8 0, .int .u8 0, .int .u8 0, .int .u8 0, .int .u8 0, .int .u8 0, .int .u8 0, .int .u8 0, .int .u8 0, .int .u8 0] := by rw [part_zero]; rfl
      rw [e0]
      exact new_is _ (by simp)
  case round =>
    obtain ⟨k, hk, rfl, hX, hR, hH, hg⟩ := hrel
    by_cases hlt : k < 8
    · have x0 : wr.cell? ⟨w.heap.size, 0, none⟩ = some (.int .u64 ((hi v : Nat) : Int)) := cell_at hX rfl
      have x1 : wr.cell? ⟨w.heap.size, 1, none⟩ = some (.int .u64 ((lo v : Nat) : Int)) := cell_at hX rfl
      have c0 : wr.cell? ⟨w.heap.size + 2, k, none⟩ = some _ := cell_at hH (by rw [List.getElem?_toArray]; exact u8s_get (part_get v k k (by omega)))
      have c1 : wr.cell? ⟨w.heap.size + 2, 8 + k, none⟩ = some _ := cell_at hH (by rw [List.getElem?_toArray]; exact u8s_get (part_get v k (8 + k) (by omega)))
      have f0 := free_at hH k
      have f1 := free_at hH (8 + k)
      have i1 : IntKind.i64.wrap (8 + (k : Int)) = ((8 + k : Nat) : Int) := by rw [IntWalk.i64_in _ (by omega)]; omega
      have i2 : (8 : Int) + (k : Int) < 16 := by omega
      have i3 : (k : Int) < 16 := by omega
      have i4 : (0 : Int) ≤ 8 + (k : Int) := by omega
      have i5 : ((8 : Int) + (k : Int)).toNat = 8 + k := by omega
      have m1 : IntKind.i64.wrap (8 * (k : Int)) = 8 * (k : Int) := IntWalk.i64_in _ (by omega)
      have m2 : IntKind.i64.wrap (56 - 8 * (k : Int)) = 56 - 8 * (k : Int) := IntWalk.i64_in _ (by omega)
      have m3 : (0 : Int) ≤ 56 - 8 * (k : Int) := by omega
      have m4 : (56 - 8 * (k : Int)).toNat = 56 - 8 * k := by omega
      have m5 : (56 - 8 * (k : Int)) ≤ 64 := by omega
      have b1 : ((hi v : Nat) : Int) / 2 ^ (56 - 8 * k) % 256 = ((v / 256 ^ (15 - k) % 256 : Nat) : Int) := by rw [← hi_byte v k hlt]; simp
      have b2 : ((lo v : Nat) : Int) / 2 ^ (56 - 8 * k) % 256 = ((v / 256 ^ (7 - k) % 256 : Nat) : Int) := by rw [← lo_byte v k hlt]; simp
      obtain ⟨p, hp⟩ : ∃ p, p = v / 256 ^ (15 - k) % 256 := ⟨_, rfl⟩
      obtain ⟨q, hq⟩ : ∃ q, q = v / 256 ^ (7 - k) % 256 := ⟨_, rfl⟩
      rw [← hp] at b1
      rw [← hq] at b2
      have B1 := Lib.hid b1
      have B2 := Lib.hid b2
      clear b1 b2
      have HS := Lib.hid (part_succ v k hlt)
      rw [← hp, ← hq] at HS
      have q1 := Lib.hid (hX)
      have q2 := Lib.hid (hR)
      have q3 := Lib.hid (hH)
      have q4 := Lib.hid (hg)
      clear hX hR hH hg hp hq
      go_wp2_with fail
      refine wp_region_held_drew (S := (fun W => W.cell? ⟨w.heap.size, 0, none⟩ = some (.int .u64 ((hi v : Nat) : Int)) ∧ W.cell? ⟨w.heap.size, 1, none⟩ = some (.int .u64 ((lo v : Nat) : Int)))) (by kernel_rfl) ⟨x0, x1⟩ (fun hHeld => ?_)
      refine wpAnyH_take (i := 0) (oi := _) (v := ?v0_24) rfl (by kernel_rfl) (by kernel_rfl) (by kernel_rfl) (fun _ _ _ h => h) (Or.inl ⟨by rfl, ?hy0_24⟩) (by assumption) ?hz0_24
      case hy0_24 => (intro w hSw; (try dsimp only at hSw); go_simp; try with_reducible rfl)
      try simp only [List.getElem_toArray, List.getElem_cons_zero, List.getElem_cons_succ, Act.put, List.setIfInBounds_toArray, List.set_cons_zero, List.set_cons_succ]
      refine wpAnyH_take (i := 1) (oi := _) (v := ?v1_25) rfl (by kernel_rfl) (by kernel_rfl) (by kernel_rfl) (fun _ _ _ h => h) (Or.inl ⟨by rfl, ?hy1_25⟩) (by assumption) ?hz1_25
      case hy1_25 => (intro w hSw; (try dsimp only at hSw); go_simp; try with_reducible rfl)
      try simp only [List.getElem_toArray, List.getElem_cons_zero, List.getElem_cons_succ, Act.put, List.setIfInBounds_toArray, List.set_cons_zero, List.set_cons_succ]
      refine wpAnyH_take (i := 2) (oi := _) (v := ?v2_26) rfl (by kernel_rfl) (by kernel_rfl) (by kernel_rfl) (fun _ _ _ h => h) (Or.inl ⟨by rfl, ?hy2_26⟩) (by assumption) ?hz2_26
      case hy2_26 => (intro w hSw; (try dsimp only at hSw); go_simp; try with_reducible rfl)
      try simp only [List.getElem_toArray, List.getElem_cons_zero, List.getElem_cons_succ, Act.put, List.setIfInBounds_toArray, List.set_cons_zero, List.set_cons_succ]
      refine wpAnyH_take (i := 3) (oi := _) (v := ?v3_27) rfl (by kernel_rfl) (by kernel_rfl) (by kernel_rfl) (fun _ _ _ h => h) (Or.inl ⟨by rfl, ?hy3_27⟩) (by assumption) ?hz3_27
      case hy3_27 => (intro w hSw; (try dsimp only at hSw); go_simp; try with_reducible rfl)
      try simp only [List.getElem_toArray, List.getElem_cons_zero, List.getElem_cons_succ, Act.put, List.setIfInBounds_toArray, List.set_cons_zero, List.set_cons_succ]
      refine wpAnyH_take (i := 4) (oi := _) (v := ?v4_28) rfl (by kernel_rfl) (by kernel_rfl) (by kernel_rfl) (fun _ _ _ h => h) (Or.inl ⟨by rfl, ?hy4_28⟩) (by assumption) ?hz4_28
      case hy4_28 => (intro w hSw; (try dsimp only at hSw); go_simp; try with_reducible rfl)
      try simp only [List.getElem_toArray, List.getElem_cons_zero, List.getElem_cons_succ, Act.put, List.setIfInBounds_toArray, List.set_cons_zero, List.set_cons_succ]
      refine wpAnyH_take (i := 5) (oi := _) (v := ?v5_29) rfl (by kernel_rfl) (by kernel_rfl) (by kernel_rfl) (fun _ _ _ h => h) (Or.inl ⟨by rfl, ?hy5_29⟩) (by assumption) ?hz5_29
      case hy5_29 => (intro w hSw; (try dsimp only at hSw); go_simp; try with_reducible rfl)
      try simp only [List.getElem_toArray, List.getElem_cons_zero, List.getElem_cons_succ, Act.put, List.setIfInBounds_toArray, List.set_cons_zero, List.set_cons_succ]
      refine wpAnyH_take (i := 6) (oi := _) (v := ?v6_30) rfl (by kernel_rfl) (by kernel_rfl) (by kernel_rfl) (fun _ _ _ h => h) (Or.inl ⟨by rfl, ?hy6_30⟩) (by assumption) ?hz6_30
      case hy6_30 => (intro w hSw; (try dsimp only at hSw); go_simp; try with_reducible rfl)
      try simp only [List.getElem_toArray, List.getElem_cons_zero, List.getElem_cons_succ, Act.put, List.setIfInBounds_toArray, List.set_cons_zero, List.set_cons_succ]
      refine wpAnyH_take (i := 7) (oi := _) (v := ?v7_31) rfl (by kernel_rfl) (by kernel_rfl) (by kernel_rfl) (fun _ _ _ h => h) (Or.inl ⟨by rfl, ?hy7_31⟩) (by assumption) ?hz7_31
      case hy7_31 => (intro w hSw; (try dsimp only at hSw); go_simp; try with_reducible rfl)
      try simp only [List.getElem_toArray, List.getElem_cons_zero, List.getElem_cons_succ, Act.put, List.setIfInBounds_toArray, List.set_cons_zero, List.set_cons_succ]
      refine wpAnyH_take (i := 8) (oi := _) (v := ?v8_32) rfl (by kernel_rfl) (by kernel_rfl) (by kernel_rfl) (fun _ _ _ h => h) (Or.inl ⟨by rfl, ?hy8_32⟩) (by assumption) ?hz8_32
      case hy8_32 => (intro w hSw; (try dsimp only at hSw); go_simp; try with_reducible rfl)
      try simp only [List.getElem_toArray, List.getElem_cons_zero, List.getElem_cons_succ, Act.put, List.setIfInBounds_toArray, List.set_cons_zero, List.set_cons_succ]
      refine wpAnyH_take (i := 9) (oi := _) (v := ?v9_33) rfl (by kernel_rfl) (by kernel_rfl) (by kernel_rfl) (fun _ _ _ h => h) (Or.inl ⟨by rfl, ?hy9_33⟩) (by assumption) ?hz9_33
      case hy9_33 => (intro w hSw; (try dsimp only at hSw); go_simp; try with_reducible rfl)
      try simp only [List.getElem_toArray, List.getElem_cons_zero, List.getElem_cons_succ, Act.put, List.setIfInBounds_toArray, List.set_cons_zero, List.set_cons_succ]
      refine wpAnyH_take (i := 10) (oi := _) (v := ?v10_34) rfl (by kernel_rfl) (by kernel_rfl) (by kernel_rfl) (fun _ _ _ h => h) (Or.inl ⟨by rfl, ?hy10_34⟩) (by assumption) ?hz10_34
      case hy10_34 => (intro w hSw; (try dsimp only at hSw); go_simp; try with_reducible rfl)
      try simp only [List.getElem_toArray, List.getElem_cons_zero, List.getElem_cons_succ, Act.put, List.setIfInBounds_toArray, List.set_cons_zero, List.set_cons_succ]
      refine wpAnyH_take (i := 11) (oi := _) (v := ?v11_35) rfl (by kernel_rfl) (by kernel_rfl) (by kernel_rfl) (fun _ _ _ h => h) (Or.inl ⟨by rfl, ?hy11_35⟩) (by assumption) ?hz11_35
      case hy11_35 => (intro w hSw; (try dsimp only at hSw); go_simp; try with_reducible rfl)
      try simp only [List.getElem_toArray, List.getElem_cons_zero, List.getElem_cons_succ, Act.put, List.setIfInBounds_toArray, List.set_cons_zero, List.set_cons_succ]
      refine wpAnyH_take (i := 12) (oi := _) (v := ?v12_36) rfl (by kernel_rfl) (by kernel_rfl) (by kernel_rfl) (fun _ _ _ h => h) (Or.inl ⟨by rfl, ?hy12_36⟩) (by assumption) ?hz12_36
      case hy12_36 => (intro w hSw; (try dsimp only at hSw); go_simp; try with_reducible rfl)
      try simp only [List.getElem_toArray, List.getElem_cons_zero, List.getElem_cons_succ, Act.put, List.setIfInBounds_toArray, List.set_cons_zero, List.set_cons_succ]
      refine wpAnyH_take (i := 13) (oi := _) (v := ?v13_37) rfl (by kernel_rfl) (by kernel_rfl) (by kernel_rfl) (fun _ _ _ h => h) (Or.inl ⟨by rfl, ?hy13_37⟩) (by assumption) ?hz13_37
      case hy13_37 => (intro w hSw; (try dsimp only at hSw); go_simp; try with_reducible rfl)
      try simp only [List.getElem_toArray, List.getElem_cons_zero, List.getElem_cons_succ, Act.put, List.setIfInBounds_toArray, List.set_cons_zero, List.set_cons_succ]
      refine wpAnyH_take (i := 14) (oi := _) (v := ?v14_38) rfl (by kernel_rfl) (by kernel_rfl) (by kernel_rfl) (fun _ _ _ h => h) (Or.inl ⟨by rfl, ?hy14_38⟩) (by assumption) ?hz14_38
      case hy14_38 => (intro w hSw; (try dsimp only at hSw); go_simp; try with_reducible rfl)
      try simp only [List.getElem_toArray, List.getElem_cons_zero, List.getElem_cons_succ, Act.put, List.setIfInBounds_toArray, List.set_cons_zero, List.set_cons_succ]
      refine wpAnyH_take (i := 15) (oi := _) (v := ?v15_39) rfl (by kernel_rfl) (by kernel_rfl) (by kernel_rfl) (fun _ _ _ h => h) (Or.inl ⟨by rfl, ?hy15_39⟩) (by assumption) ?hz15_39
      case hy15_39 => (intro w hSw; (try dsimp only at hSw); go_simp; try with_reducible rfl)
      try simp only [List.getElem_toArray, List.getElem_cons_zero, List.getElem_cons_succ, Act.put, List.setIfInBounds_toArray, List.set_cons_zero, List.set_cons_succ]
      refine wpAnyH_take (i := 16) (oi := _) (v := ?v16_40) rfl (by kernel_rfl) (by kernel_rfl) (by kernel_rfl) (fun _ _ _ h => h) (Or.inl ⟨by rfl, ?hy16_40⟩) (by assumption) ?hz16_40
      case hy16_40 => (intro w hSw; (try dsimp only at hSw); go_simp; try with_reducible rfl)
      try simp only [List.getElem_toArray, List.getElem_cons_zero, List.getElem_cons_succ, Act.put, List.setIfInBounds_toArray, List.set_cons_zero, List.set_cons_succ]
      refine wpAnyH_take (i := 17) (oi := _) (v := ?v17_41) rfl (by kernel_rfl) (by kernel_rfl) (by kernel_rfl) (fun _ _ _ h => h) (Or.inl ⟨by rfl, ?hy17_41⟩) (by assumption) ?hz17_41
      case hy17_41 => (intro w hSw; (try dsimp only at hSw); go_simp; try with_reducible rfl)
      try simp only [List.getElem_toArray, List.getElem_cons_zero, List.getElem_cons_succ, Act.put, List.setIfInBounds_toArray, List.set_cons_zero, List.set_cons_succ]
      refine wpAnyH_ready (rs := [18]) (by kernel_rfl) (by simp) ?_
      refine AllReadyH.cons (i := 18) (o := _) rfl (fun K hK => ?_) AllReadyH.nil
      go_simp
      refine hK.out _ _ ⟨by first | exact x0 | exact cell_far x0 (by dsimp only; omega) | exact cell_far (cell_far x0 (by dsimp only; omega)) (by dsimp only; omega), by first | exact x1 | exact cell_far x1 (by dsimp only; omega) | exact cell_far (cell_far x1 (by dsimp only; omega)) (by dsimp only; omega)⟩ (fun hHeld => ?_)
      clear hK K
      try simp only [List.getElem_toArray, List.getElem_cons_zero, List.getElem_cons_succ, Act.put, List.setIfInBounds_toArray, List.set_cons_zero, List.set_cons_succ]
      refine wpAnyH_take (i := 19) (oi := _) (v := ?v19_42) rfl (by kernel_rfl) (by kernel_rfl) (by kernel_rfl) (fun _ _ _ h => h) (Or.inl ⟨by rfl, ?hy19_42⟩) (by assumption) ?hz19_42
      case hy19_42 => (intro w hSw; (try dsimp only at hSw); go_simp; try with_reducible rfl)
      try simp only [List.getElem_toArray, List.getElem_cons_zero, List.getElem_cons_succ, Act.put, List.setIfInBounds_toArray, List.set_cons_zero, List.set_cons_succ]
      refine wpAnyH_ready (rs := [20]) (by kernel_rfl) (by simp) ?_
      refine AllReadyH.cons (i := 20) (o := _) rfl (fun K hK => ?_) AllReadyH.nil
      go_simp
      refine hK.out _ _ ⟨by first | exact x0 | exact cell_far x0 (by dsimp only; omega) | exact cell_far (cell_far x0 (by dsimp only; omega)) (by dsimp only; omega), by first | exact x1 | exact cell_far x1 (by dsimp only; omega) | exact cell_far (cell_far x1 (by dsimp only; omega)) (by dsimp only; omega)⟩ (fun hHeld => ?_)
      clear hK K
      try simp only [List.getElem_toArray, List.getElem_cons_zero, List.getElem_cons_succ, Act.put, List.setIfInBounds_toArray, List.set_cons_zero, List.set_cons_succ]
      refine wpAnyH_done (by kernel_rfl) ?_ _
      go_wp2_with fail
      go_roundw
      case rel =>
        have z := set_at (set_at q3.out k (.int .u8 (p : Int))) (8 + k) (.int .u8 (q : Int))
        rw [List.setIfInBounds_toArray, List.setIfInBounds_toArray, u8s_set, u8s_set, HS.out] at z
        (repeat apply Exists.intro)
        refine ⟨⟨k + 1, by omega, by go_num, set_far (set_far q1.out (by dsimp only; omega) _) (by dsimp only; omega) _, set_far (set_far q2.out (by dsimp only; omega) _) (by dsimp only; omega) _, ?_, ((q4.out.setCell (p := ⟨w.heap.size + 2, k, none⟩) (.inr (by simp)) _).setCell (p := ⟨w.heap.size + 2, 8 + k, none⟩) (.inr (by simp)) _).drew⟩, rfl⟩
        rw [B1.out, B2.out]
        exact z
      case measure => simp [intOf]; omega
    · obtain rfl : k = 8 := by omega
      rw [part_all] at hH
      have HH := Lib.hid hH
      have HR := Lib.hid hR
      have HG := Lib.hid hg
      have HI : (Tryz.prog.info? 134).map (·.size) = some 16 := by kernel_rfl
      have HJ := Lib.hid HI
      clear hX hR hH hg HI
      go_wp2_with (first
        | refine wpList_load_row rfl 134 _ rfl (w.heap.size + 1 + 1) rfl 134 _ (0, 0) _ HH.out Tryz.underlying134 rfl (row_info HJ.out (Hm.toB_length 16 v)) ?_
        | refine wpList_store_row rfl 134 _ _ rfl (w.heap.size + 1) (u8s (Hm.toB 16 v)).toArray rfl rfl 134 _ HR.out (row_info HJ.out (Hm.toB_length 16 v)) (by rw [u8s_row, u8s_row, Hm.toB_length]; rfl) (u8s_one _) ?_)
      have HZ := row_at HR.out (u8s (Hm.toB 16 v)).toArray
      exact bodyPost_ret (v := bk (Hm.toB 16 v)) (results_cell_row rfl _ _ (w.heap.size + 1) 134 _ (0, 0) _ rfl HZ Tryz.underlying134 rfl (row_info HJ.out (Hm.toB_length 16 v))) rfl ⟨rfl, HG.out.setRow (.inr (by omega)) _⟩

end Go.Proofs.YtlkbkgghfhoggaaGreatDoor
