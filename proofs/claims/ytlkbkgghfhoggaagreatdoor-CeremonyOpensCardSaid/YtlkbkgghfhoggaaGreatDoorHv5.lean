/- Sums and products of blocks as lists of bytes: contracts and plain laws. -/
import Derived.Test.YtlkbkgghfhoggaaGreatDoorHw3
import Derived.Deep.RegionHeld
import Derived.Test.YtlkbkgghfhoggaaGreatDoorOn
section
set_option linter.unusedVariables false
set_option linter.unusedSimpArgs false
namespace Go.Proofs.YtlkbkgghfhoggaaGreatDoor
open Go.RowKit

theorem be_lt16 {l : List Nat} (hl : l.length = 16) (hb : ∀ n ∈ l, n < 256) : Hm.be l < 2 ^ 128 := by
  have h := Hm.be_lt hb
  rw [hl] at h
  exact h
theorem info_block : (Tryz.prog.info? 134).map (·.size) = some 16 := by kernel_rfl


set_option maxRecDepth 100000 in
set_option maxHeartbeats 1000000 in
theorem gh_Add (x y : List Nat) (hx : x.length = 16) (hy : y.length = 16) (bx : ∀ n ∈ x, n < 256) (by_ : ∀ n ∈ y, n < 256) (w : World) :
    Calls Tryz.prog 73 #[bk x, bk y] w fun e w' => e = .returned (bk (Hm.toB 16 (Hm.be x ^^^ Hm.be y))) ∧ Kp No w w' := by
  have HI := Lib.hid info_block
  have HX := Lib.hid hx
  have HY := Lib.hid hy
  have HBX := Lib.hid bx
  have HBY := Lib.hid by_
  have LX := Lib.hid (be_lt16 hx bx)
  have LY := Lib.hid (be_lt16 hy by_)
  obtain ⟨V, hV⟩ : ∃ V, V = Hm.toB 16 (Hm.be x ^^^ Hm.be y) := ⟨_, rfl⟩
  have HV : Hid (∀ w, Calls Tryz.prog 92 #[hv (Hm.be x ^^^ Hm.be y)] w fun e w' => e = .returned (.agg (u8s V).toArray) ∧ Kp No w w') := Lib.hid (fun w => hV.symm ▸ gh_block _ w)
  have LV : Hid (V.length = 16) := Lib.hid (by rw [hV]; exact Hm.toB_length 16 _)
  rw [← hV]
  clear hV
  unfold bk
  obtain ⟨C, hC⟩ : ∃ C, C = (u8s x).toArray := ⟨_, rfl⟩
  obtain ⟨D, hD⟩ : ∃ D, D = (u8s y).toArray := ⟨_, rfl⟩
  rw [← hC, ← hD]
  have SC : C.size = 16 := by rw [hC, u8s_row, hx]
  have SD : D.size = 16 := by rw [hD, u8s_row, hy]
  clear hx hy bx by_
  go_enter Tryz.func73, Tryz.ntmps73
  go_wp2_with fail
  subst hC hD
  clear SC SD
  refine wp_region_held_drew (S := (fun W => W.heap[w.heap.size]? = some (.cells (u8s x).toArray 134 (0, 0)) ∧ W.heap[w.heap.size + 1]? = some (.cells (u8s y).toArray 134 (0, 0)) ∧ (∃ C : Array Value, C.size = 16 ∧ W.heap[w.heap.size + 2]? = some (.cells C 134 (0, 0))) ∧ Kp No w W)) (by kernel_rfl) ⟨old_at _ (old_at _ (new_at w _)), old_at _ (new_is _ (by simp)), ⟨_, rfl, new_is _ (by simp)⟩, ((((Kp.refl No w).alloc _).alloc _).alloc _).drew⟩ (fun hHeld => ?_)
  refine wpAnyH_take (i := 0) (oi := _) (v := .agg (u8s x).toArray) rfl (by kernel_rfl) (by kernel_rfl) (by kernel_rfl) (fun _ _ _ h => h) ?hy0_1 (by assumption) ?hz0_1
  case hy0_1 => exact yields_row 134 _ (by rfl) (by rfl) (w.heap.size) (by rfl) (u8s x).toArray 134 _ Tryz.underlying134 (by rfl) (row_info HI.out HX.out) (by intro W h; exact h.1)
  try simp only [List.getElem_toArray, List.getElem_cons_zero, List.getElem_cons_succ, Act.put, List.setIfInBounds_toArray, List.set_cons_zero, List.set_cons_succ]
  refine wpAnyH_take (i := 2) (oi := _) (v := .agg (u8s y).toArray) rfl (by kernel_rfl) (by kernel_rfl) (by kernel_rfl) (fun _ _ _ h => h) ?hy2_2 (by assumption) ?hz2_2
  case hy2_2 => exact yields_row 134 _ (by rfl) (by rfl) (w.heap.size + 1) (by rfl) (u8s y).toArray 134 _ Tryz.underlying134 (by rfl) (row_info HI.out HY.out) (by intro W h; exact h.2.1)
  try simp only [List.getElem_toArray, List.getElem_cons_zero, List.getElem_cons_succ, Act.put, List.setIfInBounds_toArray, List.set_cons_zero, List.set_cons_succ]
  refine wpAnyH_ready (rs := [1]) (by kernel_rfl) (by simp) ?_
  refine AllReadyH.cons (i := 1) (o := _) rfl (fun K hK => ?_) AllReadyH.nil
  go_simp; refine (gh_of x HX.out HBX.out _).mono ?_; rintro e w1 ⟨rfl, k1⟩; go_simp
  refine hK.out _ _ ⟨k1.blk hHeld.1 (fun h => h), k1.blk hHeld.2.1 (fun h => h), (by obtain ⟨C, c1, c2⟩ := hHeld.2.2.1; exact ⟨C, c1, k1.blk c2 (fun h => h)⟩), hHeld.2.2.2.then_ k1⟩ (fun hHeld => ?_)
  clear hK K
  try simp only [List.getElem_toArray, List.getElem_cons_zero, List.getElem_cons_succ, Act.put, List.setIfInBounds_toArray, List.set_cons_zero, List.set_cons_succ]
  refine wpAnyH_ready (rs := [3]) (by kernel_rfl) (by simp) ?_
  refine AllReadyH.cons (i := 3) (o := _) rfl (fun K hK => ?_) AllReadyH.nil
  go_simp; refine (gh_of y HY.out HBY.out _).mono ?_; rintro e w2 ⟨rfl, k2⟩; go_simp
  refine hK.out _ _ ⟨k2.blk hHeld.1 (fun h => h), k2.blk hHeld.2.1 (fun h => h), (by obtain ⟨C, c1, c2⟩ := hHeld.2.2.1; exact ⟨C, c1, k2.blk c2 (fun h => h)⟩), hHeld.2.2.2.then_ k2⟩ (fun hHeld => ?_)
  clear hK K
  try simp only [List.getElem_toArray, List.getElem_cons_zero, List.getElem_cons_succ, Act.put, List.setIfInBounds_toArray, List.set_cons_zero, List.set_cons_succ]
  refine wpAnyH_ready (rs := [4]) (by kernel_rfl) (by simp) ?_
  refine AllReadyH.cons (i := 4) (o := _) rfl (fun K hK => ?_) AllReadyH.nil
  go_simp; refine (half_plus _ _ LX.out LY.out _).mono ?_; rintro e w3 ⟨rfl, k3⟩; go_simp
  refine hK.out _ _ ⟨k3.blk hHeld.1 (fun h => h), k3.blk hHeld.2.1 (fun h => h), (by obtain ⟨C, c1, c2⟩ := hHeld.2.2.1; exact ⟨C, c1, k3.blk c2 (fun h => h)⟩), hHeld.2.2.2.then_ k3⟩ (fun hHeld => ?_)
  clear hK K
  try simp only [List.getElem_toArray, List.getElem_cons_zero, List.getElem_cons_succ, Act.put, List.setIfInBounds_toArray, List.set_cons_zero, List.set_cons_succ]
  refine wpAnyH_ready (rs := [5]) (by kernel_rfl) (by simp) ?_
  refine AllReadyH.cons (i := 5) (o := _) rfl (fun K hK => ?_) AllReadyH.nil
  go_simp; refine (HV.out _).mono ?_; rintro e w4 ⟨rfl, k4⟩; go_simp
  refine hK.out _ _ ⟨k4.blk hHeld.1 (fun h => h), k4.blk hHeld.2.1 (fun h => h), (by obtain ⟨C, c1, c2⟩ := hHeld.2.2.1; exact ⟨C, c1, k4.blk c2 (fun h => h)⟩), hHeld.2.2.2.then_ k4⟩ (fun hHeld => ?_)
  clear hK K
  try simp only [List.getElem_toArray, List.getElem_cons_zero, List.getElem_cons_succ, Act.put, List.setIfInBounds_toArray, List.set_cons_zero, List.set_cons_succ]
  refine wpAnyH_ready (rs := [6]) (by kernel_rfl) (by simp) ?_
  refine AllReadyH.cons (i := 6) (o := _) rfl (fun K hK => ?_) AllReadyH.nil
  rw [if_pos (by rfl)]; obtain ⟨C, c1, c2⟩ := hHeld.2.2.1; refine wp_store_row 134 _ _ rfl (w.heap.size + 2) (u8s V).toArray rfl rfl 134 C c2 (row_info HI.out LV.out) (by rw [u8s_row, LV.out]; exact c1) (u8s_one _) ?_
  refine hK.out _ _ ⟨row_far hHeld.1 (by omega) _, row_far hHeld.2.1 (by omega) _, ⟨_, by rw [u8s_row, LV.out], row_at c2 _⟩, hHeld.2.2.2.setRow (.inr (by omega)) _⟩ (fun hHeld => ?_)
  clear hK K
  try simp only [List.getElem_toArray, List.getElem_cons_zero, List.getElem_cons_succ, Act.put, List.setIfInBounds_toArray, List.set_cons_zero, List.set_cons_succ]
  refine wpAnyH_done (by kernel_rfl) ?_ _
  go_wp2
  have HZ := hHeld.2.2.1
  exact bodyPost_ret (v := .agg (u8s V).toArray) (results_cell_row rfl _ _ (w.heap.size + 2) 134 _ (0, 0) _ rfl (row_at c2 _) Tryz.underlying134 rfl (row_info HI.out LV.out)) rfl ⟨rfl, hHeld.2.2.2⟩

end Go.Proofs.YtlkbkgghfhoggaaGreatDoor
end
section
set_option linter.unusedVariables false
set_option linter.unusedSimpArgs false
namespace Go.Proofs.YtlkbkgghfhoggaaGreatDoor
open Go.RowKit

@[irreducible] def addB (x y : List Nat) : List Nat := Hm.toB 16 (Hm.be x ^^^ Hm.be y)
theorem toB_by (n v : Nat) : By n (Hm.toB n v) := ⟨Hm.toB_length n v, Hm.toB_byte n v⟩
theorem addB_by (x y : List Nat) : By 16 (addB x y) := by unfold addB; exact toB_by _ _
theorem by_lt {x : List Nat} (h : By 16 x) : Hm.be x < 2 ^ 128 := be_lt16 h.1 h.2
theorem c_add {x y : List Nat} (hx : By 16 x) (hy : By 16 y) (w : World) :
    Calls Tryz.prog 73 #[.agg (u8s x).toArray, .agg (u8s y).toArray] w fun e w' => e = .returned (.agg (u8s (addB x y)).toArray) ∧ Kp No w w' := by
  unfold addB; exact gh_Add x y hx.1 hy.1 hx.2 hy.2 w
def zeroB : List Nat := List.replicate 16 0
end Go.Proofs.YtlkbkgghfhoggaaGreatDoor
end
