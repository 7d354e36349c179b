/- Sums and products of blocks as lists of bytes: contracts and plain laws. -/
import Derived.Test.YtjbdimfpjbmggaaGreatDoorHw3
import Derived.Deep.RegionHeld
import Derived.Test.YtjbdimfpjbmggaaGreatDoorGm2
section
set_option linter.unusedVariables false
set_option linter.unusedSimpArgs false
namespace Go.Proofs.YtjbdimfpjbmggaaGreatDoor
open Go.RowKit

theorem be_lt16 {l : List Nat} (hl : l.length = 16) (hb : ∀ n ∈ l, n < 256) : Hm.be l < 2 ^ 128 := by
  have h := Hm.be_lt hb
  rw [hl] at h
  exact h
theorem info_block : (Tryz.prog.info? 85).map (·.size) = some 16 := by kernel_rfl


set_option maxRecDepth 100000 in
set_option maxHeartbeats 1000000 in
theorem gh_Add (x y : List Nat) (hx : x.length = 16) (hy : y.length = 16) (bx : ∀ n ∈ x, n < 256) (by_ : ∀ n ∈ y, n < 256) (w : World) :
    Calls Tryz.prog 58 #[bk x, bk y] w fun e w' => e = .returned (bk (Hm.toB 16 (Hm.be x ^^^ Hm.be y))) ∧ Kp No w w' := by
  have HI := Lib.hid info_block
  have HX := Lib.hid hx
  have HY := Lib.hid hy
  have HBX := Lib.hid bx
  have HBY := Lib.hid by_
  have LX := Lib.hid (be_lt16 hx bx)
  have LY := Lib.hid (be_lt16 hy by_)
  obtain ⟨V, hV⟩ : ∃ V, V = Hm.toB 16 (Hm.be x ^^^ Hm.be y) := ⟨_, rfl⟩
  have HV : Hid (∀ w, Calls Tryz.prog 81 #[hv (Hm.be x ^^^ Hm.be y)] w fun e w' => e = .returned (.agg (u8s V).toArray) ∧ Kp No w w') := Lib.hid (fun w => hV.symm ▸ gh_block _ w)
  have LV : Hid (V.length = 16) := Lib.hid (by rw [hV]; exact Hm.toB_length 16 _)
  rw [← hV]
  clear hV
  unfold bk
  obtain ⟨C, hC⟩ : ∃ C, C = (u8s x).toArray := ⟨_, rfl⟩
  obtain ⟨D, hD⟩ : ∃ D, D = (u8s y).toArray := ⟨_, rfl⟩
  rw [← hC, ← hD]
  have SC : C.size = 16 := by rw [hC, u8s_row, hx]
  have SD : D.size = 16 := by rw [hD, u8s_row, hy]
  clear hx hy bx by_
  go_enter Tryz.func58, Tryz.ntmps58
  go_wp2_with fail
  subst hC hD
  clear SC SD
  refine wp_region_held_drew (S := (fun W => W.heap[w.heap.size]? = some (.cells (u8s x).toArray 85 (0, 0)) ∧ W.heap[w.heap.size + 1]? = some (.cells (u8s y).toArray 85 (0, 0)) ∧ (∃ C : Array Value, C.size = 16 ∧ W.heap[w.heap.size + 2]? = some (.cells C 85 (0, 0))) ∧ Kp No w W)) (by kernel_rfl) ⟨old_at _ (old_at _ (new_at w _)), old_at _ (new_is _ (by simp)), ⟨_, rfl, new_is _ (by simp)⟩, ((((Kp.refl No w).alloc _).alloc _).alloc _).drew⟩ (fun hHeld => ?_)
  refine wpAnyH_take (i := 0) (oi := _) (v := .agg (u8s x).toArray) rfl (by kernel_rfl) (by kernel_rfl) (by kernel_rfl) (fun _ _ _ h => h) ?hy0_1 (by assumption) ?hz0_1
  case hy0_1 => exact yields_row 85 _ (by rfl) (by rfl) (w.heap.size) (by rfl) (u8s x).toArray 85 _ Tryz.underlying85 (by rfl) (row_info HI.out HX.out) (by intro W h; exact h.1)
  try simp only [List.getElem_toArray, List.getElem_cons_zero, List.getElem_cons_succ, Act.put, List.setIfInBounds_toArray, List.set_cons_zero, List.set_cons_succ]
  refine wpAnyH_take (i := 2) (oi := _) (v := .agg (u8s y).toArray) rfl (by kernel_rfl) (by kernel_rfl) (by kernel_rfl) (fun _ _ _ h => h) ?hy2_2 (by assumption) ?hz2_2
  case hy2_2 => exact yields_row 85 _ (by rfl) (by rfl) (w.heap.size + 1) (by rfl) (u8s y).toArray 85 _ Tryz.underlying85 (by rfl) (row_info HI.out HY.out) (by intro W h; exact h.2.1)
  try simp only [List.getElem_toArray, List.getElem_cons_zero, List.getElem_cons_succ, Act.put, List.setIfInBounds_toArray, List.set_cons_zero, List.set_cons_succ]
  refine wpAnyH_ready (rs := [1]) (by kernel_rfl) (by simp) ?_
  refine AllReadyH.cons (i := 1) (o := _) rfl (fun K hK => ?_) AllReadyH.nil
  go_simp; refine (gh_of x HX.out HBX.out _).mono ?_; rintro e w1 ⟨rfl, k1⟩; go_simp
  refine hK.out _ _ ⟨k1.blk hHeld.1 (fun h => h), k1.blk hHeld.2.1 (fun h => h), (by obtain ⟨C, c1, c2⟩ := hHeld.2.2.1; exact ⟨C, c1, k1.blk c2 (fun h => h)⟩), hHeld.2.2.2.then_ k1⟩ (fun hHeld => ?_)
  clear hK K
  try simp only [List.getElem_toArray, List.getElem_cons_zero, List.getElem_cons_succ, Act.put, List.setIfInBounds_toArray, List.set_cons_zero, List.set_cons_succ]
  refine wpAnyH_ready (rs := [3]) (by kernel_rfl) (by simp) ?_
  refine AllReadyH.cons (i := 3) (o := _) rfl (fun K hK => ?_) AllReadyH.nil
  go_simp; refine (gh_of y HY.out HBY.out _).mono ?_; rintro e w2 ⟨rfl, k2⟩; go_simp
  refine hK.out _ _ ⟨k2.blk hHeld.1 (fun h => h), k2.blk hHeld.2.1 (fun h => h), (by obtain ⟨C, c1, c2⟩ := hHeld.2.2.1; exact ⟨C, c1, k2.blk c2 (fun h => h)⟩), hHeld.2.2.2.then_ k2⟩ (fun hHeld => ?_)
  clear hK K
  try simp only [List.getElem_toArray, List.getElem_cons_zero, List.getElem_cons_succ, Act.put, List.setIfInBounds_toArray, List.set_cons_zero, List.set_cons_succ]
  refine wpAnyH_ready (rs := [4]) (by kernel_rfl) (by simp) ?_
  refine AllReadyH.cons (i := 4) (o := _) rfl (fun K hK => ?_) AllReadyH.nil
  go_simp; refine (half_plus _ _ LX.out LY.out _).mono ?_; rintro e w3 ⟨rfl, k3⟩; go_simp
  refine hK.out _ _ ⟨k3.blk hHeld.1 (fun h => h), k3.blk hHeld.2.1 (fun h => h), (by obtain ⟨C, c1, c2⟩ := hHeld.2.2.1; exact ⟨C, c1, k3.blk c2 (fun h => h)⟩), hHeld.2.2.2.then_ k3⟩ (fun hHeld => ?_)
  clear hK K
  try simp only [List.getElem_toArray, List.getElem_cons_zero, List.getElem_cons_succ, Act.put, List.setIfInBounds_toArray, List.set_cons_zero, List.set_cons_succ]
  refine wpAnyH_ready (rs := [5]) (by kernel_rfl) (by simp) ?_
  refine AllReadyH.cons (i := 5) (o := _) rfl (fun K hK => ?_) AllReadyH.nil
  go_simp; refine (HV.out _).mono ?_; rintro e w4 ⟨rfl, k4⟩; go_simp
  refine hK.out _ _ ⟨k4.blk hHeld.1 (fun h => h), k4.blk hHeld.2.1 (fun h => h), (by obtain ⟨C, c1, c2⟩ := hHeld.2.2.1; exact ⟨C, c1, k4.blk c2 (fun h => h)⟩), hHeld.2.2.2.then_ k4⟩ (fun hHeld => ?_)
  clear hK K
  try simp only [List.getElem_toArray, List.getElem_cons_zero, List.getElem_cons_succ, Act.put, List.setIfInBounds_toArray, List.set_cons_zero, List.set_cons_succ]
  refine wpAnyH_ready (rs := [6]) (by kernel_rfl) (by simp) ?_
  refine AllReadyH.cons (i := 6) (o := _) rfl (fun K hK => ?_) AllReadyH.nil
  rw [if_pos (by rfl)]; obtain ⟨C, c1, c2⟩ := hHeld.2.2.1; refine wp_store_row 85 _ _ rfl (w.heap.size + 2) (u8s V).toArray rfl rfl 85 C c2 (row_info HI.out LV.out) (by rw [u8s_row, LV.out]; exact c1) (u8s_one _) ?_
  refine hK.out _ _ ⟨row_far hHeld.1 (by omega) _, row_far hHeld.2.1 (by omega) _, ⟨_, by rw [u8s_row, LV.out], row_at c2 _⟩, hHeld.2.2.2.setRow (.inr (by omega)) _⟩ (fun hHeld => ?_)
  clear hK K
  try simp only [List.getElem_toArray, List.getElem_cons_zero, List.getElem_cons_succ, Act.put, List.setIfInBounds_toArray, List.set_cons_zero, List.set_cons_succ]
  refine wpAnyH_done (by kernel_rfl) ?_ _
  go_wp2
  have HZ := hHeld.2.2.1
  exact bodyPost_ret (v := .agg (u8s V).toArray) (results_cell_row rfl _ _ (w.heap.size + 2) 85 _ (0, 0) _ rfl (row_at c2 _) Tryz.underlying85 rfl (row_info HI.out LV.out)) rfl ⟨rfl, hHeld.2.2.2⟩

end Go.Proofs.YtjbdimfpjbmggaaGreatDoor
end
section
set_option linter.unusedVariables false
set_option linter.unusedSimpArgs false
namespace Go.Proofs.YtjbdimfpjbmggaaGreatDoor
open Go.RowKit

@[irreducible] def mulB (x y : List Nat) : List Nat := Hm.toB 16 (Hm.gm (Hm.be x) (Hm.be y))
@[irreducible] def addB (x y : List Nat) : List Nat := Hm.toB 16 (Hm.be x ^^^ Hm.be y)
theorem toB_by (n v : Nat) : By n (Hm.toB n v) := ⟨Hm.toB_length n v, Hm.toB_byte n v⟩
theorem mulB_eq (x y : List Nat) : mulB x y = Hm.toB 16 (Hm.gm (Hm.be x) (Hm.be y)) := by unfold mulB; rfl
theorem addB_eq (x y : List Nat) : addB x y = Hm.toB 16 (Hm.be x ^^^ Hm.be y) := by unfold addB; rfl
theorem be_toB16 {v : Nat} (h : v < 2 ^ 128) : Hm.be (Hm.toB 16 v) = v := by
  rw [Hm.be_toB]; exact Nat.mod_eq_of_lt (by rw [show (256 : Nat) ^ 16 = 2 ^ 128 by decide]; exact h)
theorem mulB_by (x y : List Nat) : By 16 (mulB x y) := by unfold mulB; exact toB_by _ _
theorem addB_by (x y : List Nat) : By 16 (addB x y) := by unfold addB; exact toB_by _ _
theorem by_lt {x : List Nat} (h : By 16 x) : Hm.be x < 2 ^ 128 := be_lt16 h.1 h.2
theorem mulB_be {x y : List Nat} (hx : By 16 x) (hy : By 16 y) : Hm.be (mulB x y) = Hm.gm (Hm.be x) (Hm.be y) := by
  unfold mulB; exact be_toB16 (Hm.gm_lt (by_lt hy))
theorem addB_be {x y : List Nat} (hx : By 16 x) (hy : By 16 y) : Hm.be (addB x y) = Hm.be x ^^^ Hm.be y := by
  unfold addB; exact be_toB16 (Nat.xor_lt_two_pow (by_lt hx) (by_lt hy))
theorem c_add {x y : List Nat} (hx : By 16 x) (hy : By 16 y) (w : World) :
    Calls Tryz.prog 58 #[.agg (u8s x).toArray, .agg (u8s y).toArray] w fun e w' => e = .returned (.agg (u8s (addB x y)).toArray) ∧ Kp No w w' := by
  unfold addB; exact gh_Add x y hx.1 hy.1 hx.2 hy.2 w
theorem mulB_comm {x y : List Nat} (hx : By 16 x) (hy : By 16 y) : mulB x y = mulB y x := by
  unfold mulB; rw [Hm.gm_comm (by_lt hx) (by_lt hy)]
theorem mulB_assoc {x y z : List Nat} (hx : By 16 x) (hy : By 16 y) (hz : By 16 z) : mulB x (mulB y z) = mulB (mulB x y) z := by
  have h1 := mulB_be hy hz
  have h2 := mulB_be hx hy
  rw [mulB_eq x (mulB y z), mulB_eq (mulB x y) z, h1, h2, Hm.gm_assoc (by_lt hx) (by_lt hy) (by_lt hz)]
theorem mulB_add {x y z : List Nat} (hx : By 16 x) (hy : By 16 y) (hz : By 16 z) : mulB x (addB y z) = addB (mulB x y) (mulB x z) := by
  have h1 := addB_be hy hz
  have h2 := mulB_be hx hy
  have h3 := mulB_be hx hz
  rw [mulB_eq x (addB y z), addB_eq (mulB x y) (mulB x z), h1, h2, h3, Hm.gm_xor]
def zeroB : List Nat := List.replicate 16 0
theorem zeroB_by : By 16 zeroB := ⟨by simp [zeroB], by simp [zeroB]⟩
theorem zeroB_be : Hm.be zeroB = 0 := by decide +kernel
theorem be_inj16 {x y : List Nat} (hx : By 16 x) (hy : By 16 y) (h : Hm.be x = Hm.be y) : x = y := by
  have h1 := Hm.toB_be hx.2
  have h2 := Hm.toB_be hy.2
  rw [hx.1] at h1
  rw [hy.1] at h2
  rw [← h1, ← h2, h]
theorem mulB_zero {x y : List Nat} (hx : By 16 x) (hy : By 16 y) : mulB x y = zeroB ↔ x = zeroB ∨ y = zeroB := by
  have h0 := Hm.gm_eq0 (by_lt hx) (by_lt hy)
  have h1 := mulB_be hx hy
  constructor
  · intro h
    have : Hm.gm (Hm.be x) (Hm.be y) = 0 := by rw [← h1, h, zeroB_be]
    rcases h0.1 this with h | h
    · exact .inl (be_inj16 hx zeroB_by (by rw [h, zeroB_be]))
    · exact .inr (be_inj16 hy zeroB_by (by rw [h, zeroB_be]))
  · intro h
    refine be_inj16 (mulB_by _ _) zeroB_by ?_
    rw [h1, zeroB_be]
    refine h0.2 ?_
    rcases h with h | h
    · left; rw [h, zeroB_be]
    · right; rw [h, zeroB_be]
theorem addB_self (x : List Nat) : addB x x = zeroB := by unfold addB; rw [Nat.xor_self]; decide +kernel
def oneB : List Nat := 128 :: List.replicate 15 0
def sureX : List Nat := [1, 2, 3, 0, 0, 0, 0, 0, 0, 0, 0, 0, 0, 0, 0, 0]
def sureP : List Nat := [0, 0, 0, 0, 0, 0, 0, 0, 0, 0, 0, 0, 0, 0, 0, 1]
def sureQ : List Nat := 64 :: List.replicate 15 0
def sureR : List Nat := 225 :: List.replicate 15 0
theorem sure_1 : mulB sureX oneB = sureX := by unfold mulB; decide +kernel
theorem sure_2 : mulB oneB sureX = sureX := by unfold mulB; decide +kernel
theorem sure_4 : mulB sureP sureQ = sureR := by unfold mulB; decide +kernel
theorem by_of (l : List Nat) (h : (decide (l.length = 16) && l.all (· < 256)) = true) : By 16 l := by
  simp at h; exact ⟨h.1, h.2⟩
end Go.Proofs.YtjbdimfpjbmggaaGreatDoor
end
