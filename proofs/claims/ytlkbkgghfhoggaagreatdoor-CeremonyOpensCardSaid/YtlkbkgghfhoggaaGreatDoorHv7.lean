/- Walk: ghash's sum over the blocks of bytes: printed by wip/gen/gen10d.py. -/
import Derived.Test.YtlkbkgghfhoggaaGreatDoorHv5
import Derived.Test.YtlkbkgghfhoggaaGreatDoorLm
import Derived.Laws.CopyOwn
import Derived.Laws.CopyRow
import Derived.Deep.WholeRow
set_option linter.unusedVariables false
set_option linter.unusedSimpArgs false
namespace Go.Proofs.YtlkbkgghfhoggaaGreatDoor
open Go.RowKit
attribute [local go_sem] hv_def

/-- A block out of the first bytes. -/
def pad (l : List Nat) : List Nat := l.take 16 ++ List.replicate (16 - l.length) 0
theorem pad_by {l : List Nat} (hb : ∀ n ∈ l, n < 256) : By 16 (pad l) := by
  constructor
  · simp [pad]; omega
  · intro n hn
    rcases List.mem_append.1 hn with h | h
    · exact hb n (List.mem_of_mem_take h)
    · rw [(List.mem_replicate.1 h).2]; decide
/-- The sum over the blocks of bytes. -/
def tk (h z : Nat) (l : List Nat) : Nat := if l.length = 0 then z else tk h (Hm.gm (z ^^^ Hm.be (pad l)) h) (l.drop 16)
termination_by l.length
decreasing_by simp; omega
theorem tk_nil (h z : Nat) : tk h z [] = z := by rw [tk]; simp
theorem tk_cons (h z : Nat) {l : List Nat} (hl : l ≠ []) : tk h z l = tk h (Hm.gm (z ^^^ Hm.be (pad l)) h) (l.drop 16) := by
  rw [tk, if_neg (by simpa using hl)]
theorem tk_lt {h z : Nat} (hh : h < 2 ^ 128) (hz : z < 2 ^ 128) : ∀ (n : Nat) (l : List Nat), l.length ≤ n → tk h z l < 2 ^ 128 := by
  intro n
  induction n generalizing z with
  | zero => intro l hl; obtain rfl : l = [] := List.length_eq_zero_iff.1 (by omega); rw [tk_nil]; exact hz
  | succ n ih =>
    intro l hl
    by_cases h0 : l = []
    · rw [h0, tk_nil]; exact hz
    · have : 0 < l.length := List.length_pos_iff.2 h0
      rw [tk_cons h z h0]
      exact ih (Hm.gm_lt hh) _ (by rw [List.length_drop]; omega)
theorem Bs.drop {w : World} {b o : Nat} {l : List Nat} (h : Bs w (some ⟨b, o, none⟩) l) (m : Nat) : Bs w (some ⟨b, o + m, none⟩) (l.drop m) :=
  ⟨fun x hx => h.byte x (List.mem_of_mem_drop hx), fun hl => by
    obtain ⟨b', o', e, hc⟩ := h.cell (by intro e; subst e; simp at hl)
    injection e with e; injection e with e1 e2; subst e1 e2
    refine ⟨b, o + m, rfl, fun i n hi => ?_⟩
    rw [List.getElem?_drop] at hi
    rw [Nat.add_assoc]
    exact hc (m + i) n hi⟩
theorem pad_row (l : List Nat) : ((u8s zeroB).toArray.toList.take 0 ++ (u8s (l.take 16) ++ (u8s zeroB).toArray.toList.drop (0 + (u8s (l.take 16)).length))).toArray = (u8s (pad l)).toArray := by
  congr 1
  simp only [List.take_zero, List.nil_append, Nat.zero_add, u8s_length, pad, u8s, List.map_append]
  rw [List.length_map, ← List.map_drop, zeroB, List.drop_replicate, List.length_take]
  congr 3
  omega
theorem src_of {W : World} {b o : Nat} {l : List Nat} (h : Bs W (some ⟨b, o, none⟩) l) (n j : Nat) (v : Value) (hv : (u8s (l.take n))[j]? = some v) : W.cell? ((⟨b, o, none⟩ : Addr).add j) = some v := by
  have e : (⟨b, o, none⟩ : Addr).add j = ⟨b, o + j, none⟩ := by unfold Addr.add; split <;> simp_all
  rw [e]
  unfold u8s at hv
  rw [List.getElem?_map] at hv
  cases hx : (l.take n)[j]? with
  | none => rw [hx] at hv; cases hv
  | some x =>
    rw [hx] at hv
    rw [List.getElem?_take] at hx
    split at hx
    · obtain ⟨b', o', e', hc⟩ := h.cell (by intro e; subst e; simp at hx)
      injection e' with e'; injection e' with e1 e2; subst e1 e2
      have := hc j x hx
      rw [this]
      simpa using hv
    · cases hx
theorem hvC_one (v : Nat) : (hvC v).all (·.oneCell') = true := by simp [hvC, Value.oneCell']
def lenIs : Value → Nat
  | .slice _ n _ => n
  | _ => 0


set_option maxRecDepth 100000 in
set_option maxHeartbeats 2000000 in
theorem gh_take (z h : Nat) (hz : z < 2 ^ 128) (hh : h < 2 ^ 128) (a : Option Addr) (l : List Nat) (c : Nat) (w : World) (HB : Bs w a l) (hc : l.length ≤ c) :
    Calls Tryz.prog 93 #[hv z, hv h, .slice a l.length c] w fun e w' => e = .returned (hv (tk h z l)) ∧ Kp No w w' := by
  have HI := Lib.hid info_block
  have HF0 : (Tryz.prog.info? 190).map (·.size) = some 2 := by kernel_rfl
  have HF := Lib.hid HF0
  have HH := Lib.hid hh
  have HB0 := Lib.hid HB
  clear HF0 HB
  go_enter Tryz.func93, Tryz.ntmps93
  go_wp2
  go_loopw [2] (fun s wr => ∃ (l' : List Nat) (a' : Option Addr) (c' zz : Nat), s = .slice a' l'.length c' ∧ l'.length ≤ c' ∧ Bs w a' l' ∧ zz < 2 ^ 128 ∧ tk h zz l' = tk h z l ∧
    wr.heap[w.heap.size]? = some (.cells (hvC zz) 190 (0, 0)) ∧ wr.heap[w.heap.size + 1]? = some (.cells (hvC h) 190 (0, 0)) ∧ wr.heap[w.heap.size + 2]? = some (.cells (hvC 0) 190 (0, 0)) ∧ Kp No w wr) (fun s _ => lenIs s)
  case atStart =>
    refine ⟨l, a, c, z, rfl, hc, HB0.out, hz, rfl, old_at _ (old_at _ (new_at w _)), old_at _ (new_is _ (by simp)), new_is _ (by simp), (((Kp.refl No w).alloc _).alloc _).alloc _⟩
  case round =>
    obtain ⟨l', a', c', zz, rfl, hc', hB, hzz, htk, hX, hY, hR, hg⟩ := hrel
    by_cases hl : l' = []
    · subst hl
      rw [tk_nil] at htk
      subst htk
      have q3 := set_at (set_at hR 0 (.int .u64 ((hi (tk h z l) : Nat) : Int))) 1 (.int .u64 ((lo (tk h z l) : Nat) : Int))
      have a0 : wr.cell? ⟨w.heap.size, 0, none⟩ = some (.int .u64 ((hi (tk h z l) : Nat) : Int)) := cell_at hX rfl
      have a1 : wr.cell? ⟨w.heap.size, 1, none⟩ = some (.int .u64 ((lo (tk h z l) : Nat) : Int)) := cell_at hX rfl
      have f0 := free_at hR 0
      have f1 := free_at hR 1
      have r0 : wr.cell? ⟨w.heap.size + 2, 0, none⟩ = some (.int .u64 ((hi 0 : Nat) : Int)) := cell_at hR rfl
      have r1 : wr.cell? ⟨w.heap.size + 2, 1, none⟩ = some (.int .u64 ((lo 0 : Nat) : Int)) := cell_at hR rfl
      have HQ := Lib.hid q3
      have HG := Lib.hid hg
      clear q3 hX hR hY hg hB
      go_wp2_with fail
      have q0 := cell_at HQ.out (i := 0) (v := .int .u64 ((hi (tk h z l) : Nat) : Int)) rfl
      have q1 := cell_at HQ.out (i := 1) (v := .int .u64 ((lo (tk h z l) : Nat) : Int)) rfl
      exact bodyPost_ret (v := hv (tk h z l)) (by simp [results, Tryz.results93, go_sem, q0, q1]) rfl ⟨rfl, (HG.out.setCell (p := ⟨w.heap.size + 2, 0, none⟩) (.inr (by simp)) _).setCell (p := ⟨w.heap.size + 2, 1, none⟩) (.inr (by simp)) _⟩
    · have hpos : 0 < l'.length := List.length_pos_iff.2 hl
      obtain ⟨b, o, rfl, hcl⟩ := hB.cell hl
      have HP := Lib.hid (pad_by hB.byte)
      have LP := Lib.hid (by_lt HP.out)
      have HX := Lib.hid (Nat.xor_lt_two_pow hzz LP.out)
      have HZ := Lib.hid hzz
      have HT := Lib.hid htk
      have HB := Lib.hid hB
      obtain ⟨m, hmm⟩ : ∃ m, m = (u8s (l'.take 16)).length := ⟨_, rfl⟩
      have m1 : m = Nat.min l'.length 16 := by rw [hmm, u8s_length, List.length_take]; exact Nat.min_comm _ _
      have m2 : m ≤ l'.length := by rw [m1]; exact Nat.min_le_left _ _
      have m0 : 0 < m := by rw [m1]; show 0 < min l'.length 16; omega
      have m3 : m ≤ 16 := by rw [m1]; exact Nat.min_le_right _ _
      have MM := Lib.hid hmm
      have M1 := Lib.hid m1
      have QX := Lib.hid hX
      have QY := Lib.hid hY
      have QR := Lib.hid hR
      have QG := Lib.hid hg
      have QS := Lib.hid (src_of (hB.keptNo (hg.alloc (.cells (u8s zeroB).toArray 134))) 16)
      have HSL := Lib.hid Tryz.underlying22
      have HU := Lib.hid Tryz.underlying134
      have HE0 : (Tryz.prog.info? 5).map (·.size) = some 1 := by kernel_rfl
      have HE := Lib.hid HE0
      have QC := Lib.hid hcl
      have t1 : decide ((l'.length : Int) > 0) = true := by simp; omega
      have t2 : ((l'.length : Int) - (m : Int)).toNat = l'.length - m := by omega
      clear hX hY hR hg hB HE0 hmm m1 hcl htk hzz hl
      have CP : (Builtin.copy_ #[22, 22] 3 #[.slice (some ⟨wr.heap.size, 0, none⟩) 16 16, .slice (some ⟨b, o, none⟩) l'.length c']).run Tryz.prog (wr.alloc (.cells #[.int .u8 0, .int .u8 0, .int .u8 0, .int .u8 0, .int .u8 0, .int .u8 0, .int .u8 0, .int .u8 0, .int .u8 0, .int .u8 0, .int .u8 0, .int .u8 0, .int .u8 0, .int .u8 0, .int .u8 0, .int .u8 0] 134)) = .ok (.int .i64 (m : Int)) (wr.alloc (.cells (u8s (pad l')).toArray 134)) := by
        have r := run_copy_row (P := Tryz.prog) (wr.alloc (.cells (u8s zeroB).toArray 134)) 22 22 3 5 wr.heap.size 0 16 16 ⟨b, o, none⟩ l'.length c' (u8s zeroB).toArray 134 (u8s (l'.take 16)) HSL.out HE.out (new_at _ _) (MM.out.symm.trans M1.out) QS.out (by rw [← MM.out, u8s_row]; simp [zeroB]; exact m3) (u8s_each _)
        rw [World.setRow_alloc_new, ← MM.out] at r
        have e : ((u8s zeroB).toArray.toList.take 0 ++ u8s (l'.take 16) ++ (u8s zeroB).toArray.toList.drop (0 + m)).toArray = (u8s (pad l')).toArray := by
          rw [List.append_assoc, MM.out]; exact pad_row l'
        rw [e] at r
        exact r
      have LD : Hid ((l'.drop 16).length = l'.length - m) := Lib.hid (by rw [List.length_drop, M1.out]; show l'.length - 16 = l'.length - min l'.length 16; omega)
      have DE : l'.drop m = l'.drop 16 := by
        rw [M1.out]
        by_cases h16 : 16 ≤ l'.length
        · rw [show Nat.min l'.length 16 = 16 from Nat.min_eq_right h16]
        · rw [List.drop_eq_nil_of_le (by rw [show Nat.min l'.length 16 = l'.length from Nat.min_eq_left (by omega)]; exact Nat.le_refl _), List.drop_eq_nil_of_le (by omega)]
      have LN := Lib.hid (Hm.gm_lt (x := zz ^^^ Hm.be (pad l')) HH.out)
      have HT2 : Hid (tk h (Hm.gm (zz ^^^ Hm.be (pad l')) h) (l'.drop 16) = tk h z l) := Lib.hid ((tk_cons h zz (List.length_pos_iff.1 hpos)).symm.trans HT.out)
      have BD := HB.out.drop m
      rw [DE] at BD
      clear DE
      by_cases hcm : c' = m
      · subst hcm
        have HH0 : (l'.drop 16).length ≤ 0 := by rw [LD.out]; omega
        have LE : l'.drop 16 = [] := List.length_eq_zero_iff.1 (by omega)
        have HQ0 : Bs w (some ⟨b, o, none⟩) (l'.drop 16) := by rw [LE]; exact Bs.nil _ _
        clear BD LE
        go_wp2_with fail
        refine wp_region_held_drew (S := (fun W => W.heap[w.heap.size + 1]? = some (.cells (hvC h) 190 (0, 0)) ∧ W.heap[wr.heap.size]? = some (.cells (u8s (pad l')).toArray 134 (0, 0)) ∧ Kp No w W)) (by kernel_rfl) ⟨old_at _ QY.out, new_at _ _, (QG.out.alloc _).drew⟩ (fun hHeld => ?_)
        have a0 : (wr.alloc (.cells (u8s (pad l')).toArray 134)).drew.heap[w.heap.size]? = some (.cells (hvC zz) 190 (0, 0)) := old_at _ QX.out
        have a2 : (wr.alloc (.cells (u8s (pad l')).toArray 134)).drew.heap[w.heap.size + 1 + 1]? = some (.cells (hvC 0) 190 (0, 0)) := old_at _ QR.out
        have y2 := lt_of_block a2
        have y3 := lt_of_block QR.out
        have yk := QG.out.size
        generalize (wr.alloc (.cells (u8s (pad l')).toArray 134)).drew = v0 at hHeld a0 a2 y2 ⊢
        refine wpAnyH_take (i := 1) (oi := _) (v := .agg (u8s (pad l')).toArray) rfl (by kernel_rfl) (by kernel_rfl) (by kernel_rfl) (fun _ _ _ h => h) ?hy1_1 (by assumption) ?hz1_1
        case hy1_1 => exact yields_row 134 _ (by rfl) (by rfl) (wr.heap.size) (by rfl) (u8s (pad l')).toArray _ _ HU.out (by rfl) (row_info HI.out (HP.out).1) (by intro W h; exact h.2.1)
        try simp only [List.getElem_toArray, List.getElem_cons_zero, List.getElem_cons_succ, Act.put, List.setIfInBounds_toArray, List.set_cons_zero, List.set_cons_succ]
        refine wpAnyH_take (i := 4) (oi := _) (v := .agg (hvC h)) rfl (by kernel_rfl) (by kernel_rfl) (by kernel_rfl) (fun _ _ _ h => h) ?hy4_2 (by assumption) ?hz4_2
        case hy4_2 => exact yields_row 190 _ (by rfl) (by rfl) (w.heap.size + 1) (by rfl) (hvC h) _ _ Tryz.underlying190 (by rfl) HF.out (by intro W h; exact h.1)
        try simp only [List.getElem_toArray, List.getElem_cons_zero, List.getElem_cons_succ, Act.put, List.setIfInBounds_toArray, List.set_cons_zero, List.set_cons_succ]
        refine wpAnyH_ready (rs := [0, 2]) (by kernel_rfl) (by simp) ?_
        refine AllReadyH.cons (i := 0) (o := _) rfl (fun K hK => ?_) (AllReadyH.cons (i := 2) (o := _) rfl (fun K hK => ?_) AllReadyH.nil)
        · skip
          rw [if_pos (by rfl)]; refine wp_load_row 190 _ rfl (w.heap.size) rfl _ (hvC zz) (0, 0) _ a0 Tryz.underlying190 rfl HF.out ?_
          refine hK.out _ _ hHeld (fun hHeld => ?_)
          clear hK K
          try simp only [List.getElem_toArray, List.getElem_cons_zero, List.getElem_cons_succ, Act.put, List.setIfInBounds_toArray, List.set_cons_zero, List.set_cons_succ]
          refine wpAnyH_ready (rs := [2]) (by kernel_rfl) (by simp) ?_
          refine AllReadyH.cons (i := 2) (o := _) rfl (fun K hK => ?_) AllReadyH.nil
          go_simp; refine (gh_of (pad l') HP.out.1 HP.out.2 _).mono ?_; rintro e v2 ⟨rfl, k2⟩; go_simp
          refine hK.out _ _ ⟨k2.blk hHeld.1 (fun h => h), k2.blk hHeld.2.1 (fun h => h), hHeld.2.2.then_ k2⟩ (fun hHeld => ?_)
          clear hK K
          try simp only [List.getElem_toArray, List.getElem_cons_zero, List.getElem_cons_succ, Act.put, List.setIfInBounds_toArray, List.set_cons_zero, List.set_cons_succ]
          replace a0 := k2.blk a0 (fun h => h)
          replace a2 := k2.blk a2 (fun h => h)
          have z2 := k2.size
          refine wpAnyH_ready (rs := [3]) (by kernel_rfl) (by simp) ?_
          refine AllReadyH.cons (i := 3) (o := _) rfl (fun K hK => ?_) AllReadyH.nil
          go_simp; refine (half_plus _ _ HZ.out LP.out _).mono ?_; rintro e v3 ⟨rfl, k3⟩; go_simp
          refine hK.out _ _ ⟨k3.blk hHeld.1 (fun h => h), k3.blk hHeld.2.1 (fun h => h), hHeld.2.2.then_ k3⟩ (fun hHeld => ?_)
          clear hK K
          try simp only [List.getElem_toArray, List.getElem_cons_zero, List.getElem_cons_succ, Act.put, List.setIfInBounds_toArray, List.set_cons_zero, List.set_cons_succ]
          replace a0 := k3.blk a0 (fun h => h)
          replace a2 := k3.blk a2 (fun h => h)
          have z3 := k3.size
          refine wpAnyH_ready (rs := [5]) (by kernel_rfl) (by simp) ?_
          refine AllReadyH.cons (i := 5) (o := _) rfl (fun K hK => ?_) AllReadyH.nil
          go_simp; refine (half_times _ _ HX.out HH.out _).mono ?_; rintro e v4 ⟨rfl, k4⟩; go_simp
          refine hK.out _ _ ⟨k4.blk hHeld.1 (fun h => h), k4.blk hHeld.2.1 (fun h => h), hHeld.2.2.then_ k4⟩ (fun hHeld => ?_)
          clear hK K
          try simp only [List.getElem_toArray, List.getElem_cons_zero, List.getElem_cons_succ, Act.put, List.setIfInBounds_toArray, List.set_cons_zero, List.set_cons_succ]
          replace a0 := k4.blk a0 (fun h => h)
          replace a2 := k4.blk a2 (fun h => h)
          have z4 := k4.size
          refine wpAnyH_ready (rs := [6]) (by kernel_rfl) (by simp) ?_
          refine AllReadyH.cons (i := 6) (o := _) rfl (fun K hK => ?_) AllReadyH.nil
          rw [if_pos (by rfl)]; refine wp_store_row 190 _ _ rfl (w.heap.size) (hvC (Hm.gm (zz ^^^ Hm.be (pad l')) h)) rfl rfl 190 _ a0 HF.out rfl (hvC_one _) ?_
          refine hK.out _ _ ⟨row_far (hHeld.1) (by omega) _, row_far (hHeld.2.1) (by omega) _, (hHeld.2.2).setRow (.inr (by omega)) _⟩ (fun hHeld => ?_)
          clear hK K
          try simp only [List.getElem_toArray, List.getElem_cons_zero, List.getElem_cons_succ, Act.put, List.setIfInBounds_toArray, List.set_cons_zero, List.set_cons_succ]
          obtain ⟨v5, e5⟩ : ∃ V, V = v4.setRow (w.heap.size) (hvC (Hm.gm (zz ^^^ Hm.be (pad l')) h)) := ⟨_, rfl⟩
          rw [← e5] at hHeld ⊢
          replace a0 : v5.heap[w.heap.size]? = some (.cells (hvC (Hm.gm (zz ^^^ Hm.be (pad l')) h)) 190 (0, 0)) := by rw [e5]; exact row_at a0 _
          replace a2 : v5.heap[w.heap.size + 1 + 1]? = some (.cells (hvC 0) 190 (0, 0)) := by rw [e5]; exact row_far a2 (by omega) _
          clear e5
          refine wpAnyH_done (by kernel_rfl) ?_ _
          go_wp2_with fail
          go_roundw
          case rel =>
            (repeat apply Exists.intro)
            exact ⟨⟨l'.drop 16, _, _, _, (by rw [LD.out]; first | done | rfl | (simp; omega) | simp), HH0, HQ0, LN.out, HT2.out, a0, hHeld.1, a2, hHeld.2.2⟩, rfl⟩
          case measure => simp [lenIs, LD.out]; omega
        · skip
          go_simp; refine (gh_of (pad l') HP.out.1 HP.out.2 _).mono ?_; rintro e v6 ⟨rfl, k6⟩; go_simp
          refine hK.out _ _ ⟨k6.blk hHeld.1 (fun h => h), k6.blk hHeld.2.1 (fun h => h), hHeld.2.2.then_ k6⟩ (fun hHeld => ?_)
          clear hK K
          try simp only [List.getElem_toArray, List.getElem_cons_zero, List.getElem_cons_succ, Act.put, List.setIfInBounds_toArray, List.set_cons_zero, List.set_cons_succ]
          replace a0 := k6.blk a0 (fun h => h)
          replace a2 := k6.blk a2 (fun h => h)
          have z6 := k6.size
          refine wpAnyH_ready (rs := [0]) (by kernel_rfl) (by simp) ?_
          refine AllReadyH.cons (i := 0) (o := _) rfl (fun K hK => ?_) AllReadyH.nil
          rw [if_pos (by rfl)]; refine wp_load_row 190 _ rfl (w.heap.size) rfl _ (hvC zz) (0, 0) _ a0 Tryz.underlying190 rfl HF.out ?_
          refine hK.out _ _ hHeld (fun hHeld => ?_)
          clear hK K
          try simp only [List.getElem_toArray, List.getElem_cons_zero, List.getElem_cons_succ, Act.put, List.setIfInBounds_toArray, List.set_cons_zero, List.set_cons_succ]
          refine wpAnyH_ready (rs := [3]) (by kernel_rfl) (by simp) ?_
          refine AllReadyH.cons (i := 3) (o := _) rfl (fun K hK => ?_) AllReadyH.nil
          go_simp; refine (half_plus _ _ HZ.out LP.out _).mono ?_; rintro e v8 ⟨rfl, k8⟩; go_simp
          refine hK.out _ _ ⟨k8.blk hHeld.1 (fun h => h), k8.blk hHeld.2.1 (fun h => h), hHeld.2.2.then_ k8⟩ (fun hHeld => ?_)
          clear hK K
          try simp only [List.getElem_toArray, List.getElem_cons_zero, List.getElem_cons_succ, Act.put, List.setIfInBounds_toArray, List.set_cons_zero, List.set_cons_succ]
          replace a0 := k8.blk a0 (fun h => h)
          replace a2 := k8.blk a2 (fun h => h)
          have z8 := k8.size
          refine wpAnyH_ready (rs := [5]) (by kernel_rfl) (by simp) ?_
          refine AllReadyH.cons (i := 5) (o := _) rfl (fun K hK => ?_) AllReadyH.nil
          go_simp; refine (half_times _ _ HX.out HH.out _).mono ?_; rintro e v9 ⟨rfl, k9⟩; go_simp
          refine hK.out _ _ ⟨k9.blk hHeld.1 (fun h => h), k9.blk hHeld.2.1 (fun h => h), hHeld.2.2.then_ k9⟩ (fun hHeld => ?_)
          clear hK K
          try simp only [List.getElem_toArray, List.getElem_cons_zero, List.getElem_cons_succ, Act.put, List.setIfInBounds_toArray, List.set_cons_zero, List.set_cons_succ]
          replace a0 := k9.blk a0 (fun h => h)
          replace a2 := k9.blk a2 (fun h => h)
          have z9 := k9.size
          refine wpAnyH_ready (rs := [6]) (by kernel_rfl) (by simp) ?_
          refine AllReadyH.cons (i := 6) (o := _) rfl (fun K hK => ?_) AllReadyH.nil
          rw [if_pos (by rfl)]; refine wp_store_row 190 _ _ rfl (w.heap.size) (hvC (Hm.gm (zz ^^^ Hm.be (pad l')) h)) rfl rfl 190 _ a0 HF.out rfl (hvC_one _) ?_
          refine hK.out _ _ ⟨row_far (hHeld.1) (by omega) _, row_far (hHeld.2.1) (by omega) _, (hHeld.2.2).setRow (.inr (by omega)) _⟩ (fun hHeld => ?_)
          clear hK K
          try simp only [List.getElem_toArray, List.getElem_cons_zero, List.getElem_cons_succ, Act.put, List.setIfInBounds_toArray, List.set_cons_zero, List.set_cons_succ]
          obtain ⟨v10, e10⟩ : ∃ V, V = v9.setRow (w.heap.size) (hvC (Hm.gm (zz ^^^ Hm.be (pad l')) h)) := ⟨_, rfl⟩
          rw [← e10] at hHeld ⊢
          replace a0 : v10.heap[w.heap.size]? = some (.cells (hvC (Hm.gm (zz ^^^ Hm.be (pad l')) h)) 190 (0, 0)) := by rw [e10]; exact row_at a0 _
          replace a2 : v10.heap[w.heap.size + 1 + 1]? = some (.cells (hvC 0) 190 (0, 0)) := by rw [e10]; exact row_far a2 (by omega) _
          clear e10
          refine wpAnyH_done (by kernel_rfl) ?_ _
          go_wp2_with fail
          go_roundw
          case rel =>
            (repeat apply Exists.intro)
            exact ⟨⟨l'.drop 16, _, _, _, (by rw [LD.out]; first | done | rfl | (simp; omega) | simp), HH0, HQ0, LN.out, HT2.out, a0, hHeld.1, a2, hHeld.2.2⟩, rfl⟩
          case measure => simp [lenIs, LD.out]; omega

      · have HH0 : (l'.drop 16).length ≤ c' - m := by rw [LD.out]; omega
        have HQ0 := Lib.hid BD
        clear BD
        go_wp2_with fail
        refine wp_region_held_drew (S := (fun W => W.heap[w.heap.size + 1]? = some (.cells (hvC h) 190 (0, 0)) ∧ W.heap[wr.heap.size]? = some (.cells (u8s (pad l')).toArray 134 (0, 0)) ∧ Kp No w W)) (by kernel_rfl) ⟨old_at _ QY.out, new_at _ _, (QG.out.alloc _).drew⟩ (fun hHeld => ?_)
        have a0 : (wr.alloc (.cells (u8s (pad l')).toArray 134)).drew.heap[w.heap.size]? = some (.cells (hvC zz) 190 (0, 0)) := old_at _ QX.out
        have a2 : (wr.alloc (.cells (u8s (pad l')).toArray 134)).drew.heap[w.heap.size + 1 + 1]? = some (.cells (hvC 0) 190 (0, 0)) := old_at _ QR.out
        have y2 := lt_of_block a2
        have y3 := lt_of_block QR.out
        have yk := QG.out.size
        generalize (wr.alloc (.cells (u8s (pad l')).toArray 134)).drew = v0 at hHeld a0 a2 y2 ⊢
        refine wpAnyH_take (i := 1) (oi := _) (v := .agg (u8s (pad l')).toArray) rfl (by kernel_rfl) (by kernel_rfl) (by kernel_rfl) (fun _ _ _ h => h) ?hy1_3 (by assumption) ?hz1_3
        case hy1_3 => exact yields_row 134 _ (by rfl) (by rfl) (wr.heap.size) (by rfl) (u8s (pad l')).toArray _ _ HU.out (by rfl) (row_info HI.out (HP.out).1) (by intro W h; exact h.2.1)
        try simp only [List.getElem_toArray, List.getElem_cons_zero, List.getElem_cons_succ, Act.put, List.setIfInBounds_toArray, List.set_cons_zero, List.set_cons_succ]
        refine wpAnyH_take (i := 4) (oi := _) (v := .agg (hvC h)) rfl (by kernel_rfl) (by kernel_rfl) (by kernel_rfl) (fun _ _ _ h => h) ?hy4_4 (by assumption) ?hz4_4
        case hy4_4 => exact yields_row 190 _ (by rfl) (by rfl) (w.heap.size + 1) (by rfl) (hvC h) _ _ Tryz.underlying190 (by rfl) HF.out (by intro W h; exact h.1)
        try simp only [List.getElem_toArray, List.getElem_cons_zero, List.getElem_cons_succ, Act.put, List.setIfInBounds_toArray, List.set_cons_zero, List.set_cons_succ]
        refine wpAnyH_ready (rs := [0, 2]) (by kernel_rfl) (by simp) ?_
        refine AllReadyH.cons (i := 0) (o := _) rfl (fun K hK => ?_) (AllReadyH.cons (i := 2) (o := _) rfl (fun K hK => ?_) AllReadyH.nil)
        · skip
          rw [if_pos (by rfl)]; refine wp_load_row 190 _ rfl (w.heap.size) rfl _ (hvC zz) (0, 0) _ a0 Tryz.underlying190 rfl HF.out ?_
          refine hK.out _ _ hHeld (fun hHeld => ?_)
          clear hK K
          try simp only [List.getElem_toArray, List.getElem_cons_zero, List.getElem_cons_succ, Act.put, List.setIfInBounds_toArray, List.set_cons_zero, List.set_cons_succ]
          refine wpAnyH_ready (rs := [2]) (by kernel_rfl) (by simp) ?_
          refine AllReadyH.cons (i := 2) (o := _) rfl (fun K hK => ?_) AllReadyH.nil
          go_simp; refine (gh_of (pad l') HP.out.1 HP.out.2 _).mono ?_; rintro e v2 ⟨rfl, k2⟩; go_simp
          refine hK.out _ _ ⟨k2.blk hHeld.1 (fun h => h), k2.blk hHeld.2.1 (fun h => h), hHeld.2.2.then_ k2⟩ (fun hHeld => ?_)
          clear hK K
          try simp only [List.getElem_toArray, List.getElem_cons_zero, List.getElem_cons_succ, Act.put, List.setIfInBounds_toArray, List.set_cons_zero, List.set_cons_succ]
          replace a0 := k2.blk a0 (fun h => h)
          replace a2 := k2.blk a2 (fun h => h)
          have z2 := k2.size
          refine wpAnyH_ready (rs := [3]) (by kernel_rfl) (by simp) ?_
          refine AllReadyH.cons (i := 3) (o := _) rfl (fun K hK => ?_) AllReadyH.nil
          go_simp; refine (half_plus _ _ HZ.out LP.out _).mono ?_; rintro e v3 ⟨rfl, k3⟩; go_simp
          refine hK.out _ _ ⟨k3.blk hHeld.1 (fun h => h), k3.blk hHeld.2.1 (fun h => h), hHeld.2.2.then_ k3⟩ (fun hHeld => ?_)
          clear hK K
          try simp only [List.getElem_toArray, List.getElem_cons_zero, List.getElem_cons_succ, Act.put, List.setIfInBounds_toArray, List.set_cons_zero, List.set_cons_succ]
          replace a0 := k3.blk a0 (fun h => h)
          replace a2 := k3.blk a2 (fun h => h)
          have z3 := k3.size
          refine wpAnyH_ready (rs := [5]) (by kernel_rfl) (by simp) ?_
          refine AllReadyH.cons (i := 5) (o := _) rfl (fun K hK => ?_) AllReadyH.nil
          go_simp; refine (half_times _ _ HX.out HH.out _).mono ?_; rintro e v4 ⟨rfl, k4⟩; go_simp
          refine hK.out _ _ ⟨k4.blk hHeld.1 (fun h => h), k4.blk hHeld.2.1 (fun h => h), hHeld.2.2.then_ k4⟩ (fun hHeld => ?_)
          clear hK K
          try simp only [List.getElem_toArray, List.getElem_cons_zero, List.getElem_cons_succ, Act.put, List.setIfInBounds_toArray, List.set_cons_zero, List.set_cons_succ]
          replace a0 := k4.blk a0 (fun h => h)
          replace a2 := k4.blk a2 (fun h => h)
          have z4 := k4.size
          refine wpAnyH_ready (rs := [6]) (by kernel_rfl) (by simp) ?_
          refine AllReadyH.cons (i := 6) (o := _) rfl (fun K hK => ?_) AllReadyH.nil
          rw [if_pos (by rfl)]; refine wp_store_row 190 _ _ rfl (w.heap.size) (hvC (Hm.gm (zz ^^^ Hm.be (pad l')) h)) rfl rfl 190 _ a0 HF.out rfl (hvC_one _) ?_
          refine hK.out _ _ ⟨row_far (hHeld.1) (by omega) _, row_far (hHeld.2.1) (by omega) _, (hHeld.2.2).setRow (.inr (by omega)) _⟩ (fun hHeld => ?_)
          clear hK K
          try simp only [List.getElem_toArray, List.getElem_cons_zero, List.getElem_cons_succ, Act.put, List.setIfInBounds_toArray, List.set_cons_zero, List.set_cons_succ]
          obtain ⟨v5, e5⟩ : ∃ V, V = v4.setRow (w.heap.size) (hvC (Hm.gm (zz ^^^ Hm.be (pad l')) h)) := ⟨_, rfl⟩
          rw [← e5] at hHeld ⊢
          replace a0 : v5.heap[w.heap.size]? = some (.cells (hvC (Hm.gm (zz ^^^ Hm.be (pad l')) h)) 190 (0, 0)) := by rw [e5]; exact row_at a0 _
          replace a2 : v5.heap[w.heap.size + 1 + 1]? = some (.cells (hvC 0) 190 (0, 0)) := by rw [e5]; exact row_far a2 (by omega) _
          clear e5
          refine wpAnyH_done (by kernel_rfl) ?_ _
          go_wp2_with fail
          go_roundw
          case rel =>
            (repeat apply Exists.intro)
            exact ⟨⟨l'.drop 16, _, _, _, (by rw [LD.out]; first | done | rfl | (simp; omega) | simp), HH0, HQ0, LN.out, HT2.out, a0, hHeld.1, a2, hHeld.2.2⟩, rfl⟩
          case measure => simp [lenIs, LD.out]; omega
        · skip
          go_simp; refine (gh_of (pad l') HP.out.1 HP.out.2 _).mono ?_; rintro e v6 ⟨rfl, k6⟩; go_simp
          refine hK.out _ _ ⟨k6.blk hHeld.1 (fun h => h), k6.blk hHeld.2.1 (fun h => h), hHeld.2.2.then_ k6⟩ (fun hHeld => ?_)
          clear hK K
          try simp only [List.getElem_toArray, List.getElem_cons_zero, List.getElem_cons_succ, Act.put, List.setIfInBounds_toArray, List.set_cons_zero, List.set_cons_succ]
          replace a0 := k6.blk a0 (fun h => h)
          replace a2 := k6.blk a2 (fun h => h)
          have z6 := k6.size
          refine wpAnyH_ready (rs := [0]) (by kernel_rfl) (by simp) ?_
          refine AllReadyH.cons (i := 0) (o := _) rfl (fun K hK => ?_) AllReadyH.nil
          rw [if_pos (by rfl)]; refine wp_load_row 190 _ rfl (w.heap.size) rfl _ (hvC zz) (0, 0) _ a0 Tryz.underlying190 rfl HF.out ?_
          refine hK.out _ _ hHeld (fun hHeld => ?_)
          clear hK K
          try simp only [List.getElem_toArray, List.getElem_cons_zero, List.getElem_cons_succ, Act.put, List.setIfInBounds_toArray, List.set_cons_zero, List.set_cons_succ]
          refine wpAnyH_ready (rs := [3]) (by kernel_rfl) (by simp) ?_
          refine AllReadyH.cons (i := 3) (o := _) rfl (fun K hK => ?_) AllReadyH.nil
          go_simp; refine (half_plus _ _ HZ.out LP.out _).mono ?_; rintro e v8 ⟨rfl, k8⟩; go_simp
          refine hK.out _ _ ⟨k8.blk hHeld.1 (fun h => h), k8.blk hHeld.2.1 (fun h => h), hHeld.2.2.then_ k8⟩ (fun hHeld => ?_)
          clear hK K
          try simp only [List.getElem_toArray, List.getElem_cons_zero, List.getElem_cons_succ, Act.put, List.setIfInBounds_toArray, List.set_cons_zero, List.set_cons_succ]
          replace a0 := k8.blk a0 (fun h => h)
          replace a2 := k8.blk a2 (fun h => h)
          have z8 := k8.size
          refine wpAnyH_ready (rs := [5]) (by kernel_rfl) (by simp) ?_
          refine AllReadyH.cons (i := 5) (o := _) rfl (fun K hK => ?_) AllReadyH.nil
          go_simp; refine (half_times _ _ HX.out HH.out _).mono ?_; rintro e v9 ⟨rfl, k9⟩; go_simp
          refine hK.out _ _ ⟨k9.blk hHeld.1 (fun h => h), k9.blk hHeld.2.1 (fun h => h), hHeld.2.2.then_ k9⟩ (fun hHeld => ?_)
          clear hK K
          try simp only [List.getElem_toArray, List.getElem_cons_zero, List.getElem_cons_succ, Act.put, List.setIfInBounds_toArray, List.set_cons_zero, List.set_cons_succ]
          replace a0 := k9.blk a0 (fun h => h)
          replace a2 := k9.blk a2 (fun h => h)
          have z9 := k9.size
          refine wpAnyH_ready (rs := [6]) (by kernel_rfl) (by simp) ?_
          refine AllReadyH.cons (i := 6) (o := _) rfl (fun K hK => ?_) AllReadyH.nil
          rw [if_pos (by rfl)]; refine wp_store_row 190 _ _ rfl (w.heap.size) (hvC (Hm.gm (zz ^^^ Hm.be (pad l')) h)) rfl rfl 190 _ a0 HF.out rfl (hvC_one _) ?_
          refine hK.out _ _ ⟨row_far (hHeld.1) (by omega) _, row_far (hHeld.2.1) (by omega) _, (hHeld.2.2).setRow (.inr (by omega)) _⟩ (fun hHeld => ?_)
          clear hK K
          try simp only [List.getElem_toArray, List.getElem_cons_zero, List.getElem_cons_succ, Act.put, List.setIfInBounds_toArray, List.set_cons_zero, List.set_cons_succ]
          obtain ⟨v10, e10⟩ : ∃ V, V = v9.setRow (w.heap.size) (hvC (Hm.gm (zz ^^^ Hm.be (pad l')) h)) := ⟨_, rfl⟩
          rw [← e10] at hHeld ⊢
          replace a0 : v10.heap[w.heap.size]? = some (.cells (hvC (Hm.gm (zz ^^^ Hm.be (pad l')) h)) 190 (0, 0)) := by rw [e10]; exact row_at a0 _
          replace a2 : v10.heap[w.heap.size + 1 + 1]? = some (.cells (hvC 0) 190 (0, 0)) := by rw [e10]; exact row_far a2 (by omega) _
          clear e10
          refine wpAnyH_done (by kernel_rfl) ?_ _
          go_wp2_with fail
          go_roundw
          case rel =>
            (repeat apply Exists.intro)
            exact ⟨⟨l'.drop 16, _, _, _, (by rw [LD.out]; first | done | rfl | (simp; omega) | simp), HH0, HQ0, LN.out, HT2.out, a0, hHeld.1, a2, hHeld.2.2⟩, rfl⟩
          case measure => simp [lenIs, LD.out]; omega


end Go.Proofs.YtlkbkgghfhoggaaGreatDoor
