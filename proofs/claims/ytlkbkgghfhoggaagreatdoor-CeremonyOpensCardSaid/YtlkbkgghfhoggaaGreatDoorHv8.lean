/- Walk: ghash's sum of bytes beside and of ciphered bytes: printed by wip/gen/gen10e.py. -/
import Derived.Test.YtlkbkgghfhoggaaGreatDoorHv7
import Derived.Deep.DeepCutAuto
set_option linter.unusedVariables false
set_option linter.unusedSimpArgs false
namespace Go.Proofs.YtlkbkgghfhoggaaGreatDoor
open Go.RowKit
attribute [local go_sem] hv_def
@[irreducible] def hashB (x l1 l2 : List Nat) : List Nat := Hm.toB 16 (Hm.gm (tk (Hm.be x) (tk (Hm.be x) 0 l1) l2 ^^^ (2 ^ 64 * (8 * l1.length) + 8 * l2.length)) (Hm.be x))
theorem hashB_eq (x l1 l2 : List Nat) : hashB x l1 l2 = Hm.toB 16 (Hm.gm (tk (Hm.be x) (tk (Hm.be x) 0 l1) l2 ^^^ (2 ^ 64 * (8 * l1.length) + 8 * l2.length)) (Hm.be x)) := by unfold hashB; rfl
theorem hashB_by (x l1 l2 : List Nat) : By 16 (hashB x l1 l2) := by rw [hashB_eq]; exact toB_by _ _


set_option maxRecDepth 100000 in
set_option maxHeartbeats 2000000 in
theorem gh_hash (x : List Nat) (bx : By 16 x) (a1 a2 : Option Addr) (l1 l2 : List Nat) (c1 c2 : Nat) (w : World) (B1 : Bs w a1 l1) (h1 : l1.length ≤ c1) (B2 : Bs w a2 l2) (h2 : l2.length ≤ c2)
    (s1 : l1.length < 2 ^ 60) (s2 : l2.length < 2 ^ 60) :
    Calls Tryz.prog 74 #[.agg (u8s x).toArray, .slice a1 l1.length c1, .slice a2 l2.length c2] w fun e w' => e = .returned (.agg (u8s (hashB x l1 l2)).toArray) ∧ Kp No w w' := by
  have HI := Lib.hid info_block
  have HF0 : (Tryz.prog.info? 190).map (·.size) = some 2 := by kernel_rfl
  have HF := Lib.hid HF0
  have HU := Lib.hid Tryz.underlying134
  have HB1 := Lib.hid B1
  have HB2 := Lib.hid B2
  have HX := Lib.hid bx
  have hVe := hashB_eq x l1 l2
  obtain ⟨VL, hV⟩ : ∃ VL, VL = hashB x l1 l2 := ⟨_, rfl⟩
  rw [← hV] at hVe ⊢
  obtain ⟨KX, hK⟩ : ∃ KX, KX = Hm.be x := ⟨_, rfl⟩
  rw [← hK] at hVe
  obtain ⟨LN, hLN⟩ : ∃ LN, LN = 2 ^ 64 * (8 * l1.length) + 8 * l2.length := ⟨_, rfl⟩
  rw [← hLN] at hVe
  have HK := Lib.hid (show KX < 2 ^ 128 by rw [hK]; exact by_lt bx)
  have HT1 := Lib.hid (tk_lt HK.out (show 0 < 2 ^ 128 by decide) l1.length l1 (Nat.le_refl _))
  have HT2 := Lib.hid (tk_lt HK.out HT1.out l2.length l2 (Nat.le_refl _))
  have HLN := Lib.hid (show LN < 2 ^ 128 by omega)
  have HXX := Lib.hid (Nat.xor_lt_two_pow HT2.out HLN.out)
  have HV := Lib.hid (show ∀ w, Calls Tryz.prog 92 #[hv (Hm.gm (tk KX (tk KX 0 l1) l2 ^^^ LN) KX)] w fun e w' => e = .returned (.agg (u8s VL).toArray) ∧ Kp No w w' from fun w => by rw [hVe]; exact gh_block _ w)
  have LV := Lib.hid (show By 16 VL by rw [hV]; exact hashB_by _ _ _)
  have HOF := Lib.hid (show ∀ w, Calls Tryz.prog 90 #[.agg (u8s x).toArray] w fun e w' => e = .returned (hv KX) ∧ Kp No w w' from fun w => by rw [hK]; exact gh_of x bx.1 bx.2 w)
  have HLX := Lib.hid hLN
  clear hVe hV hK hLN B1 B2 HF0
  obtain ⟨C, hC⟩ : ∃ C, C = (u8s x).toArray := ⟨_, rfl⟩
  have HC := Lib.hid hC
  rw [← hC]
  have SC : C.size = 16 := by rw [hC, u8s_row, bx.1]
  clear hC bx
  go_enter Tryz.func74, Tryz.ntmps74
  go_upto_region 2 with (refine wpList_load_row rfl 134 _ rfl w.heap.size rfl 134 _ (0, 0) _ (old_at _ (new_at w _)) HU.out rfl (HI.out.trans (congrArg some SC.symm)) ?_)
  rw [HC.out]
  refine (HOF.out _).mono ?_
  rintro e w1 ⟨rfl, k1⟩
  have A6 := Lib.hid (k1.blk (show ((w.alloc (.cells (u8s x).toArray 134)).alloc (.cells #[.int .u8 0, .int .u8 0, .int .u8 0, .int .u8 0, .int .u8 0, .int .u8 0, .int .u8 0, .int .u8 0, .int .u8 0, .int .u8 0, .int .u8 0, .int .u8 0, .int .u8 0, .int .u8 0, .int .u8 0, .int .u8 0] 134)).heap[w.heap.size + 1]? = some (.cells #[.int .u8 0, .int .u8 0, .int .u8 0, .int .u8 0, .int .u8 0, .int .u8 0, .int .u8 0, .int .u8 0, .int .u8 0, .int .u8 0, .int .u8 0, .int .u8 0, .int .u8 0, .int .u8 0, .int .u8 0, .int .u8 0] 134 (0, 0)) from new_is _ (by simp)) (fun h => h))
  have KK := Lib.hid ((((Kp.refl No w).alloc (.cells (u8s x).toArray 134)).alloc (.cells #[.int .u8 0, .int .u8 0, .int .u8 0, .int .u8 0, .int .u8 0, .int .u8 0, .int .u8 0, .int .u8 0, .int .u8 0, .int .u8 0, .int .u8 0, .int .u8 0, .int .u8 0, .int .u8 0, .int .u8 0, .int .u8 0] 134)).then_ k1)
  clear k1
  go_upto_region 2 with (fail)
  go_cut [8] (fun s8 wx => ∃ p : Nat, s8 = .pointer (some ⟨p, 0, none⟩) ∧ w.heap.size + 1 < p ∧ wx.heap[w1.heap.size]? = some (.cells (hvC KX) 190 (0, 0)) ∧ wx.heap[p]? = some (.cells (hvC (tk KX (tk KX 0 l1) l2)) 190 (0, 0)) ∧ wx.heap[w.heap.size + 1]? = some (.cells #[.int .u8 0, .int .u8 0, .int .u8 0, .int .u8 0, .int .u8 0, .int .u8 0, .int .u8 0, .int .u8 0, .int .u8 0, .int .u8 0, .int .u8 0, .int .u8 0, .int .u8 0, .int .u8 0, .int .u8 0, .int .u8 0] 134 (0, 0)) ∧ Kp No w wx)
  case first =>
    refine wp_region_held_drew (S := (fun W => W.heap[w1.heap.size]? = some (.cells (hvC KX) 190 (0, 0)) ∧ Kp No w W)) (by kernel_rfl) ⟨new_at _ _, (KK.out.alloc _).drew⟩ (fun hHeld => ?_)
    have a6 : (w1.alloc (.cells #[.int .u64 ((hi KX : Nat) : Int), .int .u64 ((lo KX : Nat) : Int)] 190)).drew.heap[w.heap.size + 1]? = some (.cells #[.int .u8 0, .int .u8 0, .int .u8 0, .int .u8 0, .int .u8 0, .int .u8 0, .int .u8 0, .int .u8 0, .int .u8 0, .int .u8 0, .int .u8 0, .int .u8 0, .int .u8 0, .int .u8 0, .int .u8 0, .int .u8 0] 134 (0, 0)) := old_at _ A6.out
    have y1 := lt_of_block A6.out
    have y2 : w1.heap.size < (w1.alloc (.cells #[.int .u64 ((hi KX : Nat) : Int), .int .u64 ((lo KX : Nat) : Int)] 190)).drew.heap.size := by rw [show (w1.alloc (.cells #[.int .u64 ((hi KX : Nat) : Int), .int .u64 ((lo KX : Nat) : Int)] 190)).drew.heap.size = w1.heap.size + 1 from alloc_size _ _]; omega
    have yk := KK.out.size
    generalize (w1.alloc (.cells #[.int .u64 ((hi KX : Nat) : Int), .int .u64 ((lo KX : Nat) : Int)] 190)).drew = v0 at hHeld a6 y2 ⊢
    refine wpAnyH_take (i := 0) (oi := _) (v := .agg (hvC 0)) rfl (by kernel_rfl) (by kernel_rfl) (by kernel_rfl) (fun _ _ _ h => h) ?hy0_4 (by assumption) ?hz0_4
    case hy0_4 => exact (by refine .inl ⟨by rfl, ?_⟩; intro W _; go_simp; rfl)
    try simp only [List.getElem_toArray, List.getElem_cons_zero, List.getElem_cons_succ, Act.put, List.setIfInBounds_toArray, List.set_cons_zero, List.set_cons_succ]
    refine wpAnyH_take (i := 1) (oi := _) (v := .agg (hvC KX)) rfl (by kernel_rfl) (by kernel_rfl) (by kernel_rfl) (fun _ _ _ h => h) ?hy1_5 (by assumption) ?hz1_5
    case hy1_5 => exact yields_row 190 _ (by rfl) (by rfl) (w1.heap.size) (by rfl) (hvC KX) _ _ Tryz.underlying190 (by rfl) HF.out (by intro W h; exact h.1)
    try simp only [List.getElem_toArray, List.getElem_cons_zero, List.getElem_cons_succ, Act.put, List.setIfInBounds_toArray, List.set_cons_zero, List.set_cons_succ]
    refine wpAnyH_take (i := 2) (oi := _) (v := ?v2_6) rfl (by kernel_rfl) (by kernel_rfl) (by kernel_rfl) (fun _ _ _ h => h) (Or.inl ⟨by rfl, ?hy2_6⟩) (by assumption) ?hz2_6
    case hy2_6 => (intro w hSw; (try dsimp only at hSw); go_simp; try with_reducible rfl)
    try simp only [List.getElem_toArray, List.getElem_cons_zero, List.getElem_cons_succ, Act.put, List.setIfInBounds_toArray, List.set_cons_zero, List.set_cons_succ]
    refine wpAnyH_take (i := 4) (oi := _) (v := .agg (hvC KX)) rfl (by kernel_rfl) (by kernel_rfl) (by kernel_rfl) (fun _ _ _ h => h) ?hy4_7 (by assumption) ?hz4_7
    case hy4_7 => exact yields_row 190 _ (by rfl) (by rfl) (w1.heap.size) (by rfl) (hvC KX) _ _ Tryz.underlying190 (by rfl) HF.out (by intro W h; exact h.1)
    try simp only [List.getElem_toArray, List.getElem_cons_zero, List.getElem_cons_succ, Act.put, List.setIfInBounds_toArray, List.set_cons_zero, List.set_cons_succ]
    refine wpAnyH_take (i := 5) (oi := _) (v := ?v5_8) rfl (by kernel_rfl) (by kernel_rfl) (by kernel_rfl) (fun _ _ _ h => h) (Or.inl ⟨by rfl, ?hy5_8⟩) (by assumption) ?hz5_8
    case hy5_8 => (intro w hSw; (try dsimp only at hSw); go_simp; try with_reducible rfl)
    try simp only [List.getElem_toArray, List.getElem_cons_zero, List.getElem_cons_succ, Act.put, List.setIfInBounds_toArray, List.set_cons_zero, List.set_cons_succ]
    refine wpAnyH_ready (rs := [3, 7]) (by kernel_rfl) (by simp) ?_
    refine AllReadyH.cons (i := 3) (o := _) rfl (fun K hK => ?_) (AllReadyH.cons (i := 7) (o := _) rfl (fun K hK => ?_) AllReadyH.nil)
    · skip
      go_simp; refine (gh_take 0 KX (by decide) HK.out a1 l1 c1 _ (HB1.out.keptNo hHeld.2) h1).mono ?_; rintro e v1 ⟨rfl, k1⟩; go_simp
      refine hK.out _ _ ⟨k1.blk hHeld.1 (fun h => h), hHeld.2.then_ k1⟩ (fun hHeld => ?_)
      clear hK K
      try simp only [List.getElem_toArray, List.getElem_cons_zero, List.getElem_cons_succ, Act.put, List.setIfInBounds_toArray, List.set_cons_zero, List.set_cons_succ]
      replace a6 := k1.blk a6 (fun h => h)
      have z1 := k1.size
      refine wpAnyH_ready (rs := [6, 7]) (by kernel_rfl) (by simp) ?_
      refine AllReadyH.cons (i := 6) (o := _) rfl (fun K hK => ?_) (AllReadyH.cons (i := 7) (o := _) rfl (fun K hK => ?_) AllReadyH.nil)
      · skip
        go_simp; refine (gh_take (tk KX 0 l1) KX HT1.out HK.out a2 l2 c2 _ (HB2.out.keptNo hHeld.2) h2).mono ?_; rintro e v2 ⟨rfl, k2⟩; go_simp
        refine hK.out _ _ ⟨k2.blk hHeld.1 (fun h => h), hHeld.2.then_ k2⟩ (fun hHeld => ?_)
        clear hK K
        try simp only [List.getElem_toArray, List.getElem_cons_zero, List.getElem_cons_succ, Act.put, List.setIfInBounds_toArray, List.set_cons_zero, List.set_cons_succ]
        replace a6 := k2.blk a6 (fun h => h)
        have z2 := k2.size
        refine wpAnyH_ready (rs := [7]) (by kernel_rfl) (by simp) ?_
        refine AllReadyH.cons (i := 7) (o := _) rfl (fun K hK => ?_) AllReadyH.nil
        go_simp
        refine hK.out _ _ ⟨old_at _ hHeld.1, hHeld.2.alloc _⟩ (fun hHeld => ?_)
        clear hK K
        try simp only [List.getElem_toArray, List.getElem_cons_zero, List.getElem_cons_succ, Act.put, List.setIfInBounds_toArray, List.set_cons_zero, List.set_cons_succ]
        obtain ⟨v3, e3⟩ : ∃ V, V = v2.alloc (Obj.cells #[.int .u64 0, .int .u64 0] 190) := ⟨_, rfl⟩
        rw [← e3] at hHeld ⊢
        have z3 : v3.heap.size = v2.heap.size + 1 := by rw [e3, alloc_size]
        replace a6 : v3.heap[w.heap.size + 1]? = some (.cells #[.int .u8 0, .int .u8 0, .int .u8 0, .int .u8 0, .int .u8 0, .int .u8 0, .int .u8 0, .int .u8 0, .int .u8 0, .int .u8 0, .int .u8 0, .int .u8 0, .int .u8 0, .int .u8 0, .int .u8 0, .int .u8 0] 134 (0, 0)) := by rw [e3]; exact old_at _ a6
        have n3 : v3.heap[v2.heap.size]? = some (.cells #[.int .u64 0, .int .u64 0] 190 (0, 0)) := by rw [e3]; exact new_is _ (by first | rfl | omega)
        clear e3
        refine wpAnyH_ready (rs := [8]) (by kernel_rfl) (by simp) ?_
        refine AllReadyH.cons (i := 8) (o := _) rfl (fun K hK => ?_) AllReadyH.nil
        rw [if_pos (by rfl)]; refine wp_store_row 190 _ _ rfl (v2.heap.size) (hvC (tk KX (tk KX 0 l1) l2)) rfl rfl 190 _ n3 HF.out rfl (hvC_one _) ?_
        refine hK.out _ _ ⟨row_far (hHeld.1) (by omega) _, (hHeld.2).setRow (.inr (by omega)) _⟩ (fun hHeld => ?_)
        clear hK K
        try simp only [List.getElem_toArray, List.getElem_cons_zero, List.getElem_cons_succ, Act.put, List.setIfInBounds_toArray, List.set_cons_zero, List.set_cons_succ]
        obtain ⟨v4, e4⟩ : ∃ V, V = v3.setRow (v2.heap.size) (hvC (tk KX (tk KX 0 l1) l2)) := ⟨_, rfl⟩
        rw [← e4] at hHeld ⊢
        replace a6 : v4.heap[w.heap.size + 1]? = some (.cells #[.int .u8 0, .int .u8 0, .int .u8 0, .int .u8 0, .int .u8 0, .int .u8 0, .int .u8 0, .int .u8 0, .int .u8 0, .int .u8 0, .int .u8 0, .int .u8 0, .int .u8 0, .int .u8 0, .int .u8 0, .int .u8 0] 134 (0, 0)) := by rw [e4]; exact row_far a6 (by omega) _
        replace n3 : v4.heap[v2.heap.size]? = some (.cells (hvC (tk KX (tk KX 0 l1) l2)) 190 (0, 0)) := by rw [e4]; exact row_at n3 _
        clear e4
        refine wpAnyH_done (by kernel_rfl) ?_ _
        go_wp2_with fail
        go_meet
        case rel => exact ⟨_, rfl, by omega, hHeld.1, n3, a6, hHeld.2⟩
      · skip
        go_simp
        refine hK.out _ _ ⟨old_at _ hHeld.1, hHeld.2.alloc _⟩ (fun hHeld => ?_)
        clear hK K
        try simp only [List.getElem_toArray, List.getElem_cons_zero, List.getElem_cons_succ, Act.put, List.setIfInBounds_toArray, List.set_cons_zero, List.set_cons_succ]
        obtain ⟨v5, e5⟩ : ∃ V, V = v1.alloc (Obj.cells #[.int .u64 0, .int .u64 0] 190) := ⟨_, rfl⟩
        rw [← e5] at hHeld ⊢
        have z5 : v5.heap.size = v1.heap.size + 1 := by rw [e5, alloc_size]
        replace a6 : v5.heap[w.heap.size + 1]? = some (.cells #[.int .u8 0, .int .u8 0, .int .u8 0, .int .u8 0, .int .u8 0, .int .u8 0, .int .u8 0, .int .u8 0, .int .u8 0, .int .u8 0, .int .u8 0, .int .u8 0, .int .u8 0, .int .u8 0, .int .u8 0, .int .u8 0] 134 (0, 0)) := by rw [e5]; exact old_at _ a6
        have n5 : v5.heap[v1.heap.size]? = some (.cells #[.int .u64 0, .int .u64 0] 190 (0, 0)) := by rw [e5]; exact new_is _ (by first | rfl | omega)
        clear e5
        refine wpAnyH_ready (rs := [6]) (by kernel_rfl) (by simp) ?_
        refine AllReadyH.cons (i := 6) (o := _) rfl (fun K hK => ?_) AllReadyH.nil
        go_simp; refine (gh_take (tk KX 0 l1) KX HT1.out HK.out a2 l2 c2 _ (HB2.out.keptNo hHeld.2) h2).mono ?_; rintro e v6 ⟨rfl, k6⟩; go_simp
        refine hK.out _ _ ⟨k6.blk hHeld.1 (fun h => h), hHeld.2.then_ k6⟩ (fun hHeld => ?_)
        clear hK K
        try simp only [List.getElem_toArray, List.getElem_cons_zero, List.getElem_cons_succ, Act.put, List.setIfInBounds_toArray, List.set_cons_zero, List.set_cons_succ]
        replace a6 := k6.blk a6 (fun h => h)
        replace n5 := k6.blk n5 (fun h => h)
        have z6 := k6.size
        refine wpAnyH_ready (rs := [8]) (by kernel_rfl) (by simp) ?_
        refine AllReadyH.cons (i := 8) (o := _) rfl (fun K hK => ?_) AllReadyH.nil
        rw [if_pos (by rfl)]; refine wp_store_row 190 _ _ rfl (v1.heap.size) (hvC (tk KX (tk KX 0 l1) l2)) rfl rfl 190 _ n5 HF.out rfl (hvC_one _) ?_
        refine hK.out _ _ ⟨row_far (hHeld.1) (by omega) _, (hHeld.2).setRow (.inr (by omega)) _⟩ (fun hHeld => ?_)
        clear hK K
        try simp only [List.getElem_toArray, List.getElem_cons_zero, List.getElem_cons_succ, Act.put, List.setIfInBounds_toArray, List.set_cons_zero, List.set_cons_succ]
        obtain ⟨v7, e7⟩ : ∃ V, V = v6.setRow (v1.heap.size) (hvC (tk KX (tk KX 0 l1) l2)) := ⟨_, rfl⟩
        rw [← e7] at hHeld ⊢
        replace a6 : v7.heap[w.heap.size + 1]? = some (.cells #[.int .u8 0, .int .u8 0, .int .u8 0, .int .u8 0, .int .u8 0, .int .u8 0, .int .u8 0, .int .u8 0, .int .u8 0, .int .u8 0, .int .u8 0, .int .u8 0, .int .u8 0, .int .u8 0, .int .u8 0, .int .u8 0] 134 (0, 0)) := by rw [e7]; exact row_far a6 (by omega) _
        replace n5 : v7.heap[v1.heap.size]? = some (.cells (hvC (tk KX (tk KX 0 l1) l2)) 190 (0, 0)) := by rw [e7]; exact row_at n5 _
        clear e7
        refine wpAnyH_done (by kernel_rfl) ?_ _
        go_wp2_with fail
        go_meet
        case rel => exact ⟨_, rfl, by omega, hHeld.1, n5, a6, hHeld.2⟩
    · skip
      go_simp
      refine hK.out _ _ ⟨old_at _ hHeld.1, hHeld.2.alloc _⟩ (fun hHeld => ?_)
      clear hK K
      try simp only [List.getElem_toArray, List.getElem_cons_zero, List.getElem_cons_succ, Act.put, List.setIfInBounds_toArray, List.set_cons_zero, List.set_cons_succ]
      obtain ⟨v8, e8⟩ : ∃ V, V = v0.alloc (Obj.cells #[.int .u64 0, .int .u64 0] 190) := ⟨_, rfl⟩
      rw [← e8] at hHeld ⊢
      have z8 : v8.heap.size = v0.heap.size + 1 := by rw [e8, alloc_size]
      replace a6 : v8.heap[w.heap.size + 1]? = some (.cells #[.int .u8 0, .int .u8 0, .int .u8 0, .int .u8 0, .int .u8 0, .int .u8 0, .int .u8 0, .int .u8 0, .int .u8 0, .int .u8 0, .int .u8 0, .int .u8 0, .int .u8 0, .int .u8 0, .int .u8 0, .int .u8 0] 134 (0, 0)) := by rw [e8]; exact old_at _ a6
      have n8 : v8.heap[v0.heap.size]? = some (.cells #[.int .u64 0, .int .u64 0] 190 (0, 0)) := by rw [e8]; exact new_is _ (by first | rfl | omega)
      clear e8
      refine wpAnyH_ready (rs := [3]) (by kernel_rfl) (by simp) ?_
      refine AllReadyH.cons (i := 3) (o := _) rfl (fun K hK => ?_) AllReadyH.nil
      go_simp; refine (gh_take 0 KX (by decide) HK.out a1 l1 c1 _ (HB1.out.keptNo hHeld.2) h1).mono ?_; rintro e v9 ⟨rfl, k9⟩; go_simp
      refine hK.out _ _ ⟨k9.blk hHeld.1 (fun h => h), hHeld.2.then_ k9⟩ (fun hHeld => ?_)
      clear hK K
      try simp only [List.getElem_toArray, List.getElem_cons_zero, List.getElem_cons_succ, Act.put, List.setIfInBounds_toArray, List.set_cons_zero, List.set_cons_succ]
      replace a6 := k9.blk a6 (fun h => h)
      replace n8 := k9.blk n8 (fun h => h)
      have z9 := k9.size
      refine wpAnyH_ready (rs := [6]) (by kernel_rfl) (by simp) ?_
      refine AllReadyH.cons (i := 6) (o := _) rfl (fun K hK => ?_) AllReadyH.nil
      go_simp; refine (gh_take (tk KX 0 l1) KX HT1.out HK.out a2 l2 c2 _ (HB2.out.keptNo hHeld.2) h2).mono ?_; rintro e v10 ⟨rfl, k10⟩; go_simp
      refine hK.out _ _ ⟨k10.blk hHeld.1 (fun h => h), hHeld.2.then_ k10⟩ (fun hHeld => ?_)
      clear hK K
      try simp only [List.getElem_toArray, List.getElem_cons_zero, List.getElem_cons_succ, Act.put, List.setIfInBounds_toArray, List.set_cons_zero, List.set_cons_succ]
      replace a6 := k10.blk a6 (fun h => h)
      replace n8 := k10.blk n8 (fun h => h)
      have z10 := k10.size
      refine wpAnyH_ready (rs := [8]) (by kernel_rfl) (by simp) ?_
      refine AllReadyH.cons (i := 8) (o := _) rfl (fun K hK => ?_) AllReadyH.nil
      rw [if_pos (by rfl)]; refine wp_store_row 190 _ _ rfl (v0.heap.size) (hvC (tk KX (tk KX 0 l1) l2)) rfl rfl 190 _ n8 HF.out rfl (hvC_one _) ?_
      refine hK.out _ _ ⟨row_far (hHeld.1) (by omega) _, (hHeld.2).setRow (.inr (by omega)) _⟩ (fun hHeld => ?_)
      clear hK K
      try simp only [List.getElem_toArray, List.getElem_cons_zero, List.getElem_cons_succ, Act.put, List.setIfInBounds_toArray, List.set_cons_zero, List.set_cons_succ]
      obtain ⟨v11, e11⟩ : ∃ V, V = v10.setRow (v0.heap.size) (hvC (tk KX (tk KX 0 l1) l2)) := ⟨_, rfl⟩
      rw [← e11] at hHeld ⊢
      replace a6 : v11.heap[w.heap.size + 1]? = some (.cells #[.int .u8 0, .int .u8 0, .int .u8 0, .int .u8 0, .int .u8 0, .int .u8 0, .int .u8 0, .int .u8 0, .int .u8 0, .int .u8 0, .int .u8 0, .int .u8 0, .int .u8 0, .int .u8 0, .int .u8 0, .int .u8 0] 134 (0, 0)) := by rw [e11]; exact row_far a6 (by omega) _
      replace n8 : v11.heap[v0.heap.size]? = some (.cells (hvC (tk KX (tk KX 0 l1) l2)) 190 (0, 0)) := by rw [e11]; exact row_at n8 _
      clear e11
      refine wpAnyH_done (by kernel_rfl) ?_ _
      go_wp2_with fail
      go_meet
      case rel => exact ⟨_, rfl, by omega, hHeld.1, n8, a6, hHeld.2⟩
  case rest =>
    obtain ⟨p, rfl, np, hp, hq, hr, kp⟩ := hcut
    have HP := Lib.hid hp
    have HQ := Lib.hid hq
    have HR := Lib.hid hr
    have HKP := Lib.hid kp
    clear hp hq hr kp
    have p1 : IntKind.u64.wrap (l1.length : Int) = (l1.length : Int) := IntWalk.u64_in _ (by omega)
    have p2 : IntKind.u64.wrap (8 * (l1.length : Int)) = 8 * (l1.length : Int) := IntWalk.u64_in _ (by omega)
    have p3 : IntKind.u64.wrap (l2.length : Int) = (l2.length : Int) := IntWalk.u64_in _ (by omega)
    have p4 : IntKind.u64.wrap (8 * (l2.length : Int)) = 8 * (l2.length : Int) := IntWalk.u64_in _ (by omega)
    have e0 : (#[.int .u64 (8 * (l1.length : Int)), .int .u64 (8 * (l2.length : Int))] : Array Value) = hvC LN := by
      have e1 : hi LN = 8 * l1.length := by rw [HLX.out]; unfold hi; omega
      have e2 : lo LN = 8 * l2.length := by rw [HLX.out]; unfold lo; omega
      rw [hvC, e1, e2]
      simp
    have E0 := Lib.hid e0
    clear e0
    go_wp2_with fail
    rw [E0.out]
    refine wp_region_held_drew (S := (fun W => W.heap[w1.heap.size]? = some (.cells (hvC KX) 190 (0, 0)) ∧ W.heap[p]? = some (.cells (hvC (tk KX (tk KX 0 l1) l2)) 190 (0, 0)) ∧ W.heap[wc.heap.size]? = some (.cells (hvC LN) 190 (0, 0)) ∧ Kp No w W)) (by kernel_rfl) ⟨old_at _ HP.out, old_at _ HQ.out, new_at _ _, (HKP.out.alloc _).drew⟩ (fun hHeld => ?_)
    have a6 : (wc.alloc (.cells (hvC LN) 190)).drew.heap[w.heap.size + 1]? = some (.cells #[.int .u8 0, .int .u8 0, .int .u8 0, .int .u8 0, .int .u8 0, .int .u8 0, .int .u8 0, .int .u8 0, .int .u8 0, .int .u8 0, .int .u8 0, .int .u8 0, .int .u8 0, .int .u8 0, .int .u8 0, .int .u8 0] 134 (0, 0)) := old_at _ HR.out
    have z1 := KK.out.size
    have z2 := lt_of_block HP.out
    have z3 := lt_of_block HR.out
    have z4 : w.heap.size + 1 < w1.heap.size := lt_of_block A6.out
    generalize (wc.alloc (.cells (hvC LN) 190)).drew = v0 at hHeld a6 ⊢
    refine wpAnyH_take (i := 0) (oi := _) (v := .agg (hvC (tk KX (tk KX 0 l1) l2))) rfl (by kernel_rfl) (by kernel_rfl) (by kernel_rfl) (fun _ _ _ h => h) ?hy0_1 (by assumption) ?hz0_1
    case hy0_1 => exact yields_row 190 _ (by rfl) (by rfl) (p) (by rfl) (hvC (tk KX (tk KX 0 l1) l2)) _ _ Tryz.underlying190 (by rfl) HF.out (by intro W h; exact h.2.1)
    try simp only [List.getElem_toArray, List.getElem_cons_zero, List.getElem_cons_succ, Act.put, List.setIfInBounds_toArray, List.set_cons_zero, List.set_cons_succ]
    refine wpAnyH_take (i := 1) (oi := _) (v := .agg (hvC LN)) rfl (by kernel_rfl) (by kernel_rfl) (by kernel_rfl) (fun _ _ _ h => h) ?hy1_2 (by assumption) ?hz1_2
    case hy1_2 => exact yields_row 190 _ (by rfl) (by rfl) (wc.heap.size) (by rfl) (hvC LN) _ _ Tryz.underlying190 (by rfl) HF.out (by intro W h; exact h.2.2.1)
    try simp only [List.getElem_toArray, List.getElem_cons_zero, List.getElem_cons_succ, Act.put, List.setIfInBounds_toArray, List.set_cons_zero, List.set_cons_succ]
    refine wpAnyH_take (i := 3) (oi := _) (v := .agg (hvC KX)) rfl (by kernel_rfl) (by kernel_rfl) (by kernel_rfl) (fun _ _ _ h => h) ?hy3_3 (by assumption) ?hz3_3
    case hy3_3 => exact yields_row 190 _ (by rfl) (by rfl) (w1.heap.size) (by rfl) (hvC KX) _ _ Tryz.underlying190 (by rfl) HF.out (by intro W h; exact h.1)
    try simp only [List.getElem_toArray, List.getElem_cons_zero, List.getElem_cons_succ, Act.put, List.setIfInBounds_toArray, List.set_cons_zero, List.set_cons_succ]
    refine wpAnyH_ready (rs := [2]) (by kernel_rfl) (by simp) ?_
    refine AllReadyH.cons (i := 2) (o := _) rfl (fun K hK => ?_) AllReadyH.nil
    go_simp; refine (half_plus _ _ HT2.out HLN.out _).mono ?_; rintro e v1 ⟨rfl, k1⟩; go_simp
    refine hK.out _ _ ⟨k1.blk hHeld.1 (fun h => h), k1.blk hHeld.2.1 (fun h => h), k1.blk hHeld.2.2.1 (fun h => h), hHeld.2.2.2.then_ k1⟩ (fun hHeld => ?_)
    clear hK K
    try simp only [List.getElem_toArray, List.getElem_cons_zero, List.getElem_cons_succ, Act.put, List.setIfInBounds_toArray, List.set_cons_zero, List.set_cons_succ]
    replace a6 := k1.blk a6 (fun h => h)
    have z1 := k1.size
    refine wpAnyH_ready (rs := [4]) (by kernel_rfl) (by simp) ?_
    refine AllReadyH.cons (i := 4) (o := _) rfl (fun K hK => ?_) AllReadyH.nil
    go_simp; refine (half_times _ _ HXX.out HK.out _).mono ?_; rintro e v2 ⟨rfl, k2⟩; go_simp
    refine hK.out _ _ ⟨k2.blk hHeld.1 (fun h => h), k2.blk hHeld.2.1 (fun h => h), k2.blk hHeld.2.2.1 (fun h => h), hHeld.2.2.2.then_ k2⟩ (fun hHeld => ?_)
    clear hK K
    try simp only [List.getElem_toArray, List.getElem_cons_zero, List.getElem_cons_succ, Act.put, List.setIfInBounds_toArray, List.set_cons_zero, List.set_cons_succ]
    replace a6 := k2.blk a6 (fun h => h)
    have z2 := k2.size
    refine wpAnyH_ready (rs := [5]) (by kernel_rfl) (by simp) ?_
    refine AllReadyH.cons (i := 5) (o := _) rfl (fun K hK => ?_) AllReadyH.nil
    go_simp; refine (HV.out _).mono ?_; rintro e v3 ⟨rfl, k3⟩; go_simp
    refine hK.out _ _ ⟨k3.blk hHeld.1 (fun h => h), k3.blk hHeld.2.1 (fun h => h), k3.blk hHeld.2.2.1 (fun h => h), hHeld.2.2.2.then_ k3⟩ (fun hHeld => ?_)
    clear hK K
    try simp only [List.getElem_toArray, List.getElem_cons_zero, List.getElem_cons_succ, Act.put, List.setIfInBounds_toArray, List.set_cons_zero, List.set_cons_succ]
    replace a6 := k3.blk a6 (fun h => h)
    have z3 := k3.size
    refine wpAnyH_ready (rs := [6]) (by kernel_rfl) (by simp) ?_
    refine AllReadyH.cons (i := 6) (o := _) rfl (fun K hK => ?_) AllReadyH.nil
    rw [if_pos (by rfl)]; refine wp_store_row 134 _ _ rfl (w.heap.size + 1) (u8s VL).toArray rfl rfl 134 _ a6 (row_info HI.out (LV.out).1) (by simp only [u8s_row, (LV.out).1]; rfl) (u8s_one _) ?_
    refine hK.out _ _ ⟨row_far (hHeld.1) (by omega) _, row_far (hHeld.2.1) (by omega) _, row_far (hHeld.2.2.1) (by omega) _, (hHeld.2.2.2).setRow (.inr (by omega)) _⟩ (fun hHeld => ?_)
    clear hK K
    try simp only [List.getElem_toArray, List.getElem_cons_zero, List.getElem_cons_succ, Act.put, List.setIfInBounds_toArray, List.set_cons_zero, List.set_cons_succ]
    obtain ⟨v4, e4⟩ : ∃ V, V = v3.setRow (w.heap.size + 1) (u8s VL).toArray := ⟨_, rfl⟩
    rw [← e4] at hHeld ⊢
    have z4 : v4.heap.size = v3.heap.size := by rw [e4, setRow_size]
    replace a6 : v4.heap[w.heap.size + 1]? = some (.cells (u8s VL).toArray 134 (0, 0)) := by rw [e4]; exact row_at a6 _
    clear e4
    refine wpAnyH_done (by kernel_rfl) ?_ _
    go_wp2_with fail
    exact bodyPost_ret (v := .agg (u8s VL).toArray) (results_cell_row rfl _ _ (w.heap.size + 1) 134 _ (0, 0) _ rfl a6 HU.out rfl (row_info HI.out LV.out.1)) rfl ⟨rfl, hHeld.2.2.2⟩

end Go.Proofs.YtlkbkgghfhoggaaGreatDoor
