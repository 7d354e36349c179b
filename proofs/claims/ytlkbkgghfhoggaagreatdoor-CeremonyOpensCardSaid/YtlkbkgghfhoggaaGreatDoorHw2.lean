/- Walks: ghash's product of halves. -/
import Derived.Test.YtlkbkgghfhoggaaGreatDoorHw1
set_option linter.unusedVariables false
set_option linter.unusedSimpArgs false
namespace Go.Proofs.YtlkbkgghfhoggaaGreatDoor
open Go.RowKit
attribute [local go_sem] hv_def

def hvC (v : Nat) : Array Value := #[.int .u64 ((hi v : Nat) : Int), .int .u64 ((lo v : Nat) : Int)]

theorem bit_test (v j : Nat) (hv : v < 2 ^ 64) : (bits .and .u64 ((v : Int) / 2 ^ j) 1 == 1) = v.testBit j := by
  have h1 : ((v : Int) / 2 ^ j) = ((v / 2 ^ j : Nat) : Int) := by simp
  have h2 : v / 2 ^ j < 2 ^ 64 := Nat.lt_of_le_of_lt (Nat.div_le_self _ _) hv
  have h3 := u64_and_nat (v / 2 ^ j) 1 h2 (by decide)
  rw [nat_mask1] at h3
  rw [h1, show (1 : Int) = ((1 : Nat) : Int) from rfl, h3, Nat.testBit_eq_decide_div_mod_eq, Bool.eq_iff_iff, beq_iff_eq, decide_eq_true_iff]
  omega
theorem bit_hi (x k : Nat) (hx : x < 2 ^ 128) (hk : k < 64) : (bits .and .u64 (((hi x : Nat) : Int) / 2 ^ (63 - k)) 1 == 1) = x.testBit (127 - k) := by
  rw [bit_test _ _ (hi_lt hx)]
  unfold hi
  rw [Nat.testBit_div_two_pow]
  congr 1
  omega
theorem bit_lo (x k : Nat) (hk : k < 64) : (bits .and .u64 (((lo x : Nat) : Int) / 2 ^ (63 - k)) 1 == 1) = x.testBit (63 - k) := by
  rw [bit_test _ _ (lo_lt x)]
  unfold lo
  rw [Nat.testBit_mod_two_pow, decide_eq_true (by omega : 63 - k < 64), Bool.true_and]
theorem set_two {w : World} {b a c : Nat} {t : TypeId} (h : w.heap[b]? = some (.cells (hvC a) t (0, 0))) : ((w.setCell ⟨b, 0, none⟩ (.int .u64 ((hi c : Nat) : Int))).setCell ⟨b, 1, none⟩ (.int .u64 ((lo c : Nat) : Int))).heap[b]? = some (.cells (hvC c) t (0, 0)) := by
  rw [set_at (set_at h 0 _) 1 _]
  rfl
theorem set_far {w : World} {b : Nat} {o : Option Obj} (h : w.heap[b]? = o) {p : Addr} (hp : b ≠ p.block) (v : Value) : (w.setCell p v).heap[b]? = o := (Below.heap_setCell w p v b hp).trans h

set_option maxRecDepth 100000 in
set_option maxHeartbeats 2000000 in
theorem half_times (x y : Nat) (hx : x < 2 ^ 128) (hy : y < 2 ^ 128) (w : World) :
    Calls Tryz.prog 94 #[hv x, hv y] w fun e w' => e = .returned (hv (Hm.gm x y)) ∧ Kp No w w' := by
  have HX := Lib.hid hx
  have HY := Lib.hid hy
  clear hx hy
  go_enter Tryz.func94, Tryz.ntmps94
  go_wp2
  go_loopw [10] (fun i wr => ∃ k : Nat, k ≤ 128 ∧ i = .int .i64 (k : Int) ∧ wr.heap[w.heap.size]? = some (.cells (hvC x) 190 (0, 0)) ∧ wr.heap[w.heap.size + 3]? = some (.cells (hvC (Hm.gz x y k)) 190 (0, 0)) ∧ wr.heap[w.heap.size + 4]? = some (.cells (hvC (Hm.gv y k)) 190 (0, 0)) ∧ Kp No w wr ∧ wr.heap[w.heap.size + 2]? = some (.cells (hvC 0) 190 (0, 0))) (fun i _ => 128 - (intOf i).toNat)
  case atStart =>
    refine ⟨0, by omega, rfl, ?_, ?_, ?_, ((((((Kp.refl No w).alloc _).alloc _).alloc _).alloc _).alloc _), ?_⟩
    · exact old_at _ (old_at _ (old_at _ (old_at _ (new_at w _))))
    · have e0 : hvC (Hm.gz x y 0) = #[.int .u64 0, .int .u64 0] := by simp [hvC, hi, lo, Hm.gz]
      rw [e0]
      exact old_at _ (new_is _ (by simp))
    · exact new_is _ (by simp)
    · exact old_at _ (old_at _ (new_is _ (by simp)))
  case round =>
    obtain ⟨k, hk, rfl, hX, hZ, hV, hg, hRR⟩ := hrel
    have x0 : wr.cell? ⟨w.heap.size, 0, none⟩ = some (.int .u64 ((hi x : Nat) : Int)) := cell_at hX rfl
    have x1 : wr.cell? ⟨w.heap.size, 1, none⟩ = some (.int .u64 ((lo x : Nat) : Int)) := cell_at hX rfl
    have z0 : wr.cell? ⟨w.heap.size + 3, 0, none⟩ = some (.int .u64 ((hi (Hm.gz x y k) : Nat) : Int)) := cell_at hZ rfl
    have z1 : wr.cell? ⟨w.heap.size + 3, 1, none⟩ = some (.int .u64 ((lo (Hm.gz x y k) : Nat) : Int)) := cell_at hZ rfl
    have v0 : wr.cell? ⟨w.heap.size + 4, 0, none⟩ = some (.int .u64 ((hi (Hm.gv y k) : Nat) : Int)) := cell_at hV rfl
    have v1 : wr.cell? ⟨w.heap.size + 4, 1, none⟩ = some (.int .u64 ((lo (Hm.gv y k) : Nat) : Int)) := cell_at hV rfl
    have r0 : wr.cell? ⟨w.heap.size + 2, 0, none⟩ = some (.int .u64 ((hi 0 : Nat) : Int)) := cell_at hRR rfl
    have r1 : wr.cell? ⟨w.heap.size + 2, 1, none⟩ = some (.int .u64 ((lo 0 : Nat) : Int)) := cell_at hRR rfl
    have fr0 := free_at hRR 0
    have fr1 := free_at hRR 1
    have H1 := Lib.hid hX
    have H2 := Lib.hid hZ
    have H3 := Lib.hid hV
    have H4 := Lib.hid hg
    have H5 := Lib.hid hRR
    have BZ := Hm.gz_lt (x := x) HY.out k
    have BV := Hm.gv_lt HY.out k
    have HBZ := Lib.hid BZ
    have HBV := Lib.hid BV
    clear hX hZ hV hg hRR BZ BV
    by_cases hk128 : k < 128
    · clear r0 r1 fr0 fr1
      obtain ⟨t, ht⟩ : ∃ t, t = x.testBit (127 - k) := ⟨_, rfl⟩
      have HT := Lib.hid ht.symm
      have ht1 : (k < 64 → (bits .and .u64 (((hi x : Nat) : Int) / 2 ^ (63 - k)) 1 == 1) = t) := fun h => by rw [ht]; exact bit_hi x k HX.out h
      have ht2 : (∀ j, k = 64 + j → (bits .and .u64 (((lo x : Nat) : Int) / 2 ^ (63 - j)) 1 == 1) = t) := fun j h => by
        rw [ht, bit_lo x j (by omega)]
        congr 1
        omega
      clear ht
      by_cases hlt : k < 64
      · have h63 : (k : Int) % 64 = (k : Int) := by omega
        have htt := ht1 hlt
        clear ht1 ht2
        cases t with
        | true =>
          go_wp2_with fail
          refine (half_plus (Hm.gz x y k) (Hm.gv y k) HBZ.out HBV.out _).mono ?_
          rintro e w1 ⟨rfl, g1⟩
          have fz0 := free_at (g1.blk H2.out (fun f => f)) 0
          have fz1 := free_at (g1.blk H2.out (fun f => f)) 1
          have d0 : w1.cell? ⟨w.heap.size + 3, 0, none⟩ = some (.int .u64 ((hi (Hm.gz x y k) : Nat) : Int)) := cell_at (g1.blk H2.out (fun f => f)) rfl
          have d1 : w1.cell? ⟨w.heap.size + 3, 1, none⟩ = some (.int .u64 ((lo (Hm.gz x y k) : Nat) : Int)) := cell_at (g1.blk H2.out (fun f => f)) rfl
          have c0 : w1.cell? ⟨w.heap.size + 4, 0, none⟩ = some (.int .u64 ((hi (Hm.gv y k) : Nat) : Int)) := cell_at (g1.blk H3.out (fun f => f)) rfl
          have c1 : w1.cell? ⟨w.heap.size + 4, 1, none⟩ = some (.int .u64 ((lo (Hm.gv y k) : Nat) : Int)) := cell_at (g1.blk H3.out (fun f => f)) rfl
          have q1 := set_far (set_far (g1.blk H1.out (fun f => f)) (p := ⟨w.heap.size + 3, 0, none⟩) (by simp) (.int .u64 ((hi (Hm.gz x y k ^^^ Hm.gv y k) : Nat) : Int))) (p := ⟨w.heap.size + 3, 1, none⟩) (by simp) (.int .u64 ((lo (Hm.gz x y k ^^^ Hm.gv y k) : Nat) : Int))
          have q3 := set_far (set_far (g1.blk H3.out (fun f => f)) (p := ⟨w.heap.size + 3, 0, none⟩) (by simp) (.int .u64 ((hi (Hm.gz x y k ^^^ Hm.gv y k) : Nat) : Int))) (p := ⟨w.heap.size + 3, 1, none⟩) (by simp) (.int .u64 ((lo (Hm.gz x y k ^^^ Hm.gv y k) : Nat) : Int))
          have q2 := set_two (c := Hm.gz x y k ^^^ Hm.gv y k) (g1.blk H2.out (fun f => f))
          have q4 := ((H4.out.then_ g1).setCell (p := ⟨w.heap.size + 3, 0, none⟩) (.inr (by simp)) (.int .u64 ((hi (Hm.gz x y k ^^^ Hm.gv y k) : Nat) : Int))).setCell (p := ⟨w.heap.size + 3, 1, none⟩) (.inr (by simp)) (.int .u64 ((lo (Hm.gz x y k ^^^ Hm.gv y k) : Nat) : Int))
          have q5 := set_far (set_far (g1.blk H5.out (fun f => f)) (p := ⟨w.heap.size + 3, 0, none⟩) (by simp) (.int .u64 ((hi (Hm.gz x y k ^^^ Hm.gv y k) : Nat) : Int))) (p := ⟨w.heap.size + 3, 1, none⟩) (by simp) (.int .u64 ((lo (Hm.gz x y k ^^^ Hm.gv y k) : Nat) : Int))
          have Q1 := Lib.hid q1
          have Q2 := Lib.hid q2
          have Q3 := Lib.hid q3
          have Q4 := Lib.hid q4
          have Q5 := Lib.hid q5
          clear q1 q2 q3 q4 q5 g1 x0 x1 z0 z1 v0 v1
          go_wp2_with fail
          refine (half_moved (Hm.gv y k) HBV.out _).mono ?_
          rintro e w2 ⟨rfl, g2⟩
          have fv0 := free_at (g2.blk Q3.out (fun f => f)) 0
          have fv1 := free_at (g2.blk Q3.out (fun f => f)) 1
          have c2 : w2.cell? ⟨w.heap.size + 4, 0, none⟩ = some (.int .u64 ((hi (Hm.gv y k) : Nat) : Int)) := cell_at (g2.blk Q3.out (fun f => f)) rfl
          have c3 : w2.cell? ⟨w.heap.size + 4, 1, none⟩ = some (.int .u64 ((lo (Hm.gv y k) : Nat) : Int)) := cell_at (g2.blk Q3.out (fun f => f)) rfl
          have G2 := Lib.hid g2
          clear g2 fz0 fz1 d0 d1 c0 c1
          go_wp2_with fail
          go_roundw
          case rel =>
            have q1 := set_far (set_far (G2.out.blk Q1.out (fun f => f)) (p := ⟨w.heap.size + 4, 0, none⟩) (by simp) (.int .u64 ((hi (Hm.mv (Hm.gv y k)) : Nat) : Int))) (p := ⟨w.heap.size + 4, 1, none⟩) (by simp) (.int .u64 ((lo (Hm.mv (Hm.gv y k)) : Nat) : Int))
            have q2 := set_far (set_far (G2.out.blk Q2.out (fun f => f)) (p := ⟨w.heap.size + 4, 0, none⟩) (by simp) (.int .u64 ((hi (Hm.mv (Hm.gv y k)) : Nat) : Int))) (p := ⟨w.heap.size + 4, 1, none⟩) (by simp) (.int .u64 ((lo (Hm.mv (Hm.gv y k)) : Nat) : Int))
            have q3 := set_two (c := Hm.mv (Hm.gv y k)) (G2.out.blk Q3.out (fun f => f))
            have q4 := ((Q4.out.then_ G2.out).setCell (p := ⟨w.heap.size + 4, 0, none⟩) (.inr (by simp)) (.int .u64 ((hi (Hm.mv (Hm.gv y k)) : Nat) : Int))).setCell (p := ⟨w.heap.size + 4, 1, none⟩) (.inr (by simp)) (.int .u64 ((lo (Hm.mv (Hm.gv y k)) : Nat) : Int))
            have q5 := set_far (set_far (G2.out.blk Q5.out (fun f => f)) (p := ⟨w.heap.size + 4, 0, none⟩) (by simp) (.int .u64 ((hi (Hm.mv (Hm.gv y k)) : Nat) : Int))) (p := ⟨w.heap.size + 4, 1, none⟩) (by simp) (.int .u64 ((lo (Hm.mv (Hm.gv y k)) : Nat) : Int))
            have e2 : Hm.gz x y (k + 1) = Hm.gz x y k ^^^ Hm.gv y k := by show (if x.testBit (127 - k) then _ else _) = _; rw [HT.out]; rfl
            (repeat apply Exists.intro)
            exact ⟨⟨k + 1, by omega, by go_num, q1, by rw [e2]; exact q2, q3, q4, q5⟩, rfl⟩
          case measure => simp [intOf]; omega
        | false =>
          go_wp2_with fail
          refine (half_moved (Hm.gv y k) HBV.out _).mono ?_
          rintro e w2 ⟨rfl, g2⟩
          have fv0 := free_at (g2.blk H3.out (fun f => f)) 0
          have fv1 := free_at (g2.blk H3.out (fun f => f)) 1
          have c0 : w2.cell? ⟨w.heap.size + 4, 0, none⟩ = some (.int .u64 ((hi (Hm.gv y k) : Nat) : Int)) := cell_at (g2.blk H3.out (fun f => f)) rfl
          have c1 : w2.cell? ⟨w.heap.size + 4, 1, none⟩ = some (.int .u64 ((lo (Hm.gv y k) : Nat) : Int)) := cell_at (g2.blk H3.out (fun f => f)) rfl
          have G2 := Lib.hid g2
          clear g2 x0 x1 z0 z1 v0 v1
          go_wp2_with fail
          go_roundw
          case rel =>
            have q1 := set_far (set_far (G2.out.blk H1.out (fun f => f)) (p := ⟨w.heap.size + 4, 0, none⟩) (by simp) (.int .u64 ((hi (Hm.mv (Hm.gv y k)) : Nat) : Int))) (p := ⟨w.heap.size + 4, 1, none⟩) (by simp) (.int .u64 ((lo (Hm.mv (Hm.gv y k)) : Nat) : Int))
            have q2 := set_far (set_far (G2.out.blk H2.out (fun f => f)) (p := ⟨w.heap.size + 4, 0, none⟩) (by simp) (.int .u64 ((hi (Hm.mv (Hm.gv y k)) : Nat) : Int))) (p := ⟨w.heap.size + 4, 1, none⟩) (by simp) (.int .u64 ((lo (Hm.mv (Hm.gv y k)) : Nat) : Int))
            have q3 := set_two (c := Hm.mv (Hm.gv y k)) (G2.out.blk H3.out (fun f => f))
            have q4 := ((H4.out.then_ G2.out).setCell (p := ⟨w.heap.size + 4, 0, none⟩) (.inr (by simp)) (.int .u64 ((hi (Hm.mv (Hm.gv y k)) : Nat) : Int))).setCell (p := ⟨w.heap.size + 4, 1, none⟩) (.inr (by simp)) (.int .u64 ((lo (Hm.mv (Hm.gv y k)) : Nat) : Int))
            have q5 := set_far (set_far (G2.out.blk H5.out (fun f => f)) (p := ⟨w.heap.size + 4, 0, none⟩) (by simp) (.int .u64 ((hi (Hm.mv (Hm.gv y k)) : Nat) : Int))) (p := ⟨w.heap.size + 4, 1, none⟩) (by simp) (.int .u64 ((lo (Hm.mv (Hm.gv y k)) : Nat) : Int))
            have e2 : Hm.gz x y (k + 1) = Hm.gz x y k := by show (if x.testBit (127 - k) then _ else _) = _; rw [HT.out]; rfl
            (repeat apply Exists.intro)
            exact ⟨⟨k + 1, by omega, by go_num, q1, by rw [e2]; exact q2, q3, q4, q5⟩, rfl⟩
          case measure => simp [intOf]; omega
      · obtain ⟨j, hj⟩ : ∃ j, k = 64 + j := ⟨k - 64, by omega⟩
        have htt := ht2 j hj
        have h63 : (k : Int) % 64 = (j : Int) := by omega
        have hj2 : j < 64 := by omega
        have HJ := Lib.hid hj
        clear ht1 ht2 hj
        cases t with
        | true =>
          go_wp2_with fail
          refine (half_plus (Hm.gz x y k) (Hm.gv y k) HBZ.out HBV.out _).mono ?_
          rintro e w1 ⟨rfl, g1⟩
          have fz0 := free_at (g1.blk H2.out (fun f => f)) 0
          have fz1 := free_at (g1.blk H2.out (fun f => f)) 1
          have d0 : w1.cell? ⟨w.heap.size + 3, 0, none⟩ = some (.int .u64 ((hi (Hm.gz x y k) : Nat) : Int)) := cell_at (g1.blk H2.out (fun f => f)) rfl
          have d1 : w1.cell? ⟨w.heap.size + 3, 1, none⟩ = some (.int .u64 ((lo (Hm.gz x y k) : Nat) : Int)) := cell_at (g1.blk H2.out (fun f => f)) rfl
          have c0 : w1.cell? ⟨w.heap.size + 4, 0, none⟩ = some (.int .u64 ((hi (Hm.gv y k) : Nat) : Int)) := cell_at (g1.blk H3.out (fun f => f)) rfl
          have c1 : w1.cell? ⟨w.heap.size + 4, 1, none⟩ = some (.int .u64 ((lo (Hm.gv y k) : Nat) : Int)) := cell_at (g1.blk H3.out (fun f => f)) rfl
          have q1 := set_far (set_far (g1.blk H1.out (fun f => f)) (p := ⟨w.heap.size + 3, 0, none⟩) (by simp) (.int .u64 ((hi (Hm.gz x y k ^^^ Hm.gv y k) : Nat) : Int))) (p := ⟨w.heap.size + 3, 1, none⟩) (by simp) (.int .u64 ((lo (Hm.gz x y k ^^^ Hm.gv y k) : Nat) : Int))
          have q3 := set_far (set_far (g1.blk H3.out (fun f => f)) (p := ⟨w.heap.size + 3, 0, none⟩) (by simp) (.int .u64 ((hi (Hm.gz x y k ^^^ Hm.gv y k) : Nat) : Int))) (p := ⟨w.heap.size + 3, 1, none⟩) (by simp) (.int .u64 ((lo (Hm.gz x y k ^^^ Hm.gv y k) : Nat) : Int))
          have q2 := set_two (c := Hm.gz x y k ^^^ Hm.gv y k) (g1.blk H2.out (fun f => f))
          have q4 := ((H4.out.then_ g1).setCell (p := ⟨w.heap.size + 3, 0, none⟩) (.inr (by simp)) (.int .u64 ((hi (Hm.gz x y k ^^^ Hm.gv y k) : Nat) : Int))).setCell (p := ⟨w.heap.size + 3, 1, none⟩) (.inr (by simp)) (.int .u64 ((lo (Hm.gz x y k ^^^ Hm.gv y k) : Nat) : Int))
          have q5 := set_far (set_far (g1.blk H5.out (fun f => f)) (p := ⟨w.heap.size + 3, 0, none⟩) (by simp) (.int .u64 ((hi (Hm.gz x y k ^^^ Hm.gv y k) : Nat) : Int))) (p := ⟨w.heap.size + 3, 1, none⟩) (by simp) (.int .u64 ((lo (Hm.gz x y k ^^^ Hm.gv y k) : Nat) : Int))
          have Q1 := Lib.hid q1
          have Q2 := Lib.hid q2
          have Q3 := Lib.hid q3
          have Q4 := Lib.hid q4
          have Q5 := Lib.hid q5
          clear q1 q2 q3 q4 q5 g1 x0 x1 z0 z1 v0 v1
          go_wp2_with fail
          refine (half_moved (Hm.gv y k) HBV.out _).mono ?_
          rintro e w2 ⟨rfl, g2⟩
          have fv0 := free_at (g2.blk Q3.out (fun f => f)) 0
          have fv1 := free_at (g2.blk Q3.out (fun f => f)) 1
          have c2 : w2.cell? ⟨w.heap.size + 4, 0, none⟩ = some (.int .u64 ((hi (Hm.gv y k) : Nat) : Int)) := cell_at (g2.blk Q3.out (fun f => f)) rfl
          have c3 : w2.cell? ⟨w.heap.size + 4, 1, none⟩ = some (.int .u64 ((lo (Hm.gv y k) : Nat) : Int)) := cell_at (g2.blk Q3.out (fun f => f)) rfl
          have G2 := Lib.hid g2
          clear g2 fz0 fz1 d0 d1 c0 c1
          go_wp2_with fail
          go_roundw
          case rel =>
            have q1 := set_far (set_far (G2.out.blk Q1.out (fun f => f)) (p := ⟨w.heap.size + 4, 0, none⟩) (by simp) (.int .u64 ((hi (Hm.mv (Hm.gv y k)) : Nat) : Int))) (p := ⟨w.heap.size + 4, 1, none⟩) (by simp) (.int .u64 ((lo (Hm.mv (Hm.gv y k)) : Nat) : Int))
            have q2 := set_far (set_far (G2.out.blk Q2.out (fun f => f)) (p := ⟨w.heap.size + 4, 0, none⟩) (by simp) (.int .u64 ((hi (Hm.mv (Hm.gv y k)) : Nat) : Int))) (p := ⟨w.heap.size + 4, 1, none⟩) (by simp) (.int .u64 ((lo (Hm.mv (Hm.gv y k)) : Nat) : Int))
            have q3 := set_two (c := Hm.mv (Hm.gv y k)) (G2.out.blk Q3.out (fun f => f))
            have q4 := ((Q4.out.then_ G2.out).setCell (p := ⟨w.heap.size + 4, 0, none⟩) (.inr (by simp)) (.int .u64 ((hi (Hm.mv (Hm.gv y k)) : Nat) : Int))).setCell (p := ⟨w.heap.size + 4, 1, none⟩) (.inr (by simp)) (.int .u64 ((lo (Hm.mv (Hm.gv y k)) : Nat) : Int))
            have q5 := set_far (set_far (G2.out.blk Q5.out (fun f => f)) (p := ⟨w.heap.size + 4, 0, none⟩) (by simp) (.int .u64 ((hi (Hm.mv (Hm.gv y k)) : Nat) : Int))) (p := ⟨w.heap.size + 4, 1, none⟩) (by simp) (.int .u64 ((lo (Hm.mv (Hm.gv y k)) : Nat) : Int))
            have e2 : Hm.gz x y (k + 1) = Hm.gz x y k ^^^ Hm.gv y k := by show (if x.testBit (127 - k) then _ else _) = _; rw [HT.out]; rfl
            (repeat apply Exists.intro)
            exact ⟨⟨k + 1, by omega, by go_num, q1, by rw [e2]; exact q2, q3, q4, q5⟩, rfl⟩
          case measure => simp [intOf]; omega
        | false =>
          go_wp2_with fail
          refine (half_moved (Hm.gv y k) HBV.out _).mono ?_
          rintro e w2 ⟨rfl, g2⟩
          have fv0 := free_at (g2.blk H3.out (fun f => f)) 0
          have fv1 := free_at (g2.blk H3.out (fun f => f)) 1
          have c0 : w2.cell? ⟨w.heap.size + 4, 0, none⟩ = some (.int .u64 ((hi (Hm.gv y k) : Nat) : Int)) := cell_at (g2.blk H3.out (fun f => f)) rfl
          have c1 : w2.cell? ⟨w.heap.size + 4, 1, none⟩ = some (.int .u64 ((lo (Hm.gv y k) : Nat) : Int)) := cell_at (g2.blk H3.out (fun f => f)) rfl
          have G2 := Lib.hid g2
          clear g2 x0 x1 z0 z1 v0 v1
          go_wp2_with fail
          go_roundw
          case rel =>
            have q1 := set_far (set_far (G2.out.blk H1.out (fun f => f)) (p := ⟨w.heap.size + 4, 0, none⟩) (by simp) (.int .u64 ((hi (Hm.mv (Hm.gv y k)) : Nat) : Int))) (p := ⟨w.heap.size + 4, 1, none⟩) (by simp) (.int .u64 ((lo (Hm.mv (Hm.gv y k)) : Nat) : Int))
            have q2 := set_far (set_far (G2.out.blk H2.out (fun f => f)) (p := ⟨w.heap.size + 4, 0, none⟩) (by simp) (.int .u64 ((hi (Hm.mv (Hm.gv y k)) : Nat) : Int))) (p := ⟨w.heap.size + 4, 1, none⟩) (by simp) (.int .u64 ((lo (Hm.mv (Hm.gv y k)) : Nat) : Int))
            have q3 := set_two (c := Hm.mv (Hm.gv y k)) (G2.out.blk H3.out (fun f => f))
            have q4 := ((H4.out.then_ G2.out).setCell (p := ⟨w.heap.size + 4, 0, none⟩) (.inr (by simp)) (.int .u64 ((hi (Hm.mv (Hm.gv y k)) : Nat) : Int))).setCell (p := ⟨w.heap.size + 4, 1, none⟩) (.inr (by simp)) (.int .u64 ((lo (Hm.mv (Hm.gv y k)) : Nat) : Int))
            have q5 := set_far (set_far (G2.out.blk H5.out (fun f => f)) (p := ⟨w.heap.size + 4, 0, none⟩) (by simp) (.int .u64 ((hi (Hm.mv (Hm.gv y k)) : Nat) : Int))) (p := ⟨w.heap.size + 4, 1, none⟩) (by simp) (.int .u64 ((lo (Hm.mv (Hm.gv y k)) : Nat) : Int))
            have e2 : Hm.gz x y (k + 1) = Hm.gz x y k := by show (if x.testBit (127 - k) then _ else _) = _; rw [HT.out]; rfl
            (repeat apply Exists.intro)
            exact ⟨⟨k + 1, by omega, by go_num, q1, by rw [e2]; exact q2, q3, q4, q5⟩, rfl⟩
          case measure => simp [intOf]; omega
    · obtain rfl : k = 128 := by omega
      have q := set_two (c := Hm.gz x y 128) H5.out
      have q0 : ((wr.setCell ⟨w.heap.size + 2, 0, none⟩ (.int .u64 ((hi (Hm.gz x y 128) : Nat) : Int))).setCell ⟨w.heap.size + 2, 1, none⟩ (.int .u64 ((lo (Hm.gz x y 128) : Nat) : Int))).cell? ⟨w.heap.size + 2, 0, none⟩ = some (.int .u64 ((hi (Hm.gz x y 128) : Nat) : Int)) := cell_at q rfl
      have q1 : ((wr.setCell ⟨w.heap.size + 2, 0, none⟩ (.int .u64 ((hi (Hm.gz x y 128) : Nat) : Int))).setCell ⟨w.heap.size + 2, 1, none⟩ (.int .u64 ((lo (Hm.gz x y 128) : Nat) : Int))).cell? ⟨w.heap.size + 2, 1, none⟩ = some (.int .u64 ((lo (Hm.gz x y 128) : Nat) : Int)) := cell_at q rfl
      have HQ0 := Lib.hid q0
      have HQ1 := Lib.hid q1
      clear q q0 q1
      go_wp2_with fail
      have q0 := HQ0.out
      have q1 := HQ1.out
      exact bodyPost_ret (v := hv (Hm.gm x y)) (by simp [results, Tryz.results94, go_sem, q0, q1]; exact ⟨rfl, rfl⟩) rfl ⟨rfl, (H4.out.setCell (p := ⟨w.heap.size + 2, 0, none⟩) (.inr (by simp)) _).setCell (p := ⟨w.heap.size + 2, 1, none⟩) (.inr (by simp)) _⟩
end Go.Proofs.YtlkbkgghfhoggaaGreatDoor
