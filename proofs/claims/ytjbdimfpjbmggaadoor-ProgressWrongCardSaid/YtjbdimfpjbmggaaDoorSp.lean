/- The bodies of ShamirSums. -/
import Derived.Test.YtjbdimfpjbmggaaDoorSo
set_option linter.unusedVariables false
set_option linter.unusedSimpArgs false
namespace Go.Proofs.YtjbdimfpjbmggaaDoor
open Go.RowKit Gm
def sumT (a b : List Nat) (i : Nat) : List Nat := (List.range i).map fun j => a.getD j 0 ^^^ b.getD j 0
theorem sumT_length (a b : List Nat) (i : Nat) : (sumT a b i).length = i := by simp [sumT]
theorem sumT_snoc {a b : List Nat} {i m n : Nat} (h : a[i]? = some m) (h2 : b[i]? = some n) : sumT a b i ++ [m ^^^ n] = sumT a b (i + 1) := by
  unfold sumT; rw [List.range_succ, List.map_append, ← getD_some h, ← getD_some h2]; rfl
set_option maxRecDepth 100000 in
set_option maxHeartbeats 2000000 in
theorem sum_ (A : Option Addr) (l : List Nat) (c : Nat) (A2 : Option Addr) (m : List Nat) (c2 : Nat) (w : World) (HB : Bs w A l) (hc : l.length ≤ c) (HB2 : Bs w A2 m) (hc2 : m.length ≤ c2) (hl : m.length = l.length ∧ l.length < 1000000) : Ret Tryd.prog 23 #[.slice A (l.length) (c), .slice A2 (m.length) (c2)] w (fun v w' => ∃ A c, v = .slice A (sumL l m).length c ∧ Ob w' w.heap.size (.slice A (sumL l m).length c) (sumL l m) ∧ Kp No w w') := by
  obtain ⟨hl1, hl2⟩ := hl
  have kk0 := Kp.refl No w
  refine enter (n := 26) [.slice A (l.length) (c), .slice A2 (m.length) (c2)] Tryd.func23 rfl rfl rfl ?_
  show Cw _ _ _ _ [(0, .slice A (l.length) (c)), (1, .slice A2 (m.length) (c2))] _
  refine C_seq (fun K1 hK1 => ?_)
  refine C_region ?_
  refine R_pu (pu_assign rfl) rfl ?_
  refine R_nil ?_
  refine X_then hK1 ?_
  refine C_seq (fun K2 hK2 => ?_)
  refine C_region ?_
  refine R_pu (pu_assign rfl) rfl ?_
  refine R_nil ?_
  refine X_then hK2 ?_
  refine C_seq (fun K3 hK3 => ?_)
  refine C_seq (fun K4 hK4 => ?_)
  refine C_region ?_
  refine R_pu (pu_assign rfl) rfl ?_
  refine R_nil ?_
  refine X_then hK4 ?_
  refine C_block ?_
  have ob5 := Ob.nil w w.heap.size
  have z6 := Nat.le_refl w.heap.size
  refine C_loop (fun m_ l_ wr => ∃ i : Nat, ∃ An : Option Addr, ∃ cn : Nat, (m_ = l.length - i) ∧ (l_ = [(0, .slice A (l.length) (c)), (1, .slice A2 (m.length) (c2)), (4, .slice none (0) (0)), (5, .slice An ((sumT l m i).length) (cn)), (6, .int .i64 ((i : Nat) : Int))]) ∧ (i ≤ l.length) ∧ (Kp No w wr) ∧ (Ob wr w.heap.size (.slice An (sumT l m i).length cn) (sumT l m i) ∧ w.heap.size ≤ (wr).heap.size)) (l.length - 0) [(0, .slice A (l.length) (c)), (1, .slice A2 (m.length) (c2)), (4, .slice none (0) (0)), (5, .slice none ((sumT l m 0).length) (0)), (6, .int .i64 0)] (Sub.cons rfl (Sub.cons rfl (Sub.cons rfl (Sub.cons rfl (Sub.cons rfl (Sub.nil _)))))) ⟨0, none, 0, rfl, rfl, by omega, kk0, ⟨by exact ob5, z6⟩⟩ ?_
  rintro _ _ w1 ⟨i, An, cn, rfl, rfl, hi, kk1, n_1⟩
  refine C_seq (fun K7 hK7 => ?_)
  refine C_seq (fun K8 hK8 => ?_)
  refine C_region ?_
  refine R_pu (pu_move rfl) rfl ?_
  refine R_pu (pu_move rfl) rfl ?_
  refine R_pu (pu_len Tryd.underlying22 rfl) rfl ?_
  refine R_pu (pu_lss (p := i < l.length) rfl rfl (by omega)) rfl ?_
  refine R_nil ?_
  refine X_then hK8 ?_
  refine C_dec rfl (fun h10 => ?_) (fun h10 => ?_)
  · refine C_skip ?_
    refine X_then hK7 ?_
    refine C_seq (fun K9 hK9 => ?_)
    refine C_block ?_
    refine D_begin (fun W => Kp No w W) 13 rfl (by kernel_rfl) kk1.drew ?_
    intro w2 k2 _
    have kk2 := kk1.then_ k2
    refine D_take 0 rfl (by kernel_rfl) (by kernel_rfl) (by kernel_rfl) (fun _ _ _ h => h) rfl (fun W hS => pu_move rfl) ?_
    refine D_take 1 rfl (by kernel_rfl) (by kernel_rfl) (by kernel_rfl) (fun _ _ _ h => h) rfl (fun W hS => pu_move rfl) ?_
    refine D_take 2 rfl (by kernel_rfl) (by kernel_rfl) (by kernel_rfl) (fun _ _ _ h => h) rfl (fun W hS => pu_move rfl) ?_
    refine D_take 3 rfl (by kernel_rfl) (by kernel_rfl) (by kernel_rfl) (fun _ _ _ h => h) rfl (fun W hS => pu_indexAddrB (m := i) (HB.keptNo hS) Tryd.underlying22 (by kernel_rfl) rfl rfl rfl rfl (by omega)) ?_
    obtain ⟨a, e_a⟩ : ∃ q_, (l)[i]? = some q_ := ⟨_, List.getElem?_eq_getElem (by omega)⟩
    have b_a : a < 256 := ((HB.keptNo kk2)).lt e_a
    refine D_take 4 rfl (by kernel_rfl) (by kernel_rfl) (by kernel_rfl) (fun _ _ _ h => h) rfl (fun W hS => pu_loadB (HB.keptNo hS) (by kernel_rfl) rfl e_a) ?_
    refine D_take 5 rfl (by kernel_rfl) (by kernel_rfl) (by kernel_rfl) (fun _ _ _ h => h) rfl (fun W hS => pu_move rfl) ?_
    refine D_take 6 rfl (by kernel_rfl) (by kernel_rfl) (by kernel_rfl) (fun _ _ _ h => h) rfl (fun W hS => pu_move rfl) ?_
    refine D_take 7 rfl (by kernel_rfl) (by kernel_rfl) (by kernel_rfl) (fun _ _ _ h => h) rfl (fun W hS => pu_indexAddrB (m := i) (HB2.keptNo hS) Tryd.underlying22 (by kernel_rfl) rfl rfl rfl rfl (by omega)) ?_
    obtain ⟨b, e_b⟩ : ∃ q_, (m)[i]? = some q_ := ⟨_, List.getElem?_eq_getElem (by omega)⟩
    have b_b : b < 256 := ((HB2.keptNo kk2)).lt e_b
    refine D_take 8 rfl (by kernel_rfl) (by kernel_rfl) (by kernel_rfl) (fun _ _ _ h => h) rfl (fun W hS => pu_loadB (HB2.keptNo hS) (by kernel_rfl) rfl e_b) ?_
    refine D_one 9 (by kernel_rfl) (Nx_lo rfl (lo_call (by kernel_rfl) rfl (gf_add a b b_a b_b _)) rfl ?_)
    rintro _ w3 ⟨rfl, k3⟩
    have kk3 := kk2.then_ k3
    refine ⟨kk3, ?_⟩
    have ob10 := ((n_1.1.keptNo k2).keptNo k3)
    refine D_one 10 (by kernel_rfl) (Nx_lo rfl (lo_buildSlice (L := u8s ([a ^^^ b])) Tryd.underlying22 rfl (by kernel_rfl)) rfl ?_)
    rintro _ w4 ⟨p5_10, rfl, N4⟩
    have k4 := N4.kp
    have kk4 := kk3.then_ k4
    have f_p5_10_4 : Bk w4 p5_10 (u8s ([a ^^^ b])) 5 := N4.bk
    refine ⟨kk4, ?_⟩
    have ob11 := (ob10.keptNo k4)
    refine D_one 11 (by kernel_rfl) (Nx_lo rfl (lo_app (X := sumT l m i) (Y := [a ^^^ b]) ob11 ob11.le.1 rfl rfl (show By 1 [a ^^^ b] from ⟨rfl, fun n hn => by rw [List.mem_singleton.1 hn]; exact (xor_lt8 b_a b_b)⟩).1 (Bs.ofBk f_p5_10_4 (show By 1 [a ^^^ b] from ⟨rfl, fun n hn => by rw [List.mem_singleton.1 hn]; exact (xor_lt8 b_a b_b)⟩)) (by rw [sumT_length]; simp; omega) (Nat.le_trans (Nat.le_trans (Nat.le_trans n_1.2 k2.size) k3.size) k4.size)) rfl ?_)
    rintro _ w5 ⟨A_5, c_5, rfl, p5⟩
    have k5 := p5.kp
    have kk5 := kk4.trans k5 (fun i hi => .inr (Nat.le_trans (kk0).size hi))
    refine ⟨kk5, ?_⟩
    refine D_take 12 rfl (by kernel_rfl) (by kernel_rfl) (by kernel_rfl) (fun _ _ _ h => h) rfl (fun W hS => pu_assign rfl) ?_
    refine D_done (by kernel_rfl) ?_
    refine X_in_normal ?_
    refine X_then hK9 ?_
    refine C_region ?_
    refine R_pu (pu_move rfl) rfl ?_
    refine R_pu (pu_add (z := ((i + 1 : Nat) : Int)) rfl rfl (by rw [IntKind.wrap_i64]; omega)) rfl ?_
    refine R_pu (pu_assign rfl) rfl ?_
    refine R_nil ?_
    refine X_round (l.length - (i + 1)) [(0, .slice A (l.length) (c)), (1, .slice A2 (m.length) (c2)), (4, .slice none (0) (0)), (5, .slice A_5 ((sumT l m (i + 1)).length) (c_5)), (6, .int .i64 (((i + 1) : Nat) : Int))] (by omega) (Sub.cons rfl (Sub.cons rfl (Sub.cons rfl (Sub.consE rfl (by rw [sumT_snoc e_a e_b]) (Sub.cons rfl (Sub.nil _)))))) ⟨i + 1, A_5, c_5, rfl, rfl, by omega, kk5, ⟨by rw [← sumT_snoc e_a e_b]; exact p5.ob, (Nat.le_trans (Nat.le_trans (Nat.le_trans (Nat.le_trans n_1.2 k2.size) k3.size) k4.size) k5.size)⟩⟩
  · refine C_exit ?_
    refine X_then_exit (X_then_exit (X_in_eq ?_))
    refine X_then hK3 ?_
    refine C_seq (fun K12 hK12 => ?_)
    refine C_region ?_
    refine R_pu (pu_move rfl) rfl ?_
    refine R_pu (pu_assign rfl) rfl ?_
    refine R_nil ?_
    refine X_then hK12 ?_
    refine C_ret ?_
    exact X_ret1 (.inl rfl) rfl rfl (by rw [← show sumT l m i = sumL l m by rw [show i = l.length by omega]; rfl]; exact ⟨An, cn, rfl, n_1.1.low ((kk0).size), kk1⟩)
set_option maxRecDepth 100000 in
set_option maxHeartbeats 2000000 in
theorem laid_ (A : Option Addr) (l : List Nat) (c : Nat) (ka nn : Int) (A2 : Option Addr) (d2 : List Nat) (c2 : Nat) (w : World) (HB : Bs w A l) (hc : l.length ≤ c) (HB2 : Bs w A2 d2) (hc2 : d2.length ≤ c2) : Ret Tryd.prog 21 #[.agg ([.slice A (l.length) (c), .int .i64 (ka), .int .i64 (nn), .slice A2 (d2.length) (c2)] : List Value).toArray] w (fun v w' => ∃ As cs Ad cd S D q n, v = .tuple #[.slice As (S : List Nat).length cs, .agg ([.int .i64 ((q + 1 : Nat) : Int), .int .i64 ((n : Nat) : Int), .int .u32 5] : List Value).toArray, .slice Ad (D : List Nat).length cd] ∧ Od w' 0 (.slice As S.length cs) S ∧ Od w' 0 (.slice Ad D.length cd) D ∧ (1 ≤ q ∧ q ≤ 6 ∧ q + 1 ≤ n ∧ n ≤ 16) ∧ (1 ≤ S.length ∧ S.length ≤ 40) ∧ D.length = q * S.length ∧ Kp No w w') := by
  have hu1 := uz_lt ka; have hu2 := uz_lt nn
  have kk0 := Kp.refl No w
  refine enter (n := 66) [.agg ([.slice A (l.length) (c), .int .i64 (ka), .int .i64 (nn), .slice A2 (d2.length) (c2)] : List Value).toArray] Tryd.func21 rfl rfl rfl ?_
  show Cw _ _ _ _ [(0, .agg ([.slice A (l.length) (c), .int .i64 (ka), .int .i64 (nn), .slice A2 (d2.length) (c2)] : List Value).toArray)] _
  refine C_seq (fun K1 hK1 => ?_)
  refine C_region ?_
  refine R_lo (lo_box (L := [.slice A (l.length) (c), .int .i64 (ka), .int .i64 (nn), .slice A2 (d2.length) (c2)]) rfl rfl) rfl ?_
  rintro _ w1 ⟨p0_0, rfl, N1⟩
  have k1 := N1.kp
  have kk1 := kk0.then_ k1
  have f_p0_0_1 : Bk w1 p0_0 ([.slice A (l.length) (c), .int .i64 (ka), .int .i64 (nn), .slice A2 (d2.length) (c2)]) 46 := N1.bk
  refine R_pu (pu_assign rfl) rfl ?_
  refine R_lo (lo_alloc (L := [.int .i64 0, .int .i64 0, .int .u32 0]) (by kernel_rfl)) rfl ?_
  rintro _ w2 ⟨p0_2, rfl, N2⟩
  have k2 := N2.kp
  have kk2 := kk1.then_ k2
  have ne_p0_2_p0_0 : p0_2 ≠ p0_0 := Nat.ne_of_gt (Nat.lt_of_lt_of_le f_p0_0_1.lt N2.le)
  have f_p0_2_2 : Bk w2 p0_2 ([.int .i64 0, .int .i64 0, .int .u32 0]) 28 := N2.bk
  refine R_pu (pu_assign rfl) rfl ?_
  refine R_nil ?_
  refine X_then hK1 ?_
  refine C_seq (fun K2 hK2 => ?_)
  refine C_region ?_
  refine R_pu (pu_fieldAddr (off := 1) (o' := 1) (by kernel_rfl) rfl rfl) rfl ?_
  have f3 : Bk w2 p0_0 ([.slice A (l.length) (c), .int .i64 (ka), .int .i64 (nn), .slice A2 (d2.length) (c2)]) 46 := (f_p0_0_1.no k2)
  refine R_pu (pu_loadK f3 (by kernel_rfl) rfl rfl) rfl ?_
  refine R_pu (pu_conv (z := ((uz ka : Nat) : Int)) Tryd.underlying3 Tryd.underlying65 rfl (wrap_uz ka)) rfl ?_
  refine R_pu (pu_rem (z := (((uz ka) % 6 : Nat) : Int)) rfl rfl (by omega) (by rfl)) rfl ?_
  refine R_pu (pu_conv (z := (((uz ka) % 6 : Nat) : Int)) Tryd.underlying65 Tryd.underlying3 rfl (by rw [IntKind.wrap_i64]; omega)) rfl ?_
  obtain ⟨q, hq⟩ : ∃ q, 2 + uz ka % 6 = q + 1 := ⟨1 + uz ka % 6, by omega⟩
  refine R_pu (pu_add (z := ((q + 1 : Nat) : Int)) rfl rfl (by rw [IntKind.wrap_i64]; omega)) rfl ?_
  refine R_pu (pu_assign rfl) rfl ?_
  refine R_nil ?_
  refine X_then hK2 ?_
  refine C_seq (fun K4 hK4 => ?_)
  refine C_region ?_
  refine R_pu (pu_move rfl) rfl ?_
  refine R_pu (pu_move rfl) rfl ?_
  refine R_pu (pu_fieldAddr (off := 2) (o' := 2) (by kernel_rfl) rfl rfl) rfl ?_
  refine R_pu (pu_loadK f3 (by kernel_rfl) rfl rfl) rfl ?_
  refine R_pu (pu_conv (z := ((uz nn : Nat) : Int)) Tryd.underlying3 Tryd.underlying65 rfl (wrap_uz nn)) rfl ?_
  refine R_pu (pu_rem (z := (((uz nn) % 9 : Nat) : Int)) rfl rfl (by omega) (by rfl)) rfl ?_
  refine R_pu (pu_conv (z := (((uz nn) % 9 : Nat) : Int)) Tryd.underlying65 Tryd.underlying3 rfl (by rw [IntKind.wrap_i64]; omega)) rfl ?_
  obtain ⟨n, hn⟩ : ∃ n, q + 1 + uz nn % 9 = n := ⟨_, rfl⟩
  refine R_pu (pu_add (z := ((n : Nat) : Int)) rfl rfl (by rw [IntKind.wrap_i64]; omega)) rfl ?_
  refine R_pu (pu_build (L := [.int .i64 ((q + 1 : Nat) : Int), .int .i64 ((n : Nat) : Int), .int .u32 5]) rfl (by kernel_rfl)) rfl ?_
  refine R_lo (lo_alloc (L := [.int .i64 0, .int .i64 0, .int .u32 0]) (by kernel_rfl)) rfl ?_
  rintro _ w3 ⟨p2_9, rfl, N3⟩
  have k3 := N3.kp
  have kk3 := kk2.then_ k3
  have ne_p2_9_p0_0 : p2_9 ≠ p0_0 := Nat.ne_of_gt (Nat.lt_of_lt_of_le f3.lt N3.le)
  have ne_p2_9_p0_2 : p2_9 ≠ p0_2 := Nat.ne_of_gt (Nat.lt_of_lt_of_le f_p0_2_2.lt N3.le)
  have f_p2_9_3 : Bk w3 p2_9 ([.int .i64 0, .int .i64 0, .int .u32 0]) 28 := N3.bk
  refine R_lo0 (lo_storeRow (C := [.int .i64 ((q + 1 : Nat) : Int), .int .i64 ((n : Nat) : Int), .int .u32 5]) f_p2_9_3 (by kernel_rfl) rfl rfl (by intro u hu; simp at hu; rcases hu with rfl | rfl | rfl <;> rfl) rfl) ?_
  rintro _ w4 kf4
  obtain ⟨k4, f_p2_9_4⟩ := kf4
  replace f_p2_9_4 : Bk w4 p2_9 ([.int .i64 ((q + 1 : Nat) : Int), .int .i64 ((n : Nat) : Int), .int .u32 5]) 28 := f_p2_9_4
  have kk4 := kk3.trans k4 (fun i hi => .inr (hi ▸ (Nat.le_trans kk2.size N3.le)))
  refine R_nil ?_
  refine X_then hK4 ?_
  refine C_seq (fun K5 hK5 => ?_)
  refine C_region ?_
  refine R_pu (pu_fieldAddr (off := 0) (o' := 0) (by kernel_rfl) rfl rfl) rfl ?_
  have f6 : Bk w4 p0_0 ([.slice A (l.length) (c), .int .i64 (ka), .int .i64 (nn), .slice A2 (d2.length) (c2)]) 46 := ((f3.no k3).on k4 (Ne.symm ne_p2_9_p0_0))
  refine R_pu (pu_loadK f6 (by kernel_rfl) rfl rfl) rfl ?_
  refine R_pu (pu_assign rfl) rfl ?_
  refine R_nil ?_
  refine X_then hK5 ?_
  refine C_seq (fun K7 hK7 => ?_)
  refine C_seq (fun K8 hK8 => ?_)
  refine C_region ?_
  refine R_pu (pu_move rfl) rfl ?_
  refine R_pu (pu_len Tryd.underlying22 rfl) rfl ?_
  refine R_pu (pu_eql (p := l.length = 0) rfl rfl (by omega)) rfl ?_
  refine R_nil ?_
  refine X_then hK8 ?_
  refine C_dec rfl (fun h29 => ?_) (fun h29 => ?_)
  · refine C_region ?_
    have f9 : Bk w4 p0_2 ([.int .i64 0, .int .i64 0, .int .u32 0]) 28 := ((f_p0_2_2.no k3).on k4 (Ne.symm ne_p2_9_p0_2))
    refine R_lo (lo_buildSlice (L := u8s ([9])) Tryd.underlying22 rfl (by kernel_rfl)) rfl ?_
    rintro _ w5 ⟨p5_0, rfl, N5⟩
    have k5 := N5.kp
    have kk5 := kk4.then_ k5
    have ne_p5_0_p0_0 : p5_0 ≠ p0_0 := Nat.ne_of_gt (Nat.lt_of_lt_of_le f6.lt N5.le)
    have ne_p5_0_p0_2 : p5_0 ≠ p0_2 := Nat.ne_of_gt (Nat.lt_of_lt_of_le f9.lt N5.le)
    have ne_p5_0_p2_9 : p5_0 ≠ p2_9 := Nat.ne_of_gt (Nat.lt_of_lt_of_le f_p2_9_4.lt N5.le)
    have f_p5_0_5 : Bk w5 p5_0 (u8s ([9])) 5 := N5.bk
    refine R_pu (pu_assign rfl) rfl ?_
    refine R_nil ?_
    refine X_then hK7 ?_
    refine C_seq (fun K10 hK10 => ?_)
    refine C_seq (fun K11 hK11 => ?_)
    refine C_region ?_
    refine R_pu (pu_move rfl) rfl ?_
    refine R_pu (pu_len Tryd.underlying22 rfl) rfl ?_
    refine R_pu (pu_false (pu_gtr (p := (1 : Nat) > 40) rfl rfl (by omega)) (by decide)) rfl ?_
    refine R_nil ?_
    refine X_then hK11 ?_
    refine C_false rfl ?_
    refine C_skip ?_
    refine X_then hK10 ?_
    refine C_seq (fun K12 hK12 => ?_)
    have hqm : q * 1 ≤ 240 := Nat.mul_le_mul (show q ≤ 6 by omega) (show 1 ≤ 40 by omega)
    refine C_region ?_
    refine R_pu (pu_move rfl) rfl ?_
    refine R_pu (pu_sub (z := ((q : Nat) : Int)) rfl rfl (by rw [IntKind.wrap_i64]; omega)) rfl ?_
    refine R_pu (pu_move rfl) rfl ?_
    refine R_pu (pu_len Tryd.underlying22 rfl) rfl ?_
    refine R_pu (pu_mul (z := ((q * 1 : Nat) : Int)) rfl rfl (by rw [IntKind.wrap_i64]; omega)) rfl ?_
    have f13 : Bk w5 p0_0 ([.slice A (l.length) (c), .int .i64 (ka), .int .i64 (nn), .slice A2 (d2.length) (c2)]) 46 := (f6.no k5)
    have f14 : Bk w5 p0_2 ([.int .i64 0, .int .i64 0, .int .u32 0]) 28 := (f9.no k5)
    have f15 : Bk w5 p2_9 ([.int .i64 ((q + 1 : Nat) : Int), .int .i64 ((n : Nat) : Int), .int .u32 5]) 28 := (f_p2_9_4.no k5)
    refine R_lo (lo_make (z := .int .u8 0) (bytes := 1) (ln := q * 1) (cp := q * 1) Tryd.underlying22 (by kernel_rfl) rfl rfl rfl rfl rfl (by omega) (by omega) (by omega)) rfl ?_
    rintro _ w6 ⟨dd, rfl, N6⟩
    have k6 := N6.kp
    have kk6 := kk5.then_ k6
    have ne_dd_p0_0 : dd ≠ p0_0 := Nat.ne_of_gt (Nat.lt_of_lt_of_le f13.lt N6.le)
    have ne_dd_p0_2 : dd ≠ p0_2 := Nat.ne_of_gt (Nat.lt_of_lt_of_le f14.lt N6.le)
    have ne_dd_p2_9 : dd ≠ p2_9 := Nat.ne_of_gt (Nat.lt_of_lt_of_le f15.lt N6.le)
    have ne_dd_p5_0 : dd ≠ p5_0 := Nat.ne_of_gt (Nat.lt_of_lt_of_le f_p5_0_5.lt N6.le)
    have f_dd_6 : Bk w6 dd (u8s (List.replicate (q * 1) 0)) 5 := by rw [u8s_rep]; exact N6.bk
    refine R_pu (pu_assign rfl) rfl ?_
    refine R_nil ?_
    refine X_then hK12 ?_
    refine C_seq (fun K16 hK16 => ?_)
    refine C_seq (fun K17 hK17 => ?_)
    refine C_region ?_
    refine R_pu (pu_assign rfl) rfl ?_
    refine R_nil ?_
    refine X_then hK17 ?_
    refine C_block ?_
    have f18 : Bk w6 p0_0 ([.slice A (l.length) (c), .int .i64 (ka), .int .i64 (nn), .slice A2 (d2.length) (c2)]) 46 := (f13.no k6)
    have f19 : Bk w6 p0_2 ([.int .i64 0, .int .i64 0, .int .u32 0]) 28 := (f14.no k6)
    have f20 : Bk w6 p2_9 ([.int .i64 ((q + 1 : Nat) : Int), .int .i64 ((n : Nat) : Int), .int .u32 5]) 28 := (f15.no k6)
    have f21 : Bk w6 p5_0 (u8s ([9])) 5 := (f_p5_0_5.no k6)
    refine C_loop (fun m_ l_ wr => ∃ i : Nat, ∃ dv : List Nat, (m_ = (q * 1) - i) ∧ (l_ = [(1, .pointer (some ⟨p0_0, 0, none⟩)), (2, .slice none (0) (0)), (3, .pointer (some ⟨p0_2, 0, none⟩)), (4, .slice none (0) (0)), (6, .pointer (some ⟨p2_9, 0, none⟩)), (7, .slice (some ⟨p5_0, 0, none⟩) (1) (1)), (8, .slice (some ⟨dd, 0, none⟩) (q * 1) (q * 1)), (9, .int .i64 ((i : Nat) : Int))]) ∧ (i ≤ q * 1) ∧ (By (q * 1) dv) ∧ (Kp No w wr) ∧ (Bk wr p0_0 ([.slice A (l.length) (c), .int .i64 (ka), .int .i64 (nn), .slice A2 (d2.length) (c2)]) 46) ∧ (Bk wr p0_2 ([.int .i64 0, .int .i64 0, .int .u32 0]) 28) ∧ (Bk wr p2_9 ([.int .i64 ((q + 1 : Nat) : Int), .int .i64 ((n : Nat) : Int), .int .u32 5]) 28) ∧ (Bk wr p5_0 (u8s ([9])) 5) ∧ (Bk wr dd (u8s dv) 5)) ((q * 1) - 0) [(1, .pointer (some ⟨p0_0, 0, none⟩)), (2, .slice none (0) (0)), (3, .pointer (some ⟨p0_2, 0, none⟩)), (4, .slice none (0) (0)), (6, .pointer (some ⟨p2_9, 0, none⟩)), (7, .slice (some ⟨p5_0, 0, none⟩) (1) (1)), (8, .slice (some ⟨dd, 0, none⟩) (q * 1) (q * 1)), (9, .int .i64 0)] (Sub.cons rfl (Sub.cons rfl (Sub.cons rfl (Sub.cons rfl (Sub.cons rfl (Sub.cons rfl (Sub.cons rfl (Sub.cons rfl (Sub.nil _))))))))) ⟨0, List.replicate (q * 1) 0, rfl, rfl, by omega, (rep_by (q * 1)), kk6, f18, f19, f20, f21, Bk.eq f_dd_6 (congrArg u8s rfl)⟩ ?_
    rintro _ _ w7 ⟨i, dv, rfl, rfl, hi, hdv, kk7, f_p0_0_7, f_p0_2_7, f_p2_9_7, f_p5_0_7, f_dd_7⟩
    refine C_seq (fun K22 hK22 => ?_)
    refine C_seq (fun K23 hK23 => ?_)
    refine C_region ?_
    refine R_pu (pu_move rfl) rfl ?_
    refine R_pu (pu_move rfl) rfl ?_
    refine R_pu (pu_len Tryd.underlying22 rfl) rfl ?_
    refine R_pu (pu_lss (p := i < (q * 1)) rfl rfl (by omega)) rfl ?_
    by_cases g10_4 : i < (q * 1)
    · refine R_pu (pu_true (pu_move rfl) g10_4) rfl ?_
      refine R_gpu rfl rfl (pu_move rfl) rfl ?_
      refine R_gpu rfl rfl (pu_fieldAddr (off := 3) (o' := 3) (by kernel_rfl) rfl rfl) rfl ?_
      refine R_gpu rfl rfl (pu_loadK f_p0_0_7 (by kernel_rfl) rfl rfl) rfl ?_
      refine R_gpu rfl rfl (pu_len Tryd.underlying22 rfl) rfl ?_
      refine R_gpu rfl rfl (pu_lss (p := i < d2.length) rfl rfl (by omega)) rfl ?_
      refine R_pu (pu_pickt rfl rfl) rfl ?_
      refine R_nil ?_
      refine X_then hK23 ?_
      refine C_dec rfl (fun h52 => ?_) (fun h52 => ?_)
      · refine C_skip ?_
        refine X_then hK22 ?_
        refine C_seq (fun K24 hK24 => ?_)
        refine C_block ?_
        refine C_region ?_
        refine R_pu (pu_move rfl) rfl ?_
        refine R_pu (pu_move rfl) rfl ?_
        refine R_pu (pu_fieldAddr (off := 3) (o' := 3) (by kernel_rfl) rfl rfl) rfl ?_
        refine R_pu (pu_loadK f_p0_0_7 (by kernel_rfl) rfl rfl) rfl ?_
        refine R_pu (pu_move rfl) rfl ?_
        refine R_pu (pu_indexAddrB (m := i) (HB2.keptNo kk7) Tryd.underlying22 (by kernel_rfl) rfl rfl rfl rfl (by omega)) rfl ?_
        obtain ⟨n12_6, e_n12_6⟩ : ∃ q_, (d2)[i]? = some q_ := ⟨_, List.getElem?_eq_getElem (by omega)⟩
        have b_n12_6 : n12_6 < 256 := ((HB2.keptNo kk7)).lt e_n12_6
        refine R_pu (pu_loadB (HB2.keptNo kk7) (by kernel_rfl) rfl e_n12_6) rfl ?_
        refine R_pu (pu_indexAddrP (m := i) (s := 1) (o' := i) Tryd.underlying22 (by kernel_rfl) rfl rfl rfl (by omega) (by omega)) rfl ?_
        refine R_lo0 (lo_store f_dd_7 (by kernel_rfl) rfl rfl rfl (by rw [u8s_length, hdv.1]; omega)) ?_
        rintro _ w8 kf8
        obtain ⟨k8, f_dd_8⟩ := kf8
        replace f_dd_8 := Bk.eq f_dd_8 (u8s_set _ _ n12_6)
        replace f_dd_8 : Bk w8 dd (u8s (dv.set i n12_6)) 5 := f_dd_8
        have kk8 := kk7.trans k8 (fun i hi => .inr (hi ▸ (Nat.le_trans kk5.size N6.le)))
        refine R_nil ?_
        refine X_in_normal ?_
        refine X_then hK24 ?_
        refine C_region ?_
        refine R_pu (pu_move rfl) rfl ?_
        refine R_pu (pu_add (z := ((i + 1 : Nat) : Int)) rfl rfl (by rw [IntKind.wrap_i64]; omega)) rfl ?_
        refine R_pu (pu_assign rfl) rfl ?_
        refine R_nil ?_
        have f25 : Bk w8 p0_0 ([.slice A (l.length) (c), .int .i64 (ka), .int .i64 (nn), .slice A2 (d2.length) (c2)]) 46 := (f_p0_0_7.on k8 (Ne.symm ne_dd_p0_0))
        have f26 : Bk w8 p0_2 ([.int .i64 0, .int .i64 0, .int .u32 0]) 28 := (f_p0_2_7.on k8 (Ne.symm ne_dd_p0_2))
        have f27 : Bk w8 p2_9 ([.int .i64 ((q + 1 : Nat) : Int), .int .i64 ((n : Nat) : Int), .int .u32 5]) 28 := (f_p2_9_7.on k8 (Ne.symm ne_dd_p2_9))
        have f28 : Bk w8 p5_0 (u8s ([9])) 5 := (f_p5_0_7.on k8 (Ne.symm ne_dd_p5_0))
        refine X_round ((q * 1) - (i + 1)) [(1, .pointer (some ⟨p0_0, 0, none⟩)), (2, .slice none (0) (0)), (3, .pointer (some ⟨p0_2, 0, none⟩)), (4, .slice none (0) (0)), (6, .pointer (some ⟨p2_9, 0, none⟩)), (7, .slice (some ⟨p5_0, 0, none⟩) (1) (1)), (8, .slice (some ⟨dd, 0, none⟩) (q * 1) (q * 1)), (9, .int .i64 (((i + 1) : Nat) : Int))] (by omega) (Sub.cons rfl (Sub.cons rfl (Sub.cons rfl (Sub.cons rfl (Sub.cons rfl (Sub.cons rfl (Sub.cons rfl (Sub.cons rfl (Sub.nil _))))))))) ⟨i + 1, dv.set i n12_6, rfl, rfl, by omega, (by_set hdv b_n12_6), kk8, f25, f26, f27, f28, f_dd_8⟩
      · refine C_exit ?_
        refine X_then_exit (X_then_exit (X_in_eq ?_))
        refine X_then hK16 ?_
        refine C_seq (fun K29 hK29 => ?_)
        refine D_begin (fun W => Kp No w W ∧ Bk W p0_0 ([.slice A (l.length) (c), .int .i64 (ka), .int .i64 (nn), .slice A2 (d2.length) (c2)]) 46 ∧ Bk W p2_9 ([.int .i64 ((q + 1 : Nat) : Int), .int .i64 ((n : Nat) : Int), .int .u32 5]) 28 ∧ Bk W p5_0 (u8s ([9])) 5 ∧ Bk W dd (u8s dv) 5) 6 rfl (by kernel_rfl) ⟨kk7.drew, f_p0_0_7.draw, f_p2_9_7.draw, f_p5_0_7.draw, f_dd_7.draw⟩ ?_
        intro w9 k9 _
        have kk9 := kk7.then_ k9
        refine D_take 0 rfl (by kernel_rfl) (by kernel_rfl) (by kernel_rfl) (fun _ _ _ h => h) rfl (fun W hS => pu_move rfl) ?_
        refine D_take 1 rfl (by kernel_rfl) (by kernel_rfl) (by kernel_rfl) (fun _ _ _ h => h) rfl (fun W hS => pu_loadRow (len := 3) hS.2.2.1 (by kernel_rfl) (by kernel_rfl) rfl rfl) ?_
        refine D_take 2 rfl (by kernel_rfl) (by kernel_rfl) (by kernel_rfl) (fun _ _ _ h => h) rfl (fun W hS => pu_move rfl) ?_
        refine D_take 3 rfl (by kernel_rfl) (by kernel_rfl) (by kernel_rfl) (fun _ _ _ h => h) rfl (fun W hS => pu_assign rfl) ?_
        have f30 : Bk w9 p0_2 ([.int .i64 0, .int .i64 0, .int .u32 0]) 28 := (f_p0_2_7.no k9)
        refine D_one 4 (by kernel_rfl) (Nx_lo0 rfl (lo_storeRow (C := [.int .i64 ((q + 1 : Nat) : Int), .int .i64 ((n : Nat) : Int), .int .u32 5]) f30 (by kernel_rfl) rfl rfl (by intro u hu; simp at hu; rcases hu with rfl | rfl | rfl <;> rfl) rfl) ?_)
        rintro _ w10 kf10
        obtain ⟨k10, f_p0_2_10⟩ := kf10
        replace f_p0_2_10 : Bk w10 p0_2 ([.int .i64 ((q + 1 : Nat) : Int), .int .i64 ((n : Nat) : Int), .int .u32 5]) 28 := f_p0_2_10
        have kk10 := kk9.trans k10 (fun i hi => .inr (hi ▸ (Nat.le_trans kk1.size N2.le)))
        have f31 : Bk w10 p0_0 ([.slice A (l.length) (c), .int .i64 (ka), .int .i64 (nn), .slice A2 (d2.length) (c2)]) 46 := ((f_p0_0_7.no k9).on k10 (Ne.symm ne_p0_2_p0_0))
        have f32 : Bk w10 p2_9 ([.int .i64 ((q + 1 : Nat) : Int), .int .i64 ((n : Nat) : Int), .int .u32 5]) 28 := ((f_p2_9_7.no k9).on k10 ne_p2_9_p0_2)
        have f33 : Bk w10 p5_0 (u8s ([9])) 5 := ((f_p5_0_7.no k9).on k10 ne_p5_0_p0_2)
        have f34 : Bk w10 dd (u8s dv) 5 := ((f_dd_7.no k9).on k10 ne_dd_p0_2)
        refine ⟨⟨kk10, f31, f32, f33, f34⟩, ?_⟩
        refine D_take 5 rfl (by kernel_rfl) (by kernel_rfl) (by kernel_rfl) (fun _ _ _ h => h) rfl (fun W hS => pu_assign rfl) ?_
        refine D_done (by kernel_rfl) ?_
        refine X_then hK29 ?_
        refine C_ret ?_
        exact X_retTCT (len := 3) (.inl rfl) rfl rfl rfl f_p0_2_10 (by kernel_rfl) (by kernel_rfl) rfl rfl ⟨_, _, _, _, [9], dv, q, n, by rw [show ([9]).length = 1 from rfl, hdv.1], Od.ofBs (Bs.ofBk f33 (show By 1 [9] from by_lit _ (by decide))) (by simp) (Nat.le_of_eq (show By 1 [9] from by_lit _ (by decide)).1), by have := Od.ofBk f34 hdv; exact this, ⟨by omega, by omega, by omega, by omega⟩, by rw [show ([9]).length = 1 from rfl]; omega, by rw [show ([9]).length = 1 from rfl]; exact hdv.1, kk10⟩
    · refine R_pu (pu_false (pu_move rfl) g10_4) rfl ?_
      refine R_gno rfl rfl rfl rfl ?_
      refine R_gno rfl rfl rfl rfl ?_
      refine R_gno rfl rfl rfl rfl ?_
      refine R_gno rfl rfl rfl rfl ?_
      refine R_gno rfl rfl rfl rfl ?_
      refine R_pu (pu_pickf rfl rfl) rfl ?_
      refine R_nil ?_
      refine X_then hK23 ?_
      refine C_false rfl ?_
      refine C_exit ?_
      refine X_then_exit (X_then_exit (X_in_eq ?_))
      refine X_then hK16 ?_
      refine C_seq (fun K35 hK35 => ?_)
      refine D_begin (fun W => Kp No w W ∧ Bk W p0_0 ([.slice A (l.length) (c), .int .i64 (ka), .int .i64 (nn), .slice A2 (d2.length) (c2)]) 46 ∧ Bk W p2_9 ([.int .i64 ((q + 1 : Nat) : Int), .int .i64 ((n : Nat) : Int), .int .u32 5]) 28 ∧ Bk W p5_0 (u8s ([9])) 5 ∧ Bk W dd (u8s dv) 5) 6 rfl (by kernel_rfl) ⟨kk7.drew, f_p0_0_7.draw, f_p2_9_7.draw, f_p5_0_7.draw, f_dd_7.draw⟩ ?_
      intro w11 k11 _
      have kk11 := kk7.then_ k11
      refine D_take 0 rfl (by kernel_rfl) (by kernel_rfl) (by kernel_rfl) (fun _ _ _ h => h) rfl (fun W hS => pu_move rfl) ?_
      refine D_take 1 rfl (by kernel_rfl) (by kernel_rfl) (by kernel_rfl) (fun _ _ _ h => h) rfl (fun W hS => pu_loadRow (len := 3) hS.2.2.1 (by kernel_rfl) (by kernel_rfl) rfl rfl) ?_
      refine D_take 2 rfl (by kernel_rfl) (by kernel_rfl) (by kernel_rfl) (fun _ _ _ h => h) rfl (fun W hS => pu_move rfl) ?_
      refine D_take 3 rfl (by kernel_rfl) (by kernel_rfl) (by kernel_rfl) (fun _ _ _ h => h) rfl (fun W hS => pu_assign rfl) ?_
      have f36 : Bk w11 p0_2 ([.int .i64 0, .int .i64 0, .int .u32 0]) 28 := (f_p0_2_7.no k11)
      refine D_one 4 (by kernel_rfl) (Nx_lo0 rfl (lo_storeRow (C := [.int .i64 ((q + 1 : Nat) : Int), .int .i64 ((n : Nat) : Int), .int .u32 5]) f36 (by kernel_rfl) rfl rfl (by intro u hu; simp at hu; rcases hu with rfl | rfl | rfl <;> rfl) rfl) ?_)
      rintro _ w12 kf12
      obtain ⟨k12, f_p0_2_12⟩ := kf12
      replace f_p0_2_12 : Bk w12 p0_2 ([.int .i64 ((q + 1 : Nat) : Int), .int .i64 ((n : Nat) : Int), .int .u32 5]) 28 := f_p0_2_12
      have kk12 := kk11.trans k12 (fun i hi => .inr (hi ▸ (Nat.le_trans kk1.size N2.le)))
      have f37 : Bk w12 p0_0 ([.slice A (l.length) (c), .int .i64 (ka), .int .i64 (nn), .slice A2 (d2.length) (c2)]) 46 := ((f_p0_0_7.no k11).on k12 (Ne.symm ne_p0_2_p0_0))
      have f38 : Bk w12 p2_9 ([.int .i64 ((q + 1 : Nat) : Int), .int .i64 ((n : Nat) : Int), .int .u32 5]) 28 := ((f_p2_9_7.no k11).on k12 ne_p2_9_p0_2)
      have f39 : Bk w12 p5_0 (u8s ([9])) 5 := ((f_p5_0_7.no k11).on k12 ne_p5_0_p0_2)
      have f40 : Bk w12 dd (u8s dv) 5 := ((f_dd_7.no k11).on k12 ne_dd_p0_2)
      refine ⟨⟨kk12, f37, f38, f39, f40⟩, ?_⟩
      refine D_take 5 rfl (by kernel_rfl) (by kernel_rfl) (by kernel_rfl) (fun _ _ _ h => h) rfl (fun W hS => pu_assign rfl) ?_
      refine D_done (by kernel_rfl) ?_
      refine X_then hK35 ?_
      refine C_ret ?_
      exact X_retTCT (len := 3) (.inl rfl) rfl rfl rfl f_p0_2_12 (by kernel_rfl) (by kernel_rfl) rfl rfl ⟨_, _, _, _, [9], dv, q, n, by rw [show ([9]).length = 1 from rfl, hdv.1], Od.ofBs (Bs.ofBk f39 (show By 1 [9] from by_lit _ (by decide))) (by simp) (Nat.le_of_eq (show By 1 [9] from by_lit _ (by decide)).1), by have := Od.ofBk f40 hdv; exact this, ⟨by omega, by omega, by omega, by omega⟩, by rw [show ([9]).length = 1 from rfl]; omega, by rw [show ([9]).length = 1 from rfl]; exact hdv.1, kk12⟩
  · refine C_skip ?_
    refine X_then hK7 ?_
    refine C_seq (fun K41 hK41 => ?_)
    refine C_seq (fun K42 hK42 => ?_)
    refine C_region ?_
    refine R_pu (pu_move rfl) rfl ?_
    refine R_pu (pu_len Tryd.underlying22 rfl) rfl ?_
    refine R_pu (pu_gtr (p := l.length > 40) rfl rfl (by omega)) rfl ?_
    refine R_nil ?_
    refine X_then hK42 ?_
    refine C_dec rfl (fun h33 => ?_) (fun h33 => ?_)
    · refine C_region ?_
      refine R_pu (pu_move rfl) rfl ?_
      have HBt43 := Bs.take HB 40
      refine R_pu (pu_sliceHi (hi := 40) (s := 1) Tryd.underlying22 (by kernel_rfl) rfl rfl rfl (by have := hc; omega)) rfl ?_
      refine R_pu (pu_assign rfl) rfl ?_
      refine R_nil ?_
      refine X_then hK41 ?_
      refine C_seq (fun K44 hK44 => ?_)
      have hqm : q * 40 ≤ 240 := Nat.mul_le_mul (show q ≤ 6 by omega) (show 40 ≤ 40 by omega)
      refine C_region ?_
      refine R_pu (pu_move rfl) rfl ?_
      refine R_pu (pu_sub (z := ((q : Nat) : Int)) rfl rfl (by rw [IntKind.wrap_i64]; omega)) rfl ?_
      refine R_pu (pu_move rfl) rfl ?_
      refine R_pu (pu_len Tryd.underlying22 rfl) rfl ?_
      refine R_pu (pu_mul (z := ((q * 40 : Nat) : Int)) rfl rfl (by rw [IntKind.wrap_i64]; omega)) rfl ?_
      have f45 : Bk w4 p0_2 ([.int .i64 0, .int .i64 0, .int .u32 0]) 28 := ((f_p0_2_2.no k3).on k4 (Ne.symm ne_p2_9_p0_2))
      refine R_lo (lo_make (z := .int .u8 0) (bytes := 1) (ln := q * 40) (cp := q * 40) Tryd.underlying22 (by kernel_rfl) rfl rfl rfl rfl rfl (by omega) (by omega) (by omega)) rfl ?_
      rintro _ w13 ⟨dd, rfl, N13⟩
      have k13 := N13.kp
      have kk13 := kk4.then_ k13
      have ne_dd_p0_0 : dd ≠ p0_0 := Nat.ne_of_gt (Nat.lt_of_lt_of_le f6.lt N13.le)
      have ne_dd_p0_2 : dd ≠ p0_2 := Nat.ne_of_gt (Nat.lt_of_lt_of_le f45.lt N13.le)
      have ne_dd_p2_9 : dd ≠ p2_9 := Nat.ne_of_gt (Nat.lt_of_lt_of_le f_p2_9_4.lt N13.le)
      have f_dd_13 : Bk w13 dd (u8s (List.replicate (q * 40) 0)) 5 := by rw [u8s_rep]; exact N13.bk
      refine R_pu (pu_assign rfl) rfl ?_
      refine R_nil ?_
      refine X_then hK44 ?_
      refine C_seq (fun K46 hK46 => ?_)
      refine C_seq (fun K47 hK47 => ?_)
      refine C_region ?_
      refine R_pu (pu_assign rfl) rfl ?_
      refine R_nil ?_
      refine X_then hK47 ?_
      refine C_block ?_
      have f48 : Bk w13 p0_0 ([.slice A (l.length) (c), .int .i64 (ka), .int .i64 (nn), .slice A2 (d2.length) (c2)]) 46 := (f6.no k13)
      have f49 : Bk w13 p0_2 ([.int .i64 0, .int .i64 0, .int .u32 0]) 28 := (f45.no k13)
      have f50 : Bk w13 p2_9 ([.int .i64 ((q + 1 : Nat) : Int), .int .i64 ((n : Nat) : Int), .int .u32 5]) 28 := (f_p2_9_4.no k13)
      refine C_loop (fun m_ l_ wr => ∃ i : Nat, ∃ dv : List Nat, (m_ = (q * 40) - i) ∧ (l_ = [(1, .pointer (some ⟨p0_0, 0, none⟩)), (2, .slice none (0) (0)), (3, .pointer (some ⟨p0_2, 0, none⟩)), (4, .slice none (0) (0)), (6, .pointer (some ⟨p2_9, 0, none⟩)), (7, .slice A (40) (c)), (8, .slice (some ⟨dd, 0, none⟩) (q * 40) (q * 40)), (9, .int .i64 ((i : Nat) : Int))]) ∧ (i ≤ q * 40) ∧ (By (q * 40) dv) ∧ (Kp No w wr) ∧ (Bk wr p0_0 ([.slice A (l.length) (c), .int .i64 (ka), .int .i64 (nn), .slice A2 (d2.length) (c2)]) 46) ∧ (Bk wr p0_2 ([.int .i64 0, .int .i64 0, .int .u32 0]) 28) ∧ (Bk wr p2_9 ([.int .i64 ((q + 1 : Nat) : Int), .int .i64 ((n : Nat) : Int), .int .u32 5]) 28) ∧ (Bk wr dd (u8s dv) 5)) ((q * 40) - 0) [(1, .pointer (some ⟨p0_0, 0, none⟩)), (2, .slice none (0) (0)), (3, .pointer (some ⟨p0_2, 0, none⟩)), (4, .slice none (0) (0)), (6, .pointer (some ⟨p2_9, 0, none⟩)), (7, .slice A (40) (c)), (8, .slice (some ⟨dd, 0, none⟩) (q * 40) (q * 40)), (9, .int .i64 0)] (Sub.cons rfl (Sub.cons rfl (Sub.cons rfl (Sub.cons rfl (Sub.cons rfl (Sub.cons rfl (Sub.cons rfl (Sub.cons rfl (Sub.nil _))))))))) ⟨0, List.replicate (q * 40) 0, rfl, rfl, by omega, (rep_by (q * 40)), kk13, f48, f49, f50, Bk.eq f_dd_13 (congrArg u8s rfl)⟩ ?_
      rintro _ _ w14 ⟨i, dv, rfl, rfl, hi, hdv, kk14, f_p0_0_14, f_p0_2_14, f_p2_9_14, f_dd_14⟩
      refine C_seq (fun K51 hK51 => ?_)
      refine C_seq (fun K52 hK52 => ?_)
      refine C_region ?_
      refine R_pu (pu_move rfl) rfl ?_
      refine R_pu (pu_move rfl) rfl ?_
      refine R_pu (pu_len Tryd.underlying22 rfl) rfl ?_
      refine R_pu (pu_lss (p := i < (q * 40)) rfl rfl (by omega)) rfl ?_
      by_cases g10_4 : i < (q * 40)
      · refine R_pu (pu_true (pu_move rfl) g10_4) rfl ?_
        refine R_gpu rfl rfl (pu_move rfl) rfl ?_
        refine R_gpu rfl rfl (pu_fieldAddr (off := 3) (o' := 3) (by kernel_rfl) rfl rfl) rfl ?_
        refine R_gpu rfl rfl (pu_loadK f_p0_0_14 (by kernel_rfl) rfl rfl) rfl ?_
        refine R_gpu rfl rfl (pu_len Tryd.underlying22 rfl) rfl ?_
        refine R_gpu rfl rfl (pu_lss (p := i < d2.length) rfl rfl (by omega)) rfl ?_
        refine R_pu (pu_pickt rfl rfl) rfl ?_
        refine R_nil ?_
        refine X_then hK52 ?_
        refine C_dec rfl (fun h52 => ?_) (fun h52 => ?_)
        · refine C_skip ?_
          refine X_then hK51 ?_
          refine C_seq (fun K53 hK53 => ?_)
          refine C_block ?_
          refine C_region ?_
          refine R_pu (pu_move rfl) rfl ?_
          refine R_pu (pu_move rfl) rfl ?_
          refine R_pu (pu_fieldAddr (off := 3) (o' := 3) (by kernel_rfl) rfl rfl) rfl ?_
          refine R_pu (pu_loadK f_p0_0_14 (by kernel_rfl) rfl rfl) rfl ?_
          refine R_pu (pu_move rfl) rfl ?_
          refine R_pu (pu_indexAddrB (m := i) (HB2.keptNo kk14) Tryd.underlying22 (by kernel_rfl) rfl rfl rfl rfl (by omega)) rfl ?_
          obtain ⟨n12_6, e_n12_6⟩ : ∃ q_, (d2)[i]? = some q_ := ⟨_, List.getElem?_eq_getElem (by omega)⟩
          have b_n12_6 : n12_6 < 256 := ((HB2.keptNo kk14)).lt e_n12_6
          refine R_pu (pu_loadB (HB2.keptNo kk14) (by kernel_rfl) rfl e_n12_6) rfl ?_
          refine R_pu (pu_indexAddrP (m := i) (s := 1) (o' := i) Tryd.underlying22 (by kernel_rfl) rfl rfl rfl (by omega) (by omega)) rfl ?_
          refine R_lo0 (lo_store f_dd_14 (by kernel_rfl) rfl rfl rfl (by rw [u8s_length, hdv.1]; omega)) ?_
          rintro _ w15 kf15
          obtain ⟨k15, f_dd_15⟩ := kf15
          replace f_dd_15 := Bk.eq f_dd_15 (u8s_set _ _ n12_6)
          replace f_dd_15 : Bk w15 dd (u8s (dv.set i n12_6)) 5 := f_dd_15
          have kk15 := kk14.trans k15 (fun i hi => .inr (hi ▸ (Nat.le_trans kk4.size N13.le)))
          refine R_nil ?_
          refine X_in_normal ?_
          refine X_then hK53 ?_
          refine C_region ?_
          refine R_pu (pu_move rfl) rfl ?_
          refine R_pu (pu_add (z := ((i + 1 : Nat) : Int)) rfl rfl (by rw [IntKind.wrap_i64]; omega)) rfl ?_
          refine R_pu (pu_assign rfl) rfl ?_
          refine R_nil ?_
          have f54 : Bk w15 p0_0 ([.slice A (l.length) (c), .int .i64 (ka), .int .i64 (nn), .slice A2 (d2.length) (c2)]) 46 := (f_p0_0_14.on k15 (Ne.symm ne_dd_p0_0))
          have f55 : Bk w15 p0_2 ([.int .i64 0, .int .i64 0, .int .u32 0]) 28 := (f_p0_2_14.on k15 (Ne.symm ne_dd_p0_2))
          have f56 : Bk w15 p2_9 ([.int .i64 ((q + 1 : Nat) : Int), .int .i64 ((n : Nat) : Int), .int .u32 5]) 28 := (f_p2_9_14.on k15 (Ne.symm ne_dd_p2_9))
          refine X_round ((q * 40) - (i + 1)) [(1, .pointer (some ⟨p0_0, 0, none⟩)), (2, .slice none (0) (0)), (3, .pointer (some ⟨p0_2, 0, none⟩)), (4, .slice none (0) (0)), (6, .pointer (some ⟨p2_9, 0, none⟩)), (7, .slice A (40) (c)), (8, .slice (some ⟨dd, 0, none⟩) (q * 40) (q * 40)), (9, .int .i64 (((i + 1) : Nat) : Int))] (by omega) (Sub.cons rfl (Sub.cons rfl (Sub.cons rfl (Sub.cons rfl (Sub.cons rfl (Sub.cons rfl (Sub.cons rfl (Sub.cons rfl (Sub.nil _))))))))) ⟨i + 1, dv.set i n12_6, rfl, rfl, by omega, (by_set hdv b_n12_6), kk15, f54, f55, f56, f_dd_15⟩
        · refine C_exit ?_
          refine X_then_exit (X_then_exit (X_in_eq ?_))
          refine X_then hK46 ?_
          refine C_seq (fun K57 hK57 => ?_)
          refine D_begin (fun W => Kp No w W ∧ Bk W p0_0 ([.slice A (l.length) (c), .int .i64 (ka), .int .i64 (nn), .slice A2 (d2.length) (c2)]) 46 ∧ Bk W p2_9 ([.int .i64 ((q + 1 : Nat) : Int), .int .i64 ((n : Nat) : Int), .int .u32 5]) 28 ∧ Bk W dd (u8s dv) 5) 6 rfl (by kernel_rfl) ⟨kk14.drew, f_p0_0_14.draw, f_p2_9_14.draw, f_dd_14.draw⟩ ?_
          intro w16 k16 _
          have kk16 := kk14.then_ k16
          refine D_take 0 rfl (by kernel_rfl) (by kernel_rfl) (by kernel_rfl) (fun _ _ _ h => h) rfl (fun W hS => pu_move rfl) ?_
          refine D_take 1 rfl (by kernel_rfl) (by kernel_rfl) (by kernel_rfl) (fun _ _ _ h => h) rfl (fun W hS => pu_loadRow (len := 3) hS.2.2.1 (by kernel_rfl) (by kernel_rfl) rfl rfl) ?_
          refine D_take 2 rfl (by kernel_rfl) (by kernel_rfl) (by kernel_rfl) (fun _ _ _ h => h) rfl (fun W hS => pu_move rfl) ?_
          refine D_take 3 rfl (by kernel_rfl) (by kernel_rfl) (by kernel_rfl) (fun _ _ _ h => h) rfl (fun W hS => pu_assign rfl) ?_
          have f58 : Bk w16 p0_2 ([.int .i64 0, .int .i64 0, .int .u32 0]) 28 := (f_p0_2_14.no k16)
          refine D_one 4 (by kernel_rfl) (Nx_lo0 rfl (lo_storeRow (C := [.int .i64 ((q + 1 : Nat) : Int), .int .i64 ((n : Nat) : Int), .int .u32 5]) f58 (by kernel_rfl) rfl rfl (by intro u hu; simp at hu; rcases hu with rfl | rfl | rfl <;> rfl) rfl) ?_)
          rintro _ w17 kf17
          obtain ⟨k17, f_p0_2_17⟩ := kf17
          replace f_p0_2_17 : Bk w17 p0_2 ([.int .i64 ((q + 1 : Nat) : Int), .int .i64 ((n : Nat) : Int), .int .u32 5]) 28 := f_p0_2_17
          have kk17 := kk16.trans k17 (fun i hi => .inr (hi ▸ (Nat.le_trans kk1.size N2.le)))
          have f59 : Bk w17 p0_0 ([.slice A (l.length) (c), .int .i64 (ka), .int .i64 (nn), .slice A2 (d2.length) (c2)]) 46 := ((f_p0_0_14.no k16).on k17 (Ne.symm ne_p0_2_p0_0))
          have f60 : Bk w17 p2_9 ([.int .i64 ((q + 1 : Nat) : Int), .int .i64 ((n : Nat) : Int), .int .u32 5]) 28 := ((f_p2_9_14.no k16).on k17 ne_p2_9_p0_2)
          have f61 : Bk w17 dd (u8s dv) 5 := ((f_dd_14.no k16).on k17 ne_dd_p0_2)
          refine ⟨⟨kk17, f59, f60, f61⟩, ?_⟩
          refine D_take 5 rfl (by kernel_rfl) (by kernel_rfl) (by kernel_rfl) (fun _ _ _ h => h) rfl (fun W hS => pu_assign rfl) ?_
          refine D_done (by kernel_rfl) ?_
          refine X_then hK57 ?_
          refine C_ret ?_
          exact X_retTCT (len := 3) (.inl rfl) rfl rfl rfl f_p0_2_17 (by kernel_rfl) (by kernel_rfl) rfl rfl ⟨_, _, _, _, l.take 40, dv, q, n, by rw [show (l.take 40).length = 40 from (by rw [List.length_take]; omega), hdv.1], Od.ofBs (HBt43.keptNo kk17) (fun e => by have := congrArg List.length e; rw [List.length_take, List.length_nil] at this; omega) (by rw [(show (l.take 40).length = 40 by rw [List.length_take]; omega)]; have := hc; omega), by have := Od.ofBk f61 hdv; exact this, ⟨by omega, by omega, by omega, by omega⟩, by rw [show (l.take 40).length = 40 from (by rw [List.length_take]; omega)]; omega, by rw [show (l.take 40).length = 40 from (by rw [List.length_take]; omega)]; exact hdv.1, kk17⟩
      · refine R_pu (pu_false (pu_move rfl) g10_4) rfl ?_
        refine R_gno rfl rfl rfl rfl ?_
        refine R_gno rfl rfl rfl rfl ?_
        refine R_gno rfl rfl rfl rfl ?_
        refine R_gno rfl rfl rfl rfl ?_
        refine R_gno rfl rfl rfl rfl ?_
        refine R_pu (pu_pickf rfl rfl) rfl ?_
        refine R_nil ?_
        refine X_then hK52 ?_
        refine C_false rfl ?_
        refine C_exit ?_
        refine X_then_exit (X_then_exit (X_in_eq ?_))
        refine X_then hK46 ?_
        refine C_seq (fun K62 hK62 => ?_)
        refine D_begin (fun W => Kp No w W ∧ Bk W p0_0 ([.slice A (l.length) (c), .int .i64 (ka), .int .i64 (nn), .slice A2 (d2.length) (c2)]) 46 ∧ Bk W p2_9 ([.int .i64 ((q + 1 : Nat) : Int), .int .i64 ((n : Nat) : Int), .int .u32 5]) 28 ∧ Bk W dd (u8s dv) 5) 6 rfl (by kernel_rfl) ⟨kk14.drew, f_p0_0_14.draw, f_p2_9_14.draw, f_dd_14.draw⟩ ?_
        intro w18 k18 _
        have kk18 := kk14.then_ k18
        refine D_take 0 rfl (by kernel_rfl) (by kernel_rfl) (by kernel_rfl) (fun _ _ _ h => h) rfl (fun W hS => pu_move rfl) ?_
        refine D_take 1 rfl (by kernel_rfl) (by kernel_rfl) (by kernel_rfl) (fun _ _ _ h => h) rfl (fun W hS => pu_loadRow (len := 3) hS.2.2.1 (by kernel_rfl) (by kernel_rfl) rfl rfl) ?_
        refine D_take 2 rfl (by kernel_rfl) (by kernel_rfl) (by kernel_rfl) (fun _ _ _ h => h) rfl (fun W hS => pu_move rfl) ?_
        refine D_take 3 rfl (by kernel_rfl) (by kernel_rfl) (by kernel_rfl) (fun _ _ _ h => h) rfl (fun W hS => pu_assign rfl) ?_
        have f63 : Bk w18 p0_2 ([.int .i64 0, .int .i64 0, .int .u32 0]) 28 := (f_p0_2_14.no k18)
        refine D_one 4 (by kernel_rfl) (Nx_lo0 rfl (lo_storeRow (C := [.int .i64 ((q + 1 : Nat) : Int), .int .i64 ((n : Nat) : Int), .int .u32 5]) f63 (by kernel_rfl) rfl rfl (by intro u hu; simp at hu; rcases hu with rfl | rfl | rfl <;> rfl) rfl) ?_)
        rintro _ w19 kf19
        obtain ⟨k19, f_p0_2_19⟩ := kf19
        replace f_p0_2_19 : Bk w19 p0_2 ([.int .i64 ((q + 1 : Nat) : Int), .int .i64 ((n : Nat) : Int), .int .u32 5]) 28 := f_p0_2_19
        have kk19 := kk18.trans k19 (fun i hi => .inr (hi ▸ (Nat.le_trans kk1.size N2.le)))
        have f64 : Bk w19 p0_0 ([.slice A (l.length) (c), .int .i64 (ka), .int .i64 (nn), .slice A2 (d2.length) (c2)]) 46 := ((f_p0_0_14.no k18).on k19 (Ne.symm ne_p0_2_p0_0))
        have f65 : Bk w19 p2_9 ([.int .i64 ((q + 1 : Nat) : Int), .int .i64 ((n : Nat) : Int), .int .u32 5]) 28 := ((f_p2_9_14.no k18).on k19 ne_p2_9_p0_2)
        have f66 : Bk w19 dd (u8s dv) 5 := ((f_dd_14.no k18).on k19 ne_dd_p0_2)
        refine ⟨⟨kk19, f64, f65, f66⟩, ?_⟩
        refine D_take 5 rfl (by kernel_rfl) (by kernel_rfl) (by kernel_rfl) (fun _ _ _ h => h) rfl (fun W hS => pu_assign rfl) ?_
        refine D_done (by kernel_rfl) ?_
        refine X_then hK62 ?_
        refine C_ret ?_
        exact X_retTCT (len := 3) (.inl rfl) rfl rfl rfl f_p0_2_19 (by kernel_rfl) (by kernel_rfl) rfl rfl ⟨_, _, _, _, l.take 40, dv, q, n, by rw [show (l.take 40).length = 40 from (by rw [List.length_take]; omega), hdv.1], Od.ofBs (HBt43.keptNo kk19) (fun e => by have := congrArg List.length e; rw [List.length_take, List.length_nil] at this; omega) (by rw [(show (l.take 40).length = 40 by rw [List.length_take]; omega)]; have := hc; omega), by have := Od.ofBk f66 hdv; exact this, ⟨by omega, by omega, by omega, by omega⟩, by rw [show (l.take 40).length = 40 from (by rw [List.length_take]; omega)]; omega, by rw [show (l.take 40).length = 40 from (by rw [List.length_take]; omega)]; exact hdv.1, kk19⟩
    · refine C_skip ?_
      refine X_then hK41 ?_
      refine C_seq (fun K67 hK67 => ?_)
      have hqm : q * l.length ≤ 240 := Nat.mul_le_mul (show q ≤ 6 by omega) (show l.length ≤ 40 by omega)
      refine C_region ?_
      refine R_pu (pu_move rfl) rfl ?_
      refine R_pu (pu_sub (z := ((q : Nat) : Int)) rfl rfl (by rw [IntKind.wrap_i64]; omega)) rfl ?_
      refine R_pu (pu_move rfl) rfl ?_
      refine R_pu (pu_len Tryd.underlying22 rfl) rfl ?_
      refine R_pu (pu_mul (z := ((q * l.length : Nat) : Int)) rfl rfl (mul_i64 (by omega))) rfl ?_
      have f68 : Bk w4 p0_2 ([.int .i64 0, .int .i64 0, .int .u32 0]) 28 := ((f_p0_2_2.no k3).on k4 (Ne.symm ne_p2_9_p0_2))
      refine R_lo (lo_make (z := .int .u8 0) (bytes := 1) (ln := q * l.length) (cp := q * l.length) Tryd.underlying22 (by kernel_rfl) rfl rfl rfl rfl rfl (by omega) (by omega) (by omega)) rfl ?_
      rintro _ w20 ⟨dd, rfl, N20⟩
      have k20 := N20.kp
      have kk20 := kk4.then_ k20
      have ne_dd_p0_0 : dd ≠ p0_0 := Nat.ne_of_gt (Nat.lt_of_lt_of_le f6.lt N20.le)
      have ne_dd_p0_2 : dd ≠ p0_2 := Nat.ne_of_gt (Nat.lt_of_lt_of_le f68.lt N20.le)
      have ne_dd_p2_9 : dd ≠ p2_9 := Nat.ne_of_gt (Nat.lt_of_lt_of_le f_p2_9_4.lt N20.le)
      have f_dd_20 : Bk w20 dd (u8s (List.replicate (q * l.length) 0)) 5 := by rw [u8s_rep]; exact N20.bk
      refine R_pu (pu_assign rfl) rfl ?_
      refine R_nil ?_
      refine X_then hK67 ?_
      refine C_seq (fun K69 hK69 => ?_)
      refine C_seq (fun K70 hK70 => ?_)
      refine C_region ?_
      refine R_pu (pu_assign rfl) rfl ?_
      refine R_nil ?_
      refine X_then hK70 ?_
      refine C_block ?_
      have f71 : Bk w20 p0_0 ([.slice A (l.length) (c), .int .i64 (ka), .int .i64 (nn), .slice A2 (d2.length) (c2)]) 46 := (f6.no k20)
      have f72 : Bk w20 p0_2 ([.int .i64 0, .int .i64 0, .int .u32 0]) 28 := (f68.no k20)
      have f73 : Bk w20 p2_9 ([.int .i64 ((q + 1 : Nat) : Int), .int .i64 ((n : Nat) : Int), .int .u32 5]) 28 := (f_p2_9_4.no k20)
      refine C_loop (fun m_ l_ wr => ∃ i : Nat, ∃ dv : List Nat, (m_ = (q * l.length) - i) ∧ (l_ = [(1, .pointer (some ⟨p0_0, 0, none⟩)), (2, .slice none (0) (0)), (3, .pointer (some ⟨p0_2, 0, none⟩)), (4, .slice none (0) (0)), (6, .pointer (some ⟨p2_9, 0, none⟩)), (7, .slice A (l.length) (c)), (8, .slice (some ⟨dd, 0, none⟩) (q * l.length) (q * l.length)), (9, .int .i64 ((i : Nat) : Int))]) ∧ (i ≤ q * l.length) ∧ (By (q * l.length) dv) ∧ (Kp No w wr) ∧ (Bk wr p0_0 ([.slice A (l.length) (c), .int .i64 (ka), .int .i64 (nn), .slice A2 (d2.length) (c2)]) 46) ∧ (Bk wr p0_2 ([.int .i64 0, .int .i64 0, .int .u32 0]) 28) ∧ (Bk wr p2_9 ([.int .i64 ((q + 1 : Nat) : Int), .int .i64 ((n : Nat) : Int), .int .u32 5]) 28) ∧ (Bk wr dd (u8s dv) 5)) ((q * l.length) - 0) [(1, .pointer (some ⟨p0_0, 0, none⟩)), (2, .slice none (0) (0)), (3, .pointer (some ⟨p0_2, 0, none⟩)), (4, .slice none (0) (0)), (6, .pointer (some ⟨p2_9, 0, none⟩)), (7, .slice A (l.length) (c)), (8, .slice (some ⟨dd, 0, none⟩) (q * l.length) (q * l.length)), (9, .int .i64 0)] (Sub.cons rfl (Sub.cons rfl (Sub.cons rfl (Sub.cons rfl (Sub.cons rfl (Sub.cons rfl (Sub.cons rfl (Sub.cons rfl (Sub.nil _))))))))) ⟨0, List.replicate (q * l.length) 0, rfl, rfl, by omega, (rep_by (q * l.length)), kk20, f71, f72, f73, Bk.eq f_dd_20 (congrArg u8s rfl)⟩ ?_
      rintro _ _ w21 ⟨i, dv, rfl, rfl, hi, hdv, kk21, f_p0_0_21, f_p0_2_21, f_p2_9_21, f_dd_21⟩
      refine C_seq (fun K74 hK74 => ?_)
      refine C_seq (fun K75 hK75 => ?_)
      refine C_region ?_
      refine R_pu (pu_move rfl) rfl ?_
      refine R_pu (pu_move rfl) rfl ?_
      refine R_pu (pu_len Tryd.underlying22 rfl) rfl ?_
      refine R_pu (pu_lss (p := i < (q * l.length)) rfl rfl (by omega)) rfl ?_
      by_cases g10_4 : i < (q * l.length)
      · refine R_pu (pu_true (pu_move rfl) g10_4) rfl ?_
        refine R_gpu rfl rfl (pu_move rfl) rfl ?_
        refine R_gpu rfl rfl (pu_fieldAddr (off := 3) (o' := 3) (by kernel_rfl) rfl rfl) rfl ?_
        refine R_gpu rfl rfl (pu_loadK f_p0_0_21 (by kernel_rfl) rfl rfl) rfl ?_
        refine R_gpu rfl rfl (pu_len Tryd.underlying22 rfl) rfl ?_
        refine R_gpu rfl rfl (pu_lss (p := i < d2.length) rfl rfl (by omega)) rfl ?_
        refine R_pu (pu_pickt rfl rfl) rfl ?_
        refine R_nil ?_
        refine X_then hK75 ?_
        refine C_dec rfl (fun h52 => ?_) (fun h52 => ?_)
        · refine C_skip ?_
          refine X_then hK74 ?_
          refine C_seq (fun K76 hK76 => ?_)
          refine C_block ?_
          refine C_region ?_
          refine R_pu (pu_move rfl) rfl ?_
          refine R_pu (pu_move rfl) rfl ?_
          refine R_pu (pu_fieldAddr (off := 3) (o' := 3) (by kernel_rfl) rfl rfl) rfl ?_
          refine R_pu (pu_loadK f_p0_0_21 (by kernel_rfl) rfl rfl) rfl ?_
          refine R_pu (pu_move rfl) rfl ?_
          refine R_pu (pu_indexAddrB (m := i) (HB2.keptNo kk21) Tryd.underlying22 (by kernel_rfl) rfl rfl rfl rfl (by omega)) rfl ?_
          obtain ⟨n12_6, e_n12_6⟩ : ∃ q_, (d2)[i]? = some q_ := ⟨_, List.getElem?_eq_getElem (by omega)⟩
          have b_n12_6 : n12_6 < 256 := ((HB2.keptNo kk21)).lt e_n12_6
          refine R_pu (pu_loadB (HB2.keptNo kk21) (by kernel_rfl) rfl e_n12_6) rfl ?_
          refine R_pu (pu_indexAddrP (m := i) (s := 1) (o' := i) Tryd.underlying22 (by kernel_rfl) rfl rfl rfl (by omega) (by omega)) rfl ?_
          refine R_lo0 (lo_store f_dd_21 (by kernel_rfl) rfl rfl rfl (by rw [u8s_length, hdv.1]; omega)) ?_
          rintro _ w22 kf22
          obtain ⟨k22, f_dd_22⟩ := kf22
          replace f_dd_22 := Bk.eq f_dd_22 (u8s_set _ _ n12_6)
          replace f_dd_22 : Bk w22 dd (u8s (dv.set i n12_6)) 5 := f_dd_22
          have kk22 := kk21.trans k22 (fun i hi => .inr (hi ▸ (Nat.le_trans kk4.size N20.le)))
          refine R_nil ?_
          refine X_in_normal ?_
          refine X_then hK76 ?_
          refine C_region ?_
          refine R_pu (pu_move rfl) rfl ?_
          refine R_pu (pu_add (z := ((i + 1 : Nat) : Int)) rfl rfl (by rw [IntKind.wrap_i64]; omega)) rfl ?_
          refine R_pu (pu_assign rfl) rfl ?_
          refine R_nil ?_
          have f77 : Bk w22 p0_0 ([.slice A (l.length) (c), .int .i64 (ka), .int .i64 (nn), .slice A2 (d2.length) (c2)]) 46 := (f_p0_0_21.on k22 (Ne.symm ne_dd_p0_0))
          have f78 : Bk w22 p0_2 ([.int .i64 0, .int .i64 0, .int .u32 0]) 28 := (f_p0_2_21.on k22 (Ne.symm ne_dd_p0_2))
          have f79 : Bk w22 p2_9 ([.int .i64 ((q + 1 : Nat) : Int), .int .i64 ((n : Nat) : Int), .int .u32 5]) 28 := (f_p2_9_21.on k22 (Ne.symm ne_dd_p2_9))
          refine X_round ((q * l.length) - (i + 1)) [(1, .pointer (some ⟨p0_0, 0, none⟩)), (2, .slice none (0) (0)), (3, .pointer (some ⟨p0_2, 0, none⟩)), (4, .slice none (0) (0)), (6, .pointer (some ⟨p2_9, 0, none⟩)), (7, .slice A (l.length) (c)), (8, .slice (some ⟨dd, 0, none⟩) (q * l.length) (q * l.length)), (9, .int .i64 (((i + 1) : Nat) : Int))] (by omega) (Sub.cons rfl (Sub.cons rfl (Sub.cons rfl (Sub.cons rfl (Sub.cons rfl (Sub.cons rfl (Sub.cons rfl (Sub.cons rfl (Sub.nil _))))))))) ⟨i + 1, dv.set i n12_6, rfl, rfl, by omega, (by_set hdv b_n12_6), kk22, f77, f78, f79, f_dd_22⟩
        · refine C_exit ?_
          refine X_then_exit (X_then_exit (X_in_eq ?_))
          refine X_then hK69 ?_
          refine C_seq (fun K80 hK80 => ?_)
          refine D_begin (fun W => Kp No w W ∧ Bk W p0_0 ([.slice A (l.length) (c), .int .i64 (ka), .int .i64 (nn), .slice A2 (d2.length) (c2)]) 46 ∧ Bk W p2_9 ([.int .i64 ((q + 1 : Nat) : Int), .int .i64 ((n : Nat) : Int), .int .u32 5]) 28 ∧ Bk W dd (u8s dv) 5) 6 rfl (by kernel_rfl) ⟨kk21.drew, f_p0_0_21.draw, f_p2_9_21.draw, f_dd_21.draw⟩ ?_
          intro w23 k23 _
          have kk23 := kk21.then_ k23
          refine D_take 0 rfl (by kernel_rfl) (by kernel_rfl) (by kernel_rfl) (fun _ _ _ h => h) rfl (fun W hS => pu_move rfl) ?_
          refine D_take 1 rfl (by kernel_rfl) (by kernel_rfl) (by kernel_rfl) (fun _ _ _ h => h) rfl (fun W hS => pu_loadRow (len := 3) hS.2.2.1 (by kernel_rfl) (by kernel_rfl) rfl rfl) ?_
          refine D_take 2 rfl (by kernel_rfl) (by kernel_rfl) (by kernel_rfl) (fun _ _ _ h => h) rfl (fun W hS => pu_move rfl) ?_
          refine D_take 3 rfl (by kernel_rfl) (by kernel_rfl) (by kernel_rfl) (fun _ _ _ h => h) rfl (fun W hS => pu_assign rfl) ?_
          have f81 : Bk w23 p0_2 ([.int .i64 0, .int .i64 0, .int .u32 0]) 28 := (f_p0_2_21.no k23)
          refine D_one 4 (by kernel_rfl) (Nx_lo0 rfl (lo_storeRow (C := [.int .i64 ((q + 1 : Nat) : Int), .int .i64 ((n : Nat) : Int), .int .u32 5]) f81 (by kernel_rfl) rfl rfl (by intro u hu; simp at hu; rcases hu with rfl | rfl | rfl <;> rfl) rfl) ?_)
          rintro _ w24 kf24
          obtain ⟨k24, f_p0_2_24⟩ := kf24
          replace f_p0_2_24 : Bk w24 p0_2 ([.int .i64 ((q + 1 : Nat) : Int), .int .i64 ((n : Nat) : Int), .int .u32 5]) 28 := f_p0_2_24
          have kk24 := kk23.trans k24 (fun i hi => .inr (hi ▸ (Nat.le_trans kk1.size N2.le)))
          have f82 : Bk w24 p0_0 ([.slice A (l.length) (c), .int .i64 (ka), .int .i64 (nn), .slice A2 (d2.length) (c2)]) 46 := ((f_p0_0_21.no k23).on k24 (Ne.symm ne_p0_2_p0_0))
          have f83 : Bk w24 p2_9 ([.int .i64 ((q + 1 : Nat) : Int), .int .i64 ((n : Nat) : Int), .int .u32 5]) 28 := ((f_p2_9_21.no k23).on k24 ne_p2_9_p0_2)
          have f84 : Bk w24 dd (u8s dv) 5 := ((f_dd_21.no k23).on k24 ne_dd_p0_2)
          refine ⟨⟨kk24, f82, f83, f84⟩, ?_⟩
          refine D_take 5 rfl (by kernel_rfl) (by kernel_rfl) (by kernel_rfl) (fun _ _ _ h => h) rfl (fun W hS => pu_assign rfl) ?_
          refine D_done (by kernel_rfl) ?_
          refine X_then hK80 ?_
          refine C_ret ?_
          exact X_retTCT (len := 3) (.inl rfl) rfl rfl rfl f_p0_2_24 (by kernel_rfl) (by kernel_rfl) rfl rfl ⟨_, _, _, _, l, dv, q, n, by rw [show (l).length = l.length from rfl, hdv.1], Od.ofBs (HB.keptNo kk24) (fun e => by have := congrArg List.length e; rw [List.length_nil] at this; omega) hc, by have := Od.ofBk f84 hdv; exact this, ⟨by omega, by omega, by omega, by omega⟩, by rw [show (l).length = l.length from rfl]; omega, by rw [show (l).length = l.length from rfl]; exact hdv.1, kk24⟩
      · refine R_pu (pu_false (pu_move rfl) g10_4) rfl ?_
        refine R_gno rfl rfl rfl rfl ?_
        refine R_gno rfl rfl rfl rfl ?_
        refine R_gno rfl rfl rfl rfl ?_
        refine R_gno rfl rfl rfl rfl ?_
        refine R_gno rfl rfl rfl rfl ?_
        refine R_pu (pu_pickf rfl rfl) rfl ?_
        refine R_nil ?_
        refine X_then hK75 ?_
        refine C_false rfl ?_
        refine C_exit ?_
        refine X_then_exit (X_then_exit (X_in_eq ?_))
        refine X_then hK69 ?_
        refine C_seq (fun K85 hK85 => ?_)
        refine D_begin (fun W => Kp No w W ∧ Bk W p0_0 ([.slice A (l.length) (c), .int .i64 (ka), .int .i64 (nn), .slice A2 (d2.length) (c2)]) 46 ∧ Bk W p2_9 ([.int .i64 ((q + 1 : Nat) : Int), .int .i64 ((n : Nat) : Int), .int .u32 5]) 28 ∧ Bk W dd (u8s dv) 5) 6 rfl (by kernel_rfl) ⟨kk21.drew, f_p0_0_21.draw, f_p2_9_21.draw, f_dd_21.draw⟩ ?_
        intro w25 k25 _
        have kk25 := kk21.then_ k25
        refine D_take 0 rfl (by kernel_rfl) (by kernel_rfl) (by kernel_rfl) (fun _ _ _ h => h) rfl (fun W hS => pu_move rfl) ?_
        refine D_take 1 rfl (by kernel_rfl) (by kernel_rfl) (by kernel_rfl) (fun _ _ _ h => h) rfl (fun W hS => pu_loadRow (len := 3) hS.2.2.1 (by kernel_rfl) (by kernel_rfl) rfl rfl) ?_
        refine D_take 2 rfl (by kernel_rfl) (by kernel_rfl) (by kernel_rfl) (fun _ _ _ h => h) rfl (fun W hS => pu_move rfl) ?_
        refine D_take 3 rfl (by kernel_rfl) (by kernel_rfl) (by kernel_rfl) (fun _ _ _ h => h) rfl (fun W hS => pu_assign rfl) ?_
        have f86 : Bk w25 p0_2 ([.int .i64 0, .int .i64 0, .int .u32 0]) 28 := (f_p0_2_21.no k25)
        refine D_one 4 (by kernel_rfl) (Nx_lo0 rfl (lo_storeRow (C := [.int .i64 ((q + 1 : Nat) : Int), .int .i64 ((n : Nat) : Int), .int .u32 5]) f86 (by kernel_rfl) rfl rfl (by intro u hu; simp at hu; rcases hu with rfl | rfl | rfl <;> rfl) rfl) ?_)
        rintro _ w26 kf26
        obtain ⟨k26, f_p0_2_26⟩ := kf26
        replace f_p0_2_26 : Bk w26 p0_2 ([.int .i64 ((q + 1 : Nat) : Int), .int .i64 ((n : Nat) : Int), .int .u32 5]) 28 := f_p0_2_26
        have kk26 := kk25.trans k26 (fun i hi => .inr (hi ▸ (Nat.le_trans kk1.size N2.le)))
        have f87 : Bk w26 p0_0 ([.slice A (l.length) (c), .int .i64 (ka), .int .i64 (nn), .slice A2 (d2.length) (c2)]) 46 := ((f_p0_0_21.no k25).on k26 (Ne.symm ne_p0_2_p0_0))
        have f88 : Bk w26 p2_9 ([.int .i64 ((q + 1 : Nat) : Int), .int .i64 ((n : Nat) : Int), .int .u32 5]) 28 := ((f_p2_9_21.no k25).on k26 ne_p2_9_p0_2)
        have f89 : Bk w26 dd (u8s dv) 5 := ((f_dd_21.no k25).on k26 ne_dd_p0_2)
        refine ⟨⟨kk26, f87, f88, f89⟩, ?_⟩
        refine D_take 5 rfl (by kernel_rfl) (by kernel_rfl) (by kernel_rfl) (fun _ _ _ h => h) rfl (fun W hS => pu_assign rfl) ?_
        refine D_done (by kernel_rfl) ?_
        refine X_then hK85 ?_
        refine C_ret ?_
        exact X_retTCT (len := 3) (.inl rfl) rfl rfl rfl f_p0_2_26 (by kernel_rfl) (by kernel_rfl) rfl rfl ⟨_, _, _, _, l, dv, q, n, by rw [show (l).length = l.length from rfl, hdv.1], Od.ofBs (HB.keptNo kk26) (fun e => by have := congrArg List.length e; rw [List.length_nil] at this; omega) hc, by have := Od.ofBk f89 hdv; exact this, ⟨by omega, by omega, by omega, by omega⟩, by rw [show (l).length = l.length from rfl]; omega, by rw [show (l).length = l.length from rfl]; exact hdv.1, kk26⟩
end Go.Proofs.YtjbdimfpjbmggaaDoor
