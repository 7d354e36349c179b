/- Walks of the reference's sum of bytes (bursaryref10: take, Hash). -/
import Derived.Test.YtfoenaleboodpaaGreatDoorGr
import Derived.Test.YtfoenaleboodpaaGreatDoorHvp
set_option linter.unusedVariables false
set_option linter.unusedSimpArgs false
namespace Go.Proofs.YtfoenaleboodpaaGreatDoor
open Go.RowKit 

def padF (l : List Nat) (n : Nat) : Nat → Nat := fun i => l.getD (n + i) 0
theorem pad_arr (l : List Nat) (n : Nat) : arr 16 (padF l n) = pad (l.drop n) := by
  apply List.ext_getElem?
  intro i
  by_cases hi : i < 16
  · rw [arr_get _ hi]
    unfold pad padF
    rw [List.getElem?_append]
    by_cases h : i < ((l.drop n).take 16).length
    · rw [if_pos h, List.getElem?_take_of_lt hi, List.getElem?_drop, List.getD_eq_getElem?_getD]
      rw [List.length_take, List.length_drop] at h
      rw [List.getElem?_eq_getElem (by omega)]; rfl
    · rw [if_neg h, List.getElem?_replicate]
      rw [List.length_take, List.length_drop] at h
      rw [if_pos (by rw [List.length_take, List.length_drop]; omega), List.getD_eq_getElem?_getD, List.getElem?_eq_none (by omega)]; rfl
  · rw [List.getElem?_eq_none (by rw [arr_length]; omega), List.getElem?_eq_none (by unfold pad; simp; omega)]
theorem pad_upto {l : List Nat} {n k : Nat} (h : 16 ≤ k ∨ l.length ≤ n + k) : upto (padF l n) (fun _ => 0) k 16 = pad (l.drop n) := by
  rw [← pad_arr]
  refine arr_ext fun i hi => ?_
  by_cases hk : i < k
  · rw [if_pos hk]
  · rw [if_neg hk]; unfold padF; rw [List.getD_eq_getElem?_getD, List.getElem?_eq_none (by omega)]; rfl
theorem padF_lt {l : List Nat} (hb : ∀ n ∈ l, n < 256) (n i : Nat) : padF l n i < 256 := getD_lt hb _
theorem pad_by' {l : List Nat} (hb : ∀ n ∈ l, n < 256) (n : Nat) : By 16 (pad (l.drop n)) := pad_by fun x hx => hb x (List.mem_of_mem_drop hx)
theorem xorL_be {x y : List Nat} (bx : By 16 x) (b_y : By 16 y) : Hm.be (xorL x y) = Hm.be x ^^^ Hm.be y := by
  rw [toB_of_be bx, toB_of_be b_y, xorL_toB, be_toB16 (by_lt bx), be_toB16 (by_lt b_y), be_toB16 (Nat.xor_lt_two_pow (by_lt bx) (by_lt b_y))]
theorem take_round {z : Nat} {p h : List Nat} (hz : z < 2 ^ 128) (bp : By 16 p) : mulB (xorL (Hm.toB 16 z) p) h = Hm.toB 16 (Hm.gm (z ^^^ Hm.be p) (Hm.be h)) := by
  rw [mulB_eq, xorL_be (toB_by 16 z) bp, be_toB16 hz]
theorem tk_step {H z : Nat} {l : List Nat} {n : Nat} (hn : n < l.length) : tk H z (l.drop n) = tk H (Hm.gm (z ^^^ Hm.be (pad (l.drop n))) H) (l.drop (n + 16)) := by
  rw [tk_cons H z (by intro e; have := congrArg List.length e; simp at this; omega), List.drop_drop]
theorem tk_end {H z : Nat} {l : List Nat} {n : Nat} (hn : l.length ≤ n) : tk H z (l.drop n) = z := by rw [List.drop_eq_nil_of_le hn, tk_nil]
/-- The bytes of a length. -/
def lenB (v j : Nat) : List Nat := (Hm.toB 8 v).take j
theorem lenB_snoc {v j : Nat} (hj : j < 8) : lenB v j ++ [v / 2 ^ (56 - 8 * j) % 256] = lenB v (j + 1) := by
  unfold lenB
  rw [List.take_add_one, Hm.toB_get 8 v j hj, pow256, show 8 * (8 - 1 - j) = 56 - 8 * j by omega]; rfl
theorem lenB_length {v j : Nat} (hj : j ≤ 8) : (lenB v j).length = j := by unfold lenB; rw [List.length_take, Hm.toB_length]; omega
theorem lenB_all (v j : Nat) (hj : 8 ≤ j) : lenB v j = Hm.toB 8 v := List.take_of_length_le (by rw [Hm.toB_length]; omega)
theorem hash_ref {x : List Nat} {l1 l2 : List Nat} (h1 : l1.length < 2 ^ 60) (h2 : l2.length < 2 ^ 60) :
    Hm.toB 16 (tk (Hm.be x) (tk (Hm.be x) (tk (Hm.be x) 0 l1) l2) (Hm.toB 8 (8 * l1.length) ++ Hm.toB 8 (8 * l2.length))) = hashB x l1 l2 := by
  rw [hashB_eq]
  have hl : (Hm.toB 8 (8 * l1.length) ++ Hm.toB 8 (8 * l2.length)).length = 16 := by rw [List.length_append, Hm.toB_length, Hm.toB_length]
  rw [tk_cons _ _ (by intro e; rw [e] at hl; cases hl), List.drop_eq_nil_of_le (by omega), tk_nil]
  congr 3
  unfold pad
  rw [List.take_of_length_le (by omega), hl, Nat.sub_self, List.replicate_zero, List.append_nil, Hm.be_append, Hm.be_toB, Hm.be_toB, Hm.toB_length]
  rw [Nat.mod_eq_of_lt (by have : (256 : Nat) ^ 8 = 2 ^ 64 := by decide
                           omega), Nat.mod_eq_of_lt (by have : (256 : Nat) ^ 8 = 2 ^ 64 := by decide
                                                        omega)]

set_option maxRecDepth 100000 in
set_option maxHeartbeats 2000000 in
theorem ref_take (z h : List Nat) (bz : By 16 z) (b_h : By 16 h) (A : Option Addr) (l : List Nat) (c : Nat) (w : World) (HB : Bs w A l) (hc : l.length ≤ c) (hl : l.length < 2 ^ 62) : Ret Tryz.prog 60 #[.agg (u8s z : List Value).toArray, .agg (u8s h : List Value).toArray, .slice A (l.length) (c)] w (fun v w' => v = .agg (u8s (Hm.toB 16 (tk (Hm.be h) (Hm.be z) l))).toArray ∧ Kp No w w') := by
  have kk0 := Kp.refl No w
  refine enter (n := 42) [.agg (u8s z : List Value).toArray, .agg (u8s h : List Value).toArray, .slice A (l.length) (c)] Tryz.func60 rfl rfl rfl ?_
  show Cw _ _ _ _ [(0, .agg (u8s z : List Value).toArray), (1, .agg (u8s h : List Value).toArray), (2, .slice A (l.length) (c))] _
  refine C_seq (fun K1 hK1 => ?_)
  refine C_region ?_
  refine R_lo (lo_box (L := u8s z) rfl rfl) rfl ?_
  rintro _ w1 ⟨pz, rfl, N1⟩
  have k1 := N1.kp
  have kk1 := kk0.then_ k1
  have f_pz_1 : Bk w1 pz (u8s z) 40 := N1.bk
  refine R_lo (lo_box (L := u8s h) rfl rfl) rfl ?_
  rintro _ w2 ⟨ph, rfl, N2⟩
  have k2 := N2.kp
  have kk2 := kk1.then_ k2
  have ne_ph_pz : ph ≠ pz := Nat.ne_of_gt (Nat.lt_of_lt_of_le f_pz_1.lt N2.le)
  have f_ph_2 : Bk w2 ph (u8s h) 40 := N2.bk
  have f2 : Bk w2 pz (u8s z) 40 := (f_pz_1.no k2)
  refine R_lo (lo_alloc (L := u8s (List.replicate 16 0)) (by kernel_rfl)) rfl ?_
  rintro _ w3 ⟨po, rfl, N3⟩
  have k3 := N3.kp
  have kk3 := kk2.then_ k3
  have ne_po_pz : po ≠ pz := Nat.ne_of_gt (Nat.lt_of_lt_of_le f2.lt N3.le)
  have ne_po_ph : po ≠ ph := Nat.ne_of_gt (Nat.lt_of_lt_of_le f_ph_2.lt N3.le)
  have f_po_3 : Bk w3 po (u8s (List.replicate 16 0)) 40 := N3.bk
  refine R_nil ?_
  refine X_then hK1 ?_
  refine C_seq (fun K3 hK3 => ?_)
  refine C_seq (fun K4 hK4 => ?_)
  refine C_region ?_
  refine R_pu (pu_assign rfl) rfl ?_
  refine R_nil ?_
  refine X_then hK4 ?_
  refine C_block ?_
  have f5 : Bk w3 pz (u8s z) 40 := (f2.no k3)
  have f6 : Bk w3 ph (u8s h) 40 := (f_ph_2.no k3)
  refine C_loop (fun m_ l_ wr => ∃ n : Nat, ∃ zj : Nat, (m_ = l.length + 16 - n) ∧ (l_ = [(2, .slice A (l.length) (c)), (3, .pointer (some ⟨pz, 0, none⟩)), (4, .pointer (some ⟨ph, 0, none⟩)), (6, .pointer (some ⟨po, 0, none⟩)), (7, .int .i64 ((n : Nat) : Int))]) ∧ (n ≤ l.length + 15) ∧ (zj < 2 ^ 128) ∧ (tk (Hm.be h) (Hm.be z) l = tk (Hm.be h) zj (l.drop n)) ∧ (Kp No w wr) ∧ (Bk wr pz (u8s (Hm.toB 16 zj)) 40) ∧ (Bk wr ph (u8s h) 40) ∧ (Bk wr po (u8s (List.replicate 16 0)) 40)) (l.length + 16 - 0) [(2, .slice A (l.length) (c)), (3, .pointer (some ⟨pz, 0, none⟩)), (4, .pointer (some ⟨ph, 0, none⟩)), (6, .pointer (some ⟨po, 0, none⟩)), (7, .int .i64 0)] (Sub.cons rfl (Sub.cons rfl (Sub.cons rfl (Sub.cons rfl (Sub.cons rfl (Sub.nil _)))))) ⟨0, Hm.be z, rfl, rfl, by omega, (by_lt bz), rfl, kk3, Bk.eq f5 (congrArg u8s (toB_of_be bz)), f6, f_po_3⟩ ?_
  rintro _ _ w4 ⟨n, zj, rfl, rfl, hn, hz, ht, kk4, f_pz_4, f_ph_4, f_po_4⟩
  refine C_seq (fun K7 hK7 => ?_)
  refine C_seq (fun K8 hK8 => ?_)
  refine C_region ?_
  refine R_pu (pu_move rfl) rfl ?_
  refine R_pu (pu_move rfl) rfl ?_
  refine R_pu (pu_len Tryz.underlying22 rfl) rfl ?_
  refine R_pu (pu_lss (p := n < l.length) rfl rfl (by omega)) rfl ?_
  refine R_nil ?_
  refine X_then hK8 ?_
  refine C_dec rfl (fun h13 => ?_) (fun h13 => ?_)
  · refine C_skip ?_
    refine X_then hK7 ?_
    refine C_seq (fun K9 hK9 => ?_)
    refine C_block ?_
    refine C_seq (fun K10 hK10 => ?_)
    refine C_region ?_
    refine R_lo (lo_alloc (L := u8s (List.replicate 16 0)) (by kernel_rfl)) rfl ?_
    rintro _ w5 ⟨px, rfl, N5⟩
    have k5 := N5.kp
    have kk5 := kk4.then_ k5
    have ne_px_pz : px ≠ pz := Nat.ne_of_gt (Nat.lt_of_lt_of_le f_pz_4.lt N5.le)
    have ne_px_ph : px ≠ ph := Nat.ne_of_gt (Nat.lt_of_lt_of_le f_ph_4.lt N5.le)
    have ne_px_po : px ≠ po := Nat.ne_of_gt (Nat.lt_of_lt_of_le f_po_4.lt N5.le)
    have f_px_5 : Bk w5 px (u8s (List.replicate 16 0)) 40 := N5.bk
    refine R_nil ?_
    refine X_then hK10 ?_
    refine C_cut (fun l_ wr => (l_ = [(2, .slice A (l.length) (c)), (3, .pointer (some ⟨pz, 0, none⟩)), (4, .pointer (some ⟨ph, 0, none⟩)), (6, .pointer (some ⟨po, 0, none⟩)), (7, .int .i64 ((n : Nat) : Int)), (8, .pointer (some ⟨px, 0, none⟩))]) ∧ (Kp No w wr) ∧ (Bk wr pz (u8s (Hm.toB 16 zj)) 40) ∧ (Bk wr ph (u8s h) 40) ∧ (Bk wr po (u8s (List.replicate 16 0)) 40) ∧ (Bk wr px (u8s (pad (l.drop n))) 40)) (fun K_ hK_ => ?_) ?_
    · refine C_seq (fun K11 hK11 => ?_)
      refine C_region ?_
      refine R_pu (pu_assign rfl) rfl ?_
      refine R_nil ?_
      refine X_then hK11 ?_
      refine C_block ?_
      have f12 : Bk w5 pz (u8s (Hm.toB 16 zj)) 40 := (f_pz_4.no k5)
      have f13 : Bk w5 ph (u8s h) 40 := (f_ph_4.no k5)
      have f14 : Bk w5 po (u8s (List.replicate 16 0)) 40 := (f_po_4.no k5)
      refine C_loop (fun m_ l_ wr => ∃ k : Nat, (m_ = 16 - k) ∧ (l_ = [(2, .slice A (l.length) (c)), (3, .pointer (some ⟨pz, 0, none⟩)), (4, .pointer (some ⟨ph, 0, none⟩)), (6, .pointer (some ⟨po, 0, none⟩)), (7, .int .i64 ((n : Nat) : Int)), (8, .pointer (some ⟨px, 0, none⟩)), (9, .int .i64 ((k : Nat) : Int))]) ∧ (k ≤ 16) ∧ (Kp No w wr) ∧ (Bk wr pz (u8s (Hm.toB 16 zj)) 40) ∧ (Bk wr ph (u8s h) 40) ∧ (Bk wr po (u8s (List.replicate 16 0)) 40) ∧ (Bk wr px (u8s (upto (padF l n) (fun _ => 0) k 16)) 40)) (16 - 0) [(2, .slice A (l.length) (c)), (3, .pointer (some ⟨pz, 0, none⟩)), (4, .pointer (some ⟨ph, 0, none⟩)), (6, .pointer (some ⟨po, 0, none⟩)), (7, .int .i64 ((n : Nat) : Int)), (8, .pointer (some ⟨px, 0, none⟩)), (9, .int .i64 0)] (Sub.cons rfl (Sub.cons rfl (Sub.cons rfl (Sub.cons rfl (Sub.cons rfl (Sub.cons rfl (Sub.cons rfl (Sub.nil _)))))))) ⟨0, rfl, rfl, by omega, kk5, f12, f13, f14, Bk.eq f_px_5 (congrArg u8s (by rw [upto_zero]; rfl))⟩ ?_
      rintro _ _ w6 ⟨k, rfl, rfl, hk, kk6, f_pz_6, f_ph_6, f_po_6, f_px_6⟩
      refine C_seq (fun K15 hK15 => ?_)
      refine C_seq (fun K16 hK16 => ?_)
      refine C_region ?_
      refine R_pu (pu_move rfl) rfl ?_
      refine R_pu (pu_lss (p := k < 16) rfl rfl (by omega)) rfl ?_
      by_cases g6_2 : k < 16
      · refine R_pu (pu_true (pu_move rfl) g6_2) rfl ?_
        refine R_gpu rfl rfl (pu_move rfl) rfl ?_
        refine R_gpu rfl rfl (pu_move rfl) rfl ?_
        refine R_gpu rfl rfl (pu_add (z := ((n + k : Nat) : Int)) rfl rfl (by rw [IntKind.wrap_i64]; omega)) rfl ?_
        refine R_gpu rfl rfl (pu_move rfl) rfl ?_
        refine R_gpu rfl rfl (pu_len Tryz.underlying22 rfl) rfl ?_
        refine R_gpu rfl rfl (pu_lss (p := (n + k) < l.length) rfl rfl (by omega)) rfl ?_
        refine R_pu (pu_pickt rfl rfl) rfl ?_
        refine R_nil ?_
        refine X_then hK16 ?_
        refine C_dec rfl (fun h25 => ?_) (fun h25 => ?_)
        · refine C_skip ?_
          refine X_then hK15 ?_
          refine C_seq (fun K17 hK17 => ?_)
          refine C_block ?_
          refine C_region ?_
          refine R_pu (pu_move rfl) rfl ?_
          refine R_pu (pu_move rfl) rfl ?_
          refine R_pu (pu_move rfl) rfl ?_
          refine R_pu (pu_move rfl) rfl ?_
          refine R_pu (pu_add (z := ((n + k : Nat) : Int)) rfl rfl (by rw [IntKind.wrap_i64]; omega)) rfl ?_
          refine R_pu (pu_indexAddrB (m := n + k) (HB.keptNo kk6) Tryz.underlying22 (by kernel_rfl) rfl rfl rfl rfl (by omega)) rfl ?_
          obtain ⟨b, e_b⟩ : ∃ q_, (l)[n + k]? = some q_ := ⟨_, List.getElem?_eq_getElem (by omega)⟩
          have b_b : b < 256 := ((HB.keptNo kk6)).lt e_b
          refine R_pu (pu_loadB (HB.keptNo kk6) (by kernel_rfl) rfl e_b) rfl ?_
          refine R_pu (pu_indexAddrA (m := k) (s := 1) (o' := k) Tryz.underlying40 (by kernel_rfl) rfl rfl rfl (by omega) (by omega)) rfl ?_
          refine R_lo0 (lo_store f_px_6 (by kernel_rfl) rfl rfl rfl (by rw [u8s_length, (upto_by (fun i _ => padF_lt HB.byte n i) (fun _ _ => by decide)).1]; omega)) ?_
          rintro _ w7 kf7
          obtain ⟨k7, f_px_7⟩ := kf7
          replace f_px_7 := Bk.eq f_px_7 (u8s_set _ _ b)
          replace f_px_7 : Bk w7 px (u8s ((upto (padF l n) (fun _ => 0) k 16).set k b)) 40 := f_px_7
          have kk7 := kk6.trans k7 (fun i hi => .inr (hi ▸ (Nat.le_trans kk4.size N5.le)))
          refine R_nil ?_
          refine X_in_normal ?_
          refine X_then hK17 ?_
          refine C_region ?_
          refine R_pu (pu_move rfl) rfl ?_
          refine R_pu (pu_add (z := ((k + 1 : Nat) : Int)) rfl rfl (by rw [IntKind.wrap_i64]; omega)) rfl ?_
          refine R_pu (pu_assign rfl) rfl ?_
          refine R_nil ?_
          have f18 : Bk w7 pz (u8s (Hm.toB 16 zj)) 40 := (f_pz_6.on k7 (Ne.symm ne_px_pz))
          have f19 : Bk w7 ph (u8s h) 40 := (f_ph_6.on k7 (Ne.symm ne_px_ph))
          have f20 : Bk w7 po (u8s (List.replicate 16 0)) 40 := (f_po_6.on k7 (Ne.symm ne_px_po))
          refine X_round (16 - (k + 1)) [(2, .slice A (l.length) (c)), (3, .pointer (some ⟨pz, 0, none⟩)), (4, .pointer (some ⟨ph, 0, none⟩)), (6, .pointer (some ⟨po, 0, none⟩)), (7, .int .i64 ((n : Nat) : Int)), (8, .pointer (some ⟨px, 0, none⟩)), (9, .int .i64 (((k + 1) : Nat) : Int))] (by omega) (Sub.cons rfl (Sub.cons rfl (Sub.cons rfl (Sub.cons rfl (Sub.cons rfl (Sub.cons rfl (Sub.cons rfl (Sub.nil _)))))))) ⟨k + 1, rfl, rfl, by omega, kk7, f18, f19, f20, Bk.eq f_px_7 (congrArg u8s (upto_set (by unfold padF; rw [getD_some e_b])))⟩
        · refine C_exit ?_
          refine X_then_exit (X_then_exit (X_in_eq ?_))
          refine X_cut hK_ [(2, .slice A (l.length) (c)), (3, .pointer (some ⟨pz, 0, none⟩)), (4, .pointer (some ⟨ph, 0, none⟩)), (6, .pointer (some ⟨po, 0, none⟩)), (7, .int .i64 ((n : Nat) : Int)), (8, .pointer (some ⟨px, 0, none⟩))] (Sub.cons rfl (Sub.cons rfl (Sub.cons rfl (Sub.cons rfl (Sub.cons rfl (Sub.cons rfl (Sub.nil _))))))) ⟨rfl, kk6, f_pz_6, f_ph_6, f_po_6, Bk.eq f_px_6 (congrArg u8s (pad_upto (by omega)))⟩
      · refine R_pu (pu_false (pu_move rfl) g6_2) rfl ?_
        refine R_gno rfl rfl rfl rfl ?_
        refine R_gno rfl rfl rfl rfl ?_
        refine R_gno rfl rfl rfl rfl ?_
        refine R_gno rfl rfl rfl rfl ?_
        refine R_gno rfl rfl rfl rfl ?_
        refine R_gno rfl rfl rfl rfl ?_
        refine R_pu (pu_pickf rfl rfl) rfl ?_
        refine R_nil ?_
        refine X_then hK16 ?_
        refine C_false rfl ?_
        refine C_exit ?_
        refine X_then_exit (X_then_exit (X_in_eq ?_))
        refine X_cut hK_ [(2, .slice A (l.length) (c)), (3, .pointer (some ⟨pz, 0, none⟩)), (4, .pointer (some ⟨ph, 0, none⟩)), (6, .pointer (some ⟨po, 0, none⟩)), (7, .int .i64 ((n : Nat) : Int)), (8, .pointer (some ⟨px, 0, none⟩))] (Sub.cons rfl (Sub.cons rfl (Sub.cons rfl (Sub.cons rfl (Sub.cons rfl (Sub.cons rfl (Sub.nil _))))))) ⟨rfl, kk6, f_pz_6, f_ph_6, f_po_6, Bk.eq f_px_6 (congrArg u8s (pad_upto (by omega)))⟩
    · rintro _ w8 ⟨rfl, kk8, f_pz_8, f_ph_8, f_po_8, f_px_8⟩
      refine D_begin (fun W => Kp No w W ∧ Bk W ph (u8s h) 40 ∧ Bk W po (u8s (List.replicate 16 0)) 40 ∧ Bk W px (u8s (pad (l.drop n))) 40) 6 rfl (by kernel_rfl) ⟨kk8.drew, f_ph_8.draw, f_po_8.draw, f_px_8.draw⟩ ?_
      intro w9 k9 _
      have kk9 := kk8.then_ k9
      refine D_take 1 rfl (by kernel_rfl) (by kernel_rfl) (by kernel_rfl) (fun _ _ _ h => h) rfl (fun W hS => pu_loadRow (len := 16) hS.2.2.2 (by kernel_rfl) (by kernel_rfl) (by rw [u8s_length]; exact (pad_by' HB.byte n).1) rfl) ?_
      refine D_take 3 rfl (by kernel_rfl) (by kernel_rfl) (by kernel_rfl) (fun _ _ _ h => h) rfl (fun W hS => pu_loadRow (len := 16) hS.2.1 (by kernel_rfl) (by kernel_rfl) (by rw [u8s_length]; exact b_h.1) rfl) ?_
      have f21 : Bk w9 pz (u8s (Hm.toB 16 zj)) 40 := (f_pz_8.no k9)
      have f22 : Bk w9 ph (u8s h) 40 := (f_ph_8.no k9)
      have f23 : Bk w9 po (u8s (List.replicate 16 0)) 40 := (f_po_8.no k9)
      have f24 : Bk w9 px (u8s (pad (l.drop n))) 40 := (f_px_8.no k9)
      refine D_one 0 (by kernel_rfl) (Nx_pu rfl (pu_loadRow (len := 16) f21 (by kernel_rfl) (by kernel_rfl) (by rw [u8s_length]; exact (toB_by 16 zj).1) rfl) rfl ⟨⟨kk9, f22, f23, f24⟩, ?_⟩)
      refine D_one 2 (by kernel_rfl) (Nx_lo rfl (lo_call (by kernel_rfl) rfl (ref_add (Hm.toB 16 zj) (pad (l.drop n)) (toB_by 16 zj) (pad_by' HB.byte n) _)) rfl ?_)
      rintro _ w10 ⟨rfl, k10⟩
      have kk10 := kk9.then_ k10
      have f25 : Bk w10 ph (u8s h) 40 := (f22.no k10)
      have f26 : Bk w10 po (u8s (List.replicate 16 0)) 40 := (f23.no k10)
      have f27 : Bk w10 px (u8s (pad (l.drop n))) 40 := (f24.no k10)
      refine ⟨⟨kk10, f25, f26, f27⟩, ?_⟩
      refine D_one 4 (by kernel_rfl) (Nx_lo rfl (lo_call (by kernel_rfl) rfl (ref_mul (xorL (Hm.toB 16 zj) (pad (l.drop n))) h (xorL_by (toB_by 16 zj) (pad_by' HB.byte n)) b_h _)) rfl ?_)
      rintro _ w11 ⟨rfl, k11⟩
      have kk11 := kk10.then_ k11
      have f28 : Bk w11 ph (u8s h) 40 := (f25.no k11)
      have f29 : Bk w11 po (u8s (List.replicate 16 0)) 40 := (f26.no k11)
      have f30 : Bk w11 px (u8s (pad (l.drop n))) 40 := (f27.no k11)
      refine ⟨⟨kk11, f28, f29, f30⟩, ?_⟩
      have f31 : Bk w11 pz (u8s (Hm.toB 16 zj)) 40 := ((f21.no k10).no k11)
      refine D_one 5 (by kernel_rfl) (Nx_lo0 rfl (lo_storeRow (C := u8s (mulB (xorL (Hm.toB 16 zj) (pad (l.drop n))) h)) f31 (by rw [u8s_length, (mulB_by _ _).1]; kernel_rfl) rfl rfl (u8s_each _) ((u8s_length _).trans ((mulB_by _ _).1.trans ((toB_by 16 zj).1.symm.trans (u8s_length _).symm)))) ?_)
      rintro _ w12 kf12
      obtain ⟨k12, f_pz_12⟩ := kf12
      replace f_pz_12 : Bk w12 pz (u8s (mulB (xorL (Hm.toB 16 zj) (pad (l.drop n))) h)) 40 := f_pz_12
      have kk12 := kk11.trans k12 (fun i hi => .inr (hi ▸ (Nat.le_trans kk0.size N1.le)))
      have f32 : Bk w12 ph (u8s h) 40 := (f28.on k12 ne_ph_pz)
      have f33 : Bk w12 po (u8s (List.replicate 16 0)) 40 := (f29.on k12 ne_po_pz)
      have f34 : Bk w12 px (u8s (pad (l.drop n))) 40 := (f30.on k12 ne_px_pz)
      refine ⟨⟨kk12, f32, f33, f34⟩, ?_⟩
      refine D_done (by kernel_rfl) ?_
      refine X_in_normal ?_
      refine X_then hK9 ?_
      refine C_region ?_
      refine R_pu (pu_move rfl) rfl ?_
      refine R_pu (pu_add (z := ((n + 16 : Nat) : Int)) rfl rfl (by rw [IntKind.wrap_i64]; omega)) rfl ?_
      refine R_pu (pu_assign rfl) rfl ?_
      refine R_nil ?_
      refine X_round (l.length + 16 - (n + 16)) [(2, .slice A (l.length) (c)), (3, .pointer (some ⟨pz, 0, none⟩)), (4, .pointer (some ⟨ph, 0, none⟩)), (6, .pointer (some ⟨po, 0, none⟩)), (7, .int .i64 (((n + 16) : Nat) : Int))] (by omega) (Sub.cons rfl (Sub.cons rfl (Sub.cons rfl (Sub.cons rfl (Sub.cons rfl (Sub.nil _)))))) ⟨n + 16, Hm.gm (zj ^^^ Hm.be (pad (l.drop n))) (Hm.be h), rfl, rfl, by omega, Hm.gm_lt (by_lt b_h), ht.trans (tk_step h13), kk12, Bk.eq f_pz_12 (congrArg u8s (take_round hz (pad_by' HB.byte n))), f32, f33⟩
  · refine C_exit ?_
    refine X_then_exit (X_then_exit (X_in_eq ?_))
    refine X_then hK3 ?_
    refine C_seq (fun K35 hK35 => ?_)
    refine C_region ?_
    refine R_pu (pu_loadRow (len := 16) f_pz_4 (by kernel_rfl) (by kernel_rfl) (by rw [u8s_length]; exact (toB_by 16 zj).1) rfl) rfl ?_
    refine R_lo0 (lo_storeRow (C := u8s (Hm.toB 16 zj)) f_po_4 (by rw [u8s_length, (toB_by 16 zj).1]; kernel_rfl) rfl rfl (u8s_each _) ((u8s_length _).trans ((toB_by 16 zj).1.trans ((rep_by 16).1.symm.trans (u8s_length _).symm)))) ?_
    rintro _ w13 kf13
    obtain ⟨k13, f_po_13⟩ := kf13
    replace f_po_13 : Bk w13 po (u8s (Hm.toB 16 zj)) 40 := f_po_13
    have kk13 := kk4.trans k13 (fun i hi => .inr (hi ▸ (Nat.le_trans kk2.size N3.le)))
    refine R_nil ?_
    refine X_then hK35 ?_
    refine C_ret ?_
    exact X_retRow (len := 16) (.inl rfl) rfl rfl f_po_13 (by kernel_rfl) (by kernel_rfl) (by rw [u8s_length]; exact (toB_by 16 zj).1) ⟨by rw [ht, tk_end (by omega)], kk13⟩

theorem rep_be : Hm.be (List.replicate 16 0) = 0 := by decide
theorem hash_fin {x : List Nat} (bx : By 16 x) {l1 l2 : List Nat} (h1 : l1.length < 2 ^ 60) (h2 : l2.length < 2 ^ 60) {j : Nat} (hj : 8 ≤ j) :
    Hm.toB 16 (tk (Hm.be x) (Hm.be (Hm.toB 16 (tk (Hm.be x) (Hm.be (Hm.toB 16 (tk (Hm.be x) (Hm.be (List.replicate 16 0)) l1))) l2))) (Hm.toB 8 (8 * l1.length) ++ lenB (8 * l2.length) j)) = hashB x l1 l2 := by
  have hH := by_lt bx
  have t1 : tk (Hm.be x) 0 l1 < 2 ^ 128 := tk_lt hH (by decide) _ l1 (Nat.le_refl _)
  have t2 : tk (Hm.be x) (tk (Hm.be x) 0 l1) l2 < 2 ^ 128 := tk_lt hH t1 _ l2 (Nat.le_refl _)
  rw [rep_be, be_toB16 t1, be_toB16 t2, lenB_all _ j hj, hash_ref h1 h2]

set_option maxRecDepth 100000 in
set_option maxHeartbeats 2000000 in
theorem ref_hash (x : List Nat) (bx : By 16 x) (A1 A2 : Option Addr) (l1 l2 : List Nat) (c1 c2 : Nat) (w : World) (HB1 : Bs w A1 l1) (hc1 : l1.length ≤ c1) (HB2 : Bs w A2 l2) (hc2 : l2.length ≤ c2) (hs1 : l1.length < 2 ^ 60) (hs2 : l2.length < 2 ^ 60) : Ret Tryz.prog 42 #[.agg (u8s x : List Value).toArray, .slice A1 (l1.length) (c1), .slice A2 (l2.length) (c2)] w (fun v w' => v = .agg (u8s (hashB x l1 l2)).toArray ∧ Kp No w w') := by
  have kk0 := Kp.refl No w
  refine enter (n := 52) [.agg (u8s x : List Value).toArray, .slice A1 (l1.length) (c1), .slice A2 (l2.length) (c2)] Tryz.func42 rfl rfl rfl ?_
  show Cw _ _ _ _ [(0, .agg (u8s x : List Value).toArray), (1, .slice A1 (l1.length) (c1)), (2, .slice A2 (l2.length) (c2))] _
  refine C_seq (fun K1 hK1 => ?_)
  refine C_region ?_
  refine R_lo (lo_box (L := u8s x) rfl rfl) rfl ?_
  rintro _ w1 ⟨px, rfl, N1⟩
  have k1 := N1.kp
  have kk1 := kk0.then_ k1
  have f_px_1 : Bk w1 px (u8s x) 40 := N1.bk
  refine R_lo (lo_alloc (L := u8s (List.replicate 16 0)) (by kernel_rfl)) rfl ?_
  rintro _ w2 ⟨po, rfl, N2⟩
  have k2 := N2.kp
  have kk2 := kk1.then_ k2
  have ne_po_px : po ≠ px := Nat.ne_of_gt (Nat.lt_of_lt_of_le f_px_1.lt N2.le)
  have f_po_2 : Bk w2 po (u8s (List.replicate 16 0)) 40 := N2.bk
  refine R_nil ?_
  refine X_then hK1 ?_
  refine C_seq (fun K2 hK2 => ?_)
  have f3 : Bk w2 px (u8s x) 40 := (f_px_1.no k2)
  refine D_begin (fun W => Kp No w W ∧ Bk W px (u8s x) 40 ∧ Bk W po (u8s (List.replicate 16 0)) 40) 9 rfl (by kernel_rfl) ⟨kk2.drew, f3.draw, f_po_2.draw⟩ ?_
  intro w3 k3 _
  have kk3 := kk2.then_ k3
  refine D_take 0 rfl (by kernel_rfl) (by kernel_rfl) (by kernel_rfl) (fun _ _ _ h => h) rfl (fun W hS => pu_build (L := u8s (List.replicate 16 0)) rfl (by kernel_rfl)) ?_
  refine D_take 1 rfl (by kernel_rfl) (by kernel_rfl) (by kernel_rfl) (fun _ _ _ h => h) rfl (fun W hS => pu_loadRow (len := 16) hS.2.1 (by kernel_rfl) (by kernel_rfl) (by rw [u8s_length]; exact bx.1) rfl) ?_
  refine D_take 2 rfl (by kernel_rfl) (by kernel_rfl) (by kernel_rfl) (fun _ _ _ h => h) rfl (fun W hS => pu_move rfl) ?_
  refine D_take 4 rfl (by kernel_rfl) (by kernel_rfl) (by kernel_rfl) (fun _ _ _ h => h) rfl (fun W hS => pu_loadRow (len := 16) hS.2.1 (by kernel_rfl) (by kernel_rfl) (by rw [u8s_length]; exact bx.1) rfl) ?_
  refine D_take 5 rfl (by kernel_rfl) (by kernel_rfl) (by kernel_rfl) (fun _ _ _ h => h) rfl (fun W hS => pu_move rfl) ?_
  refine D_two 3 7 (by kernel_rfl) ?_ ?_
  · refine Nx_lo rfl (lo_call (by kernel_rfl) rfl (ref_take (List.replicate 16 0) x (rep_by 16) bx A1 l1 c1 _ (HB1.keptNo kk3) hc1 (by first | omega | (simp; done) | (simp; omega)))) rfl ?_
    rintro _ w4 ⟨rfl, k4⟩
    have kk4 := kk3.then_ k4
    have f4 : Bk w4 px (u8s x) 40 := ((f3.no k3).no k4)
    have f5 : Bk w4 po (u8s (List.replicate 16 0)) 40 := ((f_po_2.no k3).no k4)
    refine ⟨⟨kk4, f4, f5⟩, ?_⟩
    refine D_two 6 7 (by kernel_rfl) ?_ ?_
    · refine Nx_lo rfl (lo_call (by kernel_rfl) rfl (ref_take (Hm.toB 16 (tk (Hm.be x) (Hm.be (List.replicate 16 0)) l1)) x (toB_by 16 _) bx A2 l2 c2 _ (HB2.keptNo kk4) hc2 (by first | omega | (simp; done) | (simp; omega)))) rfl ?_
      rintro _ w5 ⟨rfl, k5⟩
      have kk5 := kk4.then_ k5
      have f6 : Bk w5 px (u8s x) 40 := (f4.no k5)
      have f7 : Bk w5 po (u8s (List.replicate 16 0)) 40 := (f5.no k5)
      refine ⟨⟨kk5, f6, f7⟩, ?_⟩
      refine D_one 7 (by kernel_rfl) (Nx_lo rfl (lo_alloc (L := u8s (List.replicate 16 0)) (by kernel_rfl)) rfl ?_)
      rintro _ w6 ⟨pz, rfl, N6⟩
      have k6 := N6.kp
      have kk6 := kk5.then_ k6
      have ne_pz_px : pz ≠ px := Nat.ne_of_gt (Nat.lt_of_lt_of_le f6.lt N6.le)
      have ne_pz_po : pz ≠ po := Nat.ne_of_gt (Nat.lt_of_lt_of_le f7.lt N6.le)
      have f_pz_6 : Bk w6 pz (u8s (List.replicate 16 0)) 40 := N6.bk
      have f8 : Bk w6 px (u8s x) 40 := (f6.no k6)
      have f9 : Bk w6 po (u8s (List.replicate 16 0)) 40 := (f7.no k6)
      refine ⟨⟨kk6, f8, f9⟩, ?_⟩
      refine D_one 8 (by kernel_rfl) (Nx_lo0 rfl (lo_storeRow (C := u8s (Hm.toB 16 (tk (Hm.be x) (Hm.be (Hm.toB 16 (tk (Hm.be x) (Hm.be (List.replicate 16 0)) l1))) l2))) f_pz_6 (by rw [u8s_length, (toB_by 16 _).1]; kernel_rfl) rfl rfl (u8s_each _) ((u8s_length _).trans ((toB_by 16 _).1.trans ((rep_by 16).1.symm.trans (u8s_length _).symm)))) ?_)
      rintro _ w7 kf7
      obtain ⟨k7, f_pz_7⟩ := kf7
      replace f_pz_7 : Bk w7 pz (u8s (Hm.toB 16 (tk (Hm.be x) (Hm.be (Hm.toB 16 (tk (Hm.be x) (Hm.be (List.replicate 16 0)) l1))) l2))) 40 := f_pz_7
      have kk7 := kk6.trans k7 (fun i hi => .inr (hi ▸ (Nat.le_trans kk5.size N6.le)))
      have f10 : Bk w7 px (u8s x) 40 := (f8.on k7 (Ne.symm ne_pz_px))
      have f11 : Bk w7 po (u8s (List.replicate 16 0)) 40 := (f9.on k7 (Ne.symm ne_pz_po))
      refine ⟨⟨kk7, f10, f11⟩, ?_⟩
      refine D_done (by kernel_rfl) ?_
      refine X_then hK2 ?_
      refine C_seq (fun K12 hK12 => ?_)
      refine C_region ?_
      refine R_pu (pu_assign rfl) rfl ?_
      refine R_nil ?_
      refine X_then hK12 ?_
      refine C_seq (fun K13 hK13 => ?_)
      refine C_seq (fun K14 hK14 => ?_)
      refine C_region ?_
      refine R_pu (pu_assign rfl) rfl ?_
      refine R_nil ?_
      refine X_then hK14 ?_
      refine C_block ?_
      have ob15 := Ob.nil w7 w7.heap.size
      have z16 := Nat.le_refl w7.heap.size
      refine C_loop (fun m_ l_ wr => ∃ j : Nat, ∃ An : Option Addr, ∃ cn : Nat, (m_ = 8 - j) ∧ (l_ = [(1, .slice A1 (l1.length) (c1)), (2, .slice A2 (l2.length) (c2)), (3, .pointer (some ⟨px, 0, none⟩)), (6, .pointer (some ⟨po, 0, none⟩)), (7, .pointer (some ⟨pz, 0, none⟩)), (8, .slice An ((lenB (8 * l1.length) j).length) (cn)), (9, .int .i64 (56 - 8 * ((j : Nat) : Int)))]) ∧ (j ≤ 8) ∧ (Kp No w wr) ∧ (Bk wr px (u8s x) 40) ∧ (Bk wr po (u8s (List.replicate 16 0)) 40) ∧ (Bk wr pz (u8s (Hm.toB 16 (tk (Hm.be x) (Hm.be (Hm.toB 16 (tk (Hm.be x) (Hm.be (List.replicate 16 0)) l1))) l2))) 40) ∧ (Ob wr w7.heap.size (.slice An (lenB (8 * l1.length) j).length cn) (lenB (8 * l1.length) j) ∧ w7.heap.size ≤ (wr).heap.size)) (8 - 0) [(1, .slice A1 (l1.length) (c1)), (2, .slice A2 (l2.length) (c2)), (3, .pointer (some ⟨px, 0, none⟩)), (6, .pointer (some ⟨po, 0, none⟩)), (7, .pointer (some ⟨pz, 0, none⟩)), (8, .slice none ((lenB (8 * l1.length) 0).length) (0)), (9, .int .i64 (56 - 8 * ((0 : Nat) : Int)))] (Sub.cons rfl (Sub.cons rfl (Sub.cons rfl (Sub.cons rfl (Sub.cons rfl (Sub.cons rfl (Sub.consE rfl rfl (Sub.nil _)))))))) ⟨0, none, 0, rfl, rfl, by omega, kk7, f10, f11, f_pz_7, ⟨ob15, z16⟩⟩ ?_
      rintro _ _ w8 ⟨j, An, cn, rfl, rfl, hj, kk8, f_px_8, f_po_8, f_pz_8, n_8⟩
      refine C_seq (fun K17 hK17 => ?_)
      refine C_seq (fun K18 hK18 => ?_)
      refine C_region ?_
      refine R_pu (pu_move rfl) rfl ?_
      refine R_pu (pu_geq (p := (56 - 8 * ((j : Nat) : Int)) ≥ 0) rfl rfl (by omega)) rfl ?_
      refine R_nil ?_
      refine X_then hK18 ?_
      refine C_dec rfl (fun h19 => ?_) (fun h19 => ?_)
      · refine C_skip ?_
        refine X_then hK17 ?_
        refine C_seq (fun K19 hK19 => ?_)
        refine C_block ?_
        refine C_region ?_
        refine R_pu (pu_move rfl) rfl ?_
        refine R_pu (pu_move rfl) rfl ?_
        refine R_pu (pu_len Tryz.underlying22 rfl) rfl ?_
        refine R_pu (pu_conv (z := ((l1.length : Nat) : Int)) Tryz.underlying3 Tryz.underlying99 rfl (by rw [IntKind.wrap_u64]; omega)) rfl ?_
        refine R_pu (pu_mul (z := ((8 * l1.length : Nat) : Int)) rfl rfl (by rw [IntKind.wrap_u64]; omega)) rfl ?_
        refine R_pu (pu_move rfl) rfl ?_
        refine R_pu (pu_conv (z := ((56 - 8 * j : Nat) : Int)) Tryz.underlying3 Tryz.underlying89 rfl (by rw [IntKind.wrap_u64]; omega)) rfl ?_
        refine R_pu (pu_shr (m := 56 - 8 * j) rfl rfl (shr_nat (8 * l1.length) (56 - 8 * j) (by simp only [IntKind.bits]; omega))) rfl ?_
        refine R_pu (pu_conv (z := ((((8 * l1.length) / 2 ^ (56 - 8 * j)) % 256 : Nat) : Int)) Tryz.underlying99 Tryz.underlying5 rfl (by have : (8 * l1.length) / 2 ^ (56 - 8 * j) < 18446744073709551616 := (show (8 * l1.length) / 2 ^ (56 - 8 * j) < 2 ^ 64 from Nat.lt_of_le_of_lt (Nat.div_le_self _ _) (by omega)); rw [IntKind.wrap_u8]; omega)) rfl ?_
        refine R_lo (lo_buildSlice (L := u8s ([((8 * l1.length) / 2 ^ (56 - 8 * j)) % 256])) Tryz.underlying22 rfl (by kernel_rfl)) rfl ?_
        rintro _ w9 ⟨p6_9, rfl, N9⟩
        have k9 := N9.kp
        have kk9 := kk8.then_ k9
        have ne_p6_9_px : p6_9 ≠ px := Nat.ne_of_gt (Nat.lt_of_lt_of_le f_px_8.lt N9.le)
        have ne_p6_9_po : p6_9 ≠ po := Nat.ne_of_gt (Nat.lt_of_lt_of_le f_po_8.lt N9.le)
        have ne_p6_9_pz : p6_9 ≠ pz := Nat.ne_of_gt (Nat.lt_of_lt_of_le f_pz_8.lt N9.le)
        have f_p6_9_9 : Bk w9 p6_9 (u8s ([((8 * l1.length) / 2 ^ (56 - 8 * j)) % 256])) 5 := N9.bk
        have ob20 := (n_8.1.keptNo k9)
        refine R_lo (lo_app (X := lenB (8 * l1.length) j) (Y := [((8 * l1.length) / 2 ^ (56 - 8 * j)) % 256]) ob20 ob20.le.1 rfl rfl (show By 1 [((8 * l1.length) / 2 ^ (56 - 8 * j)) % 256] from ⟨rfl, fun n hn => by rw [List.mem_singleton.1 hn]; exact (Nat.mod_lt _ (by decide))⟩).1 (Bs.ofBk f_p6_9_9 (show By 1 [((8 * l1.length) / 2 ^ (56 - 8 * j)) % 256] from ⟨rfl, fun n hn => by rw [List.mem_singleton.1 hn]; exact (Nat.mod_lt _ (by decide))⟩)) (by simp [lenB_length hj, Hm.toB_length]; omega) (Nat.le_trans n_8.2 k9.size)) rfl ?_
        rintro _ w10 ⟨A_10, c_10, rfl, p10⟩
        have k10 := p10.kp
        have kk10 := kk9.trans k10 (fun i hi => .inr (Nat.le_trans (kk7).size hi))
        refine R_pu (pu_assign rfl) rfl ?_
        refine R_nil ?_
        refine X_in_normal ?_
        refine X_then hK19 ?_
        refine C_region ?_
        refine R_pu (pu_move rfl) rfl ?_
        refine R_pu (pu_sub (z := (56 - 8 * ((j : Nat) : Int)) - 8) rfl rfl (by rw [IntKind.wrap_i64]; omega)) rfl ?_
        refine R_pu (pu_assign rfl) rfl ?_
        refine R_nil ?_
        have f21 : Bk w10 px (u8s x) 40 := ((f_px_8.no k9).kept k10 (by have := f10.lt; omega))
        have f22 : Bk w10 po (u8s (List.replicate 16 0)) 40 := ((f_po_8.no k9).kept k10 (by have := f11.lt; omega))
        have f23 : Bk w10 pz (u8s (Hm.toB 16 (tk (Hm.be x) (Hm.be (Hm.toB 16 (tk (Hm.be x) (Hm.be (List.replicate 16 0)) l1))) l2))) 40 := ((f_pz_8.no k9).kept k10 (by have := f_pz_7.lt; omega))
        refine X_round (8 - (j + 1)) [(1, .slice A1 (l1.length) (c1)), (2, .slice A2 (l2.length) (c2)), (3, .pointer (some ⟨px, 0, none⟩)), (6, .pointer (some ⟨po, 0, none⟩)), (7, .pointer (some ⟨pz, 0, none⟩)), (8, .slice A_10 ((lenB (8 * l1.length) (j + 1)).length) (c_10)), (9, .int .i64 (56 - 8 * (((j + 1) : Nat) : Int)))] (by omega) (Sub.cons rfl (Sub.cons rfl (Sub.cons rfl (Sub.cons rfl (Sub.cons rfl (Sub.consE rfl (by rw [lenB_snoc (v := 8 * l1.length) (j := j) (by omega)]) (Sub.consE rfl (valI (by omega)) (Sub.nil _)))))))) ⟨j + 1, A_10, c_10, rfl, rfl, by omega, kk10, f21, f22, f23, ⟨by rw [← lenB_snoc (v := 8 * l1.length) (j := j) (by omega)]; exact p10.ob, (Nat.le_trans (Nat.le_trans n_8.2 k9.size) k10.size)⟩⟩
      · refine C_exit ?_
        refine X_then_exit (X_then_exit (X_in_eq ?_))
        refine X_then hK13 ?_
        refine C_seq (fun K24 hK24 => ?_)
        refine C_seq (fun K25 hK25 => ?_)
        refine C_region ?_
        refine R_pu (pu_assign rfl) rfl ?_
        refine R_nil ?_
        refine X_then hK25 ?_
        refine C_block ?_
        have e1 : lenB (8 * l1.length) j = Hm.toB 8 (8 * l1.length) ++ lenB (8 * l2.length) 0 := by rw [lenB_all _ j (by omega)]; exact (List.append_nil _).symm
        refine C_loop (fun m_ l_ wr => ∃ j : Nat, ∃ Am : Option Addr, ∃ cm : Nat, (m_ = 8 - j) ∧ (l_ = [(2, .slice A2 (l2.length) (c2)), (3, .pointer (some ⟨px, 0, none⟩)), (6, .pointer (some ⟨po, 0, none⟩)), (7, .pointer (some ⟨pz, 0, none⟩)), (8, .slice Am ((Hm.toB 8 (8 * l1.length) ++ lenB (8 * l2.length) j).length) (cm)), (10, .int .i64 (56 - 8 * ((j : Nat) : Int)))]) ∧ (j ≤ 8) ∧ (Kp No w wr) ∧ (Bk wr px (u8s x) 40) ∧ (Bk wr po (u8s (List.replicate 16 0)) 40) ∧ (Bk wr pz (u8s (Hm.toB 16 (tk (Hm.be x) (Hm.be (Hm.toB 16 (tk (Hm.be x) (Hm.be (List.replicate 16 0)) l1))) l2))) 40) ∧ (Ob wr w7.heap.size (.slice Am (Hm.toB 8 (8 * l1.length) ++ lenB (8 * l2.length) j).length cm) (Hm.toB 8 (8 * l1.length) ++ lenB (8 * l2.length) j) ∧ w7.heap.size ≤ (wr).heap.size)) (8 - 0) [(2, .slice A2 (l2.length) (c2)), (3, .pointer (some ⟨px, 0, none⟩)), (6, .pointer (some ⟨po, 0, none⟩)), (7, .pointer (some ⟨pz, 0, none⟩)), (8, .slice An ((Hm.toB 8 (8 * l1.length) ++ lenB (8 * l2.length) 0).length) (cn)), (10, .int .i64 (56 - 8 * ((0 : Nat) : Int)))] (Sub.cons rfl (Sub.cons rfl (Sub.cons rfl (Sub.cons rfl (Sub.consE rfl (by rw [← e1]) (Sub.consE rfl rfl (Sub.nil _))))))) ⟨0, An, cn, rfl, rfl, by omega, kk8, f_px_8, f_po_8, f_pz_8, ⟨by rw [← e1]; exact n_8.1, n_8.2⟩⟩ ?_
        rintro _ _ w11 ⟨j, Am, cm, rfl, rfl, hj, kk11, f_px_11, f_po_11, f_pz_11, n_11⟩
        refine C_seq (fun K26 hK26 => ?_)
        refine C_seq (fun K27 hK27 => ?_)
        refine C_region ?_
        refine R_pu (pu_move rfl) rfl ?_
        refine R_pu (pu_geq (p := (56 - 8 * ((j : Nat) : Int)) ≥ 0) rfl rfl (by omega)) rfl ?_
        refine R_nil ?_
        refine X_then hK27 ?_
        refine C_dec rfl (fun h34 => ?_) (fun h34 => ?_)
        · refine C_skip ?_
          refine X_then hK26 ?_
          refine C_seq (fun K28 hK28 => ?_)
          refine C_block ?_
          refine C_region ?_
          refine R_pu (pu_move rfl) rfl ?_
          refine R_pu (pu_move rfl) rfl ?_
          refine R_pu (pu_len Tryz.underlying22 rfl) rfl ?_
          refine R_pu (pu_conv (z := ((l2.length : Nat) : Int)) Tryz.underlying3 Tryz.underlying99 rfl (by rw [IntKind.wrap_u64]; omega)) rfl ?_
          refine R_pu (pu_mul (z := ((8 * l2.length : Nat) : Int)) rfl rfl (by rw [IntKind.wrap_u64]; omega)) rfl ?_
          refine R_pu (pu_move rfl) rfl ?_
          refine R_pu (pu_conv (z := ((56 - 8 * j : Nat) : Int)) Tryz.underlying3 Tryz.underlying89 rfl (by rw [IntKind.wrap_u64]; omega)) rfl ?_
          refine R_pu (pu_shr (m := 56 - 8 * j) rfl rfl (shr_nat (8 * l2.length) (56 - 8 * j) (by simp only [IntKind.bits]; omega))) rfl ?_
          refine R_pu (pu_conv (z := ((((8 * l2.length) / 2 ^ (56 - 8 * j)) % 256 : Nat) : Int)) Tryz.underlying99 Tryz.underlying5 rfl (by have : (8 * l2.length) / 2 ^ (56 - 8 * j) < 18446744073709551616 := (show (8 * l2.length) / 2 ^ (56 - 8 * j) < 2 ^ 64 from Nat.lt_of_le_of_lt (Nat.div_le_self _ _) (by omega)); rw [IntKind.wrap_u8]; omega)) rfl ?_
          refine R_lo (lo_buildSlice (L := u8s ([((8 * l2.length) / 2 ^ (56 - 8 * j)) % 256])) Tryz.underlying22 rfl (by kernel_rfl)) rfl ?_
          rintro _ w12 ⟨p10_9, rfl, N12⟩
          have k12 := N12.kp
          have kk12 := kk11.then_ k12
          have ne_p10_9_px : p10_9 ≠ px := Nat.ne_of_gt (Nat.lt_of_lt_of_le f_px_11.lt N12.le)
          have ne_p10_9_po : p10_9 ≠ po := Nat.ne_of_gt (Nat.lt_of_lt_of_le f_po_11.lt N12.le)
          have ne_p10_9_pz : p10_9 ≠ pz := Nat.ne_of_gt (Nat.lt_of_lt_of_le f_pz_11.lt N12.le)
          have f_p10_9_12 : Bk w12 p10_9 (u8s ([((8 * l2.length) / 2 ^ (56 - 8 * j)) % 256])) 5 := N12.bk
          have ob29 := (n_11.1.keptNo k12)
          refine R_lo (lo_app (X := Hm.toB 8 (8 * l1.length) ++ lenB (8 * l2.length) j) (Y := [((8 * l2.length) / 2 ^ (56 - 8 * j)) % 256]) ob29 ob29.le.1 rfl rfl (show By 1 [((8 * l2.length) / 2 ^ (56 - 8 * j)) % 256] from ⟨rfl, fun n hn => by rw [List.mem_singleton.1 hn]; exact (Nat.mod_lt _ (by decide))⟩).1 (Bs.ofBk f_p10_9_12 (show By 1 [((8 * l2.length) / 2 ^ (56 - 8 * j)) % 256] from ⟨rfl, fun n hn => by rw [List.mem_singleton.1 hn]; exact (Nat.mod_lt _ (by decide))⟩)) (by simp [lenB_length hj, Hm.toB_length]; omega) (Nat.le_trans n_11.2 k12.size)) rfl ?_
          rintro _ w13 ⟨A_13, c_13, rfl, p13⟩
          have k13 := p13.kp
          have kk13 := kk12.trans k13 (fun i hi => .inr (Nat.le_trans (kk7).size hi))
          refine R_pu (pu_assign rfl) rfl ?_
          refine R_nil ?_
          refine X_in_normal ?_
          refine X_then hK28 ?_
          refine C_region ?_
          refine R_pu (pu_move rfl) rfl ?_
          refine R_pu (pu_sub (z := (56 - 8 * ((j : Nat) : Int)) - 8) rfl rfl (by rw [IntKind.wrap_i64]; omega)) rfl ?_
          refine R_pu (pu_assign rfl) rfl ?_
          refine R_nil ?_
          have f30 : Bk w13 px (u8s x) 40 := ((f_px_11.no k12).kept k13 (by have := f10.lt; omega))
          have f31 : Bk w13 po (u8s (List.replicate 16 0)) 40 := ((f_po_11.no k12).kept k13 (by have := f11.lt; omega))
          have f32 : Bk w13 pz (u8s (Hm.toB 16 (tk (Hm.be x) (Hm.be (Hm.toB 16 (tk (Hm.be x) (Hm.be (List.replicate 16 0)) l1))) l2))) 40 := ((f_pz_11.no k12).kept k13 (by have := f_pz_7.lt; omega))
          refine X_round (8 - (j + 1)) [(2, .slice A2 (l2.length) (c2)), (3, .pointer (some ⟨px, 0, none⟩)), (6, .pointer (some ⟨po, 0, none⟩)), (7, .pointer (some ⟨pz, 0, none⟩)), (8, .slice A_13 ((Hm.toB 8 (8 * l1.length) ++ lenB (8 * l2.length) (j + 1)).length) (c_13)), (10, .int .i64 (56 - 8 * (((j + 1) : Nat) : Int)))] (by omega) (Sub.cons rfl (Sub.cons rfl (Sub.cons rfl (Sub.cons rfl (Sub.consE rfl (by rw [List.append_assoc, lenB_snoc (v := 8 * l2.length) (j := j) (by omega)]) (Sub.consE rfl (valI (by omega)) (Sub.nil _))))))) ⟨j + 1, A_13, c_13, rfl, rfl, by omega, kk13, f30, f31, f32, ⟨by rw [← lenB_snoc (v := 8 * l2.length) (j := j) (by omega), ← List.append_assoc]; exact p13.ob, (Nat.le_trans (Nat.le_trans n_11.2 k12.size) k13.size)⟩⟩
        · refine C_exit ?_
          refine X_then_exit (X_then_exit (X_in_eq ?_))
          refine X_then hK24 ?_
          refine C_seq (fun K33 hK33 => ?_)
          refine C_region ?_
          refine R_pu (pu_loadRow (len := 16) f_pz_11 (by kernel_rfl) (by kernel_rfl) (by rw [u8s_length]; exact (toB_by 16 _).1) rfl) rfl ?_
          refine R_pu (pu_loadRow (len := 16) f_px_11 (by kernel_rfl) (by kernel_rfl) (by rw [u8s_length]; exact bx.1) rfl) rfl ?_
          refine R_pu (pu_move rfl) rfl ?_
          refine R_lo (lo_call (by kernel_rfl) rfl (ref_take (Hm.toB 16 (tk (Hm.be x) (Hm.be (Hm.toB 16 (tk (Hm.be x) (Hm.be (List.replicate 16 0)) l1))) l2)) x (toB_by 16 _) bx Am (Hm.toB 8 (8 * l1.length) ++ lenB (8 * l2.length) j) cm _ n_11.1.bs n_11.1.le.2 (by simp [lenB_length hj, Hm.toB_length]; omega))) rfl ?_
          rintro _ w14 ⟨rfl, k14⟩
          have kk14 := kk11.then_ k14
          have f34 : Bk w14 po (u8s (List.replicate 16 0)) 40 := (f_po_11.no k14)
          refine R_lo0 (lo_storeRow (C := u8s (Hm.toB 16 (tk (Hm.be x) (Hm.be (Hm.toB 16 (tk (Hm.be x) (Hm.be (Hm.toB 16 (tk (Hm.be x) (Hm.be (List.replicate 16 0)) l1))) l2))) (Hm.toB 8 (8 * l1.length) ++ lenB (8 * l2.length) j)))) f34 (by rw [u8s_length, (toB_by 16 _).1]; kernel_rfl) rfl rfl (u8s_each _) ((u8s_length _).trans ((toB_by 16 _).1.trans ((rep_by 16).1.symm.trans (u8s_length _).symm)))) ?_
          rintro _ w15 kf15
          obtain ⟨k15, f_po_15⟩ := kf15
          replace f_po_15 : Bk w15 po (u8s (Hm.toB 16 (tk (Hm.be x) (Hm.be (Hm.toB 16 (tk (Hm.be x) (Hm.be (Hm.toB 16 (tk (Hm.be x) (Hm.be (List.replicate 16 0)) l1))) l2))) (Hm.toB 8 (8 * l1.length) ++ lenB (8 * l2.length) j)))) 40 := f_po_15
          have kk15 := kk14.trans k15 (fun i hi => .inr (hi ▸ (Nat.le_trans kk1.size N2.le)))
          refine R_nil ?_
          refine X_then hK33 ?_
          refine C_ret ?_
          exact X_retRow (len := 16) (.inl rfl) rfl rfl f_po_15 (by kernel_rfl) (by kernel_rfl) (by rw [u8s_length]; exact (toB_by 16 _).1) ⟨by rw [hash_fin bx hs1 hs2 (by omega)], kk15⟩
    · refine Nx_lo rfl (lo_alloc (L := u8s (List.replicate 16 0)) (by kernel_rfl)) rfl ?_
      rintro _ w16 ⟨pz, rfl, N16⟩
      have k16 := N16.kp
      have kk16 := kk4.then_ k16
      have ne_pz_px : pz ≠ px := Nat.ne_of_gt (Nat.lt_of_lt_of_le f4.lt N16.le)
      have ne_pz_po : pz ≠ po := Nat.ne_of_gt (Nat.lt_of_lt_of_le f5.lt N16.le)
      have f_pz_16 : Bk w16 pz (u8s (List.replicate 16 0)) 40 := N16.bk
      have f35 : Bk w16 px (u8s x) 40 := (f4.no k16)
      have f36 : Bk w16 po (u8s (List.replicate 16 0)) 40 := (f5.no k16)
      refine ⟨⟨kk16, f35, f36⟩, ?_⟩
      refine D_one 6 (by kernel_rfl) (Nx_lo rfl (lo_call (by kernel_rfl) rfl (ref_take (Hm.toB 16 (tk (Hm.be x) (Hm.be (List.replicate 16 0)) l1)) x (toB_by 16 _) bx A2 l2 c2 _ (HB2.keptNo kk16) hc2 (by first | omega | (simp; done) | (simp; omega)))) rfl ?_)
      rintro _ w17 ⟨rfl, k17⟩
      have kk17 := kk16.then_ k17
      have f37 : Bk w17 px (u8s x) 40 := (f35.no k17)
      have f38 : Bk w17 po (u8s (List.replicate 16 0)) 40 := (f36.no k17)
      refine ⟨⟨kk17, f37, f38⟩, ?_⟩
      have f39 : Bk w17 pz (u8s (List.replicate 16 0)) 40 := (f_pz_16.no k17)
      refine D_one 8 (by kernel_rfl) (Nx_lo0 rfl (lo_storeRow (C := u8s (Hm.toB 16 (tk (Hm.be x) (Hm.be (Hm.toB 16 (tk (Hm.be x) (Hm.be (List.replicate 16 0)) l1))) l2))) f39 (by rw [u8s_length, (toB_by 16 _).1]; kernel_rfl) rfl rfl (u8s_each _) ((u8s_length _).trans ((toB_by 16 _).1.trans ((rep_by 16).1.symm.trans (u8s_length _).symm)))) ?_)
      rintro _ w18 kf18
      obtain ⟨k18, f_pz_18⟩ := kf18
      replace f_pz_18 : Bk w18 pz (u8s (Hm.toB 16 (tk (Hm.be x) (Hm.be (Hm.toB 16 (tk (Hm.be x) (Hm.be (List.replicate 16 0)) l1))) l2))) 40 := f_pz_18
      have kk18 := kk17.trans k18 (fun i hi => .inr (hi ▸ (Nat.le_trans kk4.size N16.le)))
      have f40 : Bk w18 px (u8s x) 40 := (f37.on k18 (Ne.symm ne_pz_px))
      have f41 : Bk w18 po (u8s (List.replicate 16 0)) 40 := (f38.on k18 (Ne.symm ne_pz_po))
      refine ⟨⟨kk18, f40, f41⟩, ?_⟩
      refine D_done (by kernel_rfl) ?_
      refine X_then hK2 ?_
      refine C_seq (fun K42 hK42 => ?_)
      refine C_region ?_
      refine R_pu (pu_assign rfl) rfl ?_
      refine R_nil ?_
      refine X_then hK42 ?_
      refine C_seq (fun K43 hK43 => ?_)
      refine C_seq (fun K44 hK44 => ?_)
      refine C_region ?_
      refine R_pu (pu_assign rfl) rfl ?_
      refine R_nil ?_
      refine X_then hK44 ?_
      refine C_block ?_
      have ob45 := Ob.nil w18 w18.heap.size
      have z46 := Nat.le_refl w18.heap.size
      refine C_loop (fun m_ l_ wr => ∃ j : Nat, ∃ An : Option Addr, ∃ cn : Nat, (m_ = 8 - j) ∧ (l_ = [(1, .slice A1 (l1.length) (c1)), (2, .slice A2 (l2.length) (c2)), (3, .pointer (some ⟨px, 0, none⟩)), (6, .pointer (some ⟨po, 0, none⟩)), (7, .pointer (some ⟨pz, 0, none⟩)), (8, .slice An ((lenB (8 * l1.length) j).length) (cn)), (9, .int .i64 (56 - 8 * ((j : Nat) : Int)))]) ∧ (j ≤ 8) ∧ (Kp No w wr) ∧ (Bk wr px (u8s x) 40) ∧ (Bk wr po (u8s (List.replicate 16 0)) 40) ∧ (Bk wr pz (u8s (Hm.toB 16 (tk (Hm.be x) (Hm.be (Hm.toB 16 (tk (Hm.be x) (Hm.be (List.replicate 16 0)) l1))) l2))) 40) ∧ (Ob wr w18.heap.size (.slice An (lenB (8 * l1.length) j).length cn) (lenB (8 * l1.length) j) ∧ w18.heap.size ≤ (wr).heap.size)) (8 - 0) [(1, .slice A1 (l1.length) (c1)), (2, .slice A2 (l2.length) (c2)), (3, .pointer (some ⟨px, 0, none⟩)), (6, .pointer (some ⟨po, 0, none⟩)), (7, .pointer (some ⟨pz, 0, none⟩)), (8, .slice none ((lenB (8 * l1.length) 0).length) (0)), (9, .int .i64 (56 - 8 * ((0 : Nat) : Int)))] (Sub.cons rfl (Sub.cons rfl (Sub.cons rfl (Sub.cons rfl (Sub.cons rfl (Sub.cons rfl (Sub.consE rfl rfl (Sub.nil _)))))))) ⟨0, none, 0, rfl, rfl, by omega, kk18, f40, f41, f_pz_18, ⟨ob45, z46⟩⟩ ?_
      rintro _ _ w19 ⟨j, An, cn, rfl, rfl, hj, kk19, f_px_19, f_po_19, f_pz_19, n_19⟩
      refine C_seq (fun K47 hK47 => ?_)
      refine C_seq (fun K48 hK48 => ?_)
      refine C_region ?_
      refine R_pu (pu_move rfl) rfl ?_
      refine R_pu (pu_geq (p := (56 - 8 * ((j : Nat) : Int)) ≥ 0) rfl rfl (by omega)) rfl ?_
      refine R_nil ?_
      refine X_then hK48 ?_
      refine C_dec rfl (fun h19 => ?_) (fun h19 => ?_)
      · refine C_skip ?_
        refine X_then hK47 ?_
        refine C_seq (fun K49 hK49 => ?_)
        refine C_block ?_
        refine C_region ?_
        refine R_pu (pu_move rfl) rfl ?_
        refine R_pu (pu_move rfl) rfl ?_
        refine R_pu (pu_len Tryz.underlying22 rfl) rfl ?_
        refine R_pu (pu_conv (z := ((l1.length : Nat) : Int)) Tryz.underlying3 Tryz.underlying99 rfl (by rw [IntKind.wrap_u64]; omega)) rfl ?_
        refine R_pu (pu_mul (z := ((8 * l1.length : Nat) : Int)) rfl rfl (by rw [IntKind.wrap_u64]; omega)) rfl ?_
        refine R_pu (pu_move rfl) rfl ?_
        refine R_pu (pu_conv (z := ((56 - 8 * j : Nat) : Int)) Tryz.underlying3 Tryz.underlying89 rfl (by rw [IntKind.wrap_u64]; omega)) rfl ?_
        refine R_pu (pu_shr (m := 56 - 8 * j) rfl rfl (shr_nat (8 * l1.length) (56 - 8 * j) (by simp only [IntKind.bits]; omega))) rfl ?_
        refine R_pu (pu_conv (z := ((((8 * l1.length) / 2 ^ (56 - 8 * j)) % 256 : Nat) : Int)) Tryz.underlying99 Tryz.underlying5 rfl (by have : (8 * l1.length) / 2 ^ (56 - 8 * j) < 18446744073709551616 := (show (8 * l1.length) / 2 ^ (56 - 8 * j) < 2 ^ 64 from Nat.lt_of_le_of_lt (Nat.div_le_self _ _) (by omega)); rw [IntKind.wrap_u8]; omega)) rfl ?_
        refine R_lo (lo_buildSlice (L := u8s ([((8 * l1.length) / 2 ^ (56 - 8 * j)) % 256])) Tryz.underlying22 rfl (by kernel_rfl)) rfl ?_
        rintro _ w20 ⟨p6_9, rfl, N20⟩
        have k20 := N20.kp
        have kk20 := kk19.then_ k20
        have ne_p6_9_px : p6_9 ≠ px := Nat.ne_of_gt (Nat.lt_of_lt_of_le f_px_19.lt N20.le)
        have ne_p6_9_po : p6_9 ≠ po := Nat.ne_of_gt (Nat.lt_of_lt_of_le f_po_19.lt N20.le)
        have ne_p6_9_pz : p6_9 ≠ pz := Nat.ne_of_gt (Nat.lt_of_lt_of_le f_pz_19.lt N20.le)
        have f_p6_9_20 : Bk w20 p6_9 (u8s ([((8 * l1.length) / 2 ^ (56 - 8 * j)) % 256])) 5 := N20.bk
        have ob50 := (n_19.1.keptNo k20)
        refine R_lo (lo_app (X := lenB (8 * l1.length) j) (Y := [((8 * l1.length) / 2 ^ (56 - 8 * j)) % 256]) ob50 ob50.le.1 rfl rfl (show By 1 [((8 * l1.length) / 2 ^ (56 - 8 * j)) % 256] from ⟨rfl, fun n hn => by rw [List.mem_singleton.1 hn]; exact (Nat.mod_lt _ (by decide))⟩).1 (Bs.ofBk f_p6_9_20 (show By 1 [((8 * l1.length) / 2 ^ (56 - 8 * j)) % 256] from ⟨rfl, fun n hn => by rw [List.mem_singleton.1 hn]; exact (Nat.mod_lt _ (by decide))⟩)) (by simp [lenB_length hj, Hm.toB_length]; omega) (Nat.le_trans n_19.2 k20.size)) rfl ?_
        rintro _ w21 ⟨A_21, c_21, rfl, p21⟩
        have k21 := p21.kp
        have kk21 := kk20.trans k21 (fun i hi => .inr (Nat.le_trans (kk18).size hi))
        refine R_pu (pu_assign rfl) rfl ?_
        refine R_nil ?_
        refine X_in_normal ?_
        refine X_then hK49 ?_
        refine C_region ?_
        refine R_pu (pu_move rfl) rfl ?_
        refine R_pu (pu_sub (z := (56 - 8 * ((j : Nat) : Int)) - 8) rfl rfl (by rw [IntKind.wrap_i64]; omega)) rfl ?_
        refine R_pu (pu_assign rfl) rfl ?_
        refine R_nil ?_
        have f51 : Bk w21 px (u8s x) 40 := ((f_px_19.no k20).kept k21 (by have := f40.lt; omega))
        have f52 : Bk w21 po (u8s (List.replicate 16 0)) 40 := ((f_po_19.no k20).kept k21 (by have := f41.lt; omega))
        have f53 : Bk w21 pz (u8s (Hm.toB 16 (tk (Hm.be x) (Hm.be (Hm.toB 16 (tk (Hm.be x) (Hm.be (List.replicate 16 0)) l1))) l2))) 40 := ((f_pz_19.no k20).kept k21 (by have := f_pz_18.lt; omega))
        refine X_round (8 - (j + 1)) [(1, .slice A1 (l1.length) (c1)), (2, .slice A2 (l2.length) (c2)), (3, .pointer (some ⟨px, 0, none⟩)), (6, .pointer (some ⟨po, 0, none⟩)), (7, .pointer (some ⟨pz, 0, none⟩)), (8, .slice A_21 ((lenB (8 * l1.length) (j + 1)).length) (c_21)), (9, .int .i64 (56 - 8 * (((j + 1) : Nat) : Int)))] (by omega) (Sub.cons rfl (Sub.cons rfl (Sub.cons rfl (Sub.cons rfl (Sub.cons rfl (Sub.consE rfl (by rw [lenB_snoc (v := 8 * l1.length) (j := j) (by omega)]) (Sub.consE rfl (valI (by omega)) (Sub.nil _)))))))) ⟨j + 1, A_21, c_21, rfl, rfl, by omega, kk21, f51, f52, f53, ⟨by rw [← lenB_snoc (v := 8 * l1.length) (j := j) (by omega)]; exact p21.ob, (Nat.le_trans (Nat.le_trans n_19.2 k20.size) k21.size)⟩⟩
      · refine C_exit ?_
        refine X_then_exit (X_then_exit (X_in_eq ?_))
        refine X_then hK43 ?_
        refine C_seq (fun K54 hK54 => ?_)
        refine C_seq (fun K55 hK55 => ?_)
        refine C_region ?_
        refine R_pu (pu_assign rfl) rfl ?_
        refine R_nil ?_
        refine X_then hK55 ?_
        refine C_block ?_
        have e1 : lenB (8 * l1.length) j = Hm.toB 8 (8 * l1.length) ++ lenB (8 * l2.length) 0 := by rw [lenB_all _ j (by omega)]; exact (List.append_nil _).symm
        refine C_loop (fun m_ l_ wr => ∃ j : Nat, ∃ Am : Option Addr, ∃ cm : Nat, (m_ = 8 - j) ∧ (l_ = [(2, .slice A2 (l2.length) (c2)), (3, .pointer (some ⟨px, 0, none⟩)), (6, .pointer (some ⟨po, 0, none⟩)), (7, .pointer (some ⟨pz, 0, none⟩)), (8, .slice Am ((Hm.toB 8 (8 * l1.length) ++ lenB (8 * l2.length) j).length) (cm)), (10, .int .i64 (56 - 8 * ((j : Nat) : Int)))]) ∧ (j ≤ 8) ∧ (Kp No w wr) ∧ (Bk wr px (u8s x) 40) ∧ (Bk wr po (u8s (List.replicate 16 0)) 40) ∧ (Bk wr pz (u8s (Hm.toB 16 (tk (Hm.be x) (Hm.be (Hm.toB 16 (tk (Hm.be x) (Hm.be (List.replicate 16 0)) l1))) l2))) 40) ∧ (Ob wr w18.heap.size (.slice Am (Hm.toB 8 (8 * l1.length) ++ lenB (8 * l2.length) j).length cm) (Hm.toB 8 (8 * l1.length) ++ lenB (8 * l2.length) j) ∧ w18.heap.size ≤ (wr).heap.size)) (8 - 0) [(2, .slice A2 (l2.length) (c2)), (3, .pointer (some ⟨px, 0, none⟩)), (6, .pointer (some ⟨po, 0, none⟩)), (7, .pointer (some ⟨pz, 0, none⟩)), (8, .slice An ((Hm.toB 8 (8 * l1.length) ++ lenB (8 * l2.length) 0).length) (cn)), (10, .int .i64 (56 - 8 * ((0 : Nat) : Int)))] (Sub.cons rfl (Sub.cons rfl (Sub.cons rfl (Sub.cons rfl (Sub.consE rfl (by rw [← e1]) (Sub.consE rfl rfl (Sub.nil _))))))) ⟨0, An, cn, rfl, rfl, by omega, kk19, f_px_19, f_po_19, f_pz_19, ⟨by rw [← e1]; exact n_19.1, n_19.2⟩⟩ ?_
        rintro _ _ w22 ⟨j, Am, cm, rfl, rfl, hj, kk22, f_px_22, f_po_22, f_pz_22, n_22⟩
        refine C_seq (fun K56 hK56 => ?_)
        refine C_seq (fun K57 hK57 => ?_)
        refine C_region ?_
        refine R_pu (pu_move rfl) rfl ?_
        refine R_pu (pu_geq (p := (56 - 8 * ((j : Nat) : Int)) ≥ 0) rfl rfl (by omega)) rfl ?_
        refine R_nil ?_
        refine X_then hK57 ?_
        refine C_dec rfl (fun h34 => ?_) (fun h34 => ?_)
        · refine C_skip ?_
          refine X_then hK56 ?_
          refine C_seq (fun K58 hK58 => ?_)
          refine C_block ?_
          refine C_region ?_
          refine R_pu (pu_move rfl) rfl ?_
          refine R_pu (pu_move rfl) rfl ?_
          refine R_pu (pu_len Tryz.underlying22 rfl) rfl ?_
          refine R_pu (pu_conv (z := ((l2.length : Nat) : Int)) Tryz.underlying3 Tryz.underlying99 rfl (by rw [IntKind.wrap_u64]; omega)) rfl ?_
          refine R_pu (pu_mul (z := ((8 * l2.length : Nat) : Int)) rfl rfl (by rw [IntKind.wrap_u64]; omega)) rfl ?_
          refine R_pu (pu_move rfl) rfl ?_
          refine R_pu (pu_conv (z := ((56 - 8 * j : Nat) : Int)) Tryz.underlying3 Tryz.underlying89 rfl (by rw [IntKind.wrap_u64]; omega)) rfl ?_
          refine R_pu (pu_shr (m := 56 - 8 * j) rfl rfl (shr_nat (8 * l2.length) (56 - 8 * j) (by simp only [IntKind.bits]; omega))) rfl ?_
          refine R_pu (pu_conv (z := ((((8 * l2.length) / 2 ^ (56 - 8 * j)) % 256 : Nat) : Int)) Tryz.underlying99 Tryz.underlying5 rfl (by have : (8 * l2.length) / 2 ^ (56 - 8 * j) < 18446744073709551616 := (show (8 * l2.length) / 2 ^ (56 - 8 * j) < 2 ^ 64 from Nat.lt_of_le_of_lt (Nat.div_le_self _ _) (by omega)); rw [IntKind.wrap_u8]; omega)) rfl ?_
          refine R_lo (lo_buildSlice (L := u8s ([((8 * l2.length) / 2 ^ (56 - 8 * j)) % 256])) Tryz.underlying22 rfl (by kernel_rfl)) rfl ?_
          rintro _ w23 ⟨p10_9, rfl, N23⟩
          have k23 := N23.kp
          have kk23 := kk22.then_ k23
          have ne_p10_9_px : p10_9 ≠ px := Nat.ne_of_gt (Nat.lt_of_lt_of_le f_px_22.lt N23.le)
          have ne_p10_9_po : p10_9 ≠ po := Nat.ne_of_gt (Nat.lt_of_lt_of_le f_po_22.lt N23.le)
          have ne_p10_9_pz : p10_9 ≠ pz := Nat.ne_of_gt (Nat.lt_of_lt_of_le f_pz_22.lt N23.le)
          have f_p10_9_23 : Bk w23 p10_9 (u8s ([((8 * l2.length) / 2 ^ (56 - 8 * j)) % 256])) 5 := N23.bk
          have ob59 := (n_22.1.keptNo k23)
          refine R_lo (lo_app (X := Hm.toB 8 (8 * l1.length) ++ lenB (8 * l2.length) j) (Y := [((8 * l2.length) / 2 ^ (56 - 8 * j)) % 256]) ob59 ob59.le.1 rfl rfl (show By 1 [((8 * l2.length) / 2 ^ (56 - 8 * j)) % 256] from ⟨rfl, fun n hn => by rw [List.mem_singleton.1 hn]; exact (Nat.mod_lt _ (by decide))⟩).1 (Bs.ofBk f_p10_9_23 (show By 1 [((8 * l2.length) / 2 ^ (56 - 8 * j)) % 256] from ⟨rfl, fun n hn => by rw [List.mem_singleton.1 hn]; exact (Nat.mod_lt _ (by decide))⟩)) (by simp [lenB_length hj, Hm.toB_length]; omega) (Nat.le_trans n_22.2 k23.size)) rfl ?_
          rintro _ w24 ⟨A_24, c_24, rfl, p24⟩
          have k24 := p24.kp
          have kk24 := kk23.trans k24 (fun i hi => .inr (Nat.le_trans (kk18).size hi))
          refine R_pu (pu_assign rfl) rfl ?_
          refine R_nil ?_
          refine X_in_normal ?_
          refine X_then hK58 ?_
          refine C_region ?_
          refine R_pu (pu_move rfl) rfl ?_
          refine R_pu (pu_sub (z := (56 - 8 * ((j : Nat) : Int)) - 8) rfl rfl (by rw [IntKind.wrap_i64]; omega)) rfl ?_
          refine R_pu (pu_assign rfl) rfl ?_
          refine R_nil ?_
          have f60 : Bk w24 px (u8s x) 40 := ((f_px_22.no k23).kept k24 (by have := f40.lt; omega))
          have f61 : Bk w24 po (u8s (List.replicate 16 0)) 40 := ((f_po_22.no k23).kept k24 (by have := f41.lt; omega))
          have f62 : Bk w24 pz (u8s (Hm.toB 16 (tk (Hm.be x) (Hm.be (Hm.toB 16 (tk (Hm.be x) (Hm.be (List.replicate 16 0)) l1))) l2))) 40 := ((f_pz_22.no k23).kept k24 (by have := f_pz_18.lt; omega))
          refine X_round (8 - (j + 1)) [(2, .slice A2 (l2.length) (c2)), (3, .pointer (some ⟨px, 0, none⟩)), (6, .pointer (some ⟨po, 0, none⟩)), (7, .pointer (some ⟨pz, 0, none⟩)), (8, .slice A_24 ((Hm.toB 8 (8 * l1.length) ++ lenB (8 * l2.length) (j + 1)).length) (c_24)), (10, .int .i64 (56 - 8 * (((j + 1) : Nat) : Int)))] (by omega) (Sub.cons rfl (Sub.cons rfl (Sub.cons rfl (Sub.cons rfl (Sub.consE rfl (by rw [List.append_assoc, lenB_snoc (v := 8 * l2.length) (j := j) (by omega)]) (Sub.consE rfl (valI (by omega)) (Sub.nil _))))))) ⟨j + 1, A_24, c_24, rfl, rfl, by omega, kk24, f60, f61, f62, ⟨by rw [← lenB_snoc (v := 8 * l2.length) (j := j) (by omega), ← List.append_assoc]; exact p24.ob, (Nat.le_trans (Nat.le_trans n_22.2 k23.size) k24.size)⟩⟩
        · refine C_exit ?_
          refine X_then_exit (X_then_exit (X_in_eq ?_))
          refine X_then hK54 ?_
          refine C_seq (fun K63 hK63 => ?_)
          refine C_region ?_
          refine R_pu (pu_loadRow (len := 16) f_pz_22 (by kernel_rfl) (by kernel_rfl) (by rw [u8s_length]; exact (toB_by 16 _).1) rfl) rfl ?_
          refine R_pu (pu_loadRow (len := 16) f_px_22 (by kernel_rfl) (by kernel_rfl) (by rw [u8s_length]; exact bx.1) rfl) rfl ?_
          refine R_pu (pu_move rfl) rfl ?_
          refine R_lo (lo_call (by kernel_rfl) rfl (ref_take (Hm.toB 16 (tk (Hm.be x) (Hm.be (Hm.toB 16 (tk (Hm.be x) (Hm.be (List.replicate 16 0)) l1))) l2)) x (toB_by 16 _) bx Am (Hm.toB 8 (8 * l1.length) ++ lenB (8 * l2.length) j) cm _ n_22.1.bs n_22.1.le.2 (by simp [lenB_length hj, Hm.toB_length]; omega))) rfl ?_
          rintro _ w25 ⟨rfl, k25⟩
          have kk25 := kk22.then_ k25
          have f64 : Bk w25 po (u8s (List.replicate 16 0)) 40 := (f_po_22.no k25)
          refine R_lo0 (lo_storeRow (C := u8s (Hm.toB 16 (tk (Hm.be x) (Hm.be (Hm.toB 16 (tk (Hm.be x) (Hm.be (Hm.toB 16 (tk (Hm.be x) (Hm.be (List.replicate 16 0)) l1))) l2))) (Hm.toB 8 (8 * l1.length) ++ lenB (8 * l2.length) j)))) f64 (by rw [u8s_length, (toB_by 16 _).1]; kernel_rfl) rfl rfl (u8s_each _) ((u8s_length _).trans ((toB_by 16 _).1.trans ((rep_by 16).1.symm.trans (u8s_length _).symm)))) ?_
          rintro _ w26 kf26
          obtain ⟨k26, f_po_26⟩ := kf26
          replace f_po_26 : Bk w26 po (u8s (Hm.toB 16 (tk (Hm.be x) (Hm.be (Hm.toB 16 (tk (Hm.be x) (Hm.be (Hm.toB 16 (tk (Hm.be x) (Hm.be (List.replicate 16 0)) l1))) l2))) (Hm.toB 8 (8 * l1.length) ++ lenB (8 * l2.length) j)))) 40 := f_po_26
          have kk26 := kk25.trans k26 (fun i hi => .inr (hi ▸ (Nat.le_trans kk1.size N2.le)))
          refine R_nil ?_
          refine X_then hK63 ?_
          refine C_ret ?_
          exact X_retRow (len := 16) (.inl rfl) rfl rfl f_po_26 (by kernel_rfl) (by kernel_rfl) (by rw [u8s_length]; exact (toB_by 16 _).1) ⟨by rw [hash_fin bx hs1 hs2 (by omega)], kk26⟩
  · have f65 : Bk w3 px (u8s x) 40 := (f3.no k3)
    have f66 : Bk w3 po (u8s (List.replicate 16 0)) 40 := (f_po_2.no k3)
    refine Nx_lo rfl (lo_alloc (L := u8s (List.replicate 16 0)) (by kernel_rfl)) rfl ?_
    rintro _ w27 ⟨pz, rfl, N27⟩
    have k27 := N27.kp
    have kk27 := kk3.then_ k27
    have ne_pz_px : pz ≠ px := Nat.ne_of_gt (Nat.lt_of_lt_of_le f65.lt N27.le)
    have ne_pz_po : pz ≠ po := Nat.ne_of_gt (Nat.lt_of_lt_of_le f66.lt N27.le)
    have f_pz_27 : Bk w27 pz (u8s (List.replicate 16 0)) 40 := N27.bk
    have f67 : Bk w27 px (u8s x) 40 := (f65.no k27)
    have f68 : Bk w27 po (u8s (List.replicate 16 0)) 40 := (f66.no k27)
    refine ⟨⟨kk27, f67, f68⟩, ?_⟩
    refine D_one 3 (by kernel_rfl) (Nx_lo rfl (lo_call (by kernel_rfl) rfl (ref_take (List.replicate 16 0) x (rep_by 16) bx A1 l1 c1 _ (HB1.keptNo kk27) hc1 (by first | omega | (simp; done) | (simp; omega)))) rfl ?_)
    rintro _ w28 ⟨rfl, k28⟩
    have kk28 := kk27.then_ k28
    have f69 : Bk w28 px (u8s x) 40 := (f67.no k28)
    have f70 : Bk w28 po (u8s (List.replicate 16 0)) 40 := (f68.no k28)
    refine ⟨⟨kk28, f69, f70⟩, ?_⟩
    refine D_one 6 (by kernel_rfl) (Nx_lo rfl (lo_call (by kernel_rfl) rfl (ref_take (Hm.toB 16 (tk (Hm.be x) (Hm.be (List.replicate 16 0)) l1)) x (toB_by 16 _) bx A2 l2 c2 _ (HB2.keptNo kk28) hc2 (by first | omega | (simp; done) | (simp; omega)))) rfl ?_)
    rintro _ w29 ⟨rfl, k29⟩
    have kk29 := kk28.then_ k29
    have f71 : Bk w29 px (u8s x) 40 := (f69.no k29)
    have f72 : Bk w29 po (u8s (List.replicate 16 0)) 40 := (f70.no k29)
    refine ⟨⟨kk29, f71, f72⟩, ?_⟩
    have f73 : Bk w29 pz (u8s (List.replicate 16 0)) 40 := ((f_pz_27.no k28).no k29)
    refine D_one 8 (by kernel_rfl) (Nx_lo0 rfl (lo_storeRow (C := u8s (Hm.toB 16 (tk (Hm.be x) (Hm.be (Hm.toB 16 (tk (Hm.be x) (Hm.be (List.replicate 16 0)) l1))) l2))) f73 (by rw [u8s_length, (toB_by 16 _).1]; kernel_rfl) rfl rfl (u8s_each _) ((u8s_length _).trans ((toB_by 16 _).1.trans ((rep_by 16).1.symm.trans (u8s_length _).symm)))) ?_)
    rintro _ w30 kf30
    obtain ⟨k30, f_pz_30⟩ := kf30
    replace f_pz_30 : Bk w30 pz (u8s (Hm.toB 16 (tk (Hm.be x) (Hm.be (Hm.toB 16 (tk (Hm.be x) (Hm.be (List.replicate 16 0)) l1))) l2))) 40 := f_pz_30
    have kk30 := kk29.trans k30 (fun i hi => .inr (hi ▸ (Nat.le_trans kk3.size N27.le)))
    have f74 : Bk w30 px (u8s x) 40 := (f71.on k30 (Ne.symm ne_pz_px))
    have f75 : Bk w30 po (u8s (List.replicate 16 0)) 40 := (f72.on k30 (Ne.symm ne_pz_po))
    refine ⟨⟨kk30, f74, f75⟩, ?_⟩
    refine D_done (by kernel_rfl) ?_
    refine X_then hK2 ?_
    refine C_seq (fun K76 hK76 => ?_)
    refine C_region ?_
    refine R_pu (pu_assign rfl) rfl ?_
    refine R_nil ?_
    refine X_then hK76 ?_
    refine C_seq (fun K77 hK77 => ?_)
    refine C_seq (fun K78 hK78 => ?_)
    refine C_region ?_
    refine R_pu (pu_assign rfl) rfl ?_
    refine R_nil ?_
    refine X_then hK78 ?_
    refine C_block ?_
    have ob79 := Ob.nil w30 w30.heap.size
    have z80 := Nat.le_refl w30.heap.size
    refine C_loop (fun m_ l_ wr => ∃ j : Nat, ∃ An : Option Addr, ∃ cn : Nat, (m_ = 8 - j) ∧ (l_ = [(1, .slice A1 (l1.length) (c1)), (2, .slice A2 (l2.length) (c2)), (3, .pointer (some ⟨px, 0, none⟩)), (6, .pointer (some ⟨po, 0, none⟩)), (7, .pointer (some ⟨pz, 0, none⟩)), (8, .slice An ((lenB (8 * l1.length) j).length) (cn)), (9, .int .i64 (56 - 8 * ((j : Nat) : Int)))]) ∧ (j ≤ 8) ∧ (Kp No w wr) ∧ (Bk wr px (u8s x) 40) ∧ (Bk wr po (u8s (List.replicate 16 0)) 40) ∧ (Bk wr pz (u8s (Hm.toB 16 (tk (Hm.be x) (Hm.be (Hm.toB 16 (tk (Hm.be x) (Hm.be (List.replicate 16 0)) l1))) l2))) 40) ∧ (Ob wr w30.heap.size (.slice An (lenB (8 * l1.length) j).length cn) (lenB (8 * l1.length) j) ∧ w30.heap.size ≤ (wr).heap.size)) (8 - 0) [(1, .slice A1 (l1.length) (c1)), (2, .slice A2 (l2.length) (c2)), (3, .pointer (some ⟨px, 0, none⟩)), (6, .pointer (some ⟨po, 0, none⟩)), (7, .pointer (some ⟨pz, 0, none⟩)), (8, .slice none ((lenB (8 * l1.length) 0).length) (0)), (9, .int .i64 (56 - 8 * ((0 : Nat) : Int)))] (Sub.cons rfl (Sub.cons rfl (Sub.cons rfl (Sub.cons rfl (Sub.cons rfl (Sub.cons rfl (Sub.consE rfl rfl (Sub.nil _)))))))) ⟨0, none, 0, rfl, rfl, by omega, kk30, f74, f75, f_pz_30, ⟨ob79, z80⟩⟩ ?_
    rintro _ _ w31 ⟨j, An, cn, rfl, rfl, hj, kk31, f_px_31, f_po_31, f_pz_31, n_31⟩
    refine C_seq (fun K81 hK81 => ?_)
    refine C_seq (fun K82 hK82 => ?_)
    refine C_region ?_
    refine R_pu (pu_move rfl) rfl ?_
    refine R_pu (pu_geq (p := (56 - 8 * ((j : Nat) : Int)) ≥ 0) rfl rfl (by omega)) rfl ?_
    refine R_nil ?_
    refine X_then hK82 ?_
    refine C_dec rfl (fun h19 => ?_) (fun h19 => ?_)
    · refine C_skip ?_
      refine X_then hK81 ?_
      refine C_seq (fun K83 hK83 => ?_)
      refine C_block ?_
      refine C_region ?_
      refine R_pu (pu_move rfl) rfl ?_
      refine R_pu (pu_move rfl) rfl ?_
      refine R_pu (pu_len Tryz.underlying22 rfl) rfl ?_
      refine R_pu (pu_conv (z := ((l1.length : Nat) : Int)) Tryz.underlying3 Tryz.underlying99 rfl (by rw [IntKind.wrap_u64]; omega)) rfl ?_
      refine R_pu (pu_mul (z := ((8 * l1.length : Nat) : Int)) rfl rfl (by rw [IntKind.wrap_u64]; omega)) rfl ?_
      refine R_pu (pu_move rfl) rfl ?_
      refine R_pu (pu_conv (z := ((56 - 8 * j : Nat) : Int)) Tryz.underlying3 Tryz.underlying89 rfl (by rw [IntKind.wrap_u64]; omega)) rfl ?_
      refine R_pu (pu_shr (m := 56 - 8 * j) rfl rfl (shr_nat (8 * l1.length) (56 - 8 * j) (by simp only [IntKind.bits]; omega))) rfl ?_
      refine R_pu (pu_conv (z := ((((8 * l1.length) / 2 ^ (56 - 8 * j)) % 256 : Nat) : Int)) Tryz.underlying99 Tryz.underlying5 rfl (by have : (8 * l1.length) / 2 ^ (56 - 8 * j) < 18446744073709551616 := (show (8 * l1.length) / 2 ^ (56 - 8 * j) < 2 ^ 64 from Nat.lt_of_le_of_lt (Nat.div_le_self _ _) (by omega)); rw [IntKind.wrap_u8]; omega)) rfl ?_
      refine R_lo (lo_buildSlice (L := u8s ([((8 * l1.length) / 2 ^ (56 - 8 * j)) % 256])) Tryz.underlying22 rfl (by kernel_rfl)) rfl ?_
      rintro _ w32 ⟨p6_9, rfl, N32⟩
      have k32 := N32.kp
      have kk32 := kk31.then_ k32
      have ne_p6_9_px : p6_9 ≠ px := Nat.ne_of_gt (Nat.lt_of_lt_of_le f_px_31.lt N32.le)
      have ne_p6_9_po : p6_9 ≠ po := Nat.ne_of_gt (Nat.lt_of_lt_of_le f_po_31.lt N32.le)
      have ne_p6_9_pz : p6_9 ≠ pz := Nat.ne_of_gt (Nat.lt_of_lt_of_le f_pz_31.lt N32.le)
      have f_p6_9_32 : Bk w32 p6_9 (u8s ([((8 * l1.length) / 2 ^ (56 - 8 * j)) % 256])) 5 := N32.bk
      have ob84 := (n_31.1.keptNo k32)
      refine R_lo (lo_app (X := lenB (8 * l1.length) j) (Y := [((8 * l1.length) / 2 ^ (56 - 8 * j)) % 256]) ob84 ob84.le.1 rfl rfl (show By 1 [((8 * l1.length) / 2 ^ (56 - 8 * j)) % 256] from ⟨rfl, fun n hn => by rw [List.mem_singleton.1 hn]; exact (Nat.mod_lt _ (by decide))⟩).1 (Bs.ofBk f_p6_9_32 (show By 1 [((8 * l1.length) / 2 ^ (56 - 8 * j)) % 256] from ⟨rfl, fun n hn => by rw [List.mem_singleton.1 hn]; exact (Nat.mod_lt _ (by decide))⟩)) (by simp [lenB_length hj, Hm.toB_length]; omega) (Nat.le_trans n_31.2 k32.size)) rfl ?_
      rintro _ w33 ⟨A_33, c_33, rfl, p33⟩
      have k33 := p33.kp
      have kk33 := kk32.trans k33 (fun i hi => .inr (Nat.le_trans (kk30).size hi))
      refine R_pu (pu_assign rfl) rfl ?_
      refine R_nil ?_
      refine X_in_normal ?_
      refine X_then hK83 ?_
      refine C_region ?_
      refine R_pu (pu_move rfl) rfl ?_
      refine R_pu (pu_sub (z := (56 - 8 * ((j : Nat) : Int)) - 8) rfl rfl (by rw [IntKind.wrap_i64]; omega)) rfl ?_
      refine R_pu (pu_assign rfl) rfl ?_
      refine R_nil ?_
      have f85 : Bk w33 px (u8s x) 40 := ((f_px_31.no k32).kept k33 (by have := f74.lt; omega))
      have f86 : Bk w33 po (u8s (List.replicate 16 0)) 40 := ((f_po_31.no k32).kept k33 (by have := f75.lt; omega))
      have f87 : Bk w33 pz (u8s (Hm.toB 16 (tk (Hm.be x) (Hm.be (Hm.toB 16 (tk (Hm.be x) (Hm.be (List.replicate 16 0)) l1))) l2))) 40 := ((f_pz_31.no k32).kept k33 (by have := f_pz_30.lt; omega))
      refine X_round (8 - (j + 1)) [(1, .slice A1 (l1.length) (c1)), (2, .slice A2 (l2.length) (c2)), (3, .pointer (some ⟨px, 0, none⟩)), (6, .pointer (some ⟨po, 0, none⟩)), (7, .pointer (some ⟨pz, 0, none⟩)), (8, .slice A_33 ((lenB (8 * l1.length) (j + 1)).length) (c_33)), (9, .int .i64 (56 - 8 * (((j + 1) : Nat) : Int)))] (by omega) (Sub.cons rfl (Sub.cons rfl (Sub.cons rfl (Sub.cons rfl (Sub.cons rfl (Sub.consE rfl (by rw [lenB_snoc (v := 8 * l1.length) (j := j) (by omega)]) (Sub.consE rfl (valI (by omega)) (Sub.nil _)))))))) ⟨j + 1, A_33, c_33, rfl, rfl, by omega, kk33, f85, f86, f87, ⟨by rw [← lenB_snoc (v := 8 * l1.length) (j := j) (by omega)]; exact p33.ob, (Nat.le_trans (Nat.le_trans n_31.2 k32.size) k33.size)⟩⟩
    · refine C_exit ?_
      refine X_then_exit (X_then_exit (X_in_eq ?_))
      refine X_then hK77 ?_
      refine C_seq (fun K88 hK88 => ?_)
      refine C_seq (fun K89 hK89 => ?_)
      refine C_region ?_
      refine R_pu (pu_assign rfl) rfl ?_
      refine R_nil ?_
      refine X_then hK89 ?_
      refine C_block ?_
      have e1 : lenB (8 * l1.length) j = Hm.toB 8 (8 * l1.length) ++ lenB (8 * l2.length) 0 := by rw [lenB_all _ j (by omega)]; exact (List.append_nil _).symm
      refine C_loop (fun m_ l_ wr => ∃ j : Nat, ∃ Am : Option Addr, ∃ cm : Nat, (m_ = 8 - j) ∧ (l_ = [(2, .slice A2 (l2.length) (c2)), (3, .pointer (some ⟨px, 0, none⟩)), (6, .pointer (some ⟨po, 0, none⟩)), (7, .pointer (some ⟨pz, 0, none⟩)), (8, .slice Am ((Hm.toB 8 (8 * l1.length) ++ lenB (8 * l2.length) j).length) (cm)), (10, .int .i64 (56 - 8 * ((j : Nat) : Int)))]) ∧ (j ≤ 8) ∧ (Kp No w wr) ∧ (Bk wr px (u8s x) 40) ∧ (Bk wr po (u8s (List.replicate 16 0)) 40) ∧ (Bk wr pz (u8s (Hm.toB 16 (tk (Hm.be x) (Hm.be (Hm.toB 16 (tk (Hm.be x) (Hm.be (List.replicate 16 0)) l1))) l2))) 40) ∧ (Ob wr w30.heap.size (.slice Am (Hm.toB 8 (8 * l1.length) ++ lenB (8 * l2.length) j).length cm) (Hm.toB 8 (8 * l1.length) ++ lenB (8 * l2.length) j) ∧ w30.heap.size ≤ (wr).heap.size)) (8 - 0) [(2, .slice A2 (l2.length) (c2)), (3, .pointer (some ⟨px, 0, none⟩)), (6, .pointer (some ⟨po, 0, none⟩)), (7, .pointer (some ⟨pz, 0, none⟩)), (8, .slice An ((Hm.toB 8 (8 * l1.length) ++ lenB (8 * l2.length) 0).length) (cn)), (10, .int .i64 (56 - 8 * ((0 : Nat) : Int)))] (Sub.cons rfl (Sub.cons rfl (Sub.cons rfl (Sub.cons rfl (Sub.consE rfl (by rw [← e1]) (Sub.consE rfl rfl (Sub.nil _))))))) ⟨0, An, cn, rfl, rfl, by omega, kk31, f_px_31, f_po_31, f_pz_31, ⟨by rw [← e1]; exact n_31.1, n_31.2⟩⟩ ?_
      rintro _ _ w34 ⟨j, Am, cm, rfl, rfl, hj, kk34, f_px_34, f_po_34, f_pz_34, n_34⟩
      refine C_seq (fun K90 hK90 => ?_)
      refine C_seq (fun K91 hK91 => ?_)
      refine C_region ?_
      refine R_pu (pu_move rfl) rfl ?_
      refine R_pu (pu_geq (p := (56 - 8 * ((j : Nat) : Int)) ≥ 0) rfl rfl (by omega)) rfl ?_
      refine R_nil ?_
      refine X_then hK91 ?_
      refine C_dec rfl (fun h34 => ?_) (fun h34 => ?_)
      · refine C_skip ?_
        refine X_then hK90 ?_
        refine C_seq (fun K92 hK92 => ?_)
        refine C_block ?_
        refine C_region ?_
        refine R_pu (pu_move rfl) rfl ?_
        refine R_pu (pu_move rfl) rfl ?_
        refine R_pu (pu_len Tryz.underlying22 rfl) rfl ?_
        refine R_pu (pu_conv (z := ((l2.length : Nat) : Int)) Tryz.underlying3 Tryz.underlying99 rfl (by rw [IntKind.wrap_u64]; omega)) rfl ?_
        refine R_pu (pu_mul (z := ((8 * l2.length : Nat) : Int)) rfl rfl (by rw [IntKind.wrap_u64]; omega)) rfl ?_
        refine R_pu (pu_move rfl) rfl ?_
        refine R_pu (pu_conv (z := ((56 - 8 * j : Nat) : Int)) Tryz.underlying3 Tryz.underlying89 rfl (by rw [IntKind.wrap_u64]; omega)) rfl ?_
        refine R_pu (pu_shr (m := 56 - 8 * j) rfl rfl (shr_nat (8 * l2.length) (56 - 8 * j) (by simp only [IntKind.bits]; omega))) rfl ?_
        refine R_pu (pu_conv (z := ((((8 * l2.length) / 2 ^ (56 - 8 * j)) % 256 : Nat) : Int)) Tryz.underlying99 Tryz.underlying5 rfl (by have : (8 * l2.length) / 2 ^ (56 - 8 * j) < 18446744073709551616 := (show (8 * l2.length) / 2 ^ (56 - 8 * j) < 2 ^ 64 from Nat.lt_of_le_of_lt (Nat.div_le_self _ _) (by omega)); rw [IntKind.wrap_u8]; omega)) rfl ?_
        refine R_lo (lo_buildSlice (L := u8s ([((8 * l2.length) / 2 ^ (56 - 8 * j)) % 256])) Tryz.underlying22 rfl (by kernel_rfl)) rfl ?_
        rintro _ w35 ⟨p10_9, rfl, N35⟩
        have k35 := N35.kp
        have kk35 := kk34.then_ k35
        have ne_p10_9_px : p10_9 ≠ px := Nat.ne_of_gt (Nat.lt_of_lt_of_le f_px_34.lt N35.le)
        have ne_p10_9_po : p10_9 ≠ po := Nat.ne_of_gt (Nat.lt_of_lt_of_le f_po_34.lt N35.le)
        have ne_p10_9_pz : p10_9 ≠ pz := Nat.ne_of_gt (Nat.lt_of_lt_of_le f_pz_34.lt N35.le)
        have f_p10_9_35 : Bk w35 p10_9 (u8s ([((8 * l2.length) / 2 ^ (56 - 8 * j)) % 256])) 5 := N35.bk
        have ob93 := (n_34.1.keptNo k35)
        refine R_lo (lo_app (X := Hm.toB 8 (8 * l1.length) ++ lenB (8 * l2.length) j) (Y := [((8 * l2.length) / 2 ^ (56 - 8 * j)) % 256]) ob93 ob93.le.1 rfl rfl (show By 1 [((8 * l2.length) / 2 ^ (56 - 8 * j)) % 256] from ⟨rfl, fun n hn => by rw [List.mem_singleton.1 hn]; exact (Nat.mod_lt _ (by decide))⟩).1 (Bs.ofBk f_p10_9_35 (show By 1 [((8 * l2.length) / 2 ^ (56 - 8 * j)) % 256] from ⟨rfl, fun n hn => by rw [List.mem_singleton.1 hn]; exact (Nat.mod_lt _ (by decide))⟩)) (by simp [lenB_length hj, Hm.toB_length]; omega) (Nat.le_trans n_34.2 k35.size)) rfl ?_
        rintro _ w36 ⟨A_36, c_36, rfl, p36⟩
        have k36 := p36.kp
        have kk36 := kk35.trans k36 (fun i hi => .inr (Nat.le_trans (kk30).size hi))
        refine R_pu (pu_assign rfl) rfl ?_
        refine R_nil ?_
        refine X_in_normal ?_
        refine X_then hK92 ?_
        refine C_region ?_
        refine R_pu (pu_move rfl) rfl ?_
        refine R_pu (pu_sub (z := (56 - 8 * ((j : Nat) : Int)) - 8) rfl rfl (by rw [IntKind.wrap_i64]; omega)) rfl ?_
        refine R_pu (pu_assign rfl) rfl ?_
        refine R_nil ?_
        have f94 : Bk w36 px (u8s x) 40 := ((f_px_34.no k35).kept k36 (by have := f74.lt; omega))
        have f95 : Bk w36 po (u8s (List.replicate 16 0)) 40 := ((f_po_34.no k35).kept k36 (by have := f75.lt; omega))
        have f96 : Bk w36 pz (u8s (Hm.toB 16 (tk (Hm.be x) (Hm.be (Hm.toB 16 (tk (Hm.be x) (Hm.be (List.replicate 16 0)) l1))) l2))) 40 := ((f_pz_34.no k35).kept k36 (by have := f_pz_30.lt; omega))
        refine X_round (8 - (j + 1)) [(2, .slice A2 (l2.length) (c2)), (3, .pointer (some ⟨px, 0, none⟩)), (6, .pointer (some ⟨po, 0, none⟩)), (7, .pointer (some ⟨pz, 0, none⟩)), (8, .slice A_36 ((Hm.toB 8 (8 * l1.length) ++ lenB (8 * l2.length) (j + 1)).length) (c_36)), (10, .int .i64 (56 - 8 * (((j + 1) : Nat) : Int)))] (by omega) (Sub.cons rfl (Sub.cons rfl (Sub.cons rfl (Sub.cons rfl (Sub.consE rfl (by rw [List.append_assoc, lenB_snoc (v := 8 * l2.length) (j := j) (by omega)]) (Sub.consE rfl (valI (by omega)) (Sub.nil _))))))) ⟨j + 1, A_36, c_36, rfl, rfl, by omega, kk36, f94, f95, f96, ⟨by rw [← lenB_snoc (v := 8 * l2.length) (j := j) (by omega), ← List.append_assoc]; exact p36.ob, (Nat.le_trans (Nat.le_trans n_34.2 k35.size) k36.size)⟩⟩
      · refine C_exit ?_
        refine X_then_exit (X_then_exit (X_in_eq ?_))
        refine X_then hK88 ?_
        refine C_seq (fun K97 hK97 => ?_)
        refine C_region ?_
        refine R_pu (pu_loadRow (len := 16) f_pz_34 (by kernel_rfl) (by kernel_rfl) (by rw [u8s_length]; exact (toB_by 16 _).1) rfl) rfl ?_
        refine R_pu (pu_loadRow (len := 16) f_px_34 (by kernel_rfl) (by kernel_rfl) (by rw [u8s_length]; exact bx.1) rfl) rfl ?_
        refine R_pu (pu_move rfl) rfl ?_
        refine R_lo (lo_call (by kernel_rfl) rfl (ref_take (Hm.toB 16 (tk (Hm.be x) (Hm.be (Hm.toB 16 (tk (Hm.be x) (Hm.be (List.replicate 16 0)) l1))) l2)) x (toB_by 16 _) bx Am (Hm.toB 8 (8 * l1.length) ++ lenB (8 * l2.length) j) cm _ n_34.1.bs n_34.1.le.2 (by simp [lenB_length hj, Hm.toB_length]; omega))) rfl ?_
        rintro _ w37 ⟨rfl, k37⟩
        have kk37 := kk34.then_ k37
        have f98 : Bk w37 po (u8s (List.replicate 16 0)) 40 := (f_po_34.no k37)
        refine R_lo0 (lo_storeRow (C := u8s (Hm.toB 16 (tk (Hm.be x) (Hm.be (Hm.toB 16 (tk (Hm.be x) (Hm.be (Hm.toB 16 (tk (Hm.be x) (Hm.be (List.replicate 16 0)) l1))) l2))) (Hm.toB 8 (8 * l1.length) ++ lenB (8 * l2.length) j)))) f98 (by rw [u8s_length, (toB_by 16 _).1]; kernel_rfl) rfl rfl (u8s_each _) ((u8s_length _).trans ((toB_by 16 _).1.trans ((rep_by 16).1.symm.trans (u8s_length _).symm)))) ?_
        rintro _ w38 kf38
        obtain ⟨k38, f_po_38⟩ := kf38
        replace f_po_38 : Bk w38 po (u8s (Hm.toB 16 (tk (Hm.be x) (Hm.be (Hm.toB 16 (tk (Hm.be x) (Hm.be (Hm.toB 16 (tk (Hm.be x) (Hm.be (List.replicate 16 0)) l1))) l2))) (Hm.toB 8 (8 * l1.length) ++ lenB (8 * l2.length) j)))) 40 := f_po_38
        have kk38 := kk37.trans k38 (fun i hi => .inr (hi ▸ (Nat.le_trans kk1.size N2.le)))
        refine R_nil ?_
        refine X_then hK97 ?_
        refine C_ret ?_
        exact X_retRow (len := 16) (.inl rfl) rfl rfl f_po_38 (by kernel_rfl) (by kernel_rfl) (by rw [u8s_length]; exact (toB_by 16 _).1) ⟨by rw [hash_fin bx hs1 hs2 (by omega)], kk38⟩
end Go.Proofs.YtfoenaleboodpaaGreatDoor
