/- Walks of the reference's sums and products of blocks (bursaryref10), and the plain laws that lead them to the numbers of Hm. -/
import Derived.Test.YtfoenaleboodpaaGreatDoorHv5
import Derived.Test.YtfoenaleboodpaaGreatDoorAr
import Derived.Test.YtfoenaleboodpaaGreatDoorLa
set_option linter.unusedVariables false
set_option linter.unusedSimpArgs false
namespace Go.Proofs.YtfoenaleboodpaaGreatDoor
open Go.RowKit 

def xorL (x y : List Nat) : List Nat := arr 16 (fun i => x.getD i 0 ^^^ y.getD i 0)
theorem xorL_by {x y : List Nat} (bx : By 16 x) (b_y : By 16 y) : By 16 (xorL x y) := arr_by fun i _ => xor_lt8 (getD_lt bx.2 i) (getD_lt b_y.2 i)
theorem xup_by {x y : List Nat} (bx : By 16 x) (b_y : By 16 y) (k : Nat) : By 16 (upto (fun i => x.getD i 0 ^^^ y.getD i 0) (fun i => x.getD i 0) k 16) := upto_by (fun i _ => xor_lt8 (getD_lt bx.2 i) (getD_lt b_y.2 i)) (fun i _ => getD_lt bx.2 i)
/-- A number's byte. -/
def byteOf (a i : Nat) : Nat := a / 256 ^ (15 - i) % 256
theorem byteOf_lt (a i : Nat) : byteOf a i < 256 := Nat.mod_lt _ (by decide)
theorem toB_arr (a : Nat) : Hm.toB 16 a = arr 16 (byteOf a) := by
  apply List.ext_getElem?
  intro i
  by_cases hi : i < 16
  · rw [Hm.toB_get 16 a i hi, arr_get _ hi]; rfl
  · rw [List.getElem?_eq_none (by rw [Hm.toB_length]; omega), List.getElem?_eq_none (by rw [arr_length]; omega)]
theorem pow256 (m : Nat) : 256 ^ m = 2 ^ (8 * m) := by rw [Nat.pow_mul]
theorem byteOf_xor (a b i : Nat) : byteOf (a ^^^ b) i = byteOf a i ^^^ byteOf b i := by
  unfold byteOf
  rw [pow256, Nat.xor_div_two_pow, show 256 = 2 ^ 8 by decide, Nat.xor_mod_two_pow]
theorem getD_toB (a : Nat) {i : Nat} (hi : i < 16) : (Hm.toB 16 a).getD i 0 = byteOf a i := by rw [toB_arr]; exact getD_some (arr_get _ hi)
theorem xorL_toB (a b : Nat) : xorL (Hm.toB 16 a) (Hm.toB 16 b) = Hm.toB 16 (a ^^^ b) := by
  rw [toB_arr (a ^^^ b)]
  exact arr_ext fun i hi => by simp only [getD_toB a hi, getD_toB b hi, byteOf_xor]
theorem byteOf_half {a i : Nat} (ha : a < 2 ^ 128) (hi : i < 16) : byteOf (a / 2) i = byteOf a i / 2 + (if 0 < i ∧ byteOf a (i - 1) % 2 = 1 then 128 else 0) := by
  unfold byteOf
  have e1 : a / 2 / 256 ^ (15 - i) = a / 256 ^ (15 - i) / 2 := by rw [Nat.div_div_eq_div_mul, Nat.div_div_eq_div_mul, Nat.mul_comm]
  rw [e1]
  by_cases h0 : 0 < i
  · have e2 : a / 256 ^ (15 - (i - 1)) = a / 256 ^ (15 - i) / 256 := by rw [show 15 - (i - 1) = 15 - i + 1 by omega, Nat.pow_succ, Nat.div_div_eq_div_mul]
    rw [e2]
    generalize a / 256 ^ (15 - i) = q
    by_cases h : q / 256 % 256 % 2 = 1
    · rw [if_pos ⟨h0, h⟩]; omega
    · rw [if_neg (fun c => h c.2)]; omega
  · obtain rfl : i = 0 := by omega
    rw [if_neg (by omega)]
    have : a / 256 ^ (15 - 0) < 256 := by rw [Nat.div_lt_iff_lt_mul (by decide)]; exact ha
    omega
/-- The numbers of a, from place j on those of a by two. -/
def sh (a j : Nat) : List Nat := arr 16 (fun i => if j ≤ i then byteOf (a / 2) i else byteOf a i)
theorem sh_by (a j : Nat) : By 16 (sh a j) := arr_by fun i _ => by split <;> exact byteOf_lt _ _
theorem sh_start (a : Nat) : Hm.toB 16 a = sh a 16 := by rw [toB_arr]; exact arr_ext fun i hi => by rw [if_neg (by omega)]
theorem sh_end (a : Nat) : sh a 0 = Hm.toB 16 (a / 2) := by rw [toB_arr]; exact arr_ext fun i hi => by rw [if_pos (by omega)]
theorem sh_step {a j v : Nat} (h1 : 1 ≤ j) (hv : v = byteOf (a / 2) (j - 1)) : (sh a j).set (j - 1) v = sh a (j - 1) := by
  unfold sh
  rw [arr_set]
  refine arr_ext fun i hi => ?_
  by_cases e : i = j - 1
  · rw [if_pos e, if_pos (by omega), hv, e]
  · rw [if_neg e]
    by_cases h : j ≤ i
    · rw [if_pos h, if_pos (by omega)]
    · rw [if_neg h, if_neg (by omega)]
theorem sh_get {a j i v : Nat} (h : (sh a j)[i]? = some v) (hj : i < j) : v = byteOf a i := by
  obtain ⟨_, e⟩ := arr_get' h
  rw [e, if_neg (by omega)]
theorem get_set_lt {l : List Nat} {i j v u : Nat} (h : (l.set j u)[i]? = some v) (hij : i ≠ j) : l[i]? = some v := by rwa [List.getElem?_set_ne (fun e => hij e.symm)] at h
theorem get_set_eq {l : List Nat} {j v u : Nat} (h : (l.set j u)[j]? = some v) : v = u := by
  rw [List.getElem?_set] at h
  simp at h
  exact h.2.symm
theorem step_odd {a j n m n' : Nat} (ha : a < 2 ^ 128) (h1 : 1 ≤ j) (h2 : j ≤ 16) (hj : 1 < j) (en : (sh a j)[j - 1]? = some n) (em : ((sh a j).set (j - 1) (n / 2))[j - 1 - 1]? = some m) (ho : m % 2 = 1)
    (en' : ((sh a j).set (j - 1) (n / 2))[j - 1]? = some n') : ((sh a j).set (j - 1) (n / 2)).set (j - 1) (n' + 128) = sh a (j - 1) := by
  rw [List.set_set]
  refine sh_step h1 ?_
  have e1 := sh_get en (by omega)
  have e2 := sh_get (get_set_lt em (by omega)) (by omega)
  have e3 := get_set_eq en'
  rw [byteOf_half ha (by omega), if_pos ⟨by omega, by rw [← e2]; exact ho⟩, ← e1, e3]
theorem step_even {a j n : Nat} (ha : a < 2 ^ 128) (h1 : 1 ≤ j) (h2 : j ≤ 16) (en : (sh a j)[j - 1]? = some n) (he : 1 < j → ∃ m, ((sh a j).set (j - 1) (n / 2))[j - 1 - 1]? = some m ∧ ¬ m % 2 = 1) : (sh a j).set (j - 1) (n / 2) = sh a (j - 1) := by
  refine sh_step h1 ?_
  have e1 := sh_get en (by omega)
  rw [byteOf_half ha (by omega), if_neg, ← e1, Nat.add_zero]
  rintro ⟨h0, ho⟩
  obtain ⟨m, em, hm⟩ := he (by omega)
  have e2 := sh_get (get_set_lt em (by omega)) (by omega)
  exact hm (by rw [e2]; exact ho)
theorem byteOf_R (i : Nat) (hi : i < 16) : byteOf Hm.R i = if i = 0 then 225 else 0 := by
  have : ∀ i, i < 16 → byteOf Hm.R i = if i = 0 then 225 else 0 := by decide +kernel
  exact this i hi
theorem low_of {a n : Nat} (h : (Hm.toB 16 a)[15]? = some n) : n % 2 = a % 2 := by
  have := getD_toB a (i := 15) (by decide)
  rw [getD_some h] at this
  rw [this]; unfold byteOf; simp
theorem end_odd {a j n : Nat} (hj : j = 0) (ho : a % 2 = 1) (en : (sh a j)[0]? = some n) : (sh a j).set 0 (n ^^^ 225) = Hm.toB 16 (Hm.mv a) := by
  subst hj
  rw [sh_end] at en ⊢
  unfold Hm.mv
  rw [if_pos ho]
  have e := getD_toB (a / 2) (i := 0) (by decide)
  rw [getD_some en] at e
  rw [toB_arr, toB_arr, arr_set]
  refine arr_ext fun i hi => ?_
  rw [byteOf_xor, byteOf_R i hi]
  by_cases h : i = 0
  · rw [if_pos h, if_pos h, e, h]
  · rw [if_neg h, if_neg h, Nat.xor_zero]
theorem end_even {a j : Nat} (hj : j = 0) (ho : ¬ a % 2 = 1) : sh a j = Hm.toB 16 (Hm.mv a) := by
  subst hj
  rw [sh_end]; unfold Hm.mv; rw [if_neg ho, Nat.xor_zero]
theorem bit_ref {x : List Nat} (bx : By 16 x) {i b : Nat} (hi : i < 128) (hb : x[i / 8]? = some b) : (b * 2 ^ (i % 8) % 256 ≥ 128) ↔ (Hm.be x).testBit (127 - i) = true := by
  have hx := Hm.toB_be bx.2
  rw [bx.1] at hx
  have e := getD_toB (Hm.be x) (i := i / 8) (by omega)
  rw [hx, getD_some hb] at e
  rw [e, Nat.testBit_eq_decide_div_mod_eq, decide_eq_true_iff]
  unfold byteOf
  have e2 : 127 - i = 8 * (15 - i / 8) + (7 - i % 8) := by omega
  rw [e2, Nat.pow_add, ← Nat.div_div_eq_div_mul, ← pow256]
  generalize Hm.be x / 256 ^ (15 - i / 8) = q
  have h8 : i % 8 < 8 := Nat.mod_lt _ (by decide)
  generalize i % 8 = r at h8
  rcases r with _ | _ | _ | _ | _ | _ | _ | _ | r <;> first | omega | (simp; omega)
theorem gz_t {x y i : Nat} (h : x.testBit (127 - i) = true) : Hm.gz x y (i + 1) = Hm.gz x y i ^^^ Hm.gv y i := by show (if _ then _ else _) = _; rw [if_pos h]
theorem gz_f {x y i : Nat} (h : ¬ x.testBit (127 - i) = true) : Hm.gz x y (i + 1) = Hm.gz x y i := by show (if _ then _ else _) = _; rw [if_neg h]
theorem rep_toB : List.replicate 16 0 = Hm.toB 16 0 := by decide
theorem toB_of_be {y : List Nat} (h : By 16 y) : y = Hm.toB 16 (Hm.be y) := by have := Hm.toB_be h.2; rw [h.1] at this; exact this.symm

set_option maxRecDepth 100000 in
set_option maxHeartbeats 2000000 in
theorem ref_add (x y : List Nat) (bx : By 16 x) (b_y : By 16 y) (w : World)  : Ret Tryz.prog 41 #[.agg (u8s x : List Value).toArray, .agg (u8s y : List Value).toArray] w (fun v w' => v = .agg (u8s (xorL x y)).toArray ∧ Kp No w w') := by
  have kk0 := Kp.refl No w
  refine enter (n := 20) [.agg (u8s x : List Value).toArray, .agg (u8s y : List Value).toArray] Tryz.func41 rfl rfl rfl ?_
  show Cw _ _ _ _ [(0, .agg (u8s x : List Value).toArray), (1, .agg (u8s y : List Value).toArray)] _
  refine C_seq (fun K1 hK1 => ?_)
  refine C_region ?_
  refine R_lo (lo_box (L := u8s x) rfl rfl) rfl ?_
  rintro _ w1 ⟨px, rfl, N1⟩
  have k1 := N1.kp
  have kk1 := kk0.then_ k1
  have f_px_1 : Bk w1 px (u8s x) 40 := N1.bk
  refine R_lo (lo_box (L := u8s y) rfl rfl) rfl ?_
  rintro _ w2 ⟨py, rfl, N2⟩
  have k2 := N2.kp
  have kk2 := kk1.then_ k2
  have ne_py_px : py ≠ px := Nat.ne_of_gt (Nat.lt_of_lt_of_le f_px_1.lt N2.le)
  have f_py_2 : Bk w2 py (u8s y) 40 := N2.bk
  have f2 : Bk w2 px (u8s x) 40 := (f_px_1.no k2)
  refine R_lo (lo_alloc (L := u8s (List.replicate 16 0)) (by kernel_rfl)) rfl ?_
  rintro _ w3 ⟨p0_2, rfl, N3⟩
  have k3 := N3.kp
  have kk3 := kk2.then_ k3
  have ne_p0_2_px : p0_2 ≠ px := Nat.ne_of_gt (Nat.lt_of_lt_of_le f2.lt N3.le)
  have ne_p0_2_py : p0_2 ≠ py := Nat.ne_of_gt (Nat.lt_of_lt_of_le f_py_2.lt N3.le)
  have f_p0_2_3 : Bk w3 p0_2 (u8s (List.replicate 16 0)) 40 := N3.bk
  refine R_nil ?_
  refine X_then hK1 ?_
  refine C_seq (fun K3 hK3 => ?_)
  refine C_seq (fun K4 hK4 => ?_)
  refine C_region ?_
  refine R_pu (pu_assign rfl) rfl ?_
  refine R_nil ?_
  refine X_then hK4 ?_
  refine C_block ?_
  have f5 : Bk w3 px (u8s x) 40 := (f2.no k3)
  have f6 : Bk w3 py (u8s y) 40 := (f_py_2.no k3)
  refine C_loop (fun m_ l_ wr => ∃ k : Nat, (m_ = 16 - k) ∧ (l_ = [(2, .pointer (some ⟨px, 0, none⟩)), (3, .pointer (some ⟨py, 0, none⟩)), (4, .pointer (some ⟨p0_2, 0, none⟩)), (5, .int .i64 ((k : Nat) : Int))]) ∧ (k ≤ 16) ∧ (Kp No w wr) ∧ (Bk wr px (u8s (upto (fun i => x.getD i 0 ^^^ y.getD i 0) (fun i => x.getD i 0) k 16)) 40) ∧ (Bk wr py (u8s y) 40) ∧ (Bk wr p0_2 (u8s (List.replicate 16 0)) 40)) (16 - 0) [(2, .pointer (some ⟨px, 0, none⟩)), (3, .pointer (some ⟨py, 0, none⟩)), (4, .pointer (some ⟨p0_2, 0, none⟩)), (5, .int .i64 0)] (Sub.cons rfl (Sub.cons rfl (Sub.cons rfl (Sub.cons rfl (Sub.nil _))))) ⟨0, rfl, rfl, by omega, kk3, Bk.eq f5 (congrArg u8s (by rw [upto_zero, arr_of bx.1])), f6, f_p0_2_3⟩ ?_
  rintro _ _ w4 ⟨k, rfl, rfl, hk, kk4, f_px_4, f_py_4, f_p0_2_4⟩
  refine C_seq (fun K7 hK7 => ?_)
  refine C_seq (fun K8 hK8 => ?_)
  refine C_region ?_
  refine R_pu (pu_move rfl) rfl ?_
  refine R_pu (pu_lss (p := k < 16) rfl rfl (by omega)) rfl ?_
  refine R_nil ?_
  refine X_then hK8 ?_
  refine C_dec rfl (fun h7 => ?_) (fun h7 => ?_)
  · refine C_skip ?_
    refine X_then hK7 ?_
    refine C_seq (fun K9 hK9 => ?_)
    refine C_block ?_
    refine D_begin (fun W => Kp No w W ∧ Bk W py (u8s y) 40 ∧ Bk W p0_2 (u8s (List.replicate 16 0)) 40) 10 rfl (by kernel_rfl) ⟨kk4.drew, f_py_4.draw, f_p0_2_4.draw⟩ ?_
    intro w5 k5 _
    have kk5 := kk4.then_ k5
    refine D_take 0 rfl (by kernel_rfl) (by kernel_rfl) (by kernel_rfl) (fun _ _ _ h => h) rfl (fun W hS => pu_move rfl) ?_
    refine D_take 1 rfl (by kernel_rfl) (by kernel_rfl) (by kernel_rfl) (fun _ _ _ h => h) rfl (fun W hS => pu_move rfl) ?_
    refine D_take 2 rfl (by kernel_rfl) (by kernel_rfl) (by kernel_rfl) (fun _ _ _ h => h) rfl (fun W hS => pu_indexAddrA (m := k) (s := 1) (o' := k) Tryz.underlying40 (by kernel_rfl) rfl rfl rfl (by omega) (by omega)) ?_
    refine D_take 4 rfl (by kernel_rfl) (by kernel_rfl) (by kernel_rfl) (fun _ _ _ h => h) rfl (fun W hS => pu_move rfl) ?_
    refine D_take 5 rfl (by kernel_rfl) (by kernel_rfl) (by kernel_rfl) (fun _ _ _ h => h) rfl (fun W hS => pu_indexAddrA (m := k) (s := 1) (o' := k) Tryz.underlying40 (by kernel_rfl) rfl rfl rfl (by omega) (by omega)) ?_
    obtain ⟨b, e_b⟩ : ∃ q_, (y)[k]? = some q_ := ⟨_, List.getElem?_eq_getElem (by rw [(b_y).1]; omega)⟩
    have b_b : b < 256 := (b_y).2 _ (List.mem_of_getElem? e_b)
    refine D_take 6 rfl (by kernel_rfl) (by kernel_rfl) (by kernel_rfl) (fun _ _ _ h => h) rfl (fun W hS => pu_loadK hS.2.1 (by kernel_rfl) rfl (u8s_get e_b)) ?_
    obtain ⟨a, e_a⟩ : ∃ q_, (upto (fun i => x.getD i 0 ^^^ y.getD i 0) (fun i => x.getD i 0) k 16)[k]? = some q_ := ⟨_, List.getElem?_eq_getElem (by rw [((xup_by bx b_y k)).1]; omega)⟩
    have b_a : a < 256 := ((xup_by bx b_y k)).2 _ (List.mem_of_getElem? e_a)
    have f10 : Bk w5 px (u8s (upto (fun i => x.getD i 0 ^^^ y.getD i 0) (fun i => x.getD i 0) k 16)) 40 := (f_px_4.no k5)
    have f11 : Bk w5 py (u8s y) 40 := (f_py_4.no k5)
    have f12 : Bk w5 p0_2 (u8s (List.replicate 16 0)) 40 := (f_p0_2_4.no k5)
    refine D_one 3 (by kernel_rfl) (Nx_pu rfl (pu_loadK f10 (by kernel_rfl) rfl (u8s_get e_a)) rfl ⟨⟨kk5, f11, f12⟩, ?_⟩)
    refine D_take 7 rfl (by kernel_rfl) (by kernel_rfl) (by kernel_rfl) (fun _ _ _ h => h) rfl (fun W hS => pu_xor rfl rfl (u8_xor_nat a b b_a b_b)) ?_
    refine D_take 8 rfl (by kernel_rfl) (by kernel_rfl) (by kernel_rfl) (fun _ _ _ h => h) rfl (fun W hS => pu_indexAddrA (m := k) (s := 1) (o' := k) Tryz.underlying40 (by kernel_rfl) rfl rfl rfl (by omega) (by omega)) ?_
    refine D_one 9 (by kernel_rfl) (Nx_lo0 rfl (lo_store f10 (by kernel_rfl) rfl rfl rfl (by rw [u8s_length, (xup_by bx b_y k).1]; omega)) ?_)
    rintro _ w6 kf6
    obtain ⟨k6, f_px_6⟩ := kf6
    replace f_px_6 := Bk.eq f_px_6 (u8s_set _ _ (a ^^^ b))
    replace f_px_6 : Bk w6 px (u8s ((upto (fun i => x.getD i 0 ^^^ y.getD i 0) (fun i => x.getD i 0) k 16).set k (a ^^^ b))) 40 := f_px_6
    have kk6 := kk5.trans k6 (fun i hi => .inr (hi ▸ (Nat.le_trans kk0.size N1.le)))
    have f13 : Bk w6 py (u8s y) 40 := (f11.on k6 ne_py_px)
    have f14 : Bk w6 p0_2 (u8s (List.replicate 16 0)) 40 := (f12.on k6 ne_p0_2_px)
    refine ⟨⟨kk6, f13, f14⟩, ?_⟩
    refine D_done (by kernel_rfl) ?_
    refine X_in_normal ?_
    refine X_then hK9 ?_
    refine C_region ?_
    refine R_pu (pu_move rfl) rfl ?_
    refine R_pu (pu_add (z := ((k + 1 : Nat) : Int)) rfl rfl (by rw [IntKind.wrap_i64]; omega)) rfl ?_
    refine R_pu (pu_assign rfl) rfl ?_
    refine R_nil ?_
    refine X_round (16 - (k + 1)) [(2, .pointer (some ⟨px, 0, none⟩)), (3, .pointer (some ⟨py, 0, none⟩)), (4, .pointer (some ⟨p0_2, 0, none⟩)), (5, .int .i64 (((k + 1) : Nat) : Int))] (by omega) (Sub.cons rfl (Sub.cons rfl (Sub.cons rfl (Sub.cons rfl (Sub.nil _))))) ⟨k + 1, rfl, rfl, by omega, kk6, Bk.eq f_px_6 (congrArg u8s (by rw [upto_set (by rw [(upto_get e_a).2, if_neg (by omega), getD_some e_b])])), f13, f14⟩
  · refine C_exit ?_
    refine X_then_exit (X_then_exit (X_in_eq ?_))
    refine X_then hK3 ?_
    refine C_seq (fun K15 hK15 => ?_)
    refine C_region ?_
    refine R_pu (pu_loadRow (len := 16) f_px_4 (by kernel_rfl) (by kernel_rfl) (by rw [u8s_length]; exact (xup_by bx b_y k).1) rfl) rfl ?_
    refine R_lo0 (lo_storeRow (C := u8s (upto (fun i => x.getD i 0 ^^^ y.getD i 0) (fun i => x.getD i 0) k 16)) f_p0_2_4 (by rw [u8s_length, (xup_by bx b_y k).1]; kernel_rfl) rfl rfl (u8s_each _) ((u8s_length _).trans ((xup_by bx b_y k).1.trans ((rep_by 16).1.symm.trans (u8s_length _).symm)))) ?_
    rintro _ w7 kf7
    obtain ⟨k7, f_p0_2_7⟩ := kf7
    replace f_p0_2_7 : Bk w7 p0_2 (u8s (upto (fun i => x.getD i 0 ^^^ y.getD i 0) (fun i => x.getD i 0) k 16)) 40 := f_p0_2_7
    have kk7 := kk4.trans k7 (fun i hi => .inr (hi ▸ (Nat.le_trans kk2.size N3.le)))
    refine R_nil ?_
    refine X_then hK15 ?_
    refine C_ret ?_
    exact X_retRow (len := 16) (.inl rfl) rfl rfl f_p0_2_7 (by kernel_rfl) (by kernel_rfl) (by rw [u8s_length]; exact (xup_by bx b_y k).1) ⟨by rw [upto_all _ _ (by omega : 16 ≤ k)]; rfl, kk7⟩
set_option maxRecDepth 100000 in
set_option maxHeartbeats 2000000 in
theorem ref_mul (x y : List Nat) (bx : By 16 x) (b_y : By 16 y) (w : World)  : Ret Tryz.prog 64 #[.agg (u8s x : List Value).toArray, .agg (u8s y : List Value).toArray] w (fun v w' => v = .agg (u8s (mulB x y)).toArray ∧ Kp No w w') := by
  have kk0 := Kp.refl No w
  refine enter (n := 63) [.agg (u8s x : List Value).toArray, .agg (u8s y : List Value).toArray] Tryz.func64 rfl rfl rfl ?_
  show Cw _ _ _ _ [(0, .agg (u8s x : List Value).toArray), (1, .agg (u8s y : List Value).toArray)] _
  refine C_seq (fun K1 hK1 => ?_)
  refine C_region ?_
  refine R_lo (lo_box (L := u8s x) rfl rfl) rfl ?_
  rintro _ w1 ⟨px, rfl, N1⟩
  have k1 := N1.kp
  have kk1 := kk0.then_ k1
  have f_px_1 : Bk w1 px (u8s x) 40 := N1.bk
  refine R_lo (lo_box (L := u8s y) rfl rfl) rfl ?_
  rintro _ w2 ⟨py, rfl, N2⟩
  have k2 := N2.kp
  have kk2 := kk1.then_ k2
  have ne_py_px : py ≠ px := Nat.ne_of_gt (Nat.lt_of_lt_of_le f_px_1.lt N2.le)
  have f_py_2 : Bk w2 py (u8s y) 40 := N2.bk
  have f2 : Bk w2 px (u8s x) 40 := (f_px_1.no k2)
  refine R_lo (lo_alloc (L := u8s (List.replicate 16 0)) (by kernel_rfl)) rfl ?_
  rintro _ w3 ⟨p0_2, rfl, N3⟩
  have k3 := N3.kp
  have kk3 := kk2.then_ k3
  have ne_p0_2_px : p0_2 ≠ px := Nat.ne_of_gt (Nat.lt_of_lt_of_le f2.lt N3.le)
  have ne_p0_2_py : p0_2 ≠ py := Nat.ne_of_gt (Nat.lt_of_lt_of_le f_py_2.lt N3.le)
  have f_p0_2_3 : Bk w3 p0_2 (u8s (List.replicate 16 0)) 40 := N3.bk
  refine R_nil ?_
  refine X_then hK1 ?_
  refine C_seq (fun K3 hK3 => ?_)
  refine C_region ?_
  have f4 : Bk w3 px (u8s x) 40 := (f2.no k3)
  have f5 : Bk w3 py (u8s y) 40 := (f_py_2.no k3)
  refine R_lo (lo_alloc (L := u8s (List.replicate 16 0)) (by kernel_rfl)) rfl ?_
  rintro _ w4 ⟨pz, rfl, N4⟩
  have k4 := N4.kp
  have kk4 := kk3.then_ k4
  have ne_pz_px : pz ≠ px := Nat.ne_of_gt (Nat.lt_of_lt_of_le f4.lt N4.le)
  have ne_pz_py : pz ≠ py := Nat.ne_of_gt (Nat.lt_of_lt_of_le f5.lt N4.le)
  have ne_pz_p0_2 : pz ≠ p0_2 := Nat.ne_of_gt (Nat.lt_of_lt_of_le f_p0_2_3.lt N4.le)
  have f_pz_4 : Bk w4 pz (u8s (List.replicate 16 0)) 40 := N4.bk
  refine R_nil ?_
  refine X_then hK3 ?_
  refine C_seq (fun K6 hK6 => ?_)
  refine C_region ?_
  have f7 : Bk w4 py (u8s y) 40 := (f5.no k4)
  refine R_pu (pu_loadRow (len := 16) f7 (by kernel_rfl) (by kernel_rfl) (by rw [u8s_length]; exact b_y.1) rfl) rfl ?_
  have f8 : Bk w4 px (u8s x) 40 := (f4.no k4)
  have f9 : Bk w4 p0_2 (u8s (List.replicate 16 0)) 40 := (f_p0_2_3.no k4)
  refine R_lo (lo_alloc (L := u8s (List.replicate 16 0)) (by kernel_rfl)) rfl ?_
  rintro _ w5 ⟨pv, rfl, N5⟩
  have k5 := N5.kp
  have kk5 := kk4.then_ k5
  have ne_pv_px : pv ≠ px := Nat.ne_of_gt (Nat.lt_of_lt_of_le f8.lt N5.le)
  have ne_pv_py : pv ≠ py := Nat.ne_of_gt (Nat.lt_of_lt_of_le f7.lt N5.le)
  have ne_pv_p0_2 : pv ≠ p0_2 := Nat.ne_of_gt (Nat.lt_of_lt_of_le f9.lt N5.le)
  have ne_pv_pz : pv ≠ pz := Nat.ne_of_gt (Nat.lt_of_lt_of_le f_pz_4.lt N5.le)
  have f_pv_5 : Bk w5 pv (u8s (List.replicate 16 0)) 40 := N5.bk
  refine R_lo0 (lo_storeRow (C := u8s y) f_pv_5 (by rw [u8s_length, b_y.1]; kernel_rfl) rfl rfl (u8s_each _) ((u8s_length _).trans (b_y.1.trans ((rep_by 16).1.symm.trans (u8s_length _).symm)))) ?_
  rintro _ w6 kf6
  obtain ⟨k6, f_pv_6⟩ := kf6
  replace f_pv_6 : Bk w6 pv (u8s y) 40 := f_pv_6
  have kk6 := kk5.trans k6 (fun i hi => .inr (hi ▸ (Nat.le_trans kk4.size N5.le)))
  refine R_nil ?_
  refine X_then hK6 ?_
  refine C_seq (fun K10 hK10 => ?_)
  refine C_seq (fun K11 hK11 => ?_)
  refine C_region ?_
  refine R_pu (pu_assign rfl) rfl ?_
  refine R_nil ?_
  refine X_then hK11 ?_
  refine C_block ?_
  have f12 : Bk w6 px (u8s x) 40 := ((f8.no k5).on k6 (Ne.symm ne_pv_px))
  have f13 : Bk w6 py (u8s y) 40 := ((f7.no k5).on k6 (Ne.symm ne_pv_py))
  have f14 : Bk w6 p0_2 (u8s (List.replicate 16 0)) 40 := ((f9.no k5).on k6 (Ne.symm ne_pv_p0_2))
  have f15 : Bk w6 pz (u8s (List.replicate 16 0)) 40 := ((f_pz_4.no k5).on k6 (Ne.symm ne_pv_pz))
  refine C_loop (fun m_ l_ wr => ∃ i : Nat, (m_ = 128 - i) ∧ (l_ = [(2, .pointer (some ⟨px, 0, none⟩)), (4, .pointer (some ⟨p0_2, 0, none⟩)), (5, .pointer (some ⟨pz, 0, none⟩)), (6, .pointer (some ⟨pv, 0, none⟩)), (7, .int .i64 ((i : Nat) : Int))]) ∧ (i ≤ 128) ∧ (Kp No w wr) ∧ (Bk wr px (u8s x) 40) ∧ (Bk wr py (u8s y) 40) ∧ (Bk wr p0_2 (u8s (List.replicate 16 0)) 40) ∧ (Bk wr pz (u8s (Hm.toB 16 (Hm.gz (Hm.be x) (Hm.be y) i))) 40) ∧ (Bk wr pv (u8s (Hm.toB 16 (Hm.gv (Hm.be y) i))) 40)) (128 - 0) [(2, .pointer (some ⟨px, 0, none⟩)), (4, .pointer (some ⟨p0_2, 0, none⟩)), (5, .pointer (some ⟨pz, 0, none⟩)), (6, .pointer (some ⟨pv, 0, none⟩)), (7, .int .i64 0)] (Sub.cons rfl (Sub.cons rfl (Sub.cons rfl (Sub.cons rfl (Sub.cons rfl (Sub.nil _)))))) ⟨0, rfl, rfl, by omega, kk6, f12, f13, f14, Bk.eq f15 (congrArg u8s rep_toB), Bk.eq f_pv_6 (congrArg u8s (toB_of_be b_y))⟩ ?_
  rintro _ _ w7 ⟨i, rfl, rfl, hi, kk7, f_px_7, f_py_7, f_p0_2_7, f_pz_7, f_pv_7⟩
  refine C_seq (fun K16 hK16 => ?_)
  refine C_seq (fun K17 hK17 => ?_)
  refine C_region ?_
  refine R_pu (pu_move rfl) rfl ?_
  refine R_pu (pu_lss (p := i < 128) rfl rfl (by omega)) rfl ?_
  refine R_nil ?_
  refine X_then hK17 ?_
  refine C_dec rfl (fun h12 => ?_) (fun h12 => ?_)
  · refine C_skip ?_
    refine X_then hK16 ?_
    refine C_seq (fun K18 hK18 => ?_)
    refine C_block ?_
    refine C_cut (fun l_ wr => (l_ = [(2, .pointer (some ⟨px, 0, none⟩)), (4, .pointer (some ⟨p0_2, 0, none⟩)), (5, .pointer (some ⟨pz, 0, none⟩)), (6, .pointer (some ⟨pv, 0, none⟩)), (7, .int .i64 ((i : Nat) : Int))]) ∧ (Kp No w wr) ∧ (Bk wr px (u8s x) 40) ∧ (Bk wr py (u8s y) 40) ∧ (Bk wr p0_2 (u8s (List.replicate 16 0)) 40) ∧ (Bk wr pz (u8s (Hm.toB 16 (Hm.gz (Hm.be x) (Hm.be y) (i + 1)))) 40) ∧ (Bk wr pv (u8s (Hm.toB 16 (Hm.gv (Hm.be y) i))) 40)) (fun K_ hK_ => ?_) ?_
    · refine C_seq (fun K19 hK19 => ?_)
      refine C_region ?_
      refine R_pu (pu_move rfl) rfl ?_
      refine R_pu (pu_quo (z := ((i / 8 : Nat) : Int)) rfl rfl (by omega) (by rw [Int.tdiv_eq_ediv_of_nonneg (by omega), IntKind.wrap_i64]; omega)) rfl ?_
      refine R_pu (pu_indexAddrA (m := i / 8) (s := 1) (o' := i / 8) Tryz.underlying40 (by kernel_rfl) rfl rfl rfl (by omega) (by omega)) rfl ?_
      obtain ⟨xb, e_xb⟩ : ∃ q_, (x)[i / 8]? = some q_ := ⟨_, List.getElem?_eq_getElem (by rw [(bx).1]; omega)⟩
      have b_xb : xb < 256 := (bx).2 _ (List.mem_of_getElem? e_xb)
      refine R_pu (pu_loadK f_px_7 (by kernel_rfl) rfl (u8s_get e_xb)) rfl ?_
      refine R_pu (pu_move rfl) rfl ?_
      refine R_pu (pu_rem (z := ((i % 8 : Nat) : Int)) rfl rfl (by omega) (by rfl)) rfl ?_
      refine R_pu (pu_conv (z := ((i % 8 : Nat) : Int)) Tryz.underlying3 Tryz.underlying89 rfl (by rw [IntKind.wrap_u64]; omega)) rfl ?_
      refine R_pu (pu_shl (m := i % 8) (z := ((xb * 2 ^ (i % 8) % 256 : Nat) : Int)) rfl rfl (shl_nat_u8 xb (i % 8) (by omega))) rfl ?_
      refine R_pu (pu_geq (p := (xb * 2 ^ (i % 8) % 256) ≥ 128) rfl rfl (by omega)) rfl ?_
      refine R_nil ?_
      refine X_then hK19 ?_
      refine C_dec rfl (fun h23 => ?_) (fun h23 => ?_)
      · refine C_region ?_
        refine R_pu (pu_loadRow (len := 16) f_pz_7 (by kernel_rfl) (by kernel_rfl) (by rw [u8s_length]; exact (toB_by 16 (Hm.gz (Hm.be x) (Hm.be y) i)).1) rfl) rfl ?_
        refine R_pu (pu_loadRow (len := 16) f_pv_7 (by kernel_rfl) (by kernel_rfl) (by rw [u8s_length]; exact (toB_by 16 (Hm.gv (Hm.be y) i)).1) rfl) rfl ?_
        refine R_lo (lo_call (by kernel_rfl) rfl (ref_add (Hm.toB 16 (Hm.gz (Hm.be x) (Hm.be y) i)) (Hm.toB 16 (Hm.gv (Hm.be y) i)) (toB_by 16 (Hm.gz (Hm.be x) (Hm.be y) i)) (toB_by 16 (Hm.gv (Hm.be y) i)) _)) rfl ?_
        rintro _ w8 ⟨rfl, k8⟩
        have kk8 := kk7.then_ k8
        have f20 : Bk w8 pz (u8s (Hm.toB 16 (Hm.gz (Hm.be x) (Hm.be y) i))) 40 := (f_pz_7.no k8)
        refine R_lo0 (lo_storeRow (C := u8s (xorL (Hm.toB 16 (Hm.gz (Hm.be x) (Hm.be y) i)) (Hm.toB 16 (Hm.gv (Hm.be y) i)))) f20 (by rw [u8s_length, (xorL_by (toB_by 16 (Hm.gz (Hm.be x) (Hm.be y) i)) (toB_by 16 (Hm.gv (Hm.be y) i))).1]; kernel_rfl) rfl rfl (u8s_each _) ((u8s_length _).trans ((xorL_by (toB_by 16 (Hm.gz (Hm.be x) (Hm.be y) i)) (toB_by 16 (Hm.gv (Hm.be y) i))).1.trans ((toB_by 16 (Hm.gz (Hm.be x) (Hm.be y) i)).1.symm.trans (u8s_length _).symm)))) ?_
        rintro _ w9 kf9
        obtain ⟨k9, f_pz_9⟩ := kf9
        replace f_pz_9 : Bk w9 pz (u8s (xorL (Hm.toB 16 (Hm.gz (Hm.be x) (Hm.be y) i)) (Hm.toB 16 (Hm.gv (Hm.be y) i)))) 40 := f_pz_9
        have kk9 := kk8.trans k9 (fun i hi => .inr (hi ▸ (Nat.le_trans kk3.size N4.le)))
        refine R_nil ?_
        have f21 : Bk w9 px (u8s x) 40 := ((f_px_7.no k8).on k9 (Ne.symm ne_pz_px))
        have f22 : Bk w9 py (u8s y) 40 := ((f_py_7.no k8).on k9 (Ne.symm ne_pz_py))
        have f23 : Bk w9 p0_2 (u8s (List.replicate 16 0)) 40 := ((f_p0_2_7.no k8).on k9 (Ne.symm ne_pz_p0_2))
        have f24 : Bk w9 pv (u8s (Hm.toB 16 (Hm.gv (Hm.be y) i))) 40 := ((f_pv_7.no k8).on k9 ne_pv_pz)
        refine X_cut hK_ [(2, .pointer (some ⟨px, 0, none⟩)), (4, .pointer (some ⟨p0_2, 0, none⟩)), (5, .pointer (some ⟨pz, 0, none⟩)), (6, .pointer (some ⟨pv, 0, none⟩)), (7, .int .i64 ((i : Nat) : Int))] (Sub.cons rfl (Sub.cons rfl (Sub.cons rfl (Sub.cons rfl (Sub.cons rfl (Sub.nil _)))))) ⟨rfl, kk9, f21, f22, f23, Bk.eq f_pz_9 (congrArg u8s (by rw [gz_t ((bit_ref bx (by omega) e_xb).1 h23), xorL_toB])), f24⟩
      · refine C_skip ?_
        refine X_cut hK_ [(2, .pointer (some ⟨px, 0, none⟩)), (4, .pointer (some ⟨p0_2, 0, none⟩)), (5, .pointer (some ⟨pz, 0, none⟩)), (6, .pointer (some ⟨pv, 0, none⟩)), (7, .int .i64 ((i : Nat) : Int))] (Sub.cons rfl (Sub.cons rfl (Sub.cons rfl (Sub.cons rfl (Sub.cons rfl (Sub.nil _)))))) ⟨rfl, kk7, f_px_7, f_py_7, f_p0_2_7, Bk.eq f_pz_7 (congrArg u8s (by rw [gz_f (fun hc => h23 ((bit_ref bx (by omega) e_xb).2 hc))])), f_pv_7⟩
    · rintro _ w10 ⟨rfl, kk10, f_px_10, f_py_10, f_p0_2_10, f_pz_10, f_pv_10⟩
      refine C_seq (fun K25 hK25 => ?_)
      refine C_region ?_
      refine R_pu (pu_indexAddrA (m := 15) (s := 1) (o' := 15) Tryz.underlying40 (by kernel_rfl) rfl rfl rfl (by omega) (by omega)) rfl ?_
      obtain ⟨lo, e_lo⟩ : ∃ q_, (Hm.toB 16 (Hm.gv (Hm.be y) i))[15]? = some q_ := ⟨_, List.getElem?_eq_getElem (by rw [((toB_by 16 (Hm.gv (Hm.be y) i))).1]; omega)⟩
      have b_lo : lo < 256 := ((toB_by 16 (Hm.gv (Hm.be y) i))).2 _ (List.mem_of_getElem? e_lo)
      refine R_pu (pu_loadK f_pv_10 (by kernel_rfl) rfl (u8s_get e_lo)) rfl ?_
      refine R_pu (pu_rem (z := ((lo % 2 : Nat) : Int)) rfl rfl (by omega) (by rfl)) rfl ?_
      refine R_pu (pu_eql (p := (lo % 2) = 1) rfl rfl (by omega)) rfl ?_
      refine R_pu (pu_assign rfl) rfl ?_
      refine R_nil ?_
      refine X_then hK25 ?_
      refine C_seq (fun K26 hK26 => ?_)
      refine C_seq (fun K27 hK27 => ?_)
      refine C_region ?_
      refine R_pu (pu_assign rfl) rfl ?_
      refine R_nil ?_
      refine X_then hK27 ?_
      refine C_block ?_
      refine C_loop (fun m_ l_ wr => ∃ j : Nat, (m_ = 1 + j) ∧ (l_ = [(2, .pointer (some ⟨px, 0, none⟩)), (4, .pointer (some ⟨p0_2, 0, none⟩)), (5, .pointer (some ⟨pz, 0, none⟩)), (6, .pointer (some ⟨pv, 0, none⟩)), (7, .int .i64 ((i : Nat) : Int)), (8, .bool (decide ((lo % 2) = 1))), (9, .int .i64 (((j : Nat) : Int) - 1))]) ∧ (j ≤ 16) ∧ (Kp No w wr) ∧ (Bk wr px (u8s x) 40) ∧ (Bk wr py (u8s y) 40) ∧ (Bk wr p0_2 (u8s (List.replicate 16 0)) 40) ∧ (Bk wr pz (u8s (Hm.toB 16 (Hm.gz (Hm.be x) (Hm.be y) (i + 1)))) 40) ∧ (Bk wr pv (u8s (sh (Hm.gv (Hm.be y) i) j)) 40)) (1 + 16) [(2, .pointer (some ⟨px, 0, none⟩)), (4, .pointer (some ⟨p0_2, 0, none⟩)), (5, .pointer (some ⟨pz, 0, none⟩)), (6, .pointer (some ⟨pv, 0, none⟩)), (7, .int .i64 ((i : Nat) : Int)), (8, .bool (decide ((lo % 2) = 1))), (9, .int .i64 (((16 : Nat) : Int) - 1))] (Sub.cons rfl (Sub.cons rfl (Sub.cons rfl (Sub.cons rfl (Sub.cons rfl (Sub.cons rfl (Sub.cons rfl (Sub.nil _)))))))) ⟨16, rfl, rfl, by omega, kk10, f_px_10, f_py_10, f_p0_2_10, f_pz_10, Bk.eq f_pv_10 (congrArg u8s (sh_start _))⟩ ?_
      rintro _ _ w11 ⟨j, rfl, rfl, hj, kk11, f_px_11, f_py_11, f_p0_2_11, f_pz_11, f_pv_11⟩
      refine C_seq (fun K28 hK28 => ?_)
      refine C_seq (fun K29 hK29 => ?_)
      refine C_region ?_
      refine R_pu (pu_move rfl) rfl ?_
      refine R_pu (pu_geq (p := (((j : Nat) : Int) - 1) ≥ 0) rfl rfl (by omega)) rfl ?_
      refine R_nil ?_
      refine X_then hK29 ?_
      refine C_dec rfl (fun h32 => ?_) (fun h32 => ?_)
      · refine C_skip ?_
        refine X_then hK28 ?_
        refine C_seq (fun K30 hK30 => ?_)
        refine C_block ?_
        refine C_seq (fun K31 hK31 => ?_)
        refine C_region ?_
        refine R_pu (pu_move rfl) rfl ?_
        refine R_pu (pu_move rfl) rfl ?_
        refine R_pu (pu_indexAddrA (m := j - 1) (s := 1) (o' := j - 1) Tryz.underlying40 (by kernel_rfl) rfl rfl (by omega) (by omega) (by omega)) rfl ?_
        obtain ⟨n, e_n⟩ : ∃ q_, (sh (Hm.gv (Hm.be y) i) j)[j - 1]? = some q_ := ⟨_, List.getElem?_eq_getElem (by rw [((sh_by (Hm.gv (Hm.be y) i) j)).1]; omega)⟩
        have b_n : n < 256 := ((sh_by (Hm.gv (Hm.be y) i) j)).2 _ (List.mem_of_getElem? e_n)
        refine R_pu (pu_loadK f_pv_11 (by kernel_rfl) rfl (u8s_get e_n)) rfl ?_
        refine R_pu (pu_quo (z := ((n / 2 : Nat) : Int)) rfl rfl (by omega) (by rw [Int.tdiv_eq_ediv_of_nonneg (by omega), IntKind.wrap_u8]; omega)) rfl ?_
        refine R_pu (pu_indexAddrA (m := j - 1) (s := 1) (o' := j - 1) Tryz.underlying40 (by kernel_rfl) rfl rfl (by omega) (by omega) (by omega)) rfl ?_
        refine R_lo0 (lo_store f_pv_11 (by kernel_rfl) rfl rfl rfl (by rw [u8s_length, (sh_by (Hm.gv (Hm.be y) i) j).1]; omega)) ?_
        rintro _ w12 kf12
        obtain ⟨k12, f_pv_12⟩ := kf12
        replace f_pv_12 := Bk.eq f_pv_12 (u8s_set _ _ (n / 2))
        replace f_pv_12 : Bk w12 pv (u8s ((sh (Hm.gv (Hm.be y) i) j).set (j - 1) (n / 2))) 40 := f_pv_12
        have kk12 := kk11.trans k12 (fun i hi => .inr (hi ▸ (Nat.le_trans kk4.size N5.le)))
        refine R_nil ?_
        refine X_then hK31 ?_
        refine C_seq (fun K32 hK32 => ?_)
        refine C_region ?_
        refine R_pu (pu_move rfl) rfl ?_
        refine R_pu (pu_gtr (p := (((j : Nat) : Int) - 1) > 0) rfl rfl (by omega)) rfl ?_
        by_cases g13_2 : (((j : Nat) : Int) - 1) > 0
        · refine R_pu (pu_true (pu_move rfl) g13_2) rfl ?_
          refine R_gpu rfl rfl (pu_move rfl) rfl ?_
          refine R_gpu rfl rfl (pu_sub (z := ((j : Nat) : Int) - 1 - 1) rfl rfl (by rw [IntKind.wrap_i64]; omega)) rfl ?_
          refine R_gpu rfl rfl (pu_indexAddrA (m := j - 1 - 1) (s := 1) (o' := j - 1 - 1) Tryz.underlying40 (by kernel_rfl) rfl rfl (by omega) (by omega) (by omega)) rfl ?_
          obtain ⟨m, e_m⟩ : ∃ q_, ((sh (Hm.gv (Hm.be y) i) j).set (j - 1) (n / 2))[j - 1 - 1]? = some q_ := ⟨_, List.getElem?_eq_getElem (by rw [((by_set (sh_by (Hm.gv (Hm.be y) i) j) (by omega))).1]; omega)⟩
          have b_m : m < 256 := ((by_set (sh_by (Hm.gv (Hm.be y) i) j) (by omega))).2 _ (List.mem_of_getElem? e_m)
          refine R_gpu rfl rfl (pu_loadK f_pv_12 (by kernel_rfl) rfl (u8s_get e_m)) rfl ?_
          refine R_gpu rfl rfl (pu_rem (z := ((m % 2 : Nat) : Int)) rfl rfl (by omega) (by rfl)) rfl ?_
          refine R_gpu rfl rfl (pu_eql (p := (m % 2) = 1) rfl rfl (by omega)) rfl ?_
          refine R_pu (pu_pickt rfl rfl) rfl ?_
          refine R_nil ?_
          refine X_then hK32 ?_
          refine C_dec rfl (fun h50 => ?_) (fun h50 => ?_)
          · refine C_region ?_
            refine R_pu (pu_move rfl) rfl ?_
            refine R_pu (pu_move rfl) rfl ?_
            refine R_pu (pu_indexAddrA (m := j - 1) (s := 1) (o' := j - 1) Tryz.underlying40 (by kernel_rfl) rfl rfl (by omega) (by omega) (by omega)) rfl ?_
            obtain ⟨n', e_n'⟩ : ∃ q_, ((sh (Hm.gv (Hm.be y) i) j).set (j - 1) (n / 2))[j - 1]? = some q_ := ⟨_, List.getElem?_eq_getElem (by rw [((by_set (sh_by (Hm.gv (Hm.be y) i) j) (by omega))).1]; omega)⟩
            have b_n' : n' < 256 := ((by_set (sh_by (Hm.gv (Hm.be y) i) j) (by omega))).2 _ (List.mem_of_getElem? e_n')
            refine R_pu (pu_loadK f_pv_12 (by kernel_rfl) rfl (u8s_get e_n')) rfl ?_
            refine R_pu (pu_add (z := ((n' + 128 : Nat) : Int)) rfl rfl (by have := get_set_eq e_n'; rw [IntKind.wrap_u8]; omega)) rfl ?_
            refine R_pu (pu_indexAddrA (m := j - 1) (s := 1) (o' := j - 1) Tryz.underlying40 (by kernel_rfl) rfl rfl (by omega) (by omega) (by omega)) rfl ?_
            refine R_lo0 (lo_store f_pv_12 (by kernel_rfl) rfl rfl rfl (by rw [u8s_length, (by_set (sh_by (Hm.gv (Hm.be y) i) j) (by omega)).1]; omega)) ?_
            rintro _ w13 kf13
            obtain ⟨k13, f_pv_13⟩ := kf13
            replace f_pv_13 := Bk.eq f_pv_13 (u8s_set _ _ (n' + 128))
            replace f_pv_13 : Bk w13 pv (u8s (((sh (Hm.gv (Hm.be y) i) j).set (j - 1) (n / 2)).set (j - 1) (n' + 128))) 40 := f_pv_13
            have kk13 := kk12.trans k13 (fun i hi => .inr (hi ▸ (Nat.le_trans kk4.size N5.le)))
            refine R_nil ?_
            refine X_in_normal ?_
            refine X_then hK30 ?_
            refine C_region ?_
            refine R_pu (pu_move rfl) rfl ?_
            refine R_pu (pu_sub (z := ((j : Nat) : Int) - 1 - 1) rfl rfl (by rw [IntKind.wrap_i64]; omega)) rfl ?_
            refine R_pu (pu_assign rfl) rfl ?_
            refine R_nil ?_
            have f33 : Bk w13 px (u8s x) 40 := ((f_px_11.on k12 (Ne.symm ne_pv_px)).on k13 (Ne.symm ne_pv_px))
            have f34 : Bk w13 py (u8s y) 40 := ((f_py_11.on k12 (Ne.symm ne_pv_py)).on k13 (Ne.symm ne_pv_py))
            have f35 : Bk w13 p0_2 (u8s (List.replicate 16 0)) 40 := ((f_p0_2_11.on k12 (Ne.symm ne_pv_p0_2)).on k13 (Ne.symm ne_pv_p0_2))
            have f36 : Bk w13 pz (u8s (Hm.toB 16 (Hm.gz (Hm.be x) (Hm.be y) (i + 1)))) 40 := ((f_pz_11.on k12 (Ne.symm ne_pv_pz)).on k13 (Ne.symm ne_pv_pz))
            refine X_round (1 + (j - 1)) [(2, .pointer (some ⟨px, 0, none⟩)), (4, .pointer (some ⟨p0_2, 0, none⟩)), (5, .pointer (some ⟨pz, 0, none⟩)), (6, .pointer (some ⟨pv, 0, none⟩)), (7, .int .i64 ((i : Nat) : Int)), (8, .bool (decide ((lo % 2) = 1))), (9, .int .i64 ((((j - 1) : Nat) : Int) - 1))] (by omega) (Sub.cons rfl (Sub.cons rfl (Sub.cons rfl (Sub.cons rfl (Sub.cons rfl (Sub.cons rfl (Sub.consE rfl (valI (by omega)) (Sub.nil _)))))))) ⟨j - 1, rfl, rfl, by omega, kk13, f33, f34, f35, f36, Bk.eq f_pv_13 (congrArg u8s (step_odd (Hm.gv_lt (by_lt b_y) i) (by omega) hj (by omega) e_n e_m (by assumption) e_n'))⟩
          · refine C_skip ?_
            refine X_in_normal ?_
            refine X_then hK30 ?_
            refine C_region ?_
            refine R_pu (pu_move rfl) rfl ?_
            refine R_pu (pu_sub (z := ((j : Nat) : Int) - 1 - 1) rfl rfl (by rw [IntKind.wrap_i64]; omega)) rfl ?_
            refine R_pu (pu_assign rfl) rfl ?_
            refine R_nil ?_
            have f37 : Bk w12 px (u8s x) 40 := (f_px_11.on k12 (Ne.symm ne_pv_px))
            have f38 : Bk w12 py (u8s y) 40 := (f_py_11.on k12 (Ne.symm ne_pv_py))
            have f39 : Bk w12 p0_2 (u8s (List.replicate 16 0)) 40 := (f_p0_2_11.on k12 (Ne.symm ne_pv_p0_2))
            have f40 : Bk w12 pz (u8s (Hm.toB 16 (Hm.gz (Hm.be x) (Hm.be y) (i + 1)))) 40 := (f_pz_11.on k12 (Ne.symm ne_pv_pz))
            refine X_round (1 + (j - 1)) [(2, .pointer (some ⟨px, 0, none⟩)), (4, .pointer (some ⟨p0_2, 0, none⟩)), (5, .pointer (some ⟨pz, 0, none⟩)), (6, .pointer (some ⟨pv, 0, none⟩)), (7, .int .i64 ((i : Nat) : Int)), (8, .bool (decide ((lo % 2) = 1))), (9, .int .i64 ((((j - 1) : Nat) : Int) - 1))] (by omega) (Sub.cons rfl (Sub.cons rfl (Sub.cons rfl (Sub.cons rfl (Sub.cons rfl (Sub.cons rfl (Sub.consE rfl (valI (by omega)) (Sub.nil _)))))))) ⟨j - 1, rfl, rfl, by omega, kk12, f37, f38, f39, f40, Bk.eq f_pv_12 (congrArg u8s (step_even (Hm.gv_lt (by_lt b_y) i) (by omega) hj e_n (fun _ => by first | omega | exact ⟨_, e_m, by assumption⟩)))⟩
        · refine R_pu (pu_false (pu_move rfl) g13_2) rfl ?_
          refine R_gno rfl rfl rfl rfl ?_
          refine R_gno rfl rfl rfl rfl ?_
          refine R_gno rfl rfl rfl rfl ?_
          refine R_gno rfl rfl rfl rfl ?_
          refine R_gno rfl rfl rfl rfl ?_
          refine R_gno rfl rfl rfl rfl ?_
          refine R_pu (pu_pickf rfl rfl) rfl ?_
          refine R_nil ?_
          refine X_then hK32 ?_
          refine C_false rfl ?_
          refine C_skip ?_
          refine X_in_normal ?_
          refine X_then hK30 ?_
          refine C_region ?_
          refine R_pu (pu_move rfl) rfl ?_
          refine R_pu (pu_sub (z := ((j : Nat) : Int) - 1 - 1) rfl rfl (by rw [IntKind.wrap_i64]; omega)) rfl ?_
          refine R_pu (pu_assign rfl) rfl ?_
          refine R_nil ?_
          have f41 : Bk w12 px (u8s x) 40 := (f_px_11.on k12 (Ne.symm ne_pv_px))
          have f42 : Bk w12 py (u8s y) 40 := (f_py_11.on k12 (Ne.symm ne_pv_py))
          have f43 : Bk w12 p0_2 (u8s (List.replicate 16 0)) 40 := (f_p0_2_11.on k12 (Ne.symm ne_pv_p0_2))
          have f44 : Bk w12 pz (u8s (Hm.toB 16 (Hm.gz (Hm.be x) (Hm.be y) (i + 1)))) 40 := (f_pz_11.on k12 (Ne.symm ne_pv_pz))
          refine X_round (1 + (j - 1)) [(2, .pointer (some ⟨px, 0, none⟩)), (4, .pointer (some ⟨p0_2, 0, none⟩)), (5, .pointer (some ⟨pz, 0, none⟩)), (6, .pointer (some ⟨pv, 0, none⟩)), (7, .int .i64 ((i : Nat) : Int)), (8, .bool (decide ((lo % 2) = 1))), (9, .int .i64 ((((j - 1) : Nat) : Int) - 1))] (by omega) (Sub.cons rfl (Sub.cons rfl (Sub.cons rfl (Sub.cons rfl (Sub.cons rfl (Sub.cons rfl (Sub.consE rfl (valI (by omega)) (Sub.nil _)))))))) ⟨j - 1, rfl, rfl, by omega, kk12, f41, f42, f43, f44, Bk.eq f_pv_12 (congrArg u8s (step_even (Hm.gv_lt (by_lt b_y) i) (by omega) hj e_n (fun _ => by first | omega | exact ⟨_, e_m, by assumption⟩)))⟩
      · refine C_exit ?_
        refine X_then_exit (X_then_exit (X_in_eq ?_))
        refine X_then hK26 ?_
        refine C_seq (fun K45 hK45 => ?_)
        refine C_region ?_
        refine R_pu (pu_move rfl) rfl ?_
        refine R_nil ?_
        refine X_then hK45 ?_
        refine C_dec rfl (fun h57 => ?_) (fun h57 => ?_)
        · refine C_region ?_
          refine R_pu (pu_indexAddrA (m := 0) (s := 1) (o' := 0) Tryz.underlying40 (by kernel_rfl) rfl rfl rfl (by omega) (by omega)) rfl ?_
          obtain ⟨hb, e_hb⟩ : ∃ q_, (sh (Hm.gv (Hm.be y) i) j)[0]? = some q_ := ⟨_, List.getElem?_eq_getElem (by rw [((sh_by (Hm.gv (Hm.be y) i) j)).1]; omega)⟩
          have b_hb : hb < 256 := ((sh_by (Hm.gv (Hm.be y) i) j)).2 _ (List.mem_of_getElem? e_hb)
          refine R_pu (pu_loadK f_pv_11 (by kernel_rfl) rfl (u8s_get e_hb)) rfl ?_
          refine R_pu (pu_xor rfl rfl (u8_xor_nat hb 225 b_hb (by decide))) rfl ?_
          refine R_pu (pu_indexAddrA (m := 0) (s := 1) (o' := 0) Tryz.underlying40 (by kernel_rfl) rfl rfl rfl (by omega) (by omega)) rfl ?_
          refine R_lo0 (lo_store f_pv_11 (by kernel_rfl) rfl rfl rfl (by rw [u8s_length, (sh_by (Hm.gv (Hm.be y) i) j).1]; omega)) ?_
          rintro _ w14 kf14
          obtain ⟨k14, f_pv_14⟩ := kf14
          replace f_pv_14 := Bk.eq f_pv_14 (u8s_set _ _ (hb ^^^ 225))
          replace f_pv_14 : Bk w14 pv (u8s ((sh (Hm.gv (Hm.be y) i) j).set 0 (hb ^^^ 225))) 40 := f_pv_14
          have kk14 := kk11.trans k14 (fun i hi => .inr (hi ▸ (Nat.le_trans kk4.size N5.le)))
          refine R_nil ?_
          refine X_in_normal ?_
          refine X_then hK18 ?_
          refine C_region ?_
          refine R_pu (pu_move rfl) rfl ?_
          refine R_pu (pu_add (z := ((i + 1 : Nat) : Int)) rfl rfl (by rw [IntKind.wrap_i64]; omega)) rfl ?_
          refine R_pu (pu_assign rfl) rfl ?_
          refine R_nil ?_
          have f46 : Bk w14 px (u8s x) 40 := (f_px_11.on k14 (Ne.symm ne_pv_px))
          have f47 : Bk w14 py (u8s y) 40 := (f_py_11.on k14 (Ne.symm ne_pv_py))
          have f48 : Bk w14 p0_2 (u8s (List.replicate 16 0)) 40 := (f_p0_2_11.on k14 (Ne.symm ne_pv_p0_2))
          have f49 : Bk w14 pz (u8s (Hm.toB 16 (Hm.gz (Hm.be x) (Hm.be y) (i + 1)))) 40 := (f_pz_11.on k14 (Ne.symm ne_pv_pz))
          refine X_round (128 - (i + 1)) [(2, .pointer (some ⟨px, 0, none⟩)), (4, .pointer (some ⟨p0_2, 0, none⟩)), (5, .pointer (some ⟨pz, 0, none⟩)), (6, .pointer (some ⟨pv, 0, none⟩)), (7, .int .i64 (((i + 1) : Nat) : Int))] (by omega) (Sub.cons rfl (Sub.cons rfl (Sub.cons rfl (Sub.cons rfl (Sub.cons rfl (Sub.nil _)))))) ⟨i + 1, rfl, rfl, by omega, kk14, f46, f47, f48, f49, Bk.eq f_pv_14 (congrArg u8s (end_odd (by omega) (by rw [← low_of e_lo]; assumption) e_hb))⟩
        · refine C_skip ?_
          refine X_in_normal ?_
          refine X_then hK18 ?_
          refine C_region ?_
          refine R_pu (pu_move rfl) rfl ?_
          refine R_pu (pu_add (z := ((i + 1 : Nat) : Int)) rfl rfl (by rw [IntKind.wrap_i64]; omega)) rfl ?_
          refine R_pu (pu_assign rfl) rfl ?_
          refine R_nil ?_
          refine X_round (128 - (i + 1)) [(2, .pointer (some ⟨px, 0, none⟩)), (4, .pointer (some ⟨p0_2, 0, none⟩)), (5, .pointer (some ⟨pz, 0, none⟩)), (6, .pointer (some ⟨pv, 0, none⟩)), (7, .int .i64 (((i + 1) : Nat) : Int))] (by omega) (Sub.cons rfl (Sub.cons rfl (Sub.cons rfl (Sub.cons rfl (Sub.cons rfl (Sub.nil _)))))) ⟨i + 1, rfl, rfl, by omega, kk11, f_px_11, f_py_11, f_p0_2_11, f_pz_11, Bk.eq f_pv_11 (congrArg u8s (end_even (by omega) (by rw [← low_of e_lo]; assumption)))⟩
  · refine C_exit ?_
    refine X_then_exit (X_then_exit (X_in_eq ?_))
    refine X_then hK10 ?_
    refine C_seq (fun K50 hK50 => ?_)
    refine C_region ?_
    refine R_pu (pu_loadRow (len := 16) f_pz_7 (by kernel_rfl) (by kernel_rfl) (by rw [u8s_length]; exact (toB_by 16 (Hm.gz (Hm.be x) (Hm.be y) i)).1) rfl) rfl ?_
    refine R_lo0 (lo_storeRow (C := u8s (Hm.toB 16 (Hm.gz (Hm.be x) (Hm.be y) i))) f_p0_2_7 (by rw [u8s_length, (toB_by 16 (Hm.gz (Hm.be x) (Hm.be y) i)).1]; kernel_rfl) rfl rfl (u8s_each _) ((u8s_length _).trans ((toB_by 16 (Hm.gz (Hm.be x) (Hm.be y) i)).1.trans ((rep_by 16).1.symm.trans (u8s_length _).symm)))) ?_
    rintro _ w15 kf15
    obtain ⟨k15, f_p0_2_15⟩ := kf15
    replace f_p0_2_15 : Bk w15 p0_2 (u8s (Hm.toB 16 (Hm.gz (Hm.be x) (Hm.be y) i))) 40 := f_p0_2_15
    have kk15 := kk7.trans k15 (fun i hi => .inr (hi ▸ (Nat.le_trans kk2.size N3.le)))
    refine R_nil ?_
    refine X_then hK50 ?_
    refine C_ret ?_
    exact X_retRow (len := 16) (.inl rfl) rfl rfl f_p0_2_15 (by kernel_rfl) (by kernel_rfl) (by rw [u8s_length]; exact (toB_by 16 (Hm.gz (Hm.be x) (Hm.be y) i)).1) ⟨by rw [mulB_eq, show i = 128 by omega]; rfl, kk15⟩
end Go.Proofs.YtfoenaleboodpaaGreatDoor
