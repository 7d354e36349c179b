/- AES as the document has it, byte by byte: the same words, the same rounds. -/
import Derived.Test.YtfoenaleboodpaaGreatDoorAe
set_option linter.unusedVariables false
set_option linter.unusedSimpArgs false
namespace Go.Proofs.YtfoenaleboodpaaGreatDoor
open Go.RowKit Gm
/-- A word's byte. -/
def bW (w k : Nat) : Nat := w / 2 ^ (24 - 8 * k) % 256
theorem bW_lt (w k : Nat) : bW w k < 256 := Nat.mod_lt _ (by decide)
theorem bW_xor (a b k : Nat) : bW (a ^^^ b) k = bW a k ^^^ bW b k := by
  unfold bW; rw [Nat.xor_div_two_pow, show 256 = 2 ^ 8 from rfl, Nat.xor_mod_two_pow]
theorem four {k : Nat} (h : k < 4) : k = 0 ∨ k = 1 ∨ k = 2 ∨ k = 3 := by omega
theorem bW_four {a b c d : Nat} (ha : a < 256) (hb : b < 256) (hc : c < 256) (hd : d < 256) : bW (((a * 256 + b) * 256 + c) * 256 + d) 0 = a ∧ bW (((a * 256 + b) * 256 + c) * 256 + d) 1 = b ∧ bW (((a * 256 + b) * 256 + c) * 256 + d) 2 = c ∧ bW (((a * 256 + b) * 256 + c) * 256 + d) 3 = d := by
  simp only [bW, Nat.mul_zero, Nat.sub_zero, Nat.mul_one, Nat.reduceMul, Nat.reduceSub, Nat.reducePow, Nat.div_one]; omega
theorem bW_sW {x : Nat} (hx : x < 4294967296) {k : Nat} (hk : k < 4) : bW (sW x) k = sF (bW x k) := by
  have h := bW_four (sF_lt (x / 16777216 % 256)) (sF_lt (x / 65536 % 256)) (sF_lt (x / 256 % 256)) (sF_lt (x % 256))
  rw [← sW_eq] at h
  rcases four hk with rfl | rfl | rfl | rfl
  · exact h.1
  · exact h.2.1
  · exact h.2.2.1
  · rw [h.2.2.2]; simp [bW]
theorem bW_rot {x : Nat} (hx : x < 4294967296) : bW (rot8 x) 0 = bW x 1 ∧ bW (rot8 x) 1 = bW x 2 ∧ bW (rot8 x) 2 = bW x 3 ∧ bW (rot8 x) 3 = bW x 0 := by
  unfold rot8
  have b0 : x / 16777216 < 256 := by omega
  have b1 : x / 65536 % 256 < 256 := Nat.mod_lt _ (by decide)
  have b2 : x / 256 % 256 < 256 := Nat.mod_lt _ (by decide)
  have b3 : x % 256 < 256 := Nat.mod_lt _ (by decide)
  rw [show x * 256 % 4294967296 = x % 16777216 * 2 ^ 8 by omega, or_add 8 (by omega : x / 16777216 < 2 ^ 8)]
  have e1 : x = ((x / 16777216 * 256 + x / 65536 % 256) * 256 + x / 256 % 256) * 256 + x % 256 := by omega
  have e2 : x % 16777216 * 2 ^ 8 + x / 16777216 = ((x / 65536 % 256 * 256 + x / 256 % 256) * 256 + x % 256) * 256 + x / 16777216 := by omega
  have h1 := bW_four b0 b1 b2 b3
  have h2 := bW_four b1 b2 b3 b0
  rw [← e1] at h1
  rw [← e2] at h2
  exact ⟨h2.1.trans h1.2.1.symm, h2.2.1.trans h1.2.2.1.symm, h2.2.2.1.trans h1.2.2.2.symm, h2.2.2.2.trans h1.1.symm⟩
theorem bW_one : ∀ m, m < 8 → bW (2 ^ (24 + m)) 0 = 2 ^ m ∧ bW (2 ^ (24 + m)) 1 = 0 ∧ bW (2 ^ (24 + m)) 2 = 0 ∧ bW (2 ^ (24 + m)) 3 = 0 := by decide +kernel
/-- What a word is put together with the one eight ahead. -/
def gq (p i : Nat) : Nat := if i % 8 = 0 then sW (rot8 p) ^^^ 2 ^ (24 + (i - 1) / 8) else if i % 8 = 4 then sW p else p
theorem wF_gq (K : List Nat) {i : Nat} (h : 8 ≤ i) : wF K i = wF K (i - 8) ^^^ gq (wF K (i - 1)) i := wF_nx K h
def gL (p i : Nat) : List Nat := arr 4 fun k => bW (gq p i) k
theorem gL_by (p i : Nat) : By 4 (gL p i) := arr_by fun _ _ => bW_lt _ _
theorem by4 {a b c d : Nat} (ha : a < 256) (hb : b < 256) (hc : c < 256) (hd : d < 256) : By 4 [a, b, c, d] := ⟨rfl, fun n hn => by
  simp only [List.mem_cons, List.not_mem_nil, or_false] at hn
  rcases hn with rfl | rfl | rfl | rfl <;> assumption⟩
theorem arr4 (f : Nat → Nat) : arr 4 f = [f 0, f 1, f 2, f 3] := rfl
theorem gL_rot {p i : Nat} (hp : p < 4294967296) (h8 : 8 ≤ i) (hi : i < 60) (h : i % 8 = 0) : [sF (bW p 1) ^^^ 2 ^ (i / 8 - 1), sF (bW p 2), sF (bW p 3), sF (bW p 0)] = gL p i := by
  unfold gL; rw [arr4]; unfold gq; rw [if_pos h]
  have e := bW_one ((i - 1) / 8) (by omega)
  have r := bW_rot hp
  have hr := rot8_lt hp
  simp only [bW_xor, bW_sW hr (by decide : 0 < 4), bW_sW hr (by decide : 1 < 4), bW_sW hr (by decide : 2 < 4), bW_sW hr (by decide : 3 < 4), e.1, e.2.1, e.2.2.1, e.2.2.2, r.1, r.2.1, r.2.2.1, r.2.2.2, Nat.xor_zero]
  rw [show (i - 1) / 8 = i / 8 - 1 by omega]
theorem gL_sub {p i : Nat} (hp : p < 4294967296) (h0 : ¬ i % 8 = 0) (h : i % 8 = 4) : [sF (bW p 0), sF (bW p 1), sF (bW p 2), sF (bW p 3)] = gL p i := by
  unfold gL; rw [arr4]; unfold gq; rw [if_neg h0, if_pos h]
  simp only [bW_sW hp (by decide : 0 < 4), bW_sW hp (by decide : 1 < 4), bW_sW hp (by decide : 2 < 4), bW_sW hp (by decide : 3 < 4)]
theorem gL_not {p i : Nat} (h0 : ¬ i % 8 = 0) (h : ¬ i % 8 = 4) : [bW p 0, bW p 1, bW p 2, bW p 3] = gL p i := by
  unfold gL; rw [arr4]; unfold gq; rw [if_neg h0, if_neg h]
def WBf (K : List Nat) (j : Nat) : Nat := bW (wF K (j / 4)) (j % 4)
def WB (K : List Nat) : List Nat := arr 240 (WBf K)
abbrev WU (K : List Nat) (k : Nat) : List Nat := upto (WBf K) (fun _ => 0) k 240
theorem WU_by (K : List Nat) (k : Nat) : By 240 (WU K k) := upto_by (fun _ _ => bW_lt _ _) (fun _ _ => by decide)
theorem WB_by (K : List Nat) : By 240 (WB K) := arr_by fun _ _ => bW_lt _ _
theorem WU_all (K : List Nat) {k : Nat} (h : 240 ≤ k) : WU K k = WB K := upto_all _ _ h
theorem WBf_at (K : List Nat) {i k : Nat} (hk : k < 4) : WBf K (i * 4 + k) = bW (wF K i) k := by unfold WBf; rw [show (i * 4 + k) / 4 = i by omega, show (i * 4 + k) % 4 = k by omega]
theorem WBf_nx (K : List Nat) {i k : Nat} (h8 : 8 ≤ i) (hk : k < 4) : WBf K ((i - 8) * 4 + k) ^^^ bW (gq (wF K (i - 1)) i) k = WBf K (i * 4 + k) := by rw [WBf_at K hk, WBf_at K hk, wF_gq K h8, bW_xor]
theorem WU_row (K : List Nat) {i a b c d : Nat} (hi : i < 60) (ha : a = WBf K (i * 4)) (hb : b = WBf K (i * 4 + 1)) (hc : c = WBf K (i * 4 + 2)) (hd : d = WBf K (i * 4 + 3)) :
    (WU K (i * 4)).take (i * 4) ++ [a, b, c, d] ++ (WU K (i * 4)).drop (i * 4 + 4) = WU K ((i + 1) * 4) := by
  apply List.ext_getElem?
  intro j
  have hl := upto_length (WBf K) (fun _ => 0) (i * 4) 240
  have hl2 := upto_length (WBf K) (fun _ => 0) ((i + 1) * 4) 240
  by_cases hj : j < 240
  · have hu (k : Nat) : (WU K k)[j]? = some (if j < k then WBf K j else 0) := arr_get _ hj
    rw [hu]
    rcases Nat.lt_or_ge j (i * 4) with h1 | h1
    · rw [if_pos (by omega), List.append_assoc, List.getElem?_append_left (by rw [List.length_take, hl]; omega), List.getElem?_take_of_lt h1, hu, if_pos h1]
    · rcases Nat.lt_or_ge j (i * 4 + 4) with h2 | h2
      · rw [if_pos (by omega), List.append_assoc, List.getElem?_append_right (by rw [List.length_take, hl]; omega), List.length_take, hl, Nat.min_eq_left (by omega), List.getElem?_append_left (by simp; omega)]
        rcases four (by omega : j - i * 4 < 4) with e | e | e | e <;> rw [e] <;> simp [ha, hb, hc, hd] <;> congr 1 <;> omega
      · rw [if_neg (by omega), List.getElem?_append_right (by simp [List.length_take, hl]; omega), List.getElem?_drop]
        have : i * 4 + 4 + (j - ((WU K (i * 4)).take (i * 4) ++ [a, b, c, d]).length) = j := by simp [List.length_take, hl]; omega
        rw [this, hu, if_neg (by omega)]
  · rw [List.getElem?_eq_none (by simp [List.length_take, hl]; omega), List.getElem?_eq_none (by rw [hl2]; omega)]
theorem kb_byte {K : List Nat} (h : ∀ n ∈ K, n < 256) {i : Nat} (hi : i < 8) : K.getD (4 * i) 0 = WBf K (i * 4) ∧ K.getD (4 * i + 1) 0 = WBf K (i * 4 + 1) ∧ K.getD (4 * i + 2) 0 = WBf K (i * 4 + 2) ∧ K.getD (4 * i + 3) 0 = WBf K (i * 4 + 3) := by
  have e := bW_four (getD_lt h (4 * i)) (getD_lt h (4 * i + 1)) (getD_lt h (4 * i + 2)) (getD_lt h (4 * i + 3))
  rw [← kb_add h i, ← wF_key K hi] at e
  refine ⟨?_, ?_, ?_, ?_⟩
  · rw [show i * 4 = i * 4 + 0 from rfl, WBf_at K (by decide)]; exact e.1.symm
  · rw [WBf_at K (by decide)]; exact e.2.1.symm
  · rw [WBf_at K (by decide)]; exact e.2.2.1.symm
  · rw [WBf_at K (by decide)]; exact e.2.2.2.symm
theorem WU_take {K : List Nat} {i k : Nat} (hk : i * 4 + 4 ≤ k) (hi : i < 60) : ((WU K k).drop (i * 4)).take 4 = [bW (wF K i) 0, bW (wF K i) 1, bW (wF K i) 2, bW (wF K i) 3] := by
  apply List.ext_getElem?
  intro j
  have hl := upto_length (WBf K) (fun _ => 0) k 240
  by_cases hj : j < 4
  · rw [List.getElem?_take_of_lt hj, List.getElem?_drop, upto_lo (by omega) (by omega), WBf_at K hj]
    rcases four hj with rfl | rfl | rfl | rfl <;> rfl
  · rw [List.getElem?_eq_none (by rw [List.length_take]; omega), List.getElem?_eq_none (by simp; omega)]
theorem WB_take {K : List Nat} {i : Nat} (hi : i < 60) : ((WB K).drop (i * 4)).take 4 = [bW (wF K i) 0, bW (wF K i) 1, bW (wF K i) 2, bW (wF K i) 3] := by rw [← WU_all K (Nat.le_refl _)]; exact WU_take (by omega) hi
/-! ### a cipher made ready -/
def CK (K : List Nat) : List Nat := WB K ++ SLit
theorem CK_by (K : List Nat) : By 496 (CK K) := ⟨by unfold CK; rw [List.length_append, (WB_by K).1, SLit_by.1], fun n hn => by
  rcases List.mem_append.1 hn with h | h
  · exact (WB_by K).2 n h
  · exact SLit_by.2 n h⟩
theorem CK_w (K : List Nat) {j : Nat} (h : j < 240) : (CK K)[j]? = some (WBf K j) := by
  unfold CK; rw [List.getElem?_append_left (by rw [(WB_by K).1]; exact h)]; exact arr_get _ h
theorem CK_s (K : List Nat) {j : Nat} (h : j < 256) : (CK K)[240 + j]? = some (sF j) := by
  unfold CK; rw [List.getElem?_append_right (by rw [(WB_by K).1]; omega), (WB_by K).1, Nat.add_sub_cancel_left]; exact SLit_get j h
/-! ### rounds -/
def eH (W X : List Nat) : Nat → List Nat
  | 0 => X
  | n + 1 => eN W X n
theorem eH_by (W : List Nat) {X : List Nat} (h : By 16 X) (n : Nat) : By 16 (eH W X n) := by
  cases n with
  | zero => exact h
  | succ n => exact eN_by W h n
theorem eH_zero {W X : List Nat} {r : Nat} (h : r = 0) : addR W r (eH W X r) = eH W X (r + 1) := by subst h; rfl
theorem eH_mid {W X : List Nat} {r : Nat} (h0 : r > 0) (h : r < 14) : addR W r (colsR (rowsR (eH W X r))) = eH W X (r + 1) := by
  obtain ⟨n, rfl⟩ : ∃ n, r = n + 1 := ⟨r - 1, by omega⟩
  exact eN_mid h
theorem eH_end {W X : List Nat} {r : Nat} (h0 : r > 0) (h : ¬ r < 14) : addR W r (rowsR (eH W X r)) = eH W X (r + 1) := by
  obtain ⟨n, rfl⟩ : ∃ n, r = n + 1 := ⟨r - 1, by omega⟩
  exact eN_end h
theorem row_at' : ∀ i, i < 16 → (i + 4 * (i % 4)) % 16 = 4 * ((i / 4 + i % 4) % 4) + i % 4 := by decide
theorem rwU_one {X : List Nat} {i n : Nat} (hi : i < 16) (h : X[(i + 4 * (i % 4)) % 16]? = some n) : (rwU X i).set i (sF n) = rwU X (i + 1) := upto_set (by rw [← row_at' i hi, getD_some h])
theorem adU_one {K X : List Nat} {r i n : Nat} (hr : r ≤ 14) (hi : i < 16) (h : (adU (KW K) r X i)[i]? = some n) : (adU (KW K) r X i).set i (n ^^^ WBf K ((4 * r + i / 4) * 4 + i % 4)) = adU (KW K) r X (i + 1) := by
  refine upto_set ?_
  rw [upto_hi h (Nat.le_refl _), WBf_at K (by omega), KW_getD K (by omega)]; rfl
theorem mix_eq {a b c d x y z t : Nat} (hx : x < 256) (hy : y < 256) (e : a ^^^ b ^^^ c ^^^ d = x ^^^ (y ^^^ (z ^^^ t))) : ((tw x ^^^ (tw y ^^^ y)) ^^^ z) ^^^ t = ((a ^^^ b ^^^ c ^^^ d) ^^^ x) ^^^ tw (x ^^^ y) := by
  rw [e, tw_xor hx hy]
  simp only [Nat.xor_assoc, Nat.xor_comm, xor_left, xor_can, Nat.xor_self, Nat.xor_zero]
theorem colA_any {X : List Nat} (c : Nat) {i : Nat} (hi : i < 4) : colA X c = X.getD (4 * c + i) 0 ^^^ (X.getD (4 * c + (i + 1) % 4) 0 ^^^ (X.getD (4 * c + (i + 2) % 4) 0 ^^^ X.getD (4 * c + (i + 3) % 4) 0)) := by
  unfold colA
  rcases four hi with rfl | rfl | rfl | rfl
  · show ((X.getD (4 * c) 0 ^^^ X.getD (4 * c + 1) 0) ^^^ X.getD (4 * c + 2) 0) ^^^ X.getD (4 * c + 3) 0 = X.getD (4 * c) 0 ^^^ (X.getD (4 * c + 1) 0 ^^^ (X.getD (4 * c + 2) 0 ^^^ X.getD (4 * c + 3) 0)); ac_nf
  · show ((X.getD (4 * c) 0 ^^^ X.getD (4 * c + 1) 0) ^^^ X.getD (4 * c + 2) 0) ^^^ X.getD (4 * c + 3) 0 = X.getD (4 * c + 1) 0 ^^^ (X.getD (4 * c + 2) 0 ^^^ (X.getD (4 * c + 3) 0 ^^^ X.getD (4 * c) 0)); ac_nf
  · show ((X.getD (4 * c) 0 ^^^ X.getD (4 * c + 1) 0) ^^^ X.getD (4 * c + 2) 0) ^^^ X.getD (4 * c + 3) 0 = X.getD (4 * c + 2) 0 ^^^ (X.getD (4 * c + 3) 0 ^^^ (X.getD (4 * c) 0 ^^^ X.getD (4 * c + 1) 0)); ac_nf
  · show ((X.getD (4 * c) 0 ^^^ X.getD (4 * c + 1) 0) ^^^ X.getD (4 * c + 2) 0) ^^^ X.getD (4 * c + 3) 0 = X.getD (4 * c + 3) 0 ^^^ (X.getD (4 * c) 0 ^^^ (X.getD (4 * c + 1) 0 ^^^ X.getD (4 * c + 2) 0)); ac_nf
theorem coU_one {X : List Nat} (bX : By 16 X) {i x y z t : Nat} (hi : i < 16) (hx : X[i]? = some x) (hy : X[i / 4 * 4 + (i + 1) % 4]? = some y) (hz : X[i / 4 * 4 + (i + 2) % 4]? = some z) (ht : X[i / 4 * 4 + (i + 3) % 4]? = some t) :
    (coU X i).set i (((tw x ^^^ (tw y ^^^ y)) ^^^ z) ^^^ t) = coU X (i + 1) := by
  refine upto_set ?_
  have b1 := bX.2 x (List.mem_of_getElem? hx)
  have b2 := bX.2 y (List.mem_of_getElem? hy)
  unfold colF
  have ex : X.getD (4 * (i / 4) + i % 4) 0 = x := by rw [Nat.div_add_mod]; exact getD_some hx
  have ey : X.getD (4 * (i / 4) + (i % 4 + 1) % 4) 0 = y := by rw [show 4 * (i / 4) + (i % 4 + 1) % 4 = i / 4 * 4 + (i + 1) % 4 by omega]; exact getD_some hy
  have ez : X.getD (4 * (i / 4) + (i % 4 + 2) % 4) 0 = z := by rw [show 4 * (i / 4) + (i % 4 + 2) % 4 = i / 4 * 4 + (i + 2) % 4 by omega]; exact getD_some hz
  have et : X.getD (4 * (i / 4) + (i % 4 + 3) % 4) 0 = t := by rw [show 4 * (i / 4) + (i % 4 + 3) % 4 = i / 4 * 4 + (i + 3) % 4 by omega]; exact getD_some ht
  rw [colA_any (i / 4) (Nat.mod_lt i (by decide)), ex, ey, ez, et, tw_xor b1 b2]
  simp only [Nat.xor_assoc, Nat.xor_comm, xor_left, xor_can, Nat.xor_self, Nat.xor_zero]
theorem word_four {w : Nat} (hw : w < 4294967296) : ((bW w 0 * 16777216 + bW w 1 * 65536) + bW w 2 * 256) + bW w 3 = w := by
  simp only [bW, Nat.mul_zero, Nat.sub_zero, Nat.mul_one, Nat.reduceMul, Nat.reduceSub, Nat.reducePow, Nat.div_one]; omega
theorem u8s_CK (K : List Nat) : u8s (CK K) = u8s (WB K) ++ u8s SLit := List.map_append
/-! ### rows within rows -/
theorem u8s_store {X Y : List Nat} {o n : Nat} (h : Y.length = n) : (u8s X).take o ++ u8s Y ++ (u8s X).drop (o + (u8s Y).length) = u8s (X.take o ++ Y ++ X.drop (o + n)) := by
  rw [u8s_length, h]; simp [u8s, List.map_append, List.map_take, List.map_drop]
theorem agg_run {P : Program} {e n e' : Nat} (h : P.underlying e = some (.array n e')) (w : World) : (isAgg e).run P w = .ok true w := by
  unfold isAgg; simp [run_underlying h]
theorem pu_indexR {P : Program} {l : List (Nat × Value)} {w : World} {x y : Operand} {t e len n e' s m : Nat} {K : IntKind} {C D : List Value} {i : Int} (hu : P.underlying t = some (.array len e)) (he : P.underlying e = some (.array n e')) (hs : sizeB P e s = true)
    (hx : lk l x = some (.agg C.toArray)) (hy : lk l y = some (.int K i)) (hi : i = (m : Int)) (hm : m < len) (hD : (C.drop (m * s)).take s = D) : Pu P (.index t x y) l w (.agg D.toArray) := fun n A ha d ty pos af g => by
  subst hi hD
  have h1 : (m : Int) < (len : Int) := by omega
  unfold execOp
  simp only [ha.eval hx, ha.eval hy]
  simp [Instr.index, asIntOf, run_underlying hu, sizeB_run hs, hm, part, agg_run he, List.extract_eq_take_drop]
end Go.Proofs.YtfoenaleboodpaaGreatDoor
