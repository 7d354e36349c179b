/- AES by numbers: words of a key, rounds; unlike blocks are ciphered unlike. Blocks of the heap that hold keys. -/
import Derived.Test.YtlkbkgghfhoggaaGreatDoorSb
set_option linter.unusedVariables false
set_option linter.unusedSimpArgs false
namespace Go.Proofs.YtlkbkgghfhoggaaGreatDoor
open Go.RowKit Gm
/-! ### effects on several blocks -/
def Ons (l : List Nat) (i : Nat) : Prop := i ∈ l
theorem Ons.nil' {p : Nat} : ¬ Ons [] p := fun h => by cases h
theorem Ons.cons' {p q : Nat} {l : List Nat} (h : p ≠ q) (t : ¬ Ons l p) : ¬ Ons (q :: l) p := fun hh => by
  rcases List.mem_cons.1 hh with e | e
  · exact h e
  · exact t e
theorem Ons.subn {S : Nat → Prop} {N : Nat} : ∀ i, Ons [] i → S i ∨ N ≤ i := fun i h => by cases h
theorem Ons.subc {S : Nat → Prop} {N q : Nat} {l : List Nat} (hq : S q ∨ N ≤ q) (t : ∀ i, Ons l i → S i ∨ N ≤ i) : ∀ i, Ons (q :: l) i → S i ∨ N ≤ i := fun i h => by
  rcases List.mem_cons.1 h with rfl | e
  · exact hq
  · exact t i e
theorem Ons.mem0 {a : Nat} {l : List Nat} : Ons (a :: l) a := List.mem_cons_self ..
theorem Ons.mem1 {a b : Nat} {l : List Nat} : Ons (a :: b :: l) b := List.mem_cons_of_mem _ (List.mem_cons_self ..)
theorem On.sub {S : Nat → Prop} {N q : Nat} (hq : S q ∨ N ≤ q) : ∀ i, On q i → S i ∨ N ≤ i := fun i h => by
  have : i = q := h
  subst this; exact hq
/-! ### rows of words -/
def u32s (l : List Nat) : List Value := l.map fun n : Nat => .int .u32 (n : Int)
theorem u32s_length (l : List Nat) : (u32s l).length = l.length := by simp [u32s]
theorem u32s_set (l : List Nat) (i n : Nat) : (u32s l).set i (.int .u32 (n : Int)) = u32s (l.set i n) := by simp [u32s, List.map_set]
def keyL (bx : Nat) (W : List Nat) : List Value := .pointer (some ⟨bx, 0, none⟩) :: u32s W
theorem key_get {bx i n : Nat} {W : List Nat} (h : W[i]? = some n) : (keyL bx W)[1 + i]? = some (.int .u32 (n : Int)) := by
  rw [Nat.add_comm]; simp [keyL, u32s, h]
theorem key_set {bx i n : Nat} {W : List Nat} : (keyL bx W).set (1 + i) (.int .u32 (n : Int)) = keyL bx (W.set i n) := by
  rw [Nat.add_comm]; show _ :: (u32s W).set i _ = _; rw [u32s_set]; rfl
theorem keyL_length {bx n : Nat} {W : List Nat} (h : W.length = n) : (keyL bx W).length = n + 1 := by simp [keyL, u32s_length, h]
theorem getD_get {l : List Nat} {m : Nat} (h : m < l.length) : l[m]? = some (l.getD m 0) := by rw [List.getD_eq_getElem?_getD, List.getElem?_eq_getElem h]; rfl
theorem upto_lo {f g : Nat → Nat} {k n i : Nat} (h : i < k) (hn : i < n) : (upto f g k n)[i]? = some (f i) := by
  unfold upto; rw [arr_get _ hn, if_pos h]
def Wy (W : List Nat) : Prop := W.length = 60 ∧ ∀ n ∈ W, n < 4294967296
theorem Wy.lt {W : List Nat} (h : Wy W) (i : Nat) : W.getD i 0 < 4294967296 := by
  rw [List.getD_eq_getElem?_getD]
  cases hx : W[i]? with
  | none => decide
  | some v => exact h.2 v (List.mem_of_getElem? hx)
theorem Wy.get {W : List Nat} (h : Wy W) {i : Nat} (hi : i < 60) : W[i]? = some (W.getD i 0) := getD_get (by rw [h.1]; exact hi)
/-! ### the words of a key -/
def rot8 (x : Nat) : Nat := x * 256 % 4294967296 ||| x / 16777216
def kb (K : List Nat) (j : Nat) : Nat := ((K.getD (4 * j) 0 * 16777216 % 4294967296 ||| K.getD (4 * j + 1) 0 * 65536 % 4294967296) ||| K.getD (4 * j + 2) 0 * 256 % 4294967296) ||| K.getD (4 * j + 3) 0
def nx (a p i : Nat) : Nat := a ^^^ (if i % 8 = 0 then sW (rot8 p) ^^^ 2 ^ (24 + (i - 1) / 8) else if i % 8 = 4 then sW p else p)
def ws (K : List Nat) : Nat → List Nat
  | 0 => []
  | n + 1 => let l := ws K n; l ++ [if n < 8 then kb K n else nx (l.getD (n - 8) 0) (l.getD (n - 1) 0) n]
def wF (K : List Nat) (j : Nat) : Nat := (ws K (j + 1)).getD j 0
theorem ws_succ (K : List Nat) (n : Nat) : ws K (n + 1) = ws K n ++ [if n < 8 then kb K n else nx ((ws K n).getD (n - 8) 0) ((ws K n).getD (n - 1) 0) n] := rfl
theorem ws_length (K : List Nat) (n : Nat) : (ws K n).length = n := by
  induction n with
  | zero => rfl
  | succ n ih => unfold ws; simp [ih]
theorem ws_last (K : List Nat) (n : Nat) : wF K n = if n < 8 then kb K n else nx ((ws K n).getD (n - 8) 0) ((ws K n).getD (n - 1) 0) n := by
  unfold wF
  rw [ws_succ, List.getD_eq_getElem?_getD, List.getElem?_append_right (by rw [ws_length]; exact Nat.le_refl _), ws_length, Nat.sub_self]; rfl
theorem ws_get (K : List Nat) {j n : Nat} (h : j < n) : (ws K n).getD j 0 = wF K j := by
  induction n with
  | zero => omega
  | succ n ih =>
    rcases Nat.lt_or_ge j n with hj | hj
    · rw [← ih hj]
      rw [ws_succ, List.getD_eq_getElem?_getD, List.getElem?_append_left (by rw [ws_length]; exact hj), List.getD_eq_getElem?_getD]
    · obtain rfl : j = n := by omega
      rfl
theorem wF_key (K : List Nat) {j : Nat} (h : j < 8) : wF K j = kb K j := by rw [ws_last, if_pos h]
theorem wF_nx (K : List Nat) {j : Nat} (h : 8 ≤ j) : wF K j = nx (wF K (j - 8)) (wF K (j - 1)) j := by rw [ws_last, if_neg (by omega), ws_get K (by omega), ws_get K (by omega)]
def KW (K : List Nat) : List Nat := arr 60 (wF K)
theorem xor_lt32 {a b : Nat} (ha : a < 4294967296) (hb : b < 4294967296) : a ^^^ b < 4294967296 := Nat.xor_lt_two_pow (n := 32) ha hb
theorem kb_lt {K : List Nat} (h : ∀ n ∈ K, n < 256) (j : Nat) : kb K j < 4294967296 :=
  Nat.or_lt_two_pow (n := 32) (Nat.or_lt_two_pow (n := 32) (Nat.or_lt_two_pow (n := 32) (Nat.mod_lt _ (by decide)) (Nat.mod_lt _ (by decide))) (Nat.mod_lt _ (by decide))) (Nat.lt_of_lt_of_le (getD_lt h _) (by decide))
theorem rot8_lt {x : Nat} (h : x < 4294967296) : rot8 x < 4294967296 := Nat.or_lt_two_pow (n := 32) (Nat.mod_lt _ (by decide)) (Nat.lt_of_le_of_lt (Nat.div_le_self _ _) h)
theorem nx_lt {a p i : Nat} (ha : a < 4294967296) (hp : p < 4294967296) (hi : i < 60) : nx a p i < 4294967296 := by
  unfold nx
  refine xor_lt32 ha ?_
  split
  · refine xor_lt32 (sW_lt _) ?_
    exact Nat.lt_of_le_of_lt (Nat.pow_le_pow_right (by decide) (by omega : 24 + (i - 1) / 8 ≤ 31)) (by decide)
  · split
    · exact sW_lt _
    · exact hp
theorem wF_lt {K : List Nat} (h : ∀ n ∈ K, n < 256) : ∀ j, j < 60 → wF K j < 4294967296 := by
  intro j
  induction j using Nat.strongRecOn with
  | ind j ih =>
    intro hj
    rcases Nat.lt_or_ge j 8 with h8 | h8
    · rw [wF_key K h8]; exact kb_lt h j
    · rw [wF_nx K h8]; exact nx_lt (ih _ (by omega) (by omega)) (ih _ (by omega) (by omega)) hj
theorem KW_wy {K : List Nat} (h : ∀ n ∈ K, n < 256) : Wy (KW K) := ⟨arr_length _ _, fun v hv => by
  obtain ⟨i, hi, rfl⟩ := List.mem_map.1 hv; exact wF_lt h i (List.mem_range.1 hi)⟩
theorem nx_rot {K : List Nat} {i : Nat} (h8 : 8 ≤ i) (h : i % 8 = 0) : wF K (i - 8) ^^^ (sW (rot8 (wF K (i - 1))) ^^^ 2 ^ (24 + (i - 1) / 8)) = wF K i := by rw [wF_nx K h8]; unfold nx; rw [if_pos h]
theorem nx_sub {K : List Nat} {i : Nat} (h8 : 8 ≤ i) (h : i % 8 = 4) : wF K (i - 8) ^^^ sW (wF K (i - 1)) = wF K i := by rw [wF_nx K h8]; unfold nx; rw [if_neg (by omega), if_pos h]
theorem nx_not {K : List Nat} {i : Nat} (h8 : 8 ≤ i) (h : ¬ i % 8 = 0) (h4 : ¬ i % 8 = 4) : wF K (i - 8) ^^^ wF K (i - 1) = wF K i := by rw [wF_nx K h8]; unfold nx; rw [if_neg h, if_neg h4]
theorem upto_length (f g : Nat → Nat) (k n : Nat) : (upto f g k n).length = n := arr_length _ _
theorem rep_upto (f : Nat → Nat) (n : Nat) : List.replicate n 0 = upto f (fun _ => 0) 0 n := by
  unfold upto arr; apply List.ext_getElem?; intro i
  rw [List.getElem?_map, List.getElem?_replicate]
  by_cases h : i < n
  · rw [if_pos h, List.getElem?_range h]; rfl
  · rw [if_neg h, List.getElem?_eq_none (by rw [List.length_range]; omega)]; rfl
theorem upto_kb (K : List Nat) : upto (kb K) (fun _ => 0) 8 60 = upto (wF K) (fun _ => 0) 8 60 := arr_ext fun i _ => by
  by_cases h : i < 8
  · rw [if_pos h, if_pos h, wF_key K h]
  · rw [if_neg h, if_neg h]
theorem one_lt {i : Nat} (h : i ≤ 60) : 2 ^ (24 + (i - 1) / 8) < 4294967296 := Nat.lt_of_le_of_lt (Nat.pow_le_pow_right (by decide) (by omega : 24 + (i - 1) / 8 ≤ 31)) (by decide)
theorem one_yes {i : Nat} (h8 : 8 ≤ i) (hi : i < 60) (h : i % 8 = 0) : 2 ^ (24 + (i - 1) / 8) * 2 % 4294967296 = 2 ^ (24 + (i + 1 - 1) / 8) := by
  rw [← Nat.pow_succ, show (24 + (i - 1) / 8).succ = 24 + (i + 1 - 1) / 8 by omega, Nat.mod_eq_of_lt (one_lt (by omega))]
theorem one_no {i : Nat} (h8 : 8 ≤ i) (h : ¬ i % 8 = 0) : 2 ^ (24 + (i - 1) / 8) = 2 ^ (24 + (i + 1 - 1) / 8) := by
  rw [show (i - 1) / 8 = (i + 1 - 1) / 8 by omega]
/-! ### rounds -/
def addR (W : List Nat) (r : Nat) (X : List Nat) : List Nat := arr 16 fun j => X.getD j 0 ^^^ W.getD (4 * r + j / 4) 0 / 2 ^ (24 - 8 * (j % 4)) % 256
def rowsR (X : List Nat) : List Nat := arr 16 fun j => sF (X.getD (4 * ((j / 4 + j % 4) % 4) + j % 4) 0)
def colA (X : List Nat) (c : Nat) : Nat := ((X.getD (4 * c) 0 ^^^ X.getD (4 * c + 1) 0) ^^^ X.getD (4 * c + 2) 0) ^^^ X.getD (4 * c + 3) 0
def colF (X : List Nat) (c i : Nat) : Nat := (colA X c ^^^ X.getD (4 * c + i) 0) ^^^ tw (X.getD (4 * c + i) 0 ^^^ X.getD (4 * c + (i + 1) % 4) 0)
def colsR (X : List Nat) : List Nat := arr 16 fun j => colF X (j / 4) (j % 4)
theorem addR_by {W X : List Nat} (r : Nat) (h : By 16 X) : By 16 (addR W r X) := arr_by fun i _ => xor_lt8 (getD_lt h.2 i) (Nat.mod_lt _ (by decide))
theorem rowsR_by (X : List Nat) : By 16 (rowsR X) := arr_by fun i _ => sF_lt _
theorem colA_lt {X : List Nat} (h : ∀ n ∈ X, n < 256) (c : Nat) : colA X c < 256 := xor_lt8 (xor_lt8 (xor_lt8 (getD_lt h _) (getD_lt h _)) (getD_lt h _)) (getD_lt h _)
theorem colF_lt {X : List Nat} (h : ∀ n ∈ X, n < 256) (c i : Nat) : colF X c i < 256 := xor_lt8 (xor_lt8 (colA_lt h c) (getD_lt h _)) (tw_lt (xor_lt8 (getD_lt h _) (getD_lt h _)))
theorem colsR_by {X : List Nat} (h : By 16 X) : By 16 (colsR X) := arr_by fun i _ => colF_lt h.2 _ _
def eN (W X : List Nat) : Nat → List Nat
  | 0 => addR W 0 X
  | n + 1 => addR W (n + 1) (if n + 1 < 14 then colsR (rowsR (eN W X n)) else rowsR (eN W X n))
def encB (W X : List Nat) : List Nat := eN W X 14
theorem eN_by (W : List Nat) {X : List Nat} (h : By 16 X) (n : Nat) : By 16 (eN W X n) := by
  induction n with
  | zero => exact addR_by 0 h
  | succ n ih =>
    unfold eN; refine addR_by _ ?_
    split
    · exact colsR_by (rowsR_by _)
    · exact rowsR_by _
theorem encB_by (W : List Nat) {X : List Nat} (h : By 16 X) : By 16 (encB W X) := eN_by W h 14
theorem eN_succ (W X : List Nat) (n : Nat) : eN W X (n + 1) = addR W (n + 1) (if n + 1 < 14 then colsR (rowsR (eN W X n)) else rowsR (eN W X n)) := rfl
theorem eN_mid {W X : List Nat} {n : Nat} (h : n + 1 < 14) : addR W (n + 1) (colsR (rowsR (eN W X n))) = eN W X (n + 1) := by rw [eN_succ, if_pos h]
theorem eN_end {W X : List Nat} {n : Nat} (h : ¬ n + 1 < 14) : addR W (n + 1) (rowsR (eN W X n)) = eN W X (n + 1) := by rw [eN_succ, if_neg h]
/-! ### rounds in the make -/
def adU (W : List Nat) (r : Nat) (X : List Nat) (k : Nat) : List Nat := upto (fun j => X.getD j 0 ^^^ W.getD (4 * r + j / 4) 0 / 2 ^ (24 - 8 * (j % 4)) % 256) (fun j => X.getD j 0) k 16
theorem adU_by {W X : List Nat} (h : By 16 X) (r k : Nat) : By 16 (adU W r X k) := upto_by (fun i _ => xor_lt8 (getD_lt h.2 i) (Nat.mod_lt _ (by decide))) (fun i _ => getD_lt h.2 i)
theorem adU_zero {W X : List Nat} (h : By 16 X) (r : Nat) : X = adU W r X 0 := by unfold adU; rw [upto_zero, arr_of h.1]
theorem adU_all (W X : List Nat) (r : Nat) : adU W r X 16 = addR W r X := upto_all _ _ (Nat.le_refl _)
theorem upto_hi {f g : Nat → Nat} {k n i v : Nat} (h : (upto f g k n)[i]? = some v) (hi : k ≤ i) : v = g i := by
  have := (upto_get h).2; rwa [if_neg (by omega)] at this
theorem adU_step {W X : List Nat} {r c i n : Nat} (hi : i < 4) (h : (adU W r X (4 * c + i))[4 * c + i]? = some n) :
    (adU W r X (4 * c + i)).set (4 * c + i) (n ^^^ W.getD (4 * r + c) 0 / 2 ^ (24 - 8 * i) % 256) = adU W r X (4 * c + i + 1) := by
  refine upto_set ?_
  rw [upto_hi h (Nat.le_refl _), show (4 * c + i) / 4 = c by omega, show (4 * c + i) % 4 = i by omega]
def rwU (X : List Nat) (k : Nat) : List Nat := upto (fun j => sF (X.getD (4 * ((j / 4 + j % 4) % 4) + j % 4) 0)) (fun _ => 0) k 16
theorem rwU_by (X : List Nat) (k : Nat) : By 16 (rwU X k) := upto_by (fun i _ => sF_lt _) (fun i _ => by decide)
theorem rwU_all (X : List Nat) : rwU X 16 = rowsR X := upto_all _ _ (Nat.le_refl _)
theorem rwU_step {X : List Nat} {c i n : Nat} (hi : i < 4) (h : X[4 * ((c + i) % 4) + i]? = some n) : (rwU X (4 * c + i)).set (4 * c + i) (sF n) = rwU X (4 * c + i + 1) := by
  refine upto_set ?_
  rw [show (4 * c + i) / 4 = c by omega, show (4 * c + i) % 4 = i by omega, getD_some h]
def coU (X : List Nat) (k : Nat) : List Nat := upto (fun j => colF X (j / 4) (j % 4)) (fun _ => 0) k 16
theorem coU_by {X : List Nat} (h : By 16 X) (k : Nat) : By 16 (coU X k) := upto_by (fun i _ => colF_lt h.2 _ _) (fun i _ => by decide)
theorem coU_all (X : List Nat) : coU X 16 = colsR X := upto_all _ _ (Nat.le_refl _)
theorem coU_step {X : List Nat} {c i x y : Nat} (hi : i < 4) (hx : X[4 * c + i]? = some x) (hy : X[4 * c + (i + 1) % 4]? = some y) :
    (coU X (4 * c + i)).set (4 * c + i) ((colA X c ^^^ x) ^^^ tw (x ^^^ y)) = coU X (4 * c + i + 1) := by
  refine upto_set ?_
  rw [show (4 * c + i) / 4 = c by omega, show (4 * c + i) % 4 = i by omega]; unfold colF; rw [getD_some hx, getD_some hy]
/-! ### unlike blocks are ciphered unlike -/
theorem xor_zero_iff {a b : Nat} (h : a ^^^ b = 0) : a = b := by have := congrArg (· ^^^ b) h; simpa [Nat.xor_assoc] using this
/-! ### the laws' facts -/
def k0 : List Nat := arr 32 fun i => i
def b0 : List Nat := arr 16 fun i => 17 * i
def c0 : List Nat := [142, 162, 183, 202, 81, 103, 69, 191, 234, 252, 73, 144, 75, 73, 96, 137]
end Go.Proofs.YtlkbkgghfhoggaaGreatDoor
