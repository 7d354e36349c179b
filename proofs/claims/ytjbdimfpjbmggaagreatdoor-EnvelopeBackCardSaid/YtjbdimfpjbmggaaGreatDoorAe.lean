/- AES by numbers: words of a key, rounds; unlike blocks are ciphered unlike. Blocks of the heap that hold keys. -/
import Derived.Test.YtjbdimfpjbmggaaGreatDoorSb
set_option linter.unusedVariables false
set_option linter.unusedSimpArgs false
namespace Go.Proofs.YtjbdimfpjbmggaaGreatDoor
open Go.RowKit Gm
/-! ### effects on several blocks -/
def Ons (l : List Nat) (i : Nat) : Prop := i ∈ l
theorem Ons.nil' {p : Nat} : ¬ Ons [] p := fun h => by cases h
theorem Ons.cons' {p q : Nat} {l : List Nat} (h : p ≠ q) (t : ¬ Ons l p) : ¬ Ons (q :: l) p := fun hh => by
  rcases List.mem_cons.1 hh with e | e
  · exact h e
  · exact t e
theorem Ons.subn {S : Nat → Prop} {N : Nat} : ∀ i, Ons [] i → S i ∨ N ≤ i := fun i h => by cases h
theorem Ons.subc {S : Nat → Prop} {N q : Nat} {l : List Nat} (hq : S q ∨ N ≤ q) (t : ∀ i, Ons l i → S i ∨ N ≤ i) : ∀ i, Ons (q :: l) i → S i ∨ N ≤ i := fun i h => by
  rcases List.mem_cons.1 h with rfl | e
  · exact hq
  · exact t i e
theorem Ons.mem0 {a : Nat} {l : List Nat} : Ons (a :: l) a := List.mem_cons_self ..
theorem Ons.mem1 {a b : Nat} {l : List Nat} : Ons (a :: b :: l) b := List.mem_cons_of_mem _ (List.mem_cons_self ..)
theorem On.sub {S : Nat → Prop} {N q : Nat} (hq : S q ∨ N ≤ q) : ∀ i, On q i → S i ∨ N ≤ i := fun i h => by
  have : i = q := h
  subst this; exact hq
/-! ### rows of words -/
def u32s (l : List Nat) : List Value := l.map fun n : Nat => .int .u32 (n : Int)
theorem u32s_length (l : List Nat) : (u32s l).length = l.length := by simp [u32s]
theorem u32s_set (l : List Nat) (i n : Nat) : (u32s l).set i (.int .u32 (n : Int)) = u32s (l.set i n) := by simp [u32s, List.map_set]
def keyL (bx : Nat) (W : List Nat) : List Value := .pointer (some ⟨bx, 0, none⟩) :: u32s W
theorem key_get {bx i n : Nat} {W : List Nat} (h : W[i]? = some n) : (keyL bx W)[1 + i]? = some (.int .u32 (n : Int)) := by
  rw [Nat.add_comm]; simp [keyL, u32s, h]
theorem key_set {bx i n : Nat} {W : List Nat} : (keyL bx W).set (1 + i) (.int .u32 (n : Int)) = keyL bx (W.set i n) := by
  rw [Nat.add_comm]; show _ :: (u32s W).set i _ = _; rw [u32s_set]; rfl
theorem keyL_length {bx n : Nat} {W : List Nat} (h : W.length = n) : (keyL bx W).length = n + 1 := by simp [keyL, u32s_length, h]
theorem getD_get {l : List Nat} {m : Nat} (h : m < l.length) : l[m]? = some (l.getD m 0) := by rw [List.getD_eq_getElem?_getD, List.getElem?_eq_getElem h]; rfl
theorem upto_lo {f g : Nat → Nat} {k n i : Nat} (h : i < k) (hn : i < n) : (upto f g k n)[i]? = some (f i) := by
  unfold upto; rw [arr_get _ hn, if_pos h]
def Wy (W : List Nat) : Prop := W.length = 60 ∧ ∀ n ∈ W, n < 4294967296
theorem Wy.lt {W : List Nat} (h : Wy W) (i : Nat) : W.getD i 0 < 4294967296 := by
  rw [List.getD_eq_getElem?_getD]
  cases hx : W[i]? with
  | none => decide
  | some v => exact h.2 v (List.mem_of_getElem? hx)
theorem Wy.get {W : List Nat} (h : Wy W) {i : Nat} (hi : i < 60) : W[i]? = some (W.getD i 0) := getD_get (by rw [h.1]; exact hi)
/-! ### the words of a key -/
def rot8 (x : Nat) : Nat := x * 256 % 4294967296 ||| x / 16777216
def kb (K : List Nat) (j : Nat) : Nat := ((K.getD (4 * j) 0 * 16777216 % 4294967296 ||| K.getD (4 * j + 1) 0 * 65536 % 4294967296) ||| K.getD (4 * j + 2) 0 * 256 % 4294967296) ||| K.getD (4 * j + 3) 0
def nx (a p i : Nat) : Nat := a ^^^ (if i % 8 = 0 then sW (rot8 p) ^^^ 2 ^ (24 + (i - 1) / 8) else if i % 8 = 4 then sW p else p)
def ws (K : List Nat) : Nat → List Nat
  | 0 => []
  | n + 1 => let l := ws K n; l ++ [if n < 8 then kb K n else nx (l.getD (n - 8) 0) (l.getD (n - 1) 0) n]
def wF (K : List Nat) (j : Nat) : Nat := (ws K (j + 1)).getD j 0
theorem ws_succ (K : List Nat) (n : Nat) : ws K (n + 1) = ws K n ++ [if n < 8 then kb K n else nx ((ws K n).getD (n - 8) 0) ((ws K n).getD (n - 1) 0) n] := rfl
theorem ws_length (K : List Nat) (n : Nat) : (ws K n).length = n := by
  induction n with
  | zero => rfl
  | succ n ih => unfold ws; simp [ih]
theorem ws_last (K : List Nat) (n : Nat) : wF K n = if n < 8 then kb K n else nx ((ws K n).getD (n - 8) 0) ((ws K n).getD (n - 1) 0) n := by
  unfold wF
  rw [ws_succ, List.getD_eq_getElem?_getD, List.getElem?_append_right (by rw [ws_length]; exact Nat.le_refl _), ws_length, Nat.sub_self]; rfl
theorem ws_get (K : List Nat) {j n : Nat} (h : j < n) : (ws K n).getD j 0 = wF K j := by
  induction n with
  | zero => omega
  | succ n ih =>
    rcases Nat.lt_or_ge j n with hj | hj
    · rw [← ih hj]
      rw [ws_succ, List.getD_eq_getElem?_getD, List.getElem?_append_left (by rw [ws_length]; exact hj), List.getD_eq_getElem?_getD]
    · obtain rfl : j = n := by omega
      rfl
theorem wF_key (K : List Nat) {j : Nat} (h : j < 8) : wF K j = kb K j := by rw [ws_last, if_pos h]
theorem wF_nx (K : List Nat) {j : Nat} (h : 8 ≤ j) : wF K j = nx (wF K (j - 8)) (wF K (j - 1)) j := by rw [ws_last, if_neg (by omega), ws_get K (by omega), ws_get K (by omega)]
def KW (K : List Nat) : List Nat := arr 60 (wF K)
theorem KW_ws (K : List Nat) : KW K = ws K 60 := by
  unfold KW; rw [← arr_of (ws_length K 60)]
  exact arr_ext fun i hi => (ws_get K hi).symm
theorem xor_lt32 {a b : Nat} (ha : a < 4294967296) (hb : b < 4294967296) : a ^^^ b < 4294967296 := Nat.xor_lt_two_pow (n := 32) ha hb
theorem kb_lt {K : List Nat} (h : ∀ n ∈ K, n < 256) (j : Nat) : kb K j < 4294967296 :=
  Nat.or_lt_two_pow (n := 32) (Nat.or_lt_two_pow (n := 32) (Nat.or_lt_two_pow (n := 32) (Nat.mod_lt _ (by decide)) (Nat.mod_lt _ (by decide))) (Nat.mod_lt _ (by decide))) (Nat.lt_of_lt_of_le (getD_lt h _) (by decide))
theorem rot8_lt {x : Nat} (h : x < 4294967296) : rot8 x < 4294967296 := Nat.or_lt_two_pow (n := 32) (Nat.mod_lt _ (by decide)) (Nat.lt_of_le_of_lt (Nat.div_le_self _ _) h)
theorem nx_lt {a p i : Nat} (ha : a < 4294967296) (hp : p < 4294967296) (hi : i < 60) : nx a p i < 4294967296 := by
  unfold nx
  refine xor_lt32 ha ?_
  split
  · refine xor_lt32 (sW_lt _) ?_
    exact Nat.lt_of_le_of_lt (Nat.pow_le_pow_right (by decide) (by omega : 24 + (i - 1) / 8 ≤ 31)) (by decide)
  · split
    · exact sW_lt _
    · exact hp
theorem wF_lt {K : List Nat} (h : ∀ n ∈ K, n < 256) : ∀ j, j < 60 → wF K j < 4294967296 := by
  intro j
  induction j using Nat.strongRecOn with
  | ind j ih =>
    intro hj
    rcases Nat.lt_or_ge j 8 with h8 | h8
    · rw [wF_key K h8]; exact kb_lt h j
    · rw [wF_nx K h8]; exact nx_lt (ih _ (by omega) (by omega)) (ih _ (by omega) (by omega)) hj
theorem KW_wy {K : List Nat} (h : ∀ n ∈ K, n < 256) : Wy (KW K) := ⟨arr_length _ _, fun v hv => by
  obtain ⟨i, hi, rfl⟩ := List.mem_map.1 hv; exact wF_lt h i (List.mem_range.1 hi)⟩
theorem KW_getD (K : List Nat) {i : Nat} (h : i < 60) : (KW K).getD i 0 = wF K i := getD_some (arr_get _ h)
theorem nx_rot {K : List Nat} {i : Nat} (h8 : 8 ≤ i) (h : i % 8 = 0) : wF K (i - 8) ^^^ (sW (rot8 (wF K (i - 1))) ^^^ 2 ^ (24 + (i - 1) / 8)) = wF K i := by rw [wF_nx K h8]; unfold nx; rw [if_pos h]
theorem nx_sub {K : List Nat} {i : Nat} (h8 : 8 ≤ i) (h : i % 8 = 4) : wF K (i - 8) ^^^ sW (wF K (i - 1)) = wF K i := by rw [wF_nx K h8]; unfold nx; rw [if_neg (by omega), if_pos h]
theorem nx_not {K : List Nat} {i : Nat} (h8 : 8 ≤ i) (h : ¬ i % 8 = 0) (h4 : ¬ i % 8 = 4) : wF K (i - 8) ^^^ wF K (i - 1) = wF K i := by rw [wF_nx K h8]; unfold nx; rw [if_neg h, if_neg h4]
theorem upto_length (f g : Nat → Nat) (k n : Nat) : (upto f g k n).length = n := arr_length _ _
theorem rep_upto (f : Nat → Nat) (n : Nat) : List.replicate n 0 = upto f (fun _ => 0) 0 n := by
  unfold upto arr; apply List.ext_getElem?; intro i
  rw [List.getElem?_map, List.getElem?_replicate]
  by_cases h : i < n
  · rw [if_pos h, List.getElem?_range h]; rfl
  · rw [if_neg h, List.getElem?_eq_none (by rw [List.length_range]; omega)]; rfl
theorem upto_kb (K : List Nat) : upto (kb K) (fun _ => 0) 8 60 = upto (wF K) (fun _ => 0) 8 60 := arr_ext fun i _ => by
  by_cases h : i < 8
  · rw [if_pos h, if_pos h, wF_key K h]
  · rw [if_neg h, if_neg h]
theorem one_lt {i : Nat} (h : i ≤ 60) : 2 ^ (24 + (i - 1) / 8) < 4294967296 := Nat.lt_of_le_of_lt (Nat.pow_le_pow_right (by decide) (by omega : 24 + (i - 1) / 8 ≤ 31)) (by decide)
theorem one_yes {i : Nat} (h8 : 8 ≤ i) (hi : i < 60) (h : i % 8 = 0) : 2 ^ (24 + (i - 1) / 8) * 2 % 4294967296 = 2 ^ (24 + (i + 1 - 1) / 8) := by
  rw [← Nat.pow_succ, show (24 + (i - 1) / 8).succ = 24 + (i + 1 - 1) / 8 by omega, Nat.mod_eq_of_lt (one_lt (by omega))]
theorem one_no {i : Nat} (h8 : 8 ≤ i) (h : ¬ i % 8 = 0) : 2 ^ (24 + (i - 1) / 8) = 2 ^ (24 + (i + 1 - 1) / 8) := by
  rw [show (i - 1) / 8 = (i + 1 - 1) / 8 by omega]
/-! ### rounds -/
def addR (W : List Nat) (r : Nat) (X : List Nat) : List Nat := arr 16 fun j => X.getD j 0 ^^^ W.getD (4 * r + j / 4) 0 / 2 ^ (24 - 8 * (j % 4)) % 256
def rowsR (X : List Nat) : List Nat := arr 16 fun j => sF (X.getD (4 * ((j / 4 + j % 4) % 4) + j % 4) 0)
def colA (X : List Nat) (c : Nat) : Nat := ((X.getD (4 * c) 0 ^^^ X.getD (4 * c + 1) 0) ^^^ X.getD (4 * c + 2) 0) ^^^ X.getD (4 * c + 3) 0
def colF (X : List Nat) (c i : Nat) : Nat := (colA X c ^^^ X.getD (4 * c + i) 0) ^^^ tw (X.getD (4 * c + i) 0 ^^^ X.getD (4 * c + (i + 1) % 4) 0)
def colsR (X : List Nat) : List Nat := arr 16 fun j => colF X (j / 4) (j % 4)
theorem addR_by {W X : List Nat} (r : Nat) (h : By 16 X) : By 16 (addR W r X) := arr_by fun i _ => xor_lt8 (getD_lt h.2 i) (Nat.mod_lt _ (by decide))
theorem rowsR_by (X : List Nat) : By 16 (rowsR X) := arr_by fun i _ => sF_lt _
theorem colA_lt {X : List Nat} (h : ∀ n ∈ X, n < 256) (c : Nat) : colA X c < 256 := xor_lt8 (xor_lt8 (xor_lt8 (getD_lt h _) (getD_lt h _)) (getD_lt h _)) (getD_lt h _)
theorem colF_lt {X : List Nat} (h : ∀ n ∈ X, n < 256) (c i : Nat) : colF X c i < 256 := xor_lt8 (xor_lt8 (colA_lt h c) (getD_lt h _)) (tw_lt (xor_lt8 (getD_lt h _) (getD_lt h _)))
theorem colsR_by {X : List Nat} (h : By 16 X) : By 16 (colsR X) := arr_by fun i _ => colF_lt h.2 _ _
def eN (W X : List Nat) : Nat → List Nat
  | 0 => addR W 0 X
  | n + 1 => addR W (n + 1) (if n + 1 < 14 then colsR (rowsR (eN W X n)) else rowsR (eN W X n))
def encB (W X : List Nat) : List Nat := eN W X 14
theorem eN_by (W : List Nat) {X : List Nat} (h : By 16 X) (n : Nat) : By 16 (eN W X n) := by
  induction n with
  | zero => exact addR_by 0 h
  | succ n ih =>
    unfold eN; refine addR_by _ ?_
    split
    · exact colsR_by (rowsR_by _)
    · exact rowsR_by _
theorem encB_by (W : List Nat) {X : List Nat} (h : By 16 X) : By 16 (encB W X) := eN_by W h 14
theorem eN_succ (W X : List Nat) (n : Nat) : eN W X (n + 1) = addR W (n + 1) (if n + 1 < 14 then colsR (rowsR (eN W X n)) else rowsR (eN W X n)) := rfl
theorem eN_mid {W X : List Nat} {n : Nat} (h : n + 1 < 14) : addR W (n + 1) (colsR (rowsR (eN W X n))) = eN W X (n + 1) := by rw [eN_succ, if_pos h]
theorem eN_end {W X : List Nat} {n : Nat} (h : ¬ n + 1 < 14) : addR W (n + 1) (rowsR (eN W X n)) = eN W X (n + 1) := by rw [eN_succ, if_neg h]
/-! ### rounds in the make -/
def adU (W : List Nat) (r : Nat) (X : List Nat) (k : Nat) : List Nat := upto (fun j => X.getD j 0 ^^^ W.getD (4 * r + j / 4) 0 / 2 ^ (24 - 8 * (j % 4)) % 256) (fun j => X.getD j 0) k 16
theorem adU_by {W X : List Nat} (h : By 16 X) (r k : Nat) : By 16 (adU W r X k) := upto_by (fun i _ => xor_lt8 (getD_lt h.2 i) (Nat.mod_lt _ (by decide))) (fun i _ => getD_lt h.2 i)
theorem adU_zero {W X : List Nat} (h : By 16 X) (r : Nat) : X = adU W r X 0 := by unfold adU; rw [upto_zero, arr_of h.1]
theorem adU_all (W X : List Nat) (r : Nat) : adU W r X 16 = addR W r X := upto_all _ _ (Nat.le_refl _)
theorem upto_hi {f g : Nat → Nat} {k n i v : Nat} (h : (upto f g k n)[i]? = some v) (hi : k ≤ i) : v = g i := by
  have := (upto_get h).2; rwa [if_neg (by omega)] at this
theorem adU_step {W X : List Nat} {r c i n : Nat} (hi : i < 4) (h : (adU W r X (4 * c + i))[4 * c + i]? = some n) :
    (adU W r X (4 * c + i)).set (4 * c + i) (n ^^^ W.getD (4 * r + c) 0 / 2 ^ (24 - 8 * i) % 256) = adU W r X (4 * c + i + 1) := by
  refine upto_set ?_
  rw [upto_hi h (Nat.le_refl _), show (4 * c + i) / 4 = c by omega, show (4 * c + i) % 4 = i by omega]
def rwU (X : List Nat) (k : Nat) : List Nat := upto (fun j => sF (X.getD (4 * ((j / 4 + j % 4) % 4) + j % 4) 0)) (fun _ => 0) k 16
theorem rwU_by (X : List Nat) (k : Nat) : By 16 (rwU X k) := upto_by (fun i _ => sF_lt _) (fun i _ => by decide)
theorem rwU_all (X : List Nat) : rwU X 16 = rowsR X := upto_all _ _ (Nat.le_refl _)
theorem rwU_step {X : List Nat} {c i n : Nat} (hi : i < 4) (h : X[4 * ((c + i) % 4) + i]? = some n) : (rwU X (4 * c + i)).set (4 * c + i) (sF n) = rwU X (4 * c + i + 1) := by
  refine upto_set ?_
  rw [show (4 * c + i) / 4 = c by omega, show (4 * c + i) % 4 = i by omega, getD_some h]
def coU (X : List Nat) (k : Nat) : List Nat := upto (fun j => colF X (j / 4) (j % 4)) (fun _ => 0) k 16
theorem coU_by {X : List Nat} (h : By 16 X) (k : Nat) : By 16 (coU X k) := upto_by (fun i _ => colF_lt h.2 _ _) (fun i _ => by decide)
theorem coU_all (X : List Nat) : coU X 16 = colsR X := upto_all _ _ (Nat.le_refl _)
theorem coU_step {X : List Nat} {c i x y : Nat} (hi : i < 4) (hx : X[4 * c + i]? = some x) (hy : X[4 * c + (i + 1) % 4]? = some y) :
    (coU X (4 * c + i)).set (4 * c + i) ((colA X c ^^^ x) ^^^ tw (x ^^^ y)) = coU X (4 * c + i + 1) := by
  refine upto_set ?_
  rw [show (4 * c + i) / 4 = c by omega, show (4 * c + i) % 4 = i by omega]; unfold colF; rw [getD_some hx, getD_some hy]
theorem tw_hi3 : ∀ a, a < 256 → ¬ (a &&& 128 = 0) → (a * 2 % 256) ^^^ 27 = tw a := tw_hi'
theorem u17_end {k : Nat} (h : ¬ k < 16) : upto (fun i => 17 * i) (fun _ => 0) k 16 = upto (fun i => 17 * i) (fun _ => 0) (k + 1) 16 := by rw [upto_all _ _ (by omega), upto_all _ _ (by omega)]
/-! ### unlike blocks are ciphered unlike -/
theorem by_ext {n : Nat} {X Y : List Nat} (hx : By n X) (hy : By n Y) (h : ∀ i, i < n → X.getD i 0 = Y.getD i 0) : X = Y := by
  rw [← arr_of hx.1, ← arr_of hy.1]; exact arr_ext h
theorem arr_inj {n : Nat} {f g : Nat → Nat} (h : arr n f = arr n g) {i : Nat} (hi : i < n) : f i = g i := by
  have := arr_get f hi; rw [h, arr_get g hi] at this; exact (Option.some.inj this).symm
theorem xor_right_inj {a b c : Nat} (h : a ^^^ c = b ^^^ c) : a = b := by
  have := congrArg (· ^^^ c) h
  simpa [Nat.xor_assoc] using this
theorem addR_inj {W X Y : List Nat} {r : Nat} (hx : By 16 X) (hy : By 16 Y) (h : addR W r X = addR W r Y) : X = Y := by_ext hx hy fun i hi => xor_right_inj (arr_inj h hi)
theorem row_onto : ∀ i, i < 16 → ∃ j, j < 16 ∧ 4 * ((j / 4 + j % 4) % 4) + j % 4 = i := by decide
theorem rowsR_inj {X Y : List Nat} (hx : By 16 X) (hy : By 16 Y) (h : rowsR X = rowsR Y) : X = Y := by_ext hx hy fun i hi => by
  obtain ⟨j, hj, e⟩ := row_onto i hi
  have := arr_inj h hj
  rw [e] at this
  exact (sub_inj (getD_lt hx.2 i) (getD_lt hy.2 i)).1 this
theorem xor_left (a b c : Nat) : a ^^^ (b ^^^ c) = b ^^^ (a ^^^ c) := by rw [← Nat.xor_assoc, Nat.xor_comm a b, Nat.xor_assoc]
theorem xor_can (a b : Nat) : a ^^^ (a ^^^ b) = b := by rw [← Nat.xor_assoc, Nat.xor_self, Nat.zero_xor]
theorem xor_zero_iff {a b : Nat} (h : a ^^^ b = 0) : a = b := by have := congrArg (· ^^^ b) h; simpa [Nat.xor_assoc] using this
theorem tw_zero : tw 0 = 0 := by decide
/-- A column that comes to noughts is one of noughts. -/
theorem col_zero {d0 d1 d2 d3 D : Nat} (h0 : d0 < 256) (h1 : d1 < 256) (h2 : d2 < 256) (h3 : d3 < 256) (hD : D = d0 ^^^ (d1 ^^^ (d2 ^^^ d3)))
    (e0 : tw (d0 ^^^ d1) = D ^^^ d0) (e1 : tw (d1 ^^^ d2) = D ^^^ d1) (e2 : tw (d2 ^^^ d3) = D ^^^ d2) (e3 : tw (d3 ^^^ d0) = D ^^^ d3) : d0 = 0 ∧ d1 = 0 ∧ d2 = 0 ∧ d3 = 0 := by
  have a01 : tw (d0 ^^^ d2) = d0 ^^^ d1 := by
    rw [show d0 ^^^ d2 = (d0 ^^^ d1) ^^^ (d1 ^^^ d2) by rw [Nat.xor_assoc, xor_can], tw_xor (xor_lt8 h0 h1) (xor_lt8 h1 h2), e0, e1, Nat.xor_assoc, xor_left d0 D d1, xor_can]
  have a23 : tw (d0 ^^^ d2) = d2 ^^^ d3 := by
    rw [show d0 ^^^ d2 = (d2 ^^^ d3) ^^^ (d3 ^^^ d0) by rw [Nat.xor_assoc, xor_can, Nat.xor_comm], tw_xor (xor_lt8 h2 h3) (xor_lt8 h3 h0), e2, e3, Nat.xor_assoc, xor_left d2 D d3, xor_can]
  have D0 : D = 0 := by rw [hD, ← a23, a01, ← Nat.xor_assoc, Nat.xor_self]
  rw [D0, Nat.zero_xor] at e0 e1 e2 e3
  have a02 : d0 ^^^ d2 = 0 := by
    rw [show d0 ^^^ d2 = tw (d0 ^^^ d1) ^^^ tw (d2 ^^^ d3) by rw [e0, e2], ← tw_xor (xor_lt8 h0 h1) (xor_lt8 h2 h3), Nat.xor_assoc, ← hD, D0, tw_zero]
  rw [a02, tw_zero] at a01 a23
  have f01 := xor_zero_iff a01.symm
  have f23 := xor_zero_iff a23.symm
  have f02 := xor_zero_iff a02
  subst f01
  rw [Nat.xor_self, tw_zero] at e0
  subst f02 f23
  exact ⟨e0.symm, e0.symm, e0.symm, e0.symm⟩
theorem xor_move {a x y b u v : Nat} (h : (a ^^^ x) ^^^ y = (b ^^^ u) ^^^ v) : y ^^^ v = (a ^^^ b) ^^^ (x ^^^ u) := by
  have := congrArg (fun z => z ^^^ ((a ^^^ x) ^^^ v)) h
  simp only [Nat.xor_assoc, Nat.xor_comm, xor_left, xor_can, Nat.xor_self, Nat.xor_zero] at this ⊢
  exact this
theorem colF_inj {X Y : List Nat} (hx : ∀ n ∈ X, n < 256) (hy : ∀ n ∈ Y, n < 256) (c : Nat) (h : ∀ i, i < 4 → colF X c i = colF Y c i) : ∀ i, i < 4 → X.getD (4 * c + i) 0 = Y.getD (4 * c + i) 0 := by
  have g0 := xor_move (h 0 (by decide)); have g1 := xor_move (h 1 (by decide)); have g2 := xor_move (h 2 (by decide)); have g3 := xor_move (h 3 (by decide))
  rw [← tw_xor (xor_lt8 (getD_lt hx _) (getD_lt hx _)) (xor_lt8 (getD_lt hy _) (getD_lt hy _))] at g0 g1 g2 g3
  unfold colA at g0 g1 g2 g3
  simp only [Nat.add_zero, Nat.zero_add, Nat.reduceAdd, Nat.reduceMod] at g0 g1 g2 g3
  have b0 := getD_lt hx (4 * c); have b1 := getD_lt hx (4 * c + 1); have b2 := getD_lt hx (4 * c + 2); have b3 := getD_lt hx (4 * c + 3)
  have c0 := getD_lt hy (4 * c); have c1 := getD_lt hy (4 * c + 1); have c2 := getD_lt hy (4 * c + 2); have c3 := getD_lt hy (4 * c + 3)
  generalize gX0 : X.getD (4 * c) 0 = x0 at *; generalize gX1 : X.getD (4 * c + 1) 0 = x1 at *; generalize gX2 : X.getD (4 * c + 2) 0 = x2 at *; generalize gX3 : X.getD (4 * c + 3) 0 = x3 at *
  generalize gY0 : Y.getD (4 * c) 0 = y0 at *; generalize gY1 : Y.getD (4 * c + 1) 0 = y1 at *; generalize gY2 : Y.getD (4 * c + 2) 0 = y2 at *; generalize gY3 : Y.getD (4 * c + 3) 0 = y3 at *
  have fin := col_zero (d0 := x0 ^^^ y0) (d1 := x1 ^^^ y1) (d2 := x2 ^^^ y2) (d3 := x3 ^^^ y3) (D := (((x0 ^^^ x1) ^^^ x2) ^^^ x3) ^^^ (((y0 ^^^ y1) ^^^ y2) ^^^ y3)) (xor_lt8 b0 c0) (xor_lt8 b1 c1) (xor_lt8 b2 c2) (xor_lt8 b3 c3)
    (by ac_nf) (by rw [← g0]; ac_nf) (by rw [← g1]; ac_nf) (by rw [← g2]; ac_nf) (by rw [← g3]; ac_nf)
  intro i hi
  have e0 := xor_zero_iff fin.1; have e1 := xor_zero_iff fin.2.1; have e2 := xor_zero_iff fin.2.2.1; have e3 := xor_zero_iff fin.2.2.2
  obtain rfl | rfl | rfl | rfl : i = 0 ∨ i = 1 ∨ i = 2 ∨ i = 3 := by omega
  · exact gX0.trans (e0.trans gY0.symm)
  · exact gX1.trans (e1.trans gY1.symm)
  · exact gX2.trans (e2.trans gY2.symm)
  · exact gX3.trans (e3.trans gY3.symm)
theorem colsR_inj {X Y : List Nat} (hx : By 16 X) (hy : By 16 Y) (h : colsR X = colsR Y) : X = Y := by_ext hx hy fun i hi => by
  have := colF_inj hx.2 hy.2 (i / 4) (fun k hk => by
    have e := arr_inj h (i := 4 * (i / 4) + k) (by omega)
    rwa [show (4 * (i / 4) + k) / 4 = i / 4 by omega, show (4 * (i / 4) + k) % 4 = k by omega] at e) (i % 4) (Nat.mod_lt _ (by decide))
  rwa [Nat.div_add_mod] at this
theorem eN_inj {W X Y : List Nat} (hx : By 16 X) (hy : By 16 Y) : ∀ n, eN W X n = eN W Y n → X = Y := by
  intro n; induction n with
  | zero => exact addR_inj hx hy
  | succ n ih =>
    intro h
    rw [eN_succ, eN_succ] at h
    by_cases hn : n + 1 < 14
    · rw [if_pos hn, if_pos hn] at h
      exact ih (rowsR_inj (eN_by W hx n) (eN_by W hy n) (colsR_inj (rowsR_by _) (rowsR_by _) (addR_inj (colsR_by (rowsR_by _)) (colsR_by (rowsR_by _)) h)))
    · rw [if_neg hn, if_neg hn] at h
      exact ih (rowsR_inj (eN_by W hx n) (eN_by W hy n) (addR_inj (rowsR_by _) (rowsR_by _) h))
theorem encB_apart {W X Y : List Nat} (hx : By 16 X) (hy : By 16 Y) : (decide (encB W X = encB W Y) == decide (X = Y)) = true := by
  have : encB W X = encB W Y ↔ X = Y := ⟨eN_inj hx hy 14, fun h => by rw [h]⟩
  rw [decide_eq_decide.2 this]; exact beq_self_eq_true _
/-! ### the laws' facts -/
theorem kb_add {K : List Nat} (h : ∀ n ∈ K, n < 256) (j : Nat) : kb K j = ((K.getD (4 * j) 0 * 256 + K.getD (4 * j + 1) 0) * 256 + K.getD (4 * j + 2) 0) * 256 + K.getD (4 * j + 3) 0 := by
  have h1 := getD_lt h (4 * j)
  have h2 := getD_lt h (4 * j + 1)
  have h3 := getD_lt h (4 * j + 2)
  have h4 := getD_lt h (4 * j + 3)
  unfold kb
  generalize K.getD (4 * j) 0 = a at *
  generalize K.getD (4 * j + 1) 0 = b at *
  generalize K.getD (4 * j + 2) 0 = c at *
  generalize K.getD (4 * j + 3) 0 = d at *
  rw [Nat.mod_eq_of_lt (by omega : a * 16777216 < 4294967296), Nat.mod_eq_of_lt (by omega : b * 65536 < 4294967296), Nat.mod_eq_of_lt (by omega : c * 256 < 4294967296)]
  rw [show a * 16777216 = a * 2 ^ 24 from rfl, or_add 24 (by omega : b * 65536 < 2 ^ 24), show a * 2 ^ 24 + b * 65536 = (a * 256 + b) * 2 ^ 16 by omega, or_add 16 (by omega : c * 256 < 2 ^ 16),
    show (a * 256 + b) * 2 ^ 16 + c * 256 = ((a * 256 + b) * 256 + c) * 2 ^ 8 by omega, or_add 8 (by omega : d < 2 ^ 8)]
def k0 : List Nat := arr 32 fun i => i
def b0 : List Nat := arr 16 fun i => 17 * i
def W0 : List Nat := [66051, 67438087, 134810123, 202182159, 269554195, 336926231, 404298267, 471670303, 2775827103, 2708915352, 2843725459, 2775761052, 374450381, 38059738, 442344641, 104905438, 2928140272, 267459432, 2794378747, 66852199, 1843523912, 1873104786, 1979247443, 1941459341, 3327558271, 3383204119, 1864977644, 1825921419, 1038236277, 1380414951, 666869428, 1409797945, 199004255, 3262843208, 2907850148, 3246857263, 1173726816, 397595527, 806178099, 1678410250, 2094003996, 3199532628, 333888496, 3529615327, 4028300030, 3886557561, 3617940554, 3014649408, 625081969, 2616524837, 2282994645, 1517427722, 1314547353, 2851229664, 2119642026, 3455634922, 620526028, 3205069289, 924500540, 1835589174]
def c0 : List Nat := [142, 162, 183, 202, 81, 103, 69, 191, 234, 252, 73, 144, 75, 73, 96, 137]
theorem k0_by : By 32 k0 := arr_by fun i hi => by omega
theorem b0_by : By 16 b0 := arr_by fun i hi => by omega
theorem c0_by : By 16 c0 := by_lit _ (by decide)
theorem c0_get {i : Nat} (h : i < 16) : c0[i]? = some (c0.getD i 0) := getD_get (by rw [c0_by.1]; exact h)
theorem W0_eq : KW k0 = W0 := by rw [KW_ws]; decide +kernel
theorem c0_eq : encB W0 b0 = c0 := by decide +kernel
theorem bit_ne : ∀ x, x < 256 → x ^^^ 1 ≠ x := by decide +kernel
theorem kb_flip {K : List Nat} (hK : By 32 K) {j : Nat} (hj : j < 8) : kb (K.set (4 * j) (K.getD (4 * j) 0 ^^^ 1)) j ≠ kb K j := by
  have hx := getD_lt hK.2 (4 * j)
  have hS : By 32 (K.set (4 * j) (K.getD (4 * j) 0 ^^^ 1)) := by_set hK (xor_lt8 hx (by decide))
  rw [kb_add hK.2, kb_add hS.2]
  have e (i : Nat) (h : 4 * j ≠ i) : (K.set (4 * j) (K.getD (4 * j) 0 ^^^ 1)).getD i 0 = K.getD i 0 := by rw [List.getD_eq_getElem?_getD, List.getElem?_set_ne h, List.getD_eq_getElem?_getD]
  have e0 : (K.set (4 * j) (K.getD (4 * j) 0 ^^^ 1)).getD (4 * j) 0 = K.getD (4 * j) 0 ^^^ 1 := by rw [List.getD_eq_getElem?_getD, List.getElem?_set_self (by rw [hK.1]; omega)]; rfl
  rw [e0, e _ (by omega), e _ (by omega), e _ (by omega)]
  have := bit_ne _ hx
  omega
end Go.Proofs.YtjbdimfpjbmggaaGreatDoor
