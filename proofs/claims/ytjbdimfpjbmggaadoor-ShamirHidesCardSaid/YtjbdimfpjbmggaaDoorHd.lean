/- Draws by which a secret has some parts: the polynomial through them, taken to pieces. Nothing of Go. -/
import Derived.Test.YtjbdimfpjbmggaaDoorPt
import Derived.Test.YtjbdimfpjbmggaaDoorAr
set_option linter.unusedVariables false
set_option linter.unusedSimpArgs false
namespace Go.Proofs.YtjbdimfpjbmggaaDoor.Gm
def zw (xs ys : List Nat) (i : Nat) : Nat → Nat
  | 0 => ys.getD i 0
  | k + 1 => if k = i then zw xs ys i k else gmul (zw xs ys i k) (gdiv (xs.getD k 0) (xs.getD i 0 ^^^ xs.getD k 0))
theorem zw_lt {xs ys : List Nat} (hy : Bl ys) (i k : Nat) : zw xs ys i k < 256 := by
  induction k with
  | zero => exact hy.getD i
  | succ k ih => unfold zw; split; exact ih; exact gmul_lt _ _
theorem zw_skip {xs ys : List Nat} {i k : Nat} (h : k = i) : zw xs ys i k = zw xs ys i (k + 1) := (if_pos h).symm
theorem zw_step {xs ys : List Nat} {i k : Nat} (h : ¬ k = i) : gmul (zw xs ys i k) (gdiv (xs.getD k 0) (xs.getD i 0 ^^^ xs.getD k 0)) = zw xs ys i (k + 1) := (if_neg h).symm
theorem zw_eq {xs ys : List Nat} (hb : Bl xs) (hy : Bl ys) (hd : Di xs) {i : Nat} (hi : i < xs.length) : ∀ k, k ≤ xs.length → zw xs ys i k = gmul (ys.getD i 0) (rwN xs 0 i k) := by
  intro k; induction k with
  | zero => intro _; show _ = gmul _ 1; rw [gmul_one (hy.getD i)]; rfl
  | succ k ih =>
    intro hk
    unfold zw rwN
    by_cases h : k = i
    · rw [if_pos h, if_pos h]; exact ih (by omega)
    · rw [if_neg h, if_neg h, ih (by omega), Nat.zero_xor]
      have n2 : xs.getD i 0 ^^^ xs.getD k 0 ≠ 0 := fun e => hd.ne hi (by omega : k < xs.length) (fun e' => h e'.symm) (x_zero e)
      rw [gdiv_eq (hb.getD k) (xor_lt (hb.getD i) (hb.getD k)) n2]
      unfold iv; rw [if_neg n2]; simp only [gmul_assoc]
def zs (xs ys : List Nat) : Nat → Nat
  | 0 => 0
  | i + 1 => zs xs ys i ^^^ zw xs ys i xs.length
theorem zs_lt {xs ys : List Nat} (hy : Bl ys) (i : Nat) : zs xs ys i < 256 := by
  induction i with
  | zero => exact (by decide : (0 : Nat) < 256)
  | succ i ih => exact xor_lt ih (zw_lt hy _ _)
theorem zs_eq {xs ys : List Nat} (hb : Bl xs) (hy : Bl ys) (hd : Di xs) : ∀ i, i ≤ xs.length → zs xs ys i = ipN xs ys 0 i := by
  intro i; induction i with
  | zero => intro _; rfl
  | succ i ih =>
    intro hi
    show _ ^^^ _ = ipN xs ys 0 i ^^^ gmul (wt xs 0 i) (ys.getD i 0)
    rw [ih (by omega), zw_eq hb hy hd (by omega) _ (Nat.le_refl _), rwN_wt hb hd (by omega) (by decide), gmul_comm]
/-! ### to pieces -/
def yN (xs ys : List Nat) : Nat → List Nat
  | 0 => ys
  | m + 1 => (List.range xs.length).map fun i => gdiv ((yN xs ys m).getD i 0 ^^^ ipN xs (yN xs ys m) 0 xs.length) (xs.getD i 0)
def cN (xs ys : List Nat) (m : Nat) : Nat := ipN xs (yN xs ys m) 0 xs.length
theorem cN_lt (xs ys : List Nat) (m : Nat) : cN xs ys m < 256 := ipN_lt _ _ _ _
theorem yN_bl {xs ys : List Nat} (hy : Bl ys) (m : Nat) : Bl (yN xs ys m) := by
  cases m with
  | zero => exact hy
  | succ m => exact fun n hn => by obtain ⟨j, _, rfl⟩ := List.mem_map.1 hn; exact gdiv_lt _ _
theorem yN_length {xs ys : List Nat} (hl : ys.length = xs.length) (m : Nat) : (yN xs ys m).length = xs.length := by
  cases m with
  | zero => exact hl
  | succ m => simp [yN]
theorem yN_getD {xs ys : List Nat} {m i : Nat} (h : i < xs.length) : (yN xs ys (m + 1)).getD i 0 = gdiv ((yN xs ys m).getD i 0 ^^^ cN xs ys m) (xs.getD i 0) := by
  simp [yN, cN, List.getD_eq_getElem?_getD, List.getElem?_map, List.getElem?_range h]
theorem gdiv_back {a x : Nat} (ha : a < 256) (hx : x < 256) (h : x ≠ 0) : gmul (gdiv a x) x = a := gdiv_mul ha hx h
theorem div_back {r x : Nat} (hr : r < 256) (hx : x < 256) (h : x ≠ 0) : gdiv (gmul r x) x = r := gmul_cancel (gdiv_lt _ _) hr h (gdiv_mul (gmul_lt _ _) hx h)
theorem hE_nil0 : hE [] 0 = 0 := rfl
theorem hE_at0 (P : List Nat) : hE P 0 = P.getD 0 0 := by
  cases P with
  | nil => rfl
  | cons a l => rw [hE_cons, gmul_zero, Nat.zero_xor]; rfl
theorem gdiv_zero' (x : Nat) : gdiv 0 x = 0 := by unfold gdiv; rw [if_pos rfl]
theorem pieces {xs ys P : List Nat} (hb : Bl xs) (hd : Di xs) (h0 : ∀ i, i < xs.length → xs.getD i 0 ≠ 0) (hy : Bl ys) (hP : Bl P) (hn : P.length ≤ xs.length) (hv : ∀ i, i < xs.length → ys.getD i 0 = hE P (xs.getD i 0)) :
    ∀ m, (∀ i, i < xs.length → (yN xs ys m).getD i 0 = hE (P.drop m) (xs.getD i 0)) ∧ cN xs ys m = P.getD m 0 := by
  have c_of : ∀ m, (∀ i, i < xs.length → (yN xs ys m).getD i 0 = hE (P.drop m) (xs.getD i 0)) → cN xs ys m = P.getD m 0 := fun m h => by
    unfold cN
    rw [alone (c := P.drop m) (fun n hn => hP n (List.mem_of_mem_drop hn)) hb hd (by rw [List.length_drop]; omega) h (yN_bl hy m) (by decide), hE_at0, List.getD_eq_getElem?_getD, List.getElem?_drop, Nat.add_zero, ← List.getD_eq_getElem?_getD]
  intro m; induction m with
  | zero => exact ⟨hv, c_of 0 hv⟩
  | succ m ih =>
    have h1 : ∀ i, i < xs.length → (yN xs ys (m + 1)).getD i 0 = hE (P.drop (m + 1)) (xs.getD i 0) := fun i hi => by
      rw [yN_getD hi, ih.1 i hi, ih.2]
      rcases Nat.lt_or_ge m P.length with hm | hm
      · rw [List.drop_eq_getElem_cons hm, hE_cons, getD_eq hm]
        have hq : Bl (P.drop (m + 1)) := fun n hn => hP n (List.mem_of_mem_drop hn)
        rw [Nat.xor_assoc, Nat.xor_self, Nat.xor_zero, div_back (hE_lt hq _) (hb.getD i) (h0 i hi)]
      · rw [List.drop_eq_nil_of_le hm, List.drop_eq_nil_of_le (by omega), getD_ge hm]
        show gdiv (0 ^^^ 0) _ = 0
        exact gdiv_zero' _
    exact ⟨h1, c_of _ h1⟩
/-- What is drawn for one byte. -/
def ysB (xs Xj : List Nat) (s : Nat) : List Nat := (List.range xs.length).map fun i => gdiv (Xj.getD i 0 ^^^ s) (xs.getD i 0)
theorem ysB_bl (xs Xj : List Nat) (s : Nat) : Bl (ysB xs Xj s) := fun n hn => by obtain ⟨j, _, rfl⟩ := List.mem_map.1 hn; exact gdiv_lt _ _
theorem ysB_length (xs Xj : List Nat) (s : Nat) : (ysB xs Xj s).length = xs.length := by simp [ysB]
theorem ysB_getD {xs Xj : List Nat} {s i : Nat} (h : i < xs.length) : (ysB xs Xj s).getD i 0 = gdiv (Xj.getD i 0 ^^^ s) (xs.getD i 0) := by simp [ysB, List.getD_eq_getElem?_getD, List.getElem?_map, List.getElem?_range h]
def drB (xs Xj : List Nat) (s m : Nat) : List Nat := (List.range m).map fun k => cN xs (ysB xs Xj s) k
theorem drB_length (xs Xj : List Nat) (s m : Nat) : (drB xs Xj s m).length = m := by simp [drB]
theorem drB_bl (xs Xj : List Nat) (s m : Nat) : Bl (drB xs Xj s m) := fun n hn => by obtain ⟨j, _, rfl⟩ := List.mem_map.1 hn; exact cN_lt _ _ _
theorem drB_snoc (xs Xj : List Nat) (s m : Nat) : drB xs Xj s m ++ [cN xs (ysB xs Xj s) m] = drB xs Xj s (m + 1) := by unfold drB; rw [List.range_succ, List.map_append]; rfl
/-- With these draws the byte s has at the places the bytes that were given. -/
theorem drB_there {xs Xj : List Nat} {s i : Nat} (hb : Bl xs) (hX : Bl Xj) (hd : Di xs) (h0 : ∀ i, i < xs.length → xs.getD i 0 ≠ 0) (hs : s < 256) (hi : i < xs.length) : hE (s :: drB xs Xj s xs.length) (xs.getD i 0) = Xj.getD i 0 := by
  have hP := ipP_bl xs (ysB xs Xj s) xs.length
  have hv : ∀ i, i < xs.length → (ysB xs Xj s).getD i 0 = hE (ipP xs (ysB xs Xj s) xs.length) (xs.getD i 0) := fun i hi => by
    rw [ipP_eq hb hd (Nat.le_refl _) (hb.getD i), ipN_at hd (ysB_bl _ _ _) hi (Nat.le_refl _), if_pos hi]
  have hp := pieces hb hd h0 (ysB_bl xs Xj s) hP (ipP_length _ _ (Nat.le_refl _)) hv
  have e : hE (drB xs Xj s xs.length) (xs.getD i 0) = hE (ipP xs (ysB xs Xj s) xs.length) (xs.getD i 0) := by
    refine hE_congr (drB_bl _ _ _ _) hP (fun j => ?_) (hb.getD i)
    rcases Nat.lt_or_ge j xs.length with h | h
    · rw [← (hp j).2]
      simp [drB, List.getD_eq_getElem?_getD, List.getElem?_map, List.getElem?_range h]
    · rw [getD_ge (by rw [drB_length]; exact h), getD_ge (Nat.le_trans (ipP_length _ _ (Nat.le_refl _)) h)]
  rw [hE_cons, e, ← hv i hi, ysB_getD hi, gdiv_back (xor_lt (hX.getD i) hs) (hb.getD i) (h0 i hi), Nat.xor_assoc, Nat.xor_self, Nat.xor_zero]
/-- Back from the parts of what was drawn one comes to it. -/
theorem drB_back {xs Xj P : List Nat} {s : Nat} (hb : Bl xs) (hd : Di xs) (h0 : ∀ i, i < xs.length → xs.getD i 0 ≠ 0) (hP : Bl P) (hn : P.length = xs.length) (hs : s < 256) (hv : ∀ i, i < xs.length → Xj.getD i 0 = hE (s :: P) (xs.getD i 0)) : drB xs Xj s xs.length = P := by
  have hv' : ∀ i, i < xs.length → (ysB xs Xj s).getD i 0 = hE P (xs.getD i 0) := fun i hi => by
    rw [ysB_getD hi, hv i hi, hE_cons, Nat.xor_assoc, Nat.xor_self, Nat.xor_zero, div_back (hE_lt hP _) (hb.getD i) (h0 i hi)]
  have hp := pieces hb hd h0 (ysB_bl xs Xj s) hP (Nat.le_of_eq hn) hv'
  apply List.ext_getElem?
  intro j
  rcases Nat.lt_or_ge j xs.length with h | h
  · have h2 : j < P.length := by omega
    have := (hp j).2
    rw [List.getElem?_eq_getElem h2]
    have e : (drB xs Xj s xs.length)[j]? = some (cN xs (ysB xs Xj s) j) := by simp [drB, List.getElem?_map, List.getElem?_range h]
    rw [e, this, List.getD_eq_getElem?_getD, List.getElem?_eq_getElem h2]; rfl
  · rw [List.getElem?_eq_none (by rw [drB_length]; exact h), List.getElem?_eq_none (by omega)]
end Go.Proofs.YtjbdimfpjbmggaaDoor.Gm
