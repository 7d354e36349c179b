/- The polynomial through some places: what each place counts for; through as many places as a polynomial has numbers goes it alone. Nothing of Go. -/
import Derived.Test.YtjbdimfpjbmggaaDoorPm
set_option linter.unusedVariables false
set_option linter.unusedSimpArgs false
namespace Go.Proofs.YtjbdimfpjbmggaaDoor.Gm
/-- No place is there twice. -/
def Di (xs : List Nat) : Prop := ∀ i j, i < j → j < xs.length → xs.getD i 0 ≠ xs.getD j 0
theorem getD_eq {xs : List Nat} {i : Nat} (h : i < xs.length) : xs.getD i 0 = xs[i] := by rw [List.getD_eq_getElem?_getD, List.getElem?_eq_getElem h]; rfl
theorem Di.nodup {xs : List Nat} (h : Di xs) : xs.Nodup := List.pairwise_iff_getElem.2 fun i j hi hj hij => by
  have := h i j hij hj
  rwa [getD_eq hi, getD_eq hj] at this
/-- Places that may be. -/
def May (xs : List Nat) : Prop := Di xs ∧ 1 ≤ xs.length ∧ xs.length ≤ 255
theorem may_len {xs : List Nat} (h : ¬ (1 ≤ xs.length ∧ xs.length ≤ 255)) : ¬ May xs := fun m => h m.2
theorem may_twice {xs : List Nat} {i j p q : Nat} (hij : i < j) (hp : xs[i]? = some p) (hq : xs[j]? = some q) (e : p = q) : ¬ May xs := fun m => by
  have hj := (List.getElem?_eq_some_iff.1 hq).1
  refine m.1 i j hij hj ?_
  rw [List.getD_eq_getElem?_getD, List.getD_eq_getElem?_getD, hp, hq, e]
theorem di_in {xs : List Nat} {i k p q : Nat} (h : ∀ a, a < k → xs.getD a 0 ≠ xs.getD i 0) (hp : xs[k]? = some p) (hq : xs[i]? = some q) (e : ¬ p = q) : ∀ a, a < k + 1 → xs.getD a 0 ≠ xs.getD i 0 := fun a ha => by
  rcases Nat.lt_or_ge a k with h1 | h1
  · exact h a h1
  · rw [show a = k by omega, List.getD_eq_getElem?_getD, List.getD_eq_getElem?_getD, hp, hq]; exact e
theorem di_out {xs : List Nat} {i k : Nat} (h : ∀ a b, a < b → b < i → xs.getD a 0 ≠ xs.getD b 0) (hI : ∀ a, a < k → xs.getD a 0 ≠ xs.getD i 0) (hk : ¬ k < i) : ∀ a b, a < b → b < i + 1 → xs.getD a 0 ≠ xs.getD b 0 := fun a b h1 h2 => by
  rcases Nat.lt_or_ge b i with h3 | h3
  · exact h a b h1 h3
  · rw [show b = i by omega]; exact hI a (by omega)
theorem Di.ne {xs : List Nat} (h : Di xs) {i j : Nat} (hi : i < xs.length) (hj : j < xs.length) (hij : i ≠ j) : xs.getD i 0 ≠ xs.getD j 0 := by
  rcases Nat.lt_or_gt_of_ne hij with h1 | h1
  · exact h i j h1 hj
  · exact (h j i h1 hi).symm
/-- The product of what a place is off the others, but one. -/
def upN (xs : List Nat) (i x : Nat) : Nat → Nat
  | 0 => 1
  | k + 1 => if k = i then upN xs i x k else gmul (upN xs i x k) (x ^^^ xs.getD k 0)
theorem upN_lt (xs : List Nat) (i x k : Nat) : upN xs i x k < 256 := by
  induction k with
  | zero => exact (by decide : 1 < 256)
  | succ k ih => unfold upN; split; exact ih; exact gmul_lt _ _
theorem upN_skip {xs : List Nat} {i x k : Nat} (h : k = i) : upN xs i x k = upN xs i x (k + 1) := (if_pos h).symm
theorem upN_step {xs : List Nat} {i x k : Nat} (h : k ≠ i) : gmul (upN xs i x k) (x ^^^ xs.getD k 0) = upN xs i x (k + 1) := (if_neg h).symm
theorem upN_ne {xs : List Nat} (hd : Di xs) {i : Nat} (hi : i < xs.length) {k : Nat} (hk : k ≤ xs.length) : upN xs i (xs.getD i 0) k ≠ 0 := by
  induction k with
  | zero => exact (by decide : (1 : Nat) ≠ 0)
  | succ k ih =>
    unfold upN; split
    · exact ih (by omega)
    · rename_i h
      exact gmul_ne0 (ih (by omega)) (fun e => hd.ne hi (by omega : k < xs.length) (Ne.symm h) (x_zero e))
theorem upN_zero {xs : List Nat} {i j : Nat} (hij : j ≠ i) {k : Nat} (hj : j < k) : upN xs i (xs.getD j 0) k = 0 := by
  induction k with
  | zero => omega
  | succ k ih =>
    unfold upN
    by_cases h : j = k
    · subst h; rw [if_neg hij, Nat.xor_self, gmul_zero]
    · split
      · exact ih (by omega)
      · rw [ih (by omega), zero_gmul]
/-- What place i counts for at x. -/
def wt (xs : List Nat) (x i : Nat) : Nat := gdiv (upN xs i x xs.length) (upN xs i (xs.getD i 0) xs.length)
theorem wt_lt (xs : List Nat) (x i : Nat) : wt xs x i < 256 := gdiv_lt _ _
def ipN (xs ys : List Nat) (x : Nat) : Nat → Nat
  | 0 => 0
  | k + 1 => ipN xs ys x k ^^^ gmul (wt xs x k) (ys.getD k 0)
theorem ipN_lt (xs ys : List Nat) (x k : Nat) : ipN xs ys x k < 256 := by
  induction k with
  | zero => exact (by decide : (0 : Nat) < 256)
  | succ k ih => exact xor_lt ih (gmul_lt _ _)
/-! ### the same as lists -/
def mlin (r : Nat) (l : List Nat) : List Nat := addL (0 :: l) (scL r l)
theorem mlin_bl {l : List Nat} (h : Bl l) (r : Nat) : Bl (mlin r l) := Bl.add (Bl.cons (by decide) h) (Bl.sc r l)
theorem mlin_eq {l : List Nat} (h : Bl l) {r x : Nat} (hr : r < 256) (hx : x < 256) : hE (mlin r l) x = gmul (hE l x) (x ^^^ r) := by
  unfold mlin
  rw [hE_add (Bl.cons (by decide) h) (Bl.sc r l), hE_cons, hE_sc h, Nat.xor_zero, gmul_xor hx hr, gmul_comm r]
theorem mlin_length (r : Nat) (l : List Nat) : (mlin r l).length = l.length + 1 := by unfold mlin; rw [length_add, length_sc, List.length_cons]; omega
def upP (xs : List Nat) (i : Nat) : Nat → List Nat
  | 0 => [1]
  | k + 1 => if k = i then upP xs i k else mlin (xs.getD k 0) (upP xs i k)
theorem upP_bl (xs : List Nat) (i k : Nat) : Bl (upP xs i k) := by
  induction k with
  | zero => exact Bl.cons (by decide) (fun n hn => by cases hn)
  | succ k ih => unfold upP; split; exact ih; exact mlin_bl ih _
theorem upP_eq {xs : List Nat} (hb : Bl xs) (i k : Nat) {x : Nat} (hx : x < 256) : hE (upP xs i k) x = upN xs i x k := by
  induction k with
  | zero => show gmul 0 x ^^^ 1 = 1; rw [zero_gmul, Nat.zero_xor]
  | succ k ih =>
    unfold upP upN; split
    · exact ih
    · rw [mlin_eq (upP_bl xs i k) (hb.getD k) hx, ih]
theorem upP_length (xs : List Nat) {i k : Nat} : (upP xs i k).length = if i < k then k else k + 1 := by
  induction k with
  | zero => rfl
  | succ k ih =>
    unfold upP; split
    · rename_i h; subst h; rw [ih, if_neg (by omega), if_pos (by omega)]
    · rename_i h
      rw [mlin_length, ih]
      by_cases h1 : i < k
      · rw [if_pos h1, if_pos (by omega)]
      · rw [if_neg h1, if_neg (by omega)]
def ipP (xs ys : List Nat) : Nat → List Nat
  | 0 => []
  | k + 1 => addL (ipP xs ys k) (scL (gmul (gdiv 1 (upN xs k (xs.getD k 0) xs.length)) (ys.getD k 0)) (upP xs k xs.length))
theorem ipP_bl (xs ys : List Nat) (k : Nat) : Bl (ipP xs ys k) := by
  induction k with
  | zero => exact fun n hn => by cases hn
  | succ k ih => exact Bl.add ih (Bl.sc _ _)
theorem ipP_length (xs ys : List Nat) {k : Nat} (hk : k ≤ xs.length) : (ipP xs ys k).length ≤ xs.length := by
  induction k with
  | zero => exact Nat.zero_le _
  | succ k ih =>
    show (addL _ _).length ≤ _
    rw [length_add, length_sc, upP_length, if_pos (by omega)]
    have := ih (by omega)
    omega
theorem ipP_eq {xs ys : List Nat} (hb : Bl xs) (hd : Di xs) {k : Nat} (hk : k ≤ xs.length) {x : Nat} (hx : x < 256) : hE (ipP xs ys k) x = ipN xs ys x k := by
  induction k with
  | zero => rfl
  | succ k ih =>
    show hE (addL _ _) x = ipN xs ys x k ^^^ gmul (wt xs x k) (ys.getD k 0)
    rw [hE_add (ipP_bl xs ys k) (Bl.sc _ _), ih (by omega), hE_sc (upP_bl xs k xs.length), upP_eq hb k xs.length hx]
    congr 1
    unfold wt
    rw [gdiv_eq (upN_lt _ _ _ _) (upN_lt _ _ _ _) (upN_ne hd (by omega) (Nat.le_refl _)), gmul_comm, gmul_assoc]
theorem ipN_at {xs ys : List Nat} (hd : Di xs) (hy : Bl ys) {j : Nat} (hj : j < xs.length) {k : Nat} (hk : k ≤ xs.length) : ipN xs ys (xs.getD j 0) k = if j < k then ys.getD j 0 else 0 := by
  induction k with
  | zero => rfl
  | succ k ih =>
    show ipN xs ys (xs.getD j 0) k ^^^ gmul (wt xs (xs.getD j 0) k) (ys.getD k 0) = _
    rw [ih (by omega)]
    by_cases h : j = k
    · subst h
      rw [if_neg (by omega), if_pos (by omega), Nat.zero_xor]
      unfold wt
      rw [gdiv_eq (upN_lt _ _ _ _) (upN_lt _ _ _ _) (upN_ne hd hj (Nat.le_refl _)), mul_inv (upN_lt _ _ _ _) (upN_ne hd hj (Nat.le_refl _)), gmul_comm, gmul_one (hy.getD j)]
    · have : wt xs (xs.getD j 0) k = 0 := by
        unfold wt; rw [upN_zero h hj]; unfold gdiv; rw [if_pos rfl]
      rw [this, zero_gmul, Nat.xor_zero]
      by_cases h2 : j < k
      · rw [if_pos h2, if_pos (by omega)]
      · rw [if_neg h2, if_neg (by omega)]
/-- THROUGH AS MANY PLACES AS A POLYNOMIAL HAS NUMBERS GOES IT ALONE. -/
theorem alone {c xs ys : List Nat} (hc : Bl c) (hb : Bl xs) (hd : Di xs) (hn : c.length ≤ xs.length) (hy : ∀ j, j < xs.length → ys.getD j 0 = hE c (xs.getD j 0)) (hyb : Bl ys) {x : Nat} (hx : x < 256) : ipN xs ys x xs.length = hE c x := by
  have hl : Bl (addL c (ipP xs ys xs.length)) := Bl.add hc (ipP_bl _ _ _)
  have hlen : (addL c (ipP xs ys xs.length)).length ≤ xs.length := by
    rw [length_add]; have := ipP_length xs ys (Nat.le_refl xs.length); omega
  have h0 := roots xs hl hb hd.nodup hlen (fun r hr => by
    obtain ⟨j, hj, e⟩ := List.getElem_of_mem hr
    have e' : xs.getD j 0 = r := by rw [getD_eq hj, e]
    rw [hE_add hc (ipP_bl _ _ _), ← e', ipP_eq hb hd (Nat.le_refl _) (hb.getD j), ipN_at hd hyb hj (Nat.le_refl _), if_pos hj, hy j hj, Nat.xor_self]) x hx
  rw [hE_add hc (ipP_bl _ _ _), ipP_eq hb hd (Nat.le_refl _) hx] at h0
  exact (x_zero h0).symm
def swN (xs : List Nat) (x : Nat) : Nat → Nat
  | 0 => 0
  | k + 1 => swN xs x k ^^^ wt xs x k
theorem swN_lt (xs : List Nat) (x k : Nat) : swN xs x k < 256 := by
  induction k with
  | zero => exact (by decide : (0 : Nat) < 256)
  | succ k ih => exact xor_lt ih (wt_lt _ _ _)
/-- What the places count for together is 1. -/
theorem sum_one {xs : List Nat} (hb : Bl xs) (hd : Di xs) (hn : 1 ≤ xs.length) {x : Nat} (hx : x < 256) : swN xs x xs.length = 1 := by
  have e (k : Nat) (hk : k ≤ xs.length) : ipN xs (List.replicate xs.length 1) x k = swN xs x k := by
    induction k with
    | zero => rfl
    | succ k ih =>
      show _ ^^^ gmul _ _ = swN xs x k ^^^ wt xs x k
      have : (List.replicate xs.length 1).getD k 0 = 1 := by rw [List.getD_eq_getElem?_getD, List.getElem?_replicate, if_pos (by omega)]; rfl
      rw [ih (by omega), this, gmul_one (wt_lt _ _ _)]
  rw [← e _ (Nat.le_refl _)]
  have one (r : Nat) : hE [1] r = 1 := by show gmul 0 r ^^^ 1 = 1; rw [zero_gmul, Nat.zero_xor]
  rw [alone (c := [1]) (Bl.cons (by decide) (fun n hn => by cases hn)) hb hd hn (fun j hj => by rw [one, List.getD_eq_getElem?_getD, List.getElem?_replicate, if_pos hj]; rfl) (fun n hn => by rw [(List.mem_replicate.1 hn).2]; decide) hx, one]
end Go.Proofs.YtjbdimfpjbmggaaDoor.Gm
