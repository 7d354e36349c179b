/- Parts of a secret: what they are. Nothing of Go. -/
import Derived.Test.YtlkbkgghfhoggaaGreatDoorOn
section
set_option linter.unusedVariables false
set_option linter.unusedSimpArgs false
namespace Go.Proofs.YtlkbkgghfhoggaaGreatDoor.Gm
theorem x_left (a b c : Nat) : a ^^^ (b ^^^ c) = b ^^^ (a ^^^ c) := by rw [← Nat.xor_assoc, Nat.xor_comm a b, Nat.xor_assoc]
theorem x_can (a b : Nat) : a ^^^ (a ^^^ b) = b := by rw [← Nat.xor_assoc, Nat.xor_self, Nat.zero_xor]
theorem x_zero {a b : Nat} (h : a ^^^ b = 0) : a = b := by have := congrArg (· ^^^ b) h; simpa [Nat.xor_assoc] using this
/-- All are numbers of eight bits. -/
def Bl (l : List Nat) : Prop := ∀ n ∈ l, n < 256
theorem Bl.cons {a : Nat} {l : List Nat} (ha : a < 256) (h : Bl l) : Bl (a :: l) := fun n hn => (List.mem_cons.1 hn).elim (fun e => e ▸ ha) (h n)
theorem Bl.head {a : Nat} {l : List Nat} (h : Bl (a :: l)) : a < 256 := h a (List.mem_cons_self ..)
theorem Bl.tail {a : Nat} {l : List Nat} (h : Bl (a :: l)) : Bl l := fun n hn => h n (List.mem_cons_of_mem _ hn)
theorem Bl.getD {l : List Nat} (h : Bl l) (i : Nat) : l.getD i 0 < 256 := by
  rw [List.getD_eq_getElem?_getD]
  cases hx : l[i]? with
  | none => decide
  | some v => exact h v (List.mem_of_getElem? hx)
/-- A polynomial at a place, the highest number first. -/
def hE (l : List Nat) (x : Nat) : Nat := l.foldr (fun a v => gmul v x ^^^ a) 0
theorem hE_cons (a : Nat) (l : List Nat) (x : Nat) : hE (a :: l) x = gmul (hE l x) x ^^^ a := rfl
theorem hE_lt {l : List Nat} (h : Bl l) (x : Nat) : hE l x < 256 := by
  induction l with
  | nil => exact (by decide : (0 : Nat) < 256)
  | cons a l ih => exact xor_lt (gmul_lt _ _) h.head
/-! ### sums of lists, number by number -/
def addL : List Nat → List Nat → List Nat
  | [], m => m
  | l, [] => l
  | a :: l, b :: m => (a ^^^ b) :: addL l m
def scL (a : Nat) (l : List Nat) : List Nat := l.map (gmul a)
theorem Bl.add {l m : List Nat} (hl : Bl l) (hm : Bl m) : Bl (addL l m) := by
  induction l generalizing m with
  | nil => exact hm
  | cons a l ih =>
    cases m with
    | nil => exact hl
    | cons b m => exact Bl.cons (xor_lt hl.head hm.head) (ih hl.tail hm.tail)
theorem Bl.sc (a : Nat) (l : List Nat) : Bl (scL a l) := fun n hn => by obtain ⟨b, _, rfl⟩ := List.mem_map.1 hn; exact gmul_lt _ _
theorem hE_add {l m : List Nat} (hl : Bl l) (hm : Bl m) (x : Nat) : hE (addL l m) x = hE l x ^^^ hE m x := by
  induction l generalizing m with
  | nil => show hE m x = 0 ^^^ hE m x; rw [Nat.zero_xor]
  | cons a l ih =>
    cases m with
    | nil => show hE (a :: l) x = hE (a :: l) x ^^^ 0; rw [Nat.xor_zero]
    | cons b m =>
      show gmul (hE (addL l m) x) x ^^^ (a ^^^ b) = (gmul (hE l x) x ^^^ a) ^^^ (gmul (hE m x) x ^^^ b)
      rw [ih hl.tail hm.tail, xor_gmul (hE_lt hl.tail x) (hE_lt hm.tail x)]
      simp only [Nat.xor_assoc, Nat.xor_comm, x_left]
theorem hE_sc {l : List Nat} (hl : Bl l) (a x : Nat) : hE (scL a l) x = gmul a (hE l x) := by
  induction l with
  | nil => show 0 = gmul a 0; rw [gmul_zero]
  | cons b l ih =>
    show gmul (hE (scL a l) x) x ^^^ gmul a b = gmul a (gmul (hE l x) x ^^^ b)
    rw [ih hl.tail, gmul_xor (gmul_lt _ _) hl.head, gmul_assoc]
theorem length_add (l m : List Nat) : (addL l m).length = max l.length m.length := by
  induction l generalizing m with
  | nil => show m.length = max 0 m.length; omega
  | cons a l ih =>
    cases m with
    | nil => show (a :: l).length = max (a :: l).length 0; omega
    | cons b m => show (addL l m).length + 1 = max (l.length + 1) (m.length + 1); rw [ih]; omega
theorem length_sc (a : Nat) (l : List Nat) : (scL a l).length = l.length := List.length_map ..
/-! ### noughts -/
/-- What is left of a polynomial by (x - r): the quotient's numbers. -/
def quo (r : Nat) : List Nat → List Nat
  | [] => []
  | [_] => []
  | _ :: b :: l => hE (b :: l) r :: quo r (b :: l)
theorem quo_bl {l : List Nat} (h : Bl l) (r : Nat) : Bl (quo r l) := by
  induction l with
  | nil => exact fun n hn => by cases hn
  | cons a l ih =>
    cases l with
    | nil => exact fun n hn => by cases hn
    | cons b l => exact Bl.cons (hE_lt h.tail r) (ih h.tail)
theorem quo_length (r : Nat) (l : List Nat) : (quo r l).length = l.length - 1 := by
  induction l with
  | nil => rfl
  | cons a l ih =>
    cases l with
    | nil => rfl
    | cons b l => show (quo r (b :: l)).length + 1 = (b :: l).length + 1 - 1; rw [ih]; simp
theorem quo_eq {l : List Nat} (h : Bl l) {x r : Nat} (hx : x < 256) (hr : r < 256) : hE l x ^^^ hE l r = gmul (x ^^^ r) (hE (quo r l) x) := by
  induction l with
  | nil => show 0 ^^^ 0 = gmul (x ^^^ r) 0; rw [gmul_zero]; rfl
  | cons a l ih =>
    cases l with
    | nil =>
      show (gmul 0 x ^^^ a) ^^^ (gmul 0 r ^^^ a) = gmul (x ^^^ r) 0
      rw [zero_gmul, zero_gmul, gmul_zero, Nat.zero_xor, Nat.xor_self]
    | cons b l =>
      have i := ih h.tail
      have hv := hE_lt h.tail x
      have hw := hE_lt h.tail r
      have hq := hE_lt (quo_bl h.tail r) x
      rw [hE_cons a, hE_cons a]
      show _ = gmul (x ^^^ r) (gmul (hE (quo r (b :: l)) x) x ^^^ hE (b :: l) r)
      rw [gmul_xor (gmul_lt _ _) hw, gmul_assoc, ← i, xor_gmul hv hw, xor_gmul hx hr]
      rw [gmul_comm x (hE (b :: l) r), gmul_comm r (hE (b :: l) r)]
      simp only [Nat.xor_assoc, Nat.xor_comm, x_left, x_can, Nat.xor_self, Nat.xor_zero]
/-- With as many unlike noughts as it has numbers it is nought everywhere. -/
theorem roots {l : List Nat} : ∀ (xs : List Nat), Bl l → Bl xs → xs.Nodup → l.length ≤ xs.length → (∀ r ∈ xs, hE l r = 0) → ∀ x, x < 256 → hE l x = 0 := by
  intro xs
  induction xs generalizing l with
  | nil =>
    intro _ _ _ hn _ x _
    cases l with
    | nil => rfl
    | cons a l => simp at hn
  | cons r xs ih =>
    intro h hb hd hn h0 x hx
    have hr := hb.head
    have e0 := h0 r (List.mem_cons_self ..)
    have hd' := List.nodup_cons.1 hd
    have hq : ∀ s ∈ xs, hE (quo r l) s = 0 := fun s hs => by
      have e := quo_eq h (hb.tail s hs) hr
      rw [h0 s (List.mem_cons_of_mem _ hs), e0, Nat.xor_self] at e
      rcases (gmul_eq0 _ _).1 e.symm with e1 | e1
      · exact absurd (x_zero e1 ▸ hs) hd'.1
      · exact e1
    have hz := ih (quo_bl h r) hb.tail hd'.2 (by rw [quo_length]; simp at hn; omega) hq x hx
    have e := quo_eq h hx hr
    rw [hz, gmul_zero, e0, Nat.xor_zero] at e
    exact e
end Go.Proofs.YtlkbkgghfhoggaaGreatDoor.Gm
end
section
set_option linter.unusedVariables false
set_option linter.unusedSimpArgs false
namespace Go.Proofs.YtlkbkgghfhoggaaGreatDoor.Gm
/-- No place is there twice. -/
def Di (xs : List Nat) : Prop := ∀ i j, i < j → j < xs.length → xs.getD i 0 ≠ xs.getD j 0
theorem getD_eq {xs : List Nat} {i : Nat} (h : i < xs.length) : xs.getD i 0 = xs[i] := by rw [List.getD_eq_getElem?_getD, List.getElem?_eq_getElem h]; rfl
theorem Di.nodup {xs : List Nat} (h : Di xs) : xs.Nodup := List.pairwise_iff_getElem.2 fun i j hi hj hij => by
  have := h i j hij hj
  rwa [getD_eq hi, getD_eq hj] at this
/-- Places that may be. -/
def May (xs : List Nat) : Prop := Di xs ∧ 1 ≤ xs.length ∧ xs.length ≤ 255
theorem may_len {xs : List Nat} (h : ¬ (1 ≤ xs.length ∧ xs.length ≤ 255)) : ¬ May xs := fun m => h m.2
theorem may_twice {xs : List Nat} {i j p q : Nat} (hij : i < j) (hp : xs[i]? = some p) (hq : xs[j]? = some q) (e : p = q) : ¬ May xs := fun m => by
  have hj := (List.getElem?_eq_some_iff.1 hq).1
  refine m.1 i j hij hj ?_
  rw [List.getD_eq_getElem?_getD, List.getD_eq_getElem?_getD, hp, hq, e]
theorem Di.ne {xs : List Nat} (h : Di xs) {i j : Nat} (hi : i < xs.length) (hj : j < xs.length) (hij : i ≠ j) : xs.getD i 0 ≠ xs.getD j 0 := by
  rcases Nat.lt_or_gt_of_ne hij with h1 | h1
  · exact h i j h1 hj
  · exact (h j i h1 hi).symm
/-- The product of what a place is off the others, but one. -/
def upN (xs : List Nat) (i x : Nat) : Nat → Nat
  | 0 => 1
  | k + 1 => if k = i then upN xs i x k else gmul (upN xs i x k) (x ^^^ xs.getD k 0)
theorem upN_lt (xs : List Nat) (i x k : Nat) : upN xs i x k < 256 := by
  induction k with
  | zero => exact (by decide : 1 < 256)
  | succ k ih => unfold upN; split; exact ih; exact gmul_lt _ _
theorem upN_skip {xs : List Nat} {i x k : Nat} (h : k = i) : upN xs i x k = upN xs i x (k + 1) := (if_pos h).symm
theorem upN_step {xs : List Nat} {i x k : Nat} (h : k ≠ i) : gmul (upN xs i x k) (x ^^^ xs.getD k 0) = upN xs i x (k + 1) := (if_neg h).symm
theorem upN_ne {xs : List Nat} (hd : Di xs) {i : Nat} (hi : i < xs.length) {k : Nat} (hk : k ≤ xs.length) : upN xs i (xs.getD i 0) k ≠ 0 := by
  induction k with
  | zero => exact (by decide : (1 : Nat) ≠ 0)
  | succ k ih =>
    unfold upN; split
    · exact ih (by omega)
    · rename_i h
      exact gmul_ne0 (ih (by omega)) (fun e => hd.ne hi (by omega : k < xs.length) (Ne.symm h) (x_zero e))
theorem upN_zero {xs : List Nat} {i j : Nat} (hij : j ≠ i) {k : Nat} (hj : j < k) : upN xs i (xs.getD j 0) k = 0 := by
  induction k with
  | zero => omega
  | succ k ih =>
    unfold upN
    by_cases h : j = k
    · subst h; rw [if_neg hij, Nat.xor_self, gmul_zero]
    · split
      · exact ih (by omega)
      · rw [ih (by omega), zero_gmul]
/-- What place i counts for at x. -/
def wt (xs : List Nat) (x i : Nat) : Nat := gdiv (upN xs i x xs.length) (upN xs i (xs.getD i 0) xs.length)
theorem wt_lt (xs : List Nat) (x i : Nat) : wt xs x i < 256 := gdiv_lt _ _
def ipN (xs ys : List Nat) (x : Nat) : Nat → Nat
  | 0 => 0
  | k + 1 => ipN xs ys x k ^^^ gmul (wt xs x k) (ys.getD k 0)
theorem ipN_lt (xs ys : List Nat) (x k : Nat) : ipN xs ys x k < 256 := by
  induction k with
  | zero => exact (by decide : (0 : Nat) < 256)
  | succ k ih => exact xor_lt ih (gmul_lt _ _)
/-! ### the same as lists -/
def mlin (r : Nat) (l : List Nat) : List Nat := addL (0 :: l) (scL r l)
theorem mlin_bl {l : List Nat} (h : Bl l) (r : Nat) : Bl (mlin r l) := Bl.add (Bl.cons (by decide) h) (Bl.sc r l)
theorem mlin_eq {l : List Nat} (h : Bl l) {r x : Nat} (hr : r < 256) (hx : x < 256) : hE (mlin r l) x = gmul (hE l x) (x ^^^ r) := by
  unfold mlin
  rw [hE_add (Bl.cons (by decide) h) (Bl.sc r l), hE_cons, hE_sc h, Nat.xor_zero, gmul_xor hx hr, gmul_comm r]
theorem mlin_length (r : Nat) (l : List Nat) : (mlin r l).length = l.length + 1 := by unfold mlin; rw [length_add, length_sc, List.length_cons]; omega
def upP (xs : List Nat) (i : Nat) : Nat → List Nat
  | 0 => [1]
  | k + 1 => if k = i then upP xs i k else mlin (xs.getD k 0) (upP xs i k)
theorem upP_bl (xs : List Nat) (i k : Nat) : Bl (upP xs i k) := by
  induction k with
  | zero => exact Bl.cons (by decide) (fun n hn => by cases hn)
  | succ k ih => unfold upP; split; exact ih; exact mlin_bl ih _
theorem upP_eq {xs : List Nat} (hb : Bl xs) (i k : Nat) {x : Nat} (hx : x < 256) : hE (upP xs i k) x = upN xs i x k := by
  induction k with
  | zero => show gmul 0 x ^^^ 1 = 1; rw [zero_gmul, Nat.zero_xor]
  | succ k ih =>
    unfold upP upN; split
    · exact ih
    · rw [mlin_eq (upP_bl xs i k) (hb.getD k) hx, ih]
theorem upP_length (xs : List Nat) {i k : Nat} : (upP xs i k).length = if i < k then k else k + 1 := by
  induction k with
  | zero => rfl
  | succ k ih =>
    unfold upP; split
    · rename_i h; subst h; rw [ih, if_neg (by omega), if_pos (by omega)]
    · rename_i h
      rw [mlin_length, ih]
      by_cases h1 : i < k
      · rw [if_pos h1, if_pos (by omega)]
      · rw [if_neg h1, if_neg (by omega)]
def ipP (xs ys : List Nat) : Nat → List Nat
  | 0 => []
  | k + 1 => addL (ipP xs ys k) (scL (gmul (gdiv 1 (upN xs k (xs.getD k 0) xs.length)) (ys.getD k 0)) (upP xs k xs.length))
theorem ipP_bl (xs ys : List Nat) (k : Nat) : Bl (ipP xs ys k) := by
  induction k with
  | zero => exact fun n hn => by cases hn
  | succ k ih => exact Bl.add ih (Bl.sc _ _)
theorem ipP_length (xs ys : List Nat) {k : Nat} (hk : k ≤ xs.length) : (ipP xs ys k).length ≤ xs.length := by
  induction k with
  | zero => exact Nat.zero_le _
  | succ k ih =>
    show (addL _ _).length ≤ _
    rw [length_add, length_sc, upP_length, if_pos (by omega)]
    have := ih (by omega)
    omega
theorem ipP_eq {xs ys : List Nat} (hb : Bl xs) (hd : Di xs) {k : Nat} (hk : k ≤ xs.length) {x : Nat} (hx : x < 256) : hE (ipP xs ys k) x = ipN xs ys x k := by
  induction k with
  | zero => rfl
  | succ k ih =>
    show hE (addL _ _) x = ipN xs ys x k ^^^ gmul (wt xs x k) (ys.getD k 0)
    rw [hE_add (ipP_bl xs ys k) (Bl.sc _ _), ih (by omega), hE_sc (upP_bl xs k xs.length), upP_eq hb k xs.length hx]
    congr 1
    unfold wt
    rw [gdiv_eq (upN_lt _ _ _ _) (upN_lt _ _ _ _) (upN_ne hd (by omega) (Nat.le_refl _)), gmul_comm, gmul_assoc]
theorem ipN_at {xs ys : List Nat} (hd : Di xs) (hy : Bl ys) {j : Nat} (hj : j < xs.length) {k : Nat} (hk : k ≤ xs.length) : ipN xs ys (xs.getD j 0) k = if j < k then ys.getD j 0 else 0 := by
  induction k with
  | zero => rfl
  | succ k ih =>
    show ipN xs ys (xs.getD j 0) k ^^^ gmul (wt xs (xs.getD j 0) k) (ys.getD k 0) = _
    rw [ih (by omega)]
    by_cases h : j = k
    · subst h
      rw [if_neg (by omega), if_pos (by omega), Nat.zero_xor]
      unfold wt
      rw [gdiv_eq (upN_lt _ _ _ _) (upN_lt _ _ _ _) (upN_ne hd hj (Nat.le_refl _)), mul_inv (upN_lt _ _ _ _) (upN_ne hd hj (Nat.le_refl _)), gmul_comm, gmul_one (hy.getD j)]
    · have : wt xs (xs.getD j 0) k = 0 := by
        unfold wt; rw [upN_zero h hj]; unfold gdiv; rw [if_pos rfl]
      rw [this, zero_gmul, Nat.xor_zero]
      by_cases h2 : j < k
      · rw [if_pos h2, if_pos (by omega)]
      · rw [if_neg h2, if_neg (by omega)]
/-- THROUGH AS MANY PLACES AS A POLYNOMIAL HAS NUMBERS GOES IT ALONE. -/
theorem alone {c xs ys : List Nat} (hc : Bl c) (hb : Bl xs) (hd : Di xs) (hn : c.length ≤ xs.length) (hy : ∀ j, j < xs.length → ys.getD j 0 = hE c (xs.getD j 0)) (hyb : Bl ys) {x : Nat} (hx : x < 256) : ipN xs ys x xs.length = hE c x := by
  have hl : Bl (addL c (ipP xs ys xs.length)) := Bl.add hc (ipP_bl _ _ _)
  have hlen : (addL c (ipP xs ys xs.length)).length ≤ xs.length := by
    rw [length_add]; have := ipP_length xs ys (Nat.le_refl xs.length); omega
  have h0 := roots xs hl hb hd.nodup hlen (fun r hr => by
    obtain ⟨j, hj, e⟩ := List.getElem_of_mem hr
    have e' : xs.getD j 0 = r := by rw [getD_eq hj, e]
    rw [hE_add hc (ipP_bl _ _ _), ← e', ipP_eq hb hd (Nat.le_refl _) (hb.getD j), ipN_at hd hyb hj (Nat.le_refl _), if_pos hj, hy j hj, Nat.xor_self]) x hx
  rw [hE_add hc (ipP_bl _ _ _), ipP_eq hb hd (Nat.le_refl _) hx] at h0
  exact (x_zero h0).symm
end Go.Proofs.YtlkbkgghfhoggaaGreatDoor.Gm
end
section
set_option linter.unusedVariables false
set_option linter.unusedSimpArgs false
namespace Go.Proofs.YtlkbkgghfhoggaaGreatDoor.Gm
/-! ### whichever comes first -/
/-! ### a product in the make -/
end Go.Proofs.YtlkbkgghfhoggaaGreatDoor.Gm
end
section
set_option linter.unusedVariables false
set_option linter.unusedSimpArgs false
namespace Go.Proofs.YtlkbkgghfhoggaaGreatDoor.Gm
def wtL (xs : List Nat) (x : Nat) : List Nat := (List.range xs.length).map (wt xs x)
def wtT (xs : List Nat) (x k : Nat) : List Nat := (List.range k).map (wt xs x)
theorem wtL_length (xs : List Nat) (x : Nat) : (wtL xs x).length = xs.length := by simp [wtL]
theorem wtT_length (xs : List Nat) (x k : Nat) : (wtT xs x k).length = k := by simp [wtT]
theorem wtT_snoc (xs : List Nat) (x k : Nat) : wtT xs x k ++ [wt xs x k] = wtT xs x (k + 1) := by unfold wtT; rw [List.range_succ, List.map_append]; rfl
theorem wtL_get {xs : List Nat} {x i : Nat} (h : i < xs.length) : (wtL xs x)[i]? = some (wt xs x i) := by simp [wtL, List.getElem?_map, List.getElem?_range h]
end Go.Proofs.YtlkbkgghfhoggaaGreatDoor.Gm
end
section
set_option linter.unusedVariables false
set_option linter.unusedSimpArgs false
namespace Go.Proofs.YtlkbkgghfhoggaaGreatDoor.Gm
/-- A byte's polynomial: the byte, and q drawn bytes. -/
def coef (l d : List Nat) (q j : Nat) : List Nat := l.getD j 0 :: (d.drop (j * q)).take q
theorem coef_bl {l d : List Nat} (hl : Bl l) (hd : Bl d) (q j : Nat) : Bl (coef l d q j) := Bl.cons (hl.getD j) (fun n hn => hd n (List.mem_of_mem_drop (List.mem_of_mem_take hn)))
def ptX (l d : List Nat) (q x : Nat) : List Nat := (List.range l.length).map fun j => hE (coef l d q j) x
def ptT (l d : List Nat) (q x i : Nat) : List Nat := (List.range i).map fun j => hE (coef l d q j) x
theorem ptT_length (l d : List Nat) (q x i : Nat) : (ptT l d q x i).length = i := by simp [ptT]
theorem ptX_length (l d : List Nat) (q x : Nat) : (ptX l d q x).length = l.length := by simp [ptX]
theorem ptT_snoc {l d : List Nat} {q x i n : Nat} (h : l[i]? = some n) : ptT l d q x i ++ [hE (n :: (d.drop (i * q)).take q) x] = ptT l d q x (i + 1) := by
  unfold ptT; rw [List.range_succ, List.map_append]
  show _ ++ [hE _ x] = _ ++ [hE (coef l d q i) x]
  unfold coef; rw [List.getD_eq_getElem?_getD, h]; rfl
theorem ptX_getD {l d : List Nat} {q x j : Nat} (h : j < l.length) : (ptX l d q x).getD j 0 = hE (coef l d q j) x := by simp [ptX, List.getD_eq_getElem?_getD, List.getElem?_map, List.getElem?_range h]
theorem ptX_bl {l d : List Nat} (hl : Bl l) (hd : Bl d) (q x : Nat) : Bl (ptX l d q x) := fun n hn => by obtain ⟨j, _, rfl⟩ := List.mem_map.1 hn; exact hE_lt (coef_bl hl hd q j) _
/-- All parts: places from 1 on. -/
def ptK (l d : List Nat) (q ge i : Nat) : List (Nat × Nat × List Nat) := (List.range i).map fun k => (k + 1, ge, ptX l d q (k + 1))
theorem ptK_length (l d : List Nat) (q ge i : Nat) : (ptK l d q ge i).length = i := by simp [ptK]
theorem ptK_snoc (l d : List Nat) (q ge i : Nat) : ptK l d q ge i ++ [(i + 1, ge, ptX l d q (i + 1))] = ptK l d q ge (i + 1) := by unfold ptK; rw [List.range_succ, List.map_append]; rfl
theorem ptK_get {l d : List Nat} {q ge i k : Nat} (h : k < i) : (ptK l d q ge i)[k]? = some (k + 1, ge, ptX l d q (k + 1)) := by simp [ptK, List.getElem?_map, List.getElem?_range h]
theorem mul_fit {j n q d : Nat} (hj : j < n) (hd : d = q * n) : j * q + q ≤ d := by
  subst hd
  have : (j + 1) * q ≤ n * q := Nat.mul_le_mul_right q hj
  rw [Nat.add_mul, Nat.one_mul] at this
  rw [Nat.mul_comm q n]; exact this
theorem mul_most {q n d : Nat} (hd : d = q * n) (hq : q ≤ 254) (hn : n ≤ 64) : d ≤ 16256 := by
  subst hd; exact Nat.le_trans (Nat.mul_le_mul hq hn) (by decide)
theorem cw_eq {cc Y : List Nat} {q n : Nat} (hc : cc.length = q + 1) : (cc.set 0 n).take 1 ++ Y ++ (cc.set 0 n).drop (1 + q) = n :: Y := by
  cases cc with
  | nil => simp at hc
  | cons a t =>
    rw [List.set_cons_zero, List.drop_eq_nil_of_le (by rw [List.length_cons] at *; omega), List.append_nil]; rfl
theorem coef_by {d : List Nat} {q j n : Nat} (hn : n < 256) (hd : Bl d) (h : j * q + q ≤ d.length) : (n :: (d.drop (j * q)).take q).length = q + 1 ∧ ∀ v ∈ (n :: (d.drop (j * q)).take q), v < 256 :=
  ⟨by rw [List.length_cons, List.length_take, List.length_drop]; omega, Bl.cons hn (fun v hv => hd v (List.mem_of_mem_drop (List.mem_of_mem_take hv)))⟩
/-! ### sums -/
end Go.Proofs.YtlkbkgghfhoggaaGreatDoor.Gm
end
