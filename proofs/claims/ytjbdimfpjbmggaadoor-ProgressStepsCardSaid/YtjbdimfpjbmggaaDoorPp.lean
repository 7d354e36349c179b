/- Products of polynomials, number by number. Nothing of Go. -/
import Derived.Test.YtjbdimfpjbmggaaDoorPl
set_option linter.unusedVariables false
set_option linter.unusedSimpArgs false
namespace Go.Proofs.YtjbdimfpjbmggaaDoor.Gm
theorem getD_ge {l : List Nat} {i : Nat} (h : l.length ≤ i) : l.getD i 0 = 0 := by rw [List.getD_eq_getElem?_getD, List.getElem?_eq_none h]; rfl
def cv (c d : List Nat) (j : Nat) : Nat → Nat
  | 0 => 0
  | i + 1 => cv c d j i ^^^ (if i ≤ j then gmul (c.getD i 0) (d.getD (j - i) 0) else 0)
theorem cv_lt (c d : List Nat) (j i : Nat) : cv c d j i < 256 := by
  induction i with
  | zero => exact (by decide : (0 : Nat) < 256)
  | succ i ih => unfold cv; refine xor_lt ih ?_; split; exact gmul_lt _ _; decide
theorem cv_more {c d : List Nat} {j i k : Nat} (h : ∀ m, i ≤ m → m < i + k → (m ≤ j → gmul (c.getD m 0) (d.getD (j - m) 0) = 0)) : cv c d j (i + k) = cv c d j i := by
  induction k with
  | zero => rfl
  | succ k ih =>
    show cv c d j (i + k) ^^^ (if i + k ≤ j then gmul (c.getD (i + k) 0) (d.getD (j - (i + k)) 0) else 0) = _
    rw [ih (fun m h1 h2 => h m h1 (by omega))]
    split
    · rename_i hj; rw [h (i + k) (by omega) (by omega) hj, Nat.xor_zero]
    · exact Nat.xor_zero _
theorem cv_end {c d : List Nat} {j i : Nat} (h1 : i ≤ c.length) (h : j < i ∨ i = c.length) : cv c d j i = cv c d j c.length := by
  rcases h with h | h
  · obtain ⟨k, e⟩ : ∃ k, c.length = i + k := ⟨c.length - i, by omega⟩
    rw [e, cv_more (fun m h1 h2 h3 => by omega)]
  · rw [h]
theorem cv_yes {c d : List Nat} {j i a b : Nat} (h : i ≤ j) (ha : c.getD i 0 = a) (hb : d.getD (j - i) 0 = b) : cv c d j i ^^^ gmul a b = cv c d j (i + 1) := by
  show _ = cv c d j i ^^^ _; rw [if_pos h, ha, hb]
theorem cv_no {c d : List Nat} {j i : Nat} (h : d.length ≤ j - i) : cv c d j i = cv c d j (i + 1) := by
  show _ = cv c d j i ^^^ _; split
  · rw [getD_ge h, gmul_zero, Nat.xor_zero]
  · rw [Nat.xor_zero]
theorem cv_shift {a : Nat} {c d : List Nat} {j : Nat} (k : Nat) : cv (a :: c) d j (k + 1) = gmul a (d.getD j 0) ^^^ (if j = 0 then 0 else cv c d (j - 1) k) := by
  induction k with
  | zero =>
    show 0 ^^^ (if 0 ≤ j then gmul a (d.getD (j - 0) 0) else 0) = gmul a (d.getD j 0) ^^^ (if j = 0 then 0 else 0)
    rw [if_pos (Nat.zero_le j), Nat.zero_xor, Nat.sub_zero]; split <;> rw [Nat.xor_zero]
  | succ k ih =>
    show cv (a :: c) d j (k + 1) ^^^ (if k + 1 ≤ j then gmul (c.getD k 0) (d.getD (j - (k + 1)) 0) else 0) = gmul a (d.getD j 0) ^^^ (if j = 0 then 0 else cv c d (j - 1) k ^^^ (if k ≤ j - 1 then gmul (c.getD k 0) (d.getD (j - 1 - k) 0) else 0))
    rw [ih]
    by_cases h : j = 0
    · rw [if_pos h, if_pos h, if_neg (by omega), Nat.xor_zero]
    · rw [if_neg h, if_neg h, Nat.xor_assoc, show j - (k + 1) = j - 1 - k by omega]
      by_cases h2 : k + 1 ≤ j
      · rw [if_pos h2, if_pos (by omega)]
      · rw [if_neg h2, if_neg (by omega)]
def mulc (c d : List Nat) : List Nat := if c.length = 0 ∨ d.length = 0 then [] else (List.range (c.length + d.length - 1)).map fun j => cv c d j c.length
theorem mulc_bl (c d : List Nat) : Bl (mulc c d) := by
  unfold mulc; split
  · exact fun n hn => by cases hn
  · exact fun n hn => by obtain ⟨j, _, rfl⟩ := List.mem_map.1 hn; exact cv_lt _ _ _ _
theorem mulc_getD (c d : List Nat) (j : Nat) : (mulc c d).getD j 0 = cv c d j c.length := by
  have z (h : c.length = 0 ∨ d.length = 0 ∨ c.length + d.length - 1 ≤ j) : cv c d j c.length = 0 := by
    have := cv_more (c := c) (d := d) (j := j) (i := 0) (k := c.length) (fun m h1 h2 h3 => by rw [getD_ge (l := d) (by omega), gmul_zero])
    rw [Nat.zero_add] at this; exact this
  unfold mulc; split
  · rename_i h; rw [z (by omega)]; rfl
  · rename_i h
    by_cases hj : j < c.length + d.length - 1
    · rw [List.getD_eq_getElem?_getD, List.getElem?_map, List.getElem?_range hj]; rfl
    · rw [z (by omega), getD_ge (by simp; omega)]
def prodL : List Nat → List Nat → List Nat
  | [], _ => []
  | a :: c, d => addL (scL a d) (0 :: prodL c d)
theorem prodL_bl (c d : List Nat) : Bl (prodL c d) := by
  induction c with
  | nil => exact fun n hn => by cases hn
  | cons a c ih => exact Bl.add (Bl.sc a d) (Bl.cons (by decide) ih)
theorem addL_getD (l m : List Nat) (j : Nat) : (addL l m).getD j 0 = l.getD j 0 ^^^ m.getD j 0 := by
  induction l generalizing m j with
  | nil => show m.getD j 0 = 0 ^^^ _; rw [Nat.zero_xor]
  | cons a l ih =>
    cases m with
    | nil => show _ = _ ^^^ 0; rw [Nat.xor_zero]; rfl
    | cons b m =>
      cases j with
      | zero => rfl
      | succ j => exact ih m j
theorem scL_getD (a : Nat) (l : List Nat) (j : Nat) : (scL a l).getD j 0 = gmul a (l.getD j 0) := by
  unfold scL
  rw [List.getD_eq_getElem?_getD, List.getElem?_map, List.getD_eq_getElem?_getD]
  cases l[j]? with
  | none => exact (gmul_zero a).symm
  | some v => rfl
theorem prodL_getD (c d : List Nat) (j : Nat) : (prodL c d).getD j 0 = cv c d j c.length := by
  induction c generalizing j with
  | nil => rfl
  | cons a c ih =>
    show (addL (scL a d) (0 :: prodL c d)).getD j 0 = _
    rw [addL_getD, scL_getD, List.length_cons, cv_shift]
    congr 1
    cases j with
    | zero => rfl
    | succ j => exact ih j
theorem prodL_eq {c d : List Nat} (hc : Bl c) (hd : Bl d) {x : Nat} (hx : x < 256) : hE (prodL c d) x = gmul (hE c x) (hE d x) := by
  induction c with
  | nil => exact (zero_gmul _).symm
  | cons a c ih =>
    show hE (addL (scL a d) (0 :: prodL c d)) x = gmul (gmul (hE c x) x ^^^ a) (hE d x)
    rw [hE_add (Bl.sc a d) (Bl.cons (by decide) (prodL_bl c d)), hE_sc hd, hE_cons, Nat.xor_zero, ih hc.tail, xor_gmul (gmul_lt _ _) hc.head, ← gmul_assoc, gmul_comm (hE d x) x, gmul_assoc, Nat.xor_comm]
theorem eS_more {l : List Nat} {x : Nat} (k : Nat) : eS l x (l.length + k) = eS l x l.length := by
  induction k with
  | zero => rfl
  | succ k ih => show eS l x (l.length + k) ^^^ gmul (l.getD (l.length + k) 0) _ = _; rw [ih, getD_ge (by omega), zero_gmul, Nat.xor_zero]
theorem eS_congr {l m : List Nat} {x : Nat} (h : ∀ j, l.getD j 0 = m.getD j 0) (k : Nat) : eS l x k = eS m x k := by
  induction k with
  | zero => rfl
  | succ k ih => show eS l x k ^^^ gmul (l.getD k 0) _ = eS m x k ^^^ gmul (m.getD k 0) _; rw [ih, h]
theorem hE_congr {l m : List Nat} (hl : Bl l) (hm : Bl m) (h : ∀ j, l.getD j 0 = m.getD j 0) {x : Nat} (hx : x < 256) : hE l x = hE m x := by
  rw [hE_eS hl hx, hE_eS hm hx, ← eS_more m.length, ← eS_more (l := m) l.length, eS_congr h, Nat.add_comm]
theorem mulc_eq {c d : List Nat} (hc : Bl c) (hd : Bl d) {x : Nat} (hx : x < 256) : hE (mulc c d) x = gmul (hE c x) (hE d x) := by
  rw [← prodL_eq hc hd hx]
  exact hE_congr (mulc_bl c d) (prodL_bl c d) (fun j => by rw [mulc_getD, prodL_getD]) hx
/-! ### whichever comes first -/
def xS (f : Nat → Nat) : Nat → Nat
  | 0 => 0
  | k + 1 => xS f k ^^^ f k
theorem xS_head (f : Nat → Nat) (k : Nat) : xS f (k + 1) = f 0 ^^^ xS (fun i => f (i + 1)) k := by
  induction k with
  | zero => show 0 ^^^ f 0 = f 0 ^^^ 0; rw [Nat.zero_xor, Nat.xor_zero]
  | succ k ih => show xS f (k + 1) ^^^ f (k + 1) = f 0 ^^^ (xS (fun i => f (i + 1)) k ^^^ f (k + 1)); rw [ih, Nat.xor_assoc]
theorem xS_congr {f g : Nat → Nat} {k : Nat} (h : ∀ i, i < k → f i = g i) : xS f k = xS g k := by
  induction k with
  | zero => rfl
  | succ k ih => show xS f k ^^^ f k = xS g k ^^^ g k; rw [ih (fun i hi => h i (by omega)), h k (by omega)]
theorem xS_rev (f : Nat → Nat) (k : Nat) : xS f (k + 1) = xS (fun i => f (k - i)) (k + 1) := by
  induction k with
  | zero => rfl
  | succ k ih =>
    rw [xS_head (fun i => f (k + 1 - i))]
    show xS f (k + 1) ^^^ f (k + 1) = f (k + 1 - 0) ^^^ xS (fun i => f (k + 1 - (i + 1))) (k + 1)
    rw [ih, Nat.xor_comm]
    congr 1
    exact xS_congr fun i _ => by rw [show k + 1 - (i + 1) = k - i by omega]
theorem cv_xS (c d : List Nat) (j : Nat) : ∀ k, k ≤ j + 1 → cv c d j k = xS (fun i => gmul (c.getD i 0) (d.getD (j - i) 0)) k := by
  intro k; induction k with
  | zero => intro _; rfl
  | succ k ih => intro h; show cv c d j k ^^^ _ = xS _ k ^^^ _; rw [ih (by omega), if_pos (by omega)]
theorem cv_all (c d : List Nat) (j : Nat) : cv c d j c.length = xS (fun i => gmul (c.getD i 0) (d.getD (j - i) 0)) (j + 1) := by
  rw [← cv_xS c d j (j + 1) (Nat.le_refl _)]
  rcases Nat.le_total c.length (j + 1) with h | h
  · obtain ⟨k, e⟩ : ∃ k, j + 1 = c.length + k := ⟨j + 1 - c.length, by omega⟩
    rw [e, cv_more (fun m h1 _ _ => by rw [getD_ge h1, zero_gmul])]
  · exact (cv_end h (by omega)).symm
theorem cv_comm (c d : List Nat) (j : Nat) : cv c d j c.length = cv d c j d.length := by
  rw [cv_all, cv_all, xS_rev]
  exact xS_congr fun i hi => by rw [gmul_comm, show j - (j - i) = i by omega]
theorem mulc_comm (c d : List Nat) : mulc c d = mulc d c := by
  unfold mulc
  by_cases h : c.length = 0 ∨ d.length = 0
  · rw [if_pos h, if_pos h.symm]
  · rw [if_neg h, if_neg (fun e => h e.symm), Nat.add_comm d.length]
    exact List.map_congr_left fun j _ => cv_comm c d j
/-! ### a product in the make -/
def mU (c d : List Nat) (i k j : Nat) : Nat := cv c d j i ^^^ (if i ≤ j ∧ j < i + k then gmul (c.getD i 0) (d.getD (j - i) 0) else 0)
theorem mU_lt (c d : List Nat) (i k j : Nat) : mU c d i k j < 256 := by unfold mU; refine xor_lt (cv_lt _ _ _ _) ?_; split; exact gmul_lt _ _; decide
theorem mU_zero (c d : List Nat) (i j : Nat) : mU c d i 0 j = cv c d j i := by unfold mU; rw [if_neg (by omega), Nat.xor_zero]
theorem mU_all (c d : List Nat) (i j : Nat) : mU c d i d.length j = cv c d j (i + 1) := by
  show _ = cv c d j i ^^^ _; unfold mU
  by_cases h : i ≤ j
  · by_cases h2 : j < i + d.length
    · rw [if_pos ⟨h, h2⟩, if_pos h]
    · rw [if_neg (by omega), if_pos h, getD_ge (l := d) (by omega), gmul_zero]
  · rw [if_neg (by omega), if_neg h]
theorem mU_at (c d : List Nat) {i k a b : Nat} (ha : c.getD i 0 = a) (hb : d.getD k 0 = b) : mU c d i k (i + k) ^^^ gmul a b = mU c d i (k + 1) (i + k) := by
  unfold mU
  rw [if_neg (by omega), if_pos (by omega), Nat.xor_zero, show i + k - i = k by omega, ha, hb]
theorem mU_else (c d : List Nat) {i k j : Nat} (h : j ≠ i + k) : mU c d i k j = mU c d i (k + 1) j := by
  unfold mU
  by_cases h2 : i ≤ j ∧ j < i + k
  · rw [if_pos h2, if_pos (by omega)]
  · rw [if_neg h2, if_neg (by omega)]
end Go.Proofs.YtjbdimfpjbmggaaDoor.Gm
