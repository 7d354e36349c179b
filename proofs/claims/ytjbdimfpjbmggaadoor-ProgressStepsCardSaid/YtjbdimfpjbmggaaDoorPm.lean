/- Polynomials over the numbers of eight bits: values, products; one with as many noughts as it has numbers is nought. Nothing of Go. -/
import Derived.Test.YtjbdimfpjbmggaaDoorGp
set_option linter.unusedVariables false
set_option linter.unusedSimpArgs false
namespace Go.Proofs.YtjbdimfpjbmggaaDoor.Gm
theorem x_left (a b c : Nat) : a ^^^ (b ^^^ c) = b ^^^ (a ^^^ c) := by rw [← Nat.xor_assoc, Nat.xor_comm a b, Nat.xor_assoc]
theorem x_can (a b : Nat) : a ^^^ (a ^^^ b) = b := by rw [← Nat.xor_assoc, Nat.xor_self, Nat.zero_xor]
theorem x_zero {a b : Nat} (h : a ^^^ b = 0) : a = b := by have := congrArg (· ^^^ b) h; simpa [Nat.xor_assoc] using this
theorem x_self {a b : Nat} (h : a = b) : a ^^^ b = 0 := by rw [h, Nat.xor_self]
/-- All are numbers of eight bits. -/
def Bl (l : List Nat) : Prop := ∀ n ∈ l, n < 256
theorem Bl.cons {a : Nat} {l : List Nat} (ha : a < 256) (h : Bl l) : Bl (a :: l) := fun n hn => (List.mem_cons.1 hn).elim (fun e => e ▸ ha) (h n)
theorem Bl.head {a : Nat} {l : List Nat} (h : Bl (a :: l)) : a < 256 := h a (List.mem_cons_self ..)
theorem Bl.tail {a : Nat} {l : List Nat} (h : Bl (a :: l)) : Bl l := fun n hn => h n (List.mem_cons_of_mem _ hn)
theorem Bl.getD {l : List Nat} (h : Bl l) (i : Nat) : l.getD i 0 < 256 := by
  rw [List.getD_eq_getElem?_getD]
  cases hx : l[i]? with
  | none => decide
  | some v => exact h v (List.mem_of_getElem? hx)
/-- A polynomial at a place, the highest number first. -/
def hE (l : List Nat) (x : Nat) : Nat := l.foldr (fun a v => gmul v x ^^^ a) 0
theorem hE_cons (a : Nat) (l : List Nat) (x : Nat) : hE (a :: l) x = gmul (hE l x) x ^^^ a := rfl
theorem hE_lt {l : List Nat} (h : Bl l) (x : Nat) : hE l x < 256 := by
  induction l with
  | nil => exact (by decide : (0 : Nat) < 256)
  | cons a l ih => exact xor_lt (gmul_lt _ _) h.head
/-- The same, number by number. -/
def eS (l : List Nat) (x : Nat) : Nat → Nat
  | 0 => 0
  | k + 1 => eS l x k ^^^ gmul (l.getD k 0) (gpow x k)
theorem eS_lt {l : List Nat} (x k : Nat) : eS l x k < 256 := by
  induction k with
  | zero => exact (by decide : (0 : Nat) < 256)
  | succ k ih => exact xor_lt ih (gmul_lt _ _)
theorem eS_cons {a : Nat} {l : List Nat} {x : Nat} (ha : a < 256) (hx : x < 256) (k : Nat) : eS (a :: l) x (k + 1) = gmul (eS l x k) x ^^^ a := by
  induction k with
  | zero => show 0 ^^^ gmul a (gpow x 0) = gmul 0 x ^^^ a; rw [gpow_zero', gmul_one ha, zero_gmul]
  | succ k ih =>
    show eS (a :: l) x (k + 1) ^^^ gmul (l.getD k 0) (gpow x (k + 1)) = gmul (eS l x k ^^^ gmul (l.getD k 0) (gpow x k)) x ^^^ a
    rw [ih, xor_gmul (eS_lt x k) (gmul_lt _ _), ← gpow_succ k hx, gmul_assoc]
    simp only [Nat.xor_assoc, Nat.xor_comm, x_left]
theorem hE_eS {l : List Nat} (h : Bl l) {x : Nat} (hx : x < 256) : hE l x = eS l x l.length := by
  induction l with
  | nil => rfl
  | cons a l ih => rw [hE_cons, List.length_cons, eS_cons h.head hx, ih h.tail]
/-! ### sums of lists, number by number -/
def addL : List Nat → List Nat → List Nat
  | [], m => m
  | l, [] => l
  | a :: l, b :: m => (a ^^^ b) :: addL l m
def scL (a : Nat) (l : List Nat) : List Nat := l.map (gmul a)
theorem addL_nil (l : List Nat) : addL l [] = l := by cases l <;> rfl
theorem Bl.add {l m : List Nat} (hl : Bl l) (hm : Bl m) : Bl (addL l m) := by
  induction l generalizing m with
  | nil => exact hm
  | cons a l ih =>
    cases m with
    | nil => exact hl
    | cons b m => exact Bl.cons (xor_lt hl.head hm.head) (ih hl.tail hm.tail)
theorem Bl.sc (a : Nat) (l : List Nat) : Bl (scL a l) := fun n hn => by obtain ⟨b, _, rfl⟩ := List.mem_map.1 hn; exact gmul_lt _ _
theorem hE_add {l m : List Nat} (hl : Bl l) (hm : Bl m) (x : Nat) : hE (addL l m) x = hE l x ^^^ hE m x := by
  induction l generalizing m with
  | nil => show hE m x = 0 ^^^ hE m x; rw [Nat.zero_xor]
  | cons a l ih =>
    cases m with
    | nil => show hE (a :: l) x = hE (a :: l) x ^^^ 0; rw [Nat.xor_zero]
    | cons b m =>
      show gmul (hE (addL l m) x) x ^^^ (a ^^^ b) = (gmul (hE l x) x ^^^ a) ^^^ (gmul (hE m x) x ^^^ b)
      rw [ih hl.tail hm.tail, xor_gmul (hE_lt hl.tail x) (hE_lt hm.tail x)]
      simp only [Nat.xor_assoc, Nat.xor_comm, x_left]
theorem hE_sc {l : List Nat} (hl : Bl l) (a x : Nat) : hE (scL a l) x = gmul a (hE l x) := by
  induction l with
  | nil => show 0 = gmul a 0; rw [gmul_zero]
  | cons b l ih =>
    show gmul (hE (scL a l) x) x ^^^ gmul a b = gmul a (gmul (hE l x) x ^^^ b)
    rw [ih hl.tail, gmul_xor (gmul_lt _ _) hl.head, gmul_assoc]
theorem length_add (l m : List Nat) : (addL l m).length = max l.length m.length := by
  induction l generalizing m with
  | nil => show m.length = max 0 m.length; omega
  | cons a l ih =>
    cases m with
    | nil => show (a :: l).length = max (a :: l).length 0; omega
    | cons b m => show (addL l m).length + 1 = max (l.length + 1) (m.length + 1); rw [ih]; omega
theorem length_sc (a : Nat) (l : List Nat) : (scL a l).length = l.length := List.length_map ..
/-! ### noughts -/
/-- What is left of a polynomial by (x - r): the quotient's numbers. -/
def quo (r : Nat) : List Nat → List Nat
  | [] => []
  | [_] => []
  | _ :: b :: l => hE (b :: l) r :: quo r (b :: l)
theorem quo_bl {l : List Nat} (h : Bl l) (r : Nat) : Bl (quo r l) := by
  induction l with
  | nil => exact fun n hn => by cases hn
  | cons a l ih =>
    cases l with
    | nil => exact fun n hn => by cases hn
    | cons b l => exact Bl.cons (hE_lt h.tail r) (ih h.tail)
theorem quo_length (r : Nat) (l : List Nat) : (quo r l).length = l.length - 1 := by
  induction l with
  | nil => rfl
  | cons a l ih =>
    cases l with
    | nil => rfl
    | cons b l => show (quo r (b :: l)).length + 1 = (b :: l).length + 1 - 1; rw [ih]; simp
theorem quo_eq {l : List Nat} (h : Bl l) {x r : Nat} (hx : x < 256) (hr : r < 256) : hE l x ^^^ hE l r = gmul (x ^^^ r) (hE (quo r l) x) := by
  induction l with
  | nil => show 0 ^^^ 0 = gmul (x ^^^ r) 0; rw [gmul_zero]; rfl
  | cons a l ih =>
    cases l with
    | nil =>
      show (gmul 0 x ^^^ a) ^^^ (gmul 0 r ^^^ a) = gmul (x ^^^ r) 0
      rw [zero_gmul, zero_gmul, gmul_zero, Nat.zero_xor, Nat.xor_self]
    | cons b l =>
      have i := ih h.tail
      have hv := hE_lt h.tail x
      have hw := hE_lt h.tail r
      have hq := hE_lt (quo_bl h.tail r) x
      rw [hE_cons a, hE_cons a]
      show _ = gmul (x ^^^ r) (gmul (hE (quo r (b :: l)) x) x ^^^ hE (b :: l) r)
      rw [gmul_xor (gmul_lt _ _) hw, gmul_assoc, ← i, xor_gmul hv hw, xor_gmul hx hr]
      rw [gmul_comm x (hE (b :: l) r), gmul_comm r (hE (b :: l) r)]
      simp only [Nat.xor_assoc, Nat.xor_comm, x_left, x_can, Nat.xor_self, Nat.xor_zero]
/-- With as many unlike noughts as it has numbers it is nought everywhere. -/
theorem roots {l : List Nat} : ∀ (xs : List Nat), Bl l → Bl xs → xs.Nodup → l.length ≤ xs.length → (∀ r ∈ xs, hE l r = 0) → ∀ x, x < 256 → hE l x = 0 := by
  intro xs
  induction xs generalizing l with
  | nil =>
    intro _ _ _ hn _ x _
    cases l with
    | nil => rfl
    | cons a l => simp at hn
  | cons r xs ih =>
    intro h hb hd hn h0 x hx
    have hr := hb.head
    have e0 := h0 r (List.mem_cons_self ..)
    have hd' := List.nodup_cons.1 hd
    have hq : ∀ s ∈ xs, hE (quo r l) s = 0 := fun s hs => by
      have e := quo_eq h (hb.tail s hs) hr
      rw [h0 s (List.mem_cons_of_mem _ hs), e0, Nat.xor_self] at e
      rcases (gmul_eq0 _ _).1 e.symm with e1 | e1
      · exact absurd (x_zero e1 ▸ hs) hd'.1
      · exact e1
    have hz := ih (quo_bl h r) hb.tail hd'.2 (by rw [quo_length]; simp at hn; omega) hq x hx
    have e := quo_eq h hx hr
    rw [hz, gmul_zero, e0, Nat.xor_zero] at e
    exact e
end Go.Proofs.YtjbdimfpjbmggaaDoor.Gm
