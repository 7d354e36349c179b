/- Bytes as strings. -/
import Derived.Test.YtjbdimfpjbmggaaDoorLa
import Derived.Test.YtjbdimfpjbmggaaDoorPp
set_option linter.unusedVariables false
set_option linter.unusedSimpArgs false
namespace Go.Proofs.YtjbdimfpjbmggaaDoor
open Go.RowKit
theorem pu_bstr {P : Program} {l : List (Nat × Value)} {w : World} {x : Operand} {st dt e len c : Nat} {a : Option Addr} {X : List Nat} (hB : Bs w a X) (hs : P.underlying st = some (.slice e)) (he : P.underlying e = some (.int .u8)) (hd : P.underlying dt = some .string)
    (hx : lk l x = some (.slice a len c)) (hl : X.length = len) : Pu P (.convert st dt x) l w (.string (bstr X)) := fun n A ha d ty pos af g => by
  subst hl
  unfold execOp
  simp only [ha.eval hx, Sem.run_bind, bytes_string hs he hd hB c, Result.andThen_ok, Sem.run_pure]
theorem Aw.ofBk {p q : Nat} {X : List Nat} (h : p ≠ q) : Aw (On q) (some ⟨p, 0, none⟩) X := fun _ x hx hc => by
  injection hx with hx; subst hx; exact h hc
theorem Aw.ofOb {w : World} {base n c q : Nat} {A : Option Addr} {X : List Nat} (h : Ob w base (.slice A n c) X) (hq : q < base) : Aw (On q) A X := fun _ x hx hc => by
  obtain ⟨A', c', e, _, hb⟩ := h.reads
  injection e with e1 e2 e3
  subst e1
  have := hb x hx
  have hc' : x.block = q := hc
  omega
def bL (f : Nat → Bool) : List Value := (List.range 256).map fun v => .bool (f v)
theorem bL_length (f : Nat → Bool) : (bL f).length = 256 := by simp [bL]
theorem bL_get {f : Nat → Bool} {v : Nat} (h : v < 256) : (bL f)[v]? = some (.bool (f v)) := by simp [bL, List.getElem?_map, List.getElem?_range h]
theorem bL_one (f : Nat → Bool) : ∀ u ∈ bL f, u.oneCell' = true := fun u hu => by obtain ⟨v, _, rfl⟩ := List.mem_map.1 hu; rfl
theorem bL_set {f : Nat → Bool} {n : Nat} : (bL f).set n (.bool true) = bL (fun v => decide (v = n) || f v) := by
  apply List.ext_getElem?
  intro i
  by_cases hi : i < 256
  · rw [bL_get hi, List.getElem?_set]
    by_cases e : n = i
    · subst e; simp [bL_length, hi]
    · have e' : ¬ i = n := fun h => e h.symm
      simp [e, e', bL_get hi]
  · rw [List.getElem?_eq_none (by rw [List.length_set, bL_length]; omega), List.getElem?_eq_none (by rw [bL_length]; omega)]
def seen (l : List Nat) (i v : Nat) : Bool := decide (v ∈ l.take i)
theorem seen_zero (l : List Nat) : bL (fun _ => false) = bL (seen l 0) := congrArg bL (funext fun v => by simp [seen])
theorem seen_step {l : List Nat} {i n : Nat} (h : l[i]? = some n) : bL (fun v => decide (v = n) || seen l i v) = bL (seen l (i + 1)) := congrArg bL (funext fun v => by
  unfold seen
  rw [List.take_add_one, h, Bool.eq_iff_iff]
  simp [or_comm])
theorem may_seen {l : List Nat} {i n : Nat} (e : l[i]? = some n) (h : seen l i n = true) : ¬ Gm.May l := by
  have := of_decide_eq_true h
  obtain ⟨j, hj, hn⟩ := List.getElem_of_mem this
  have hj2 : j < i := by rw [List.length_take] at hj; omega
  rw [List.getElem_take] at hn
  exact Gm.may_twice hj2 (List.getElem?_eq_some_iff.2 ⟨_, hn⟩) e rfl
theorem di_seen {l : List Nat} {i n : Nat} (hD : ∀ a b, a < b → b < i → l.getD a 0 ≠ l.getD b 0) (e : l[i]? = some n) (h : seen l i n = false) : ∀ a b, a < b → b < i + 1 → l.getD a 0 ≠ l.getD b 0 := fun a b h1 h2 => by
  rcases Nat.lt_or_ge b i with h3 | h3
  · exact hD a b h1 h3
  · obtain rfl : b = i := by omega
    intro heq
    have hn : l.getD b 0 = n := by rw [List.getD_eq_getElem?_getD, e]; rfl
    have hb := (List.getElem?_eq_some_iff.1 e).1
    refine of_decide_eq_false h ?_
    rw [← hn, ← heq, List.getD_eq_getElem?_getD, List.getElem?_eq_getElem (by omega : a < l.length)]
    exact List.mem_take_iff_getElem.2 ⟨a, by omega, rfl⟩
theorem Ob.made {w : World} {base g N : Nat} {X : List Nat} (h : Bk w g (u8s X) 5) (hb : base ≤ g) (hl : X.length = N) (hN : N ≤ maxLen) (hx : ∀ n ∈ X, n < 256) : Ob w base (.slice (some ⟨g, 0, none⟩) N N) X := by
  have := Ob.of_block (k := N) h hb hl hN hx (Nat.le_refl _)
  rwa [List.take_of_length_le (by omega), hl] at this
end Go.Proofs.YtjbdimfpjbmggaaDoor
