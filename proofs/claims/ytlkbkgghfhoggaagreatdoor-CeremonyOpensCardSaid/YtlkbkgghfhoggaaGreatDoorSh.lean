/- Parts of a secret as they lie in memory: slices of structs of three cells; cuts and copies of bytes. -/
import Derived.Test.YtlkbkgghfhoggaaGreatDoorLs
import Derived.Test.YtlkbkgghfhoggaaGreatDoorFt
import Derived.Test.YtlkbkgghfhoggaaGreatDoorHw1
import Derived.Test.YtlkbkgghfhoggaaGreatDoorPt
import Derived.Test.YtlkbkgghfhoggaaGreatDoorSb
import Derived.Laws.CopyRow
import Derived.Laws.OwnMore
import Derived.Laws.MakeOwn
import Derived.Maps.AppendAt
set_option linter.unusedVariables false
set_option linter.unusedSimpArgs false
namespace Go.Proofs.YtlkbkgghfhoggaaGreatDoor
open Go.RowKit

/-! ### parts -/
/-- A part: its place, its generation, its bytes. -/
structure Shr where
  ix : Nat
  gen : Nat
  A : Option Addr
  X : List Nat
  c : Nat
def shC (s : Shr) : List Value := [.int .u8 (s.ix : Int), .int .u32 (s.gen : Int), .slice s.A s.X.length s.c]
def shsC (L : List Shr) : List Value := L.flatMap shC
structure Shr.ok (w : World) (s : Shr) : Prop where
  ix : s.ix < 256
  gen : s.gen < 4294967296
  bs : Bs w s.A s.X
  le : s.X.length ≤ s.c
  cap : s.c ≤ maxLen
/-- What a part says. -/
def Shr.key (s : Shr) : Nat × Nat × List Nat := (s.ix, s.gen, s.X)
theorem shsC_length (L : List Shr) : (shsC L).length = L.length * 3 := by
  induction L with
  | nil => rfl
  | cons s L ih => show (shC s ++ shsC L).length = _; rw [List.length_append, ih, List.length_cons]; show 3 + _ = _; omega
theorem shsC_append (L M : List Shr) : shsC (L ++ M) = shsC L ++ shsC M := by unfold shsC; rw [List.flatMap_append]
theorem shsC_get {L : List Shr} {i j : Nat} {s : Shr} {u : Value} (hi : L[i]? = some s) (hj : (shC s)[j]? = some u) : (shsC L)[i * 3 + j]? = some u := by
  have hj3 : j < 3 := (List.getElem?_eq_some_iff.1 hj).1
  induction L generalizing i with
  | nil => cases hi
  | cons s' L ih =>
    show (shC s' ++ shsC L)[i * 3 + j]? = some u
    cases i with
    | zero => cases hi; rw [Nat.zero_mul, Nat.zero_add, List.getElem?_append_left hj3]; exact hj
    | succ i => rw [List.getElem?_append_right (by show 3 ≤ _; omega), show (i + 1) * 3 + j - (shC s').length = i * 3 + j by show _ - 3 = _; omega]; exact ih hi
theorem shsC_one (L : List Shr) : ∀ u ∈ shsC L, u.oneCell' = true := fun u hu => by
  obtain ⟨s, _, hs⟩ := List.mem_flatMap.1 hu
  simp only [shC, List.mem_cons, List.not_mem_nil, or_false] at hs
  rcases hs with rfl | rfl | rfl <;> rfl
/-- The slice at A reads as the parts L. -/
structure Ss (w : World) (A : Option Addr) (L : List Shr) : Prop where
  ok : ∀ s ∈ L, s.ok w
  cell : L ≠ [] → ∃ b o, A = some ⟨b, o, none⟩ ∧ ∀ j u, (shsC L)[j]? = some u → w.cell? ⟨b, o + j, none⟩ = some u
/-- No cell of the parts, and none of their bytes, lies in the blocks S. -/
structure Aws (S : Nat → Prop) (A : Option Addr) (L : List Shr) : Prop where
  row : L ≠ [] → ∀ x, A = some x → ¬ S x.block
  dat : ∀ s ∈ L, Aw S s.A s.X
section
variable {w w' : World} {A : Option Addr} {L : List Shr} {S : Nat → Prop}
theorem Shr.ok.kept {s : Shr} (h : s.ok w) (k : Kp S w w') (hn : Aw S s.A s.X) : s.ok w' := ⟨h.ix, h.gen, h.bs.keptS k hn, h.le, h.cap⟩
theorem Ss.keptS (h : Ss w A L) (k : Kp S w w') (hn : Aws S A L) : Ss w' A L :=
  ⟨fun s hs => (h.ok s hs).kept k (hn.dat s hs), fun hl => by
    obtain ⟨b, o, rfl, hc⟩ := h.cell hl
    exact ⟨b, o, rfl, fun j u hu => k.cell (hc j u hu) (hn.row hl ⟨b, o, none⟩ rfl)⟩⟩
theorem Aws.no : Aws No A L := ⟨fun _ _ _ h => h, fun _ _ _ _ _ h => h⟩
theorem Ss.keptNo (h : Ss w A L) (k : Kp No w w') : Ss w' A L := h.keptS k Aws.no
theorem Ss.at (h : Ss w A L) {i : Nat} {s : Shr} (hi : L[i]? = some s) : ∃ b o, A = some ⟨b, o, none⟩ ∧ ∀ j u, (shC s)[j]? = some u → w.cell? ⟨b, o + (i * 3 + j), none⟩ = some u := by
  obtain ⟨b, o, e, hc⟩ := h.cell (by intro e; subst e; cases hi)
  exact ⟨b, o, e, fun j u hu => hc _ u (shsC_get hi hu)⟩
theorem Ss.get (h : Ss w A L) {i : Nat} {s : Shr} (hi : L[i]? = some s) : s.ok w := h.ok s (List.mem_of_getElem? hi)
theorem Aws.get (h : Aws S A L) {i : Nat} {s : Shr} (hi : L[i]? = some s) : Aw S s.A s.X := h.dat s (List.mem_of_getElem? hi)
theorem Ss.aw (h : Ss w A L) {b : Nat} (hb : w.heap.size ≤ b) : Aws (On b) A L :=
  ⟨fun hl x hx hc => by
    obtain ⟨b', o, rfl, hcell⟩ := h.cell hl
    injection hx with hx; subst hx
    obtain ⟨s, hs⟩ : ∃ s, L[0]? = some s := ⟨_, List.getElem?_eq_getElem (List.length_pos_iff.2 hl)⟩
    have := World.block_lt_of_cell? _ _ (hcell _ _ (shsC_get hs (j := 0) rfl))
    have hc' : b' = b := hc
    subst hc'
    exact absurd this (Nat.not_lt.2 hb), fun s hs => (h.ok s hs).bs.aw hb⟩
theorem Ss.take (h : Ss w A L) (n : Nat) : Ss w A (L.take n) :=
  ⟨fun s hs => h.ok s (List.mem_of_mem_take hs), fun hl => by
    obtain ⟨b, o, e, hc⟩ := h.cell (by intro e; subst e; simp at hl)
    refine ⟨b, o, e, fun j u hu => hc j u ?_⟩
    have e2 : shsC L = shsC (L.take n) ++ shsC (L.drop n) := by rw [← shsC_append, List.take_append_drop]
    rw [e2, List.getElem?_append_left (List.getElem?_eq_some_iff.1 hu).1]; exact hu⟩
theorem Aws.take (h : Aws S A L) (n : Nat) : Aws S A (L.take n) := ⟨fun hl => h.row (fun e => hl (by rw [e, List.take_nil])), fun s hs => h.dat s (List.mem_of_mem_take hs)⟩
theorem Ss.nil (w : World) (A : Option Addr) : Ss w A [] := ⟨fun _ h => (by cases h), fun h => absurd rfl h⟩
end
section
variable {P : Program} {n : Nat} {l : List (Nat × Value)} {w : World} {x y : Operand} {t e : TypeId} {k : IntKind} {A : Option Addr} {L : List Shr} {m : Nat} {s : Shr}
theorem Ss.adr (h : Ss w A L) (hi : L[m]? = some s) : A = some (adr A) ∧ ∀ j u, (shC s)[j]? = some u → w.cell? ((Go.Proofs.YtlkbkgghfhoggaaGreatDoor.adr A).add (m * 3 + j)) = some u := by
  obtain ⟨b, o, rfl, hc⟩ := h.at hi
  exact ⟨rfl, fun j u hu => by show w.cell? ((⟨b, o, none⟩ : Addr).add _) = _; rw [add_at]; exact hc j u hu⟩
theorem Ss.adr_add (h : Ss w A L) (hi : L[m]? = some s) (a b : Nat) : ((Go.Proofs.YtlkbkgghfhoggaaGreatDoor.adr A).add a).add b = (Go.Proofs.YtlkbkgghfhoggaaGreatDoor.adr A).add (a + b) := by
  obtain ⟨b', o, rfl, hc⟩ := h.at hi
  show ((⟨b', o, none⟩ : Addr).add a).add b = (⟨b', o, none⟩ : Addr).add (a + b)
  rw [add_at, add_at, add_at, Nat.add_assoc]
theorem pu_indexAddrH {len c : Nat} {i : Int} (hS : Ss w A L) (hu : P.underlying t = some (.slice e)) (hs : sizeB P e 3 = true) (hx : lk l x = some (.slice A len c)) (hl : L.length = len) (hy : lk l y = some (.int k i)) (hi : i = (m : Int)) (hm : L[m]? = some s) :
    Pu P (.indexAddr t x y) l w (.pointer (some ((adr A).add (m * 3)))) := by
  have h0 := (hS.adr hm).1
  have hlt := (List.getElem?_eq_some_iff.1 hm).1
  exact pu_indexAddrS (w := w) (q := adr A) (c := c) hu hs (by rw [← h0]; exact hx) hy hi (hl ▸ hlt)
theorem pu_fieldAddrH {i off : Nat} (hS : Ss w A L) (hm : L[m]? = some s) (hf : fieldOff P t i = some off) (hx : lk l x = some (.pointer (some ((adr A).add (m * 3))))) : Pu P (.fieldAddr t x i) l w (.pointer (some ((adr A).add (m * 3 + off)))) := fun n B ha d ty pos af g => by
  obtain ⟨fs, f, hu, hi, rfl, d', hd, hz⟩ := fieldOff_spec hf
  have e := hS.adr_add hm (m * 3) f.offset
  unfold execOp
  simp only [ha.eval hx]
  simp [Instr.fieldAt, run_underlying hu, hi, Instr.sureAddr, fieldPlace, sizeOf, typeInfo, hd, hz, e]
theorem pu_loadH {j : Nat} {v : Value} (hS : Ss w A L) (hm : L[m]? = some s) (hf : flatB P t = true) (hx : lk l x = some (.pointer (some ((adr A).add (m * 3 + j))))) (hv : (shC s)[j]? = some v) : Pu P (.load t x) l w v := pu_load hf hx ((hS.adr hm).2 j v hv)
theorem pu_loadHr (hS : Ss w A L) (hm : L[m]? = some s) (hr : isRowB P t = true) (hs : sizeB P t 3 = true) (hx : lk l x = some (.pointer (some ((adr A).add (m * 3))))) : Pu P (.load t x) l w (.agg (shC s).toArray) := by
  obtain ⟨b, o, rfl, hc⟩ := hS.at hm
  refine pu_loadRange (C := shC s) hr hs (p := b) (o := o + m * 3) ?_ (fun j v hv => by rw [Nat.add_assoc]; exact hc j v hv)
  rw [hx]; show some (Value.pointer (some ((⟨b, o, none⟩ : Addr).add (m * 3)))) = _; rw [add_at]
end

/-! ### places, and what goes through parts -/
def ixs (M : List Shr) : List Nat := M.map Shr.ix
theorem ixs_length (M : List Shr) : (ixs M).length = M.length := List.length_map ..
theorem ixs_get {M : List Shr} {i : Nat} {s : Shr} (e : M[i]? = some s) : (ixs M)[i]? = some s.ix := by unfold ixs; rw [List.getElem?_map, e]; rfl
def seen0 (l : List Nat) (i v : Nat) : Bool := decide (v = 0) || seen l i v
theorem seen0_zero (l : List Nat) : bL (fun v => decide (v = 0)) = bL (seen0 l 0) := congrArg bL (funext fun v => by simp [seen0, seen])
theorem seen0_step {l : List Nat} {i n : Nat} (e : l[i]? = some n) : bL (fun v => decide (v = n) || seen0 l i v) = bL (seen0 l (i + 1)) := congrArg bL (funext fun v => by
  unfold seen0 seen
  rw [List.take_add_one, e, Bool.eq_iff_iff]
  simp
  constructor
  · rintro (h | h | h)
    · exact .inr (.inr h)
    · exact .inl h
    · exact .inr (.inl h)
  · rintro (h | h | h)
    · exact .inr (.inl h)
    · exact .inr (.inr h)
    · exact .inl h)
theorem seen0_no {l : List Nat} {i n : Nat} (hD : Gm.Di l) (hz : n ≠ 0) (e : l[i]? = some n) : seen0 l i n = false := by
  unfold seen0
  rw [Bool.or_eq_false_iff]
  refine ⟨decide_eq_false hz, ?_⟩
  cases h : seen l i n with
  | false => rfl
  | true =>
    obtain ⟨j, hj, hn⟩ := List.getElem_of_mem (of_decide_eq_true h)
    have hj2 : j < i := by rw [List.length_take] at hj; omega
    have hi := (List.getElem?_eq_some_iff.1 e).1
    rw [List.getElem_take] at hn
    refine absurd ?_ (hD j i hj2 hi)
    rw [List.getD_eq_getElem?_getD, List.getD_eq_getElem?_getD, e, List.getElem?_eq_getElem (by omega : j < l.length), hn]
theorem take_snoc {l : List Nat} {i n : Nat} (e : l[i]? = some n) : l.take i ++ [n] = l.take (i + 1) := by rw [List.take_add_one, e]; rfl
theorem mix_set {Y y : List Nat} {i n k : Nat} (e : Y[i]? = some n) (hY : Y.length = k) (hy : y.length = k) : (Y.take i ++ y.drop i).set i n = Y.take (i + 1) ++ y.drop (i + 1) := by
  have hi := (List.getElem?_eq_some_iff.1 e).1
  rw [List.set_append, if_neg (by rw [List.length_take]; omega), show i - (Y.take i).length = 0 by rw [List.length_take]; omega, List.drop_eq_getElem_cons (show i < y.length by omega), List.set_cons_zero, List.take_add_one, e, List.append_assoc]
  rfl
theorem mix_by {Y y : List Nat} {k : Nat} (hY : ∀ n ∈ Y, n < 256) (hl : Y.length = k) (hy : By k y) (i : Nat) : By k (Y.take i ++ y.drop i) :=
  ⟨by rw [List.length_append, List.length_take, List.length_drop, hl, hy.1]; omega, fun n hn => (List.mem_append.1 hn).elim (fun h => hY n (List.mem_of_mem_take h)) (fun h => hy.2 n (List.mem_of_mem_drop h))⟩
theorem mix_end {Y y : List Nat} {i : Nat} (hY : Y.length ≤ i) (hy : y.length ≤ i) : Y.take i ++ y.drop i = Y := by rw [List.take_of_length_le hY, List.drop_eq_nil_of_le hy, List.append_nil]
def ysL (M : List Shr) (j : Nat) : List Nat := M.map fun s => s.X.getD j 0
theorem ysL_length (M : List Shr) (j : Nat) : (ysL M j).length = M.length := List.length_map ..
theorem ysL_get {M : List Shr} {i j n : Nat} {s : Shr} (e : M[i]? = some s) (en : s.X[j]? = some n) : (ysL M j)[i]? = some n := by
  unfold ysL; rw [List.getElem?_map, e]; show some (s.X.getD j 0) = _; rw [List.getD_eq_getElem?_getD, en]; rfl
theorem ysL_bl {w : World} {A : Option Addr} {M : List Shr} (h : Ss w A M) (j : Nat) : ∀ n ∈ ysL M j, n < 256 := fun n hn => by
  obtain ⟨s, hs, rfl⟩ := List.mem_map.1 hn
  exact Gm.Bl.getD (h.ok s hs).bs.byte j
def thv (M : List Shr) (x j : Nat) : Nat := Gm.ipN (ixs M) (ysL M j) x (ixs M).length
def thX (M : List Shr) (N x : Nat) : List Nat := arr N (thv M x)
def thP (M : List Shr) (x j t : Nat) : Nat := if t < j then thv M x t else 0
theorem thP_by (M : List Shr) (N x j : Nat) : By N (arr N (thP M x j)) := arr_by fun t _ => by unfold thP; split; exact Gm.ipN_lt _ _ _ _; decide
theorem thX_length (M : List Shr) (N x : Nat) : (thX M N x).length = N := arr_length _ _
theorem thP_zero (M : List Shr) (N x : Nat) : List.replicate N 0 = arr N (thP M x 0) := (List.eq_replicate_iff.2 ⟨arr_length _ _, fun b hb => by
  obtain ⟨j, _, rfl⟩ := List.mem_map.1 hb; exact if_neg (Nat.not_lt_zero _)⟩).symm
theorem thP_step {M : List Shr} {N x j v : Nat} (hv : v = thv M x j) : (arr N (thP M x j)).set j v = arr N (thP M x (j + 1)) := by
  rw [arr_set]
  refine arr_ext fun t _ => ?_
  unfold thP
  by_cases e : t = j
  · subst e; rw [if_pos rfl, if_pos (by omega), hv]
  · rw [if_neg e]
    by_cases h : t < j
    · rw [if_pos h, if_pos (by omega)]
    · rw [if_neg h, if_neg (by omega)]
theorem thP_end {M : List Shr} {N x j : Nat} (h : j = N) : arr N (thP M x j) = thX M N x := by subst h; exact arr_ext fun t ht => if_pos ht
/-- Parts that go together. -/
structure Good (M : List Shr) (ge N : Nat) : Prop where
  gen : ∀ s ∈ M, s.gen = ge
  ix0 : ∀ s ∈ M, s.ix ≠ 0
  len : ∀ s ∈ M, s.X.length = N
  di : Gm.Di (ixs M)
  n1 : 1 ≤ N
  n2 : N ≤ 64
section
variable {M : List Shr} {ge N i : Nat} {s : Shr}
theorem Good.geni (h : Good M ge N) (e : M[i]? = some s) : s.gen = ge := h.gen s (List.mem_of_getElem? e)
theorem Good.ixi (h : Good M ge N) (e : M[i]? = some s) : s.ix ≠ 0 := h.ix0 s (List.mem_of_getElem? e)
theorem Good.leni (h : Good M ge N) (e : M[i]? = some s) : s.X.length = N := h.len s (List.mem_of_getElem? e)
theorem Good.may (h : Good M ge N) (h1 : 1 ≤ M.length) (h2 : M.length ≤ 255) : Gm.May (ixs M) := ⟨h.di, by rw [ixs_length]; exact h1, by rw [ixs_length]; exact h2⟩
end

/-! ### slices of parts of a call's own -/
/-- v is a slice of the call's own (its block at base or behind) of the parts L, whose bytes lie at low or behind, in other blocks. -/
structure Sw (T : TypeId) (low : Nat) (w : World) (base : Nat) (v : Value) (L : List Shr) : Prop where
  own : w.ownsRow base T 3 v L.length (shsC L)
  ok : ∀ s ∈ L, s.ok w
  dat : ∀ s ∈ L, ∀ x, s.A = some x → low ≤ x.block ∧ x.block < w.heap.size ∧ v.ownBlock ≠ some x.block
section
variable {T : TypeId} {low : Nat} {w w' : World} {base : Nat} {v : Value} {L : List Shr} {S : Nat → Prop}
theorem Sw.nil (T : TypeId) (low : Nat) (w : World) (base : Nat) : Sw T low w base (.slice none 0 0) [] := ⟨World.ownsRow_nil w base T 3, fun _ h => (by cases h), fun _ h => (by cases h)⟩
theorem Sw.lt (h : Sw T low w base v L) : ∀ b, v.ownBlock = some b → base ≤ b ∧ b < w.heap.size := h.own.lt
theorem ownsRow_kp {e size n : Nat} {xs : List Value} (h : w.ownsRow base e size v n xs) (k : Kp S w w') (hn : ∀ b, v.ownBlock = some b → ¬ S b) : w'.ownsRow base e size v n xs := by
  refine ⟨h.1, ?_⟩
  rcases h.2 with h1 | ⟨g, cap, cur, rfl, hb, hh, hr⟩
  · exact .inl h1
  · exact .inr ⟨g, cap, cur, rfl, hb, k.blk hh (hn g rfl), hr⟩
theorem Sw.kept (h : Sw T low w base v L) (k : Kp S w w') (hn : ∀ b, v.ownBlock = some b → ¬ S b) (hd : ∀ s ∈ L, ∀ x, s.A = some x → ¬ S x.block) : Sw T low w' base v L :=
  ⟨ownsRow_kp h.own k hn, fun s hs => (h.ok s hs).kept k (fun _ x hx => hd s hs x hx), fun s hs x hx => ⟨(h.dat s hs x hx).1, Nat.lt_of_lt_of_le (h.dat s hs x hx).2.1 k.size, (h.dat s hs x hx).2.2⟩⟩
theorem Sw.keptNo (h : Sw T low w base v L) (k : Kp No w w') : Sw T low w' base v L := h.kept k (fun _ _ f => f) (fun _ _ _ _ f => f)
theorem Sw.on {p : Nat} (h : Sw T low w base v L) (k : Kp (On p) w w') (hp : p < base ∧ p < low) : Sw T low w' base v L :=
  h.kept k (fun b hb hc => by have := (h.lt b hb).1; have : b = p := hc; omega) (fun s hs x hx hc => by have := (h.dat s hs x hx).1; have : x.block = p := hc; omega)
/-- Where it lies: all below lim. -/
def Sw.Top (v : Value) (L : List Shr) (lim : Nat) : Prop := (∀ b, v.ownBlock = some b → b < lim) ∧ ∀ s ∈ L, ∀ x, s.A = some x → x.block < lim
theorem Sw.top (h : Sw T low w base v L) : Sw.Top v L w.heap.size := ⟨fun b hb => (h.lt b hb).2, fun s hs x hx => (h.dat s hs x hx).2.1⟩
theorem Sw.onT {p lim : Nat} (h : Sw T low w base v L) (k : Kp (On p) w w') (hl : Sw.Top v L lim) (hp : lim ≤ p) : Sw T low w' base v L :=
  h.kept k (fun b hb hc => by have := hl.1 b hb; have : b = p := hc; omega) (fun s hs x hx hc => by have := hl.2 s hs x hx; have : x.block = p := hc; omega)
theorem Sw.lowb {b2 : Nat} (h : Sw T low w base v L) (hb : b2 ≤ base) : Sw T low w b2 v L :=
  ⟨⟨h.own.1, by
    rcases h.own.2 with h1 | ⟨g, cap, cur, rfl, h2, hr⟩
    · exact .inl h1
    · exact .inr ⟨g, cap, cur, rfl, Nat.le_trans hb h2, hr⟩⟩, h.ok, h.dat⟩
theorem Sw.lowd {l2 : Nat} (h : Sw T low w base v L) (hb : l2 ≤ low) : Sw T l2 w base v L := ⟨h.own, h.ok, fun s hs x hx => ⟨Nat.le_trans hb (h.dat s hs x hx).1, (h.dat s hs x hx).2⟩⟩
theorem Sw.le {A : Option Addr} {n c : Nat} (h : Sw T low w base (.slice A n c) L) : L.length = n ∧ L.length ≤ c := by
  rcases h.own.2 with ⟨e, hn⟩ | ⟨g, cap, cur, e, _, _, hn, _⟩
  · injection e with e1 e2 e3; omega
  · injection e with e1 e2 e3; subst e2 e3; exact ⟨rfl, hn⟩
theorem Sw.ss {A : Option Addr} {n c : Nat} (h : Sw T low w base (.slice A n c) L) : Ss w A L := by
  refine ⟨h.ok, fun hl => ?_⟩
  rcases h.own.2 with ⟨e, hn⟩ | ⟨g, cap, cur, e, hb, hh, hn, _, hcs, ht⟩
  · exact absurd (List.eq_nil_of_length_eq_zero hn) hl
  · injection e with e1 e2 e3
    refine ⟨g, 0, e1, fun j u hu => ?_⟩
    have hc : cur[j]? = some u := by
      rw [← ht, List.getElem?_take] at hu
      split at hu
      · simpa using hu
      · cases hu
    rw [Nat.zero_add]
    simp [World.cell?, hh, hc]
theorem Sw.aw {A : Option Addr} {n c p : Nat} (h : Sw T low w base (.slice A n c) L) (hp : p < base ∧ p < low) : Aws (On p) A L :=
  ⟨fun hl x hx hc => by
    have := (h.lt x.block (by rw [hx]; rfl)).1
    have : x.block = p := hc
    omega, fun s hs _ x hx hc => by have := (h.dat s hs x hx).1; have : x.block = p := hc; omega⟩
end
theorem Sw.onN {T : TypeId} {low : Nat} {w w' w0 : World} {base p : Nat} {v : Value} {L : List Shr} (h : Sw T low w base v L) (k : Kp (On p) w w') (h0 : Sw T low w0 base v L) (hp : w0.heap.size ≤ p) : Sw T low w' base v L := h.onT k h0.top hp
theorem Ss.draw {w : World} {A : Option Addr} {L : List Shr} (h : Ss w A L) : Ss w.drew A L := ⟨fun s hs => ⟨(h.ok s hs).ix, (h.ok s hs).gen, (h.ok s hs).bs.drew, (h.ok s hs).le, (h.ok s hs).cap⟩, h.cell⟩
theorem Sw.draw {T : TypeId} {low : Nat} {w : World} {base : Nat} {v : Value} {L : List Shr} (h : Sw T low w base v L) : Sw T low w.drew base v L := ⟨h.own, fun s hs => ⟨(h.ok s hs).ix, (h.ok s hs).gen, (h.ok s hs).bs.drew, (h.ok s hs).le, (h.ok s hs).cap⟩, h.dat⟩
section
variable {w w' w0 : World} {base p : Nat} {v : Value} {X : List Nat} {S : Nat → Prop}
theorem Sw.od {T : TypeId} {low m : Nat} {L : List Shr} {s : Shr} (h : Sw T low w base v L) (hi : L[m]? = some s) : Od w low (.slice s.A s.X.length s.c) s.X :=
  ⟨_, _, rfl, (h.ok s (List.mem_of_getElem? hi)).bs, (h.ok s (List.mem_of_getElem? hi)).le, fun x hx => ⟨(h.dat s (List.mem_of_getElem? hi) x hx).1, (h.dat s (List.mem_of_getElem? hi) x hx).2.1⟩⟩
end
theorem key_len {L : List Shr} {M : List (Nat × Nat × List Nat)} (h : L.map Shr.key = M) : L.length = M.length := by rw [← h, List.length_map]
theorem key_at {L : List Shr} {M : List (Nat × Nat × List Nat)} {i : Nat} {s : Shr} {m : Nat × Nat × List Nat} (h : L.map Shr.key = M) (e : L[i]? = some s) (e2 : M[i]? = some m) : s.ix = m.1 ∧ s.gen = m.2.1 ∧ s.X = m.2.2 := by
  rw [← h, List.getElem?_map, e] at e2
  have := Option.some.inj e2
  rw [← this]; exact ⟨rfl, rfl, rfl⟩
theorem Ss.lit {w : World} {p : Nat} {t : TypeId} (M : List Shr) (h : Bk w p (shsC M) t) (hs : ∀ s ∈ M, s.ok w) : Ss w (some ⟨p, 0, none⟩) M :=
  ⟨hs, fun _ => ⟨p, 0, rfl, fun j u hu => by rw [Nat.zero_add]; exact h.cell hu⟩⟩
/-- A part just made: its bytes lie behind all that was. -/
theorem Sw.fresh {T : TypeId} {low n c i ge base : Nat} {w0 w : World} {v : Value} {L : List Shr} {A : Option Addr} {X : List Nat} (h : Sw T low w0 base v L) (q : Ob w w0.heap.size (.slice A n c) X) (hlow : low ≤ w0.heap.size) : ∀ s ∈ [(⟨i, ge, A, X, c⟩ : Shr)], ∀ x, s.A = some x → low ≤ x.block ∧ x.block < w.heap.size ∧ v.ownBlock ≠ some x.block := fun s hs x hx => by
  rw [List.mem_singleton.1 hs] at hx
  have h1 := q.lt x.block (by show (Value.slice A n c).ownBlock = _; rw [show A = some x from hx]; rfl)
  exact ⟨by omega, h1.2, fun e => by have := (h.lt x.block e).2; omega⟩
theorem Shr.okOb {w : World} {base n c i ge : Nat} {A : Option Addr} {X : List Nat} (q : Ob w base (.slice A n c) X) (hi : i < 256) (hg : ge < 4294967296) : (⟨i, ge, A, X, c⟩ : Shr).ok w := ⟨hi, hg, q.bs, q.le.2, q.cap⟩
theorem mul_i64 {a b : Nat} (h : a * b < 9223372036854775808) : IntKind.i64.wrap ((a : Int) * (b : Int)) = ((a * b : Nat) : Int) := by
  rw [← Int.natCast_mul]; revert h; generalize a * b = z; intro h; rw [IntKind.wrap_i64]; omega
theorem pu_notd {P : Program} {l : List (Nat × Value)} {w : World} {x : Operand} {t : TypeId} {p : Prop} [Decidable p] (hx : lk l x = some (.bool (decide p))) : Pu P (.unOp .not t x) l w (.bool (decide (¬ p))) := by
  have h := pu_not (P := P) (w := w) (t := t) hx
  rwa [← decide_not] at h
def zShr : Value := .agg #[.int .u8 0, .int .u32 0, .slice none 0 0]
section
variable {T TS : TypeId} {low n : Nat} {l : List (Nat × Value)} {w : World} {d? : Option Tmp} {ty : TypeId} {pos : String} {af : Array Edge} {g? : Option (Nat × Bool)} {x y : Operand} {A B : Option Addr} {L M : List Shr} {c c' k k' base : Nat}
structure Aps (T : TypeId) (low : Nat) (w : World) (base : Nat) (L : List Shr) (A : Option Addr) (c : Nat) (w' : World) : Prop where
  ob : Sw T low w' base (.slice A L.length c) L
  kp : Kp (fun i => base ≤ i) w w'
theorem lo_makeS {kk k2 : IntKind} {j : Int} (hu : Tryz.prog.underlying TS = some (.slice T)) (hinfo : (Tryz.prog.info? T).map (fun i => (i.zero, i.size, i.bytes)) = some (some zShr, 3, 32)) (hx : lk l x = some (.int kk 0)) (hy : lk l y = some (.int k2 j)) (hj : j = (c : Int)) (hc : c ≤ 1000000) :
    Lo Tryz.prog ⟨d?, .makeSlice TS x y, ty, pos, af, g?⟩ n l w (fun v w' => ∃ A, v = .slice A 0 c ∧ Sw T low w' w.heap.size (.slice A 0 c) [] ∧ Kp No w w') := by
  subst hj
  obtain ⟨i, hi, hzz⟩ := Option.map_eq_some_iff.1 hinfo
  simp only [Prod.mk.injEq] at hzz
  obtain ⟨w', r, r1, r2⟩ := run_make_own (P := Tryz.prog) w w.heap.size TS T i zShr 3 hu hi hzz.1 hzz.2.1 kk k2 c (by rw [hzz.2.2]; omega) (by unfold maxLen; omega) (Nat.le_refl _)
  have hsw : Sw T low w' w.heap.size (.slice (some ⟨w.heap.size, 0, none⟩) 0 c) [] := ⟨r1, fun _ h => (by cases h), fun _ h => (by cases h)⟩
  have hkp : Kp No w w' := (Kp.refl No w).grown r2 (fun k hk => by cases hk)
  intro a ha K Q hK
  unfold Oper.wp execOp
  simp only [ha.eval hx, ha.eval hy, Sem.run_bind, r, Result.andThen_ok, Sem.run_pure]
  exact hK _ _ ⟨_, rfl, hsw, hkp⟩
/-- append of parts that lie somewhere, onto a slice of the call's own. -/
theorem lo_apps (hu : Tryz.prog.underlying TS = some (.slice T)) (hinfo : (Tryz.prog.info? T).map (fun i => (i.zero, i.size, i.bytes)) = some (some zShr, 3, 32)) (h : Sw T low w base (.slice A k c) L) (hk : L.length = k) (hx : lk l x = some (.slice A k c)) (hy : lk l y = some (.slice B k' c')) (hk' : M.length = k')
    (hB : Ss w B M) (hd : ∀ s ∈ M, ∀ x, s.A = some x → low ≤ x.block ∧ x.block < w.heap.size ∧ (Value.slice A k c).ownBlock ≠ some x.block) (hp : 0 < M.length) (hlen : L.length + M.length ≤ 1000000) (hbase : base ≤ w.heap.size) :
    Lo Tryz.prog ⟨d?, .call ⟨.builtin .append, #[x, y], #[TS, TS]⟩, ty, pos, af, g?⟩ n l w (fun v w' => ∃ A' c', v = .slice A' (L ++ M).length c' ∧ Aps T low w base (L ++ M) A' c' w') := by
  obtain ⟨b, o2, rfl, hc⟩ := hB.cell (List.length_pos_iff.1 hp)
  subst hk hk'
  obtain ⟨i, hi, hzz⟩ := Option.map_eq_some_iff.1 hinfo
  simp only [Prod.mk.injEq] at hzz
  obtain ⟨v', w', r, r1, r2, _, r4⟩ := run_append_own_at (P := Tryz.prog) w base TS ty T i zShr 3 32 hu hi hzz.1 hzz.2.1 hzz.2.2 rfl (by decide) (.slice A L.length c) L.length (shsC L) h.own ⟨b, o2, none⟩ M.length c' (shsC M) (shsC_length M)
    (fun j u hu => by rw [add_at]; exact hc j u hu) (shsC_one M) (by unfold maxLen; omega) (by omega) hbase
  have hkp : Kp (fun i => (Value.slice A L.length c).ownBlock = some i) w w' := (Kp.refl _ w).grown r2 (fun b hb => .inl hb)
  have hall : ∀ s ∈ L ++ M, s.ok w ∧ ∀ x, s.A = some x → low ≤ x.block ∧ x.block < w.heap.size ∧ (Value.slice A L.length c).ownBlock ≠ some x.block := fun s hs => (List.mem_append.1 hs).elim (fun h1 => ⟨h.ok s h1, h.dat s h1⟩) (fun h1 => ⟨hB.ok s h1, hd s h1⟩)
  obtain ⟨A', c2, rfl⟩ : ∃ A' c2, v' = .slice A' (L ++ M).length c2 := by
    rcases r1.2 with ⟨_, e⟩ | ⟨g, cap, cur, e, _⟩
    · omega
    · exact ⟨_, _, by rw [e, List.length_append]⟩
  refine lo_run (v := .slice A' (L ++ M).length c2) (w' := w') (fun a ha => ?_) ⟨A', c2, rfl, ⟨by rw [shsC_append]; rw [List.length_append] at r1 ⊢; exact r1, fun s hs => (hall s hs).1.kept hkp (fun _ x hx => ((hall s hs).2 x hx).2.2), fun s hs x hx => ?_⟩, hkp.mono (fun i hi => (h.lt i hi).1)⟩
  · unfold execOp
    simp only [resolve, invoke, builtin, Sem.run_bind, Sem.run_pure, Result.andThen_ok, List.map_toArray, List.map_cons, List.map_nil, ha.eval hx, ha.eval hy, r]
  · have h1 := (hall s hs).2 x hx
    refine ⟨h1.1, Nat.lt_of_lt_of_le h1.2.1 hkp.size, ?_⟩
    rcases r4 with e | e
    · rw [e]; exact h1.2.2
    · rw [e]; intro e2; have := Option.some.inj e2; omega
end
theorem Ss.one {w : World} {p : Nat} {s : Shr} {t : TypeId} (h : Bk w p (shC s) t) (hs : s.ok w) : Ss w (some ⟨p, 0, none⟩) [s] :=
  ⟨fun u hu => by rw [List.mem_singleton.1 hu]; exact hs, fun _ => ⟨p, 0, rfl, fun j u hu => by rw [Nat.zero_add]; exact h.cell (by simpa [shsC] using hu)⟩⟩
end Go.Proofs.YtlkbkgghfhoggaaGreatDoor
