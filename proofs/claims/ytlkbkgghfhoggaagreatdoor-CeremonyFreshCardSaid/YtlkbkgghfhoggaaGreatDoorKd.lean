/- What sums are made with: a block of the heap that holds words, what is left over, and how much was written. -/
import Derived.Test.YtlkbkgghfhoggaaGreatDoorKc
import Derived.Test.YtlkbkgghfhoggaaGreatDoorCk
set_option linter.unusedVariables false
set_option linter.unusedSimpArgs false
namespace Go.Proofs.YtlkbkgghfhoggaaGreatDoor
open Go.RowKit Gm
/-! ### own slices beside blocks of another type -/
def obk (A : Option Addr) : Option Nat := (Value.slice A 0 0).ownBlock
theorem ownB {A : Option Addr} {n c : Nat} : (Value.slice A n c).ownBlock = obk A := by cases A <;> rfl
theorem Ob.neT {w : World} {base k c p : Nat} {A : Option Addr} {X : List Nat} {L : List Value} {t : TypeId} (h : Ob w base (.slice A k c) X) (hb : Bk w p L t) (ht : (t == 5) = false) : ∀ b, (Value.slice A k c).ownBlock = some b → b ≠ p := fun b e1 e2 => by
  subst e2
  rcases h.own.2 with ⟨e, _⟩ | ⟨g, cap, cur, e, _, hh, _⟩
  · rw [e] at e1; cases e1
  · rw [e] at e1; cases e1
    have := hb
    unfold Bk at this
    rw [hh] at this
    injection this with this
    injection this with _ h2 _
    rw [h2] at ht; simp at ht
theorem Ob.onE {w w' : World} {base q : Nat} {v : Value} {X : List Nat} (h : Ob w base v X) (k : Kp (On q) w w') (hn : ∀ b, v.ownBlock = some b → b ≠ q) : Ob w' base v X := h.kept k hn
theorem Ob.cut0 {w : World} {base k c : Nat} {A : Option Addr} {X : List Nat} (h : Ob w base (.slice A k c) X) : Ob w base (.slice A 0 c) [] := by
  rcases h.own.2 with ⟨e, hn⟩ | ⟨g, cap, cur, e, hb, hh, hn, hcm, hcs, ht⟩
  · injection e with e1 e2 e3; subst e1 e3; exact Ob.nil w base
  · injection e with e1 e2 e3; subst e1 e3
    exact ⟨⟨rfl, .inr ⟨g, _, cur, rfl, hb, hh, Nat.zero_le _, hcm, hcs, rfl⟩⟩, fun _ h => by cases h⟩
theorem Apn.hin {w w' : World} {base k c c' N : Nat} {A A' : Option Addr} {X : List Nat} {R : Nat → Prop} (h : Apn w base (.slice A k c) X A' c' w') (hq : ∀ i, obk A = some i → R i ∨ N ≤ i) (hN : N ≤ w.heap.size) : ∀ i, obk A' = some i → R i ∨ N ≤ i := fun i hi => by
  rcases h.own with e | e
  · rw [ownB, ownB] at e; exact hq i (e ▸ hi)
  · rw [ownB] at e; rw [e] at hi; cases hi; exact .inr hN
/-! ### the block -/
def hL (H : List Nat) (v : Value) (n : Nat) : List Value := u32s H ++ [v, .int .u64 (n : Int)]
theorem hL_8 {H : List Nat} {v : Value} {n : Nat} (h : H.length = 8) : (hL H v n)[8]? = some v := by unfold hL; rw [List.getElem?_append_right (by rw [u32s_length, h]; decide), u32s_length, h]; rfl
theorem hL_9 {H : List Nat} {v : Value} {n : Nat} (h : H.length = 8) : (hL H v n)[9]? = some (.int .u64 (n : Int)) := by unfold hL; rw [List.getElem?_append_right (by rw [u32s_length, h]; decide), u32s_length, h]; rfl
theorem hL_row {H : List Nat} {v : Value} {n : Nat} (h : H.length = 8) : ((hL H v n).drop 0).take 8 = u32s H := by unfold hL; rw [List.drop_zero]; exact List.take_left' (by rw [u32s_length, h])
theorem hL_len {H : List Nat} {v : Value} {n : Nat} (h : H.length = 8) : (hL H v n).length = 10 := by unfold hL; rw [List.length_append, u32s_length, h]; rfl
theorem hL_set8 {H : List Nat} {v u : Value} {n : Nat} (h : H.length = 8) : (hL H v n).set 8 u = hL H u n := by unfold hL; rw [List.set_append_right _ _ (by rw [u32s_length, h]; decide), u32s_length, h]; rfl
theorem hL_set9 {H : List Nat} {v : Value} {n m : Nat} (h : H.length = 8) : (hL H v n).set 9 (.int .u64 (m : Int)) = hL H v m := by unfold hL; rw [List.set_append_right _ _ (by rw [u32s_length, h]; decide), u32s_length, h]; rfl
theorem hL_put {H H' : List Nat} {v : Value} {n : Nat} (h : H.length = 8) (h' : H'.length = 8) : (hL H v n).take 0 ++ u32s H' ++ (hL H v n).drop (0 + (u32s H').length) = hL H' v n := by
  unfold hL; rw [List.take_zero, List.nil_append, u32s_length, h', Nat.zero_add, List.drop_left' (by rw [u32s_length, h])]
set_option maxRecDepth 100000 in
theorem h_builtS {A : Option Addr} {k c n : Nat} : ∀ {H : List Nat}, H.length = 8 → (Tryz.prog.built 206 [(0, .agg (u32s H).toArray), (1, .slice A k c), (2, .int .u64 (n : Int))]).map Array.toList = some (hL H (.slice A k c) n)
  | [a0, a1, a2, a3, a4, a5, a6, a7], _ => by kernel_rfl
/-- The blocks of one. -/
def Hf (p : Nat) (A : Option Addr) (i : Nat) : Prop := i = p ∨ obk A = some i
/-- At p lies one into which M was written. -/
structure Hs (w : World) (p : Nat) (A : Option Addr) (c : Nat) (M : List Nat) : Prop where
  bk : Bk w p (hL (HB M) (.slice A (RB M).length c) M.length) 206
  ob : Ob w 0 (.slice A (RB M).length c) (RB M)
section
variable {w w' : World} {p c : Nat} {A : Option Addr} {M : List Nat} {S : Nat → Prop}
theorem Hs.kept (h : Hs w p A c M) (k : Kp S w w') (hn : ∀ i, Hf p A i → ¬ S i) : Hs w' p A c M := ⟨h.bk.kept k (hn p (.inl rfl)), h.ob.kept k (fun b hb => hn b (.inr (by rwa [ownB] at hb)))⟩
theorem Hs.keptNo (h : Hs w p A c M) (k : Kp No w w') : Hs w' p A c M := h.kept k (fun _ _ f => f)
theorem Hs.top (h : Hs w p A c M) : ∀ i, Hf p A i → i < w.heap.size := fun i hi => by
  rcases hi with rfl | hi
  · exact h.bk.lt
  · exact (h.ob.lt i (by rw [ownB]; exact hi)).2
theorem Hs.onN {w0 : World} {q : Nat} (h : Hs w p A c M) (k : Kp (On q) w w') (h0 : Hs w0 p A c M) (hq : w0.heap.size ≤ q) : Hs w' p A c M := h.kept k (fun i hi e => by have := h0.top i hi; have : i = q := e; omega)
theorem Hs.of {H X M : List Nat} {n : Nat} (hb : Bk w p (hL H (.slice A X.length c) n) 206) (ho : Ob w 0 (.slice A X.length c) X) (h1 : H = HB M) (h2 : X = RB M) (h3 : n = M.length) : Hs w p A c M := by
  subst h1 h2 h3; exact ⟨hb, ho⟩
end
theorem Hf.new {p N : Nat} {Ar A : Option Addr} (h : ∀ i, obk A = some i → Hf p Ar i ∨ N ≤ i) : ∀ i, Hf p A i → Hf p Ar i ∨ N ≤ i := fun i hi => hi.elim (fun e => .inl (.inl e)) (h i)
/-- How many bytes fill up what is left over. -/
def nW (M l : List Nat) : Nat := min (64 - (RB M).length) l.length
theorem nW_le (M l : List Nat) : nW M l ≤ l.length ∧ nW M l ≤ 64 - (RB M).length ∧ (nW M l = l.length ∨ nW M l = 64 - (RB M).length) := by unfold nW; omega
theorem rb_nil {M : List Nat} (h : M.length % 64 = 0) : RB M = [] := List.eq_nil_of_length_eq_zero (by rw [RB_len]; exact h)
theorem mod_full {M B : List Nat} (h : (RB M).length + B.length = 64) : (M ++ B).length % 64 = 0 := by rw [RB_len] at h; rw [List.length_append]; omega
theorem w_small {M l : List Nat} (h : (RB M ++ l.take (nW M l)).length < 64) : HB M = HB (M ++ l) ∧ RB M ++ l.take (nW M l) = RB (M ++ l) := by
  have h1 := nW_le M l
  have h2 := RB_len M
  rw [List.length_append, List.length_take] at h
  have e : l.take (nW M l) = l := List.take_of_length_le (by omega)
  rw [e]
  have := hb_small (M := M) (B := l) (by omega)
  exact ⟨this.1.symm, this.2.symm⟩
theorem w_full {M l : List Nat} (h : ¬ (RB M ++ l.take (nW M l)).length < 64) : mixB (HB M) (RB M ++ l.take (nW M l)) = HB (M ++ l.take (nW M l)) ∧ (M ++ l.take (nW M l)).length % 64 = 0 ∧ (RB M ++ l.take (nW M l)).length = 64 ∧ (M ++ l.take (nW M l)) ++ l.drop (nW M l) = M ++ l := by
  have h1 := nW_le M l
  have h2 := RB_len M
  rw [List.length_append, List.length_take] at h
  have hl : (l.take (nW M l)).length = nW M l := by rw [List.length_take]; omega
  have hs : (RB M).length + (l.take (nW M l)).length = 64 := by omega
  exact ⟨(hb_full hs (by omega)).1.symm, mod_full hs, by rw [List.length_append]; exact hs, by rw [List.append_assoc, List.take_append_drop]⟩
theorem w_round {M b : List Nat} (hm : M.length % 64 = 0) (hb : 64 ≤ b.length) : mixB (HB M) (b.take 64) = HB (M ++ b.take 64) := by
  have h0 := rb_nil hm
  have hl : (b.take 64).length = 64 := by rw [List.length_take]; omega
  have := (hb_full (M := M) (B := b.take 64) (by rw [h0, hl]; rfl) (by omega)).1
  rw [h0, List.nil_append] at this
  exact this.symm
theorem w_end {M b N : List Nat} (e : M ++ b = N) (hm : M.length % 64 = 0) (hb : b.length < 64) : HB M = HB N ∧ [] ++ b = RB N := by
  have h0 := rb_nil hm
  have := hb_small (M := M) (B := b) (by rw [h0]; simpa using hb)
  rw [h0] at this
  subst e
  exact ⟨this.1.symm, this.2.symm⟩
theorem Hf.low {w : World} {q base k c N : Nat} {A : Option Addr} {X : List Nat} (hq : N ≤ q) (ho : Ob w base (.slice A k c) X) (hb : N ≤ base) : ∀ i, Hf q A i → N ≤ i := fun i hi => by
  rcases hi with rfl | hi
  · exact hq
  · exact Nat.le_trans hb (ho.lt i (by rw [ownB]; exact hi)).1
theorem Hs.aw {w : World} {p c d : Nat} {A : Option Addr} {M X : List Nat} (h : Hs w p A c M) (hd : w.heap.size ≤ d) : Aw (Hf p A) (some ⟨d, 0, none⟩) X := fun _ x hx hs => by
  cases hx
  have : d < w.heap.size := h.top _ hs
  omega
theorem Ob.as {w : World} {base k k' c : Nat} {A : Option Addr} {X Y : List Nat} (h : Ob w base (.slice A k c) X) (e : X = Y) (hk : Y.length = k') : Ob w base (.slice A k' c) Y := by
  have := h.le.1
  subst e
  rw [← hk, this]; exact h
theorem wbyU (H : List Nat) (k : Nat) : By 32 (upto (wby H) (fun _ => 0) k 32) := upto_by (fun _ _ => Nat.mod_lt _ (by decide)) (fun _ _ => by decide)
/-- A pure operation that is met when it comes up. -/
theorem Nz_pu {P : Program} {Q : Exit → Act → World → Prop} {S : World → Prop} {n fuel z i d : Nat} {ls : Array Bool} {l : List (Nat × Value)} {w : World} {ops : Array Oper} {op : Op} {v : Value} {ty : TypeId} {pos : String} {af : Array Edge}
    (hi : ops[i]? = some ⟨some d, op, ty, pos, af, none⟩) (h : Pu P op l w v) (hd : Nat.blt d n = true) (k : S w ∧ Zd P ops Q S z fuel (ls.setIfInBounds i true) n ((d, v) :: l) w) : Nz P ops Q S z fuel ls n l w i :=
  Nz_lo hi (Φ := fun u w' => u = v ∧ w' = w) (fun a ha K Q hK => by unfold Oper.wp; rw [h n a ha]; exact hK _ _ ⟨rfl, rfl⟩) hd (fun u w' hu => by rw [hu.1, hu.2]; exact k)
theorem pad_z (z : Nat) : (128 :: List.replicate z 0) ++ [0] = 128 :: List.replicate (z + 1) 0 := by rw [List.replicate_succ', List.cons_append]
theorem pad_end {n z i : Nat} (hz : z = (119 - n % 64) % 64) (hi : i = 8) : (128 :: List.replicate z 0) ++ (be8 (8 * n)).take i = padL n := by
  subst hz hi; unfold padL; rw [List.take_of_length_le (by rw [be8_len]; decide)]
end Go.Proofs.YtlkbkgghfhoggaaGreatDoor
