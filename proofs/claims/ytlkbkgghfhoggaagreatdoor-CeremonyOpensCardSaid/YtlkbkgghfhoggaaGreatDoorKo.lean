/- Rings of keys, term by term. -/
import Derived.Test.YtlkbkgghfhoggaaGreatDoorLp
import Derived.Test.YtlkbkgghfhoggaaGreatDoorSb
import Derived.Test.YtlkbkgghfhoggaaGreatDoorKn
import Derived.Test.YtlkbkgghfhoggaaGreatDoorFr
import Derived.Test.YtlkbkgghfhoggaaGreatDoorCl
section
set_option linter.unusedVariables false
set_option linter.unusedSimpArgs false
namespace Go.Proofs.YtlkbkgghfhoggaaGreatDoor
open Go.RowKit Gm
section
variable {P : Program} {l : List (Nat × Value)} {w : World} {x y : Operand} {t t' : TypeId}
end
end Go.Proofs.YtlkbkgghfhoggaaGreatDoor
end
section
set_option linter.unusedVariables false
set_option linter.unusedSimpArgs false
namespace Go.Proofs.YtlkbkgghfhoggaaGreatDoor
open Go.RowKit Gm
abbrev Tm := Nat × List Nat
def tmC (t : Tm) : List Value := .int .u32 (t.1 : Int) :: u8s t.2
def okT (t : Tm) : Prop := t.1 < 4294967296 ∧ By 32 t.2
theorem tm_len {t : Tm} (h : By 32 t.2) : (tmC t).length = 33 := by simp [tmC, u8s_length, h.1]
theorem tm_one (t : Tm) : ∀ u ∈ tmC t, u.oneCell' = true := fun u hu => by
  rcases List.mem_cons.1 hu with rfl | h
  · rfl
  · exact u8s_each _ u h
theorem Bs.ofTm {w : World} {p t' : Nat} {t : Tm} (h : Bk w p (tmC t) t') (b : By 32 t.2) : Bs w (some ⟨p, 1, none⟩) t.2 :=
  ⟨b.2, fun _ => ⟨p, 1, rfl, fun i v hi => h.cell (by rw [Nat.add_comm]; simpa [tmC] using u8s_get hi)⟩⟩
def zTm : Value := .agg (tmC (0, List.replicate 32 0)).toArray
theorem okT_mk {n : Nat} {X : List Nat} (hn : n < 4294967296) (hX : By 32 X) : okT (n, X) := ⟨hn, hX⟩
theorem Rs.oneT {w : World} {p t' : Nat} {t : Tm} (h : Bk w p (tmC t) t') (b : By 32 t.2) : Rs tmC 33 w (some ⟨p, 0, none⟩) [t] := Rs.one h (tm_len b)
theorem one_all {t : Tm} : ∀ s ∈ [t], ∀ u ∈ tmC s, u.oneCell' = true := fun s _ u hu => tm_one s u hu
section
variable {P : Program} {l : List (Nat × Value)} {w : World} {x y : Operand} {t e : TypeId} {k : IntKind} {A : Option Addr}
end
section
variable {n : Nat} {l : List (Nat × Value)} {w : World} {d? : Option Tmp} {ty : TypeId} {pos : String} {af : Array Edge} {g? : Option (Nat × Bool)} {x y : Operand} {A B : Option Addr} {X Y : List Nat} {c' k k' : Nat}
/-- append onto a slice without room that is read only. -/
theorem lo_appFull (hA : Bs w A X) (hk : X.length = k) (h0 : 0 < X.length) (hx : lk l x = some (.slice A k k)) (hy : lk l y = some (.slice B k' c')) (hk' : Y.length = k') (hB : Bs w B Y) (hp : 0 < Y.length) (hlen : X.length + Y.length ≤ 70368744177664) :
    Lo Tryz.prog ⟨d?, .call ⟨.builtin .append, #[x, y], #[22, 22]⟩, ty, pos, af, g?⟩ n l w (fun v w' => ∃ A' c', v = .slice A' (X ++ Y).length c' ∧ Ob w' w.heap.size (.slice A' (X ++ Y).length c') (X ++ Y) ∧ Kp No w w') := by
  obtain ⟨b1, o1, rfl, h1⟩ := hA.cell (List.length_pos_iff.1 h0)
  obtain ⟨b2, o2, rfl, h2⟩ := hB.cell (List.length_pos_iff.1 hp)
  subst hk hk'
  obtain ⟨i, hi, hzz⟩ := Option.map_eq_some_iff.1 u8_info
  simp only [Prod.mk.injEq] at hzz
  obtain ⟨hz0, hz1, hz2⟩ := hzz
  have cells : ∀ {b o : Nat} {Z : List Nat}, (∀ (i n : Nat), Z[i]? = some n → w.cell? ⟨b, o + i, none⟩ = some (.int .u8 (n : Int))) → ∀ j v, (u8s Z)[j]? = some v → w.cell? ((⟨b, o, none⟩ : Addr).add j) = some v := fun h j v hv => by
    simp only [u8s, List.getElem?_map, Option.map_eq_some_iff] at hv
    obtain ⟨q, hq, rfl⟩ := hv
    rw [add_at]; exact h j q hq
  have r := run_append_grow (P := Tryz.prog) w 22 ty 5 i (.int .u8 0) u8_under hi hz0 ⟨b1, o1, none⟩ X.length X.length (u8s X) (by rw [hz1, u8s_length]; omega) (cells h1) ⟨b2, o2, none⟩ Y.length c' (u8s Y) (by rw [hz1, u8s_length]; omega) (cells h2) (by omega) (by omega) (by rw [hz2]; exact growslice_fits (by omega) (by omega))
  have hG := grownCap_ge w (X.length + Y.length) X.length 5
  have hG2 := grownCap_le_maxLen w (X.length + Y.length) X.length 5 (by unfold maxLen; omega)
  generalize grownCap w (X.length + Y.length) X.length 5 = G at r hG hG2
  have ec : ((u8s X).toArray ++ (u8s Y).toArray ++ Builtin.zeroCells (Value.int .u8 0).cells (G - (X.length + Y.length))) = (u8s ((X ++ Y) ++ List.replicate (G - (X.length + Y.length)) 0)).toArray := by
    rw [show (Value.int .u8 0).cells = #[.int .u8 0] from rfl, zeros_one, u8s_append, u8s_append, u8s_rep]; simp
  rw [ec] at r
  have N := New.alloc w.drew (u8s ((X ++ Y) ++ List.replicate (G - (X.length + Y.length)) 0)) 5
  have hb : ∀ n ∈ (X ++ Y) ++ List.replicate (G - (X.length + Y.length)) 0, n < 256 := fun n hn => by
    rcases List.mem_append.1 hn with h | h
    · exact (List.mem_append.1 h).elim (hA.byte n) (hB.byte n)
    · rw [(List.mem_replicate.1 h).2]; decide
  have O := Ob.of_block (base := w.heap.size) (cap := G) (k := X.length + Y.length) N.bk N.le (by simp; omega) hG2 hb hG
  rw [List.take_left' (by rw [List.length_append])] at O
  refine lo_run (v := .slice (some ⟨w.heap.size, 0, none⟩) (X ++ Y).length G) (w' := w.drew.alloc (.cells (u8s ((X ++ Y) ++ List.replicate (G - (X.length + Y.length)) 0)).toArray 5)) (fun a ha => ?_) ⟨_, G, rfl, O, (Kp.refl No w).drew.then_ N.kp⟩
  unfold execOp
  simp only [resolve, invoke, builtin, Sem.run_bind, Sem.run_pure, Result.andThen_ok, List.map_toArray, List.map_cons, List.map_nil, ha.eval hx, ha.eval hy, r, List.length_append]
end
/-! ### rings -/
def mayR (L : List Tm) : Prop := 1 ≤ L.length ∧ L.length ≤ 16 ∧ ∀ i t, L[i]? = some t → t.1 = i + 1
def keysR (L : List Tm) : List Nat := L.flatMap fun t => t.2
def encR (L : List Tm) : List Nat := [107, 114, L.length % 256] ++ keysR L
theorem keys_step {L : List Tm} {i : Nat} {t : Tm} (h : L[i]? = some t) : keysR (L.take i) ++ t.2 = keysR (L.take (i + 1)) := by
  unfold keysR; rw [List.take_add_one, h, List.flatMap_append]; simp
theorem keys_len {L : List Tm} (h : ∀ t ∈ L, okT t) : (keysR L).length = 32 * L.length := by
  unfold keysR
  induction L with
  | nil => rfl
  | cons t L ih => rw [List.flatMap_cons, List.length_append, ih (fun s hs => h s (List.mem_cons_of_mem _ hs)), (h t (List.mem_cons_self ..)).2.1, List.length_cons]; omega
theorem keys_take {L : List Tm} (h : ∀ t ∈ L, okT t) (hl : L.length ≤ 16) (i : Nat) : (keysR (L.take i)).length ≤ 512 := by
  rw [keys_len (fun t ht => h t (List.mem_of_mem_take ht)), List.length_take]; omega
/-- The pieces js of b, as terms. -/
def termsJ (b : List Nat) (js : List Nat) : List Tm := js.zipIdx.map fun p => (p.2 + 1, chX2 (b.drop 3) p.1)
theorem termsJ_snoc (b : List Nat) (js : List Nat) (j : Nat) : termsJ b (js ++ [j]) = termsJ b js ++ [(js.length + 1, chX2 (b.drop 3) j)] := by
  unfold termsJ; rw [List.zipIdx_append, List.map_append]; simp
theorem termsJ_length (b : List Nat) (js : List Nat) : (termsJ b js).length = js.length := by unfold termsJ; rw [List.length_map, List.length_zipIdx]
/-- What is right ahead of the terms' check. -/
def frameD (b : List Nat) : Prop := 3 ≤ b.length ∧ b.take 2 = [107, 114] ∧ b.length = 3 + 32 * b.getD 2 0
def decR (b : List Nat) : List Tm := termsJ b (List.range (b.getD 2 0))
def mayD (b : List Nat) : Prop := frameD b ∧ 1 ≤ b.getD 2 0 ∧ b.getD 2 0 ≤ 16
theorem nCh2_of {b : List Nat} (h : frameD b) : nCh2 (b.drop 3) = b.getD 2 0 := by
  unfold nCh2; rw [List.length_drop, h.2.2]; omega
theorem chX2_of {b : List Nat} (h : frameD b) {j : Nat} (hj : j < b.getD 2 0) : (chX2 (b.drop 3) j).length = 32 := by
  rw [chX2_length]; unfold chN2; rw [List.length_drop, h.2.2]; omega
theorem decR_get {b : List Nat} {i : Nat} {t : Tm} (h : (decR b)[i]? = some t) : i < b.getD 2 0 ∧ t = (i + 1, chX2 (b.drop 3) i) := by
  unfold decR termsJ at h
  rw [List.getElem?_map, Option.map_eq_some_iff] at h
  obtain ⟨p, hp, rfl⟩ := h
  rw [List.getElem?_zipIdx, Option.map_eq_some_iff] at hp
  obtain ⟨a, ha, rfl⟩ := hp
  obtain ⟨h1, h2⟩ := List.getElem?_eq_some_iff.1 ha
  rw [List.length_range] at h1
  rw [List.getElem_range] at h2
  subst h2
  exact ⟨h1, by rw [Nat.zero_add]⟩
theorem decR_len (b : List Nat) : (decR b).length = b.getD 2 0 := by unfold decR; rw [termsJ_length, List.length_range]
theorem decR_may {b : List Nat} (h : frameD b) : mayR (decR b) ↔ 1 ≤ b.getD 2 0 ∧ b.getD 2 0 ≤ 16 := by
  unfold mayR
  rw [decR_len]
  exact ⟨fun h => ⟨h.1, h.2.1⟩, fun h => ⟨h.1, h.2, fun i t e => by rw [(decR_get e).2]⟩⟩
theorem len_frame {b : List Nat} (h : frameD b) (hb : ∀ n ∈ b, n < 256) : b.length ≤ 8163 := by
  have := getD_lt hb 2
  rw [h.2.2]; omega
theorem chX2_by {b : List Nat} (h : frameD b) (hb : ∀ n ∈ b, n < 256) {j : Nat} (hj : 32 * j < (b.drop 3).length) : By 32 (chX2 (b.drop 3) j) :=
  ⟨chX2_of h (by rw [List.length_drop, h.2.2] at hj; omega), fun n hn => hb n (List.mem_of_mem_drop (List.mem_of_mem_drop (List.mem_of_mem_take hn)))⟩
theorem decR_ok {b : List Nat} (h : frameD b) (hb : ∀ n ∈ b, n < 256) : ∀ t ∈ decR b, okT t := fun t ht => by
  obtain ⟨i, hi, e⟩ := List.mem_iff_getElem.1 ht
  obtain ⟨h1, h2⟩ := decR_get (b := b) (i := i) (t := t) (by rw [← e]; exact List.getElem?_eq_getElem hi)
  have h3 := getD_lt hb 2
  rw [h2]
  exact ⟨by show i + 1 < _; omega, chX2_by h hb (by rw [List.length_drop, h.2.2]; omega)⟩
theorem termsJ_more (b : List Nat) (js : List Nat) (j : Nat) : termsJ b (js ++ [j]) = termsJ b js ++ [((termsJ b js).length + 1, chX2 (b.drop 3) j)] := by rw [termsJ_snoc, termsJ_length]
end Go.Proofs.YtlkbkgghfhoggaaGreatDoor
end
