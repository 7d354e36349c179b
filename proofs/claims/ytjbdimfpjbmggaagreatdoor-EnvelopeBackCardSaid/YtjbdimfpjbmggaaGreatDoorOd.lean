/- Slices of bytes that lie at a place or behind it, and are read; bytes of strings. -/
import Derived.Test.YtjbdimfpjbmggaaGreatDoorFt
import Derived.Laws.IdiomStrings
set_option linter.unusedVariables false
set_option linter.unusedSimpArgs false
namespace Go.Proofs.YtjbdimfpjbmggaaGreatDoor
open Go.RowKit
/-- A slice of bytes that lies at base or behind. -/
structure Od (w : World) (base : Nat) (v : Value) (X : List Nat) : Prop where
  rd : ∃ A c, v = .slice A X.length c ∧ Bs w A X ∧ X.length ≤ c ∧ ∀ x, A = some x → base ≤ x.block ∧ x.block < w.heap.size
section
variable {w w' w0 : World} {base p : Nat} {v : Value} {X : List Nat} {S : Nat → Prop}
theorem Od.draw (h : Od w base v X) : Od w.drew base v X := by
  obtain ⟨A, c, rfl, h2, h3, h4⟩ := h.rd
  exact ⟨A, c, rfl, h2.drew, h3, h4⟩
theorem Od.lt (h : Od w base v X) : ∀ b, v.ownBlock = some b → base ≤ b ∧ b < w.heap.size := fun b hb => by
  obtain ⟨A, c, rfl, _, _, h4⟩ := h.rd
  cases A with
  | none => cases hb
  | some a => exact (Option.some.inj hb) ▸ h4 a rfl
theorem Od.kept (h : Od w base v X) (k : Kp S w w') (hn : ∀ b, v.ownBlock = some b → ¬ S b) : Od w' base v X := by
  obtain ⟨A, c, rfl, h2, h3, h4⟩ := h.rd
  exact ⟨A, c, rfl, h2.keptS k (fun _ x hx => hn x.block (by rw [hx]; rfl)), h3, fun x hx => ⟨(h4 x hx).1, Nat.lt_of_lt_of_le (h4 x hx).2 k.size⟩⟩
theorem Od.keptNo (h : Od w base v X) (k : Kp No w w') : Od w' base v X := h.kept k (fun _ _ f => f)
theorem Od.on (h : Od w base v X) (k : Kp (On p) w w') (hp : p < base) : Od w' base v X := h.kept k (fun b hb hc => by have := (h.lt b hb).1; have : b = p := hc; omega)
theorem Od.onN (h : Od w base v X) (k : Kp (On p) w w') (h0 : Od w0 base v X) (hp : w0.heap.size ≤ p) : Od w' base v X := h.kept k (fun b hb hc => by have := (h0.lt b hb).2; have : b = p := hc; omega)
theorem Od.top (h : Od w base v X) : ∀ b, v.ownBlock = some b → b < w.heap.size := fun b hb => (h.lt b hb).2
theorem Od.past {b2 : Nat} (h : Od w base v X) (hl : ∀ b, v.ownBlock = some b → b < b2) (k : Kp (fun i => b2 ≤ i) w w') : Od w' base v X := h.kept k (fun b hb hc => by have := hl b hb; have hc' : b2 ≤ b := hc; omega)
theorem Od.onT {lim : Nat} (h : Od w base v X) (k : Kp (On p) w w') (hl : ∀ b, v.ownBlock = some b → b < lim) (hp : lim ≤ p) : Od w' base v X := h.kept k (fun b hb hc => by have := hl b hb; have : b = p := hc; omega)
theorem Ob.onT {lim : Nat} (h : Ob w base v X) (k : Kp (On p) w w') (hl : ∀ b, v.ownBlock = some b → b < lim) (hp : lim ≤ p) : Ob w' base v X := h.kept k (fun b hb hc => by have := hl b hb; have : b = p := hc; omega)
theorem Od.bs {A : Option Addr} {n c : Nat} (h : Od w base (.slice A n c) X) : Bs w A X := by
  obtain ⟨A', c', e, h2, _⟩ := h.rd
  injection e with e1 e2 e3; rw [e1]; exact h2
theorem Od.le {A : Option Addr} {n c : Nat} (h : Od w base (.slice A n c) X) : X.length = n ∧ X.length ≤ c := by
  obtain ⟨A', c', e, _, h3, _⟩ := h.rd
  injection e with e1 e2 e3; exact ⟨e2.symm, by rw [e3]; exact h3⟩
end
theorem Od.aw {w : World} {base n c p : Nat} {A : Option Addr} {X : List Nat} (h : Od w base (.slice A n c) X) (hp : p < base) : Aw (On p) A X := fun _ x hx hc => by
  have := (h.lt x.block (by rw [hx]; rfl)).1
  have : x.block = p := hc
  omega
theorem Od.awN {w0 : World} {base p n c : Nat} {A : Option Addr} {X : List Nat} (h : Od w0 base (.slice A n c) X) (hp : w0.heap.size ≤ p) : Aw (On p) A X := fun _ x hx hc => by
  have := (h.lt x.block (by rw [hx]; rfl)).2
  have : x.block = p := hc
  omega
theorem Od.ofBs {w : World} {A : Option Addr} {X : List Nat} {c : Nat} (h : Bs w A X) (hx : X ≠ []) (hc : X.length ≤ c) : Od w 0 (.slice A X.length c) X := by
  refine ⟨A, c, rfl, h, hc, fun x e => ⟨Nat.zero_le _, ?_⟩⟩
  obtain ⟨b, o, rfl, hcell⟩ := h.cell hx
  cases e
  exact World.block_lt_of_cell? _ _ (hcell 0 _ (List.getElem?_eq_getElem (List.length_pos_iff.2 hx)))
theorem Od.ofBk {w : World} {p n t : Nat} {X : List Nat} (h : Bk w p (u8s X) t) (b : By n X) : Od w 0 (.slice (some ⟨p, 0, none⟩) X.length n) X :=
  ⟨_, _, rfl, Bs.ofBk h b, Nat.le_of_eq b.1, fun x e => by cases e; exact ⟨Nat.zero_le _, h.lt⟩⟩
theorem Ob.cap {w : World} {base n c : Nat} {A : Option Addr} {X : List Nat} (h : Ob w base (.slice A n c) X) : c ≤ maxLen := by
  rcases h.own.2 with ⟨e, _⟩ | ⟨g, cap, cur, e, _, _, _, hm, _⟩
  · injection e with e1 e2 e3; rw [e3]; exact Nat.zero_le _
  · injection e with e1 e2 e3; rw [e3]; exact hm
theorem Od.low {w : World} {base b2 : Nat} {v : Value} {X : List Nat} (h : Od w base v X) (hb : b2 ≤ base) : Od w b2 v X := by
  obtain ⟨A, c, rfl, h2, h3, h4⟩ := h.rd
  exact ⟨A, c, rfl, h2, h3, fun x hx => ⟨Nat.le_trans hb (h4 x hx).1, (h4 x hx).2⟩⟩
theorem Od.ofOb {w : World} {base n c c' : Nat} {A : Option Addr} {X : List Nat} (h : Ob w base (.slice A n c) X) (hc : X.length ≤ c') : Od w base (.slice A X.length c') X :=
  ⟨A, c', rfl, h.bs, hc, fun x hx => h.lt x.block (by rw [hx]; rfl)⟩
theorem bstr_size (U : List Nat) : (bstr U).size = U.length := by
  have := congrArg List.length (bstr_data U)
  rw [List.length_map] at this
  rw [← this]; rfl
section
variable {P : Program} {n : Nat} {l : List (Nat × Value)} {w : World} {d? : Option Tmp} {ty : TypeId} {pos : String} {af : Array Edge} {g? : Option (Nat × Bool)} {x : Operand} {s t e : TypeId}
theorem bytesRow_get {U : List Nat} (hU : ∀ n ∈ U, n < 256) (c : Nat) {i v : Nat} (h : U[i]? = some v) : (bytesRow (bstr U) c)[i]? = some (.int .u8 (v : Int)) := by
  have hi := (List.getElem?_eq_some_iff.1 h).1
  have hd : (bstr U).data.toList = U.map UInt8.ofNat := bstr_data U
  have hs : (bstr U).data.size = U.length := by rw [← Array.length_toList, hd, List.length_map]
  unfold bytesRow
  rw [Array.getElem?_append_left (by simpa [hs] using hi), Array.getElem?_map, ← Array.getElem?_toList, hd, List.getElem?_map, h]
  show some (Value.int .u8 (((UInt8.ofNat v).toNat : Nat) : Int)) = _
  rw [UInt8.toNat_ofNat_of_lt' (hU v (List.mem_of_getElem? h))]
/-- The bytes of a string, anew. -/
theorem lo_strbytes {U : List Nat} (hU : ∀ n ∈ U, n < 256) (hs : P.underlying s = some .string) (ht : P.underlying t = some (.slice e)) (he : P.underlying e = some (.int .u8)) (hx : lk l x = some (.string (bstr U))) :
    Lo P ⟨d?, .convert s t x, ty, pos, af, g?⟩ n l w (fun v w' => ∃ A c, v = .slice A U.length c ∧ Od w' w.heap.size (.slice A U.length c) U ∧ Kp No w w') := by
  have r := run_bytes_of_string w s t e (bstr U) hs ht he
  have hG := grownCap_ge w (bstr U).size 0 e
  rw [bstr_size] at r hG
  generalize grownCap w U.length 0 e = G at r hG
  have hb : ∀ O : Obj, (w.drew.alloc O).heap[w.heap.size]? = some O := fun O => by
    show (w.heap.push O)[w.heap.size]? = _
    simp
  have hz : ∀ O : Obj, w.heap.size < (w.drew.alloc O).heap.size := fun O => by
    show w.heap.size < (w.heap.push O).size
    simp
  have hc := fun i v => bytesRow_get hU G (i := i) (v := v)
  generalize bytesRow (bstr U) G = R at r hc
  refine lo_run (v := .slice (some ⟨w.heap.size, 0, none⟩) U.length G) (w' := w.drew.alloc (.cells R e (R.size, R.size + 1))) (fun a ha => ?_) ⟨some ⟨w.heap.size, 0, none⟩, G, rfl, ⟨_, _, rfl, ⟨hU, fun _ => ⟨w.heap.size, 0, rfl, fun i v hi => ?_⟩⟩, hG, fun x hx => ?_⟩, (Kp.refl No w).drew.alloc _⟩
  · unfold execOp
    simp only [ha.eval hx, Sem.run_bind, r, Result.andThen_ok, Sem.run_pure]
  · rw [Nat.zero_add]
    simp only [World.cell?, hb, hc i v hi]; rfl
  · cases hx
    exact ⟨Nat.le_refl _, hz _⟩
/-- A slice of bytes of its own type again: its block is marked, its cells stay. -/
theorem lo_mark {p m c : Nat} {X : List Nat} {t' : TypeId} (hB : Bk w p (u8s X) t') (hX : ∀ n ∈ X, n < 256) (ht : P.underlying t = some (.slice e)) (he : P.underlying e = some (.int .u8)) (hx : lk l x = some (.slice (some ⟨p, 0, none⟩) m c)) (hm : X.length = m) (hc : m ≤ c) :
    Lo P ⟨d?, .convert t t x, ty, pos, af, g?⟩ n l w (fun v w' => v = .slice (some ⟨p, 0, none⟩) m c ∧ Od w' 0 (.slice (some ⟨p, 0, none⟩) m c) X ∧ Kp (On p) w w') := by
  subst hm
  have hB' := hB
  unfold Bk at hB'
  have hsh : w.shape? p = some (t', X.length) := by unfold World.shape?; rw [hB']; simp [u8s]
  have hw : w.freeze ⟨p, X.length, none⟩ 1 = { w with heap := w.heap.modify p fun
      | .cells c elem (lo, hi) => .cells c elem (if lo == hi then (X.length, X.length + 1) else (min lo X.length, max hi (X.length + 1)))
      | o => o } := by unfold World.freeze; rw [if_neg (by decide)]; rfl
  have r : (convert t t (.slice (some ⟨p, 0, none⟩) X.length c)).run P w = .ok (.slice (some ⟨p, 0, none⟩) X.length c) (w.freeze ⟨p, X.length, none⟩ 1) := by
    simp [convert, run_underlying ht, run_underlying he, markStringish, hsh]
  have hk : (w.freeze ⟨p, X.length, none⟩ 1).heap[p]? = some (.cells (u8s X).toArray t' (X.length, X.length + 1)) := by
    rw [hw]; show (w.heap.modify p _)[p]? = _
    rw [Array.getElem?_modify, if_pos rfl, hB']; rfl
  have hkp : Kp (On p) w (w.freeze ⟨p, X.length, none⟩ 1) := by
    rw [hw]
    refine ⟨rfl, rfl, rfl, by simp, fun i _ hn => ?_⟩
    show (w.heap.modify p _)[i]? = _
    rw [Array.getElem?_modify, if_neg (fun e => hn e.symm)]
  refine lo_run (v := .slice (some ⟨p, 0, none⟩) X.length c) (w' := w.freeze ⟨p, X.length, none⟩ 1) (fun a ha => ?_) ⟨rfl, ⟨_, _, rfl, ⟨hX, fun _ => ⟨p, 0, rfl, fun i v hi => ?_⟩⟩, hc, fun x hx => ?_⟩, hkp⟩
  · unfold execOp
    simp only [ha.eval hx, Sem.run_bind, r, Result.andThen_ok, Sem.run_pure]
  · rw [Nat.zero_add]
    have hg : (u8s X).toArray[i]? = some (.int .u8 (v : Int)) := by simpa using u8s_get hi
    simp only [World.cell?, hk, hg]; rfl
  · cases hx
    exact ⟨Nat.zero_le _, Nat.lt_of_lt_of_le hB.lt hkp.size⟩
end
section
variable {P : Program} {l : List (Nat × Value)} {w : World} {n : Nat} {e : Exit} {fn : Func} {Φ : Value → World → Prop} {t u r p len : Nat} {ty t' : TypeId} {L : List Value} {v v' : Value}
theorem X_retCT (he : e = .ret ∨ e = .normal) (hf : fn.results = #[.cell t ty, .tmp u]) (hv : lkN l t = some (.pointer (some ⟨p, 0, none⟩))) (hB : Bk w p L t') (hr : isRowB P ty = true) (hs : sizeB P ty len = true) (hl : L.length = len) (hu : lkN l u = some v) (h : Φ (.tuple #[.agg L.toArray, v]) w) :
    Xw (bodyPost P fn (RetR Φ)) e n l w := X_end he _ (fun a ha => by
  obtain ⟨d, hd, hdd⟩ := rowB_desc hr
  have hi := sizeB_info hs
  have h1 : a.tmps[t]?.getD undef = .pointer (some ⟨p, 0, none⟩) := by have := ha.tmp hv; simpa using this
  have h2 : a.tmps[u]?.getD undef = v := by have := ha.tmp hu; simpa using this
  simp [results, hf, h1, h2, asAddr, run_loadVar_row w p t' ty L.toArray (0, 0) d hB hd (by cases d <;> simp_all) (by rw [hi, List.size_toArray, hl])]) h
theorem X_retTCT (he : e = .ret ∨ e = .normal) (hf : fn.results = #[.tmp r, .cell t ty, .tmp u]) (h0 : lkN l r = some v') (hv : lkN l t = some (.pointer (some ⟨p, 0, none⟩))) (hB : Bk w p L t') (hr : isRowB P ty = true) (hs : sizeB P ty len = true) (hl : L.length = len) (hu : lkN l u = some v) (h : Φ (.tuple #[v', .agg L.toArray, v]) w) :
    Xw (bodyPost P fn (RetR Φ)) e n l w := X_end he _ (fun a ha => by
  obtain ⟨d, hd, hdd⟩ := rowB_desc hr
  have hi := sizeB_info hs
  have h1 : a.tmps[t]?.getD undef = .pointer (some ⟨p, 0, none⟩) := by have := ha.tmp hv; simpa using this
  have h2 : a.tmps[u]?.getD undef = v := by have := ha.tmp hu; simpa using this
  have h3 : a.tmps[r]?.getD undef = v' := by have := ha.tmp h0; simpa using this
  simp [results, hf, h1, h2, h3, asAddr, run_loadVar_row w p t' ty L.toArray (0, 0) d hB hd (by cases d <;> simp_all) (by rw [hi, List.size_toArray, hl])]) h
end
end Go.Proofs.YtjbdimfpjbmggaaGreatDoor
