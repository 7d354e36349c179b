/- Function values with captures; what goes with parts that were handed in. -/
import Derived.Test.YtjbdimfpjbmggaaDoorSi
set_option linter.unusedVariables false
set_option linter.unusedSimpArgs false
namespace Go.Proofs.YtjbdimfpjbmggaaDoor
open Go.RowKit Gm
section
variable {P : Program} {n : Nat} {l : List (Nat × Value)} {w : World} {d? : Option Tmp} {ty : TypeId} {pos : String} {af : Array Edge} {g? : Option (Nat × Bool)} {Φ : Value → World → Prop}
theorem pu_makeFuncC {fn : Fn} {xs : List Operand} {vs : List Value} (hx : lkL l xs = some vs) : Pu P (.makeFunc fn #[] xs.toArray) l w (.func fn #[] vs.toArray) := fun n A ha d ty pos af g => by
  have he : xs.toArray.map A.eval = vs.toArray := by rw [List.map_toArray, ha.evalL hx]
  unfold execOp
  simp only [he, Instr.makeFunc, Sem.run_bind, Sem.run_pure, Result.andThen_ok, List.map_toArray, List.map_nil]
theorem lo_callV {f : FuncId} {fo : Operand} {xs : List Operand} {vs cap : List Value} {ts : Array TypeId} (hf : callable P f = true) (h0 : lk l fo = some (.func (.func f) #[] cap.toArray)) (hx : lkL l xs = some vs) (h : Ret P f (vs ++ cap).toArray w Φ) :
    Lo P ⟨d?, .call ⟨.value fo, xs.toArray, ts⟩, ty, pos, af, g?⟩ n l w Φ := fun a ha K Q hK => by
  have hrun : (execOp a.eval ⟨d?, .call ⟨.value fo, xs.toArray, ts⟩, ty, pos, af, g?⟩).run P w = .ok (.enter f (vs ++ cap).toArray) w := by
    unfold execOp
    have he : xs.toArray.map a.eval = vs.toArray := by rw [List.map_toArray, ha.evalL hx]
    simp only [resolve, ha.eval h0, Deferred.ofValue, invoke, Sem.run_bind, Sem.run_pure, Result.andThen_ok]
    rw [show (#[] ++ Array.map a.eval xs.toArray ++ cap.toArray) = (vs ++ cap).toArray by rw [he]; simp]
    exact run_callFunc hf (vs ++ cap).toArray w
  unfold Oper.wp
  rw [hrun, Oper.upon_enter]
  refine Calls.mono h fun e w' ⟨v, he, hv⟩ => ?_
  subst he
  exact hK v w' hv
end
theorem run_equalIn_sliceN {P : Program} (w : World) (d : Nat) {t e : TypeId} (a : Option Addr) (n c : Nat) (h : P.underlying t = some (.slice e)) : (Op.equalIn (d + 1) t (.slice a n c) (.slice none 0 0)).run P w = .ok a.isNone w := by
  cases a <;> simp [Op.equalIn, run_underlying h]
theorem run_equal_sliceN {P : Program} (w : World) {t e : TypeId} (a : Option Addr) (n c : Nat) (h : P.underlying t = some (.slice e)) : (Op.equal t (.slice a n c) (.slice none 0 0)).run P w = .ok a.isNone w := run_equalIn_sliceN w 9999 a n c h
theorem pu_eqlSN {P : Program} {l : List (Nat × Value)} {w : World} {x y : Operand} {t t' e : TypeId} {A : Option Addr} {a : Addr} {n c : Nat} (hA : A = some a) (hu : P.underlying t = some (.slice e)) (hx : lk l x = some (.slice A n c)) (hy : lk l y = some (.slice none 0 0)) : Pu P (.binOp .eql t x y t') l w (.bool false) := fun m B ha d ty pos af g => by
  subst hA
  unfold execOp
  simp only [ha.eval hx, ha.eval hy]
  simp [eqGuard, binOp, run_equal_sliceN w (some a) n c hu]
theorem Bs.some {w : World} {A : Option Addr} {X : List Nat} (h : Bs w A X) (hx : 0 < X.length) : A = some (Go.Proofs.YtjbdimfpjbmggaaDoor.adr A) := by
  obtain ⟨b, o, rfl, _⟩ := h.cell (List.length_pos_iff.1 hx); rfl
theorem ixs_mem_step {M : List Shr} {i x : Nat} {s : Shr} (h : x ∉ (ixs M).take i) (e : M[i]? = some s) (hn : ¬ s.ix = x) : x ∉ (ixs M).take (i + 1) := by
  rw [List.take_add_one, ixs_get e]
  intro hx
  rcases List.mem_append.1 hx with h1 | h1
  · exact h h1
  · exact hn (List.mem_singleton.1 (show x ∈ [s.ix] from h1)).symm
theorem ixs_mem_at {M : List Shr} {i x : Nat} {s : Shr} (e : M[i]? = some s) (hx : s.ix = x) : x ∈ ixs M := hx ▸ List.mem_of_getElem? (ixs_get e)
/-- What a part must be to go with others. -/
def Fit (nn : Nat) (M : List Shr) (ix len : Nat) : Prop := ix ∉ ixs M ∧ ix ≠ 0 ∧ ix ≤ nn ∧ len = 32
/-- Parts that were handed in one after the other. -/
def Came (nn ge : Nat) (L : List Shr) : Prop := ∀ i s, L[i]? = some s → s.gen = ge ∧ Fit nn (L.take i) s.ix s.X.length
def CameT (nn ge : Nat) (L : List Shr) (k : Nat) : Prop := ∀ i s, i < k → L[i]? = some s → s.gen = ge ∧ Fit nn (L.take i) s.ix s.X.length
theorem CameT.zero (nn ge : Nat) (L : List Shr) : CameT nn ge L 0 := fun i s h => absurd h (Nat.not_lt_zero _)
theorem CameT.step {nn ge k : Nat} {L : List Shr} {s : Shr} (h : CameT nn ge L k) (e : L[k]? = some s) (hs : s.gen = ge ∧ Fit nn (L.take k) s.ix s.X.length) : CameT nn ge L (k + 1) := fun i t hi et => by
  rcases Nat.lt_or_ge i k with h1 | h1
  · exact h i t h1 et
  · obtain rfl : i = k := by omega
    rw [e] at et; cases et; exact hs
theorem CameT.all {nn ge k : Nat} {L : List Shr} (h : CameT nn ge L k) (hk : L.length ≤ k) : Came nn ge L := fun i s e => h i s (by have := (List.getElem?_eq_some_iff.1 e).1; omega) e
theorem came_good {nn ge : Nat} {L : List Shr} (h : Came nn ge L) : Good L ge 32 := by
  have at_ : ∀ s ∈ L, s.gen = ge ∧ s.ix ≠ 0 ∧ s.X.length = 32 := fun s hs => by
    obtain ⟨i, hi, e⟩ := List.getElem_of_mem hs
    have h1 := h i s (List.getElem?_eq_some_iff.2 ⟨hi, e⟩)
    exact ⟨h1.1, h1.2.2.1, h1.2.2.2.2⟩
  refine ⟨fun s hs => (at_ s hs).1, fun s hs => (at_ s hs).2.1, fun s hs => (at_ s hs).2.2, fun i j hij hj => ?_, by decide, by decide⟩
  rw [ixs_length] at hj
  obtain ⟨s, es⟩ : ∃ s, L[i]? = some s := ⟨_, List.getElem?_eq_getElem (by omega)⟩
  obtain ⟨t, et⟩ : ∃ t, L[j]? = some t := ⟨_, List.getElem?_eq_getElem hj⟩
  rw [getD_some (ixs_get es), getD_some (ixs_get et)]
  intro e
  refine (h j t et).2.1 ?_
  rw [← e, ixs_take]
  exact List.mem_take_iff_getElem.2 ⟨i, by rw [ixs_length]; omega, (List.getElem?_eq_some_iff.1 (ixs_get es)).2⟩
theorem came_snoc {nn ge : Nat} {L L' : List Shr} {s : Shr} (h : Came nn ge L) (hk : L'.map Shr.key = L.map Shr.key ++ [s.key]) (hs : s.gen = ge ∧ Fit nn L s.ix s.X.length) : Came nn ge L' := by
  have hi : ixs L' = ixs L ++ [s.ix] := by
    have := congrArg (List.map Prod.fst) hk
    rw [List.map_append, List.map_map, List.map_map] at this; exact this
  have hl : L'.length = L.length + 1 := by have := congrArg List.length hk; simpa using this
  intro i t et
  have h1 : (L'.map Shr.key)[i]? = some t.key := by rw [List.getElem?_map, et]; rfl
  rw [hk] at h1
  have hlt := (List.getElem?_eq_some_iff.1 et).1
  rcases Nat.lt_or_ge i L.length with h2 | h2
  · rw [List.getElem?_append_left (by rw [List.length_map]; exact h2), List.getElem?_map] at h1
    obtain ⟨u, eu, ek⟩ := Option.map_eq_some_iff.1 h1
    simp only [Shr.key, Prod.mk.injEq] at ek
    have h3 := h i u eu
    rw [ek.1, ek.2.1, ek.2.2] at h3
    refine ⟨h3.1, ?_, h3.2.2⟩
    have h4 := h3.2.1
    rw [ixs_take] at h4 ⊢
    rw [hi, List.take_append_of_le_length (by rw [ixs_length]; omega)]
    exact h4
  · obtain rfl : i = L.length := by omega
    rw [List.getElem?_append_right (by rw [List.length_map]; exact Nat.le_refl _), List.length_map, Nat.sub_self] at h1
    have ek := Option.some.inj (show some s.key = some t.key from h1)
    simp only [Shr.key, Prod.mk.injEq] at ek
    rw [← ek.1, ← ek.2.1, ← ek.2.2]
    refine ⟨hs.1, ?_, hs.2.2⟩
    have h4 := hs.2.1
    rw [ixs_take, hi, List.take_append_of_le_length (by rw [ixs_length]; exact Nat.le_refl _), List.take_of_length_le (by rw [ixs_length]; exact Nat.le_refl _)]
    exact h4
theorem ixs_in {L' : List Shr} {M : List (Nat × Nat × List Nat)} {k : Nat × Nat × List Nat} (hk : L'.map Shr.key = M ++ [k]) : k.1 ∈ ixs L' := by
  have := congrArg (List.map Prod.fst) hk
  rw [List.map_append, List.map_map] at this
  rw [show ixs L' = List.map Prod.fst M ++ List.map Prod.fst [k] from this]
  simp
theorem ixs_one {L' : List Shr} {k : Nat × Nat × List Nat} (hk : L'.map Shr.key = ([] : List Shr).map Shr.key ++ [k]) : ixs L' = [k.1] := by
  have := congrArg (List.map Prod.fst) hk
  rw [List.map_append, List.map_map] at this
  exact this
theorem Came.nil (nn ge : Nat) : Came nn ge [] := fun i s h => by cases h
theorem came_one {nn ge : Nat} {L' : List Shr} {s : Shr} (hk : L'.map Shr.key = ([] : List Shr).map Shr.key ++ [(s.ix, s.gen, s.X)]) (hg : s.gen = ge) (h0 : s.ix ≠ 0) (hn : s.ix ≤ nn) (hl : s.X.length = 32) : Came nn ge L' := came_snoc (s := s) (Came.nil nn ge) hk ⟨hg, by simp [ixs], h0, hn, hl⟩
theorem ixs_snoc {L L' : List Shr} {k : Nat × Nat × List Nat} (hk : L'.map Shr.key = L.map Shr.key ++ [k]) : ixs L' = ixs L ++ [k.1] := by
  have := congrArg (List.map Prod.fst) hk
  rw [List.map_append, List.map_map, List.map_map] at this
  exact this
/-- Parts of one secret. -/
def Offs (S D : List Nat) (q : Nat) (L : List Shr) : Prop := ∀ s ∈ L, s.ix < 256 ∧ s.X = ptX S D q s.ix
theorem Offs.nil (S D : List Nat) (q : Nat) : Offs S D q [] := fun s h => by cases h
theorem offs_snoc {S D X : List Nat} {q ix gn : Nat} {L L' : List Shr} (hk : L'.map Shr.key = L.map Shr.key ++ [(ix, gn, X)]) (h : Offs S D q L) (h1 : ix < 256) (h2 : X = ptX S D q ix) : Offs S D q L' := fun s hs => by
  have : s.key ∈ L.map Shr.key ++ [(ix, gn, X)] := hk ▸ List.mem_map_of_mem hs
  rcases List.mem_append.1 this with h3 | h3
  · obtain ⟨u, hu, e⟩ := List.mem_map.1 h3
    have := h u hu
    simp only [Shr.key, Prod.mk.injEq] at e
    rw [← e.1, ← e.2.2]; exact this
  · have e := List.mem_singleton.1 h3
    simp only [Shr.key, Prod.mk.injEq] at e
    rw [e.1, e.2.2]; exact ⟨h1, h2⟩
def cameF (L : List Shr) : Nat → Bool := fun v => decide (v + 1 ∈ ixs L)
theorem cameF_zero : List.replicate 256 (Value.bool false) = bL (cameF []) := by
  rw [show cameF [] = fun _ => false from funext fun v => decide_eq_false (by simp [ixs])]
  show _ = (List.range 256).map (fun _ => Value.bool false)
  rw [List.map_const', List.length_range]
theorem cameF_step {L L' : List Shr} {a : Nat} (h : ixs L' = ixs L ++ [a + 1]) : bL (fun v => decide (v = a) || cameF L v) = bL (cameF L') := congrArg bL (funext fun v => by
  unfold cameF; rw [h, ← Bool.decide_or]
  exact decide_eq_decide.2 (by rw [List.mem_append, List.mem_singleton]; exact ⟨fun h => h.elim (fun e => .inr (by omega)) .inl, fun h => h.elim .inr (fun e => .inl (by omega))⟩))
theorem cameF_t {L : List Shr} {v : Nat} (h : v + 1 ∈ ixs L) : cameF L v = true := decide_eq_true h
theorem cameF_f {L : List Shr} {v : Nat} (h : ¬ v + 1 ∈ ixs L) : cameF L v = false := decide_eq_false h
theorem offs_secret {S D : List Nat} {q nn ge : Nat} {L : List Shr} (h : Offs S D q L) (hc : Came nn ge L) (hl : q + 1 ≤ L.length) (hS : S.length = 32) (hD : D.length = q * S.length) (bS : Bl S) (bD : Bl D) : thX (L.take (q + 1)) 32 0 = S := by
  have := thX_all (M := L.take (q + 1)) (fun s hs => h s (List.mem_of_mem_take hs)) (by rw [ixs_take]; exact di_take (came_good hc).di _) (by rw [List.length_take]; omega) hD bS bD (show 0 < 256 by decide)
  rw [hS] at this
  exact this.trans ptX_zero
theorem Shr.ok.of {w : World} {s : Shr} (h : s.ok w) : Bs w s.A s.X := h.bs
theorem good_take {M : List Shr} {ge N : Nat} (h : Good M ge N) (n : Nat) : Good (M.take n) ge N := ⟨fun s hs => h.gen s (List.mem_of_mem_take hs), fun s hs => h.ix0 s (List.mem_of_mem_take hs), fun s hs => h.len s (List.mem_of_mem_take hs), by rw [ixs_take]; exact di_take h.di n, h.n1, h.n2⟩
section
variable {P : Program} {l : List (Nat × Value)} {w : World} {n : Nat} {e : Exit} {fn : Func} {Φ : Value → World → Prop} {t u r p len : Nat} {ty t' : TypeId} {L : List Value} {v v' : Value}
theorem X_retCTT (he : e = .ret ∨ e = .normal) (hf : fn.results = #[.cell t ty, .tmp u, .tmp r]) (hv : lkN l t = some (.pointer (some ⟨p, 0, none⟩))) (hB : Bk w p L t') (hr : isRowB P ty = true) (hs : sizeB P ty len = true) (hl : L.length = len) (hu : lkN l u = some v) (h2 : lkN l r = some v') (h : Φ (.tuple #[.agg L.toArray, v, v']) w) :
    Xw (bodyPost P fn (RetR Φ)) e n l w := X_end he _ (fun a ha => by
  obtain ⟨d, hd, hdd⟩ := rowB_desc hr
  have hi := sizeB_info hs
  have h1 : a.tmps[t]?.getD undef = .pointer (some ⟨p, 0, none⟩) := by have := ha.tmp hv; simpa using this
  have h2 : a.tmps[u]?.getD undef = v := by have := ha.tmp hu; simpa using this
  have h3 : a.tmps[r]?.getD undef = v' := by have := ha.tmp ‹lkN l r = some v'›; simpa using this
  simp [results, hf, h1, h2, h3, asAddr, run_loadVar_row w p t' ty L.toArray (0, 0) d hB hd (by cases d <;> simp_all) (by rw [hi, List.size_toArray, hl])]) h
end
section
variable {P : Program} {Q : Exit → Act → World → Prop} {S : World → Prop} {n fuel z : Nat} {ls : Array Bool} {l : List (Nat × Value)} {w : World} {ops : Array Oper} {op : Op} {v : Value} {d : Nat} {ty : TypeId} {pos : String} {af : Array Edge} {i : Nat}
theorem Nz_pu (hi : ops[i]? = some ⟨some d, op, ty, pos, af, none⟩) (h : Pu P op l w v) (hd : Nat.blt d n = true) (k : S w ∧ Zd P ops Q S z fuel (ls.setIfInBounds i true) n ((d, v) :: l) w) : Nz P ops Q S z fuel ls n l w i :=
  Nz_lo hi (Φ := fun u w' => u = v ∧ w' = w) (fun a ha K Q hK => by unfold Oper.wp; rw [h n a ha]; exact hK _ _ ⟨rfl, rfl⟩) hd (fun u w' hu => by rw [hu.1, hu.2]; exact k)
end
end Go.Proofs.YtjbdimfpjbmggaaDoor
