/- Parts turned about and copied; terms held against one another. -/
import Derived.Test.YtlkbkgghfhoggaaGreatDoorVa
import Derived.Stop.BytesEq
import Derived.Laws.StructEq
set_option linter.unusedVariables false
set_option linter.unusedSimpArgs false
namespace Go.Proofs.YtlkbkgghfhoggaaGreatDoor
open Go.RowKit Gm
theorem Bs.alive {w : World} {A : Option Addr} {X : List Nat} (h : Bs w A X) (hp : 0 < X.length) : ∀ x, A = some x → x.block < w.heap.size := fun x hx => by
  obtain ⟨b, o, e, hc⟩ := h.cell (List.length_pos_iff.1 hp)
  rw [e] at hx; cases hx
  have h0 := hc 0 _ (List.getElem?_eq_getElem hp)
  unfold World.cell? at h0
  cases hh : w.heap[b]? with
  | none => simp [hh] at h0
  | some o => exact lt_of_block hh
section
variable {P : Program} {l : List (Nat × Value)} {w : World} {x y : Operand} {t t' : TypeId}
theorem run_eqT {f0 f1 : Field} {e : TypeId} (hf : P.underlying t = some (.struct #[f0, f1])) (hp : P.stoodInHeld t = false) (n0 : f0.name ≠ "_") (n1 : f1.name ≠ "_") (u0 : P.underlying f0.type = some (.int .u32)) (u1 : P.underlying f1.type = some (.array 32 e)) (he : P.underlying e = some (.int .u8))
    (hse : sizeB P e 1 = true) (hsf : sizeB P f1.type 32 = true) (o0 : f0.offset = 0) (o1 : f1.offset = 1) {a b : Nat} {X Y : List Nat} (bX : By 32 X) (bY : By 32 Y) :
    (Op.equalIn 10000 t (.agg (tmC (a, X)).toArray) (.agg (tmC (b, Y)).toArray)).run P w = .ok (decide (a = b ∧ X = Y)) w := by
  have hF : P.fieldsOf t = #[f0, f1] := by unfold Program.fieldsOf; rw [hf]
  rw [run_equalIn_agg w 9999 t _ _ (by rw [hF]; exact hf) hp, hF]
  have q0 : ∀ (n : Nat) (Z : List Nat), (Go.part f0.type (tmC (n, Z)).toArray f0.offset).run P w = .ok (.int .u32 (n : Int)) w := fun n Z => by simp [Go.part, isAgg, run_underlying u0, o0, tmC]
  have q1 : ∀ (n : Nat) {Z : List Nat}, By 32 Z → (Go.part f1.type (tmC (n, Z)).toArray f1.offset).run P w = .ok (.agg (u8s Z).toArray) w := fun n Z bZ => by
    have hl : (u8s Z).length = 32 := by rw [u8s_length]; exact bZ.1
    simp [Go.part, isAgg, run_underlying u1, o1, tmC, sizeB_run hsf, ← hl]
  have e0 := fun c d => run_equalIn_int w 9998 f0.type .u32 .u32 c d u0
  have e1 : (Op.equalIn 9999 f1.type (.agg (u8s X).toArray) (.agg (u8s Y).toArray)).run P w = .ok (decide (X = Y)) w := by
    rw [u8s_cells bX.2, u8s_cells bY.2, ← ofNat_inj bX.2 bY.2]
    exact run_equalIn_bytes w 9997 f1.type e 32 u1 he (sizeB_run hse) _ _ (by rw [List.length_map]; exact bX.1) (by rw [List.length_map]; exact bY.1)
  simp only [Op.eqFields, if_pos n0, if_pos n1, Sem.run_bind, q0, Result.andThen_ok, e0]
  by_cases h0 : a = b
  · subst h0
    simp only [beq_self_eq_true, Bool.not_true, Bool.false_eq_true, if_false, Sem.run_bind, q1 _ bX, q1 _ bY, Result.andThen_ok, e1]
    by_cases h1 : X = Y
    · subst h1; simp
    · simp [h1]
  · have : ((a : Int) == (b : Int)) = false := by simp; omega
    simp [this, h0]
theorem pu_eqlT {f0 f1 : Field} {e : TypeId} (hf : P.underlying t = some (.struct #[f0, f1])) (hp : P.stoodInHeld t = false) (hg : P.eqGuardType P.depth t = false) (n0 : f0.name ≠ "_") (n1 : f1.name ≠ "_") (u0 : P.underlying f0.type = some (.int .u32)) (u1 : P.underlying f1.type = some (.array 32 e)) (he : P.underlying e = some (.int .u8))
    (hse : sizeB P e 1 = true) (hsf : sizeB P f1.type 32 = true) (o0 : f0.offset = 0) (o1 : f1.offset = 1) {a b : Nat} {X Y : List Nat} (bX : By 32 X) (bY : By 32 Y) (hx : lk l x = some (.agg (tmC (a, X)).toArray)) (hy : lk l y = some (.agg (tmC (b, Y)).toArray)) : Pu P (.binOp .eql t x y t') l w (.bool (decide (a = b ∧ X = Y))) := fun n A ha d ty pos af g => by
  unfold execOp
  simp only [ha.eval hx, ha.eval hy, Sem.run_bind, Sem.run_pure, Result.andThen_ok, run_eqGuard_agg w _ t x y _ _ hg, run_eql_struct, run_eqT hf hp n0 n1 u0 u1 he hse hsf o0 o1 bX bY]
theorem pu_neqT {f0 f1 : Field} {e : TypeId} (hf : P.underlying t = some (.struct #[f0, f1])) (hp : P.stoodInHeld t = false) (hg : P.eqGuardType P.depth t = false) (n0 : f0.name ≠ "_") (n1 : f1.name ≠ "_") (u0 : P.underlying f0.type = some (.int .u32)) (u1 : P.underlying f1.type = some (.array 32 e)) (he : P.underlying e = some (.int .u8))
    (hse : sizeB P e 1 = true) (hsf : sizeB P f1.type 32 = true) (o0 : f0.offset = 0) (o1 : f1.offset = 1) {a b : Nat} {X Y : List Nat} (bX : By 32 X) (bY : By 32 Y) (hx : lk l x = some (.agg (tmC (a, X)).toArray)) (hy : lk l y = some (.agg (tmC (b, Y)).toArray)) : Pu P (.binOp .neq t x y t') l w (.bool (decide (¬ (a = b ∧ X = Y)))) := fun n A ha d ty pos af g => by
  have e : (!decide (a = b ∧ X = Y)) = decide (¬ (a = b ∧ X = Y)) := by simp
  unfold execOp
  simp only [ha.eval hx, ha.eval hy, Sem.run_bind, Sem.run_pure, Result.andThen_ok, run_eqGuard_agg w _ t x y _ _ hg, run_neq_struct, run_eqT hf hp n0 n1 u0 u1 he hse hsf o0 o1 bX bY, e]
end
theorem Ro.ofEmpty {f : Tm → List Value} {sz : Nat} {T : TypeId} {w : World} {base p : Nat} (h : Bk w p [] T) (hb : base ≤ p) : Ro f sz T w base (.slice (some ⟨p, 0, none⟩) ([] : List Tm).length 0) [] :=
  ⟨⟨by simp, .inr ⟨p, 0, #[], rfl, hb, h, Nat.le_refl _, Nat.zero_le _, by simp, by simp⟩⟩, fun _ h => (by cases h), fun _ h => (by cases h)⟩
/-! ### a region that draws its order till its first store comes -/
section
variable {P : Program} {ops : Array Oper} {Q : Exit → Act → World → Prop} {S : World → Prop} {n fuel z d i : Nat} {ls : Array Bool} {l : List (Nat × Value)} {w : World} {op : Op} {v : Value} {ty : TypeId} {pos : String} {af : Array Edge} {Φ : Value → World → Prop}
def Zx (P : Program) (ops : Array Oper) (Q : Exit → Act → World → Prop) (S : World → Prop) (z fuel : Nat) (ls : Array Bool) (n : Nat) (l : List (Nat × Value)) (w : World) : Prop := ∀ a, St n l a → Zw P ops Q S z fuel ls a w
theorem Z_out (z : Nat) (hr : Region.ready .any ops ls = [z]) (hi : ops[z]? = some ⟨none, op, ty, pos, af, none⟩) (hz : (ls.setIfInBounds z true).getD z false = true) (h : Lo P ⟨none, op, ty, pos, af, none⟩ n l w Φ) (k : ∀ v w', Φ v w' → Zx P ops Q S z fuel (ls.setIfInBounds z true) n l w') : Zd P ops Q S z (fuel + 1) ls n l w :=
  Z_one z hr fun a ha => by
    unfold wpOp
    rw [hi]
    exact .inl (h a ha _ _ fun v w' hv => ⟨fun e => (by rw [hz] at e; cases e), k v w' hv a ha⟩)
theorem Zx_one (i : Nat) (hr : Region.ready .any ops ls = [i]) (h : Nz P ops Q S z fuel ls n l w i) : Zx P ops Q S z (fuel + 1) ls n l w := fun a ha => ⟨fun h0 => (by rw [hr] at h0; cases h0), fun j hj => (by rw [hr] at hj; rw [List.mem_singleton.1 hj]; exact h a ha)⟩
theorem Nzx_lo0 (hi : ops[i]? = some ⟨none, op, ty, pos, af, none⟩) (hz : (ls.setIfInBounds i true).getD z false = true) (h : Lo P ⟨none, op, ty, pos, af, none⟩ n l w Φ) (k : ∀ v w', Φ v w' → Zx P ops Q S z fuel (ls.setIfInBounds i true) n l w') : Nz P ops Q S z fuel ls n l w i := fun a ha => by
  unfold wpOp
  rw [hi]
  exact .inl (h a ha _ _ fun v w' hv => ⟨fun e => (by rw [hz] at e; cases e), k v w' hv a ha⟩)
theorem Nzx_pu (hi : ops[i]? = some ⟨some d, op, ty, pos, af, none⟩) (hz : (ls.setIfInBounds i true).getD z false = true) (h : Pu P op l w v) (hd : Nat.blt d n = true) (k : Zx P ops Q S z fuel (ls.setIfInBounds i true) n ((d, v) :: l) w) : Nz P ops Q S z fuel ls n l w i := fun a ha => by
  unfold wpOp
  rw [hi]
  refine .inl ?_
  unfold Oper.wp
  rw [h n a ha]
  exact ⟨fun e => (by rw [hz] at e; cases e), k _ (ha.put hd v)⟩
theorem Zx_done (hr : Region.ready .any ops ls = []) (h : Xw Q .normal n l w) : Zx P ops Q S z fuel ls n l w := fun a ha => Zw.done hr (h a ha) _
end
/-! ### a part's bytes put elsewhere -/
section
variable {P : Program} {n : Nat} {l : List (Nat × Value)} {w : World} {d? : Option Tmp} {ty : TypeId} {pos : String} {af : Array Edge} {g? : Option (Nat × Bool)} {x y : Operand} {t T : TypeId} {p k c low base m d : Nat} {L : List Shr} {s : Shr} {B : Option Addr}
theorem shsC_setD {L : List Shr} {m d : Nat} {s : Shr} {B : Option Addr} (hm : L[m]? = some s) : shsC (L.set m ⟨s.ix, s.gen, B, s.X, d⟩) = (shsC L).take (m * 3 + 2) ++ ([.slice B s.X.length d] : List Value) ++ (shsC L).drop (m * 3 + 3) := by
  have hlt := (List.getElem?_eq_some_iff.1 hm).1
  have hL : L.set m s = L := by rw [List.getElem?_eq_getElem hlt] at hm; cases hm; exact List.set_getElem_self hlt
  have h1 := shsC_set s hlt
  rw [hL] at h1
  rw [shsC_set _ hlt]
  have h2 : (shsC L).take (m * 3 + 2) = (shsC L).take (m * 3) ++ [.int .u8 (s.ix : Int), .int .u32 (s.gen : Int)] := by
    have hl3 : ((shsC L).take (m * 3)).length = m * 3 := by rw [List.length_take, shsC_length]; omega
    conv => lhs; rw [h1, List.append_assoc, List.take_append, hl3, List.take_of_length_le (by omega), show m * 3 + 2 - m * 3 = 2 by omega]
    rfl
  rw [h2]
  simp [shC]
theorem lo_storeSwD (h : Sw T low w base (.slice (some ⟨p, 0, none⟩) k c) L) (hs : sizeB P t 1 = true) (hx : lk l x = some (.pointer (some ((adr (some ⟨p, 0, none⟩)).add (m * 3 + 2))))) (hy : lk l y = some (.slice B s.X.length d)) (hm : L[m]? = some s) (hb : Bs w B s.X) (hd1 : s.X.length ≤ d) (hd2 : d ≤ maxLen)
    (hd : ∀ x, B = some x → low ≤ x.block ∧ x.block < w.heap.size ∧ (Value.slice (some ⟨p, 0, none⟩) k c).ownBlock ≠ some x.block) :
    Lo P ⟨d?, .store t x y, ty, pos, af, g?⟩ n l w (fun _ w' => Sw T low w' base (.slice (some ⟨p, 0, none⟩) k c) (L.set m ⟨s.ix, s.gen, B, s.X, d⟩) ∧ Kp (On p) w w') := by
  have hx' : lk l x = some (.pointer (some ⟨p, 0 + (m * 3 + 2), none⟩)) := by rw [hx]; show some (Value.pointer (some ((⟨p, 0, none⟩ : Addr).add (m * 3 + 2)))) = _; rw [add_at]
  have hlt := h.lt
  have hml := (List.getElem?_eq_some_iff.1 hm).1
  have hsok := h.ok s (List.mem_of_getElem? hm)
  have hok : Shr.ok w ⟨s.ix, s.gen, B, s.X, d⟩ := ⟨hsok.ix, hsok.gen, hb, hd1, hd2⟩
  rcases h.own.2 with ⟨e, hn⟩ | ⟨g, cap, cur, e, hbb, hh, hn, hcm, hcs, ht⟩
  · cases e
  · injection e with e1 e2 e3
    have e1' := Option.some.inj e1
    injection e1' with e4
    subst e4 e2 e3
    have hB : Bk w p cur.toList T := by unfold Bk; simpa using hh
    have hlen : cur.toList.length = c * 3 := by simpa using hcs
    refine (lo_storeCs (C := [.slice B s.X.length d]) hB hs hx' hy rfl (fun u hu => by rw [List.mem_singleton.1 hu]; rfl) (by rw [hlen]; show 0 + (m * 3 + 2) + 1 ≤ _; omega)).mono fun _ w' hw => ?_
    have hkp := hw.1
    have hall : ∀ s' ∈ L.set m ⟨s.ix, s.gen, B, s.X, d⟩, s'.ok w ∧ ∀ x, s'.A = some x → low ≤ x.block ∧ x.block < w.heap.size ∧ (Value.slice (some ⟨p, 0, none⟩) L.length c).ownBlock ≠ some x.block := fun s' hs' => (List.mem_or_eq_of_mem_set hs').elim (fun h1 => ⟨h.ok s' h1, h.dat s' h1⟩) (fun h1 => by rw [h1]; exact ⟨hok, hd⟩)
    refine ⟨⟨⟨by rw [shsC_length], .inr ⟨p, c, _, by rw [List.length_set], hbb, hw.2, by rw [List.length_set]; exact hn, hcm, ?_, ?_⟩⟩, fun s' hs' => (hall s' hs').1.kept hkp (fun _ x hx hc => ((hall s' hs').2 x hx).2.2 (by show some p = some x.block; rw [show x.block = p from hc])), fun s' hs' x hx => ⟨((hall s' hs').2 x hx).1, Nat.lt_of_lt_of_le ((hall s' hs').2 x hx).2.1 hkp.size, ((hall s' hs').2 x hx).2.2⟩⟩, hkp⟩
    · simp only [List.size_toArray, List.length_append, List.length_take, List.length_drop, List.length_singleton, hlen]; omega
    · rw [List.length_set, shsC_setD hm]
      have ht' : cur.toList.take (L.length * 3) = shsC L := ht
      show ((cur.toList.take (0 + (m * 3 + 2)) ++ ([.slice B s.X.length d] : List Value) ++ cur.toList.drop (0 + (m * 3 + 2) + 1)).take (L.length * 3)) = _
      rw [← ht', Nat.zero_add]
      exact take_mid (s := ([.slice B s.X.length d] : List Value)) (a := m * 3 + 2) (by show m * 3 + 2 + 1 ≤ _; omega) (by rw [hlen]; omega)
end
theorem key_setD {L : List Shr} {m d : Nat} {s : Shr} {B : Option Addr} (hm : L[m]? = some s) : (L.set m ⟨s.ix, s.gen, B, s.X, d⟩).map Shr.key = L.map Shr.key := by
  rw [List.map_set]
  refine List.ext_getElem? fun i => ?_
  rw [List.getElem?_set]
  split
  · rename_i e; subst e
    rw [List.getElem?_map, hm, if_pos (by rw [List.length_map]; exact (List.getElem?_eq_some_iff.1 hm).1)]; rfl
  · rfl
theorem X_retCCT {e : Exit} {fn : Func} {Φ : Value → World → Prop} {P : Program} {n t u r p p2 len len2 : Nat} {ty ty2 t' t2 : TypeId} {l : List (Nat × Value)} {w : World} {L L2 : List Value} {v : Value} (he : e = .ret ∨ e = .normal) (hf : fn.results = #[.cell t ty, .cell u ty2, .tmp r]) (hv : lkN l t = some (.pointer (some ⟨p, 0, none⟩))) (hB : Bk w p L t') (hr : isRowB P ty = true) (hs : sizeB P ty len = true) (hl : L.length = len)
    (hv2 : lkN l u = some (.pointer (some ⟨p2, 0, none⟩))) (hB2 : Bk w p2 L2 t2) (hr2 : isRowB P ty2 = true) (hs2 : sizeB P ty2 len2 = true) (hl2 : L2.length = len2) (hu : lkN l r = some v) (h : Φ (.tuple #[.agg L.toArray, .agg L2.toArray, v]) w) :
    Xw (bodyPost P fn (RetR Φ)) e n l w := X_end he _ (fun a ha => by
  obtain ⟨d, hd, hdd⟩ := rowB_desc hr
  obtain ⟨d2, hd2, hdd2⟩ := rowB_desc hr2
  have hi := sizeB_info hs
  have hi2 := sizeB_info hs2
  have h1 : a.tmps[t]?.getD undef = .pointer (some ⟨p, 0, none⟩) := by have := ha.tmp hv; simpa using this
  have h2 : a.tmps[u]?.getD undef = .pointer (some ⟨p2, 0, none⟩) := by have := ha.tmp hv2; simpa using this
  have h3 : a.tmps[r]?.getD undef = v := by have := ha.tmp hu; simpa using this
  simp [results, hf, h1, h2, h3, asAddr, run_loadVar_row w p t' ty L.toArray (0, 0) d hB hd (by cases d <;> simp_all) (by rw [hi, List.size_toArray, hl]), run_loadVar_row w p2 t2 ty2 L2.toArray (0, 0) d2 hB2 hd2 (by cases d2 <;> simp_all) (by rw [hi2, List.size_toArray, hl2])]) h
/-! ### parts in another order -/
/-- The first i of the parts from a place on, around. -/
def turnT (L : List Shr) (b : Nat) : Nat → List Shr
  | 0 => []
  | i + 1 => match L[(i + b) % L.length]? with
    | some s => turnT L b i ++ [s]
    | none => turnT L b i
theorem turnT_step {L : List Shr} {b i : Nat} {s : Shr} (e : L[(i + b) % L.length]? = some s) : turnT L b (i + 1) = turnT L b i ++ [s] := by simp only [turnT, e]
theorem turnT_mem (L : List Shr) (b i : Nat) : ∀ s ∈ turnT L b i, s ∈ L := by
  induction i with
  | zero => intro s h; cases h
  | succ i ih =>
    intro s h
    cases e : L[(i + b) % L.length]? with
    | none => simp only [turnT, e] at h; exact ih s h
    | some u =>
      rw [turnT_step e] at h
      rcases List.mem_append.1 h with h1 | h1
      · exact ih s h1
      · rw [List.mem_singleton.1 h1]; exact List.mem_of_getElem? e
theorem turnT_length {L : List Shr} (h : 0 < L.length) (b i : Nat) : (turnT L b i).length = i := by
  induction i with
  | zero => rfl
  | succ i ih => rw [turnT_step (List.getElem?_eq_getElem (Nat.mod_lt _ h)), List.length_append, ih]; rfl
theorem turnT_get {L : List Shr} (h : 0 < L.length) (b : Nat) {n i : Nat} (hi : i < n) : (turnT L b n)[i]? = L[(i + b) % L.length]? := by
  induction n with
  | zero => omega
  | succ n ih =>
    rw [turnT_step (List.getElem?_eq_getElem (Nat.mod_lt (n + b) h))]
    rcases Nat.lt_or_ge i n with h1 | h1
    · rw [List.getElem?_append_left (by rw [turnT_length h]; exact h1)]; exact ih h1
    · obtain rfl : i = n := by omega
      rw [List.getElem?_append_right (by rw [turnT_length h]; exact Nat.le_refl _), turnT_length h, Nat.sub_self, List.getElem?_eq_getElem (Nat.mod_lt (i + b) h)]; rfl
theorem turnT_di {L : List Shr} (b : Nat) (hd : Di (ixs L)) : Di (ixs (turnT L b L.length)) := fun i j hij hj => by
  rw [ixs_length] at hj
  by_cases h : 0 < L.length
  · rw [turnT_length h] at hj
    have g : ∀ k, k < L.length → (ixs (turnT L b L.length)).getD k 0 = (ixs L).getD ((k + b) % L.length) 0 := fun k hk => by
      obtain ⟨s, e⟩ : ∃ s, L[(k + b) % L.length]? = some s := ⟨_, List.getElem?_eq_getElem (Nat.mod_lt _ h)⟩
      rw [getD_some (ixs_get ((turnT_get h b hk).trans e)), getD_some (ixs_get e)]
    rw [g i (by omega), g j hj]
    have hne : (i + b) % L.length ≠ (j + b) % L.length := fun e => by
      have h1 := Nat.sub_mod_eq_zero_of_mod_eq e.symm
      have h2 : j + b - (i + b) = j - i := by omega
      rw [h2, Nat.mod_eq_of_lt (by omega)] at h1
      omega
    exact hd.ne (by rw [ixs_length]; exact Nat.mod_lt _ h) (by rw [ixs_length]; exact Nat.mod_lt _ h) hne
  · have : L = [] := List.eq_nil_of_length_eq_zero (by omega)
    subst this; simp [turnT] at hj
theorem own_new {w : World} {base b0 n c : Nat} {A : Option Addr} {X : List Nat} (h : Ob w base (.slice A n c) X) (hb : b0 ≤ base) : ∀ x, A = some x → b0 ≤ x.block := fun x hx => by subst hx; exact Nat.le_trans hb (h.lt _ rfl).1
theorem own_dat {w : World} {base n c g k c' : Nat} {A : Option Addr} {X : List Nat} (h : Ob w base (.slice A n c) X) (hg : g < base) : ∀ x, A = some x → 0 ≤ x.block ∧ x.block < w.heap.size ∧ (Value.slice (some ⟨g, 0, none⟩) k c').ownBlock ≠ some x.block := fun x hx => by
  subst hx
  have h1 := h.lt _ rfl
  exact ⟨Nat.zero_le _, h1.2, fun e => by have : g = x.block := Option.some.inj e; omega⟩
theorem copied_end {T : TypeId} {w : World} {base b0 i : Nat} {v : Value} {M : List Shr} (h : Sw T 0 w base v M) (hn : ∀ (j : Nat) (s : Shr), j < i → M[j]? = some s → ∀ x, s.A = some x → b0 ≤ x.block) (hi : M.length ≤ i) : Sw T b0 w base v M :=
  ⟨h.own, h.ok, fun s hs x hx => ⟨by obtain ⟨j, hj, e⟩ := List.getElem_of_mem hs; exact hn j s (by omega) (List.getElem?_eq_some_iff.2 ⟨hj, e⟩) x hx, (h.dat s hs x hx).2⟩⟩
theorem Sw.keptD {T : TypeId} {w w' w0 : World} {base p : Nat} {v : Value} {L : List Shr} (h : Sw T 0 w base v L) (k : Kp (On p) w w') (hp : p < base) (hd : ∀ s ∈ L, ∀ x, s.A = some x → x.block < w0.heap.size) (hw : w0.heap.size ≤ p) : Sw T 0 w' base v L :=
  h.kept k (fun b hb hc => by have h1 := (h.lt b hb).1; have : b = p := hc; omega) (fun s hs x hx hc => by have h1 := hd s hs x hx; have : x.block = p := hc; omega)
theorem key_X {M L : List Shr} (hk : M.map Shr.key = L.map Shr.key) (hX : ∀ s ∈ L, 0 < s.X.length ∧ s.X.length < 1000000) : ∀ s ∈ M, 0 < s.X.length ∧ s.X.length < 1000000 := fun s hs => by
  have h1 : s.key ∈ L.map Shr.key := hk ▸ List.mem_map_of_mem hs
  obtain ⟨u, hu, e⟩ := List.mem_map.1 h1
  have e2 : u.X = s.X := congrArg (fun k => k.2.2) e
  rw [← e2]; exact hX u hu
theorem turn_dat {T : TypeId} {w w0 : World} {base n c : Nat} {A : Option Addr} {M : List Shr} {s : Shr} (h : Sw T 0 w base (.slice A n c) M) (ha : ∀ x, s.A = some x → x.block < w0.heap.size) (hb : w0.heap.size ≤ base) (hw : w0.heap.size ≤ w.heap.size := by omega) : ∀ u ∈ [s], ∀ x, u.A = some x → 0 ≤ x.block ∧ x.block < w.heap.size ∧ (Value.slice A n c).ownBlock ≠ some x.block := fun u hu x hx => by
  rw [List.mem_singleton.1 hu] at hx
  have h1 := ha x hx
  exact ⟨Nat.zero_le _, by omega, fun e => by have := (h.lt _ e).1; omega⟩
theorem some_ofS {w : World} {A : Option Addr} {L : List Shr} (h : Ss w A L) (hp : 0 < L.length) : A.isNone = false := by
  obtain ⟨_, _, e, _⟩ := h.cell (List.length_pos_iff.1 hp)
  rw [e]; rfl
theorem some_ofR {w : World} {A : Option Addr} {L : List Tm} (h : Rs tmC 33 w A L) (hp : 0 < L.length) : A.isNone = false := by
  obtain ⟨_, _, e, _⟩ := h.cell (List.length_pos_iff.1 hp)
  rw [e]; rfl
theorem may_snoc {L : List Tm} {Y : List Nat} (h : mayR L) (hl : L.length < 16) : mayR (L ++ [(L.length + 1, Y)]) := by
  refine ⟨by rw [List.length_append]; exact Nat.le_trans h.1 (Nat.le_add_right _ _), by rw [List.length_append]; exact hl, fun i t e => ?_⟩
  rcases Nat.lt_or_ge i L.length with h1 | h1
  · rw [List.getElem?_append_left h1] at e; exact h.2.2 i t e
  · rw [List.getElem?_append_right h1] at e
    cases hi : i - L.length with
    | zero => rw [hi] at e; cases e; show L.length + 1 = i + 1; omega
    | succ k => rw [hi] at e; cases e
theorem ok_snoc {L : List Tm} {Y : List Nat} (h : ∀ t ∈ L, okT t) (hl : L.length < 16) (hY : By 32 Y) : ∀ t ∈ L ++ [((L.length + 1, Y) : Tm)], okT t := fun t ht => (List.mem_append.1 ht).elim (h t) (fun h1 => by rw [List.mem_singleton.1 h1]; exact ⟨(by show L.length + 1 < 4294967296; omega), hY⟩)
end Go.Proofs.YtlkbkgghfhoggaaGreatDoor
