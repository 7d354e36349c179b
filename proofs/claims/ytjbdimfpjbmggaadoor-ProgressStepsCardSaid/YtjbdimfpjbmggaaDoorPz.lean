/- What may be a progress; what a Submit answers. -/
import Derived.Test.YtjbdimfpjbmggaaDoorPg
import Derived.Test.YtjbdimfpjbmggaaDoorSj
set_option linter.unusedVariables false
set_option linter.unusedSimpArgs false
namespace Go.Proofs.YtjbdimfpjbmggaaDoor
open Go.RowKit Gm
section
variable {T : TypeId} {w w' : World} {v : Value} {L : List Shr} {base : Nat} {A : Option Addr} {k c : Nat}
theorem Sp.draw (h : Sp T w base v L) : Sp T w.drew base v L := h.keptNo ((Kp.refl No w).drew)
theorem Sp.on {p : Nat} (h : Sp T w base v L) (kk : Kp (On p) w w') (hp : p < base) : Sp T w' base v L := ⟨ownsRow_kp h.own kk (fun b hb hc => by have := (h.own.lt b hb).1; have : b = p := hc; omega)⟩
theorem Sp.past {b2 : Nat} (h : Sp T w base v L) (hl : ∀ b, v.ownBlock = some b → b < b2) (kk : Kp (fun i => b2 ≤ i) w w') : Sp T w' base v L := ⟨ownsRow_kp h.own kk (fun b hb hc => by have := hl b hb; have hc' : b2 ≤ b := hc; omega)⟩
theorem Sp.lowb {b2 : Nat} (h : Sp T w base v L) (hb : b2 ≤ base) : Sp T w b2 v L := ⟨by
  rcases h.own.2 with h1 | ⟨g, cap, cur, e, h2, hr⟩
  · exact ⟨h.own.1, .inl h1⟩
  · exact ⟨h.own.1, .inr ⟨g, cap, cur, e, Nat.le_trans hb h2, hr⟩⟩⟩
theorem Aws.sp {w0 : World} {b : Nat} {A0 : Option Addr} (h : Sp T w0 base (.slice A k c) L) (hb : w0.heap.size ≤ b) (h0 : Aws (On b) A0 L) : Aws (On b) A L :=
  ⟨fun _ x hx hc => by have := h.top x.block (by rw [hx]; rfl); have : x.block = b := hc; omega, h0.dat⟩
end
section
variable {T TS : TypeId} {n : Nat} {l : List (Nat × Value)} {w w' : World} {d? : Option Tmp} {ty : TypeId} {pos : String} {af : Array Edge} {g? : Option (Nat × Bool)} {x y : Operand} {v : Value} {A B : Option Addr} {L M : List Shr} {c c' k k' base : Nat}
set_option maxRecDepth 100000 in
theorem run_apq_nil {i : TypeInfo} (hu : Tryd.prog.underlying TS = some (.slice T)) (hi : Tryd.prog.info? T = some i) (hz : i.zero = some zShr) (hs : i.size = 3) (ty : TypeId) (h : Sp T w base (.slice A k c) L) (cc : Nat) : (Builtin.append_ #[TS, TS] ty #[.slice A k c, .slice none 0 cc]).run Tryd.prog w = .ok (.slice A k c) w := by
  rcases h.own.2 with ⟨e, h0⟩ | ⟨g, cap, cur, e, _, _, hnc, _⟩
  · injection e with e1 e2 e3
    subst e1 e2 e3
    simp [Builtin.append_, run_underlying hu, sizeOf, typeInfo, hi, Builtin.lenOf, Builtin.firstCells]
  · injection e with e1 e2 e3
    subst e1 e2 e3
    simp [Builtin.append_, run_underlying hu, sizeOf, typeInfo, hi, Builtin.lenOf, Builtin.firstCells, hnc, storeCells]
set_option maxRecDepth 100000 in
/-- A slice of parts that are not the call's own is appended. -/
theorem lo_appqS (hu : Tryd.prog.underlying TS = some (.slice T)) (hinfo : (Tryd.prog.info? T).map (fun i => (i.zero, i.size, i.bytes)) = some (some zShr, 3, 32)) (h : Sp T w base (.slice A k c) L) (hk : L.length = k) (hx : lk l x = some (.slice A k c)) (hy : lk l y = some (.slice B k' c')) (hk' : M.length = k')
    (hB : Ss w B M) (hlen : L.length + M.length ≤ 1000000) (hbase : base ≤ w.heap.size) :
    Lo Tryd.prog ⟨d?, .call ⟨.builtin .append, #[x, y], #[TS, TS]⟩, ty, pos, af, g?⟩ n l w (fun v w' => ∃ A' c', v = .slice A' (L ++ M).length c' ∧ Apq T w base (L ++ M) A' c' w') := by
  subst hk hk'
  obtain ⟨i, hi, hzz⟩ := Option.map_eq_some_iff.1 hinfo
  simp only [Prod.mk.injEq] at hzz
  by_cases hB0 : B = none
  · subst hB0
    have hm : M = [] := by
      cases M with
      | nil => rfl
      | cons s M => obtain ⟨b, o, e, _⟩ := hB.cell (by simp); cases e
    subst hm
    refine lo_run (v := .slice A L.length c) (w' := w) (fun a ha => ?_) ⟨A, c, by rw [List.append_nil], ⟨by rw [List.append_nil]; exact h, Kp.refl _ w⟩⟩
    unfold execOp
    simp only [resolve, invoke, builtin, Sem.run_bind, Sem.run_pure, Result.andThen_ok, List.map_toArray, List.map_cons, List.map_nil, ha.eval hx, ha.eval hy, List.length_nil, run_apq_nil hu hi hzz.1 hzz.2.1 ty h c']
  · obtain ⟨ad, rfl⟩ : ∃ ad, B = some ad := Option.ne_none_iff_exists'.1 hB0
    have hcells : ∀ j u, (shsC M)[j]? = some u → w.cell? (ad.add j) = some u := fun j u hu => by
      have hne : M ≠ [] := fun e => by subst e; cases hu
      obtain ⟨b, o, e, hc⟩ := hB.cell hne
      injection e with e; subst e
      rw [add_at]; exact hc j u hu
    obtain ⟨v', w', r, r1, r2, r3, r4⟩ := run_append_own_at (P := Tryd.prog) w base TS ty T i zShr 3 32 hu hi hzz.1 hzz.2.1 hzz.2.2 rfl (by decide) (.slice A L.length c) L.length (shsC L) h.own ad M.length c' (shsC M) (shsC_length M) hcells (shsC_one M) (by unfold maxLen; omega) (by omega) hbase
    have hkp : Kp (fun i => (Value.slice A L.length c).ownBlock = some i) w w' := (Kp.refl _ w).grown r2 (fun b hb => .inl hb)
    obtain ⟨A', c2, rfl⟩ : ∃ A' c2, v' = .slice A' (L ++ M).length c2 := by
      rcases r1.2 with ⟨e, e0⟩ | ⟨g, cap, cur, e, _⟩
      · exact ⟨none, 0, by rw [e, List.length_append, e0]⟩
      · exact ⟨_, _, by rw [e, List.length_append]⟩
    refine lo_run (v := .slice A' (L ++ M).length c2) (w' := w') (fun a ha => ?_) ⟨A', c2, rfl, ⟨by rw [shsC_append]; rw [List.length_append] at r1 ⊢; exact r1⟩, hkp.mono (fun i hi => (h.own.lt i hi).1)⟩
    unfold execOp
    simp only [resolve, invoke, builtin, Sem.run_bind, Sem.run_pure, Result.andThen_ok, List.map_toArray, List.map_cons, List.map_nil, ha.eval hx, ha.eval hy, r]
end
/-- What may be a progress. -/
def MayP (ka nn : Int) (ge : Nat) (mk : ByteArray) (L : List Shr) : Prop := (2 ≤ ka ∧ ka ≤ nn ∧ nn ≤ 255) ∧ mk.size ≤ 16 ∧ (L.length : Int) ≤ ka ∧ Came nn.toNat ge L
/-- A Submit's error, by its number; 0: none. -/
noncomputable def subE (ka nn : Int) (ge : Nat) (mk : ByteArray) (L : List Shr) (mk2 : ByteArray) (ix gn len : Nat) : Nat :=
  open Classical in
  if ¬ MayP ka nn ge mk L then 1 else if ¬ mk2 = mk ∨ (L.length : Int) = ka then 15 else if ¬ gn = ge then 14 else if ¬ Fit nn.toNat L ix len then 12 else 0
theorem subE_arg {ka nn : Int} {ge ix gn len : Nat} {mk mk2 : ByteArray} {L : List Shr} (h : ¬ MayP ka nn ge mk L) : subE ka nn ge mk L mk2 ix gn len = 1 := by unfold subE; rw [if_pos h]
theorem subE_state {ka nn : Int} {ge ix gn len : Nat} {mk mk2 : ByteArray} {L : List Shr} (h : MayP ka nn ge mk L) (h2 : ¬ mk2 = mk ∨ (L.length : Int) = ka) : subE ka nn ge mk L mk2 ix gn len = 15 := by unfold subE; rw [if_neg (fun x => x h), if_pos h2]
theorem subE_gen {ka nn : Int} {ge ix gn len : Nat} {mk mk2 : ByteArray} {L : List Shr} (h : MayP ka nn ge mk L) (h2 : ¬ (¬ mk2 = mk ∨ (L.length : Int) = ka)) (h3 : ¬ gn = ge) : subE ka nn ge mk L mk2 ix gn len = 14 := by unfold subE; rw [if_neg (fun x => x h), if_neg h2, if_pos h3]
theorem subE_share {ka nn : Int} {ge ix gn len : Nat} {mk mk2 : ByteArray} {L : List Shr} (h : MayP ka nn ge mk L) (h2 : ¬ (¬ mk2 = mk ∨ (L.length : Int) = ka)) (h3 : gn = ge) (h4 : ¬ Fit nn.toNat L ix len) : subE ka nn ge mk L mk2 ix gn len = 12 := by unfold subE; rw [if_neg (fun x => x h), if_neg h2, if_neg (fun x => x h3), if_pos h4]
theorem subE_ok {ka nn : Int} {ge ix gn len : Nat} {mk mk2 : ByteArray} {L : List Shr} (h : MayP ka nn ge mk L) (h2 : ¬ (¬ mk2 = mk ∨ (L.length : Int) = ka)) (h3 : gn = ge) (h4 : Fit nn.toNat L ix len) : subE ka nn ge mk L mk2 ix gn len = 0 := by unfold subE; rw [if_neg (fun x => x h), if_neg h2, if_neg (fun x => x h3), if_neg (fun x => x h4)]
end Go.Proofs.YtjbdimfpjbmggaaDoor
