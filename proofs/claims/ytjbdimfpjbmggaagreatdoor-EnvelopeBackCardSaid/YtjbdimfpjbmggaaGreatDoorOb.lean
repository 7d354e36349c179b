/- Slices of bytes that the call itself has made: 'Ob w base v l'; append onto them of whatever reads as bytes. -/
import Derived.Test.YtjbdimfpjbmggaaGreatDoorRk2
import Derived.Maps.AppendAt
import Derived.Laws.OwnMore
import Derived.Laws.MakeOwn
import Derived.OwnWalk
set_option linter.unusedVariables false
set_option linter.unusedSimpArgs false
namespace Go.Proofs.YtjbdimfpjbmggaaGreatDoor
open Go.RowKit

/-- v is a slice of the call's own (its block at base or behind), which holds the bytes l; or nil, and l is empty. -/
structure Ob (w : World) (base : Nat) (v : Value) (l : List Nat) : Prop where
  own : w.ownsRow base 5 1 v l.length (u8s l)
  byte : ∀ n ∈ l, n < 256

theorem u8_info : (Tryz.prog.info? 5).map (fun i => (i.zero, i.size, i.bytes)) = some (some (.int .u8 0), 1, 1) := by kernel_rfl
theorem u8_under : Tryz.prog.underlying 22 = some (.slice 5) := Tryz.underlying22

theorem u8s_append (l m : List Nat) : u8s (l ++ m) = u8s l ++ u8s m := by simp [u8s]
theorem u8s_each (l : List Nat) : ∀ u ∈ u8s l, u.oneCell' = true := by
  intro u hu
  obtain ⟨n, _, rfl⟩ := List.mem_map.1 hu
  rfl
theorem add_lit0 (g j : Nat) : (⟨g, 0, none⟩ : Addr).add j = ⟨g, j, none⟩ := by unfold Addr.add; split <;> simp_all

section
variable {w w' : World} {base : Nat} {v : Value} {l m : List Nat} {S : Nat → Prop}
theorem Ob.nil (w : World) (base : Nat) : Ob w base (.slice none 0 0) [] := ⟨⟨by simp [u8s], .inl ⟨rfl, rfl⟩⟩, by simp⟩
theorem Ob.reads (h : Ob w base v l) : ∃ A c, v = .slice A l.length c ∧ Bs w A l ∧ ∀ x, A = some x → base ≤ x.block := by
  rcases h.own.2 with ⟨rfl, hn⟩ | ⟨g, cap, cur, rfl, hb, hh, hn, _, _, ht⟩
  · have : l = [] := List.eq_nil_of_length_eq_zero hn
    subst this
    exact ⟨none, 0, rfl, Bs.nil _ _, by simp⟩
  · refine ⟨_, cap, rfl, ⟨h.byte, fun _ => ⟨g, 0, rfl, fun i n hi => ?_⟩⟩, fun x hx => by injection hx with hx; subst hx; exact hb⟩
    have hc : cur[i]? = some (.int .u8 (n : Int)) := by
      have h1 := u8s_get hi
      rw [← ht, List.getElem?_take] at h1
      split at h1
      · simpa using h1
      · cases h1
    rw [Nat.zero_add]
    simp [World.cell?, hh, hc]
theorem Ob.kept (h : Ob w base v l) (k : Kp S w w') (hn : ∀ b, v.ownBlock = some b → ¬ S b) : Ob w' base v l :=
  ⟨by
    refine ⟨h.own.1, ?_⟩
    rcases h.own.2 with h1 | ⟨g, cap, cur, rfl, hb, hh, hr⟩
    · exact .inl h1
    · exact .inr ⟨g, cap, cur, rfl, hb, k.blk hh (hn g rfl), hr⟩, h.byte⟩
theorem Ob.keptNo (h : Ob w base v l) (k : Kp No w w') : Ob w' base v l := h.kept k (fun _ _ f => f)
theorem Ob.lt (h : Ob w base v l) : ∀ b, v.ownBlock = some b → base ≤ b ∧ b < w.heap.size := by
  intro b hb
  rcases h.own.2 with ⟨rfl, _⟩ | ⟨g, cap, cur, rfl, h1, hh, _⟩
  · cases hb
  · injection hb with hb; subst hb; exact ⟨h1, lt_of_block hh⟩
theorem Ob.low {base' : Nat} (h : Ob w base v l) (hb : base' ≤ base) : Ob w base' v l :=
  ⟨⟨h.own.1, by
    rcases h.own.2 with h1 | ⟨g, cap, cur, rfl, h2, hr⟩
    · exact .inl h1
    · exact .inr ⟨g, cap, cur, rfl, Nat.le_trans hb h2, hr⟩⟩, h.byte⟩
/-- A literal, or what was made. -/
theorem Ob.of_block {g cap : Nat} {cs : List Nat} (hh : w.heap[g]? = some (.cells (u8s cs).toArray 5 (0, 0))) (hb : base ≤ g) (hc : cs.length = cap) (hcap : cap ≤ maxLen) (hl : ∀ n ∈ cs, n < 256) {k : Nat} (hk : k ≤ cap) : Ob w base (.slice (some ⟨g, 0, none⟩) (cs.take k).length cap) (cs.take k) :=
  ⟨⟨by simp [u8s], .inr ⟨g, cap, _, rfl, hb, hh, by simp; omega, hcap, by simp [u8s, hc], by simp [u8s, List.map_take]⟩⟩, fun n hn => hl n (List.mem_of_mem_take hn)⟩
end

section
variable {w : World} {base : Nat} {v : Value} {l m : List Nat}
theorem run_app_nil (ty : TypeId) (h : Ob w base v l) (c : Nat) : (Builtin.append_ #[22, 22] ty #[v, .slice none 0 c]).run Tryz.prog w = .ok v w := by
  obtain ⟨i, hi, hzz⟩ := Option.map_eq_some_iff.1 u8_info
  rcases h.own.2 with ⟨rfl, h0⟩ | ⟨g, cap, cur, rfl, _, _, hnc, _⟩
  · simp [Builtin.append_, run_underlying u8_under, sizeOf, typeInfo, hi, Builtin.lenOf, Builtin.firstCells]
  · simp [Builtin.append_, run_underlying u8_under, sizeOf, typeInfo, hi, Builtin.lenOf, Builtin.firstCells, hnc, storeCells]

set_option maxRecDepth 100000 in
theorem run_app (ty : TypeId) (h : Ob w base v l) (A : Option Addr) (c : Nat) (hr : Bs w A m) (hlen : l.length + m.length ≤ 70368744177664) (hbase : base ≤ w.heap.size) :
    ∃ v' w', (Builtin.append_ #[22, 22] ty #[v, .slice A m.length c]).run Tryz.prog w = .ok v' w' ∧ Ob w' base v' (l ++ m) ∧ w.grownBy w' v.ownBlock ∧ (v'.ownBlock = v.ownBlock ∨ v'.ownBlock = some w.heap.size) := by
  have hbyte : ∀ n ∈ l ++ m, n < 256 := fun n hn => (List.mem_append.1 hn).elim (h.byte n) (hr.byte n)
  rcases A with _ | ad
  · have hm : m = [] := by
      cases m with
      | nil => rfl
      | cons n m => obtain ⟨b, o, e, _⟩ := hr.cell (by simp); cases e
    subst hm
    exact ⟨v, w, run_app_nil ty h c, by simpa using h, World.grownBy.refl w _, .inl rfl⟩
  · obtain ⟨i, hi, hzz⟩ := Option.map_eq_some_iff.1 u8_info
    simp only [Prod.mk.injEq] at hzz
    obtain ⟨hz0, hz1, hz2⟩ := hzz
    have hcells : ∀ j u, (u8s m)[j]? = some u → w.cell? (ad.add j) = some u := by
      intro j u hu
      simp only [u8s, List.getElem?_map, Option.map_eq_some_iff] at hu
      obtain ⟨n, hn, rfl⟩ := hu
      obtain ⟨b, o, e, hc⟩ := hr.at hn
      injection e with e
      subst e
      have hplain : (⟨b, o, none⟩ : Addr).add j = ⟨b, o + j, none⟩ := by unfold Addr.add; split <;> simp_all
      rw [hplain]; exact hc
    obtain ⟨v', w', hrun, h2, h3, _, h5⟩ := run_append_own_at (P := Tryz.prog) w base 22 ty 5 i (.int .u8 0) 1 1 u8_under hi hz0 hz1 hz2 rfl (by decide) v l.length (u8s l) h.own ad m.length c (u8s m) (by simp [u8s]) hcells (u8s_each m) (by unfold maxLen; omega) (by omega) hbase
    exact ⟨v', w', hrun, ⟨by rw [u8s_append, List.length_append]; exact h2, hbyte⟩, h3, h5⟩

theorem wp_app {o : Oper} {a : Act} {K : Act → World → Prop} {Q : Exit → Act → World → Prop} (s x : Operand)
    (ho : o.op = .call { callee := .builtin .append, args := #[s, x], argTypes := #[22, 22] })
    (base : Nat) (v : Value) (l m : List Nat) (hs : a.eval s = v) (h : Ob w base v l) (A : Option Addr) (c : Nat) (hx : a.eval x = .slice A m.length c) (hr : Bs w A m) (hlen : l.length + m.length ≤ 70368744177664) (hbase : base ≤ w.heap.size)
    (hk : ∀ v' w', Ob w' base v' (l ++ m) → w.grownBy w' v.ownBlock → (v'.ownBlock = v.ownBlock ∨ v'.ownBlock = some w.heap.size) → K (a.put o.dst v') w') : o.wp Tryz.prog a w K Q := by
  obtain ⟨v', w', hrun, h2, h3, h4⟩ := run_app o.type h A c hr hlen hbase
  unfold Oper.wp execOp
  simp only [ho, resolve, invoke, builtin, Sem.run_bind, Sem.run_pure, Result.andThen_ok, List.map_toArray, List.map_cons, List.map_nil, hs, hx, hrun]
  exact hk v' w' h2 h3 h4
theorem wpList_app {ops : Array Oper} {rest : List Oper} {o : Oper} {a : Act} {Q : Exit → Act → World → Prop} (hgd : o.guard = none) (s x : Operand)
    (ho : o.op = .call { callee := .builtin .append, args := #[s, x], argTypes := #[22, 22] })
    (base : Nat) (v : Value) (l m : List Nat) (hs : a.eval s = v) (h : Ob w base v l) (A : Option Addr) (c : Nat) (hx : a.eval x = .slice A m.length c) (hr : Bs w A m) (hlen : l.length + m.length ≤ 70368744177664) (hbase : base ≤ w.heap.size)
    (hk : ∀ v' w', Ob w' base v' (l ++ m) → w.grownBy w' v.ownBlock → (v'.ownBlock = v.ownBlock ∨ v'.ownBlock = some w.heap.size) → wpList Tryz.prog ops Q rest (a.put o.dst v') w') : wpList Tryz.prog ops Q (o :: rest) a w := by
  exact wpList_plain hgd fun K hK => wp_app s x ho base v l m hs h A c hx hr hlen hbase (fun v' w' h1 h2 h3 => hK _ _ (hk v' w' h1 h2 h3))
end
end Go.Proofs.YtjbdimfpjbmggaaGreatDoor
