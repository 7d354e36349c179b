/- Cuts and copies of bytes; append within what there is room for. -/
import Derived.Test.YtlkbkgghfhoggaaGreatDoorOn
import Derived.Laws.CopyRow
import Derived.Laws.OwnMore
import Derived.Laws.MakeOwn
set_option linter.unusedVariables false
set_option linter.unusedSimpArgs false
namespace Go.Proofs.YtlkbkgghfhoggaaGreatDoor
open Go.RowKit

/-! ### cuts of slices of bytes -/
theorem add_block (a : Addr) (k : Nat) : (a.add k).block = a.block := by unfold Addr.add; split <;> rfl
theorem Aw.cut {S : Nat → Prop} {A : Option Addr} {X : List Nat} (h : Aw S A X) (n c s : Nat) : Aw S (cutA A n c s) (X.drop n) := fun hx x e => by
  have hX : X ≠ [] := fun e => hx (by rw [e, List.drop_nil])
  unfold cutA at e
  split at e
  · exact h hX x e
  · obtain ⟨a, ha, rfl⟩ := Option.map_eq_some_iff.1 e
    rw [add_block]; exact h hX a ha
theorem Aw.take {S : Nat → Prop} {A : Option Addr} {X : List Nat} (h : Aw S A X) (n : Nat) : Aw S A (X.take n) := fun hx => h (fun e => hx (by rw [e, List.take_nil]))
theorem Bs.cut {w : World} {A : Option Addr} {X : List Nat} {c : Nat} (h : Bs w A X) (hc : X.length ≤ c) (n : Nat) : Bs w (cutA A n c 1) (X.drop n) :=
  ⟨fun v hv => h.byte v (List.mem_of_mem_drop hv), fun hx => by
    have hn : n < X.length := by
      rcases Nat.lt_or_ge n X.length with h1 | h1
      · exact h1
      · exact absurd (List.drop_eq_nil_of_le h1) hx
    obtain ⟨b, o, rfl, hc'⟩ := h.cell (fun e => by rw [e] at hn; simp at hn)
    refine ⟨b, o + n, ?_, fun i m hi => ?_⟩
    · unfold cutA; rw [if_neg (by omega), Nat.mul_one]; exact congrArg some (add_at b o n)
    · rw [List.getElem?_drop] at hi; rw [Nat.add_assoc]; exact hc' (n + i) m hi⟩
section
variable {P : Program} {n : Nat} {l : List (Nat × Value)} {w : World} {d? : Option Tmp} {op : Op} {ty : TypeId} {pos : String} {af : Array Edge} {g? : Option (Nat × Bool)} {x y z : Operand} {t e : TypeId} {p o len : Nat} {k : IntKind}
theorem pu_sliceLoP {c lo s : Nat} {i : Int} (hu : P.underlying t = some (.slice e)) (hs : sizeB P e s = true) (hx : lk l x = some (.slice (some ⟨p, o, none⟩) len c)) (hl : lk l y = some (.int k i)) (hi : i = (lo : Int)) (h1 : lo ≤ len) (h2 : len ≤ c) (h3 : lo < c) :
    Pu P (.slice t x (some y) none none) l w (.slice (some ⟨p, o + lo * s, none⟩) (len - lo) (c - lo)) := by
  have h := pu_sliceLo (w := w) hu hs hx hl hi h1 h2
  unfold cutA at h
  rw [if_neg (by omega), Option.map_some, add_at] at h
  exact h
theorem lo_copy {m m' c c' : Nat} {A : Option Addr} {X Y : List Nat} {t' : TypeId} {p o k : Nat} (hB : Bk w p (u8s X) t') (hx : lk l x = some (.slice (some ⟨p, o, none⟩) k c)) (hy : lk l y = some (.slice A m c')) (hS : Bs w A Y) (hY : Y.length = m) (hp : 0 < Y.length)
    (hm : m' = min m k) (ho : o + m' ≤ X.length) :
    Lo Tryz.prog ⟨d?, .call ⟨.builtin .copy, #[x, y], #[22, 22]⟩, ty, pos, af, g?⟩ n l w (fun v w' => v = .int .i64 ((m' : Nat) : Int) ∧ Kp (On p) w w' ∧ Bk w' p (u8s (X.take o ++ Y.take m' ++ X.drop (o + m'))) t') := by
  obtain ⟨b, o2, rfl, hc⟩ := hS.cell (List.length_pos_iff.1 hp)
  subst hY hm
  have hq : (u8s (Y.take (min Y.length k))).length = min Y.length k := by rw [u8s_length, List.length_take]; omega
  have r := run_copy_row (P := Tryz.prog) w 22 22 ty 5 p o k c ⟨b, o2, none⟩ Y.length c' (u8s X).toArray t' (u8s (Y.take (min Y.length k))) Tryz.underlying22 (by kernel_rfl) hB hq
    (fun j v hv => by
      simp only [u8s, List.getElem?_map, Option.map_eq_some_iff] at hv
      obtain ⟨q, hq, rfl⟩ := hv
      rw [List.getElem?_take] at hq
      split at hq
      · rw [add_at]; exact hc j q hq
      · cases hq)
    (by rw [hq]; simp [u8s]; omega) (u8s_each _)
  rw [hq] at r
  have e : ((u8s X).toArray.toList.take o ++ u8s (Y.take (min Y.length k)) ++ (u8s X).toArray.toList.drop (o + min Y.length k)) = u8s (X.take o ++ Y.take (min Y.length k) ++ X.drop (o + min Y.length k)) := by simp [u8s]
  rw [e] at r
  refine lo_run (v := .int .i64 ((min Y.length k : Nat) : Int)) (w' := w.setRow p (u8s (X.take o ++ Y.take (min Y.length k) ++ X.drop (o + min Y.length k))).toArray) (fun a ha => ?_) ⟨rfl, Kp.rowed _ _ _, setRow_heap w p _ _ t' _ hB⟩
  unfold execOp
  simp only [resolve, invoke, builtin, Sem.run_bind, Sem.run_pure, Result.andThen_ok, List.map_toArray, List.map_cons, List.map_nil, ha.eval hx, ha.eval hy, r]
  rfl
theorem lo_appFit {p c k' c' : Nat} {A : Option Addr} {X Y : List Nat} {base k : Nat} (h : Ob w base (.slice (some ⟨p, 0, none⟩) k c) X) (hk : X.length = k) (hx : lk l x = some (.slice (some ⟨p, 0, none⟩) k c)) (hy : lk l y = some (.slice A k' c')) (hk' : Y.length = k') (hS : Bs w A Y) (hp : 0 < Y.length) (hfit : X.length + Y.length ≤ c) :
    Lo Tryz.prog ⟨d?, .call ⟨.builtin .append, #[x, y], #[22, 22]⟩, ty, pos, af, g?⟩ n l w (fun v w' => v = .slice (some ⟨p, 0, none⟩) (X ++ Y).length c ∧ Ob w' base (.slice (some ⟨p, 0, none⟩) (X ++ Y).length c) (X ++ Y) ∧ Kp (On p) w w') := by
  obtain ⟨b, o2, rfl, hc⟩ := hS.cell (List.length_pos_iff.1 hp)
  subst hk hk'
  obtain ⟨i, hi, hzz⟩ := Option.map_eq_some_iff.1 u8_info
  simp only [Prod.mk.injEq] at hzz
  obtain ⟨w', r, r1, r2⟩ := run_append_fits (P := Tryz.prog) w base 22 ty 5 i 1 u8_under hi hzz.2.1 p X.length c (u8s X) h.own ⟨b, o2, none⟩ Y.length c' (u8s Y) (by simp [u8s])
    (fun j u hu => by
      simp only [u8s, List.getElem?_map, Option.map_eq_some_iff] at hu
      obtain ⟨q, hq, rfl⟩ := hu
      rw [add_at]; exact hc j q hq) (u8s_each Y) hfit
  refine lo_run (v := .slice (some ⟨p, 0, none⟩) (X ++ Y).length c) (w' := w') (fun a ha => ?_) ⟨rfl, ⟨by rw [u8s_append, List.length_append]; exact r1, fun q hq => (List.mem_append.1 hq).elim (h.byte q) (hS.byte q)⟩, (Kp.refl (On p) w).grown r2 (fun b hb => .inl (Option.some.inj hb).symm)⟩
  unfold execOp
  simp only [resolve, invoke, builtin, Sem.run_bind, Sem.run_pure, Result.andThen_ok, List.map_toArray, List.map_cons, List.map_nil, ha.eval hx, ha.eval hy, r, List.length_append]
end
theorem Ob.onF {w w' : World} {base p q k c : Nat} {X : List Nat} (h : Ob w base (.slice (some ⟨p, 0, none⟩) k c) X) (kk : Kp (On q) w w') (hn : p ≠ q) : Ob w' base (.slice (some ⟨p, 0, none⟩) k c) X := h.kept kk (fun b hb hc => hn ((Option.some.inj hb).trans hc))
theorem Ob.ne {w : World} {base p q k c : Nat} {X : List Nat} (h : Ob w base (.slice (some ⟨p, 0, none⟩) k c) X) (hq : w.heap.size ≤ q) : q ≠ p := fun e => by have := (h.lt p rfl).2; omega
theorem pu_bstr {P : Program} {l : List (Nat × Value)} {w : World} {x : Operand} {st dt e len c : Nat} {a : Option Addr} {X : List Nat} (hB : Bs w a X) (hs : P.underlying st = some (.slice e)) (he : P.underlying e = some (.int .u8)) (hd : P.underlying dt = some .string)
    (hx : lk l x = some (.slice a len c)) (hl : X.length = len) : Pu P (.convert st dt x) l w (.string (bstr X)) := fun n A ha d ty pos af g => by
  subst hl
  unfold execOp
  simp only [ha.eval hx, Sem.run_bind, bytes_string hs he hd hB c, Result.andThen_ok, Sem.run_pure]
theorem Aw.ofBk {p q : Nat} {X : List Nat} (h : p ≠ q) : Aw (On q) (some ⟨p, 0, none⟩) X := fun _ x hx hc => by
  injection hx with hx; subst hx; exact h hc
theorem Aw.ofOb {w : World} {base n c q : Nat} {A : Option Addr} {X : List Nat} (h : Ob w base (.slice A n c) X) (hq : q < base) : Aw (On q) A X := fun _ x hx hc => by
  obtain ⟨A', c', e, _, hb⟩ := h.reads
  injection e with e1 e2 e3
  subst e1
  have := hb x hx
  have hc' : x.block = q := hc
  omega
theorem Ob.made {w : World} {base g N : Nat} {X : List Nat} (h : Bk w g (u8s X) 5) (hb : base ≤ g) (hl : X.length = N) (hN : N ≤ maxLen) (hx : ∀ n ∈ X, n < 256) : Ob w base (.slice (some ⟨g, 0, none⟩) N N) X := by
  have := Ob.of_block (k := N) h hb hl hN hx (Nat.le_refl _)
  rwa [List.take_of_length_le (by omega), hl] at this
theorem Ob.blk {w : World} {base n c : Nat} {A : Option Addr} {X : List Nat} (h : Ob w base (.slice A n c) X) (hx : 0 < X.length) : ∃ p, A = some ⟨p, 0, none⟩ ∧ base ≤ p ∧ p < w.heap.size := by
  rcases h.own.2 with ⟨e, hn⟩ | ⟨g, cap, cur, e, hb, hh, _⟩
  · omega
  · injection e with e1 e2 e3
    exact ⟨g, e1, hb, lt_of_block hh⟩
section
variable {P : Program} {l : List (Nat × Value)} {w : World}
theorem pu_makeFuncC {fn : Fn} {xs : List Operand} {vs : List Value} (hx : lkL l xs = some vs) : Pu P (.makeFunc fn #[] xs.toArray) l w (.func fn #[] vs.toArray) := fun n A ha d ty pos af g => by
  have he : xs.toArray.map A.eval = vs.toArray := by rw [List.map_toArray, ha.evalL hx]
  unfold execOp
  simp only [he, Instr.makeFunc, Sem.run_bind, Sem.run_pure, Result.andThen_ok, List.map_toArray, List.map_nil]
end
theorem Ob.low0 {w : World} {base p : Nat} {t : TypeId} (h : Bk w p [] 5) (hb : base ≤ p) : Ob w base (.slice (some ⟨p, 0, none⟩) ([] : List Nat).length 0) [] :=
  Ob.made (X := []) h hb rfl (by decide) (fun _ hn => by cases hn)
section
variable {P : Program} {n : Nat} {l : List (Nat × Value)} {w : World} {d? : Option Tmp} {ty : TypeId} {pos : String} {af : Array Edge} {g? : Option (Nat × Bool)} {x y : Operand} {t e : TypeId}
theorem lo_buildSlice0 {sz : Nat} (hu : P.underlying t = some (.slice e)) (hs : sizeB P e sz = true) :
    Lo P ⟨d?, .buildSlice t 0 #[], ty, pos, af, g?⟩ n l w (fun v w' => ∃ p, v = .slice (some ⟨p, 0, none⟩) 0 0 ∧ New w p [] e w') := by
  refine lo_run (v := .slice (some ⟨w.heap.size, 0, none⟩) 0 0) (w' := w.alloc (.cells ([] : List Value).toArray e)) (fun a ha => ?_) ⟨_, rfl, New.alloc w _ e⟩
  unfold execOp
  simp [Instr.buildSlice, run_underlying hu, sizeB_run hs, newRow, Instr.fill]
  congr 2
  exact Array.eq_empty_of_size_eq_zero (by simp)
/-- A byte put into a slice of the call's own. -/
theorem lo_storeFix {p base k c i n' : Nat} {X : List Nat} (h : Ob w base (.slice (some ⟨p, 0, none⟩) k c) X) (hs : sizeB P t 1 = true) (hx : lk l x = some (.pointer (some ⟨p, i, none⟩))) (hy : lk l y = some (.int .u8 (n' : Int))) (hi : i < X.length) (hn : n' < 256) :
    Lo P ⟨d?, .store t x y, ty, pos, af, g?⟩ n l w (fun _ w' => Ob w' base (.slice (some ⟨p, 0, none⟩) k c) (X.set i n') ∧ Kp (On p) w w') := by
  rcases h.own.2 with ⟨e, hn⟩ | ⟨g, cap, cur, e, hb, hh, hn, hcm, hcs, ht⟩
  · cases e
  · injection e with e1 e2 e3
    have e1' := Option.some.inj e1
    injection e1' with e4
    subst e4 e2 e3
    have hB : Bk w p cur.toList 5 := by unfold Bk; simpa using hh
    have hlen : i < cur.toList.length := by
      have := congrArg List.length ht
      rw [List.length_take, u8s_length] at this
      omega
    refine (lo_store hB hs hx hy rfl hlen).mono fun _ w' hw => ⟨⟨⟨by rw [List.length_set]; simp [u8s], .inr ⟨p, c, (cur.toList.set i (.int .u8 (n' : Int))).toArray, ?_, hb, hw.2, by rw [List.length_set]; exact hn, hcm, ?_, ?_⟩⟩, ?_⟩, hw.1⟩
    · rw [List.length_set]
    · simp; simpa using hcs
    · rw [List.length_set]
      show (cur.toList.set i _).take _ = _
      rw [List.take_set, ht, u8s_set]
    · intro v hv
      rcases List.mem_or_eq_of_mem_set hv with h1 | h1
      · exact h.byte v h1
      · rw [h1]; exact ‹n' < 256›
end
theorem Ob.cellF {w : World} {base p k c i n : Nat} {X : List Nat} (h : Ob w base (.slice (some ⟨p, 0, none⟩) k c) X) (e : X[i]? = some n) : w.cell? ⟨p, i, none⟩ = some (.int .u8 (n : Int)) := by
  obtain ⟨b, o, e1, h1⟩ := h.bs.at e
  cases e1
  rwa [Nat.zero_add] at h1
/-- An append, by what it leaves alone: all but the slice's own block. -/
structure Apn (w : World) (base : Nat) (v : Value) (X : List Nat) (A : Option Addr) (c : Nat) (w' : World) : Prop where
  ob : Ob w' base (.slice A X.length c) X
  kpo : Kp (fun i => v.ownBlock = some i) w w'
  own : (Value.slice A X.length c).ownBlock = v.ownBlock ∨ (Value.slice A X.length c).ownBlock = some w.heap.size
theorem Apn.ne {w w' : World} {base c q : Nat} {v : Value} {X : List Nat} {A : Option Addr} (h : Apn w base v X A c w') (hq : ∀ b, v.ownBlock = some b → b ≠ q) (hl : q < w.heap.size) : ∀ b, (Value.slice A X.length c).ownBlock = some b → b ≠ q := fun b hb => by
  rcases h.own with e | e
  · exact hq b (e ▸ hb)
  · rw [e] at hb; cases hb; omega
theorem lo_appN {n : Nat} {l : List (Nat × Value)} {w : World} {d? : Option Tmp} {ty : TypeId} {pos : String} {af : Array Edge} {g? : Option (Nat × Bool)} {x y : Operand} {A B : Option Addr} {X Y : List Nat} {c c' k k' base : Nat}
    (h : Ob w base (.slice A k c) X) (hk : X.length = k) (hx : lk l x = some (.slice A k c)) (hy : lk l y = some (.slice B k' c')) (hk' : Y.length = k') (hB : Bs w B Y) (hlen : X.length + Y.length ≤ 70368744177664) (hbase : base ≤ w.heap.size) :
    Lo Tryz.prog ⟨d?, .call ⟨.builtin .append, #[x, y], #[22, 22]⟩, ty, pos, af, g?⟩ n l w (fun v w' => ∃ A' c', v = .slice A' (X ++ Y).length c' ∧ Apn w base (.slice A k c) (X ++ Y) A' c' w') := fun a ha K Q hK => by
  subst hk'
  refine wp_app x y rfl base (.slice A k c) X Y (ha.eval hx) h B c' (ha.eval hy) hB hlen hbase (fun v' w' h1 h2 h3 => ?_)
  obtain ⟨A', c2, rfl, h4, _⟩ := h1.reads
  exact hK _ _ ⟨A', c2, rfl, h1, (Kp.refl (fun i => (Value.slice A k c).ownBlock = some i) w).grown h2 (fun b hb => .inl hb), h3⟩
end Go.Proofs.YtlkbkgghfhoggaaGreatDoor
