/- Three slices of a call's own that grow side by side. -/
import Derived.Test.YtjbdimfpjbmggaaDoorHd
import Derived.Test.YtjbdimfpjbmggaaDoorSj
set_option linter.unusedVariables false
set_option linter.unusedSimpArgs false
namespace Go.Proofs.YtjbdimfpjbmggaaDoor
open Go.RowKit Gm
def Ap (v u : Value) : Prop := ∀ p, v.ownBlock = some p → u.ownBlock ≠ some p
structure O3 (w : World) (base : Nat) (v1 : Value) (X1 : List Nat) (v2 : Value) (X2 : List Nat) (v3 : Value) (X3 : List Nat) : Prop where
  a : Ob w base v1 X1
  b : Ob w base v2 X2
  c : Ob w base v3 X3
  ab : Ap v1 v2
  ac : Ap v1 v3
  bc : Ap v2 v3
section
variable {w w' : World} {base p : Nat} {v1 v2 v3 : Value} {X1 X2 X3 : List Nat}
theorem Ap.symm {v u : Value} (h : Ap v u) : Ap u v := fun p h1 h2 => h p h2 h1
theorem Ap.nil (v : Value) : Ap v (.slice none 0 0) := fun _ _ h => by cases h
theorem O3.nil (w : World) (base : Nat) : O3 w base (.slice none 0 0) [] (.slice none 0 0) [] (.slice none 0 0) [] := ⟨Ob.nil _ _, Ob.nil _ _, Ob.nil _ _, Ap.nil _, Ap.nil _, Ap.nil _⟩
theorem O3.drop (h : O3 w base v1 X1 v2 X2 v3 X3) : O3 w base v1 X1 (.slice none 0 0) [] (.slice none 0 0) [] := ⟨h.a, Ob.nil _ _, Ob.nil _ _, Ap.nil _, Ap.nil _, Ap.nil _⟩
theorem O3.keptNo (h : O3 w base v1 X1 v2 X2 v3 X3) (k : Kp No w w') : O3 w' base v1 X1 v2 X2 v3 X3 := ⟨h.a.keptNo k, h.b.keptNo k, h.c.keptNo k, h.ab, h.ac, h.bc⟩
theorem O3.draw (h : O3 w base v1 X1 v2 X2 v3 X3) : O3 w.drew base v1 X1 v2 X2 v3 X3 := ⟨h.a.draw, h.b.draw, h.c.draw, h.ab, h.ac, h.bc⟩
theorem O3.on (h : O3 w base v1 X1 v2 X2 v3 X3) (k : Kp (On p) w w') (hp : p < base) : O3 w' base v1 X1 v2 X2 v3 X3 := ⟨h.a.on k hp, h.b.on k hp, h.c.on k hp, h.ab, h.ac, h.bc⟩
end
section
variable {n : Nat} {l : List (Nat × Value)} {w : World} {d? : Option Tmp} {ty : TypeId} {pos : String} {af : Array Edge} {g? : Option (Nat × Bool)} {x y : Operand} {A B : Option Addr} {X Y X1 X2 X3 : List Nat} {c c' k k' base : Nat} {v1 v2 v3 : Value}
theorem lo_appP (h : Ob w base (.slice A k c) X) (hk : X.length = k) (hx : lk l x = some (.slice A k c)) (hy : lk l y = some (.slice B k' c')) (hk' : Y.length = k') (hB : Bs w B Y) (hlen : X.length + Y.length ≤ 70368744177664) (hbase : base ≤ w.heap.size) :
    Lo Tryd.prog ⟨d?, .call ⟨.builtin .append, #[x, y], #[22, 22]⟩, ty, pos, af, g?⟩ n l w (fun v w' => ∃ A' c', v = .slice A' (X ++ Y).length c' ∧ Ob w' base (.slice A' (X ++ Y).length c') (X ++ Y) ∧ Kp (fun i => (Value.slice A k c).ownBlock = some i) w w' ∧
      ((Value.slice A' (X ++ Y).length c').ownBlock = (Value.slice A k c).ownBlock ∨ (Value.slice A' (X ++ Y).length c').ownBlock = some w.heap.size)) := fun a ha K Q hK => by
  subst hk'
  refine wp_app x y rfl base (.slice A k c) X Y (ha.eval hx) h B c' (ha.eval hy) hB hlen hbase (fun v' w' h1 h2 h3 => ?_)
  obtain ⟨A', c2, rfl, h4, _⟩ := h1.reads
  exact hK _ _ ⟨A', c2, rfl, h1, (Kp.refl _ w).grown h2 (fun b hb => .inl hb), h3⟩
theorem ap_new {v u v' : Value} {w w' : World} {X : List Nat} (h : Ap v u) (hu : Ob w base u X) (hv : v'.ownBlock = v.ownBlock ∨ v'.ownBlock = some w.heap.size) : Ap v' u := fun p h1 h2 => by
  rcases hv with e | e
  · exact h p (e ▸ h1) h2
  · have := (hu.lt p h2).2
    rw [e] at h1
    have := Option.some.inj h1
    omega
theorem ob_ap {v u : Value} {w w' : World} {X : List Nat} (h : Ap v u) (hu : Ob w base u X) (k : Kp (fun i => v.ownBlock = some i) w w') : Ob w' base u X := hu.kept k (fun b hb hc => h b hc hb)
theorem ge_own {v : Value} {w w' : World} {X : List Nat} (h : Ob w base v X) (k : Kp (fun i => v.ownBlock = some i) w w') : Kp (fun i => base ≤ i) w w' := k.mono (fun i hi => (h.lt i hi).1)
theorem lo_o3a (h : O3 w base (.slice A k c) X v2 X2 v3 X3) (hk : X.length = k) (hx : lk l x = some (.slice A k c)) (hy : lk l y = some (.slice B k' c')) (hk' : Y.length = k') (hB : Bs w B Y) (hlen : X.length + Y.length ≤ 70368744177664) (hbase : base ≤ w.heap.size) :
    Lo Tryd.prog ⟨d?, .call ⟨.builtin .append, #[x, y], #[22, 22]⟩, ty, pos, af, g?⟩ n l w (fun v w' => ∃ A' c', v = .slice A' (X ++ Y).length c' ∧ O3 w' base (.slice A' (X ++ Y).length c') (X ++ Y) v2 X2 v3 X3 ∧ Kp (fun i => base ≤ i) w w') :=
  (lo_appP h.a hk hx hy hk' hB hlen hbase).mono fun v w' ⟨A', c', e, h1, h2, h3⟩ => ⟨A', c', e, ⟨h1, ob_ap h.ab h.b h2, ob_ap h.ac h.c h2, ap_new (w' := w') h.ab h.b h3, ap_new (w' := w') h.ac h.c h3, h.bc⟩, ge_own h.a h2⟩
theorem lo_o3b (h : O3 w base v1 X1 (.slice A k c) X v3 X3) (hk : X.length = k) (hx : lk l x = some (.slice A k c)) (hy : lk l y = some (.slice B k' c')) (hk' : Y.length = k') (hB : Bs w B Y) (hlen : X.length + Y.length ≤ 70368744177664) (hbase : base ≤ w.heap.size) :
    Lo Tryd.prog ⟨d?, .call ⟨.builtin .append, #[x, y], #[22, 22]⟩, ty, pos, af, g?⟩ n l w (fun v w' => ∃ A' c', v = .slice A' (X ++ Y).length c' ∧ O3 w' base v1 X1 (.slice A' (X ++ Y).length c') (X ++ Y) v3 X3 ∧ Kp (fun i => base ≤ i) w w') :=
  (lo_appP h.b hk hx hy hk' hB hlen hbase).mono fun v w' ⟨A', c', e, h1, h2, h3⟩ => ⟨A', c', e, ⟨ob_ap h.ab.symm h.a h2, h1, ob_ap h.bc h.c h2, (ap_new (w' := w') h.ab.symm h.a h3).symm, h.ac, ap_new (w' := w') h.bc h.c h3⟩, ge_own h.b h2⟩
theorem lo_o3c (h : O3 w base v1 X1 v2 X2 (.slice A k c) X) (hk : X.length = k) (hx : lk l x = some (.slice A k c)) (hy : lk l y = some (.slice B k' c')) (hk' : Y.length = k') (hB : Bs w B Y) (hlen : X.length + Y.length ≤ 70368744177664) (hbase : base ≤ w.heap.size) :
    Lo Tryd.prog ⟨d?, .call ⟨.builtin .append, #[x, y], #[22, 22]⟩, ty, pos, af, g?⟩ n l w (fun v w' => ∃ A' c', v = .slice A' (X ++ Y).length c' ∧ O3 w' base v1 X1 v2 X2 (.slice A' (X ++ Y).length c') (X ++ Y) ∧ Kp (fun i => base ≤ i) w w') :=
  (lo_appP h.c hk hx hy hk' hB hlen hbase).mono fun v w' ⟨A', c', e, h1, h2, h3⟩ => ⟨A', c', e, ⟨ob_ap h.ac.symm h.a h2, ob_ap h.bc.symm h.b h2, h1, h.ab, (ap_new (w' := w') h.ac.symm h.a h3).symm, (ap_new (w' := w') h.bc.symm h.b h3).symm⟩, ge_own h.c h2⟩
theorem lo_o3s {t : TypeId} {i n' : Nat} (h : O3 w base v1 X1 v2 X2 (.slice A k c) X) (hs : sizeB Tryd.prog t 1 = true) (hx : lk l x = some (.pointer (some ((adr A).add i)))) (hy : lk l y = some (.int .u8 (n' : Int))) (hi : i < X.length) (hn : n' < 256) :
    Lo Tryd.prog ⟨d?, .store t x y, ty, pos, af, g?⟩ n l w (fun _ w' => O3 w' base v1 X1 v2 X2 (.slice A k c) (X.set i n') ∧ Kp (fun i => base ≤ i) w w') := by
  obtain ⟨p, rfl, hp, _⟩ := h.c.blk (by omega)
  have hx' : lk l x = some (.pointer (some ⟨p, i, none⟩)) := by rw [hx]; show some (Value.pointer (some ((⟨p, 0, none⟩ : Addr).add i))) = _; rw [add_at, Nat.zero_add]
  refine (lo_storeFix h.c hs hx' hy hi hn).mono fun _ w' hw => ?_
  have k2 : Kp (fun i => (Value.slice (some ⟨p, 0, none⟩) k c).ownBlock = some i) w w' := hw.2.mono (fun i hi => by show some p = some i; rw [show i = p from hi])
  exact ⟨⟨ob_ap h.ac.symm h.a k2, ob_ap h.bc.symm h.b k2, hw.1, h.ab, h.ac, h.bc⟩, ge_own h.c k2⟩
end
theorem ysB_get {xs Xj : List Nat} {s i a x : Nat} (h : Xj[i]? = some a) (hx : xs[i]? = some x) : (ysB xs Xj s)[i]? = some (gdiv (a ^^^ s) x) := by
  have hi := (List.getElem?_eq_some_iff.1 hx).1
  simp [ysB, List.getElem?_map, List.getElem?_range hi, h, hx]
theorem yN_get {xs ys : List Nat} {m i x y : Nat} (hx : xs[i]? = some x) (hy : (yN xs ys m)[i]? = some y) : (yN xs ys (m + 1))[i]? = some (gdiv (y ^^^ cN xs ys m) x) := by
  have hi := (List.getElem?_eq_some_iff.1 hx).1
  show ((List.range xs.length).map _)[i]? = _
  rw [List.getElem?_map, List.getElem?_range hi]
  show some (gdiv ((yN xs ys m).getD i 0 ^^^ ipN xs (yN xs ys m) 0 xs.length) (xs.getD i 0)) = _
  rw [getD_some hx, getD_some hy]; rfl
theorem mix_get {Y y : List Nat} {i k : Nat} (hY : Y.length = k) (hy : y.length = k) (hi : i < k) : (Y.take i ++ y.drop i)[i]? = y[i]? := by
  rw [List.getElem?_append_right (by rw [List.length_take]; omega), List.getElem?_drop, List.length_take]
  congr 1
  omega
theorem ixs_ne {M : List Shr} {i x : Nat} (h : ∀ s ∈ M, s.ix ≠ 0) (e : (ixs M)[i]? = some x) : x ≠ 0 := by
  unfold ixs at e
  rw [List.getElem?_map, Option.map_eq_some_iff] at e
  obtain ⟨s, hs, rfl⟩ := e
  exact h s (List.mem_of_getElem? hs)
/-- All that is drawn. -/
def drL (S : List Nat) (M : List Shr) (q j : Nat) : List Nat := (List.range j).flatMap fun j => drB (ixs M) (ysL M j) (S.getD j 0) q
theorem drL_succ (S : List Nat) (M : List Shr) (q j : Nat) : drL S M q j ++ drB (ixs M) (ysL M j) (S.getD j 0) q = drL S M q (j + 1) := by
  unfold drL; rw [List.range_succ, List.flatMap_append]; simp
theorem drL_length (S : List Nat) (M : List Shr) (q j : Nat) : (drL S M q j).length = j * q := by
  induction j with
  | zero => simp [drL]
  | succ j ih => rw [← drL_succ, List.length_append, ih, drB_length, Nat.add_mul, Nat.one_mul]
end Go.Proofs.YtjbdimfpjbmggaaDoor
