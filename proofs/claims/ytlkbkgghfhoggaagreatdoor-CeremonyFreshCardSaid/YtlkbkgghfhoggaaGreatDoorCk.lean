/- slices.Chunk by sixteen bytes: the iterator, and the loop over it. -/
import Derived.Test.YtlkbkgghfhoggaaGreatDoorRg
import Derived.Test.YtlkbkgghfhoggaaGreatDoorLm
set_option linter.unusedVariables false
set_option linter.unusedSimpArgs false
namespace Go.Proofs.YtlkbkgghfhoggaaGreatDoor
open Go.RowKit
theorem Ob.bw {A B : World} {B0 base : Nat} {v : Value} {L : List Nat} (h : Ob A base v L) (b : Bw B0 A B) : Ob B base v L := by
  obtain ⟨S', k, hS⟩ := b
  refine ⟨⟨h.own.1, ?_⟩, h.byte⟩
  rcases h.own.2 with h1 | ⟨g, cap, cur, e, h2, hh, hr⟩
  · exact .inl h1
  · refine .inr ⟨g, cap, cur, e, h2, ?_, hr⟩
    refine (k.block g (lt_of_block hh) fun hs => ?_).trans hh
    obtain ⟨_, o, h3, h4⟩ := hS g hs
    rw [hh] at h3; cases h3; cases h4
section
variable {P : Program} {l : List (Nat × Value)} {w : World} {x y z u : Operand} {t e : TypeId}
theorem pu_slice3 {A : Option Addr} {len c lo hi mx s : Nat} {k k' k'' : IntKind} {i j m : Int} (hu : P.underlying t = some (.slice e)) (hs : sizeB P e s = true) (hx : lk l x = some (.slice A len c)) (hl : lk l u = some (.int k i)) (hi' : i = (lo : Int)) (hh : lk l z = some (.int k' j)) (hj : j = (hi : Int)) (hy : lk l y = some (.int k'' m)) (hm : m = (mx : Int))
    (h1 : lo ≤ hi) (h2 : hi ≤ mx) (h3 : mx ≤ c) : Pu P (.slice t x (some u) (some z) (some y)) l w (.slice (cutA A lo mx s) (hi - lo) (mx - lo)) := fun n B ha d ty pos af g => by
  subst hi' hj hm
  unfold execOp
  simp only [Option.map_some, ha.eval hx, ha.eval hl, ha.eval hh, ha.eval hy]
  have e1 : (0 : Int) ≤ (lo : Int) ∧ (lo : Int) ≤ (hi : Int) := by omega
  have e2 : (0 : Int) ≤ (hi : Int) ∧ (hi : Int) ≤ (mx : Int) := by omega
  have e3 : (0 : Int) ≤ (mx : Int) ∧ (mx : Int) ≤ (c : Int) := by omega
  simp [Instr.sliceAt, Instr.slice, run_underlying hu, Instr.sliceBounds, Instr.sliceBound, asIntOf, sizeB_run hs, h1, h2, h3, cutA]
theorem pu_min {a b : Nat} {ts : Array TypeId} (hx : lk l x = some (.int .i64 (a : Int))) (hy : lk l y = some (.int .i64 (b : Int))) : Pu P (.call ⟨.builtin .min, #[x, y], ts⟩) l w (.int .i64 ((min a b : Nat) : Int)) := fun n A ha d ty pos af g => by
  unfold execOp
  simp only [resolve, invoke, builtin, Builtin.min_, Sem.run_bind, Sem.run_pure, Result.andThen_ok, List.map_toArray, List.map_cons, List.map_nil, ha.eval hx, ha.eval hy, List.foldlM_cons, List.foldlM_nil, Builtin.min2]
  by_cases h : b < a
  · rw [if_pos (by omega), Nat.min_eq_right (by omega)]
  · rw [if_neg (by omega), Nat.min_eq_left (by omega)]
end

/-! ### the pieces -/
abbrev Cx (L : List Nat) := { j : Nat // 16 * j < L.length }
def chA (A : Option Addr) (j : Nat) : Option Addr := A.map (·.add (16 * j))
def chN (L : List Nat) (j : Nat) : Nat := min 16 (L.length - 16 * j)
def chX (L : List Nat) (j : Nat) : List Nat := (L.drop (16 * j)).take 16
def nCh (L : List Nat) : Nat := (L.length + 15) / 16
abbrev chV (A : Option Addr) (L : List Nat) (j : Nat) : Value := .slice (chA A j) (chN L j) (chN L j)
theorem chX_length (L : List Nat) (j : Nat) : (chX L j).length = chN L j := by unfold chX chN; rw [List.length_take, List.length_drop]
theorem Bs.ch {w : World} {A : Option Addr} {L : List Nat} (h : Bs w A L) (j : Nat) : Bs w (chA A j) (chX L j) :=
  ⟨fun n hn => h.byte n (List.mem_of_mem_drop (List.mem_of_mem_take hn)), fun hl => by
    obtain ⟨b, o, rfl, hc⟩ := h.cell (by intro e; subst e; exact hl (by simp [chX]))
    refine ⟨b, o + 16 * j, by unfold chA; rw [Option.map_some, add_at], fun i n hi => ?_⟩
    unfold chX at hi
    rw [List.getElem?_take] at hi
    split at hi
    · rw [List.getElem?_drop] at hi
      rw [show o + 16 * j + i = o + (16 * j + i) by omega]; exact hc _ _ hi
    · cases hi⟩
theorem Aw.ch {S : Nat → Prop} {A : Option Addr} {L : List Nat} (h : Aw S A L) (j : Nat) : Aw S (chA A j) (chX L j) := fun hl x hx => by
  have hL : L ≠ [] := by intro e; subst e; exact hl (by simp [chX])
  cases A with
  | none => cases hx
  | some a =>
    obtain rfl : a.add (16 * j) = x := Option.some.inj hx
    have := h hL a rfl
    rwa [show (a.add (16 * j)).block = a.block by unfold Addr.add; split <;> rfl]
theorem pu_sliceCh {P : Program} {l : List (Nat × Value)} {w : World} {x y z u : Operand} {t e : TypeId} {A : Option Addr} {L : List Nat} {c k : Nat} {k1 k2 k3 : IntKind} (h9 : 16 * k < L.length) (hc : L.length ≤ c) (hu : P.underlying t = some (.slice e)) (hs : sizeB P e 1 = true) (hx : lk l x = some (.slice A L.length c))
    (hl : lk l u = some (.int k1 ((16 * k : Nat) : Int))) (hh : lk l z = some (.int k2 ((16 * k + chN L k : Nat) : Int))) (hy : lk l y = some (.int k3 ((16 * k + chN L k : Nat) : Int))) : Pu P (.slice t x (some u) (some z) (some y)) l w (chV A L k) := by
  have hn : 16 * k + chN L k ≤ L.length ∧ 0 < chN L k := by unfold chN; omega
  have h := pu_slice3 (w := w) (s := 1) hu hs hx hl rfl hh rfl hy rfl (by omega) (Nat.le_refl _) (by omega)
  unfold cutA at h
  rw [if_neg (by omega), Nat.mul_one, Nat.add_sub_cancel_left] at h
  exact h
abbrev ChB (A : Option Addr) (L : List Nat) (c bs bn : Nat) (W : World) : Prop := Bk W bs [.slice A L.length c] 22 ∧ Bk W bn [.int .i64 16] 3
theorem ChB.bw {A : Option Addr} {L : List Nat} {c bs bn B0 : Nat} {W W' : World} (h : ChB A L c bs bn W) (b : Bw B0 W W') : ChB A L c bs bn W' := ⟨h.1.bw b, h.2.bw b⟩
theorem drew_grown (W : World) : W.grownBy W.drew none := ⟨rfl, rfl, rfl, Nat.le_refl _, fun _ _ _ => rfl⟩
set_option maxRecDepth 100000 in
set_option maxHeartbeats 2000000 in
theorem chunk_stops (m : Nat) (A : Option Addr) (L : List Nat) (c bs bn : Nat) (w : World) (hb : ChB A L c bs bn w) (hc : L.length ≤ c) (hm : L.length ≤ 1000000) :
    SeqStopsK Fence.wide m Tryz.prog 79 #[.pointer (some ⟨bs, 0, none⟩), .pointer (some ⟨bn, 0, none⟩)] (fun x : Cx L => #[chV A L x.1]) (fun W W' => ChB A L c bs bn W → ChB A L c bs bn W')
      (fun xs => xs.map Subtype.val = List.range (nCh L)) (fun _ => True) (nCh L) w := by
  intro l0 J Jx W hW hJ hJx hY h0
  have hb0 : ChB A L c bs bn W := ⟨hb.1.kept (Kp.of_below hW No) (fun f => f), hb.2.kept (Kp.of_below hW No) (fun f => f)⟩
  refine callsIn_wide.2 (?_ : Ret Tryz.prog 79 ([.func (.yield l0) #[] #[], .pointer (some ⟨bs, 0, none⟩), .pointer (some ⟨bn, 0, none⟩)] : List Value).toArray W (fun v W' => (∃ xs : List (Cx L), xs.map Subtype.val = List.range (nCh L) ∧ J xs W') ∨ (∃ pre : List (Cx L), True ∧ Jx pre W'))) |>.mono fun e W' ⟨v, he, hv⟩ => ⟨⟨v, he⟩, hv⟩
  refine enter (n := 31) _ Tryz.func79 rfl rfl rfl ?_
  show Cw _ _ _ _ [(0, .func (.yield l0) #[] #[]), (1, .pointer (some ⟨bs, 0, none⟩)), (2, .pointer (some ⟨bn, 0, none⟩))] _
  refine C_seq (fun K1 hK1 => ?_)
  refine C_region ?_
  refine R_pu (pu_assign rfl) rfl ?_
  refine R_nil ?_
  refine X_then hK1 ?_
  refine C_block ?_
  refine C_loop (fun m_ l_ wr => ∃ (k : Nat) (pre : List (Cx L)), m_ = nCh L - k ∧ l_ = [(0, .func (.yield l0) #[] #[]), (1, .pointer (some ⟨bs, 0, none⟩)), (2, .pointer (some ⟨bn, 0, none⟩)), (4, .int .i64 ((16 * k : Nat) : Int))] ∧ k ≤ nCh L ∧ pre.map Subtype.val = List.range k ∧ ChB A L c bs bn wr ∧ J pre wr)
    (nCh L) [(0, .func (.yield l0) #[] #[]), (1, .pointer (some ⟨bs, 0, none⟩)), (2, .pointer (some ⟨bn, 0, none⟩)), (4, .int .i64 0)] (Sub.cons rfl (Sub.cons rfl (Sub.cons rfl (Sub.cons rfl (Sub.nil _))))) ⟨0, [], rfl, rfl, Nat.zero_le _, rfl, hb0, h0⟩ ?_
  rintro _ _ w1 ⟨k, pre, rfl, rfl, hk, hpre, hb1, hj⟩
  have hn : nCh L = (L.length + 15) / 16 := rfl
  have hpl : pre.length = k := by have := congrArg List.length hpre; simpa using this
  refine C_seq (fun K2 hK2 => ?_)
  refine C_seq (fun K3 hK3 => ?_)
  refine C_region ?_
  refine R_pu (pu_move rfl) rfl ?_
  refine R_pu (pu_loadK hb1.1 (by kernel_rfl) rfl rfl) rfl ?_
  refine R_pu (pu_len Tryz.underlying22 rfl) rfl ?_
  refine R_pu (pu_lss (p := 16 * k < L.length) rfl rfl (by omega)) rfl ?_
  refine R_nil ?_
  refine X_then hK3 ?_
  refine C_dec rfl (fun h9 => ?_) (fun h9 => ?_)
  · refine C_skip ?_
    refine X_then hK2 ?_
    refine C_seq (fun K4 hK4 => ?_)
    refine C_block ?_
    refine C_seq (fun K5 hK5 => ?_)
    have hj2 : J pre w1.drew := hJ pre w1 w1.drew none hj (drew_grown w1) (fun r e => by cases e)
    refine D_begin (fun Z => Kp No w1 Z ∧ ChB A L c bs bn Z ∧ J pre Z) 7 rfl (by kernel_rfl) ⟨(Kp.refl No w1).drew, hb1, hj2⟩ ?_
    intro w2 k2 hS2
    obtain ⟨_, hb2, hj2⟩ := id hS2
    refine D_take 0 rfl (by kernel_rfl) (by kernel_rfl) (by kernel_rfl) (fun _ _ _ h => h) rfl (fun Z hS => pu_loadK hS.2.1.2 (by kernel_rfl) rfl rfl) ?_
    refine D_take 1 rfl (by kernel_rfl) (by kernel_rfl) (by kernel_rfl) (fun _ _ _ h => h) rfl (fun Z hS => pu_loadK hS.2.1.1 (by kernel_rfl) rfl rfl) ?_
    refine D_take 2 rfl (by kernel_rfl) (by kernel_rfl) (by kernel_rfl) (fun _ _ _ h => h) rfl (fun Z hS => pu_move rfl) ?_
    refine D_take 3 rfl (by kernel_rfl) (by kernel_rfl) (by kernel_rfl) (fun _ _ _ h => h) rfl (fun Z hS => pu_sliceLo (lo := 16 * k) (s := 1) Tryz.underlying22 (by kernel_rfl) rfl rfl rfl (by omega) (by omega)) ?_
    refine D_take 4 rfl (by kernel_rfl) (by kernel_rfl) (by kernel_rfl) (fun _ _ _ h => h) rfl (fun Z hS => pu_len Tryz.underlying22 rfl) ?_
    refine D_take 5 rfl (by kernel_rfl) (by kernel_rfl) (by kernel_rfl) (fun _ _ _ h => h) rfl (fun Z hS => pu_min (a := 16) (b := L.length - 16 * k) rfl rfl) ?_
    refine D_take 6 rfl (by kernel_rfl) (by kernel_rfl) (by kernel_rfl) (fun _ _ _ h => h) rfl (fun Z hS => pu_assign rfl) ?_
    refine D_done (by kernel_rfl) ?_
    refine X_then hK5 ?_
    refine C_seq (fun K6 hK6 => ?_)
    refine C_regionI m ?_
    refine RI_pu (pu_move rfl) rfl ?_
    refine RI_pu (pu_loadK hb2.1 (by kernel_rfl) rfl rfl) rfl ?_
    refine RI_pu (pu_move rfl) rfl ?_
    refine RI_pu (pu_move rfl) rfl ?_
    refine RI_pu (pu_move rfl) rfl ?_
    refine RI_pu (pu_add (z := ((16 * k + chN L k : Nat) : Int)) rfl rfl (by rw [IntKind.wrap_i64] <;> unfold chN <;> omega)) rfl ?_
    refine RI_pu (pu_move rfl) rfl ?_
    refine RI_pu (pu_move rfl) rfl ?_
    refine RI_pu (pu_add (z := ((16 * k + chN L k : Nat) : Int)) rfl rfl (by rw [IntKind.wrap_i64] <;> unfold chN <;> omega)) rfl ?_
    refine RI_pu (pu_sliceCh h9 hc Tryz.underlying22 (by kernel_rfl) rfl rfl rfl rfl) rfl ?_
    refine RI_yield (vs := [chV A L k]) (hY pre ⟨k, h9⟩ w2 hj2 (by rw [hpl, hn]; omega)) rfl rfl (Φ := fun v W' => (v = .bool true ∧ J (pre ++ [⟨k, h9⟩]) W' ∧ ChB A L c bs bn W') ∨ (v = .bool false ∧ Jx (pre ++ [⟨k, h9⟩]) W')) (fun e W' he => ?_) rfl ?_
    · rcases he with ⟨rfl, h1, h2⟩ | ⟨rfl, h1⟩
      · exact ⟨_, rfl, .inl ⟨rfl, h1, h2 hb2⟩⟩
      · exact ⟨_, rfl, .inr ⟨rfl, h1⟩⟩
    rintro _ w3 (⟨rfl, hj3, hb3⟩ | ⟨rfl, hx3⟩)
    · refine RI_pu (pu_not rfl) rfl ?_
      refine RI_nil ?_
      refine X_then hK6 ?_
      refine C_false rfl ?_
      refine C_skip ?_
      refine X_in_normal ?_
      refine X_then hK4 ?_
      refine C_region ?_
      refine R_pu (pu_move rfl) rfl ?_
      refine R_pu (pu_loadK hb3.2 (by kernel_rfl) rfl rfl) rfl ?_
      refine R_pu (pu_add (z := ((16 * (k + 1) : Nat) : Int)) rfl rfl (by rw [IntKind.wrap_i64] <;> omega)) rfl ?_
      refine R_pu (pu_assign rfl) rfl ?_
      refine R_nil ?_
      refine X_round (nCh L - (k + 1)) [(0, .func (.yield l0) #[] #[]), (1, .pointer (some ⟨bs, 0, none⟩)), (2, .pointer (some ⟨bn, 0, none⟩)), (4, .int .i64 ((16 * (k + 1) : Nat) : Int))] (by omega) (Sub.cons rfl (Sub.cons rfl (Sub.cons rfl (Sub.cons rfl (Sub.nil _)))))
        ⟨k + 1, pre ++ [⟨k, h9⟩], rfl, rfl, by omega, by rw [List.map_append, hpre, List.range_succ]; rfl, hb3, hj3⟩
    · refine RI_pu (pu_not rfl) rfl ?_
      refine RI_nil ?_
      refine X_then hK6 ?_
      refine C_true rfl ?_
      refine C_ret ?_
      refine X_in_ret (X_then_ret (X_then_ret (X_in_ret ?_)))
      exact X_ret0 (.inl rfl) rfl (.inr ⟨_, trivial, hx3⟩)
  · refine C_exit ?_
    refine X_then_exit (X_then_exit (X_in_eq ?_))
    exact X_ret0 (.inr rfl) rfl (.inl ⟨pre, by rw [hpre, show k = nCh L by omega], hj⟩)
/-- A loop over the pieces. -/
theorem C_chunk {n : Nat} {lst : List (Nat × Value)} {t d d2 id bs bn c : Nat} {ty : TypeId} {pos : String} {af : Array Edge} {A : Option Addr} {L : List Nat} {body : Code} {Q : Exit → Act → World → Prop} {w : World}
    (hg : lkN lst t = some (.func (.func 79) #[] #[.pointer (some ⟨bs, 0, none⟩), .pointer (some ⟨bn, 0, none⟩)])) (hb : ChB A L c bs bn w) (hc : L.length ≤ c) (hm : L.length ≤ 1000000) (hd : Nat.blt d n = true) (hd2 : Nat.blt d2 n = true)
    (J : List (Cx L) → World → Prop) (S : Nat → Prop) (hJ : ∀ pre B C, J pre B → Bw w.heap.size B C → J pre C) (hJb : ∀ pre W, J pre W → ChB A L c bs bn W) (hS : ∀ pre W, J pre W → ∀ i, S i → ∃ o : Obj, W.heap[i]? = some o ∧ o.isCells = true) (h0 : J [] w)
    (hbody : ∀ (l0 : Nat) (pre : List (Cx L)) (x : Cx L) (W : World), J pre W → pre.length < nCh L → Cr (some l0) Tryz.prog body (fun e _ W' => e = .normal ∧ Kp S W W' ∧ J (pre ++ [x]) W') n ((d2, chV A L x.1) :: (d, chV A L x.1) :: lst) W)
    (hdone : ∀ D xs W, w.heap.size ≤ D → xs.map Subtype.val = List.range (nCh L) → J xs W → W.heap[D]? = some (.deferred (some [])) → Xm D Q .normal n lst W) :
    Cw Tryz.prog (.rangeFunc (.tmp t) #[d] (.region id #[⟨some d2, .assign (.tmp d), ty, pos, af, none⟩] false) body) Q n lst w := fun a ha => by
  refine wpIn_wide.1 (wpIn_rangeFunc_ownH (F := Fence.wide) (n := 3) rfl (by decide) (gf := 79) (lb := #[.pointer (some ⟨bs, 0, none⟩), .pointer (some ⟨bn, 0, none⟩)]) (ha.tmp hg) trivial (fun args w => run_callFunc (by kernel_rfl) args w)
    (chunk_stops 2 A L c bs bn w hb hc hm) (fun h1 h2 h => h2 (h1 h)) (fun W q o o' hq h ho _ h1 => h1.bw (Bw.put hq h ho)) (Below.refl _ _) (fun _ => rfl) J (fun _ _ _ => False) (fun s X Y row hs hg' hr => hJ s X Y hs (.of hg' hr)) (fun _ _ _ _ _ hs _ _ => hs) h0
    (fun x a' _ => St n ((d2, chV A L x.1) :: (d, chV A L x.1) :: lst) a') (fun _ _ _ _ _ _ hs _ _ => hs) ?_ ?_ ?_ ?_)
  · intro l pre x W K hj hK
    have h1 : St n ((d, chV A L x.1) :: lst) { tmps := ((#[d] : Array Nat).zip #[chV A L x.1]).foldl (fun t (p, v) => t.setIfInBounds p v) a.tmps, defers := [] } := by
      rw [show ((#[d] : Array Nat).zip #[chV A L x.1]).foldl (fun t (p, v) => t.setIfInBounds p v) a.tmps = a.tmps.setIfInBounds d (chV A L x.1) by simp]
      exact ⟨(ha.put hd (chV A L x.1)).size, rfl, (ha.put hd (chV A L x.1)).slot⟩
    have h2 : Cr (some l) Tryz.prog (.region id #[⟨some d2, .assign (.tmp d), ty, pos, af, none⟩] false) (Exit.then K (fun _ _ _ => False)) n ((d, chV A L x.1) :: lst) W :=
      Cr_region (os := [⟨some d2, .assign (.tmp d), ty, pos, af, none⟩]) rfl (fun ⟨_, _, h⟩ => h) (R_pu (pu_assign (by simp [lk, lkN])) hd2 (R_nil fun a' ha' => hK a' W (KeepsFrom.refl _ _) (fun h => h) hj ha'))
    exact h2 _ _ h1
  · intro l pre x a' W _ _ hj hx hlt
    refine wpIn_mono (hbody l pre x W hj hlt _ a' hx) fun e a2 W2 h => ?_
    obtain ⟨rfl, h1, h2⟩ := h
    exact ⟨keepsFrom_of_kp h1 (hS pre W hj), fun _ => hJb _ _ h2, h2⟩
  · intro D xs W hD hxs hj hK
    exact hdone D xs W hD hxs hj hK _ ⟨ha.size, by rw [ha.defers], ha.slot⟩
  · intro D c pre W _ _ h _
    exact h.elim
end Go.Proofs.YtlkbkgghfhoggaaGreatDoor
