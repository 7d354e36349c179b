/- slices.Chunk by thirty-two bytes: the iterator, and the loop over it. -/
import Derived.Test.YtlkbkgghfhoggaaGreatDoorKd
set_option linter.unusedVariables false
set_option linter.unusedSimpArgs false
set_option maxHeartbeats 2000000
set_option maxRecDepth 100000
namespace Go.Proofs.YtlkbkgghfhoggaaGreatDoor
open Go.RowKit
/-! ### the pieces -/
abbrev Cy (L : List Nat) := { j : Nat // 32 * j < L.length }
def chA2 (A : Option Addr) (j : Nat) : Option Addr := A.map (·.add (32 * j))
def chN2 (L : List Nat) (j : Nat) : Nat := min 32 (L.length - 32 * j)
def chX2 (L : List Nat) (j : Nat) : List Nat := (L.drop (32 * j)).take 32
def nCh2 (L : List Nat) : Nat := (L.length + 31) / 32
abbrev chV2 (A : Option Addr) (L : List Nat) (j : Nat) : Value := .slice (chA2 A j) (chN2 L j) (chN2 L j)
theorem chX2_length (L : List Nat) (j : Nat) : (chX2 L j).length = chN2 L j := by unfold chX2 chN2; rw [List.length_take, List.length_drop]
theorem Bs.ch2 {w : World} {A : Option Addr} {L : List Nat} (h : Bs w A L) (j : Nat) : Bs w (chA2 A j) (chX2 L j) :=
 ⟨fun n hn => h.byte n (List.mem_of_mem_drop (List.mem_of_mem_take hn)), fun hl => by
  obtain ⟨b, o, rfl, hc⟩ := h.cell (by intro e; subst e; exact hl (by simp [chX2]))
  refine ⟨b, o + 32 * j, by unfold chA2; rw [Option.map_some, add_at], fun i n hi => ?_⟩
  unfold chX2 at hi
  rw [List.getElem?_take] at hi
  split at hi
  ·
   rw [List.getElem?_drop] at hi
   rw [show o + 32 * j + i = o + (32 * j + i) by omega]; exact hc _ _ hi
  ·
   cases hi⟩
theorem Aw.ch2 {S : Nat → Prop} {A : Option Addr} {L : List Nat} (h : Aw S A L) (j : Nat) : Aw S (chA2 A j) (chX2 L j) := fun hl x hx => by
 have hL : L ≠ [] := by intro e; subst e; exact hl (by simp [chX2])
 cases A with
 | none => cases hx
 | some a =>
  obtain rfl : a.add (32 * j) = x := Option.some.inj hx
  have := h hL a rfl
  rwa [show (a.add (32 * j)).block = a.block by unfold Addr.add; split <;> rfl]
theorem pu_sliceCh2 {P : Program} {l : List (Nat × Value)} {w : World} {x y z u : Operand} {t e : TypeId} {A : Option Addr} {L : List Nat} {c k : Nat} {k1 k2 k3 : IntKind} (h9 : 32 * k < L.length) (hc : L.length ≤ c) (hu : P.underlying t = some (.slice e)) (hs : sizeB P e 1 = true) (hx : lk l x = some (.slice A L.length c))
 (hl : lk l u = some (.int k1 ((32 * k : Nat) : Int))) (hh : lk l z = some (.int k2 ((32 * k + chN2 L k : Nat) : Int))) (hy : lk l y = some (.int k3 ((32 * k + chN2 L k : Nat) : Int))) : Pu P (.slice t x (some u) (some z) (some y)) l w (chV2 A L k) := by
 have hn : 32 * k + chN2 L k ≤ L.length ∧ 0 < chN2 L k := by unfold chN2; omega
 have h := pu_slice3 (w := w) (s := 1) hu hs hx hl rfl hh rfl hy rfl (by omega) (Nat.le_refl _) (by omega)
 unfold cutA at h
 rw [if_neg (by omega), Nat.mul_one, Nat.add_sub_cancel_left] at h
 exact h
abbrev ChB2 (A : Option Addr) (L : List Nat) (c bs bn : Nat) (W : World) : Prop := Bk W bs [.slice A L.length c] 22 ∧ Bk W bn [.int .i64 32] 3
theorem ChB2.bw {A : Option Addr} {L : List Nat} {c bs bn B0 : Nat} {W W' : World} (h : ChB2 A L c bs bn W) (b : Bw B0 W W') : ChB2 A L c bs bn W' := ⟨h.1.bw b, h.2.bw b⟩
theorem chunk_stops2 (m : Nat) (A : Option Addr) (L : List Nat) (c bs bn : Nat) (w : World) (hb : ChB2 A L c bs bn w) (hc : L.length ≤ c) (hm : L.length ≤ 1000000) :
 SeqStopsK Fence.wide m Tryz.prog 79 #[.pointer (some ⟨bs, 0, none⟩), .pointer (some ⟨bn, 0, none⟩)] (fun x : Cy L => #[chV2 A L x.1]) (fun W W' => ChB2 A L c bs bn W → ChB2 A L c bs bn W')
  (fun xs => xs.map Subtype.val = List.range (nCh2 L)) (fun _ => True) (nCh2 L) w := by
 intro l0 J Jx W hW hJ hJx hY h0
 have hb0 : ChB2 A L c bs bn W := ⟨hb.1.kept (Kp.of_below hW No) (fun f => f), hb.2.kept (Kp.of_below hW No) (fun f => f)⟩
 refine callsIn_wide.2 (?_ : Ret Tryz.prog 79 ([.func (.yield l0) #[] #[], .pointer (some ⟨bs, 0, none⟩), .pointer (some ⟨bn, 0, none⟩)] : List Value).toArray W (fun v W' => (∃ xs : List (Cy L), xs.map Subtype.val = List.range (nCh2 L) ∧ J xs W') ∨ (∃ pre : List (Cy L), True ∧ Jx pre W'))) |>.mono fun e W' ⟨v, he, hv⟩ => ⟨⟨v, he⟩, hv⟩
 refine enter (n := 31) _ Tryz.func79 rfl rfl rfl ?_
 show Cw _ _ _ _ [(0, .func (.yield l0) #[] #[]), (1, .pointer (some ⟨bs, 0, none⟩)), (2, .pointer (some ⟨bn, 0, none⟩))] _
 refine C_seq fun K1 hK1 => C_region <| Rp (pu_assign rfl) <| R_nil <| X_then hK1 <| C_block <| C_loop (fun m_ l_ wr => ∃ (k : Nat) (pre : List (Cy L)), m_ = nCh2 L - k ∧ l_ = [(0, .func (.yield l0) #[] #[]), (1, .pointer (some ⟨bs, 0, none⟩)), (2, .pointer (some ⟨bn, 0, none⟩)), (4, .int .i64 ((32 * k : Nat) : Int))] ∧ k ≤ nCh2 L ∧ pre.map Subtype.val = List.range k ∧ ChB2 A L c bs bn wr ∧ J pre wr)
  (nCh2 L) [(0, .func (.yield l0) #[] #[]), (1, .pointer (some ⟨bs, 0, none⟩)), (2, .pointer (some ⟨bn, 0, none⟩)), (4, .int .i64 0)] (Sub.cons rfl (Sub.cons rfl (Sub.cons rfl (Sub.cons rfl (Sub.nil _))))) ⟨0, [], rfl, rfl, Nat.zero_le _, rfl, hb0, h0⟩ ?_
 rintro _ _ w1 ⟨k, pre, rfl, rfl, hk, hpre, hb1, hj⟩
 have hn : nCh2 L = (L.length + 31) / 32 := rfl
 have hpl : pre.length = k := by have := congrArg List.length hpre; simpa using this
 refine C_seq fun K2 hK2 => C_seq fun K3 hK3 => C_region <| Rp (pu_move rfl) <| Rp (pu_loadK hb1.1 (by kernel_rfl) rfl rfl) <| Rp (pu_len Tryz.underlying22 rfl) <| Rp (pu_lss (p := 32 * k < L.length) rfl rfl (by omega)) <| R_nil <| X_then hK3 <| C_dec rfl (fun h9 => ?_) (fun h9 => ?_)
 ·
  refine C_skip <| X_then hK2 <| C_seq fun K4 hK4 => C_block <| C_seq (fun K5 hK5 => ?_)
  have hj2 : J pre w1.drew := hJ pre w1 w1.drew none hj (drew_grown w1) (fun r e => by cases e)
  refine D_begin (fun Z => Kp No w1 Z ∧ ChB2 A L c bs bn Z ∧ J pre Z) 7 rfl (by kernel_rfl) ⟨(Kp.refl No w1).drew, hb1, hj2⟩ ?_
  intro w2 k2 hS2
  obtain ⟨_, hb2, hj2⟩ := id hS2
  refine D_take 0 rfl (by kernel_rfl) (by kernel_rfl) (by kernel_rfl) (fun _ _ _ h => h) rfl (fun Z hS => pu_loadK hS.2.1.2 (by kernel_rfl) rfl rfl) <| D_take 1 rfl (by kernel_rfl) (by kernel_rfl) (by kernel_rfl) (fun _ _ _ h => h) rfl (fun Z hS => pu_loadK hS.2.1.1 (by kernel_rfl) rfl rfl) <| D_take 2 rfl (by kernel_rfl) (by kernel_rfl) (by kernel_rfl) (fun _ _ _ h => h) rfl (fun Z hS => pu_move rfl) <| D_take 3 rfl (by kernel_rfl) (by kernel_rfl) (by kernel_rfl) (fun _ _ _ h => h) rfl (fun Z hS => pu_sliceLo (lo := 32 * k) (s := 1) Tryz.underlying22 (by kernel_rfl) rfl rfl rfl (by omega) (by omega)) <| D_take 4 rfl (by kernel_rfl) (by kernel_rfl) (by kernel_rfl) (fun _ _ _ h => h) rfl (fun Z hS => pu_len Tryz.underlying22 rfl) <| D_take 5 rfl (by kernel_rfl) (by kernel_rfl) (by kernel_rfl) (fun _ _ _ h => h) rfl (fun Z hS => pu_min (a := 32) (b := L.length - 32 * k) rfl rfl) <| D_take 6 rfl (by kernel_rfl) (by kernel_rfl) (by kernel_rfl) (fun _ _ _ h => h) rfl (fun Z hS => pu_assign rfl) <| D_done (by kernel_rfl) <| X_then hK5 <| C_seq fun K6 hK6 => C_regionI m <| RI_pu (pu_move rfl) rfl <| RI_pu (pu_loadK hb2.1 (by kernel_rfl) rfl rfl) rfl <| RI_pu (pu_move rfl) rfl <| RI_pu (pu_move rfl) rfl <| RI_pu (pu_move rfl) rfl <| RI_pu (pu_add (z := ((32 * k + chN2 L k : Nat) : Int)) rfl rfl (by rw [IntKind.wrap_i64] <;> unfold chN2 <;> omega)) rfl <| RI_pu (pu_move rfl) rfl <| RI_pu (pu_move rfl) rfl <| RI_pu (pu_add (z := ((32 * k + chN2 L k : Nat) : Int)) rfl rfl (by rw [IntKind.wrap_i64] <;> unfold chN2 <;> omega)) rfl <| RI_pu (pu_sliceCh2 h9 hc Tryz.underlying22 (by kernel_rfl) rfl rfl rfl rfl) rfl <| RI_yield (vs := [chV2 A L k]) (hY pre ⟨k, h9⟩ w2 hj2 (by rw [hpl, hn]; omega)) rfl rfl (Φ := fun v W' => (v = .bool true ∧ J (pre ++ [⟨k, h9⟩]) W' ∧ ChB2 A L c bs bn W') ∨ (v = .bool false ∧ Jx (pre ++ [⟨k, h9⟩]) W')) (fun e W' he => ?_) rfl ?_
  ·
   rcases he with ⟨rfl, h1, h2⟩ | ⟨rfl, h1⟩
   ·
    exact ⟨_, rfl, .inl ⟨rfl, h1, h2 hb2⟩⟩
   ·
    exact ⟨_, rfl, .inr ⟨rfl, h1⟩⟩
  rintro _ w3 (⟨rfl, hj3, hb3⟩ | ⟨rfl, hx3⟩)
  ·
   refine RI_pu (pu_not rfl) rfl <| RI_nil <| X_then hK6 <| C_false rfl <| C_skip <| X_in_normal <| X_then hK4 <| C_region <| Rp (pu_move rfl) <| Rp (pu_loadK hb3.2 (by kernel_rfl) rfl rfl) <| Rp (pu_add (z := ((32 * (k + 1) : Nat) : Int)) rfl rfl (by rw [IntKind.wrap_i64] <;> omega)) <| Rp (pu_assign rfl) <| R_nil <| X_round (nCh2 L - (k + 1)) [(0, .func (.yield l0) #[] #[]), (1, .pointer (some ⟨bs, 0, none⟩)), (2, .pointer (some ⟨bn, 0, none⟩)), (4, .int .i64 ((32 * (k + 1) : Nat) : Int))] (by omega) (Sub.cons rfl (Sub.cons rfl (Sub.cons rfl (Sub.cons rfl (Sub.nil _)))))
    ⟨k + 1, pre ++ [⟨k, h9⟩], rfl, rfl, by omega, by rw [List.map_append, hpre, List.range_succ]; rfl, hb3, hj3⟩
  ·
   refine RI_pu (pu_not rfl) rfl <| RI_nil <| X_then hK6 <| C_true rfl <| C_ret <| X_in_ret (X_then_ret (X_then_ret (X_in_ret ?_)))
   exact X_ret0 (.inl rfl) rfl (.inr ⟨_, trivial, hx3⟩)
 ·
  refine C_exit <| X_then_exit (X_then_exit (X_in_eq ?_))
  exact X_ret0 (.inr rfl) rfl (.inl ⟨pre, by rw [hpre, show k = nCh2 L by omega], hj⟩)
/-- A loop over the pieces. -/
theorem C_chunk2 {n : Nat} {lst : List (Nat × Value)} {t d d2 id bs bn c : Nat} {ty : TypeId} {pos : String} {af : Array Edge} {A : Option Addr} {L : List Nat} {body : Code} {Q : Exit → Act → World → Prop} {w : World}
 (hg : lkN lst t = some (.func (.func 79) #[] #[.pointer (some ⟨bs, 0, none⟩), .pointer (some ⟨bn, 0, none⟩)])) (hb : ChB2 A L c bs bn w) (hc : L.length ≤ c) (hm : L.length ≤ 1000000) (hd : Nat.blt d n = true) (hd2 : Nat.blt d2 n = true)
 (J : List (Cy L) → World → Prop) (S : World → Nat → Prop) (hJ : ∀ pre B C, J pre B → Bw w.heap.size B C → J pre C) (hJb : ∀ pre W, J pre W → ChB2 A L c bs bn W) (hS : ∀ pre W, J pre W → ∀ i, S W i → ∃ o : Obj, W.heap[i]? = some o ∧ o.isCells = true) (h0 : J [] w)
 (hbody : ∀ (l0 : Nat) (pre : List (Cy L)) (x : Cy L) (W : World), J pre W → pre.length < nCh2 L → Cr (some l0) Tryz.prog body (fun e _ W' => e = .normal ∧ Kp (S W) W W' ∧ J (pre ++ [x]) W') n ((d2, chV2 A L x.1) :: (d, chV2 A L x.1) :: lst) W)
 (hdone : ∀ D xs W, w.heap.size ≤ D → xs.map Subtype.val = List.range (nCh2 L) → J xs W → W.heap[D]? = some (.deferred (some [])) → Xm D Q .normal n lst W) :
 Cw Tryz.prog (.rangeFunc (.tmp t) #[d] (.region id #[⟨some d2, .assign (.tmp d), ty, pos, af, none⟩] false) body) Q n lst w := fun a ha => by
 refine wpIn_wide.1 (wpIn_rangeFunc_ownH (F := Fence.wide) (n := 3) rfl (by decide) (gf := 79) (lb := #[.pointer (some ⟨bs, 0, none⟩), .pointer (some ⟨bn, 0, none⟩)]) (ha.tmp hg) trivial (fun args w => run_callFunc (by kernel_rfl) args w)
  (chunk_stops2 2 A L c bs bn w hb hc hm) (fun h1 h2 h => h2 (h1 h)) (fun W q o o' hq h ho _ h1 => h1.bw (Bw.put hq h ho)) (Below.refl _ _) (fun _ => rfl) J (fun _ _ _ => False) (fun s X Y row hs hg' hr => hJ s X Y hs (.of hg' hr)) (fun _ _ _ _ _ hs _ _ => hs) h0
  (fun x a' _ => St n ((d2, chV2 A L x.1) :: (d, chV2 A L x.1) :: lst) a') (fun _ _ _ _ _ _ hs _ _ => hs) ?_ ?_ ?_ ?_)
 ·
  intro l pre x W K hj hK
  have h1 : St n ((d, chV2 A L x.1) :: lst) { tmps := ((#[d] : Array Nat).zip #[chV2 A L x.1]).foldl (fun t (p, v) => t.setIfInBounds p v) a.tmps, defers := [] } := by
   rw [show ((#[d] : Array Nat).zip #[chV2 A L x.1]).foldl (fun t (p, v) => t.setIfInBounds p v) a.tmps = a.tmps.setIfInBounds d (chV2 A L x.1) by simp]
   exact ⟨(ha.put hd (chV2 A L x.1)).size, rfl, (ha.put hd (chV2 A L x.1)).slot⟩
  have h2 : Cr (some l) Tryz.prog (.region id #[⟨some d2, .assign (.tmp d), ty, pos, af, none⟩] false) (Exit.then K (fun _ _ _ => False)) n ((d, chV2 A L x.1) :: lst) W :=
   Cr_region (os := [⟨some d2, .assign (.tmp d), ty, pos, af, none⟩]) rfl (fun ⟨_, _, h⟩ => h) (R_pu (pu_assign (by simp [lk, lkN])) hd2 (R_nil fun a' ha' => hK a' W (KeepsFrom.refl _ _) (fun h => h) hj ha'))
  exact h2 _ _ h1
 ·
  intro l pre x a' W _ _ hj hx hlt
  refine wpIn_mono (hbody l pre x W hj hlt _ a' hx) fun e a2 W2 h => ?_
  obtain ⟨rfl, h1, h2⟩ := h
  exact ⟨keepsFrom_of_kp h1 (hS pre W hj), fun _ => hJb _ _ h2, h2⟩
 ·
  intro D xs W hD hxs hj hK
  exact hdone D xs W hD hxs hj hK _ ⟨ha.size, by rw [ha.defers], ha.slot⟩
 ·
  intro D c pre W _ _ h _
  exact h.elim
/-! ### more behind a loop: loud operations, conditions, results with a cell -/
def addD (ds : List Deferred) (a : Act) : Act := { a with defers := a.defers ++ ds }
theorem addD_put (ds : List Deferred) (a : Act) (d : Option Tmp) (v : Value) : addD ds (a.put d v) = (addD ds a).put d v := by cases d <;> rfl
theorem oper_add {P : Program} {o : Oper} {a : Act} {w : World} {ds : List Deferred} {K : Act → World → Prop} {Q : Exit → Act → World → Prop} (h : o.wp P a w (fun a' w' => K (addD ds a') w') (fun e a' w' => Q e (addD ds a') w')) : o.wp P (addD ds a) w K Q := by
 have he : (addD ds a).eval = a.eval := eval_bare a _
 unfold Oper.wp at h ⊢
 rw [he]
 revert h
 generalize (execOp a.eval o).run P w = z
 intro h
 cases z with
 | ok z w' =>
  cases z with
  | value v => rw [Oper.upon_value, addD_put] at h; exact h
  | skip => rw [Oper.upon_skip, addD_put] at h; exact h
  | defer d => rw [Oper.upon_defer, addD_put] at h; exact h
  | enter f args =>
   rw [Oper.upon_enter] at h ⊢
   refine Calls.mono h fun e w'' he => ?_
   cases e with
   | returned v => simp only [addD_put] at he; exact he
   | panicked c => exact he
   | outgrown => obtain ⟨a0, w0, hq⟩ := he; exact ⟨_, _, hq⟩
  | row row args => rw [Oper.upon_row] at h ⊢; simp only [addD_put] at h; exact h
  | _ => exact h
 | halt z w' =>
  cases z with
  | panic v => exact h
  | _ => exact h
section
variable {D n : Nat} {P : Program} {Q Q0 : Exit → Act → World → Prop} {l : List (Nat × Value)} {w : World} {x y : Code} {ops : Array Oper} {rest : List Oper} {op : Op} {v : Value} {d : Nat} {ty : TypeId} {pos : String} {af : Array Edge} {Φ : Value → World → Prop}
theorem Bk.neD {w : World} {p D t : Nat} {L : List Value} {x : Option (List Deferred)} (h : Bk w p L t) (hD : w.heap[D]? = some (.deferred x)) : D ≠ p := fun e => by
 subst e
 rw [show w.heap[D]? = some _ from h] at hD; cases hD
theorem Bk.one_inj {w : World} {p t t' : Nat} {a b : Value} (h : Bk w p [a] t) (h' : Bk w p [b] t') : a = b := by
 have e : some _ = some _ := (show w.heap[p]? = some _ from h).symm.trans h'
 injection e with e
 injection e with e _ _
 have := congrArg Array.toList e
 simpa using this
theorem StM.back {a : Act} (h : StM D n l a) : addD a.defers { a with defers := [] } = a := rfl
theorem Rm_lo (h : Lo P ⟨some d, op, ty, pos, af, none⟩ n l w Φ) (hd : Nat.blt d n = true) (k : ∀ v w', Φ v w' → Rm D P ops Q rest n ((d, v) :: l) w') : Rm D P ops Q (⟨some d, op, ty, pos, af, none⟩ :: rest) n l w := fun a ha =>
 wpList_plain rfl fun K hK => by
  rw [← ha.back]
  exact oper_add (h _ ha.bare _ _ fun v w' hv => by rw [addD_put, ha.back]; exact hK _ _ (k v w' hv _ (ha.put hd v)))
theorem Rm_lo0 (h : Lo P ⟨none, op, ty, pos, af, none⟩ n l w Φ) (k : ∀ v w', Φ v w' → Rm D P ops Q rest n l w') : Rm D P ops Q (⟨none, op, ty, pos, af, none⟩ :: rest) n l w := fun a ha =>
 wpList_plain rfl fun K hK => by
  rw [← ha.back]
  exact oper_add (h _ ha.bare _ _ fun v w' hv => by rw [addD_put, ha.back]; exact hK _ _ (k v w' hv _ ha))
theorem Cm_false {o : Operand} (ho : lk l o = some (.bool false)) (h : Cm D P y Q n l w) : Cm D P (.cond o x y) Q n l w := fun a ha => wp_cond_false (by have := ha.bare.eval ho; rwa [eval_bare] at this) (h a ha)
theorem Xm_retCT {e : Exit} {fn : Func} {m p len t u : Nat} {ty' t' : TypeId} {L : List Value} {Φ : Value → World → Prop} (he : e = .ret ∨ e = .normal) (hf : fn.results = #[.cell t ty', .tmp u]) (hv : lkN l t = some (.pointer (some ⟨p, 0, none⟩))) (hK : w.heap[D]? = some (.deferred (some [])))
 (hB : Bk (w.putObj D (.deferred none)) p L t') (hr : isRowB P ty' = true) (hs : sizeB P ty' len = true) (hl : L.length = len) (hu : lkN l u = some v) (h : Φ (.tuple #[.agg L.toArray, v]) (w.putObj D (.deferred none))) :
 Xm D (bodyPostM Fence.wide m P fn (RetR Φ)) e n l w := fun a ha => by
 obtain ⟨d, hd, hdd⟩ := rowB_desc hr
 have hi := sizeB_info hs
 have h1 : a.tmps[t]?.getD undef = .pointer (some ⟨p, 0, none⟩) := by have := ha.bare.tmp hv; simpa using this
 have h2 : a.tmps[u]?.getD undef = v := by have := ha.bare.tmp hu; simpa using this
 have hr' : LeavesInM Fence.wide m P fn a.tmps (RetR Φ) a.defers .returning w := by
  rw [ha.defers]
  refine ⟨by simp, .inl ⟨D, _, rfl, run_takeDeferred hK, ?_⟩⟩
  exact ⟨.tuple #[.agg L.toArray, v], by simp [results, hf, h1, h2, asAddr, run_loadVar_row _ p t' ty' L.toArray (0, 0) d hB hd (by cases d <;> simp_all) (by rw [hi, List.size_toArray, hl])], _, rfl, h⟩
 rcases he with rfl | rfl <;> exact hr'
end
end Go.Proofs.YtlkbkgghfhoggaaGreatDoor
