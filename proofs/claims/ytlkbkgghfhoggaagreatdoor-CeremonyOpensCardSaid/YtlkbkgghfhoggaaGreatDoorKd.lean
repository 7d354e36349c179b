/- What sums are made with: a block of the heap that holds words, what is left over, and how much was written. -/
import Derived.Test.YtlkbkgghfhoggaaGreatDoorRg
import Derived.Test.YtlkbkgghfhoggaaGreatDoorLm
import Derived.Test.YtlkbkgghfhoggaaGreatDoorKc
section
set_option linter.unusedVariables false
set_option linter.unusedSimpArgs false
set_option maxHeartbeats 2000000
set_option maxRecDepth 100000
namespace Go.Proofs.YtlkbkgghfhoggaaGreatDoor
open Go.RowKit
theorem Ob.bw {A B : World} {B0 base : Nat} {v : Value} {L : List Nat} (h : Ob A base v L) (b : Bw B0 A B) : Ob B base v L := by
 obtain ⟨S', k, hS⟩ := b
 refine ⟨⟨h.own.1, ?_⟩, h.byte⟩
 rcases h.own.2 with h1 | ⟨g, cap, cur, e, h2, hh, hr⟩
 ·
  exact .inl h1
 ·
  refine .inr ⟨g, cap, cur, e, h2, ?_, hr⟩
  refine (k.block g (lt_of_block hh) fun hs => ?_).trans hh
  obtain ⟨_, o, h3, h4⟩ := hS g hs
  rw [hh] at h3; cases h3; cases h4
section
variable {P : Program} {l : List (Nat × Value)} {w : World} {x y z u : Operand} {t e : TypeId}
theorem pu_slice3 {A : Option Addr} {len c lo hi mx s : Nat} {k k' k'' : IntKind} {i j m : Int} (hu : P.underlying t = some (.slice e)) (hs : sizeB P e s = true) (hx : lk l x = some (.slice A len c)) (hl : lk l u = some (.int k i)) (hi' : i = (lo : Int)) (hh : lk l z = some (.int k' j)) (hj : j = (hi : Int)) (hy : lk l y = some (.int k'' m)) (hm : m = (mx : Int))
 (h1 : lo ≤ hi) (h2 : hi ≤ mx) (h3 : mx ≤ c) : Pu P (.slice t x (some u) (some z) (some y)) l w (.slice (cutA A lo mx s) (hi - lo) (mx - lo)) := fun n B ha d ty pos af g => by
 subst hi' hj hm
 unfold execOp
 simp only [Option.map_some, ha.eval hx, ha.eval hl, ha.eval hh, ha.eval hy]
 have e1 : (0 : Int) ≤ (lo : Int) ∧ (lo : Int) ≤ (hi : Int) := by omega
 have e2 : (0 : Int) ≤ (hi : Int) ∧ (hi : Int) ≤ (mx : Int) := by omega
 have e3 : (0 : Int) ≤ (mx : Int) ∧ (mx : Int) ≤ (c : Int) := by omega
 simp [Instr.sliceAt, Instr.slice, run_underlying hu, Instr.sliceBounds, Instr.sliceBound, asIntOf, sizeB_run hs, h1, h2, h3, cutA]
theorem pu_min {a b : Nat} {ts : Array TypeId} (hx : lk l x = some (.int .i64 (a : Int))) (hy : lk l y = some (.int .i64 (b : Int))) : Pu P (.call ⟨.builtin .min, #[x, y], ts⟩) l w (.int .i64 ((min a b : Nat) : Int)) := fun n A ha d ty pos af g => by
 unfold execOp
 simp only [resolve, invoke, builtin, Builtin.min_, Sem.run_bind, Sem.run_pure, Result.andThen_ok, List.map_toArray, List.map_cons, List.map_nil, ha.eval hx, ha.eval hy, List.foldlM_cons, List.foldlM_nil, Builtin.min2]
 by_cases h : b < a
 ·
  rw [if_pos (by omega), Nat.min_eq_right (by omega)]
 ·
  rw [if_neg (by omega), Nat.min_eq_left (by omega)]
end

/-! ### the pieces -/
abbrev Cx (L : List Nat) := { j : Nat // 16 * j < L.length }
def chA (A : Option Addr) (j : Nat) : Option Addr := A.map (·.add (16 * j))
def chN (L : List Nat) (j : Nat) : Nat := min 16 (L.length - 16 * j)
def chX (L : List Nat) (j : Nat) : List Nat := (L.drop (16 * j)).take 16
def nCh (L : List Nat) : Nat := (L.length + 15) / 16
abbrev chV (A : Option Addr) (L : List Nat) (j : Nat) : Value := .slice (chA A j) (chN L j) (chN L j)
theorem chX_length (L : List Nat) (j : Nat) : (chX L j).length = chN L j := by unfold chX chN; rw [List.length_take, List.length_drop]
theorem Bs.ch {w : World} {A : Option Addr} {L : List Nat} (h : Bs w A L) (j : Nat) : Bs w (chA A j) (chX L j) :=
 ⟨fun n hn => h.byte n (List.mem_of_mem_drop (List.mem_of_mem_take hn)), fun hl => by
  obtain ⟨b, o, rfl, hc⟩ := h.cell (by intro e; subst e; exact hl (by simp [chX]))
  refine ⟨b, o + 16 * j, by unfold chA; rw [Option.map_some, add_at], fun i n hi => ?_⟩
  unfold chX at hi
  rw [List.getElem?_take] at hi
  split at hi
  ·
   rw [List.getElem?_drop] at hi
   rw [show o + 16 * j + i = o + (16 * j + i) by omega]; exact hc _ _ hi
  ·
   cases hi⟩
theorem Aw.ch {S : Nat → Prop} {A : Option Addr} {L : List Nat} (h : Aw S A L) (j : Nat) : Aw S (chA A j) (chX L j) := fun hl x hx => by
 have hL : L ≠ [] := by intro e; subst e; exact hl (by simp [chX])
 cases A with
 | none => cases hx
 | some a =>
  obtain rfl : a.add (16 * j) = x := Option.some.inj hx
  have := h hL a rfl
  rwa [show (a.add (16 * j)).block = a.block by unfold Addr.add; split <;> rfl]
theorem pu_sliceCh {P : Program} {l : List (Nat × Value)} {w : World} {x y z u : Operand} {t e : TypeId} {A : Option Addr} {L : List Nat} {c k : Nat} {k1 k2 k3 : IntKind} (h9 : 16 * k < L.length) (hc : L.length ≤ c) (hu : P.underlying t = some (.slice e)) (hs : sizeB P e 1 = true) (hx : lk l x = some (.slice A L.length c))
 (hl : lk l u = some (.int k1 ((16 * k : Nat) : Int))) (hh : lk l z = some (.int k2 ((16 * k + chN L k : Nat) : Int))) (hy : lk l y = some (.int k3 ((16 * k + chN L k : Nat) : Int))) : Pu P (.slice t x (some u) (some z) (some y)) l w (chV A L k) := by
 have hn : 16 * k + chN L k ≤ L.length ∧ 0 < chN L k := by unfold chN; omega
 have h := pu_slice3 (w := w) (s := 1) hu hs hx hl rfl hh rfl hy rfl (by omega) (Nat.le_refl _) (by omega)
 unfold cutA at h
 rw [if_neg (by omega), Nat.mul_one, Nat.add_sub_cancel_left] at h
 exact h
abbrev ChB (A : Option Addr) (L : List Nat) (c bs bn : Nat) (W : World) : Prop := Bk W bs [.slice A L.length c] 22 ∧ Bk W bn [.int .i64 16] 3
theorem ChB.bw {A : Option Addr} {L : List Nat} {c bs bn B0 : Nat} {W W' : World} (h : ChB A L c bs bn W) (b : Bw B0 W W') : ChB A L c bs bn W' := ⟨h.1.bw b, h.2.bw b⟩
theorem drew_grown (W : World) : W.grownBy W.drew none := ⟨rfl, rfl, rfl, Nat.le_refl _, fun _ _ _ => rfl⟩
theorem chunk_stops (m : Nat) (A : Option Addr) (L : List Nat) (c bs bn : Nat) (w : World) (hb : ChB A L c bs bn w) (hc : L.length ≤ c) (hm : L.length ≤ 1000000) :
 SeqStopsK Fence.wide m Tryz.prog 79 #[.pointer (some ⟨bs, 0, none⟩), .pointer (some ⟨bn, 0, none⟩)] (fun x : Cx L => #[chV A L x.1]) (fun W W' => ChB A L c bs bn W → ChB A L c bs bn W')
  (fun xs => xs.map Subtype.val = List.range (nCh L)) (fun _ => True) (nCh L) w := by
 intro l0 J Jx W hW hJ hJx hY h0
 have hb0 : ChB A L c bs bn W := ⟨hb.1.kept (Kp.of_below hW No) (fun f => f), hb.2.kept (Kp.of_below hW No) (fun f => f)⟩
 refine callsIn_wide.2 (?_ : Ret Tryz.prog 79 ([.func (.yield l0) #[] #[], .pointer (some ⟨bs, 0, none⟩), .pointer (some ⟨bn, 0, none⟩)] : List Value).toArray W (fun v W' => (∃ xs : List (Cx L), xs.map Subtype.val = List.range (nCh L) ∧ J xs W') ∨ (∃ pre : List (Cx L), True ∧ Jx pre W'))) |>.mono fun e W' ⟨v, he, hv⟩ => ⟨⟨v, he⟩, hv⟩
 refine enter (n := 31) _ Tryz.func79 rfl rfl rfl ?_
 show Cw _ _ _ _ [(0, .func (.yield l0) #[] #[]), (1, .pointer (some ⟨bs, 0, none⟩)), (2, .pointer (some ⟨bn, 0, none⟩))] _
 refine C_seq fun K1 hK1 => C_region <| Rp (pu_assign rfl) <| R_nil <| X_then hK1 <| C_block <| C_loop (fun m_ l_ wr => ∃ (k : Nat) (pre : List (Cx L)), m_ = nCh L - k ∧ l_ = [(0, .func (.yield l0) #[] #[]), (1, .pointer (some ⟨bs, 0, none⟩)), (2, .pointer (some ⟨bn, 0, none⟩)), (4, .int .i64 ((16 * k : Nat) : Int))] ∧ k ≤ nCh L ∧ pre.map Subtype.val = List.range k ∧ ChB A L c bs bn wr ∧ J pre wr)
  (nCh L) [(0, .func (.yield l0) #[] #[]), (1, .pointer (some ⟨bs, 0, none⟩)), (2, .pointer (some ⟨bn, 0, none⟩)), (4, .int .i64 0)] (Sub.cons rfl (Sub.cons rfl (Sub.cons rfl (Sub.cons rfl (Sub.nil _))))) ⟨0, [], rfl, rfl, Nat.zero_le _, rfl, hb0, h0⟩ ?_
 rintro _ _ w1 ⟨k, pre, rfl, rfl, hk, hpre, hb1, hj⟩
 have hn : nCh L = (L.length + 15) / 16 := rfl
 have hpl : pre.length = k := by have := congrArg List.length hpre; simpa using this
 refine C_seq fun K2 hK2 => C_seq fun K3 hK3 => C_region <| Rp (pu_move rfl) <| Rp (pu_loadK hb1.1 (by kernel_rfl) rfl rfl) <| Rp (pu_len Tryz.underlying22 rfl) <| Rp (pu_lss (p := 16 * k < L.length) rfl rfl (by omega)) <| R_nil <| X_then hK3 <| C_dec rfl (fun h9 => ?_) (fun h9 => ?_)
 ·
  refine C_skip <| X_then hK2 <| C_seq fun K4 hK4 => C_block <| C_seq (fun K5 hK5 => ?_)
  have hj2 : J pre w1.drew := hJ pre w1 w1.drew none hj (drew_grown w1) (fun r e => by cases e)
  refine D_begin (fun Z => Kp No w1 Z ∧ ChB A L c bs bn Z ∧ J pre Z) 7 rfl (by kernel_rfl) ⟨(Kp.refl No w1).drew, hb1, hj2⟩ ?_
  intro w2 k2 hS2
  obtain ⟨_, hb2, hj2⟩ := id hS2
  refine D_take 0 rfl (by kernel_rfl) (by kernel_rfl) (by kernel_rfl) (fun _ _ _ h => h) rfl (fun Z hS => pu_loadK hS.2.1.2 (by kernel_rfl) rfl rfl) <| D_take 1 rfl (by kernel_rfl) (by kernel_rfl) (by kernel_rfl) (fun _ _ _ h => h) rfl (fun Z hS => pu_loadK hS.2.1.1 (by kernel_rfl) rfl rfl) <| D_take 2 rfl (by kernel_rfl) (by kernel_rfl) (by kernel_rfl) (fun _ _ _ h => h) rfl (fun Z hS => pu_move rfl) <| D_take 3 rfl (by kernel_rfl) (by kernel_rfl) (by kernel_rfl) (fun _ _ _ h => h) rfl (fun Z hS => pu_sliceLo (lo := 16 * k) (s := 1) Tryz.underlying22 (by kernel_rfl) rfl rfl rfl (by omega) (by omega)) <| D_take 4 rfl (by kernel_rfl) (by kernel_rfl) (by kernel_rfl) (fun _ _ _ h => h) rfl (fun Z hS => pu_len Tryz.underlying22 rfl) <| D_take 5 rfl (by kernel_rfl) (by kernel_rfl) (by kernel_rfl) (fun _ _ _ h => h) rfl (fun Z hS => pu_min (a := 16) (b := L.length - 16 * k) rfl rfl) <| D_take 6 rfl (by kernel_rfl) (by kernel_rfl) (by kernel_rfl) (fun _ _ _ h => h) rfl (fun Z hS => pu_assign rfl) <| D_done (by kernel_rfl) <| X_then hK5 <| C_seq fun K6 hK6 => C_regionI m <| RI_pu (pu_move rfl) rfl <| RI_pu (pu_loadK hb2.1 (by kernel_rfl) rfl rfl) rfl <| RI_pu (pu_move rfl) rfl <| RI_pu (pu_move rfl) rfl <| RI_pu (pu_move rfl) rfl <| RI_pu (pu_add (z := ((16 * k + chN L k : Nat) : Int)) rfl rfl (by rw [IntKind.wrap_i64] <;> unfold chN <;> omega)) rfl <| RI_pu (pu_move rfl) rfl <| RI_pu (pu_move rfl) rfl <| RI_pu (pu_add (z := ((16 * k + chN L k : Nat) : Int)) rfl rfl (by rw [IntKind.wrap_i64] <;> unfold chN <;> omega)) rfl <| RI_pu (pu_sliceCh h9 hc Tryz.underlying22 (by kernel_rfl) rfl rfl rfl rfl) rfl <| RI_yield (vs := [chV A L k]) (hY pre ⟨k, h9⟩ w2 hj2 (by rw [hpl, hn]; omega)) rfl rfl (Φ := fun v W' => (v = .bool true ∧ J (pre ++ [⟨k, h9⟩]) W' ∧ ChB A L c bs bn W') ∨ (v = .bool false ∧ Jx (pre ++ [⟨k, h9⟩]) W')) (fun e W' he => ?_) rfl ?_
  ·
   rcases he with ⟨rfl, h1, h2⟩ | ⟨rfl, h1⟩
   ·
    exact ⟨_, rfl, .inl ⟨rfl, h1, h2 hb2⟩⟩
   ·
    exact ⟨_, rfl, .inr ⟨rfl, h1⟩⟩
  rintro _ w3 (⟨rfl, hj3, hb3⟩ | ⟨rfl, hx3⟩)
  ·
   refine RI_pu (pu_not rfl) rfl <| RI_nil <| X_then hK6 <| C_false rfl <| C_skip <| X_in_normal <| X_then hK4 <| C_region <| Rp (pu_move rfl) <| Rp (pu_loadK hb3.2 (by kernel_rfl) rfl rfl) <| Rp (pu_add (z := ((16 * (k + 1) : Nat) : Int)) rfl rfl (by rw [IntKind.wrap_i64] <;> omega)) <| Rp (pu_assign rfl) <| R_nil <| X_round (nCh L - (k + 1)) [(0, .func (.yield l0) #[] #[]), (1, .pointer (some ⟨bs, 0, none⟩)), (2, .pointer (some ⟨bn, 0, none⟩)), (4, .int .i64 ((16 * (k + 1) : Nat) : Int))] (by omega) (Sub.cons rfl (Sub.cons rfl (Sub.cons rfl (Sub.cons rfl (Sub.nil _)))))
    ⟨k + 1, pre ++ [⟨k, h9⟩], rfl, rfl, by omega, by rw [List.map_append, hpre, List.range_succ]; rfl, hb3, hj3⟩
  ·
   refine RI_pu (pu_not rfl) rfl <| RI_nil <| X_then hK6 <| C_true rfl <| C_ret <| X_in_ret (X_then_ret (X_then_ret (X_in_ret ?_)))
   exact X_ret0 (.inl rfl) rfl (.inr ⟨_, trivial, hx3⟩)
 ·
  refine C_exit <| X_then_exit (X_then_exit (X_in_eq ?_))
  exact X_ret0 (.inr rfl) rfl (.inl ⟨pre, by rw [hpre, show k = nCh L by omega], hj⟩)
/-- A loop over the pieces. -/
theorem C_chunk {n : Nat} {lst : List (Nat × Value)} {t d d2 id bs bn c : Nat} {ty : TypeId} {pos : String} {af : Array Edge} {A : Option Addr} {L : List Nat} {body : Code} {Q : Exit → Act → World → Prop} {w : World}
 (hg : lkN lst t = some (.func (.func 79) #[] #[.pointer (some ⟨bs, 0, none⟩), .pointer (some ⟨bn, 0, none⟩)])) (hb : ChB A L c bs bn w) (hc : L.length ≤ c) (hm : L.length ≤ 1000000) (hd : Nat.blt d n = true) (hd2 : Nat.blt d2 n = true)
 (J : List (Cx L) → World → Prop) (S : Nat → Prop) (hJ : ∀ pre B C, J pre B → Bw w.heap.size B C → J pre C) (hJb : ∀ pre W, J pre W → ChB A L c bs bn W) (hS : ∀ pre W, J pre W → ∀ i, S i → ∃ o : Obj, W.heap[i]? = some o ∧ o.isCells = true) (h0 : J [] w)
 (hbody : ∀ (l0 : Nat) (pre : List (Cx L)) (x : Cx L) (W : World), J pre W → pre.length < nCh L → Cr (some l0) Tryz.prog body (fun e _ W' => e = .normal ∧ Kp S W W' ∧ J (pre ++ [x]) W') n ((d2, chV A L x.1) :: (d, chV A L x.1) :: lst) W)
 (hdone : ∀ D xs W, w.heap.size ≤ D → xs.map Subtype.val = List.range (nCh L) → J xs W → W.heap[D]? = some (.deferred (some [])) → Xm D Q .normal n lst W) :
 Cw Tryz.prog (.rangeFunc (.tmp t) #[d] (.region id #[⟨some d2, .assign (.tmp d), ty, pos, af, none⟩] false) body) Q n lst w := fun a ha => by
 refine wpIn_wide.1 (wpIn_rangeFunc_ownH (F := Fence.wide) (n := 3) rfl (by decide) (gf := 79) (lb := #[.pointer (some ⟨bs, 0, none⟩), .pointer (some ⟨bn, 0, none⟩)]) (ha.tmp hg) trivial (fun args w => run_callFunc (by kernel_rfl) args w)
  (chunk_stops 2 A L c bs bn w hb hc hm) (fun h1 h2 h => h2 (h1 h)) (fun W q o o' hq h ho _ h1 => h1.bw (Bw.put hq h ho)) (Below.refl _ _) (fun _ => rfl) J (fun _ _ _ => False) (fun s X Y row hs hg' hr => hJ s X Y hs (.of hg' hr)) (fun _ _ _ _ _ hs _ _ => hs) h0
  (fun x a' _ => St n ((d2, chV A L x.1) :: (d, chV A L x.1) :: lst) a') (fun _ _ _ _ _ _ hs _ _ => hs) ?_ ?_ ?_ ?_)
 ·
  intro l pre x W K hj hK
  have h1 : St n ((d, chV A L x.1) :: lst) { tmps := ((#[d] : Array Nat).zip #[chV A L x.1]).foldl (fun t (p, v) => t.setIfInBounds p v) a.tmps, defers := [] } := by
   rw [show ((#[d] : Array Nat).zip #[chV A L x.1]).foldl (fun t (p, v) => t.setIfInBounds p v) a.tmps = a.tmps.setIfInBounds d (chV A L x.1) by simp]
   exact ⟨(ha.put hd (chV A L x.1)).size, rfl, (ha.put hd (chV A L x.1)).slot⟩
  have h2 : Cr (some l) Tryz.prog (.region id #[⟨some d2, .assign (.tmp d), ty, pos, af, none⟩] false) (Exit.then K (fun _ _ _ => False)) n ((d, chV A L x.1) :: lst) W :=
   Cr_region (os := [⟨some d2, .assign (.tmp d), ty, pos, af, none⟩]) rfl (fun ⟨_, _, h⟩ => h) (R_pu (pu_assign (by simp [lk, lkN])) hd2 (R_nil fun a' ha' => hK a' W (KeepsFrom.refl _ _) (fun h => h) hj ha'))
  exact h2 _ _ h1
 ·
  intro l pre x a' W _ _ hj hx hlt
  refine wpIn_mono (hbody l pre x W hj hlt _ a' hx) fun e a2 W2 h => ?_
  obtain ⟨rfl, h1, h2⟩ := h
  exact ⟨keepsFrom_of_kp h1 (hS pre W hj), fun _ => hJb _ _ h2, h2⟩
 ·
  intro D xs W hD hxs hj hK
  exact hdone D xs W hD hxs hj hK _ ⟨ha.size, by rw [ha.defers], ha.slot⟩
 ·
  intro D c pre W _ _ h _
  exact h.elim
end Go.Proofs.YtlkbkgghfhoggaaGreatDoor
end
section
set_option linter.unusedVariables false
set_option linter.unusedSimpArgs false
namespace Go.Proofs.YtlkbkgghfhoggaaGreatDoor
open Go.RowKit Gm
/-! ### own slices beside blocks of another type -/
def obk (A : Option Addr) : Option Nat := (Value.slice A 0 0).ownBlock
theorem ownB {A : Option Addr} {n c : Nat} : (Value.slice A n c).ownBlock = obk A := by cases A <;> rfl
theorem Ob.neT {w : World} {base k c p : Nat} {A : Option Addr} {X : List Nat} {L : List Value} {t : TypeId} (h : Ob w base (.slice A k c) X) (hb : Bk w p L t) (ht : (t == 5) = false) : ∀ b, (Value.slice A k c).ownBlock = some b → b ≠ p := fun b e1 e2 => by
  subst e2
  rcases h.own.2 with ⟨e, _⟩ | ⟨g, cap, cur, e, _, hh, _⟩
  · rw [e] at e1; cases e1
  · rw [e] at e1; cases e1
    have := hb
    unfold Bk at this
    rw [hh] at this
    injection this with this
    injection this with _ h2 _
    rw [h2] at ht; simp at ht
theorem Ob.onE {w w' : World} {base q : Nat} {v : Value} {X : List Nat} (h : Ob w base v X) (k : Kp (On q) w w') (hn : ∀ b, v.ownBlock = some b → b ≠ q) : Ob w' base v X := h.kept k hn
theorem Ob.cut0 {w : World} {base k c : Nat} {A : Option Addr} {X : List Nat} (h : Ob w base (.slice A k c) X) : Ob w base (.slice A 0 c) [] := by
  rcases h.own.2 with ⟨e, hn⟩ | ⟨g, cap, cur, e, hb, hh, hn, hcm, hcs, ht⟩
  · injection e with e1 e2 e3; subst e1 e3; exact Ob.nil w base
  · injection e with e1 e2 e3; subst e1 e3
    exact ⟨⟨rfl, .inr ⟨g, _, cur, rfl, hb, hh, Nat.zero_le _, hcm, hcs, rfl⟩⟩, fun _ h => by cases h⟩
theorem Apn.hin {w w' : World} {base k c c' N : Nat} {A A' : Option Addr} {X : List Nat} {R : Nat → Prop} (h : Apn w base (.slice A k c) X A' c' w') (hq : ∀ i, obk A = some i → R i ∨ N ≤ i) (hN : N ≤ w.heap.size) : ∀ i, obk A' = some i → R i ∨ N ≤ i := fun i hi => by
  rcases h.own with e | e
  · rw [ownB, ownB] at e; exact hq i (e ▸ hi)
  · rw [ownB] at e; rw [e] at hi; cases hi; exact .inr hN
/-! ### the block -/
def hL (H : List Nat) (v : Value) (n : Nat) : List Value := u32s H ++ [v, .int .u64 (n : Int)]
theorem hL_8 {H : List Nat} {v : Value} {n : Nat} (h : H.length = 8) : (hL H v n)[8]? = some v := by unfold hL; rw [List.getElem?_append_right (by rw [u32s_length, h]; decide), u32s_length, h]; rfl
theorem hL_9 {H : List Nat} {v : Value} {n : Nat} (h : H.length = 8) : (hL H v n)[9]? = some (.int .u64 (n : Int)) := by unfold hL; rw [List.getElem?_append_right (by rw [u32s_length, h]; decide), u32s_length, h]; rfl
theorem hL_row {H : List Nat} {v : Value} {n : Nat} (h : H.length = 8) : ((hL H v n).drop 0).take 8 = u32s H := by unfold hL; rw [List.drop_zero]; exact List.take_left' (by rw [u32s_length, h])
theorem hL_len {H : List Nat} {v : Value} {n : Nat} (h : H.length = 8) : (hL H v n).length = 10 := by unfold hL; rw [List.length_append, u32s_length, h]; rfl
theorem hL_set8 {H : List Nat} {v u : Value} {n : Nat} (h : H.length = 8) : (hL H v n).set 8 u = hL H u n := by unfold hL; rw [List.set_append_right _ _ (by rw [u32s_length, h]; decide), u32s_length, h]; rfl
theorem hL_set9 {H : List Nat} {v : Value} {n m : Nat} (h : H.length = 8) : (hL H v n).set 9 (.int .u64 (m : Int)) = hL H v m := by unfold hL; rw [List.set_append_right _ _ (by rw [u32s_length, h]; decide), u32s_length, h]; rfl
theorem hL_put {H H' : List Nat} {v : Value} {n : Nat} (h : H.length = 8) (h' : H'.length = 8) : (hL H v n).take 0 ++ u32s H' ++ (hL H v n).drop (0 + (u32s H').length) = hL H' v n := by
  unfold hL; rw [List.take_zero, List.nil_append, u32s_length, h', Nat.zero_add, List.drop_left' (by rw [u32s_length, h])]
set_option maxRecDepth 100000 in
theorem h_builtS {A : Option Addr} {k c n : Nat} : ∀ {H : List Nat}, H.length = 8 → (Tryz.prog.built 206 [(0, .agg (u32s H).toArray), (1, .slice A k c), (2, .int .u64 (n : Int))]).map Array.toList = some (hL H (.slice A k c) n)
  | [a0, a1, a2, a3, a4, a5, a6, a7], _ => by kernel_rfl
/-- The blocks of one. -/
def Hf (p : Nat) (A : Option Addr) (i : Nat) : Prop := i = p ∨ obk A = some i
/-- At p lies one into which M was written. -/
structure Hs (w : World) (p : Nat) (A : Option Addr) (c : Nat) (M : List Nat) : Prop where
  bk : Bk w p (hL (HB M) (.slice A (RB M).length c) M.length) 206
  ob : Ob w 0 (.slice A (RB M).length c) (RB M)
section
variable {w w' : World} {p c : Nat} {A : Option Addr} {M : List Nat} {S : Nat → Prop}
theorem Hs.kept (h : Hs w p A c M) (k : Kp S w w') (hn : ∀ i, Hf p A i → ¬ S i) : Hs w' p A c M := ⟨h.bk.kept k (hn p (.inl rfl)), h.ob.kept k (fun b hb => hn b (.inr (by rwa [ownB] at hb)))⟩
theorem Hs.keptNo (h : Hs w p A c M) (k : Kp No w w') : Hs w' p A c M := h.kept k (fun _ _ f => f)
theorem Hs.top (h : Hs w p A c M) : ∀ i, Hf p A i → i < w.heap.size := fun i hi => by
  rcases hi with rfl | hi
  · exact h.bk.lt
  · exact (h.ob.lt i (by rw [ownB]; exact hi)).2
theorem Hs.onN {w0 : World} {q : Nat} (h : Hs w p A c M) (k : Kp (On q) w w') (h0 : Hs w0 p A c M) (hq : w0.heap.size ≤ q) : Hs w' p A c M := h.kept k (fun i hi e => by have := h0.top i hi; have : i = q := e; omega)
theorem Hs.of {H X M : List Nat} {n : Nat} (hb : Bk w p (hL H (.slice A X.length c) n) 206) (ho : Ob w 0 (.slice A X.length c) X) (h1 : H = HB M) (h2 : X = RB M) (h3 : n = M.length) : Hs w p A c M := by
  subst h1 h2 h3; exact ⟨hb, ho⟩
end
theorem Hf.new {p N : Nat} {Ar A : Option Addr} (h : ∀ i, obk A = some i → Hf p Ar i ∨ N ≤ i) : ∀ i, Hf p A i → Hf p Ar i ∨ N ≤ i := fun i hi => hi.elim (fun e => .inl (.inl e)) (h i)
/-- How many bytes fill up what is left over. -/
def nW (M l : List Nat) : Nat := min (64 - (RB M).length) l.length
theorem nW_le (M l : List Nat) : nW M l ≤ l.length ∧ nW M l ≤ 64 - (RB M).length ∧ (nW M l = l.length ∨ nW M l = 64 - (RB M).length) := by unfold nW; omega
theorem rb_nil {M : List Nat} (h : M.length % 64 = 0) : RB M = [] := List.eq_nil_of_length_eq_zero (by rw [RB_len]; exact h)
theorem mod_full {M B : List Nat} (h : (RB M).length + B.length = 64) : (M ++ B).length % 64 = 0 := by rw [RB_len] at h; rw [List.length_append]; omega
theorem w_small {M l : List Nat} (h : (RB M ++ l.take (nW M l)).length < 64) : HB M = HB (M ++ l) ∧ RB M ++ l.take (nW M l) = RB (M ++ l) := by
  have h1 := nW_le M l
  have h2 := RB_len M
  rw [List.length_append, List.length_take] at h
  have e : l.take (nW M l) = l := List.take_of_length_le (by omega)
  rw [e]
  have := hb_small (M := M) (B := l) (by omega)
  exact ⟨this.1.symm, this.2.symm⟩
theorem w_full {M l : List Nat} (h : ¬ (RB M ++ l.take (nW M l)).length < 64) : mixB (HB M) (RB M ++ l.take (nW M l)) = HB (M ++ l.take (nW M l)) ∧ (M ++ l.take (nW M l)).length % 64 = 0 ∧ (RB M ++ l.take (nW M l)).length = 64 ∧ (M ++ l.take (nW M l)) ++ l.drop (nW M l) = M ++ l := by
  have h1 := nW_le M l
  have h2 := RB_len M
  rw [List.length_append, List.length_take] at h
  have hl : (l.take (nW M l)).length = nW M l := by rw [List.length_take]; omega
  have hs : (RB M).length + (l.take (nW M l)).length = 64 := by omega
  exact ⟨(hb_full hs (by omega)).1.symm, mod_full hs, by rw [List.length_append]; exact hs, by rw [List.append_assoc, List.take_append_drop]⟩
theorem w_round {M b : List Nat} (hm : M.length % 64 = 0) (hb : 64 ≤ b.length) : mixB (HB M) (b.take 64) = HB (M ++ b.take 64) := by
  have h0 := rb_nil hm
  have hl : (b.take 64).length = 64 := by rw [List.length_take]; omega
  have := (hb_full (M := M) (B := b.take 64) (by rw [h0, hl]; rfl) (by omega)).1
  rw [h0, List.nil_append] at this
  exact this.symm
theorem w_end {M b N : List Nat} (e : M ++ b = N) (hm : M.length % 64 = 0) (hb : b.length < 64) : HB M = HB N ∧ [] ++ b = RB N := by
  have h0 := rb_nil hm
  have := hb_small (M := M) (B := b) (by rw [h0]; simpa using hb)
  rw [h0] at this
  subst e
  exact ⟨this.1.symm, this.2.symm⟩
theorem Hf.low {w : World} {q base k c N : Nat} {A : Option Addr} {X : List Nat} (hq : N ≤ q) (ho : Ob w base (.slice A k c) X) (hb : N ≤ base) : ∀ i, Hf q A i → N ≤ i := fun i hi => by
  rcases hi with rfl | hi
  · exact hq
  · exact Nat.le_trans hb (ho.lt i (by rw [ownB]; exact hi)).1
theorem Hs.aw {w : World} {p c d : Nat} {A : Option Addr} {M X : List Nat} (h : Hs w p A c M) (hd : w.heap.size ≤ d) : Aw (Hf p A) (some ⟨d, 0, none⟩) X := fun _ x hx hs => by
  cases hx
  have : d < w.heap.size := h.top _ hs
  omega
theorem Ob.as {w : World} {base k k' c : Nat} {A : Option Addr} {X Y : List Nat} (h : Ob w base (.slice A k c) X) (e : X = Y) (hk : Y.length = k') : Ob w base (.slice A k' c) Y := by
  have := h.le.1
  subst e
  rw [← hk, this]; exact h
theorem wbyU (H : List Nat) (k : Nat) : By 32 (upto (wby H) (fun _ => 0) k 32) := upto_by (fun _ _ => Nat.mod_lt _ (by decide)) (fun _ _ => by decide)
/-- A pure operation that is met when it comes up. -/
theorem Nz_pu {P : Program} {Q : Exit → Act → World → Prop} {S : World → Prop} {n fuel z i d : Nat} {ls : Array Bool} {l : List (Nat × Value)} {w : World} {ops : Array Oper} {op : Op} {v : Value} {ty : TypeId} {pos : String} {af : Array Edge}
    (hi : ops[i]? = some ⟨some d, op, ty, pos, af, none⟩) (h : Pu P op l w v) (hd : Nat.blt d n = true) (k : S w ∧ Zd P ops Q S z fuel (ls.setIfInBounds i true) n ((d, v) :: l) w) : Nz P ops Q S z fuel ls n l w i :=
  Nz_lo hi (Φ := fun u w' => u = v ∧ w' = w) (fun a ha K Q hK => by unfold Oper.wp; rw [h n a ha]; exact hK _ _ ⟨rfl, rfl⟩) hd (fun u w' hu => by rw [hu.1, hu.2]; exact k)
theorem pad_z (z : Nat) : (128 :: List.replicate z 0) ++ [0] = 128 :: List.replicate (z + 1) 0 := by rw [List.replicate_succ', List.cons_append]
theorem pad_end {n z i : Nat} (hz : z = (119 - n % 64) % 64) (hi : i = 8) : (128 :: List.replicate z 0) ++ (be8 (8 * n)).take i = padL n := by
  subst hz hi; unfold padL; rw [List.take_of_length_le (by rw [be8_len]; decide)]
end Go.Proofs.YtlkbkgghfhoggaaGreatDoor
end
