/- Walks of slices.Grow and slices.Concat. -/
import Derived.Test.YtlkbkgghfhoggaaGreatDoorKe
import Derived.Lib.AppendZerosOnto
section
set_option linter.unusedVariables false
set_option linter.unusedSimpArgs false
namespace Go.Proofs.YtlkbkgghfhoggaaGreatDoor
open Go.RowKit Gm
theorem zeros_one (z : Value) (n : Nat) : Builtin.zeroCells #[z] n = (List.replicate n z).toArray := by
  apply Array.ext
  · simp [Builtin.zeroCells]
  · intro i h1 h2
    simp [Builtin.zeroCells, Nat.mod_one]
section
variable {P : Program} {n : Nat} {l : List (Nat × Value)} {w : World} {d? : Option Tmp} {ty : TypeId} {pos : String} {af : Array Edge} {g? : Option (Nat × Bool)} {x y : Operand} {t e : TypeId}
theorem pu_cap {k c : Nat} {a : Option Addr} (hu : P.underlying t = some (.slice e)) (hx : lk l x = some (.slice a k c)) : Pu P (.call ⟨.builtin .cap, #[x], #[t]⟩) l w (.int .i64 (c : Int)) := fun n A ha d ty pos af g => by
  unfold execOp
  simp only [resolve, invoke, Sem.run_bind, Sem.run_pure, Result.andThen_ok]
  simp [builtin, Builtin.cap_, ha.eval hx, run_underlying hu, goInt]
theorem lo_growZ {m : Nat} (hx : lk l x = some (.slice none 0 0)) (hy : lk l y = some (.int .i64 (m : Int))) (h0 : 0 < m) (hm : m ≤ 70368744177664) :
    Lo Tryz.prog ⟨d?, .call ⟨.builtin .append, #[x, y], #[22, 3]⟩, ty, pos, af, g?⟩ n l w (fun v w' => ∃ p c, v = .slice (some ⟨p, 0, none⟩) m c ∧ m ≤ c ∧ c ≤ maxLen ∧ New w p (u8s (List.replicate c 0)) 5 w') := by
  obtain ⟨i, hi, hzz⟩ := Option.map_eq_some_iff.1 u8_info
  simp only [Prod.mk.injEq] at hzz
  obtain ⟨hz0, hz1, hz2⟩ := hzz
  have r := Lib.run_append_grow_zeros (P := Tryz.prog) w 22 3 ty 5 i (.int .u8 0) .i64 .i64 u8_under Tryz.underlying3 hi hz0 none 0 0 [] (run_firstCells_none _ _ _ _ _) m h0 (by omega) (by omega) (by omega) (by rw [hz2]; omega) (by rw [hz2]; exact growslice_fits (by omega) (by omega))
  have hG := grownCap_ge w (0 + m) 0 5
  have hG2 := grownCap_le_maxLen w (0 + m) 0 5 (by unfold maxLen; omega)
  generalize grownCap w (0 + m) 0 5 = G at r hG hG2
  have ec : (([] : List Value).toArray ++ Builtin.zeroCells (Value.int .u8 0).cells m ++ Builtin.zeroCells (Value.int .u8 0).cells (G - (0 + m))) = (u8s (List.replicate G 0)).toArray := by
    rw [show (Value.int .u8 0).cells = #[.int .u8 0] from rfl, zeros_one, zeros_one, u8s_rep]
    have e : List.replicate m (Value.int .u8 0) ++ List.replicate (G - (0 + m)) (Value.int .u8 0) = List.replicate G (Value.int .u8 0) := by rw [List.replicate_append_replicate]; exact congrArg (fun k => List.replicate k (Value.int .u8 0)) (by omega : m + (G - (0 + m)) = G)
    rw [← e]; simp
  rw [ec, Nat.zero_add] at r
  have N := New.alloc w.drew (u8s (List.replicate G 0)) 5
  refine lo_run (v := .slice (some ⟨w.heap.size, 0, none⟩) m G) (w' := w.drew.alloc (.cells (u8s (List.replicate G 0)).toArray 5)) (fun a ha => ?_) ⟨_, G, rfl, by omega, hG2, N.le, (Kp.refl No w).drew.then_ N.kp, N.bk⟩
  unfold execOp
  simp only [resolve, invoke, builtin, Sem.run_bind, Sem.run_pure, Result.andThen_ok, List.map_toArray, List.map_cons, List.map_nil, ha.eval hx, ha.eval hy, r]
end
/-! ### parts -/
def partsL (L : List (Option Addr × List Nat × Nat)) : List Value := L.map fun q => .slice q.1 q.2.1.length q.2.2
def catL (L : List (Option Addr × List Nat × Nat)) : List Nat := L.flatMap fun q => q.2.1
theorem partsL_get {L : List (Option Addr × List Nat × Nat)} {i : Nat} {q : Option Addr × List Nat × Nat} (h : L[i]? = some q) : (partsL L)[i]? = some (.slice q.1 q.2.1.length q.2.2) := by unfold partsL; rw [List.getElem?_map, h]; rfl
theorem catL_step {L : List (Option Addr × List Nat × Nat)} {i : Nat} {q : Option Addr × List Nat × Nat} (h : L[i]? = some q) : catL (L.take i) ++ q.2.1 = catL (L.take (i + 1)) := by
  unfold catL; rw [List.take_add_one, h, List.flatMap_append]; simp
theorem catL_le (L : List (Option Addr × List Nat × Nat)) (i : Nat) : (catL (L.take i)).length ≤ (catL L).length := by
  conv => rhs; rw [← List.take_append_drop i L]
  unfold catL; rw [List.flatMap_append, List.length_append]; exact Nat.le_add_right _ _
theorem parts2 {A B : Option Addr} {X Y : List Nat} {a b m n : Nat} (h : X.length = m) (h' : Y.length = n) : [Value.slice A m a, .slice B n b] = partsL [(A, X, a), (B, Y, b)] := by subst h h'; rfl
theorem parts3 {A B C : Option Addr} {X Y Z : List Nat} {a b c m n k : Nat} (h : X.length = m) (h' : Y.length = n) (h'' : Z.length = k) : [Value.slice A m a, .slice B n b, .slice C k c] = partsL [(A, X, a), (B, Y, b), (C, Z, c)] := by subst h h' h''; rfl
theorem all2 {α : Type} {R : α → Prop} {a b : α} (ha : R a) (hb : R b) : ∀ q ∈ [a, b], R q := fun q hq => by
  rcases List.mem_cons.1 hq with rfl | hq
  · exact ha
  · rw [List.mem_singleton.1 hq]; exact hb
theorem all3 {α : Type} {R : α → Prop} {a b c : α} (ha : R a) (hb : R b) (hc : R c) : ∀ q ∈ [a, b, c], R q := fun q hq => by
  rcases List.mem_cons.1 hq with rfl | hq
  · exact ha
  · exact all2 hb hc q hq
theorem cat2 {A B : Option Addr} {X Y : List Nat} {a b : Nat} : catL [(A, X, a), (B, Y, b)] = X ++ Y := by simp [catL]
theorem cat3 {A B C : Option Addr} {X Y Z : List Nat} {a b c : Nat} : catL [(A, X, a), (B, Y, b), (C, Z, c)] = X ++ (Y ++ Z) := by simp [catL]
/-! ### sums with a key -/
def kpB (K : List Nat) : List Nat := K ++ List.replicate (64 - K.length) 0
def padK (K : List Nat) (x : Nat) : List Nat := arr 64 fun j => (kpB K).getD j 0 ^^^ x
theorem kpB_by {K : List Nat} (h : K.length ≤ 64) (hb : ∀ n ∈ K, n < 256) : By 64 (kpB K) := ⟨by unfold kpB; rw [List.length_append, List.length_replicate]; omega, fun v hv => by
  rcases List.mem_append.1 hv with h1 | h1
  · exact hb v h1
  · rw [(List.mem_replicate.1 h1).2]; decide⟩
def macB (K M : List Nat) : List Nat := shaB (padK K 92 ++ shaB (padK K 54 ++ M))
theorem macB_by (K M : List Nat) : By 32 (macB K M) := shaB_by _
theorem padK_len (K : List Nat) (x : Nat) : (padK K x).length = 64 := arr_length _ _
theorem padK_upto {K : List Nat} {x : Nat} (h : K.length ≤ 64) : kpB K = upto (fun j => (kpB K).getD j 0 ^^^ x) (fun j => (kpB K).getD j 0) 0 64 := by
  rw [upto_zero, arr_of (by unfold kpB; rw [List.length_append, List.length_replicate]; omega)]
theorem padK_end {K : List Nat} {x i : Nat} (h : 64 ≤ i) : upto (fun j => (kpB K).getD j 0 ^^^ x) (fun j => (kpB K).getD j 0) i 64 = padK K x := upto_all _ _ h
theorem upto_lenN (f g : Nat → Nat) (k n : Nat) : (upto f g k n).length = n := arr_length _ _
/-! ### what is one's own -/
theorem Hf.no0 {p q : Nat} (h : p ≠ q) : ∀ i, Hf p none i → ¬ Hf q none i := fun i h1 h2 => by
  rcases h1 with rfl | h1
  · rcases h2 with rfl | h2
    · exact h rfl
    · cases h2
  · cases h1
theorem Hf.sep {p N : Nat} {A A' : Option Addr} {S : Nat → Prop} (hI : ∀ i, Hf p A' i → Hf p A i ∨ N ≤ i) (hd : ∀ i, Hf p A i → ¬ S i) (hS : ∀ i, S i → i < N) : ∀ i, Hf p A' i → ¬ S i := fun i hi hs => by
  rcases hI i hi with h | h
  · exact hd i h hs
  · have := hS i hs; omega
theorem Hf.out {p N k : Nat} {A A' : Option Addr} (hI : ∀ i, Hf p A' i → Hf p A i ∨ N ≤ i) (hn : ¬ Hf p A k) (hk : k < N) : ¬ Hf p A' k := fun h => by
  rcases hI k h with h | h
  · exact hn h
  · omega
theorem Hf.ne0 {p k : Nat} (h : k ≠ p) : ¬ Hf p none k := fun hh => hh.elim h (fun e => by cases e)
theorem Aw.hf {w w0 : World} {p c base n c' : Nat} {A B : Option Addr} {M X Y : List Nat} (ho : Ob w base (.slice B n c') Y) (h0 : Hs w0 p A c M) (hb : w0.heap.size ≤ base) : Aw (Hf p A) B X := fun _ x hx hs => by
  have h1 := h0.top _ hs
  have h2 := (ho.lt x.block (by rw [hx]; rfl)).1
  omega
theorem Bs.awL {w : World} {a : Option Addr} {l : List Nat} {S : Nat → Prop} (h : Bs w a l) (hL : ∀ i, S i → w.heap.size ≤ i) : Aw S a l := fun hl x hx hs => Bs.aw h (hL _ hs) hl x hx rfl
theorem Hs.awO {N q b : Nat} {A : Option Addr} {X : List Nat} (hL : ∀ i, Hf q A i → N ≤ i) (hb : b < N) : Aw (Hf q A) (some ⟨b, 0, none⟩) X := fun _ x hx hs => by
  cases hx
  have : N ≤ b := hL _ hs
  omega
/-- At k lies one that sums with a key: what was written into its two. -/
structure Kd (w : World) (k p : Nat) (A : Option Addr) (c q : Nat) (B : Option Addr) (d : Nat) (M N : List Nat) : Prop where
  bk : Bk w k [.pointer (some ⟨p, 0, none⟩), .pointer (some ⟨q, 0, none⟩)] 187
  one : Hs w p A c M
  two : Hs w q B d N
  k1 : ¬ Hf p A k
  k2 : ¬ Hf q B k
  ap : ∀ i, Hf p A i → ¬ Hf q B i
theorem Kd.keptNo {w w' : World} {k p c q d : Nat} {A B : Option Addr} {M N : List Nat} (h : Kd w k p A c q B d M N) (kk : Kp No w w') : Kd w' k p A c q B d M N := ⟨h.bk.no kk, h.one.keptNo kk, h.two.keptNo kk, h.k1, h.k2, h.ap⟩
end Go.Proofs.YtlkbkgghfhoggaaGreatDoor
end
section
set_option linter.unusedVariables false
set_option linter.unusedSimpArgs false
set_option maxHeartbeats 2000000
set_option maxRecDepth 100000
namespace Go.Proofs.YtlkbkgghfhoggaaGreatDoor
open Go.RowKit Gm
theorem slices_grow (n : Nat) (w : World) (hn : n ≤ 1099511627776) : Ret Tryz.prog 58 #[.slice none (0) (0), .int .i64 ((n : Nat) : Int)] w (fun v w' => ∃ A c, v = .slice A ([] : List Nat).length c ∧ Ob w' w.heap.size (.slice A ([] : List Nat).length c) [] ∧ Kp No w w') := by
 have kk0 := Kp.refl No w
 refine enter (n := 27) [.slice none (0) (0), .int .i64 ((n : Nat) : Int)] Tryz.func58 rfl rfl rfl ?_
 show Cw _ _ _ _ [(0, .slice none (0) (0)), (1, .int .i64 ((n : Nat) : Int))] _
 refine C_seq fun K1 hK1 => C_region <| Rp (pu_assign rfl) <| R_nil <| X_then hK1 <| C_seq fun K2 hK2 => C_seq fun K3 hK3 => C_region <| Rp (pu_move rfl) <| Rp (pu_lss (p := n < 0) rfl rfl (by omega)) <| R_nil <| X_then hK3 <| C_decf rfl (by omega) <| C_skip <| X_then hK2 <| C_seq fun K4 hK4 => C_seq fun K5 hK5 => C_region <| Rp (pu_move rfl) <| Rp (pu_move rfl) <| Rp (pu_cap Tryz.underlying22 rfl) <| Rp (pu_move rfl) <| Rp (pu_len Tryz.underlying22 rfl) <| Rp (pu_sub rfl rfl (by rw [IntKind.wrap_i64] <;> omega)) ?_
 refine Rp (pu_sub (z := ((n : Nat) : Int)) rfl rfl (by rw [IntKind.wrap_i64]; omega)) <| Rp (pu_assign rfl) <| R_nil <| X_then hK5 <| C_seq fun K6 hK6 => C_region <| Rp (pu_move rfl) <| Rp (pu_gtr (p := n > 0) rfl rfl (by omega)) <| R_nil <| X_then hK6 <| C_dec rfl (fun h16 => ?_) (fun h16 => ?_)
 ·
  refine C_region <| Rp (pu_move rfl) <| Rp (pu_move rfl) <| Rp (pu_cap Tryz.underlying22 rfl) <| Rp (pu_sliceHi (hi := 0) (s := 1) Tryz.underlying22 (by kernel_rfl) rfl rfl rfl (Nat.zero_le _)) <| Rp (pu_move rfl) <| R_lo (lo_growZ rfl rfl (by omega) (by omega)) rfl ?_
  rintro _ w1 ⟨pz, cz, rfl, hmz, hcz, Nz⟩
  have k1 := Nz.kp
  have kk1 := kk0.then_ k1
  have obz : Ob w1 w.heap.size (.slice (some ⟨pz, 0, none⟩) ([] : List Nat).length cz) [] := Ob.of_block (k := 0) Nz.bk (Nat.le_trans kk0.size Nz.le) (List.length_replicate ..) hcz (fun n hn => by rw [(List.mem_replicate.1 hn).2]; decide) (Nat.zero_le _)
  exact Rp (pu_move rfl) <| Rp (pu_len Tryz.underlying22 rfl) <| Rp (pu_sliceHi (hi := 0) (s := 1) Tryz.underlying22 (by kernel_rfl) rfl rfl rfl (Nat.zero_le _)) <| Rp (pu_assign rfl) <| R_nil <| X_then hK4 <| C_seq fun K7 hK7 => C_region <| Rp (pu_move rfl) <| Rp (pu_assign rfl) <| R_nil <| X_then hK7 <| C_ret <| X_ret1 (.inl rfl) rfl rfl ⟨_, _, rfl, obz, kk1⟩
 ·
  exact C_skip <| X_then hK4 <| C_seq fun K8 hK8 => C_region <| Rp (pu_move rfl) <| Rp (pu_assign rfl) <| R_nil <| X_then hK8 <| C_ret <| X_ret1 (.inl rfl) rfl rfl ⟨none, 0, rfl, Ob.nil _ _, kk0⟩
theorem slices_concat (p : Nat) (L : List (Option Addr × List Nat × Nat)) (w : World) (hp : Bk w p (partsL L) 22) (hL : ∀ q ∈ L, Bs w q.1 q.2.1 ∧ q.2.1.length ≤ q.2.2) (ht : (catL L).length ≤ 1099511627776) (hn : L.length ≤ 1099511627776) : Ret Tryz.prog 37 #[.slice (some ⟨p, 0, none⟩) (L.length) (L.length)] w (fun v w' => ∃ A c, v = .slice A (catL L).length c ∧ Ob w' w.heap.size (.slice A (catL L).length c) (catL L) ∧ Kp No w w') := by
 have hT := catL_le L
 have kk0 := Kp.refl No w
 refine enter (n := 36) [.slice (some ⟨p, 0, none⟩) (L.length) (L.length)] Tryz.func37 rfl rfl rfl ?_
 show Cw _ _ _ _ [(0, .slice (some ⟨p, 0, none⟩) (L.length) (L.length))] _
 refine C_seq fun K1 hK1 => C_region <| Rp (pu_assign rfl) <| R_nil <| X_then hK1 <| C_seq fun K2 hK2 => C_region <| Rp (pu_assign rfl) <| R_nil <| X_then hK2 <| C_seq fun K3 hK3 => C_seq fun K4 hK4 => C_region <| Rp (pu_move rfl) <| Rp (pu_len Tryz.underlying136 rfl) <| Rp (pu_move rfl) <| R_nil <| X_then hK4 <| C_block <| C_loop (fun m_ l_ wr => ∃ i : Nat, (m_ = L.length - i) ∧ (l_ = [(0, .slice (some ⟨p, 0, none⟩) (L.length) (L.length)), (2, .slice none (0) (0)), (3, .int .i64 (((catL (L.take i)).length : Nat) : Int)), (9, .slice (some ⟨p, 0, none⟩) (L.length) (L.length)), (10, .int .i64 ((L.length : Nat) : Int)), (11, .int .i64 ((i : Nat) : Int))]) ∧ (i ≤ L.length) ∧ (Kp No w wr) ∧ (Bk wr p (partsL L) 22)) (L.length - 0) [(0, .slice (some ⟨p, 0, none⟩) (L.length) (L.length)), (2, .slice none (0) (0)), (3, .int .i64 (((catL (L.take 0)).length : Nat) : Int)), (9, .slice (some ⟨p, 0, none⟩) (L.length) (L.length)), (10, .int .i64 ((L.length : Nat) : Int)), (11, .int .i64 0)] (Sub.cons rfl (Sub.cons rfl (Sub.cons rfl (Sub.cons rfl (Sub.cons rfl (Sub.cons rfl (Sub.nil _))))))) ⟨0, rfl, rfl, by omega, kk0, hp⟩ ?_
 rintro _ _ w1 ⟨i, rfl, rfl, hi, kk1, f_p_1⟩
 refine C_seq fun K5 hK5 => C_region <| Rp (pu_lss (p := i < L.length) rfl rfl (by omega)) <| R_nil <| X_then hK5 <| C_seq fun K6 hK6 => C_dec rfl (fun h12 => ?_) (fun h12 => ?_)
 ·
  refine C_skip <| X_then hK6 <| C_seq fun K7 hK7 => C_block <| C_seq fun K8 hK8 => C_region <| Rp (pu_indexAddrP (m := i) (s := 1) (o' := i) Tryz.underlying136 (by kernel_rfl) rfl rfl rfl (by omega) (by omega)) ?_
  obtain ⟨q4_1, e_q4_1⟩ : ∃ q_, (L)[i]? = some q_ := ⟨_, List.getElem?_eq_getElem (by omega)⟩
  have h_q4_1 := hL q4_1 (List.mem_of_getElem? e_q4_1); have s_q4_1 := congrArg List.length (catL_step e_q4_1); rw [List.length_append] at s_q4_1; have l_q4_1 := catL_le L (i + 1)
  refine Rp (pu_loadK f_p_1 (by kernel_rfl) rfl (partsL_get e_q4_1)) <| Rp (pu_assign rfl) <| R_nil <| X_then hK8 <| C_seq fun K9 hK9 => C_region <| Rp (pu_move rfl) <| Rp (pu_move rfl) <| Rp (pu_len Tryz.underlying22 rfl) <| Rp (pu_add (z := ((((catL (L.take i)).length) + q4_1.2.1.length : Nat) : Int)) rfl rfl (by rw [IntKind.wrap_i64]; omega)) <| Rp (pu_assign rfl) <| R_nil <| X_then hK9 <| C_seq fun K10 hK10 => C_region <| Rp (pu_move rfl) <| Rp (pu_lss (p := (((catL (L.take i)).length) + q4_1.2.1.length) < 0) rfl rfl (by omega)) <| R_nil <| X_then hK10 <| C_decf rfl (by omega) <| C_skip <| X_in_normal <| X_then hK7 <| C_region <| Rp (pu_add (z := ((i + 1 : Nat) : Int)) rfl rfl (by rw [IntKind.wrap_i64]; omega)) <| Rp (pu_move rfl) <| R_nil <| X_round (L.length - (i + 1)) [(0, .slice (some ⟨p, 0, none⟩) (L.length) (L.length)), (2, .slice none (0) (0)), (3, .int .i64 (((catL (L.take (i + 1))).length : Nat) : Int)), (9, .slice (some ⟨p, 0, none⟩) (L.length) (L.length)), (10, .int .i64 ((L.length : Nat) : Int)), (11, .int .i64 (((i + 1) : Nat) : Int))] (by omega) (Sub.cons rfl (Sub.cons rfl (Sub.consE rfl (by rw [← s_q4_1]) (Sub.cons rfl (Sub.cons rfl (Sub.cons rfl (Sub.nil _))))))) ⟨i + 1, rfl, rfl, by omega, kk1, f_p_1⟩
 ·
  refine C_exit <| X_then_exit (X_then_exit (X_in_eq ?_))
  refine X_then hK3 <| C_seq (fun K11 hK11 => ?_)
  have hti := catL_le L i
  refine C_region <| Rp (pu_move rfl) <| R_lo (lo_call (by kernel_rfl) rfl (slices_grow ((catL (L.take i)).length) _ (by omega))) rfl ?_
  rintro _ w2 ⟨A_gr9, c_gr9, rfl, Q2, k2⟩
  have kk2 := kk1.then_ k2
  have z12 := k2.size
  refine Rp (pu_assign rfl) <| R_nil <| X_then hK11 <| C_seq fun K13 hK13 => C_seq fun K14 hK14 => C_region <| Rp (pu_move rfl) <| Rp (pu_len Tryz.underlying136 rfl) <| Rp (pu_move rfl) <| R_nil <| X_then hK14 <| C_block ?_
  have f15 := (f_p_1.no k2)
  refine C_loop (fun m_ l_ wr => ∃ j : Nat, ∃ Ag : Option Addr, ∃ cg : Nat, (m_ = L.length - j) ∧ (l_ = [(2, .slice none (0) (0)), (6, .slice Ag ((catL (L.take j)).length) (cg)), (25, .slice (some ⟨p, 0, none⟩) (L.length) (L.length)), (26, .int .i64 ((L.length : Nat) : Int)), (27, .int .i64 ((j : Nat) : Int))]) ∧ (j ≤ L.length) ∧ (Kp No w wr) ∧ (Bk wr p (partsL L) 22) ∧ (Ob wr w1.heap.size (.slice Ag (catL (L.take j)).length cg) (catL (L.take j)) ∧ w1.heap.size ≤ (wr).heap.size)) (L.length - 0) [(2, .slice none (0) (0)), (6, .slice A_gr9 ((catL (L.take 0)).length) (c_gr9)), (25, .slice (some ⟨p, 0, none⟩) (L.length) (L.length)), (26, .int .i64 ((L.length : Nat) : Int)), (27, .int .i64 0)] (Sub.cons rfl (Sub.cons rfl (Sub.cons rfl (Sub.cons rfl (Sub.cons rfl (Sub.nil _)))))) ⟨0, A_gr9, c_gr9, rfl, rfl, by omega, kk2, f15, ⟨Q2, z12⟩⟩ ?_
  rintro _ _ w3 ⟨j, Ag, cg, rfl, rfl, hj, kk3, f_p_3, gr9_3⟩
  refine C_seq fun K16 hK16 => C_region <| Rp (pu_lss (p := j < L.length) rfl rfl (by omega)) <| R_nil <| X_then hK16 <| C_seq fun K17 hK17 => C_dec rfl (fun h28 => ?_) (fun h28 => ?_)
  ·
   refine C_skip <| X_then hK17 <| C_seq fun K18 hK18 => C_block <| C_seq fun K19 hK19 => C_region <| Rp (pu_indexAddrP (m := j) (s := 1) (o' := j) Tryz.underlying136 (by kernel_rfl) rfl rfl rfl (by omega) (by omega)) ?_
   obtain ⟨q12_1, e_q12_1⟩ : ∃ q_, (L)[j]? = some q_ := ⟨_, List.getElem?_eq_getElem (by omega)⟩
   have h_q12_1 := hL q12_1 (List.mem_of_getElem? e_q12_1); have s_q12_1 := congrArg List.length (catL_step e_q12_1); rw [List.length_append] at s_q12_1; have l_q12_1 := catL_le L (j + 1)
   refine Rp (pu_loadK f_p_3 (by kernel_rfl) rfl (partsL_get e_q12_1)) <| Rp (pu_assign rfl) <| R_nil <| X_then hK19 <| C_region <| Rp (pu_move rfl) <| Rp (pu_move rfl) <| R_lo (lo_app (X := catL (L.take j)) (Y := q12_1.2.1) gr9_3.1 gr9_3.1.le.1 rfl rfl rfl (h_q12_1.1.keptNo kk3) (by omega) gr9_3.2) rfl ?_
   rintro _ w4 ⟨A_4, c_4, rfl, p4⟩
   have k4 := p4.kp
   have kk4 := kk3.trans k4 (fun i hi => .inr (Nat.le_trans (kk1).size hi))
   refine Rp (pu_assign rfl) <| R_nil <| X_in_normal <| X_then hK18 <| C_region <| Rp (pu_add (z := ((j + 1 : Nat) : Int)) rfl rfl (by rw [IntKind.wrap_i64]; omega)) <| Rp (pu_move rfl) <| R_nil ?_
   have f20 : Bk w4 p (partsL L) 22 := (f_p_3.kept k4 (by have := f_p_1.lt; omega))
   refine X_round (L.length - (j + 1)) [(2, .slice none (0) (0)), (6, .slice A_4 ((catL (L.take (j + 1))).length) (c_4)), (25, .slice (some ⟨p, 0, none⟩) (L.length) (L.length)), (26, .int .i64 ((L.length : Nat) : Int)), (27, .int .i64 (((j + 1) : Nat) : Int))] (by omega) (Sub.cons rfl (Sub.consE rfl (by rw [catL_step e_q12_1]) (Sub.cons rfl (Sub.cons rfl (Sub.cons rfl (Sub.nil _)))))) ⟨j + 1, A_4, c_4, rfl, rfl, by omega, kk4, f20, ⟨by rw [← catL_step e_q12_1]; exact p4.ob, (Nat.le_trans gr9_3.2 k4.size)⟩⟩
  ·
   refine C_exit <| X_then_exit (X_then_exit (X_in_eq ?_))
   exact X_then hK13 <| C_seq fun K21 hK21 => C_region <| Rp (pu_move rfl) <| Rp (pu_assign rfl) <| R_nil <| X_then hK21 <| C_ret <| X_ret1 (.inl rfl) rfl rfl (have hE : catL (L.take j) = catL L := (by rw [show j = L.length by omega, List.take_length]); ⟨Ag, cg, by rw [← hE], by rw [← hE]; exact gr9_3.1.low ((kk1).size), kk3⟩)
end Go.Proofs.YtlkbkgghfhoggaaGreatDoor
end
