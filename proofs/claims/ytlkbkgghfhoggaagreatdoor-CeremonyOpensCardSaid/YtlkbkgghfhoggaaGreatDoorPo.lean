/- Walks of poly and of bursaryref02. -/
import Derived.Test.YtlkbkgghfhoggaaGreatDoorPt
import Derived.Test.YtlkbkgghfhoggaaGreatDoorRf
import Derived.Test.YtlkbkgghfhoggaaGreatDoorLs
set_option linter.unusedVariables false
set_option linter.unusedSimpArgs false
set_option maxHeartbeats 2000000
set_option maxRecDepth 100000
namespace Go.Proofs.YtlkbkgghfhoggaaGreatDoor
open Go.RowKit Gm
theorem hE_drop {l : List Nat} {i n x : Nat} (hi : i < l.length) (h : l[l.length - 1 - i]? = some n) : gmul (hE (l.drop (l.length - i)) x) x ^^^ n = hE (l.drop (l.length - (i + 1))) x := by
 rw [show l.length - (i + 1) = l.length - 1 - i by omega, show l.length - i = l.length - 1 - i + 1 by omega]
 have hlt := (List.getElem?_eq_some_iff.1 h).1
 rw [List.drop_eq_getElem_cons hlt, hE_cons, (List.getElem?_eq_some_iff.1 h).2]
theorem poly_eval (b : Nat) (A : Option Addr) (l : List Nat) (c x : Nat) (hx : x < 256) (w : World) (HB : Bs w A l) (hc : l.length ≤ c) (hs : l.length < 9223372036854775808) (aw_HB : Aw (On b) A l) (hT : Tb w b) : Ret Tryz.prog 65 #[.pointer (some ⟨b, 0, none⟩), .slice A (l.length) (c), .int .u8 ((x : Nat) : Int)] w (fun v w' => v = .int .u8 ((hE l x : Nat) : Int) ∧ Tb w' b ∧ Kp (On b) w w') := by
 have kk0 := Kp.refl (On b) w
 refine enter (n := 31) [.pointer (some ⟨b, 0, none⟩), .slice A (l.length) (c), .int .u8 ((x : Nat) : Int)] Tryz.func65 rfl rfl rfl ?_
 show Cw _ _ _ _ [(0, .pointer (some ⟨b, 0, none⟩)), (1, .slice A (l.length) (c)), (2, .int .u8 ((x : Nat) : Int))] _
 refine C_seq fun K1 hK1 => C_region <| Rp (pu_assign rfl) <| R_nil <| X_then hK1 <| C_seq fun K2 hK2 => C_region <| Rp (pu_assign rfl) <| R_nil <| X_then hK2 <| C_seq fun K3 hK3 => C_seq fun K4 hK4 => C_region <| Rp (pu_move rfl) <| Rp (pu_len Tryz.underlying22 rfl) <| Rp (pu_move rfl) <| R_nil <| X_then hK4 <| C_block <| C_loop (fun m_ l_ wr => ∃ i : Nat, (m_ = l.length - i) ∧ (l_ = [(0, .pointer (some ⟨b, 0, none⟩)), (1, .slice A (l.length) (c)), (2, .int .u8 ((x : Nat) : Int)), (6, .int .u8 0), (7, .int .u8 ((hE (l.drop (l.length - i)) x : Nat) : Int)), (10, .int .i64 ((l.length : Nat) : Int)), (11, .int .i64 ((i : Nat) : Int))]) ∧ (i ≤ l.length) ∧ (Kp (On b) w wr) ∧ (Tb wr b)) (l.length - 0) [(0, .pointer (some ⟨b, 0, none⟩)), (1, .slice A (l.length) (c)), (2, .int .u8 ((x : Nat) : Int)), (6, .int .u8 0), (7, .int .u8 ((hE (l.drop (l.length - 0)) x : Nat) : Int)), (10, .int .i64 ((l.length : Nat) : Int)), (11, .int .i64 0)] (Sub.cons rfl (Sub.cons rfl (Sub.cons rfl (Sub.cons rfl (Sub.consE rfl (by rw [Nat.sub_zero, List.drop_length]; rfl) (Sub.cons rfl (Sub.cons rfl (Sub.nil _)))))))) ⟨0, rfl, rfl, by omega, kk0, hT⟩ ?_
 rintro _ _ w1 ⟨i, rfl, rfl, hi, kk1, T_1⟩
 refine C_seq fun K5 hK5 => C_region <| Rp (pu_lss (p := i < l.length) rfl rfl (by omega)) <| R_nil <| X_then hK5 <| C_seq fun K6 hK6 => C_dec rfl (fun h12 => ?_) (fun h12 => ?_)
 ·
  refine C_skip <| X_then hK6 <| C_seq fun K7 hK7 => C_block <| C_seq fun K8 hK8 => C_region <| Rp (pu_move rfl) <| Rp (pu_assign rfl) <| R_nil <| X_then hK8 <| D_begin (fun W => Kp (On b) w W ∧ Tb W b) 14 rfl (by kernel_rfl) ⟨kk1.drew, T_1.draw⟩ ?_
  intro w2 k2 _
  have kk2 := kk1.thenNo k2
  refine Dt 0 rfl (fun W hS => pu_move rfl) <| Dt 1 rfl (fun W hS => pu_move rfl) <| Dt 2 rfl (fun W hS => pu_move rfl) <| Dt 4 rfl (fun W hS => pu_move rfl) <| Dt 5 rfl (fun W hS => pu_move rfl) <| Dt 6 rfl (fun W hS => pu_len Tryz.underlying22 rfl) <| Dt 7 rfl (fun W hS => pu_sub (z := ((l.length - 1 : Nat) : Int)) rfl rfl (by rw [IntKind.wrap_i64]; omega)) <| Dt 8 rfl (fun W hS => pu_move rfl) <| Dt 9 rfl (fun W hS => pu_sub (z := (((l.length - 1) - i : Nat) : Int)) rfl rfl (by rw [IntKind.wrap_i64]; omega)) <| Dt 10 rfl (fun W hS => pu_indexAddrB (m := (l.length - 1) - i) (HB.keptS hS.1 aw_HB) Tryz.underlying22 (by kernel_rfl) rfl rfl rfl rfl (by omega)) ?_
  obtain ⟨n, e_n⟩ : ∃ q_, (l)[(l.length - 1) - i]? = some q_ := ⟨_, List.getElem?_eq_getElem (by omega)⟩
  have b_n : n < 256 := ((HB.keptS kk2 aw_HB)).lt e_n
  refine Dt 11 rfl (fun W hS => pu_loadB (HB.keptS hS.1 aw_HB) (by kernel_rfl) rfl e_n) ?_
  have o9 := (T_1.no k2)
  refine D_one 3 (by kernel_rfl) (Nx_lo rfl (lo_call (by kernel_rfl) rfl (gf_mul b (hE (l.drop (l.length - i)) x) x (hE_lt (fun n hn => HB.byte n (List.mem_of_mem_drop hn)) _) hx _ o9)) rfl ?_)
  rintro _ w3 ⟨rfl, T3, k3⟩
  have kk3 := kk2.trans k3 (fun i hi => .inl hi)
  refine ⟨⟨kk3, T3⟩, ?_⟩
  refine D_one 12 (by kernel_rfl) (Nx_lo rfl (lo_call (by kernel_rfl) rfl (gf_add (gmul (hE (l.drop (l.length - i)) x) x) n (gmul_lt _ _) b_n _)) rfl ?_)
  rintro _ w4 ⟨rfl, k4⟩
  have kk4 := kk3.thenNo k4
  have o10 := (T3.no k4)
  refine ⟨⟨kk4, o10⟩, ?_⟩
  refine Dt 13 rfl (fun W hS => pu_assign rfl) <| D_done (by kernel_rfl) <| X_in_normal <| X_then hK7 <| C_region <| Rp (pu_add (z := ((i + 1 : Nat) : Int)) rfl rfl (by rw [IntKind.wrap_i64]; omega)) <| Rp (pu_move rfl) <| R_nil <| X_round (l.length - (i + 1)) [(0, .pointer (some ⟨b, 0, none⟩)), (1, .slice A (l.length) (c)), (2, .int .u8 ((x : Nat) : Int)), (6, .int .u8 0), (7, .int .u8 ((hE (l.drop (l.length - (i + 1))) x : Nat) : Int)), (10, .int .i64 ((l.length : Nat) : Int)), (11, .int .i64 (((i + 1) : Nat) : Int))] (by omega) (Sub.cons rfl (Sub.cons rfl (Sub.cons rfl (Sub.cons rfl (Sub.consE rfl (by rw [hE_drop (by omega) e_n]) (Sub.cons rfl (Sub.cons rfl (Sub.nil _)))))))) ⟨i + 1, rfl, rfl, by omega, kk4, o10⟩
 ·
  refine C_exit <| X_then_exit (X_then_exit (X_in_eq ?_))
  exact X_then hK3 <| C_seq fun K11 hK11 => C_seq fun K12 hK12 => C_region <| Rp (pu_move rfl) <| Rp (pu_eqlpn (by kernel_rfl) rfl rfl) <| R_nil <| X_then hK12 <| C_false rfl <| C_skip <| X_then hK11 <| C_seq fun K13 hK13 => C_region <| Rp (pu_move rfl) <| Rp (pu_assign rfl) <| R_nil <| X_then hK13 <| C_ret <| X_ret1 (.inl rfl) rfl rfl ⟨by rw [show i = l.length by omega, Nat.sub_self]; rfl, T_1, kk1⟩
theorem poly_may (A : Option Addr) (l : List Nat) (c : Nat) (w : World) (HB : Bs w A l) (hc : l.length ≤ c) (hs : l.length < 9223372036854775808) : Ret Tryz.prog 95 #[.slice A (l.length) (c)] w (fun v w' => ((v = .bool true ∧ May l) ∨ (v = .bool false ∧ ¬ May l)) ∧ Kp No w w') := by
 have kk0 := Kp.refl No w
 refine enter (n := 27) [.slice A (l.length) (c)] Tryz.func95 rfl rfl rfl ?_
 show Cw _ _ _ _ [(0, .slice A (l.length) (c))] _
 refine C_seq fun K1 hK1 => C_region <| Rp (pu_assign rfl) <| R_nil <| X_then hK1 <| C_seq fun K2 hK2 => C_region <| Rp (pu_build (L := bL (fun _ => false)) rfl (by kernel_rfl)) <| R_lo (lo_alloc (L := bL (fun _ => false)) (by kernel_rfl)) rfl ?_
 rintro _ w1 ⟨p, rfl, N1⟩
 have k1 := N1.kp
 have kk1 := kk0.then_ k1
 have f_p_1 := N1.bk
 refine R_lo0 (lo_storeRow (C := bL (fun _ => false)) f_p_1 (by kernel_rfl) rfl rfl (bL_one _) ((bL_length _).trans (bL_length _).symm)) ?_
 rintro _ w2 kf2
 obtain ⟨k2, f_p_2⟩ := kf2
 replace f_p_2 : Bk w2 p (bL (fun _ => false)) 173 := f_p_2
 have kk2 := kk1.trans k2 (fun i hi => .inr (hi ▸ (Nat.le_trans kk0.size N1.le)))
 refine R_nil <| X_then hK2 <| C_seq fun K3 hK3 => C_seq fun K4 hK4 => C_region <| Rp (pu_move rfl) <| Rp (pu_len Tryz.underlying22 rfl) <| Rp (pu_move rfl) <| R_nil <| X_then hK4 <| C_block <| C_loop (fun m_ l_ wr => ∃ i : Nat, (m_ = l.length - i) ∧ (l_ = [(0, .slice A (l.length) (c)), (3, .pointer (some ⟨p, 0, none⟩)), (7, .slice A (l.length) (c)), (8, .int .i64 ((l.length : Nat) : Int)), (9, .int .i64 ((i : Nat) : Int))]) ∧ (i ≤ l.length) ∧ (∀ a b, a < b → b < i → l.getD a 0 ≠ l.getD b 0) ∧ (Kp No w wr) ∧ (Bk wr p (bL (seen l i)) 173)) (l.length - 0) [(0, .slice A (l.length) (c)), (3, .pointer (some ⟨p, 0, none⟩)), (7, .slice A (l.length) (c)), (8, .int .i64 ((l.length : Nat) : Int)), (9, .int .i64 0)] (Sub.cons rfl (Sub.cons rfl (Sub.cons rfl (Sub.cons rfl (Sub.cons rfl (Sub.nil _)))))) ⟨0, rfl, rfl, by omega, (fun a b _ h => by omega), kk2, Bk.eq f_p_2 (seen_zero l)⟩ ?_
 rintro _ _ w3 ⟨i, rfl, rfl, hi, hD, kk3, f_p_3⟩
 refine C_seq fun K5 hK5 => C_region <| Rp (pu_lss (p := i < l.length) rfl rfl (by omega)) <| R_nil <| X_then hK5 <| C_seq fun K6 hK6 => C_dec rfl (fun h10 => ?_) (fun h10 => ?_)
 ·
  refine C_skip <| X_then hK6 <| C_seq fun K7 hK7 => C_block <| C_seq fun K8 hK8 => C_region <| Rp (pu_indexAddrB (m := i) (HB.keptNo kk3) Tryz.underlying22 (by kernel_rfl) rfl rfl rfl rfl (by omega)) ?_
  obtain ⟨n, e_n⟩ : ∃ q_, (l)[i]? = some q_ := ⟨_, List.getElem?_eq_getElem (by omega)⟩
  have b_n : n < 256 := ((HB.keptNo kk3)).lt e_n
  refine Rp (pu_loadB (HB.keptNo kk3) (by kernel_rfl) rfl e_n) <| Rp (pu_assign rfl) <| R_nil <| X_then hK8 <| C_seq fun K9 hK9 => C_seq fun K10 hK10 => C_region <| Rp (pu_move rfl) <| Rp (pu_indexAddrA (m := n) (s := 1) (o' := n) Tryz.underlying173 (by kernel_rfl) rfl rfl rfl (by omega) (by omega)) <| Rp (pu_loadK f_p_3 (by kernel_rfl) rfl (bL_get (by omega))) <| R_nil <| X_then hK10 <| C_cond rfl (fun h15 => ?_) (fun h15 => ?_)
  ·
   refine C_seq fun K11 hK11 => C_region <| Rp (pu_assign rfl) <| R_nil <| X_then hK11 <| C_ret <| X_then_ret (X_in_ret (X_then_ret (X_then_ret (X_in_ret (X_then_ret ?_)))))
   exact X_ret1 (.inl rfl) rfl rfl ⟨.inr ⟨rfl, may_seen e_n h15⟩, kk3⟩
  ·
   refine C_skip <| X_then hK9 <| C_region <| Rp (pu_move rfl) <| Rp (pu_indexAddrA (m := n) (s := 1) (o' := n) Tryz.underlying173 (by kernel_rfl) rfl rfl rfl (by omega) (by omega)) <| R_lo0 (lo_store f_p_3 (by kernel_rfl) rfl rfl rfl (by rw [bL_length]; omega)) ?_
   rintro _ w4 kf4
   obtain ⟨k4, f_p_4⟩ := kf4
   replace f_p_4 := Bk.eq f_p_4 bL_set
   replace f_p_4 : Bk w4 p (bL (fun v => decide (v = n) || seen l i v)) 173 := f_p_4
   have kk4 := kk3.trans k4 (fun i hi => .inr (hi ▸ (Nat.le_trans kk0.size N1.le)))
   refine R_nil <| X_in_normal <| X_then hK7 <| C_region <| Rp (pu_add (z := ((i + 1 : Nat) : Int)) rfl rfl (by rw [IntKind.wrap_i64]; omega)) <| Rp (pu_move rfl) <| R_nil <| X_round (l.length - (i + 1)) [(0, .slice A (l.length) (c)), (3, .pointer (some ⟨p, 0, none⟩)), (7, .slice A (l.length) (c)), (8, .int .i64 ((l.length : Nat) : Int)), (9, .int .i64 (((i + 1) : Nat) : Int))] (by omega) (Sub.cons rfl (Sub.cons rfl (Sub.cons rfl (Sub.cons rfl (Sub.cons rfl (Sub.nil _)))))) ⟨i + 1, rfl, rfl, by omega, (di_seen hD e_n h15), kk4, Bk.eq f_p_4 (seen_step e_n)⟩
 ·
  refine C_exit <| X_then_exit (X_then_exit (X_in_eq ?_))
  refine X_then hK3 <| C_seq fun K12 hK12 => C_region ?_
  by_cases hL : l.length ≤ 255
  ·
   refine Rp (pu_move rfl) <| Rp (pu_len Tryz.underlying22 rfl) <| Rp (pu_geq (p := l.length ≥ 1) rfl rfl (by omega)) ?_
   by_cases g9_3 : l.length ≥ 1
   ·
    exact Rp (pu_true (pu_move rfl) g9_3) <| Rg (pu_move rfl) <| Rg (pu_len Tryz.underlying22 rfl) <| Rg (pu_true (pu_leq (p := l.length ≤ 255) rfl rfl (by omega)) hL) <| Rp (pu_pickt rfl rfl) <| Rp (pu_assign rfl) <| R_nil <| X_then hK12 <| C_ret <| X_ret1 (.inl rfl) rfl rfl ⟨.inl ⟨rfl, fun a b h1 h2 => hD a b h1 (by omega), by omega, by omega⟩, kk3⟩
   ·
    exact Rp (pu_false (pu_move rfl) g9_3) <| R_gno rfl rfl rfl rfl <| R_gno rfl rfl rfl rfl <| R_gno rfl rfl rfl rfl <| Rp (pu_pickf rfl rfl) <| Rp (pu_assign rfl) <| R_nil <| X_then hK12 <| C_ret <| X_ret1 (.inl rfl) rfl rfl ⟨.inr ⟨rfl, may_len (by omega)⟩, kk3⟩
  ·
   refine Rp (pu_move rfl) <| Rp (pu_len Tryz.underlying22 rfl) <| Rp (pu_geq (p := l.length ≥ 1) rfl rfl (by omega)) ?_
   by_cases g9_3 : l.length ≥ 1
   ·
    exact Rp (pu_true (pu_move rfl) g9_3) <| Rg (pu_move rfl) <| Rg (pu_len Tryz.underlying22 rfl) <| Rg (pu_false (pu_leq (p := l.length ≤ 255) rfl rfl (by omega)) hL) <| Rp (pu_pickt rfl rfl) <| Rp (pu_assign rfl) <| R_nil <| X_then hK12 <| C_ret <| X_ret1 (.inl rfl) rfl rfl ⟨.inr ⟨rfl, may_len (by omega)⟩, kk3⟩
   ·
    exact Rp (pu_false (pu_move rfl) g9_3) <| R_gno rfl rfl rfl rfl <| R_gno rfl rfl rfl rfl <| R_gno rfl rfl rfl rfl <| Rp (pu_pickf rfl rfl) <| Rp (pu_assign rfl) <| R_nil <| X_then hK12 <| C_ret <| X_ret1 (.inl rfl) rfl rfl ⟨.inr ⟨rfl, may_len (by omega)⟩, kk3⟩
theorem poly_weight (b : Nat) (A : Option Addr) (l : List Nat) (c i x : Nat) (hx : x < 256) (hi : i < l.length) (hd : Di l) (w : World) (HB : Bs w A l) (hc : l.length ≤ c) (hs : l.length < 9223372036854775808) (aw_HB : Aw (On b) A l) (hT : Tb w b) : Ret Tryz.prog 96 #[.pointer (some ⟨b, 0, none⟩), .slice A (l.length) (c), .int .i64 ((i : Nat) : Int), .int .u8 ((x : Nat) : Int)] w (fun v w' => v = .tuple #[.int .u8 ((wt l x i : Nat) : Int), .nilIface] ∧ Tb w' b ∧ Kp (On b) w w') := by
 have kk0 := Kp.refl (On b) w
 refine enter (n := 46) [.pointer (some ⟨b, 0, none⟩), .slice A (l.length) (c), .int .i64 ((i : Nat) : Int), .int .u8 ((x : Nat) : Int)] Tryz.func96 rfl rfl rfl ?_
 show Cw _ _ _ _ [(0, .pointer (some ⟨b, 0, none⟩)), (1, .slice A (l.length) (c)), (2, .int .i64 ((i : Nat) : Int)), (3, .int .u8 ((x : Nat) : Int))] _
 refine C_seq fun K1 hK1 => C_region <| Rp (pu_assign rfl) <| Rp (pu_assign rfl) <| R_nil <| X_then hK1 <| C_seq fun K2 hK2 => C_region <| Rp (pu_assign rfl) <| Rp (pu_assign rfl) <| R_nil <| X_then hK2 <| C_seq fun K3 hK3 => C_seq fun K4 hK4 => C_region <| Rp (pu_move rfl) <| Rp (pu_len Tryz.underlying22 rfl) <| Rp (pu_move rfl) <| R_nil <| X_then hK4 <| C_block <| C_loop (fun m_ l_ wr => ∃ k : Nat, (m_ = l.length - k) ∧ (l_ = [(0, .pointer (some ⟨b, 0, none⟩)), (1, .slice A (l.length) (c)), (2, .int .i64 ((i : Nat) : Int)), (3, .int .u8 ((x : Nat) : Int)), (8, .int .u8 0), (9, .nilIface), (10, .int .u8 ((upN l i x k : Nat) : Int)), (11, .int .u8 ((upN l i (l.getD i 0) k : Nat) : Int)), (14, .slice A (l.length) (c)), (15, .int .i64 ((l.length : Nat) : Int)), (16, .int .i64 ((k : Nat) : Int))]) ∧ (k ≤ l.length) ∧ (Kp (On b) w wr) ∧ (Tb wr b)) (l.length - 0) [(0, .pointer (some ⟨b, 0, none⟩)), (1, .slice A (l.length) (c)), (2, .int .i64 ((i : Nat) : Int)), (3, .int .u8 ((x : Nat) : Int)), (8, .int .u8 0), (9, .nilIface), (10, .int .u8 ((upN l i x 0 : Nat) : Int)), (11, .int .u8 ((upN l i (l.getD i 0) 0 : Nat) : Int)), (14, .slice A (l.length) (c)), (15, .int .i64 ((l.length : Nat) : Int)), (16, .int .i64 0)] (Sub.cons rfl (Sub.cons rfl (Sub.cons rfl (Sub.cons rfl (Sub.cons rfl (Sub.cons rfl (Sub.cons rfl (Sub.cons rfl (Sub.cons rfl (Sub.cons rfl (Sub.cons rfl (Sub.nil _)))))))))))) ⟨0, rfl, rfl, by omega, kk0, hT⟩ ?_
 rintro _ _ w1 ⟨k, rfl, rfl, hk, kk1, T_1⟩
 refine C_seq fun K5 hK5 => C_region <| Rp (pu_lss (p := k < l.length) rfl rfl (by omega)) <| R_nil <| X_then hK5 <| C_seq fun K6 hK6 => C_dec rfl (fun h17 => ?_) (fun h17 => ?_)
 ·
  refine C_skip <| X_then hK6 <| C_seq fun K7 hK7 => C_block <| C_seq fun K8 hK8 => C_region <| Rp (pu_move rfl) <| Rp (pu_indexAddrB (m := k) (HB.keptS kk1 aw_HB) Tryz.underlying22 (by kernel_rfl) rfl rfl rfl rfl (by omega)) ?_
  obtain ⟨o, e_o⟩ : ∃ q_, (l)[k]? = some q_ := ⟨_, List.getElem?_eq_getElem (by omega)⟩
  have b_o : o < 256 := ((HB.keptS kk1 aw_HB)).lt e_o
  refine Rp (pu_loadB (HB.keptS kk1 aw_HB) (by kernel_rfl) rfl e_o) <| Rp (pu_assign rfl) <| Rp (pu_assign rfl) <| R_nil <| X_then hK8 <| C_seq fun K9 hK9 => C_region <| Rp (pu_move rfl) <| Rp (pu_move rfl) <| Rp (pu_neq (p := k = i) rfl rfl (by omega)) <| R_nil <| X_then hK9 <| C_dec rfl (fun h23 => ?_) (fun h23 => ?_)
  ·
   refine D_begin (fun W => Kp (On b) w W ∧ Tb W b) 17 rfl (by kernel_rfl) ⟨kk1.drew, T_1.draw⟩ ?_
   intro w2 k2 _
   have kk2 := kk1.thenNo k2
   refine Dt 0 rfl (fun W hS => pu_move rfl) <| Dt 1 rfl (fun W hS => pu_move rfl) <| Dt 2 rfl (fun W hS => pu_move rfl) <| Dt 3 rfl (fun W hS => pu_move rfl) <| Dt 6 rfl (fun W hS => pu_move rfl) <| Dt 7 rfl (fun W hS => pu_move rfl) <| Dt 8 rfl (fun W hS => pu_move rfl) <| Dt 9 rfl (fun W hS => pu_move rfl) <| Dt 10 rfl (fun W hS => pu_indexAddrB (m := i) (HB.keptS hS.1 aw_HB) Tryz.underlying22 (by kernel_rfl) rfl rfl rfl rfl (by omega)) ?_
   obtain ⟨p, e_p⟩ : ∃ q_, (l)[i]? = some q_ := ⟨_, List.getElem?_eq_getElem (by omega)⟩
   have b_p : p < 256 := ((HB.keptS kk2 aw_HB)).lt e_p
   refine Dt 11 rfl (fun W hS => pu_loadB (HB.keptS hS.1 aw_HB) (by kernel_rfl) rfl e_p) <| Dt 12 rfl (fun W hS => pu_move rfl) <| D_one 4 (by kernel_rfl) (Nx_lo rfl (lo_call (by kernel_rfl) rfl (gf_add x o hx b_o _)) rfl ?_)
   rintro _ w3 ⟨rfl, k3⟩
   have kk3 := kk2.thenNo k3
   have o10 := ((T_1.no k2).no k3)
   refine ⟨⟨kk3, o10⟩, ?_⟩
   refine D_one 5 (by kernel_rfl) (Nx_lo rfl (lo_call (by kernel_rfl) rfl (gf_mul b (upN l i x k) (x ^^^ o) (upN_lt _ _ _ _) (xor_lt8 hx b_o) _ o10)) rfl ?_)
   rintro _ w4 ⟨rfl, T4, k4⟩
   have kk4 := kk3.trans k4 (fun i hi => .inl hi)
   refine ⟨⟨kk4, T4⟩, ?_⟩
   refine D_one 13 (by kernel_rfl) (Nx_lo rfl (lo_call (by kernel_rfl) rfl (gf_add p o b_p b_o _)) rfl ?_)
   rintro _ w5 ⟨rfl, k5⟩
   have kk5 := kk4.thenNo k5
   have o11 := (T4.no k5)
   refine ⟨⟨kk5, o11⟩, ?_⟩
   refine D_one 14 (by kernel_rfl) (Nx_lo rfl (lo_call (by kernel_rfl) rfl (gf_mul b (upN l i (l.getD i 0) k) (p ^^^ o) (upN_lt _ _ _ _) (xor_lt8 b_p b_o) _ o11)) rfl ?_)
   rintro _ w6 ⟨rfl, T6, k6⟩
   have kk6 := kk5.trans k6 (fun i hi => .inl hi)
   refine ⟨⟨kk6, T6⟩, ?_⟩
   refine Dt 15 rfl (fun W hS => pu_assign rfl) <| Dt 16 rfl (fun W hS => pu_assign rfl) <| D_done (by kernel_rfl) <| X_in_normal <| X_then hK7 <| C_region <| Rp (pu_add (z := ((k + 1 : Nat) : Int)) rfl rfl (by rw [IntKind.wrap_i64]; omega)) <| Rp (pu_move rfl) <| R_nil <| X_round (l.length - (k + 1)) [(0, .pointer (some ⟨b, 0, none⟩)), (1, .slice A (l.length) (c)), (2, .int .i64 ((i : Nat) : Int)), (3, .int .u8 ((x : Nat) : Int)), (8, .int .u8 0), (9, .nilIface), (10, .int .u8 ((upN l i x (k + 1) : Nat) : Int)), (11, .int .u8 ((upN l i (l.getD i 0) (k + 1) : Nat) : Int)), (14, .slice A (l.length) (c)), (15, .int .i64 ((l.length : Nat) : Int)), (16, .int .i64 (((k + 1) : Nat) : Int))] (by omega) (Sub.cons rfl (Sub.cons rfl (Sub.cons rfl (Sub.cons rfl (Sub.cons rfl (Sub.cons rfl (Sub.consE rfl (by rw [show gmul (upN l i x k) (x ^^^ o) = upN l i x (k + 1) by rw [← getD_some e_o]; exact upN_step (by omega)]) (Sub.consE rfl (by rw [show gmul (upN l i (l.getD i 0) k) (p ^^^ o) = upN l i (l.getD i 0) (k + 1) by rw [← getD_some e_o, ← getD_some e_p]; exact upN_step (by omega)]) (Sub.cons rfl (Sub.cons rfl (Sub.cons rfl (Sub.nil _)))))))))))) ⟨k + 1, rfl, rfl, by omega, kk6, T6⟩
  ·
   refine C_skip <| X_in_normal <| X_then hK7 <| C_region <| Rp (pu_add (z := ((k + 1 : Nat) : Int)) rfl rfl (by rw [IntKind.wrap_i64]; omega)) <| Rp (pu_move rfl) <| R_nil <| X_round (l.length - (k + 1)) [(0, .pointer (some ⟨b, 0, none⟩)), (1, .slice A (l.length) (c)), (2, .int .i64 ((i : Nat) : Int)), (3, .int .u8 ((x : Nat) : Int)), (8, .int .u8 0), (9, .nilIface), (10, .int .u8 ((upN l i x (k + 1) : Nat) : Int)), (11, .int .u8 ((upN l i (l.getD i 0) (k + 1) : Nat) : Int)), (14, .slice A (l.length) (c)), (15, .int .i64 ((l.length : Nat) : Int)), (16, .int .i64 (((k + 1) : Nat) : Int))] (by omega) (Sub.cons rfl (Sub.cons rfl (Sub.cons rfl (Sub.cons rfl (Sub.cons rfl (Sub.cons rfl (Sub.consE rfl (by rw [upN_skip (by omega)]) (Sub.consE rfl (by rw [upN_skip (by omega)]) (Sub.cons rfl (Sub.cons rfl (Sub.cons rfl (Sub.nil _)))))))))))) ⟨k + 1, rfl, rfl, by omega, kk1, T_1⟩
 ·
  refine C_exit <| X_then_exit (X_then_exit (X_in_eq ?_))
  refine X_then hK3 <| C_seq fun K12 hK12 => C_region <| Rp (pu_move rfl) <| Rp (pu_move rfl) <| Rp (pu_move rfl) <| R_lo (lo_call (by kernel_rfl) rfl (gf_div b (upN l i x k) (upN l i (l.getD i 0) k) (upN_lt _ _ _ _) (upN_lt _ _ _ _) (by rw [show k = l.length by omega]; exact upN_ne hd hi (Nat.le_refl _)) _ T_1)) rfl ?_
  rintro _ w7 ⟨rfl, T7, k7⟩
  have kk7 := kk1.trans k7 (fun i hi => .inl hi)
  exact Rp (pu_extract rfl rfl) <| Rp (pu_extract rfl rfl) <| Rp (pu_assign rfl) <| Rp (pu_assign rfl) <| R_nil <| X_then hK12 <| C_ret <| X_ret2 (.inl rfl) rfl rfl rfl ⟨by rw [show k = l.length by omega]; rfl, T7, kk7⟩
theorem poly_may_yes (A : Option Addr) (l : List Nat) (c : Nat) (w : World) (HB : Bs w A l) (hc : l.length ≤ c) (hs : l.length < 9223372036854775808) (h : May l) : Ret Tryz.prog 95 #[.slice A l.length c] w (fun v w' => v = .bool true ∧ Kp No w w') := (poly_may A l c w HB hc hs).mono fun v w' hh => ⟨hh.1.elim (fun e => e.1) (fun e => absurd h e.2), hh.2⟩
theorem poly_weights (b : Nat) (A : Option Addr) (l : List Nat) (c x : Nat) (hx : x < 256) (w : World) (HB : Bs w A l) (hc : l.length ≤ c) (hs : l.length < 9223372036854775808) (hM : May l) (aw_HB : Aw (On b) A l) (hT : Tb w b) : Ret Tryz.prog 76 #[.pointer (some ⟨b, 0, none⟩), .slice A (l.length) (c), .int .u8 ((x : Nat) : Int)] w (fun v w' => ∃ A c, v = .tuple #[.slice A (wtL l x).length c, .nilIface] ∧ Ob w' w.heap.size (.slice A (wtL l x).length c) (wtL l x) ∧ Tb w' b ∧ Kp (On b) w w') := by
 have hl255 : l.length ≤ 255 := hM.2.2
 have kk0 := Kp.refl (On b) w
 refine enter (n := 45) [.pointer (some ⟨b, 0, none⟩), .slice A (l.length) (c), .int .u8 ((x : Nat) : Int)] Tryz.func76 rfl rfl rfl ?_
 show Cw _ _ _ _ [(0, .pointer (some ⟨b, 0, none⟩)), (1, .slice A (l.length) (c)), (2, .int .u8 ((x : Nat) : Int))] _
 refine C_seq fun K1 hK1 => C_region <| Rp (pu_assign rfl) <| Rp (pu_assign rfl) <| R_nil <| X_then hK1 <| C_seq fun K2 hK2 => C_seq fun K3 hK3 => C_region <| Rp (pu_move rfl) <| Rp (pu_eqlpn (by kernel_rfl) rfl rfl) <| Rp (pu_move rfl) <| Rg (pu_move rfl) <| R_glo rfl rfl (lo_call (by kernel_rfl) rfl (poly_may_yes A l c _ HB hc (by first | omega | (simp; done)) hM)) rfl ?_
 rintro _ w1 ⟨rfl, k1⟩
 have kk1 := kk0.thenNo k1
 refine Rg (pu_not rfl) <| Rp (pu_pickf rfl rfl) <| R_nil <| X_then hK3 <| C_false rfl <| C_skip <| X_then hK2 <| C_seq fun K4 hK4 => C_region <| Rp (pu_move rfl) <| Rp (pu_len Tryz.underlying22 rfl) ?_
 have o5 := (hT.no k1)
 refine R_lo (lo_make (z := .int .u8 0) (bytes := 1) (ln := 0) (cp := l.length) Tryz.underlying22 (by kernel_rfl) rfl rfl rfl rfl rfl (by omega) (by omega) (by omega)) rfl ?_
 rintro _ w2 ⟨p, rfl, N2⟩
 have k2 := N2.kp
 have kk2 := kk1.thenNo k2
 have f_p_2 : Bk w2 p (u8s (List.replicate l.length 0)) 5 := by rw [u8s_rep]; exact N2.bk
 refine Rp (pu_assign rfl) <| R_nil <| X_then hK4 <| C_seq fun K6 hK6 => C_seq (fun K7 hK7 => ?_)
 have ob0 : Ob w2 w.heap.size (.slice (some ⟨p, 0, none⟩) ([] : List Nat).length l.length) [] := Ob.of_block (base := w.heap.size) (k := 0) f_p_2 (Nat.le_trans kk1.size N2.le) (List.length_replicate ..) (by unfold maxLen; omega) (fun n hn => by rw [(List.mem_replicate.1 hn).2]; decide) (Nat.zero_le _)
 refine C_region <| Rp (pu_move rfl) <| Rp (pu_len Tryz.underlying22 rfl) <| Rp (pu_move rfl) <| R_nil <| X_then hK7 <| C_block ?_
 have o8 := (o5.no k2)
 refine C_loop (fun m_ l_ wr => ∃ i : Nat, ∃ An : Option Addr, ∃ cn : Nat, (m_ = l.length - i) ∧ (l_ = [(0, .pointer (some ⟨b, 0, none⟩)), (1, .slice A (l.length) (c)), (2, .int .u8 ((x : Nat) : Int)), (8, .slice An ((wtT l x i).length) (cn)), (24, .int .i64 ((l.length : Nat) : Int)), (25, .int .i64 ((i : Nat) : Int))]) ∧ (i ≤ l.length) ∧ (Kp (On b) w wr) ∧ (Ob wr w.heap.size (.slice An (wtT l x i).length cn) (wtT l x i) ∧ w.heap.size ≤ (wr).heap.size) ∧ (Tb wr b)) (l.length - 0) [(0, .pointer (some ⟨b, 0, none⟩)), (1, .slice A (l.length) (c)), (2, .int .u8 ((x : Nat) : Int)), (8, .slice (some ⟨p, 0, none⟩) ((wtT l x 0).length) (l.length)), (24, .int .i64 ((l.length : Nat) : Int)), (25, .int .i64 0)] (Sub.cons rfl (Sub.cons rfl (Sub.cons rfl (Sub.cons rfl (Sub.cons rfl (Sub.cons rfl (Sub.nil _))))))) ⟨0, some ⟨p, 0, none⟩, l.length, rfl, rfl, by omega, kk2, ⟨by exact ob0, kk2.size⟩, o8⟩ ?_
 rintro _ _ w3 ⟨i, An, cn, rfl, rfl, hi, kk3, n_3, T_3⟩
 refine C_seq fun K9 hK9 => C_region <| Rp (pu_lss (p := i < l.length) rfl rfl (by omega)) <| R_nil <| X_then hK9 <| C_seq fun K10 hK10 => C_dec rfl (fun h26 => ?_) (fun h26 => ?_)
 ·
  refine C_skip <| X_then hK10 <| C_seq fun K11 hK11 => C_block <| C_seq fun K12 hK12 => C_region <| Rp (pu_move rfl) <| Rp (pu_assign rfl) <| R_nil <| X_then hK12 <| C_seq fun K13 hK13 => C_region <| Rp (pu_move rfl) <| Rp (pu_move rfl) <| Rp (pu_move rfl) <| Rp (pu_move rfl) <| R_lo (lo_call (by kernel_rfl) rfl (poly_weight b A l c i x hx (by omega) hM.1 _ (HB.keptS kk3 aw_HB) hc (by omega) aw_HB T_3)) rfl ?_
  rintro _ w4 ⟨rfl, T4, k4⟩
  have kk4 := kk3.trans k4 (fun i hi => .inl hi)
  refine Rp (pu_move rfl) <| Rp (pu_extract rfl rfl) <| Rp (pu_extract rfl rfl) <| Rp (pu_assign rfl) <| Rp (pu_assign rfl) <| R_nil <| X_then hK13 <| C_seq fun K14 hK14 => C_seq fun K15 hK15 => C_region <| Rp (pu_move rfl) <| Rp (pu_neqnn (by kernel_rfl) rfl) <| R_nil <| X_then hK15 <| C_false rfl <| C_skip <| X_then hK14 <| C_region <| Rp (pu_move rfl) <| Rp (pu_move rfl) ?_
  have ob16 := (n_3.1.on k4 (by have := hT.lt; omega))
  refine R_lo (lo_buildSlice (L := u8s ([wt l x i])) Tryz.underlying22 rfl (by kernel_rfl)) rfl ?_
  rintro _ w5 ⟨p10_2, rfl, N5⟩
  have k5 := N5.kp
  have kk5 := kk4.thenNo k5
  have f_p10_2_5 := N5.bk
  have ob17 := (ob16.keptNo k5)
  refine R_lo (lo_app (X := wtT l x i) (Y := [wt l x i]) ob17 ob17.le.1 rfl rfl (show By 1 [wt l x i] from ⟨rfl, fun n hn => by rw [List.mem_singleton.1 hn]; exact (wt_lt _ _ _)⟩).1 (Bs.ofBk f_p10_2_5 (show By 1 [wt l x i] from ⟨rfl, fun n hn => by rw [List.mem_singleton.1 hn]; exact (wt_lt _ _ _)⟩)) (by rw [wtT_length]; simp; omega) (Nat.le_trans (Nat.le_trans n_3.2 k4.size) k5.size)) rfl ?_
  rintro _ w6 ⟨A_6, c_6, rfl, p6⟩
  have k6 := p6.kp
  have kk6 := kk5.trans k6 (fun i hi => .inr (Nat.le_trans (Nat.le_refl _) hi))
  refine Rp (pu_assign rfl) <| R_nil <| X_in_normal <| X_then hK11 <| C_region <| Rp (pu_add (z := ((i + 1 : Nat) : Int)) rfl rfl (by rw [IntKind.wrap_i64]; omega)) <| Rp (pu_move rfl) <| R_nil ?_
  have o18 : Tb w6 b := ((T4.no k5).kept k6 (by have := hT.lt; omega))
  refine X_round (l.length - (i + 1)) [(0, .pointer (some ⟨b, 0, none⟩)), (1, .slice A (l.length) (c)), (2, .int .u8 ((x : Nat) : Int)), (8, .slice A_6 ((wtT l x (i + 1)).length) (c_6)), (24, .int .i64 ((l.length : Nat) : Int)), (25, .int .i64 (((i + 1) : Nat) : Int))] (by omega) (Sub.cons rfl (Sub.cons rfl (Sub.cons rfl (Sub.consE rfl (by rw [wtT_snoc]) (Sub.cons rfl (Sub.cons rfl (Sub.nil _))))))) ⟨i + 1, A_6, c_6, rfl, rfl, by omega, kk6, ⟨by rw [← wtT_snoc]; exact p6.ob, (Nat.le_trans (Nat.le_trans (Nat.le_trans n_3.2 k4.size) k5.size) k6.size)⟩, o18⟩
 ·
  refine C_exit <| X_then_exit (X_then_exit (X_in_eq ?_))
  exact X_then hK6 <| C_seq fun K19 hK19 => C_region <| Rp (pu_move rfl) <| Rp (pu_assign rfl) <| Rp (pu_assign rfl) <| R_nil <| X_then hK19 <| C_ret <| X_ret2 (.inl rfl) rfl rfl rfl (by rw [← show wtT l x i = wtL l x by rw [show i = l.length by omega]; rfl]; exact ⟨An, cn, rfl, n_3.1, T_3, kk3⟩)
theorem poly_interp (b : Nat) (A : Option Addr) (l : List Nat) (c : Nat) (A2 : Option Addr) (m : List Nat) (c2 x : Nat) (hx : x < 256) (w : World) (HB : Bs w A l) (hc : l.length ≤ c) (HB2 : Bs w A2 m) (hc2 : m.length ≤ c2) (hs : l.length < 9223372036854775808) (hs2 : m.length < 9223372036854775808) (hM : May l) (hy : m.length = l.length) (aw_HB : Aw (On b) A l) (aw_HB2 : Aw (On b) A2 m) (hT : Tb w b) : Ret Tryz.prog 60 #[.pointer (some ⟨b, 0, none⟩), .slice A (l.length) (c), .slice A2 (m.length) (c2), .int .u8 ((x : Nat) : Int)] w (fun v w' => v = .tuple #[.int .u8 ((ipN l m x l.length : Nat) : Int), .nilIface] ∧ Tb w' b ∧ Kp (On b) w w') := by
 have hl255 : l.length ≤ 255 := hM.2.2
 have kk0 := Kp.refl (On b) w
 refine enter (n := 50) [.pointer (some ⟨b, 0, none⟩), .slice A (l.length) (c), .slice A2 (m.length) (c2), .int .u8 ((x : Nat) : Int)] Tryz.func60 rfl rfl rfl ?_
 show Cw _ _ _ _ [(0, .pointer (some ⟨b, 0, none⟩)), (1, .slice A (l.length) (c)), (2, .slice A2 (m.length) (c2)), (3, .int .u8 ((x : Nat) : Int))] _
 refine C_seq fun K1 hK1 => C_region <| Rp (pu_assign rfl) <| Rp (pu_assign rfl) <| R_nil <| X_then hK1 <| C_seq fun K2 hK2 => C_region <| Rp (pu_move rfl) <| Rp (pu_move rfl) <| Rp (pu_move rfl) <| R_lo (lo_call (by kernel_rfl) rfl (poly_weights b A l c x hx _ HB hc (by have hm_ := (hM).2; omega) hM aw_HB hT)) rfl ?_
 rintro _ w1 ⟨A_wl, c_wl, rfl, Q1, T1, k1⟩
 have kk1 := kk0.trans k1 (fun i hi => .inl hi)
 have z3 := k1.size
 refine Rp (pu_move rfl) <| Rp (pu_extract rfl rfl) <| Rp (pu_extract rfl rfl) <| Rp (pu_assign rfl) <| Rp (pu_assign rfl) <| R_nil <| X_then hK2 <| C_seq fun K4 hK4 => C_seq fun K5 hK5 => C_region <| Rp (pu_move rfl) <| Rp (pu_neqnn (by kernel_rfl) rfl) <| Rp (pu_move rfl) <| Rg (pu_move rfl) <| Rg (pu_len Tryz.underlying22 rfl) <| Rg (pu_move rfl) <| Rg (pu_len Tryz.underlying22 rfl) <| Rg (pu_false (pu_neq (p := m.length = l.length) rfl rfl (by omega)) (fun h => h hy)) <| Rp (pu_pickf rfl rfl) <| R_nil <| X_then hK5 <| C_false rfl <| C_skip <| X_then hK4 <| C_seq fun K6 hK6 => C_region <| Rp (pu_assign rfl) <| R_nil <| X_then hK6 <| C_seq fun K7 hK7 => C_seq fun K8 hK8 => C_region <| Rp (pu_move rfl) <| Rp (pu_len Tryz.underlying22 rfl) <| Rp (pu_move rfl) <| R_nil <| X_then hK8 <| C_block <| C_loop (fun m_ l_ wr => ∃ i : Nat, (m_ = m.length - i) ∧ (l_ = [(0, .pointer (some ⟨b, 0, none⟩)), (8, .int .u8 0), (9, .nilIface), (10, .slice A_wl ((wtL l x).length) (c_wl)), (12, .int .u8 ((ipN l m x i : Nat) : Int)), (32, .slice A2 (m.length) (c2)), (33, .int .i64 ((m.length : Nat) : Int)), (34, .int .i64 ((i : Nat) : Int))]) ∧ (i ≤ m.length) ∧ (Kp (On b) w wr) ∧ (Ob wr w.heap.size (.slice A_wl ((wtL l x).length) (c_wl)) (wtL l x) ∧ w.heap.size ≤ (wr).heap.size) ∧ (Tb wr b)) (m.length - 0) [(0, .pointer (some ⟨b, 0, none⟩)), (8, .int .u8 0), (9, .nilIface), (10, .slice A_wl ((wtL l x).length) (c_wl)), (12, .int .u8 ((ipN l m x 0 : Nat) : Int)), (32, .slice A2 (m.length) (c2)), (33, .int .i64 ((m.length : Nat) : Int)), (34, .int .i64 0)] (Sub.cons rfl (Sub.cons rfl (Sub.cons rfl (Sub.cons rfl (Sub.cons rfl (Sub.cons rfl (Sub.cons rfl (Sub.cons rfl (Sub.nil _))))))))) ⟨0, rfl, rfl, by omega, kk1, ⟨Q1, z3⟩, T1⟩ ?_
 rintro _ _ w2 ⟨i, rfl, rfl, hi, kk2, wl_2, T_2⟩
 refine C_seq fun K9 hK9 => C_region <| Rp (pu_lss (p := i < m.length) rfl rfl (by omega)) <| R_nil <| X_then hK9 <| C_seq fun K10 hK10 => C_dec rfl (fun h35 => ?_) (fun h35 => ?_)
 ·
  refine C_skip <| X_then hK10 <| C_seq fun K11 hK11 => C_block <| C_seq fun K12 hK12 => C_region <| Rp (pu_move rfl) <| Rp (pu_indexAddrB (m := i) (HB2.keptS kk2 aw_HB2) Tryz.underlying22 (by kernel_rfl) rfl rfl rfl rfl (by omega)) ?_
  obtain ⟨y, e_y⟩ : ∃ q_, (m)[i]? = some q_ := ⟨_, List.getElem?_eq_getElem (by omega)⟩
  have b_y : y < 256 := ((HB2.keptS kk2 aw_HB2)).lt e_y
  refine Rp (pu_loadB (HB2.keptS kk2 aw_HB2) (by kernel_rfl) rfl e_y) <| Rp (pu_assign rfl) <| Rp (pu_assign rfl) <| R_nil <| X_then hK12 <| C_region <| Rp (pu_move rfl) <| Rp (pu_move rfl) <| Rp (pu_move rfl) <| Rp (pu_move rfl) <| Rp (pu_indexAddrB (m := i) wl_2.1.bs Tryz.underlying22 (by kernel_rfl) rfl rfl rfl rfl (by have hL := wtL_length l x; omega)) <| Rp (pu_loadB wl_2.1.bs (by kernel_rfl) rfl (wtL_get (by omega))) <| Rp (pu_move rfl) <| R_lo (lo_call (by kernel_rfl) rfl (gf_mul b (wt l x i) y (wt_lt _ _ _) b_y _ T_2)) rfl ?_
  rintro _ w3 ⟨rfl, T3, k3⟩
  have kk3 := kk2.trans k3 (fun i hi => .inl hi)
  refine R_lo (lo_call (by kernel_rfl) rfl (gf_add (ipN l m x i) (gmul (wt l x i) y) (ipN_lt _ _ _ _) (gmul_lt _ _) _)) rfl ?_
  rintro _ w4 ⟨rfl, k4⟩
  have kk4 := kk3.thenNo k4
  refine Rp (pu_assign rfl) <| R_nil <| X_in_normal <| X_then hK11 <| C_region <| Rp (pu_add (z := ((i + 1 : Nat) : Int)) rfl rfl (by rw [IntKind.wrap_i64]; omega)) <| Rp (pu_move rfl) <| R_nil ?_
  have ob13 := ((wl_2.1.on k3 (by have := hT.lt; omega)).keptNo k4)
  have o14 := (T3.no k4)
  refine X_round (m.length - (i + 1)) [(0, .pointer (some ⟨b, 0, none⟩)), (8, .int .u8 0), (9, .nilIface), (10, .slice A_wl ((wtL l x).length) (c_wl)), (12, .int .u8 ((ipN l m x (i + 1) : Nat) : Int)), (32, .slice A2 (m.length) (c2)), (33, .int .i64 ((m.length : Nat) : Int)), (34, .int .i64 (((i + 1) : Nat) : Int))] (by omega) (Sub.cons rfl (Sub.cons rfl (Sub.cons rfl (Sub.cons rfl (Sub.consE rfl (by rw [show ipN l m x i ^^^ gmul (wt l x i) y = ipN l m x (i + 1) by rw [← getD_some e_y]; rfl]) (Sub.cons rfl (Sub.cons rfl (Sub.cons rfl (Sub.nil _))))))))) ⟨i + 1, rfl, rfl, by omega, kk4, ⟨ob13, (Nat.le_trans (Nat.le_trans wl_2.2 k3.size) k4.size)⟩, o14⟩
 ·
  refine C_exit <| X_then_exit (X_then_exit (X_in_eq ?_))
  exact X_then hK7 <| C_seq fun K15 hK15 => C_region <| Rp (pu_move rfl) <| Rp (pu_assign rfl) <| Rp (pu_assign rfl) <| R_nil <| X_then hK15 <| C_ret <| X_ret2 (.inl rfl) rfl rfl rfl ⟨by rw [show l.length = i by omega], T_2, kk2⟩
end Go.Proofs.YtlkbkgghfhoggaaGreatDoor
