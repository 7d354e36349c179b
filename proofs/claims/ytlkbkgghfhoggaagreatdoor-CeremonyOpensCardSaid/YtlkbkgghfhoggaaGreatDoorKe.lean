/- Walks of sha: New, Write, Clone, Sum. -/
import Derived.Test.YtlkbkgghfhoggaaGreatDoorKd
set_option linter.unusedVariables false
set_option linter.unusedSimpArgs false
set_option maxHeartbeats 2000000
set_option maxRecDepth 100000
namespace Go.Proofs.YtlkbkgghfhoggaaGreatDoor
open Go.RowKit Gm
theorem sha_new  (w : World)  : Ret Tryz.prog 85 #[] w (fun v w' => ∃ p, v = .pointer (some ⟨p, 0, none⟩) ∧ (∀ i, Hf p none i → w.heap.size ≤ i) ∧ Hs w' p none 0 [] ∧ Kp No w w') := by
 have kk0 := Kp.refl No w
 refine enter (n := 4) [] Tryz.func85 rfl rfl rfl ?_
 show Cw _ _ _ _ [] _
 refine C_seq fun K1 hK1 => C_region <| Rp (pu_assign rfl) <| R_nil <| X_then hK1 <| C_seq fun K2 hK2 => C_region <| R_lo (lo_call (by kernel_rfl) rfl (sha_first _)) rfl ?_
 rintro _ w1 ⟨rfl, k1⟩
 have kk1 := kk0.then_ k1
 refine Rp (pu_build (L := hL iv (.slice none 0 0) 0) rfl (by kernel_rfl)) <| R_lo (lo_box (L := hL iv (.slice none (0) (0)) 0) rfl rfl) rfl ?_
 rintro _ w2 ⟨p, rfl, N2⟩
 have k2 := N2.kp
 have kk2 := kk1.then_ k2
 have f_p_2 := N2.bk
 exact Rp (pu_assign rfl) <| R_nil <| X_then hK2 <| C_ret <| X_ret1 (.inl rfl) rfl rfl ⟨p, rfl, fun i hi => hi.elim (fun e => by subst e; exact (Nat.le_trans kk1.size N2.le)) (fun e => by cases e), Hs.of (X := []) f_p_2 (Ob.nil _ _) rfl rfl rfl, kk2⟩
theorem sha_write (p : Nat) (Ar : Option Addr) (cr : Nat) (M : List Nat) (A : Option Addr) (l : List Nat) (c : Nat) (w : World) (hS : Hs w p Ar cr M) (HL : Bs w A l) (hc : l.length ≤ c) (hlen : M.length + l.length < 1152921504606846976) (aw_HL : Aw (Hf p Ar) A l) : Ret Tryz.prog 86 #[.pointer (some ⟨p, 0, none⟩), .slice A (l.length) (c)] w (fun v w' => v = .tuple #[] ∧ ∃ A' c', Hs w' p A' c' (M ++ l) ∧ (∀ i, Hf p A' i → Hf p Ar i ∨ w.heap.size ≤ i) ∧ Kp (Hf p Ar) w w') := by
 obtain ⟨hp, HR⟩ := hS
 have hR := RB_len M; have hnw := nW_le M l; have hin0 : ∀ i, obk Ar = some i → Hf p Ar i ∨ w.heap.size ≤ i := fun i hi => .inl (.inr hi)
 have kk0 := Kp.refl (Hf p Ar) w
 refine enter (n := 96) [.pointer (some ⟨p, 0, none⟩), .slice A (l.length) (c)] Tryz.func86 rfl rfl rfl ?_
 show Cw _ _ _ _ [(0, .pointer (some ⟨p, 0, none⟩)), (1, .slice A (l.length) (c))] _
 refine C_seq fun K1 hK1 => C_seq fun K2 hK2 => C_region <| Rp (pu_move rfl) <| Rp (pu_eqlpn (by kernel_rfl) rfl rfl) <| R_nil <| X_then hK2 <| C_false rfl <| C_skip <| X_then hK1 <| C_seq fun K3 hK3 => C_region <| Rp (pu_move rfl) <| Rp (pu_nilCheck rfl) <| Rp (pu_fieldAddr (off := 9) (o' := 9) (by kernel_rfl) rfl rfl) <| Rp (pu_loadK hp (by kernel_rfl) rfl (hL_9 (HB_wd M).1)) <| Rp (pu_move rfl) <| Rp (pu_len Tryz.underlying22 rfl) <| Rp (pu_conv (z := ((l.length : Nat) : Int)) Tryz.underlying3 Tryz.underlying108 rfl (by rw [IntKind.wrap_u64]; omega)) <| Rp (pu_add (z := ((M.length + l.length : Nat) : Int)) rfl rfl (by rw [IntKind.wrap_u64]; omega)) <| Rp (pu_nilCheck rfl) <| Rp (pu_fieldAddr (off := 9) (o' := 9) (by kernel_rfl) rfl rfl) ?_
 have nt4 := Ob.neT HR hp rfl
 refine R_lo0 (lo_store hp (by kernel_rfl) rfl rfl rfl (by rw [hL_len (HB_wd M).1]; decide)) ?_
 rintro _ w1 kf1
 obtain ⟨k1, f_p_1⟩ := kf1
 replace f_p_1 := Bk.eq f_p_1 (hL_set9 (HB_wd M).1)
 replace f_p_1 : Bk w1 p (hL (HB M) (.slice Ar ((RB M).length) (cr)) (M.length + l.length)) 206 := f_p_1
 have kk1 := kk0.trans k1 (On.sub (.inl (.inl rfl)))
 refine R_nil <| X_then hK3 <| C_cut (fun l_ wr => ∃ M1 : List Nat, ∃ b2 : List Nat, ∃ A2 : Option Addr, ∃ c2 : Nat, ∃ Ar2 : Option Addr, ∃ cr2 : Nat, (l_ = [(0, .pointer (some ⟨p, 0, none⟩)), (1, .slice A2 (b2.length) (c2))]) ∧ (M1 ++ b2 = M ++ l) ∧ (M1.length % 64 = 0) ∧ (Bs w A2 b2) ∧ (b2.length ≤ c2) ∧ (Aw (Hf p Ar) A2 b2) ∧ (∀ i, obk Ar2 = some i → Hf p Ar i ∨ w.heap.size ≤ i) ∧ (Kp (Hf p Ar) w wr) ∧ (Bk wr p (hL (HB M1) (.slice Ar2 (0) (cr2)) (M.length + l.length)) 206) ∧ (Ob wr 0 (.slice Ar2 0 cr2) [] ∧ 0 ≤ (wr).heap.size)) (fun K_ hK_ => ?_) ?_
 ·
  refine C_seq fun K5 hK5 => C_region <| Rp (pu_move rfl) <| Rp (pu_nilCheck rfl) <| Rp (pu_fieldAddr (off := 8) (o' := 8) (by kernel_rfl) rfl rfl) <| Rp (pu_loadK f_p_1 (by kernel_rfl) rfl (hL_8 (HB_wd M).1)) <| Rp (pu_len Tryz.underlying22 rfl) <| Rp (pu_gtr (p := ((RB M).length) > 0) rfl rfl (by omega)) <| R_nil <| X_then hK5 <| C_dec rfl (fun h22 => ?_) (fun h22 => ?_)
  ·
   refine C_seq fun K6 hK6 => C_region <| Rp (pu_move rfl) <| Rp (pu_nilCheck rfl) <| Rp (pu_fieldAddr (off := 8) (o' := 8) (by kernel_rfl) rfl rfl) <| Rp (pu_loadK f_p_1 (by kernel_rfl) rfl (hL_8 (HB_wd M).1)) <| Rp (pu_len Tryz.underlying22 rfl) <| Rp (pu_sub (z := ((64 - ((RB M).length) : Nat) : Int)) rfl rfl (by rw [IntKind.wrap_i64]; omega)) <| Rp (pu_move rfl) <| Rp (pu_len Tryz.underlying22 rfl) <| Rp (pu_min rfl rfl) <| Rp (show Pu _ _ _ _ (.int .i64 ((nW M l : Nat) : Int)) from pu_assign rfl) <| R_nil <| X_then hK6 <| C_seq fun K7 hK7 => Z_begin (fun W => Kp (Hf p Ar) w W ∧ Bk W p (hL (HB M) (.slice Ar ((RB M).length) (cr)) (M.length + l.length)) 206) 11 12 rfl (by kernel_rfl) ⟨kk1.drew, f_p_1.draw⟩ ?_
   intro w2 k2 _
   have kk2 := kk1.thenNo k2
   refine Z_take 0 rfl (by kernel_rfl) (by kernel_rfl) (by kernel_rfl) (by kernel_rfl) (by kernel_rfl) (fun _ _ _ h => h) rfl (fun W hS => pu_move rfl) <| Z_take 1 rfl (by kernel_rfl) (by kernel_rfl) (by kernel_rfl) (by kernel_rfl) (by kernel_rfl) (fun _ _ _ h => h) rfl (fun W hS => pu_move rfl) <| Z_take 2 rfl (by kernel_rfl) (by kernel_rfl) (by kernel_rfl) (by kernel_rfl) (by kernel_rfl) (fun _ _ _ h => h) rfl (fun W hS => pu_nilCheck rfl) <| Z_take 3 rfl (by kernel_rfl) (by kernel_rfl) (by kernel_rfl) (by kernel_rfl) (by kernel_rfl) (fun _ _ _ h => h) rfl (fun W hS => pu_fieldAddr (off := 8) (o' := 8) (by kernel_rfl) rfl rfl) <| Z_take 4 rfl (by kernel_rfl) (by kernel_rfl) (by kernel_rfl) (by kernel_rfl) (by kernel_rfl) (fun _ _ _ h => h) rfl (fun W hS => pu_loadK hS.2 (by kernel_rfl) rfl (hL_8 (HB_wd M).1)) <| Z_take 5 rfl (by kernel_rfl) (by kernel_rfl) (by kernel_rfl) (by kernel_rfl) (by kernel_rfl) (fun _ _ _ h => h) rfl (fun W hS => pu_move rfl) <| Z_take 6 rfl (by kernel_rfl) (by kernel_rfl) (by kernel_rfl) (by kernel_rfl) (by kernel_rfl) (fun _ _ _ h => h) rfl (fun W hS => pu_move rfl) ?_
   have HLt8 := Bs.take HL (nW M l)
   have aw_HLt8 := Aw.take aw_HL (nW M l)
   refine Z_take 7 rfl (by kernel_rfl) (by kernel_rfl) (by kernel_rfl) (by kernel_rfl) (by kernel_rfl) (fun _ _ _ h => h) rfl (fun W hS => pu_sliceHi (hi := nW M l) (s := 1) Tryz.underlying22 (by kernel_rfl) rfl rfl rfl (by have := hc; omega)) ?_
   have ob9 := ((HR.onE k1 nt4).keptNo k2)
   have f11 := (f_p_1.no k2)
   have nt10 := Ob.neT ob9 f11 rfl
   refine Z_one 8 (by kernel_rfl) (Nz_lo rfl (lo_appN (X := RB M) (Y := l.take (nW M l)) ob9 ob9.le.1 rfl rfl (show (l.take (nW M l)).length = nW M l by rw [List.length_take]; omega) (HLt8.keptS kk2 aw_HLt8) (by rw [List.length_take]; omega) (Nat.le_trans (Nat.le_trans (Nat.zero_le _) k1.size) k2.size)) rfl ?_)
   rintro _ w3 ⟨A_3, c_3, rfl, p3⟩
   have k3 := p3.kpo
   have kk3 := kk2.trans k3 (fun i hi => hin0 i (by rwa [ownB] at hi))
   have hin3 := p3.hin hin0 kk2.size
   have f12 := (f11.kept k3 (fun e => nt10 _ e rfl))
   refine ⟨⟨kk3, f12⟩, ?_⟩
   refine Z_one 9 (by kernel_rfl) (Nz_pu rfl (pu_nilCheck rfl) rfl ⟨⟨kk3, f12⟩, ?_⟩)
   refine Z_take 10 rfl (by kernel_rfl) (by kernel_rfl) (by kernel_rfl) (by kernel_rfl) (by kernel_rfl) (fun _ _ _ h => h) rfl (fun W hS => pu_fieldAddr (off := 8) (o' := 8) (by kernel_rfl) rfl rfl) ?_
   have nt13 := Ob.neT p3.ob f12 rfl
   refine Z_last 11 (by kernel_rfl) rfl (by kernel_rfl) (by kernel_rfl) (lo_store f12 (by kernel_rfl) rfl rfl rfl (by rw [hL_len (HB_wd M).1]; decide)) ?_
   rintro _ w4 kf4
   obtain ⟨k4, f_p_4⟩ := kf4
   replace f_p_4 := Bk.eq f_p_4 (hL_set8 (HB_wd M).1)
   replace f_p_4 : Bk w4 p (hL (HB M) (.slice A_3 (((RB M) ++ (l.take (nW M l))).length) (c_3)) (M.length + l.length)) 206 := f_p_4
   have kk4 := kk3.trans k4 (On.sub (.inl (.inl rfl)))
   refine X_then hK7 <| C_seq fun K14 hK14 => C_region <| Rp (pu_move rfl) <| Rp (pu_move rfl) ?_
   have HLc15 := Bs.cut HL hc (nW M l)
   have aw_HLc15 := Aw.cut aw_HL (nW M l) c 1
   refine Rp (pu_sliceLo (lo := nW M l) (s := 1) Tryz.underlying22 (by kernel_rfl) rfl rfl rfl (by omega) (by have := hc; omega)) <| Rp (pu_assign rfl) <| R_nil <| X_then hK14 <| C_seq fun K16 hK16 => C_seq fun K17 hK17 => C_region <| Rp (pu_move rfl) <| Rp (pu_nilCheck rfl) <| Rp (pu_fieldAddr (off := 8) (o' := 8) (by kernel_rfl) rfl rfl) <| Rp (pu_loadK f_p_4 (by kernel_rfl) rfl (hL_8 (HB_wd M).1)) <| Rp (pu_len Tryz.underlying22 rfl) <| Rp (pu_lss (p := (((RB M) ++ (l.take (nW M l))).length) < 64) rfl rfl (by omega)) <| R_nil <| X_then hK17 <| C_dec rfl (fun h51 => ?_) (fun h51 => ?_)
   ·
    refine C_ret <| X_then_ret (X_then_ret ?_)
    have ob18 := (p3.ob.onE k4 nt13)
    exact X_ret0 (.inl rfl) rfl ⟨rfl, A_3, c_3, Hs.of f_p_4 ob18 (w_small h51).1 (w_small h51).2 List.length_append.symm, Hf.new hin3, kk4⟩
   ·
    refine C_skip <| X_then hK16 <| C_seq fun K19 hK19 => Z_begin (fun W => Kp (Hf p Ar) w W ∧ Bk W p (hL (HB M) (.slice A_3 (((RB M) ++ (l.take (nW M l))).length) (c_3)) (M.length + l.length)) 206) 12 13 rfl (by kernel_rfl) ⟨kk4.drew, f_p_4.draw⟩ ?_
    intro w5 k5 _
    have kk5 := kk4.thenNo k5
    refine Z_take 0 rfl (by kernel_rfl) (by kernel_rfl) (by kernel_rfl) (by kernel_rfl) (by kernel_rfl) (fun _ _ _ h => h) rfl (fun W hS => pu_move rfl) <| Z_take 1 rfl (by kernel_rfl) (by kernel_rfl) (by kernel_rfl) (by kernel_rfl) (by kernel_rfl) (fun _ _ _ h => h) rfl (fun W hS => pu_move rfl) <| Z_take 2 rfl (by kernel_rfl) (by kernel_rfl) (by kernel_rfl) (by kernel_rfl) (by kernel_rfl) (fun _ _ _ h => h) rfl (fun W hS => pu_nilCheck rfl) <| Z_take 3 rfl (by kernel_rfl) (by kernel_rfl) (by kernel_rfl) (by kernel_rfl) (by kernel_rfl) (fun _ _ _ h => h) rfl (fun W hS => pu_fieldAddr (off := 0) (o' := 0) (by kernel_rfl) rfl rfl) <| Z_take 4 rfl (by kernel_rfl) (by kernel_rfl) (by kernel_rfl) (by kernel_rfl) (by kernel_rfl) (fun _ _ _ h => h) rfl (fun W hS => pu_loadMid (len := 8) (C := u32s (HB M)) hS.2 (by kernel_rfl) (by kernel_rfl) rfl (hL_row (HB_wd M).1) (by rw [u32s_length]; exact (HB_wd M).1)) <| Z_take 5 rfl (by kernel_rfl) (by kernel_rfl) (by kernel_rfl) (by kernel_rfl) (by kernel_rfl) (fun _ _ _ h => h) rfl (fun W hS => pu_move rfl) <| Z_take 6 rfl (by kernel_rfl) (by kernel_rfl) (by kernel_rfl) (by kernel_rfl) (by kernel_rfl) (fun _ _ _ h => h) rfl (fun W hS => pu_nilCheck rfl) <| Z_take 7 rfl (by kernel_rfl) (by kernel_rfl) (by kernel_rfl) (by kernel_rfl) (by kernel_rfl) (fun _ _ _ h => h) rfl (fun W hS => pu_fieldAddr (off := 8) (o' := 8) (by kernel_rfl) rfl rfl) <| Z_take 8 rfl (by kernel_rfl) (by kernel_rfl) (by kernel_rfl) (by kernel_rfl) (by kernel_rfl) (fun _ _ _ h => h) rfl (fun W hS => pu_loadK hS.2 (by kernel_rfl) rfl (hL_8 (HB_wd M).1)) ?_
    have ob20 := ((p3.ob.onE k4 nt13).keptNo k5)
    refine Z_one 9 (by kernel_rfl) (Nz_lo rfl (lo_call (by kernel_rfl) rfl (sha_mix (HB M) (HB_wd M) A_3 ((RB M) ++ (l.take (nW M l))) c_3 _ ob20.bs ob20.le.2 (w_full h51).2.2.1)) rfl ?_)
    rintro _ w6 ⟨rfl, k6⟩
    have kk6 := kk5.thenNo k6
    have f21 := ((f_p_4.no k5).no k6)
    refine ⟨⟨kk6, f21⟩, ?_⟩
    refine Z_one 10 (by kernel_rfl) (Nz_pu rfl (pu_nilCheck rfl) rfl ⟨⟨kk6, f21⟩, ?_⟩)
    refine Z_take 11 rfl (by kernel_rfl) (by kernel_rfl) (by kernel_rfl) (by kernel_rfl) (by kernel_rfl) (fun _ _ _ h => h) rfl (fun W hS => pu_fieldAddr (off := 0) (o' := 0) (by kernel_rfl) rfl rfl) ?_
    have ob23 := (ob20.keptNo k6)
    have nt22 := Ob.neT ob23 f21 rfl
    refine Z_last 12 (by kernel_rfl) rfl (by kernel_rfl) (by kernel_rfl) (lo_storeCs (C := u32s (mixB (HB M) ((RB M) ++ (l.take (nW M l))))) f21 (by rw [u32s_length, (mixB_wd _ _).1]; kernel_rfl) rfl rfl rfl (u32s_each _) (by rw [hL_len (HB_wd M).1, u32s_length, (mixB_wd _ _).1]; decide)) ?_
    rintro _ w7 kf7
    obtain ⟨k7, f_p_7⟩ := kf7
    replace f_p_7 := Bk.eq f_p_7 (hL_put (HB_wd M).1 (mixB_wd _ _).1)
    replace f_p_7 : Bk w7 p (hL (mixB (HB M) ((RB M) ++ (l.take (nW M l)))) (.slice A_3 (((RB M) ++ (l.take (nW M l))).length) (c_3)) (M.length + l.length)) 206 := f_p_7
    have kk7 := kk6.trans k7 (On.sub (.inl (.inl rfl)))
    refine X_then hK19 <| C_region <| Rp (pu_move rfl) <| Rp (pu_move rfl) <| Rp (pu_nilCheck rfl) <| Rp (pu_fieldAddr (off := 8) (o' := 8) (by kernel_rfl) rfl rfl) <| Rp (pu_loadK f_p_7 (by kernel_rfl) rfl (hL_8 (mixB_wd _ _).1)) ?_
    have ob25 := (ob23.onE k7 nt22)
    have ob24 := Ob.cut0 ob25
    refine Rp (pu_sliceHi (hi := 0) (s := 1) Tryz.underlying22 (by kernel_rfl) rfl rfl rfl (Nat.zero_le _)) <| Rp (pu_nilCheck rfl) <| Rp (pu_fieldAddr (off := 8) (o' := 8) (by kernel_rfl) rfl rfl) ?_
    have nt26 := Ob.neT ob24 f_p_7 rfl
    refine R_lo0 (lo_store f_p_7 (by kernel_rfl) rfl rfl rfl (by rw [hL_len (mixB_wd _ _).1]; decide)) ?_
    rintro _ w8 kf8
    obtain ⟨k8, f_p_8⟩ := kf8
    replace f_p_8 := Bk.eq f_p_8 (hL_set8 (mixB_wd _ _).1)
    replace f_p_8 : Bk w8 p (hL (mixB (HB M) ((RB M) ++ (l.take (nW M l)))) (.slice A_3 (0) (c_3)) (M.length + l.length)) 206 := f_p_8
    have kk8 := kk7.trans k8 (On.sub (.inl (.inl rfl)))
    refine R_nil ?_
    have ob27 := (ob24.onE k8 nt26)
    refine X_cut hK_ [(0, .pointer (some ⟨p, 0, none⟩)), (1, .slice (cutA A (nW M l) c 1) ((l.drop (nW M l)).length) ((c - nW M l)))] (Sub.cons rfl (Sub.consE rfl (by rw [List.length_drop]) (Sub.nil _))) ⟨M ++ l.take (nW M l), l.drop (nW M l), (cutA A (nW M l) c 1), c - nW M l, A_3, c_3, rfl, (w_full h51).2.2.2, (w_full h51).2.1, (Bs.cut HL hc _), (by rw [List.length_drop]; omega), (Aw.cut aw_HL _ c 1), hin3, kk8, Bk.eq f_p_8 (congrArg (fun z => hL z _ _) (w_full h51).1), ⟨ob27, Nat.zero_le _⟩⟩
  ·
   refine C_skip ?_
   have ob28 := (HR.onE k1 nt4)
   refine X_cut hK_ [(0, .pointer (some ⟨p, 0, none⟩)), (1, .slice A (l.length) (c))] (Sub.cons rfl (Sub.cons rfl (Sub.nil _))) ⟨M, l, A, c, Ar, cr, rfl, rfl, (by omega), HL, hc, aw_HL, (fun i hi => .inl (.inr hi)), kk1, Bk.eq f_p_1 (by rw [show (RB M).length = 0 by omega]), ⟨Ob.cut0 ob28, Nat.zero_le _⟩⟩
 ·
  rintro _ w9 ⟨M1, b2, A2, c2, Ar2, cr2, rfl, hM2, hm2, HL2, hc2, aw_HL2, hin2, kk9, f_p_9, r_9⟩
  refine C_seq fun K29 hK29 => C_block <| C_loop (fun m_ l_ wr => ∃ M2 : List Nat, ∃ b3 : List Nat, ∃ A3 : Option Addr, ∃ c3 : Nat, (m_ = b3.length) ∧ (l_ = [(0, .pointer (some ⟨p, 0, none⟩)), (1, .slice A3 (b3.length) (c3))]) ∧ (M2 ++ b3 = M ++ l) ∧ (M2.length % 64 = 0) ∧ (Bs w A3 b3) ∧ (b3.length ≤ c3) ∧ (Aw (Hf p Ar) A3 b3) ∧ (Kp (Hf p Ar) w wr) ∧ (Bk wr p (hL (HB M2) (.slice Ar2 (0) (cr2)) (M.length + l.length)) 206) ∧ (Ob wr 0 (.slice Ar2 0 cr2) [] ∧ 0 ≤ (wr).heap.size)) (b2.length) [(0, .pointer (some ⟨p, 0, none⟩)), (1, .slice A2 (b2.length) (c2))] (Sub.cons rfl (Sub.cons rfl (Sub.nil _))) ⟨M1, b2, A2, c2, rfl, rfl, hM2, hm2, HL2, hc2, aw_HL2, kk9, f_p_9, ⟨r_9.1, Nat.zero_le _⟩⟩ ?_
  rintro _ _ w10 ⟨M2, b3, A3, c3, rfl, rfl, hM3, hm3, HL3, hc3, aw_HL3, kk10, f_p_10, r_10⟩
  refine C_seq fun K30 hK30 => C_seq fun K31 hK31 => C_region <| Rp (pu_move rfl) <| Rp (pu_len Tryz.underlying22 rfl) <| Rp (pu_geq (p := b3.length ≥ 64) rfl rfl (by omega)) <| R_nil <| X_then hK31 <| C_dec rfl (fun h74 => ?_) (fun h74 => ?_)
  ·
   refine C_skip <| X_then hK30 <| C_block <| C_seq fun K32 hK32 => Z_begin (fun W => Kp (Hf p Ar) w W ∧ Bk W p (hL (HB M2) (.slice Ar2 (0) (cr2)) (M.length + l.length)) 206) 10 11 rfl (by kernel_rfl) ⟨kk10.drew, f_p_10.draw⟩ ?_
   intro w11 k11 _
   have kk11 := kk10.thenNo k11
   refine Z_take 0 rfl (by kernel_rfl) (by kernel_rfl) (by kernel_rfl) (by kernel_rfl) (by kernel_rfl) (fun _ _ _ h => h) rfl (fun W hS => pu_move rfl) <| Z_take 1 rfl (by kernel_rfl) (by kernel_rfl) (by kernel_rfl) (by kernel_rfl) (by kernel_rfl) (fun _ _ _ h => h) rfl (fun W hS => pu_move rfl) <| Z_take 2 rfl (by kernel_rfl) (by kernel_rfl) (by kernel_rfl) (by kernel_rfl) (by kernel_rfl) (fun _ _ _ h => h) rfl (fun W hS => pu_nilCheck rfl) <| Z_take 3 rfl (by kernel_rfl) (by kernel_rfl) (by kernel_rfl) (by kernel_rfl) (by kernel_rfl) (fun _ _ _ h => h) rfl (fun W hS => pu_fieldAddr (off := 0) (o' := 0) (by kernel_rfl) rfl rfl) <| Z_take 4 rfl (by kernel_rfl) (by kernel_rfl) (by kernel_rfl) (by kernel_rfl) (by kernel_rfl) (fun _ _ _ h => h) rfl (fun W hS => pu_loadMid (len := 8) (C := u32s (HB M2)) hS.2 (by kernel_rfl) (by kernel_rfl) rfl (hL_row (HB_wd M2).1) (by rw [u32s_length]; exact (HB_wd M2).1)) <| Z_take 5 rfl (by kernel_rfl) (by kernel_rfl) (by kernel_rfl) (by kernel_rfl) (by kernel_rfl) (fun _ _ _ h => h) rfl (fun W hS => pu_move rfl) ?_
   have HL3t33 := Bs.take HL3 64
   have aw_HL3t33 := Aw.take aw_HL3 64
   refine Z_take 6 rfl (by kernel_rfl) (by kernel_rfl) (by kernel_rfl) (by kernel_rfl) (by kernel_rfl) (fun _ _ _ h => h) rfl (fun W hS => pu_sliceHi (hi := 64) (s := 1) Tryz.underlying22 (by kernel_rfl) rfl rfl rfl (by have := hc3; omega)) <| Z_one 7 (by kernel_rfl) (Nz_lo rfl (lo_callE (by kernel_rfl) rfl (by rw [(show (b3.take 64).length = 64 by rw [List.length_take]; omega)] <;> rfl) (sha_mix (HB M2) (HB_wd M2) A3 (b3.take 64) c3 _ (HL3t33.keptS kk11 aw_HL3t33) (by rw [(show (b3.take 64).length = 64 by rw [List.length_take]; omega)]; have := hc3; omega) (by rw [List.length_take]; omega))) rfl ?_)
   rintro _ w12 ⟨rfl, k12⟩
   have kk12 := kk11.thenNo k12
   have f34 := ((f_p_10.no k11).no k12)
   refine ⟨⟨kk12, f34⟩, ?_⟩
   refine Z_one 8 (by kernel_rfl) (Nz_pu rfl (pu_nilCheck rfl) rfl ⟨⟨kk12, f34⟩, ?_⟩)
   refine Z_take 9 rfl (by kernel_rfl) (by kernel_rfl) (by kernel_rfl) (by kernel_rfl) (by kernel_rfl) (fun _ _ _ h => h) rfl (fun W hS => pu_fieldAddr (off := 0) (o' := 0) (by kernel_rfl) rfl rfl) ?_
   have ob36 := ((r_10.1.keptNo k11).keptNo k12)
   have nt35 := Ob.neT ob36 f34 rfl
   refine Z_last 10 (by kernel_rfl) rfl (by kernel_rfl) (by kernel_rfl) (lo_storeCs (C := u32s (mixB (HB M2) (b3.take 64))) f34 (by rw [u32s_length, (mixB_wd _ _).1]; kernel_rfl) rfl rfl rfl (u32s_each _) (by rw [hL_len (HB_wd M2).1, u32s_length, (mixB_wd _ _).1]; decide)) ?_
   rintro _ w13 kf13
   obtain ⟨k13, f_p_13⟩ := kf13
   replace f_p_13 := Bk.eq f_p_13 (hL_put (HB_wd M2).1 (mixB_wd _ _).1)
   replace f_p_13 : Bk w13 p (hL (mixB (HB M2) (b3.take 64)) (.slice Ar2 (0) (cr2)) (M.length + l.length)) 206 := f_p_13
   have kk13 := kk12.trans k13 (On.sub (.inl (.inl rfl)))
   refine X_then hK32 <| C_region <| Rp (pu_move rfl) ?_
   have HL3c37 := Bs.cut HL3 hc3 64
   have aw_HL3c37 := Aw.cut aw_HL3 64 c3 1
   refine Rp (pu_sliceLo (lo := 64) (s := 1) Tryz.underlying22 (by kernel_rfl) rfl rfl rfl (by omega) (by have := hc3; omega)) <| Rp (pu_assign rfl) <| R_nil <| X_in_normal ?_
   have ob38 := (ob36.onE k13 nt35)
   refine X_round ((b3.drop 64).length) [(0, .pointer (some ⟨p, 0, none⟩)), (1, .slice (cutA A3 64 c3 1) ((b3.drop 64).length) ((c3 - 64)))] (by rw [List.length_drop]; omega) (Sub.cons rfl (Sub.consE rfl (by rw [List.length_drop]) (Sub.nil _))) ⟨M2 ++ b3.take 64, b3.drop 64, (cutA A3 64 c3 1), c3 - 64, rfl, rfl, (by rw [List.append_assoc, List.take_append_drop]; exact hM3), (by rw [List.length_append, List.length_take]; omega), (Bs.cut HL3 hc3 64), (by rw [List.length_drop]; omega), (Aw.cut aw_HL3 64 c3 1), kk13, Bk.eq f_p_13 (congrArg (fun z => hL z _ _) (w_round hm3 (by omega))), ⟨ob38, Nat.zero_le _⟩⟩
  ·
   refine C_exit <| X_then_exit (X_then_exit (X_in_eq ?_))
   refine X_then hK29 <| C_region <| Rp (pu_move rfl) <| Rp (pu_move rfl) <| Rp (pu_nilCheck rfl) <| Rp (pu_fieldAddr (off := 8) (o' := 8) (by kernel_rfl) rfl rfl) <| Rp (pu_loadK f_p_10 (by kernel_rfl) rfl (hL_8 (HB_wd M2).1)) <| Rp (pu_move rfl) ?_
   have nt39 := Ob.neT r_10.1 f_p_10 rfl
   refine R_lo (lo_appN (X := ([] : List Nat)) (Y := b3) r_10.1 r_10.1.le.1 rfl rfl rfl (HL3.keptS kk10 aw_HL3) (by simp; omega) r_10.2) rfl ?_
   rintro _ w14 ⟨A_14, c_14, rfl, p14⟩
   have k14 := p14.kpo
   have kk14 := kk10.trans k14 (fun i hi => hin2 i (by rwa [ownB] at hi))
   have hin14 := p14.hin hin2 kk10.size
   refine Rp (pu_nilCheck rfl) <| Rp (pu_fieldAddr (off := 8) (o' := 8) (by kernel_rfl) rfl rfl) ?_
   have f40 := (f_p_10.kept k14 (fun e => nt39 _ e rfl))
   have nt41 := Ob.neT p14.ob f40 rfl
   refine R_lo0 (lo_store f40 (by kernel_rfl) rfl rfl rfl (by rw [hL_len (HB_wd M2).1]; decide)) ?_
   rintro _ w15 kf15
   obtain ⟨k15, f_p_15⟩ := kf15
   replace f_p_15 := Bk.eq f_p_15 (hL_set8 (HB_wd M2).1)
   replace f_p_15 : Bk w15 p (hL (HB M2) (.slice A_14 ((([] : List Nat) ++ b3).length) (c_14)) (M.length + l.length)) 206 := f_p_15
   have kk15 := kk14.trans k15 (On.sub (.inl (.inl rfl)))
   refine R_nil ?_
   have ob42 := (p14.ob.onE k15 nt41)
   exact X_ret0 (.inr rfl) rfl ⟨rfl, A_14, c_14, Hs.of f_p_15 ob42 (w_end hM3 hm3 (by omega)).1 (w_end hM3 hm3 (by omega)).2 List.length_append.symm, Hf.new hin14, kk15⟩
theorem sha_clone (p : Nat) (Ar : Option Addr) (cr : Nat) (M : List Nat)  (w : World) (hS : Hs w p Ar cr M) : Ret Tryz.prog 89 #[.pointer (some ⟨p, 0, none⟩)] w (fun v w' => ∃ q A' c', v = .pointer (some ⟨q, 0, none⟩) ∧ (∀ i, Hf q A' i → w.heap.size ≤ i) ∧ Hs w' q A' c' M ∧ Kp No w w') := by
 obtain ⟨hp, HR⟩ := hS
 have hR := RB_len M
 have kk0 := Kp.refl No w
 refine enter (n := 21) [.pointer (some ⟨p, 0, none⟩)] Tryz.func89 rfl rfl rfl ?_
 show Cw _ _ _ _ [(0, .pointer (some ⟨p, 0, none⟩))] _
 refine C_seq fun K1 hK1 => C_region <| Rp (pu_assign rfl) <| R_nil <| X_then hK1 <| C_seq fun K2 hK2 => C_seq fun K3 hK3 => C_region <| Rp (pu_move rfl) <| Rp (pu_eqlpn (by kernel_rfl) rfl rfl) <| R_nil <| X_then hK3 <| C_false rfl <| C_skip <| X_then hK2 <| C_seq fun K4 hK4 => D_begin (fun W => Kp No w W ∧ Bk W p (hL (HB M) (.slice Ar ((RB M).length) (cr)) M.length) 206) 17 rfl (by kernel_rfl) ⟨kk0.drew, hp.draw⟩ ?_
 intro w1 k1 _
 have kk1 := kk0.then_ k1
 refine Dt 0 rfl (fun W hS => pu_move rfl) <| Dt 1 rfl (fun W hS => pu_nilCheck rfl) <| Dt 2 rfl (fun W hS => pu_fieldAddr (off := 0) (o' := 0) (by kernel_rfl) rfl rfl) <| Dt 3 rfl (fun W hS => pu_loadMid (len := 8) (C := u32s (HB M)) hS.2 (by kernel_rfl) (by kernel_rfl) rfl (hL_row (HB_wd M).1) (by rw [u32s_length]; exact (HB_wd M).1)) <| Dt 5 rfl (fun W hS => pu_move rfl) <| Dt 6 rfl (fun W hS => pu_nilCheck rfl) <| Dt 7 rfl (fun W hS => pu_fieldAddr (off := 8) (o' := 8) (by kernel_rfl) rfl rfl) <| Dt 8 rfl (fun W hS => pu_loadK hS.2 (by kernel_rfl) rfl (hL_8 (HB_wd M).1)) <| Dt 10 rfl (fun W hS => pu_move rfl) <| Dt 11 rfl (fun W hS => pu_nilCheck rfl) <| Dt 12 rfl (fun W hS => pu_fieldAddr (off := 9) (o' := 9) (by kernel_rfl) rfl rfl) <| Dt 13 rfl (fun W hS => pu_loadK hS.2 (by kernel_rfl) rfl (hL_9 (HB_wd M).1)) ?_
 have f5 := (hp.no k1)
 have ob6 := (HR.keptNo k1)
 refine D_one 4 (by kernel_rfl) (Nx_lo rfl (lo_make (z := .int .u8 0) (bytes := 1) (ln := 0) (cp := 64) Tryz.underlying22 (by kernel_rfl) rfl rfl rfl rfl rfl (by omega) (by omega) (by omega)) rfl ?_)
 rintro _ w2 ⟨g, rfl, N2⟩
 have k2 := N2.kp
 have kk2 := kk1.then_ k2
 have f_g_2 : Bk w2 g (u8s (List.replicate 64 0)) 5 := by rw [u8s_rep]; exact N2.bk
 have f7 := (f5.no k2)
 refine ⟨⟨kk2, f7⟩, ?_⟩
 have ob8 : Ob w2 w1.heap.size (.slice (some ⟨g, 0, none⟩) ([] : List Nat).length 64) [] := Ob.of_block (k := 0) f_g_2 N2.le (rep_by 64).1 (by unfold maxLen; omega) (rep_by 64).2 (Nat.zero_le _)
 have z10 := N2.kp.size
 have ob11 := (ob6.keptNo k2)
 refine D_one 9 (by kernel_rfl) (Nx_lo rfl (lo_app (X := ([] : List Nat)) (Y := RB M) ob8 ob8.le.1 rfl rfl rfl ob11.bs (by simp; omega) z10) rfl ?_)
 rintro _ w3 ⟨A_3, c_3, rfl, p3⟩
 have k3 := p3.kp
 have kk3 := kk2.trans k3 (fun i hi => .inr (Nat.le_trans (kk1).size hi))
 have f12 : Bk w3 p (hL (HB M) (.slice Ar ((RB M).length) (cr)) M.length) 206 := (f7.kept k3 (by have := f5.lt; omega))
 refine ⟨⟨kk3, f12⟩, ?_⟩
 refine Dt 14 rfl (fun W hS => pu_build (L := hL (HB M) (.slice A_3 ((([] : List Nat) ++ (RB M)).length) (c_3)) M.length) rfl (h_builtS (HB_wd M).1)) <| D_one 15 (by kernel_rfl) (Nx_lo rfl (lo_box (L := hL (HB M) (.slice A_3 ((([] : List Nat) ++ (RB M)).length) (c_3)) M.length) rfl rfl) rfl ?_)
 rintro _ w4 ⟨q, rfl, N4⟩
 have k4 := N4.kp
 have kk4 := kk3.then_ k4
 have f_q_4 := N4.bk
 have f14 := (f12.no k4)
 refine ⟨⟨kk4, f14⟩, ?_⟩
 refine Dt 16 rfl (fun W hS => pu_assign rfl) <| D_done (by kernel_rfl) <| X_then hK4 <| C_ret ?_
 have ob15 := (p3.ob.keptNo k4)
 exact X_ret1 (.inl rfl) rfl rfl ⟨q, A_3, c_3, rfl, Hf.low (Nat.le_trans kk3.size N4.le) ob15 ((kk1).size), Hs.of f_q_4 (ob15.low (Nat.zero_le _)) rfl rfl rfl, kk4⟩
theorem sha_sum (p : Nat) (Ar : Option Addr) (cr : Nat) (M : List Nat)  (w : World) (hS : Hs w p Ar cr M) (hlen : M.length < 1152921504606846000) : Ret Tryz.prog 88 #[.pointer (some ⟨p, 0, none⟩)] w (fun v w' => v = .agg (u8s (shaB M)).toArray ∧ Kp No w w') := by
 have kk0 := Kp.refl No w
 refine enter (n := 90) [.pointer (some ⟨p, 0, none⟩)] Tryz.func88 rfl rfl rfl ?_
 show Cw _ _ _ _ [(0, .pointer (some ⟨p, 0, none⟩))] _
 refine C_seq fun K1 hK1 => C_region <| R_lo (lo_alloc (L := u8s (List.replicate 32 0)) (by kernel_rfl)) rfl ?_
 rintro _ w1 ⟨pr, rfl, N1⟩
 have k1 := N1.kp
 have kk1 := kk0.then_ k1
 have f_pr_1 := N1.bk
 refine R_nil <| X_then hK1 <| C_seq fun K2 hK2 => C_seq fun K3 hK3 => C_region <| Rp (pu_move rfl) <| Rp (pu_eqlpn (by kernel_rfl) rfl rfl) <| R_nil <| X_then hK3 <| C_false rfl <| C_skip <| X_then hK2 <| C_seq fun K4 hK4 => C_region <| Rp (pu_move rfl) ?_
 have ob5 := (hS.keptNo k1)
 refine R_lo (lo_call (by kernel_rfl) rfl (sha_clone p Ar cr M _ ob5)) rfl ?_
 rintro _ w2 ⟨bc_, A_c_, c_c_, rfl, L2, H2, k2⟩
 have kk2 := kk1.then_ k2
 refine Rp (pu_assign rfl) <| R_nil <| X_then hK4 <| C_seq fun K6 hK6 => C_region <| Rp (pu_move rfl) <| Rp (pu_nilCheck rfl) <| Rp (pu_fieldAddr (off := 9) (o' := 9) (by kernel_rfl) rfl rfl) <| Rp (pu_loadK H2.bk (by kernel_rfl) rfl (hL_9 (HB_wd M).1)) <| Rp (pu_mul (z := ((8 * M.length : Nat) : Int)) rfl rfl (by rw [IntKind.wrap_u64]; omega)) <| Rp (pu_assign rfl) <| R_nil <| X_then hK6 <| C_seq fun K7 hK7 => C_region ?_
 have f8 := (f_pr_1.no k2)
 refine R_lo (lo_make (z := .int .u8 0) (bytes := 1) (ln := 1) (cp := 128) Tryz.underlying22 (by kernel_rfl) rfl rfl rfl rfl rfl (by omega) (by omega) (by omega)) rfl ?_
 rintro _ w3 ⟨d, rfl, N3⟩
 have k3 := N3.kp
 have kk3 := kk2.then_ k3
 have ne_d_pr := Nat.ne_of_gt (Nat.lt_of_lt_of_le f8.lt N3.le)
 have f_d_3 : Bk w3 d (u8s (List.replicate 128 0)) 5 := by rw [u8s_rep]; exact N3.bk
 refine Rp (pu_assign rfl) <| R_nil <| X_then hK7 <| C_seq fun K10 hK10 => C_region <| Rp (pu_move rfl) <| Rp (pu_indexAddrP (m := 0) (s := 1) (o' := 0) Tryz.underlying22 (by kernel_rfl) rfl rfl rfl (by omega) (by omega)) <| R_lo0 (lo_store f_d_3 (by kernel_rfl) rfl rfl rfl (by rw [u8s_length, (rep_by 128).1]; omega)) ?_
 rintro _ w4 kf4
 obtain ⟨k4, f_d_4⟩ := kf4
 replace f_d_4 := Bk.eq f_d_4 (u8s_set _ _ 128)
 replace f_d_4 : Bk w4 d (u8s ((List.replicate 128 0).set 0 128)) 5 := f_d_4
 have kk4 := kk3.trans k4 (fun i hi => .inr (hi ▸ (Nat.le_trans kk2.size N3.le)))
 refine R_nil <| X_then hK10 <| C_seq fun K11 hK11 => C_block ?_
 have ob0 : Ob w4 w.heap.size (.slice (some ⟨d, 0, none⟩) (0 + 1) 128) (128 :: List.replicate 0 0) := Ob.of_block (cs := (List.replicate 128 0).set 0 128) (k := 1) (cap := 128) f_d_4 (Nat.le_trans kk2.size N3.le) rfl (by unfold maxLen; omega) (by_set (n := 128) (rep_by 128) (by decide)).2 (by decide)
 have f12 := ((f8.no k3).on k4 (Ne.symm ne_d_pr))
 have ob13 := ((H2.keptNo k3).onN k4 H2 N3.le)
 refine C_loop (fun m_ l_ wr => ∃ z : Nat, (m_ = 64 - z) ∧ (l_ = [(2, .pointer (some ⟨pr, 0, none⟩)), (3, .pointer (some ⟨bc_, 0, none⟩)), (4, .int .u64 ((8 * M.length : Nat) : Int)), (5, .slice (some ⟨d, 0, none⟩) (z + 1) (128))]) ∧ (z ≤ (119 - M.length % 64) % 64) ∧ (Kp No w wr) ∧ (Bk wr pr (u8s (List.replicate 32 0)) 56) ∧ (Ob wr w.heap.size (.slice (some ⟨d, 0, none⟩) (z + 1) 128) (128 :: List.replicate z 0) ∧ w.heap.size ≤ (wr).heap.size) ∧ (Hs wr bc_ A_c_ c_c_ (M) ∧ True)) (64 - 0) [(2, .pointer (some ⟨pr, 0, none⟩)), (3, .pointer (some ⟨bc_, 0, none⟩)), (4, .int .u64 ((8 * M.length : Nat) : Int)), (5, .slice (some ⟨d, 0, none⟩) (0 + 1) (128))] (Sub.cons rfl (Sub.cons rfl (Sub.cons rfl (Sub.cons rfl (Sub.nil _))))) ⟨0, rfl, rfl, by omega, kk4, f12, ⟨ob0, kk4.size⟩, ⟨ob13, trivial⟩⟩ ?_
 rintro _ _ w5 ⟨z, rfl, rfl, hz, kk5, f_pr_5, pd_5, c__5⟩
 refine C_seq fun K14 hK14 => C_seq fun K15 hK15 => C_region <| Rp (pu_move rfl) <| Rp (pu_nilCheck rfl) <| Rp (pu_fieldAddr (off := 9) (o' := 9) (by kernel_rfl) rfl rfl) <| Rp (pu_loadK c__5.1.bk (by kernel_rfl) rfl (hL_9 (HB_wd M).1)) <| Rp (pu_rem (z := ((M.length % 64 : Nat) : Int)) rfl rfl (by omega) (by rfl)) <| Rp (pu_conv (z := ((M.length % 64 : Nat) : Int)) Tryz.underlying108 Tryz.underlying3 rfl (by rw [IntKind.wrap_i64]; omega)) <| Rp (pu_move rfl) <| Rp (pu_len Tryz.underlying22 rfl) <| Rp (pu_add (z := (((M.length % 64) + (z + 1) : Nat) : Int)) rfl rfl (by rw [IntKind.wrap_i64]; omega)) <| Rp (pu_add (z := ((((M.length % 64) + (z + 1)) + 8 : Nat) : Int)) rfl rfl (by rw [IntKind.wrap_i64]; omega)) <| Rp (pu_rem (z := (((((M.length % 64) + (z + 1)) + 8) % 64 : Nat) : Int)) rfl rfl (by omega) (by rfl)) <| Rp (pu_neq (p := ((((M.length % 64) + (z + 1)) + 8) % 64) = 0) rfl rfl (by omega)) <| R_nil <| X_then hK15 <| C_dec rfl (fun h34 => ?_) (fun h34 => ?_)
 ·
  refine C_skip <| X_then hK14 <| C_block <| C_region <| Rp (pu_move rfl) <| R_lo (lo_buildSlice (L := u8s ([0])) Tryz.underlying22 rfl (by kernel_rfl)) rfl ?_
  rintro _ w6 ⟨p8_1, rfl, N6⟩
  have k6 := N6.kp
  have kk6 := kk5.then_ k6
  have f_p8_1_6 := N6.bk
  have ob16 := (pd_5.1.keptNo k6)
  refine R_lo (lo_appFit (X := 128 :: List.replicate z 0) (Y := [0]) ob16 ob16.le.1 rfl rfl (show By 1 [0] from by_lit _ (by decide)).1 (Bs.ofBk f_p8_1_6 (show By 1 [0] from by_lit _ (by decide))) (by simp) (by simp; omega)) rfl ?_
  rintro _ w7 ⟨rfl, q7, k7⟩
  have kk7 := kk6.trans k7 (fun i hi => .inr (hi ▸ (Nat.le_trans kk2.size N3.le)))
  refine Rp (pu_assign rfl) <| R_nil <| X_in_normal ?_
  have f17 := ((f_pr_5.no k6).on k7 (Ne.symm ne_d_pr))
  have ob18 := ((c__5.1.keptNo k6).onN k7 H2 N3.le)
  refine X_round (64 - (z + 1)) [(2, .pointer (some ⟨pr, 0, none⟩)), (3, .pointer (some ⟨bc_, 0, none⟩)), (4, .int .u64 ((8 * M.length : Nat) : Int)), (5, .slice (some ⟨d, 0, none⟩) ((z + 1) + 1) (128))] (by omega) (Sub.cons rfl (Sub.cons rfl (Sub.cons rfl (Sub.consE rfl (by rw [pad_z]; simp) (Sub.nil _))))) ⟨z + 1, rfl, rfl, by omega, kk7, f17, ⟨(Ob.as q7 (pad_z _) (by simp)), (Nat.le_trans (Nat.le_trans pd_5.2 k6.size) k7.size)⟩, ⟨ob18, trivial⟩⟩
 ·
  refine C_exit <| X_then_exit (X_then_exit (X_in_eq ?_))
  refine X_then hK11 <| C_seq fun K19 hK19 => C_seq (fun K20 hK20 => ?_)
  have hz0 : z = (119 - M.length % 64) % 64 := by omega
  refine C_region <| Rp (pu_move rfl) <| R_nil <| X_then hK20 <| C_block <| C_loop (fun m_ l_ wr => ∃ i : Nat, (m_ = 8 - i) ∧ (l_ = [(2, .pointer (some ⟨pr, 0, none⟩)), (3, .pointer (some ⟨bc_, 0, none⟩)), (4, .int .u64 ((8 * M.length : Nat) : Int)), (5, .slice (some ⟨d, 0, none⟩) (z + 1 + i) (128)), (38, .int .i64 ((i : Nat) : Int))]) ∧ (i ≤ 8) ∧ (Kp No w wr) ∧ (Bk wr pr (u8s (List.replicate 32 0)) 56) ∧ (Ob wr w.heap.size (.slice (some ⟨d, 0, none⟩) (z + 1 + i) 128) ((128 :: List.replicate z 0) ++ (be8 (8 * M.length)).take i) ∧ w.heap.size ≤ (wr).heap.size) ∧ (Hs wr bc_ A_c_ c_c_ (M) ∧ True)) (8 - 0) [(2, .pointer (some ⟨pr, 0, none⟩)), (3, .pointer (some ⟨bc_, 0, none⟩)), (4, .int .u64 ((8 * M.length : Nat) : Int)), (5, .slice (some ⟨d, 0, none⟩) (z + 1 + 0) (128)), (38, .int .i64 0)] (Sub.cons rfl (Sub.cons rfl (Sub.cons rfl (Sub.cons rfl (Sub.cons rfl (Sub.nil _)))))) ⟨0, rfl, rfl, by omega, kk5, f_pr_5, ⟨(by rw [List.take_zero, List.append_nil]; exact pd_5.1), pd_5.2⟩, ⟨c__5.1, trivial⟩⟩ ?_
  rintro _ _ w8 ⟨i, rfl, rfl, hi, kk8, f_pr_8, pd_8, c__8⟩
  refine C_seq fun K21 hK21 => C_region <| Rp (pu_lss (p := i < 8) rfl rfl (by omega)) <| R_nil <| X_then hK21 <| C_seq fun K22 hK22 => C_dec rfl (fun h39 => ?_) (fun h39 => ?_)
  ·
   refine C_skip <| X_then hK22 <| C_seq fun K23 hK23 => C_block <| C_seq fun K24 hK24 => C_region <| Rp (pu_move rfl) <| Rp (pu_assign rfl) <| R_nil <| X_then hK24 <| C_region <| Rp (pu_move rfl) <| Rp (pu_move rfl) <| Rp (pu_move rfl) <| Rp (pu_sub (z := ((7 - i : Nat) : Int)) rfl rfl (by rw [IntKind.wrap_i64]; omega)) <| Rp (pu_mul (z := ((8 * (7 - i) : Nat) : Int)) rfl rfl (by rw [IntKind.wrap_i64]; omega)) <| Rp (pu_shr (m := 8 * (7 - i)) rfl rfl (shr_nat (8 * M.length) (8 * (7 - i)) (by simp only [IntKind.bits]; omega))) <| Rp (pu_conv (z := ((((8 * M.length) / 2 ^ (8 * (7 - i))) % 256 : Nat) : Int)) Tryz.underlying108 Tryz.underlying5 rfl (by have : (8 * M.length) / 2 ^ (8 * (7 - i)) < 18446744073709551616 := (show (8 * M.length) / 2 ^ (8 * (7 - i)) < 2 ^ 64 from Nat.lt_of_le_of_lt (Nat.div_le_self _ _) (by omega)); rw [IntKind.wrap_u8]; omega)) ?_
   refine R_lo (lo_buildSlice (L := u8s ([((8 * M.length) / 2 ^ (8 * (7 - i))) % 256])) Tryz.underlying22 rfl (by kernel_rfl)) rfl ?_
   rintro _ w9 ⟨p12_7, rfl, N9⟩
   have k9 := N9.kp
   have kk9 := kk8.then_ k9
   have f_p12_7_9 := N9.bk
   have ob25 := (pd_8.1.keptNo k9)
   refine R_lo (lo_appFit (X := (128 :: List.replicate z 0) ++ (be8 (8 * M.length)).take i) (Y := [((8 * M.length) / 2 ^ (8 * (7 - i))) % 256]) ob25 ob25.le.1 rfl rfl (show By 1 [((8 * M.length) / 2 ^ (8 * (7 - i))) % 256] from ⟨rfl, fun n hn => by rw [List.mem_singleton.1 hn]; exact (Nat.mod_lt _ (by decide))⟩).1 (Bs.ofBk f_p12_7_9 (show By 1 [((8 * M.length) / 2 ^ (8 * (7 - i))) % 256] from ⟨rfl, fun n hn => by rw [List.mem_singleton.1 hn]; exact (Nat.mod_lt _ (by decide))⟩)) (by simp) (by simp [be8_len]; omega)) rfl ?_
   rintro _ w10 ⟨rfl, q10, k10⟩
   have kk10 := kk9.trans k10 (fun i hi => .inr (hi ▸ (Nat.le_trans kk2.size N3.le)))
   refine Rp (pu_assign rfl) <| R_nil <| X_in_normal <| X_then hK23 <| C_region <| Rp (pu_add (z := ((i + 1 : Nat) : Int)) rfl rfl (by rw [IntKind.wrap_i64]; omega)) <| Rp (pu_move rfl) <| R_nil ?_
   have f26 := ((f_pr_8.no k9).on k10 (Ne.symm ne_d_pr))
   have ob27 := ((c__8.1.keptNo k9).onN k10 H2 N3.le)
   refine X_round (8 - (i + 1)) [(2, .pointer (some ⟨pr, 0, none⟩)), (3, .pointer (some ⟨bc_, 0, none⟩)), (4, .int .u64 ((8 * M.length : Nat) : Int)), (5, .slice (some ⟨d, 0, none⟩) (z + 1 + (i + 1)) (128)), (38, .int .i64 (((i + 1) : Nat) : Int))] (by omega) (Sub.cons rfl (Sub.cons rfl (Sub.cons rfl (Sub.consE rfl (by congr 1; simp [be8_len]; omega) (Sub.cons rfl (Sub.nil _)))))) ⟨i + 1, rfl, rfl, by omega, kk10, f26, ⟨(Ob.as q10 (by rw [List.append_assoc, be8_step (by omega) rfl]) (by simp [be8_len]; omega)), (Nat.le_trans (Nat.le_trans pd_8.2 k9.size) k10.size)⟩, ⟨ob27, trivial⟩⟩
  ·
   refine C_exit <| X_then_exit (X_then_exit (X_in_eq ?_))
   refine X_then hK19 <| C_seq fun K28 hK28 => C_region <| Rp (pu_move rfl) <| Rp (pu_move rfl) ?_
   have hX := pad_end (n := M.length) (i := i) hz0 (by omega)
   refine R_lo (lo_callE (by kernel_rfl) rfl (by rw [pd_8.1.le.1] <;> rfl) (sha_write bc_ A_c_ c_c_ M (some ⟨d, 0, none⟩) ((128 :: List.replicate z 0) ++ (be8 (8 * M.length)).take i) 128 _ c__8.1 pd_8.1.bs pd_8.1.le.2 (by rw [hX]; have := (padL_len M.length).2; omega) (Hs.aw H2 N3.le))) rfl ?_
   rintro _ w11 ⟨rfl, A_c_11, c_c_11, H11, I11, k11⟩
   have kk11 := kk8.trans k11 (fun i hi => .inr ((fun i hi => Nat.le_trans kk1.size (L2 i hi)) i hi))
   rw [hX] at H11
   refine R_nil <| X_then hK28 <| C_seq fun K29 hK29 => C_region ?_
   have f30 := (f_pr_8.kept k11 (fun e => absurd f_pr_1.lt (Nat.not_lt.2 (L2 _ e))))
   refine R_lo (lo_alloc (L := u8s (List.replicate 32 0)) (by kernel_rfl)) rfl ?_
   rintro _ w12 ⟨o, rfl, N12⟩
   have k12 := N12.kp
   have kk12 := kk11.then_ k12
   have ne_o_pr := Nat.ne_of_gt (Nat.lt_of_lt_of_le f30.lt N12.le)
   have f_o_12 := N12.bk
   refine R_nil <| X_then hK29 <| C_seq fun K31 hK31 => C_seq fun K32 hK32 => C_region <| Rp (pu_move rfl) <| Rp (pu_nilCheck rfl) <| Rp (pu_fieldAddr (off := 0) (o' := 0) (by kernel_rfl) rfl rfl) ?_
   have ob33 := (H11.keptNo k12)
   refine Rp (pu_loadMid (len := 8) (C := u32s (HB (M ++ padL M.length))) ob33.bk (by kernel_rfl) (by kernel_rfl) rfl (hL_row (HB_wd (M ++ padL M.length)).1) (by rw [u32s_length]; exact (HB_wd (M ++ padL M.length)).1)) ?_
   refine Rp (pu_move rfl) <| R_nil <| X_then hK32 <| C_block ?_
   have f34 := (f30.no k12)
   refine C_loop (fun m_ l_ wr => ∃ e : Nat, (m_ = 8 - e) ∧ (l_ = [(2, .pointer (some ⟨pr, 0, none⟩)), (7, .pointer (some ⟨o, 0, none⟩)), (57, .agg (u32s (HB (M ++ padL M.length)) : List Value).toArray), (58, .int .i64 ((e : Nat) : Int))]) ∧ (e ≤ 8) ∧ (Kp No w wr) ∧ (Bk wr pr (u8s (List.replicate 32 0)) 56) ∧ (Bk wr o (u8s (upto (wby (HB (M ++ padL M.length))) (fun _ => 0) (4 * e) 32)) 56)) (8 - 0) [(2, .pointer (some ⟨pr, 0, none⟩)), (7, .pointer (some ⟨o, 0, none⟩)), (57, .agg (u32s (HB (M ++ padL M.length)) : List Value).toArray), (58, .int .i64 0)] (Sub.cons rfl (Sub.cons rfl (Sub.cons rfl (Sub.cons rfl (Sub.nil _))))) ⟨0, rfl, rfl, by omega, kk12, f34, Bk.eq f_o_12 (congrArg u8s (rep_upto _ _))⟩ ?_
   rintro _ _ w13 ⟨e, rfl, rfl, he, kk13, f_pr_13, f_o_13⟩
   refine C_seq fun K35 hK35 => C_region <| Rp (pu_lss (p := e < 8) rfl rfl (by omega)) <| R_nil <| X_then hK35 <| C_seq fun K36 hK36 => C_dec rfl (fun h59 => ?_) (fun h59 => ?_)
   ·
    refine C_skip <| X_then hK36 <| C_seq fun K37 hK37 => C_block <| C_seq fun K38 hK38 => C_region <| Rp (pu_move rfl) <| Rp (pu_index (m := e) Tryz.underlying203 (by kernel_rfl) (by kernel_rfl) rfl rfl rfl (by omega) (u32s_get (Wd.get (HB_wd (M ++ padL M.length)) (by omega)))) <| Rp (pu_assign rfl) <| Rp (pu_assign rfl) <| R_nil <| X_then hK38 <| C_region <| Rp (pu_move rfl) <| Rp (pu_mul (z := ((4 * e : Nat) : Int)) rfl rfl (by rw [IntKind.wrap_i64]; omega)) <| Rp (pu_move rfl) <| Rp (pu_mul (z := ((4 * e : Nat) : Int)) rfl rfl (by rw [IntKind.wrap_i64]; omega)) <| Rp (pu_add (z := (((4 * e) + 1 : Nat) : Int)) rfl rfl (by rw [IntKind.wrap_i64]; omega)) <| Rp (pu_move rfl) <| Rp (pu_mul (z := ((4 * e : Nat) : Int)) rfl rfl (by rw [IntKind.wrap_i64]; omega)) <| Rp (pu_add (z := (((4 * e) + 2 : Nat) : Int)) rfl rfl (by rw [IntKind.wrap_i64]; omega)) <| Rp (pu_move rfl) <| Rp (pu_mul (z := ((4 * e : Nat) : Int)) rfl rfl (by rw [IntKind.wrap_i64]; omega)) <| Rp (pu_add (z := (((4 * e) + 3 : Nat) : Int)) rfl rfl (by rw [IntKind.wrap_i64]; omega)) <| Rp (pu_move rfl) <| Rp (pu_shrc (m := 24) (c := 16777216) rfl rfl (by decide) (fdiv_nat ((HB (M ++ padL M.length)).getD e 0) 16777216)) <| Rp (pu_conv (z := (((((HB (M ++ padL M.length)).getD e 0) / 16777216) % 256 : Nat) : Int)) Tryz.underlying32 Tryz.underlying5 rfl (by have : ((HB (M ++ padL M.length)).getD e 0) / 16777216 < 4294967296 := (show ((HB (M ++ padL M.length)).getD e 0) / 16777216 < 2 ^ 32 from Nat.lt_of_le_of_lt (Nat.div_le_self _ _) (Wd.lt (HB_wd (M ++ padL M.length)) _)); rw [IntKind.wrap_u8]; omega)) ?_
    refine Rp (pu_move rfl) <| Rp (pu_shrc (m := 16) (c := 65536) rfl rfl (by decide) (fdiv_nat ((HB (M ++ padL M.length)).getD e 0) 65536)) <| Rp (pu_conv (z := (((((HB (M ++ padL M.length)).getD e 0) / 65536) % 256 : Nat) : Int)) Tryz.underlying32 Tryz.underlying5 rfl (by have : ((HB (M ++ padL M.length)).getD e 0) / 65536 < 4294967296 := (show ((HB (M ++ padL M.length)).getD e 0) / 65536 < 2 ^ 32 from Nat.lt_of_le_of_lt (Nat.div_le_self _ _) (Wd.lt (HB_wd (M ++ padL M.length)) _)); rw [IntKind.wrap_u8]; omega)) ?_
    refine Rp (pu_move rfl) <| Rp (pu_shrc (m := 8) (c := 256) rfl rfl (by decide) (fdiv_nat ((HB (M ++ padL M.length)).getD e 0) 256)) <| Rp (pu_conv (z := (((((HB (M ++ padL M.length)).getD e 0) / 256) % 256 : Nat) : Int)) Tryz.underlying32 Tryz.underlying5 rfl (by have : ((HB (M ++ padL M.length)).getD e 0) / 256 < 4294967296 := (show ((HB (M ++ padL M.length)).getD e 0) / 256 < 2 ^ 32 from Nat.lt_of_le_of_lt (Nat.div_le_self _ _) (Wd.lt (HB_wd (M ++ padL M.length)) _)); rw [IntKind.wrap_u8]; omega)) ?_
    refine Rp (pu_move rfl) <| Rp (pu_conv (z := ((((HB (M ++ padL M.length)).getD e 0) % 256 : Nat) : Int)) Tryz.underlying32 Tryz.underlying5 rfl (by have : (HB (M ++ padL M.length)).getD e 0 < 4294967296 := (Wd.lt (HB_wd (M ++ padL M.length)) _); rw [IntKind.wrap_u8]; omega)) ?_
    refine Rp (pu_indexAddrA (m := 4 * e) (s := 1) (o' := 4 * e) Tryz.underlying56 (by kernel_rfl) rfl rfl rfl (by omega) (by omega)) <| R_lo0 (lo_store f_o_13 (by kernel_rfl) rfl rfl rfl (by rw [u8s_length, (wbyU _ _).1]; omega)) ?_
    rintro _ w14 kf14
    obtain ⟨k14, f_o_14⟩ := kf14
    replace f_o_14 := Bk.eq f_o_14 (u8s_set _ _ ((((HB (M ++ padL M.length)).getD e 0) / 16777216) % 256))
    replace f_o_14 : Bk w14 o (u8s ((upto (wby (HB (M ++ padL M.length))) (fun _ => 0) (4 * e) 32).set (4 * e) ((((HB (M ++ padL M.length)).getD e 0) / 16777216) % 256))) 56 := f_o_14
    have kk14 := kk13.trans k14 (fun i hi => .inr (hi ▸ (Nat.le_trans kk11.size N12.le)))
    refine Rp (pu_indexAddrA (m := (4 * e) + 1) (s := 1) (o' := (4 * e) + 1) Tryz.underlying56 (by kernel_rfl) rfl rfl rfl (by omega) (by omega)) <| R_lo0 (lo_store f_o_14 (by kernel_rfl) rfl rfl rfl (by rw [u8s_length, (by_set (wbyU _ _) (Nat.mod_lt _ (by decide))).1]; omega)) ?_
    rintro _ w15 kf15
    obtain ⟨k15, f_o_15⟩ := kf15
    replace f_o_15 := Bk.eq f_o_15 (u8s_set _ _ ((((HB (M ++ padL M.length)).getD e 0) / 65536) % 256))
    replace f_o_15 : Bk w15 o (u8s (((upto (wby (HB (M ++ padL M.length))) (fun _ => 0) (4 * e) 32).set (4 * e) ((((HB (M ++ padL M.length)).getD e 0) / 16777216) % 256)).set ((4 * e) + 1) ((((HB (M ++ padL M.length)).getD e 0) / 65536) % 256))) 56 := f_o_15
    have kk15 := kk14.trans k15 (fun i hi => .inr (hi ▸ (Nat.le_trans kk11.size N12.le)))
    refine Rp (pu_indexAddrA (m := (4 * e) + 2) (s := 1) (o' := (4 * e) + 2) Tryz.underlying56 (by kernel_rfl) rfl rfl rfl (by omega) (by omega)) <| R_lo0 (lo_store f_o_15 (by kernel_rfl) rfl rfl rfl (by rw [u8s_length, (by_set (by_set (wbyU _ _) (Nat.mod_lt _ (by decide))) (Nat.mod_lt _ (by decide))).1]; omega)) ?_
    rintro _ w16 kf16
    obtain ⟨k16, f_o_16⟩ := kf16
    replace f_o_16 := Bk.eq f_o_16 (u8s_set _ _ ((((HB (M ++ padL M.length)).getD e 0) / 256) % 256))
    replace f_o_16 : Bk w16 o (u8s ((((upto (wby (HB (M ++ padL M.length))) (fun _ => 0) (4 * e) 32).set (4 * e) ((((HB (M ++ padL M.length)).getD e 0) / 16777216) % 256)).set ((4 * e) + 1) ((((HB (M ++ padL M.length)).getD e 0) / 65536) % 256)).set ((4 * e) + 2) ((((HB (M ++ padL M.length)).getD e 0) / 256) % 256))) 56 := f_o_16
    have kk16 := kk15.trans k16 (fun i hi => .inr (hi ▸ (Nat.le_trans kk11.size N12.le)))
    refine Rp (pu_indexAddrA (m := (4 * e) + 3) (s := 1) (o' := (4 * e) + 3) Tryz.underlying56 (by kernel_rfl) rfl rfl rfl (by omega) (by omega)) <| R_lo0 (lo_store f_o_16 (by kernel_rfl) rfl rfl rfl (by rw [u8s_length, (by_set (by_set (by_set (wbyU _ _) (Nat.mod_lt _ (by decide))) (Nat.mod_lt _ (by decide))) (Nat.mod_lt _ (by decide))).1]; omega)) ?_
    rintro _ w17 kf17
    obtain ⟨k17, f_o_17⟩ := kf17
    replace f_o_17 := Bk.eq f_o_17 (u8s_set _ _ (((HB (M ++ padL M.length)).getD e 0) % 256))
    replace f_o_17 : Bk w17 o (u8s (((((upto (wby (HB (M ++ padL M.length))) (fun _ => 0) (4 * e) 32).set (4 * e) ((((HB (M ++ padL M.length)).getD e 0) / 16777216) % 256)).set ((4 * e) + 1) ((((HB (M ++ padL M.length)).getD e 0) / 65536) % 256)).set ((4 * e) + 2) ((((HB (M ++ padL M.length)).getD e 0) / 256) % 256)).set ((4 * e) + 3) (((HB (M ++ padL M.length)).getD e 0) % 256))) 56 := f_o_17
    have kk17 := kk16.trans k17 (fun i hi => .inr (hi ▸ (Nat.le_trans kk11.size N12.le)))
    refine R_nil <| X_in_normal <| X_then hK37 <| C_region <| Rp (pu_add (z := ((e + 1 : Nat) : Int)) rfl rfl (by rw [IntKind.wrap_i64]; omega)) <| Rp (pu_move rfl) <| R_nil ?_
    have f39 := ((((f_pr_13.on k14 (Ne.symm ne_o_pr)).on k15 (Ne.symm ne_o_pr)).on k16 (Ne.symm ne_o_pr)).on k17 (Ne.symm ne_o_pr))
    refine X_round (8 - (e + 1)) [(2, .pointer (some ⟨pr, 0, none⟩)), (7, .pointer (some ⟨o, 0, none⟩)), (57, .agg (u32s (HB (M ++ padL M.length)) : List Value).toArray), (58, .int .i64 (((e + 1) : Nat) : Int))] (by omega) (Sub.cons rfl (Sub.cons rfl (Sub.cons rfl (Sub.cons rfl (Sub.nil _))))) ⟨e + 1, rfl, rfl, by omega, kk17, f39, Bk.eq f_o_17 (congrArg u8s (upto_wby (HB_wd _) rfl rfl rfl rfl))⟩
   ·
    refine C_exit <| X_then_exit (X_then_exit (X_in_eq ?_))
    refine X_then hK31 <| C_seq (fun K40 hK40 => ?_)
    have fE : Bk w13 o (u8s (shaB M)) 56 := Bk.eq f_o_13 (congrArg u8s (by rw [show e = 8 by omega]; exact upto_all _ _ (Nat.le_refl _)))
    refine C_region <| Rp (pu_loadRow (len := 32) fE (by kernel_rfl) (by kernel_rfl) (by rw [u8s_length]; exact (shaB_by M).1) rfl) <| R_lo0 (lo_storeRow (C := u8s (shaB M)) f_pr_13 (by rw [u8s_length, (shaB_by M).1]; kernel_rfl) rfl rfl (u8s_each _) ((u8s_length _).trans ((shaB_by M).1.trans ((rep_by 32).1.symm.trans (u8s_length _).symm)))) ?_
    rintro _ w18 kf18
    obtain ⟨k18, f_pr_18⟩ := kf18
    replace f_pr_18 : Bk w18 pr (u8s (shaB M)) 56 := f_pr_18
    have kk18 := kk13.trans k18 (fun i hi => .inr (hi ▸ (Nat.le_trans kk0.size N1.le)))
    exact R_nil <| X_then hK40 <| C_ret <| X_retRow (len := 32) (.inl rfl) rfl rfl f_pr_18 (by kernel_rfl) (by kernel_rfl) (by rw [u8s_length]; exact (shaB_by M).1) ⟨rfl, kk18⟩
end Go.Proofs.YtlkbkgghfhoggaaGreatDoor
