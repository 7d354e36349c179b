/- Walks of keyring.Rotate, ceremony.Rotate, and of what does not open. -/
import Derived.Test.YtlkbkgghfhoggaaGreatDoorCg
import Derived.Test.YtlkbkgghfhoggaaGreatDoorVc
set_option linter.unusedVariables false
set_option linter.unusedSimpArgs false
set_option maxHeartbeats 2000000
set_option maxRecDepth 100000
namespace Go.Proofs.YtlkbkgghfhoggaaGreatDoor
open Go.RowKit Gm
theorem clone_shares (A : Option Addr) (L : List Shr) (c : Nat) (w : World) (HS : Ss w A L) (hp : (0 < L.length ∧ L.length ≤ 255) ∧ ∀ s ∈ L, 0 < s.X.length) : Ret Tryz.prog 44 #[.slice A (L.length) (c)] w (fun v w' => ∃ A' c', v = .slice A' L.length c' ∧ Sw 51 0 w' w.heap.size (.slice A' L.length c') L ∧ Kp No w w') := by
 obtain ⟨⟨hp1, hp2⟩, hx0⟩ := hp; have hA := some_ofS HS hp1
 have kk0 := Kp.refl No w
 refine enter (n := 8) [.slice A (L.length) (c)] Tryz.func44 rfl rfl rfl ?_
 show Cw _ _ _ _ [(0, .slice A (L.length) (c))] _
 refine C_seq fun K1 hK1 => C_region <| Rp (pu_assign rfl) <| R_nil <| X_then hK1 <| C_seq fun K2 hK2 => C_seq fun K3 hK3 => C_region <| Rp (pu_move rfl) <| Rp (pu_eqlsn Tryz.underlying37 rfl hA) <| R_nil <| X_then hK3 <| C_false rfl <| C_skip <| X_then hK2 <| C_seq fun K4 hK4 => C_region <| R_lo (lo_buildSlice0 (sz := 3) Tryz.underlying37 (by kernel_rfl)) rfl ?_
 rintro _ w1 ⟨e0, rfl, N1⟩
 have k1 := N1.kp
 have kk1 := kk0.then_ k1
 have f_e0_1 := N1.bk
 refine Rp (pu_move rfl) ?_
 have sw5 : Sw 51 0 w1 w.heap.size (.slice (some ⟨e0, 0, none⟩) ([] : List Shr).length 0) [] := Sw.ofEmpty f_e0_1 N1.le
 have z6 := N1.kp.size
 refine R_lo (lo_apps (L := ([] : List Shr)) (M := L) Tryz.underlying37 (by kernel_rfl) sw5 sw5.le.1 rfl rfl rfl (HS.keptNo kk1) (fun s hs x hx => by have h1 := Bs.alive (HS.ok s hs).bs (hx0 s hs) x hx; have h2 := N1.le; have h3 := N1.kp.size; exact ⟨Nat.zero_le _, by omega, fun e => by have : e0 = x.block := Option.some.inj e; omega⟩) (by omega) (by simp only [List.length_nil]; omega) z6) rfl ?_
 rintro _ w2 ⟨A_2, c_2, rfl, p2⟩
 have k2 := p2.kp
 have kk2 := kk1.trans k2 (fun i hi => .inr (Nat.le_trans (kk0).size hi))
 exact Rp (pu_assign rfl) <| R_nil <| X_then hK4 <| C_ret <| X_ret1 (.inl rfl) rfl rfl ⟨_, _, rfl, (p2.ob).lowb (by first | exact Nat.le_refl _ | exact (kk0).size), kk2⟩
theorem clone_terms (A : Option Addr) (L : List Tm) (c : Nat) (w : World) (HT : Rs tmC 33 w A L) (hok : ∀ t ∈ L, okT t) (hc : L.length ≤ c) (hp : 0 < L.length ∧ L.length ≤ 16) : Ret Tryz.prog 43 #[.slice A (L.length) (c)] w (fun v w' => ∃ A' c', v = .slice A' L.length c' ∧ Ro tmC 33 58 w' w.heap.size (.slice A' L.length c') L ∧ Kp No w w') := by
 have hA := some_ofR HT hp.1
 have kk0 := Kp.refl No w
 refine enter (n := 8) [.slice A (L.length) (c)] Tryz.func43 rfl rfl rfl ?_
 show Cw _ _ _ _ [(0, .slice A (L.length) (c))] _
 refine C_seq fun K1 hK1 => C_region <| Rp (pu_assign rfl) <| R_nil <| X_then hK1 <| C_seq fun K2 hK2 => C_seq fun K3 hK3 => C_region <| Rp (pu_move rfl) <| Rp (pu_eqlsn Tryz.underlying44 rfl hA) <| R_nil <| X_then hK3 <| C_false rfl <| C_skip <| X_then hK2 <| C_seq fun K4 hK4 => C_region <| R_lo (lo_buildSlice0 (sz := 33) Tryz.underlying44 (by kernel_rfl)) rfl ?_
 rintro _ w1 ⟨e0, rfl, N1⟩
 have k1 := N1.kp
 have kk1 := kk0.then_ k1
 have f_e0_1 := N1.bk
 refine Rp (pu_move rfl) ?_
 have ro5 : Ro tmC 33 58 w1 w.heap.size (.slice (some ⟨e0, 0, none⟩) ([] : List Tm).length 0) [] := Ro.ofEmpty f_e0_1 N1.le
 have z6 := N1.kp.size
 refine R_lo (lo_appR (f := tmC) (z := zTm) (bytes := 36) Tryz.underlying44 (by kernel_rfl) rfl (by decide) ro5 ro5.le.1 rfl rfl rfl (HT.keptNo kk1) (fun s _ u hu => tm_one s u hu) hp.1 (by simp only [List.length_nil]; omega) (by simp only [List.length_nil]; omega) z6) rfl ?_
 rintro _ w2 ⟨A_2, c_2, rfl, p2⟩
 have k2 := p2.kp ro5
 have kk2 := kk1.trans k2 (fun i hi => .inr (Nat.le_trans (kk0).size hi))
 exact Rp (pu_assign rfl) <| R_nil <| X_then hK4 <| C_ret <| X_ret1 (.inl rfl) rfl rfl ⟨_, _, rfl, p2.ob.low (by first | exact Nat.le_refl _ | exact (kk0).size), kk2⟩
theorem ring_rotate (A : Option Addr) (L : List Tm) (c : Nat) (Y : List Nat) (bY : By 32 Y) (w : World) (HT : Rs tmC 33 w A L) (hok : ∀ t ∈ L, okT t) (hc : L.length ≤ c) (hM : mayR L) (hl : L.length < 16) : Ret Tryz.prog 26 #[.agg ([.slice A (L.length) (c)] : List Value).toArray, .agg (u8s Y : List Value).toArray] w (fun v w' => ∃ A' c', v = .tuple #[.agg ([.slice A' (L ++ [(L.length + 1, Y)]).length c'] : List Value).toArray, .nilIface] ∧ Ro tmC 33 58 w' w.heap.size (.slice A' (L ++ [(L.length + 1, Y)]).length c') (L ++ [(L.length + 1, Y)]) ∧ Kp No w w') := by
 have hm1 := hM.1
 have kk0 := Kp.refl No w
 refine enter (n := 32) [.agg ([.slice A (L.length) (c)] : List Value).toArray, .agg (u8s Y : List Value).toArray] Tryz.func26 rfl rfl rfl ?_
 show Cw _ _ _ _ [(0, .agg ([.slice A (L.length) (c)] : List Value).toArray), (1, .agg (u8s Y : List Value).toArray)] _
 refine C_seq fun K1 hK1 => C_region <| R_lo (lo_box (L := [.slice A (L.length) (c)]) rfl rfl) rfl ?_
 rintro _ w1 ⟨pb, rfl, N1⟩
 have k1 := N1.kp
 have kk1 := kk0.then_ k1
 have f_pb_1 := N1.bk
 refine R_lo (lo_box (L := u8s Y) rfl rfl) rfl ?_
 rintro _ w2 ⟨pk, rfl, N2⟩
 have k2 := N2.kp
 have kk2 := kk1.then_ k2
 have f_pk_2 := N2.bk
 have f2 := (f_pb_1.no k2)
 refine R_lo (lo_alloc (L := [.slice none (0) (0)]) (by kernel_rfl)) rfl ?_
 rintro _ w3 ⟨pr, rfl, N3⟩
 have k3 := N3.kp
 have kk3 := kk2.then_ k3
 have ne_pr_pb := Nat.ne_of_gt (Nat.lt_of_lt_of_le f2.lt N3.le)
 have ne_pr_pk := Nat.ne_of_gt (Nat.lt_of_lt_of_le f_pk_2.lt N3.le)
 have f_pr_3 := N3.bk
 refine Rp (pu_assign rfl) <| R_nil <| X_then hK1 <| C_seq fun K3 hK3 => C_block <| C_seq fun K4 hK4 => C_region ?_
 have f5 := (f2.no k3)
 refine Rp (pu_loadRow (len := 1) f5 (by kernel_rfl) (by kernel_rfl) rfl rfl) <| R_lo (lo_call (by kernel_rfl) rfl (ring_check_ok A L c _ (HT.keptNo kk3) hok hc hM)) rfl ?_
 rintro _ w4 ⟨rfl, k4⟩
 have kk4 := kk3.then_ k4
 refine Rp (pu_neqnn (by kernel_rfl) rfl) <| Rp (pu_assign rfl) <| R_nil <| X_then hK4 <| C_false rfl <| C_seq fun K6 hK6 => C_region <| Rp (pu_fieldAddr (off := 0) (o' := 0) (by kernel_rfl) rfl rfl) ?_
 have f7 := (f5.no k4)
 refine Rp (pu_loadK f7 (by kernel_rfl) rfl rfl) <| Rp (pu_len Tryz.underlying44 rfl) <| Rp (pu_eql (p := L.length = 16) rfl rfl (by omega)) <| Rp (pu_assign rfl) <| R_nil <| X_then hK6 <| C_decf rfl (by omega) <| C_skip <| X_in_normal <| X_then hK3 <| C_seq (fun K8 hK8 => ?_)
 have f9 := ((f_pk_2.no k3).no k4)
 refine D_begin (fun W => Kp No w W ∧ Bk W pb ([.slice A (L.length) (c)]) 46 ∧ Bk W pk (u8s Y) 56) 15 rfl (by kernel_rfl) ⟨kk4.drew, f7.draw, f9.draw⟩ ?_
 intro w5 k5 _
 have kk5 := kk4.then_ k5
 refine Dt 0 rfl (fun W hS => pu_fieldAddr (off := 0) (o' := 0) (by kernel_rfl) rfl rfl) <| Dt 1 rfl (fun W hS => pu_loadK hS.2.1 (by kernel_rfl) rfl rfl) <| Dt 3 rfl (fun W hS => pu_fieldAddr (off := 0) (o' := 0) (by kernel_rfl) rfl rfl) <| Dt 4 rfl (fun W hS => pu_loadK hS.2.1 (by kernel_rfl) rfl rfl) <| Dt 5 rfl (fun W hS => pu_len Tryz.underlying44 rfl) <| Dt 6 rfl (fun W hS => pu_add (z := ((L.length + 1 : Nat) : Int)) rfl rfl (by rw [IntKind.wrap_i64]; omega)) <| Dt 7 rfl (fun W hS => pu_conv (z := ((L.length + 1 : Nat) : Int)) Tryz.underlying3 Tryz.underlying32 rfl (by rw [IntKind.wrap_u32]; omega)) <| Dt 8 rfl (fun W hS => pu_loadRow (len := 32) hS.2.2 (by kernel_rfl) (by kernel_rfl) (by rw [u8s_length]; exact bY.1) rfl) <| Dt 9 rfl (fun W hS => pu_build (L := tmC (L.length + 1, Y)) rfl (built_numrow (n := 32) (by kernel_rfl) rfl (by rw [u8s_length]; exact bY.1))) <| D_two 2 10 (by kernel_rfl) ?_ ?_
 ·
  have f10 : Bk w5 pb ([.slice A (L.length) (c)]) 46 := (f7.no k5)
  have f11 := (f9.no k5)
  have f12 := ((f_pr_3.no k4).no k5)
  refine Nx_lo rfl (lo_call (by kernel_rfl) rfl (clone_terms A L c _ (HT.keptNo kk5) hok hc ⟨by omega, by omega⟩)) rfl ?_
  rintro _ w6 ⟨A_cl, c_cl, rfl, Q6, k6⟩
  have kk6 := kk5.then_ k6
  have z13 := k6.size
  have f14 := (f10.no k6)
  have f15 := (f11.no k6)
  refine ⟨⟨kk6, f14, f15⟩, ?_⟩
  have f16 := (f12.no k6)
  refine D_one 10 (by kernel_rfl) (Nx_lo rfl (lo_buildSlice (L := tmC (L.length + 1, Y)) Tryz.underlying44 rfl (lit_one (by kernel_rfl) (tm_len (t := (L.length + 1, Y)) bY))) rfl ?_)
  rintro _ w7 ⟨q, rfl, N7⟩
  have k7 := N7.kp
  have kk7 := kk6.then_ k7
  have ne_q_pb := Nat.ne_of_gt (Nat.lt_of_lt_of_le f14.lt N7.le)
  have ne_q_pk := Nat.ne_of_gt (Nat.lt_of_lt_of_le f15.lt N7.le)
  have ne_q_pr := Nat.ne_of_gt (Nat.lt_of_lt_of_le f16.lt N7.le)
  have f_q_7 := N7.bk
  have f17 := (f14.no k7)
  have f18 := (f15.no k7)
  refine ⟨⟨kk7, f17, f18⟩, ?_⟩
  have ob19 := (Q6.keptNo k7)
  refine D_one 11 (by kernel_rfl) (Nx_lo rfl (lo_appR (f := tmC) (z := zTm) (bytes := 36) Tryz.underlying44 (by kernel_rfl) rfl (by decide) ob19 ob19.le.1 rfl rfl rfl (Rs.oneT f_q_7 (t := (L.length + 1, Y)) bY) one_all (Nat.succ_pos _) (by simp only [List.length_singleton]; omega) (by simp only [List.length_singleton]; omega) (Nat.le_trans z13 k7.size)) rfl ?_)
  rintro _ w8 ⟨A_8, c_8, rfl, p8⟩
  have k8 := p8.kp ob19
  have kk8 := kk7.trans k8 (fun i hi => .inr (Nat.le_trans (kk5).size hi))
  have f20 : Bk w8 pb ([.slice A (L.length) (c)]) 46 := (f17.kept k8 (by have := f10.lt; omega))
  have f21 : Bk w8 pk (u8s Y) 56 := (f18.kept k8 (by have := f11.lt; omega))
  refine ⟨⟨kk8, f20, f21⟩, ?_⟩
  refine Dt 12 rfl (fun W hS => pu_build (L := [.slice A_8 ((L ++ [(L.length + 1, Y)]).length) (c_8)]) rfl (by kernel_rfl)) ?_
  have f22 : Bk w8 pr ([.slice none (0) (0)]) 46 := ((f16.no k7).kept k8 (by have := f12.lt; omega))
  refine D_one 13 (by kernel_rfl) (Nx_lo0 rfl (lo_storeRow (C := [.slice A_8 ((L ++ [(L.length + 1, Y)]).length) (c_8)]) f22 (by kernel_rfl) rfl rfl (by intro u hu; simp at hu; rcases hu with rfl <;> rfl) rfl) ?_)
  rintro _ w9 kf9
  obtain ⟨k9, f_pr_9⟩ := kf9
  replace f_pr_9 : Bk w9 pr ([.slice A_8 ((L ++ [(L.length + 1, Y)]).length) (c_8)]) 46 := f_pr_9
  have kk9 := kk8.trans k9 (fun i hi => .inr (hi ▸ (Nat.le_trans kk2.size N3.le)))
  have f23 := (f20.on k9 (Ne.symm ne_pr_pb))
  have f24 := (f21.on k9 (Ne.symm ne_pr_pk))
  refine ⟨⟨kk9, f23, f24⟩, ?_⟩
  refine Dt 14 rfl (fun W hS => pu_assign rfl) <| D_done (by kernel_rfl) <| X_then hK8 <| C_ret ?_
  have ob25 := (p8.ob.on k9 (by have := f12.lt; omega))
  exact X_retCT (len := 1) (.inl rfl) rfl rfl f_pr_9 (by kernel_rfl) (by kernel_rfl) rfl rfl ⟨_, _, rfl, ob25.low ((kk5).size), kk9⟩
 ·
  have f26 : Bk w5 pb ([.slice A (L.length) (c)]) 46 := (f7.no k5)
  have f27 := (f9.no k5)
  have f28 := ((f_pr_3.no k4).no k5)
  refine Nx_lo rfl (lo_buildSlice (L := tmC (L.length + 1, Y)) Tryz.underlying44 rfl (lit_one (by kernel_rfl) (tm_len (t := (L.length + 1, Y)) bY))) rfl ?_
  rintro _ w10 ⟨q, rfl, N10⟩
  have k10 := N10.kp
  have kk10 := kk5.then_ k10
  have ne_q_pb := Nat.ne_of_gt (Nat.lt_of_lt_of_le f26.lt N10.le)
  have ne_q_pk := Nat.ne_of_gt (Nat.lt_of_lt_of_le f27.lt N10.le)
  have ne_q_pr := Nat.ne_of_gt (Nat.lt_of_lt_of_le f28.lt N10.le)
  have f_q_10 := N10.bk
  have f29 := (f26.no k10)
  have f30 := (f27.no k10)
  refine ⟨⟨kk10, f29, f30⟩, ?_⟩
  have f31 := (f28.no k10)
  refine D_one 2 (by kernel_rfl) (Nx_lo rfl (lo_call (by kernel_rfl) rfl (clone_terms A L c _ (HT.keptNo kk10) hok hc ⟨by omega, by omega⟩)) rfl ?_)
  rintro _ w11 ⟨A_cl, c_cl, rfl, Q11, k11⟩
  have kk11 := kk10.then_ k11
  have z32 := k11.size
  have f33 := (f29.no k11)
  have f34 := (f30.no k11)
  refine ⟨⟨kk11, f33, f34⟩, ?_⟩
  have f35 := (f_q_10.no k11)
  refine D_one 11 (by kernel_rfl) (Nx_lo rfl (lo_appR (f := tmC) (z := zTm) (bytes := 36) Tryz.underlying44 (by kernel_rfl) rfl (by decide) Q11 Q11.le.1 rfl rfl rfl (Rs.oneT f35 (t := (L.length + 1, Y)) bY) one_all (Nat.succ_pos _) (by simp only [List.length_singleton]; omega) (by simp only [List.length_singleton]; omega) z32) rfl ?_)
  rintro _ w12 ⟨A_12, c_12, rfl, p12⟩
  have k12 := p12.kp Q11
  have kk12 := kk11.trans k12 (fun i hi => .inr (Nat.le_trans (kk10).size hi))
  have f36 : Bk w12 pb ([.slice A (L.length) (c)]) 46 := (f33.kept k12 (by have := f29.lt; omega))
  have f37 : Bk w12 pk (u8s Y) 56 := (f34.kept k12 (by have := f30.lt; omega))
  refine ⟨⟨kk12, f36, f37⟩, ?_⟩
  refine Dt 12 rfl (fun W hS => pu_build (L := [.slice A_12 ((L ++ [(L.length + 1, Y)]).length) (c_12)]) rfl (by kernel_rfl)) ?_
  have f38 : Bk w12 pr ([.slice none (0) (0)]) 46 := ((f31.no k11).kept k12 (by have := f31.lt; omega))
  refine D_one 13 (by kernel_rfl) (Nx_lo0 rfl (lo_storeRow (C := [.slice A_12 ((L ++ [(L.length + 1, Y)]).length) (c_12)]) f38 (by kernel_rfl) rfl rfl (by intro u hu; simp at hu; rcases hu with rfl <;> rfl) rfl) ?_)
  rintro _ w13 kf13
  obtain ⟨k13, f_pr_13⟩ := kf13
  replace f_pr_13 : Bk w13 pr ([.slice A_12 ((L ++ [(L.length + 1, Y)]).length) (c_12)]) 46 := f_pr_13
  have kk13 := kk12.trans k13 (fun i hi => .inr (hi ▸ (Nat.le_trans kk2.size N3.le)))
  have f39 := (f36.on k13 (Ne.symm ne_pr_pb))
  have f40 := (f37.on k13 (Ne.symm ne_pr_pk))
  refine ⟨⟨kk13, f39, f40⟩, ?_⟩
  refine Dt 14 rfl (fun W hS => pu_assign rfl) <| D_done (by kernel_rfl) <| X_then hK8 <| C_ret ?_
  have ob41 := (p12.ob.on k13 (by have := f31.lt; omega))
  exact X_retCT (len := 1) (.inl rfl) rfl rfl f_pr_13 (by kernel_rfl) (by kernel_rfl) rfl rfl ⟨_, _, rfl, ob41.low ((kk10).size), kk13⟩
theorem cer_copied (q nn ge : Nat) (A : Option Addr) (E : List Nat) (c : Nat) (A2 : Option Addr) (G : List Nat) (c2 : Nat) (A3 : Option Addr) (L : List Shr) (c3 : Nat) (w : World) (HE : Bs w A E) (hc : E.length ≤ c) (HG : Bs w A2 G) (hc2 : G.length ≤ c2) (HS : Ss w A3 L) (hm : (0 < E.length ∧ E.length < 1000000) ∧ (0 < G.length ∧ G.length < 1000000) ∧ (0 < L.length ∧ L.length ≤ 255) ∧ ∀ s ∈ L, 0 < s.X.length ∧ s.X.length < 1000000) : Ret Tryz.prog 27 #[.agg ([.int .i64 ((q + 1 : Nat) : Int), .int .i64 ((nn : Nat) : Int), .int .u32 ((ge : Nat) : Int), .slice A (E.length) (c), .slice A2 (G.length) (c2), .slice A3 (L.length) (c3)] : List Value).toArray] w (fun v w' => ∃ A1 c1 A2 c2 A3 c3 L', v = .agg ([.int .i64 ((q + 1 : Nat) : Int), .int .i64 ((nn : Nat) : Int), .int .u32 ((ge : Nat) : Int), .slice A1 (E).length c1, .slice A2 (G).length c2, .slice A3 L'.length c3] : List Value).toArray ∧ Ob w' w.heap.size (.slice A1 E.length c1) E ∧ Ob w' w.heap.size (.slice A2 G.length c2) G ∧ Sw 51 w.heap.size w' w.heap.size (.slice A3 (L' : List Shr).length c3) L' ∧ L'.map Shr.key = L.map Shr.key ∧ Kp No w w') := by
 obtain ⟨hE, hG, hLp, hX⟩ := hm; have hal : ∀ s ∈ L, ∀ x, s.A = some x → x.block < w.heap.size := fun s hs => Bs.alive (HS.ok s hs).bs (hX s hs).1
 have kk0 := Kp.refl No w
 refine enter (n := 36) [.agg ([.int .i64 ((q + 1 : Nat) : Int), .int .i64 ((nn : Nat) : Int), .int .u32 ((ge : Nat) : Int), .slice A (E.length) (c), .slice A2 (G.length) (c2), .slice A3 (L.length) (c3)] : List Value).toArray] Tryz.func27 rfl rfl rfl ?_
 show Cw _ _ _ _ [(0, .agg ([.int .i64 ((q + 1 : Nat) : Int), .int .i64 ((nn : Nat) : Int), .int .u32 ((ge : Nat) : Int), .slice A (E.length) (c), .slice A2 (G.length) (c2), .slice A3 (L.length) (c3)] : List Value).toArray)] _
 refine C_seq fun K1 hK1 => C_region <| R_lo (lo_box (L := [.int .i64 ((q + 1 : Nat) : Int), .int .i64 ((nn : Nat) : Int), .int .u32 ((ge : Nat) : Int), .slice A (E.length) (c), .slice A2 (G.length) (c2), .slice A3 (L.length) (c3)]) rfl rfl) rfl ?_
 rintro _ w1 ⟨pb, rfl, N1⟩
 have k1 := N1.kp
 have kk1 := kk0.then_ k1
 have f_pb_1 := N1.bk
 refine R_lo (lo_alloc (L := [.int .i64 0, .int .i64 0, .int .u32 0, .slice none (0) (0), .slice none (0) (0), .slice none (0) (0)]) (by kernel_rfl)) rfl ?_
 rintro _ w2 ⟨pr, rfl, N2⟩
 have k2 := N2.kp
 have kk2 := kk1.then_ k2
 have ne_pr_pb := Nat.ne_of_gt (Nat.lt_of_lt_of_le f_pb_1.lt N2.le)
 have f_pr_2 := N2.bk
 refine R_nil <| X_then hK1 <| C_seq (fun K2 hK2 => ?_)
 have f3 := (f_pb_1.no k2)
 refine Z_begin (fun W => Kp No w W ∧ Bk W pb ([.int .i64 ((q + 1 : Nat) : Int), .int .i64 ((nn : Nat) : Int), .int .u32 ((ge : Nat) : Int), .slice A (E.length) (c), .slice A2 (G.length) (c2), .slice A3 (L.length) (c3)]) 39) 10 15 rfl (by kernel_rfl) ⟨kk2.drew, f3.draw⟩ ?_
 intro w3 k3 _
 have kk3 := kk2.then_ k3
 refine Z_take 0 rfl (by kernel_rfl) (by kernel_rfl) (by kernel_rfl) (by kernel_rfl) (by kernel_rfl) (fun _ _ _ h => h) rfl (fun W hS => pu_fieldAddr (off := 3) (o' := 3) (by kernel_rfl) rfl rfl) <| Z_take 1 rfl (by kernel_rfl) (by kernel_rfl) (by kernel_rfl) (by kernel_rfl) (by kernel_rfl) (fun _ _ _ h => h) rfl (fun W hS => pu_loadK hS.2 (by kernel_rfl) rfl rfl) <| Z_take 3 rfl (by kernel_rfl) (by kernel_rfl) (by kernel_rfl) (by kernel_rfl) (by kernel_rfl) (fun _ _ _ h => h) rfl (fun W hS => pu_fieldAddr (off := 4) (o' := 4) (by kernel_rfl) rfl rfl) <| Z_take 4 rfl (by kernel_rfl) (by kernel_rfl) (by kernel_rfl) (by kernel_rfl) (by kernel_rfl) (fun _ _ _ h => h) rfl (fun W hS => pu_loadK hS.2 (by kernel_rfl) rfl rfl) <| Z_take 6 rfl (by kernel_rfl) (by kernel_rfl) (by kernel_rfl) (by kernel_rfl) (by kernel_rfl) (fun _ _ _ h => h) rfl (fun W hS => pu_fieldAddr (off := 5) (o' := 5) (by kernel_rfl) rfl rfl) <| Z_take 7 rfl (by kernel_rfl) (by kernel_rfl) (by kernel_rfl) (by kernel_rfl) (by kernel_rfl) (fun _ _ _ h => h) rfl (fun W hS => pu_loadK hS.2 (by kernel_rfl) rfl rfl) ?_
 have f4 := (f3.no k3)
 have f5 := (f_pr_2.no k3)
 refine Z_one 2 (by kernel_rfl) (Nz_lo rfl (lo_call (by kernel_rfl) rfl (clone_ret A E c _ (HE.keptNo kk3) hc hE)) rfl ?_)
 rintro _ w4 ⟨A_cE, c_cE, rfl, Q4, k4⟩
 have kk4 := kk3.then_ k4
 have z6 := k4.size
 have f7 := (f4.no k4)
 refine ⟨⟨kk4, f7⟩, ?_⟩
 refine Z_take 9 rfl (by kernel_rfl) (by kernel_rfl) (by kernel_rfl) (by kernel_rfl) (by kernel_rfl) (fun _ _ _ h => h) rfl (fun W hS => pu_fieldAddr (off := 3) (o' := 3) (by kernel_rfl) rfl rfl) ?_
 have f8 := (f5.no k4)
 refine Z_one 5 (by kernel_rfl) (Nz_lo rfl (lo_call (by kernel_rfl) rfl (clone_ret A2 G c2 _ (HG.keptNo kk4) hc2 hG)) rfl ?_)
 rintro _ w5 ⟨A_cG, c_cG, rfl, Q5, k5⟩
 have kk5 := kk4.then_ k5
 have z10 := k5.size
 have f11 := (f7.no k5)
 refine ⟨⟨kk5, f11⟩, ?_⟩
 have f12 := (f8.no k5)
 have ob14 := (Q4.keptNo k5)
 have lm13 := ob14.top
 have lm15 := Q5.top
 refine Z_one 8 (by kernel_rfl) (Nz_lo rfl (lo_call (by kernel_rfl) rfl (clone_shares A3 L c3 _ (HS.keptNo kk5) ⟨hLp, fun s hs => (hX s hs).1⟩)) rfl ?_)
 rintro _ w6 ⟨A_sh, c_sh, rfl, Q6, k6⟩
 have kk6 := kk5.then_ k6
 have z16 := k6.size
 have f17 := (f11.no k6)
 refine ⟨⟨kk6, f17⟩, ?_⟩
 refine Z_out 10 (by kernel_rfl) rfl (by kernel_rfl) (lo_store f17 (by kernel_rfl) rfl rfl rfl (show 3 < 6 by decide)) ?_
 rintro _ w7 kf7
 obtain ⟨k7, f_pb_7⟩ := kf7
 replace f_pb_7 : Bk w7 pb ([.int .i64 ((q + 1 : Nat) : Int), .int .i64 ((nn : Nat) : Int), .int .u32 ((ge : Nat) : Int), .slice A_cE ((E).length) (c_cE), .slice A2 (G.length) (c2), .slice A3 (L.length) (c3)]) 39 := f_pb_7
 have kk7 := kk6.trans k7 (fun i hi => .inr (hi ▸ (Nat.le_trans kk0.size N1.le)))
 refine Zx_one 11 (by kernel_rfl) (Nzx_pu rfl (by kernel_rfl) (pu_fieldAddr (off := 4) (o' := 4) (by kernel_rfl) rfl rfl) rfl ?_)
 refine Zx_one 12 (by kernel_rfl) (Nzx_lo0 rfl (by kernel_rfl) (lo_store f_pb_7 (by kernel_rfl) rfl rfl rfl (show 4 < 6 by decide)) ?_)
 rintro _ w8 kf8
 obtain ⟨k8, f_pb_8⟩ := kf8
 replace f_pb_8 : Bk w8 pb ([.int .i64 ((q + 1 : Nat) : Int), .int .i64 ((nn : Nat) : Int), .int .u32 ((ge : Nat) : Int), .slice A_cE ((E).length) (c_cE), .slice A_cG ((G).length) (c_cG), .slice A3 (L.length) (c3)]) 39 := f_pb_8
 have kk8 := kk7.trans k8 (fun i hi => .inr (hi ▸ (Nat.le_trans kk0.size N1.le)))
 refine Zx_one 13 (by kernel_rfl) (Nzx_pu rfl (by kernel_rfl) (pu_fieldAddr (off := 5) (o' := 5) (by kernel_rfl) rfl rfl) rfl ?_)
 refine Zx_one 14 (by kernel_rfl) (Nzx_lo0 rfl (by kernel_rfl) (lo_store f_pb_8 (by kernel_rfl) rfl rfl rfl (show 5 < 6 by decide)) ?_)
 rintro _ w9 kf9
 obtain ⟨k9, f_pb_9⟩ := kf9
 replace f_pb_9 : Bk w9 pb ([.int .i64 ((q + 1 : Nat) : Int), .int .i64 ((nn : Nat) : Int), .int .u32 ((ge : Nat) : Int), .slice A_cE ((E).length) (c_cE), .slice A_cG ((G).length) (c_cG), .slice A_sh ((L).length) (c_sh)]) 39 := f_pb_9
 have kk9 := kk8.trans k9 (fun i hi => .inr (hi ▸ (Nat.le_trans kk0.size N1.le)))
 refine Zx_done (by kernel_rfl) <| X_then hK2 <| C_seq fun K18 hK18 => C_seq fun K19 hK19 => C_region <| Rp (pu_fieldAddr (off := 5) (o' := 5) (by kernel_rfl) rfl rfl) <| Rp (pu_loadK f_pb_9 (by kernel_rfl) rfl rfl) <| Rp (pu_len Tryz.underlying37 rfl) <| Rp (pu_move rfl) <| R_nil <| X_then hK19 <| C_block ?_
 have ob20 := (((Q6.keptD k7 f11.lt hal (Nat.le_trans kk0.size N1.le)).keptD k8 f11.lt hal (Nat.le_trans kk0.size N1.le)).keptD k9 f11.lt hal (Nat.le_trans kk0.size N1.le))
 obtain ⟨g, hA_g, hgb_g, hgl_g⟩ := ob20.blk (by omega)
 subst hA_g
 have ne_g_pb : g ≠ pb := by have := f11.lt; omega
 have ne_g_pr : g ≠ pr := by have := f12.lt; omega
 have f21 := ((((f12.no k6).on k7 ne_pr_pb).on k8 ne_pr_pb).on k9 ne_pr_pb)
 have ob22 := ((((ob14.keptNo k6).on k7 (by have := f4.lt; omega)).on k8 (by have := f4.lt; omega)).on k9 (by have := f4.lt; omega))
 have ob23 := ((((Q5.keptNo k6).on k7 (by have := f7.lt; omega)).on k8 (by have := f7.lt; omega)).on k9 (by have := f7.lt; omega))
 refine C_loop (fun m_ l_ wr => ∃ i : Nat, ∃ M : List Shr, (m_ = L.length - i) ∧ (l_ = [(1, .pointer (some ⟨pb, 0, none⟩)), (2, .pointer (some ⟨pr, 0, none⟩)), (18, .int .i64 (((L).length : Nat) : Int)), (19, .int .i64 ((i : Nat) : Int))]) ∧ (i ≤ L.length) ∧ (M.map Shr.key = L.map Shr.key) ∧ (∀ (j : Nat) (s : Shr), j < i → M[j]? = some s → ∀ x, s.A = some x → w5.heap.size ≤ x.block) ∧ (Kp No w wr) ∧ (Bk wr pb ([.int .i64 ((q + 1 : Nat) : Int), .int .i64 ((nn : Nat) : Int), .int .u32 ((ge : Nat) : Int), .slice A_cE ((E).length) (c_cE), .slice A_cG ((G).length) (c_cG), .slice (some ⟨g, 0, none⟩) ((M).length) (c_sh)]) 39) ∧ (Bk wr pr ([.int .i64 0, .int .i64 0, .int .u32 0, .slice none (0) (0), .slice none (0) (0), .slice none (0) (0)]) 39) ∧ (Ob wr w3.heap.size (.slice A_cE ((E).length) (c_cE)) (E) ∧ w3.heap.size ≤ (wr).heap.size) ∧ (Ob wr w4.heap.size (.slice A_cG ((G).length) (c_cG)) (G) ∧ w4.heap.size ≤ (wr).heap.size) ∧ (Sw 51 0 wr w5.heap.size (.slice (some ⟨g, 0, none⟩) ((M).length) (c_sh)) (M) ∧ w5.heap.size ≤ (wr).heap.size)) (L.length - 0) [(1, .pointer (some ⟨pb, 0, none⟩)), (2, .pointer (some ⟨pr, 0, none⟩)), (18, .int .i64 (((L).length : Nat) : Int)), (19, .int .i64 0)] (Sub.cons rfl (Sub.cons rfl (Sub.cons rfl (Sub.cons rfl (Sub.nil _))))) ⟨0, L, rfl, rfl, by omega, rfl, (fun _ _ h => absurd h (Nat.not_lt_zero _)), kk9, Bk.eq f_pb_9 rfl, f21, ⟨ob22, (Nat.le_trans (Nat.le_trans (Nat.le_trans (Nat.le_trans (Nat.le_trans z6 k5.size) k6.size) k7.size) k8.size) k9.size)⟩, ⟨ob23, (Nat.le_trans (Nat.le_trans (Nat.le_trans (Nat.le_trans z10 k6.size) k7.size) k8.size) k9.size)⟩, ⟨ob20, (Nat.le_trans (Nat.le_trans (Nat.le_trans z16 k7.size) k8.size) k9.size)⟩⟩ ?_
 rintro _ _ w10 ⟨i, M, rfl, rfl, hi, hk, hnew, kk10, f_pb_10, f_pr_10, cE_10, cG_10, sh_10⟩
 have hMl : M.length = L.length := by have h := congrArg List.length hk; rwa [List.length_map, List.length_map] at h
 have hX' := key_X hk hX
 refine C_seq fun K24 hK24 => C_region <| Rp (pu_lss (p := i < ((L).length)) rfl rfl (by omega)) <| R_nil <| X_then hK24 <| C_seq fun K25 hK25 => C_dec rfl (fun h20 => ?_) (fun h20 => ?_)
 ·
  refine C_skip <| X_then hK25 <| C_seq fun K26 hK26 => C_block <| C_seq fun K27 hK27 => C_region <| Rp (pu_move rfl) <| Rp (pu_assign rfl) <| R_nil <| X_then hK27 <| D_begin (fun W => Kp No w W ∧ Bk W pb ([.int .i64 ((q + 1 : Nat) : Int), .int .i64 ((nn : Nat) : Int), .int .u32 ((ge : Nat) : Int), .slice A_cE ((E).length) (c_cE), .slice A_cG ((G).length) (c_cG), .slice (some ⟨g, 0, none⟩) ((M).length) (c_sh)]) 39 ∧ Bk W pr ([.int .i64 0, .int .i64 0, .int .u32 0, .slice none (0) (0), .slice none (0) (0), .slice none (0) (0)]) 39) 13 rfl (by kernel_rfl) ⟨kk10.drew, f_pb_10.draw, f_pr_10.draw⟩ ?_
  intro w11 k11 _
  have kk11 := kk10.then_ k11
  refine Dt 0 rfl (fun W hS => pu_fieldAddr (off := 5) (o' := 5) (by kernel_rfl) rfl rfl) <| Dt 1 rfl (fun W hS => pu_loadK hS.2.1 (by kernel_rfl) rfl rfl) <| Dt 2 rfl (fun W hS => pu_move rfl) <| Dt 3 rfl (fun W hS => pu_fieldAddr (off := 5) (o' := 5) (by kernel_rfl) rfl rfl) <| Dt 4 rfl (fun W hS => pu_loadK hS.2.1 (by kernel_rfl) rfl rfl) <| Dt 5 rfl (fun W hS => pu_move rfl) <| Dt 6 rfl (fun W hS => pu_indexAddrG Tryz.underlying37 (by kernel_rfl) rfl rfl rfl (by omega)) ?_
  have ob28 := (sh_10.1.keptNo k11)
  obtain ⟨s1, e_s1⟩ : ∃ q_, (M)[i]? = some q_ := ⟨_, List.getElem?_eq_getElem (by first | omega | (simp; done) | (simp; omega))⟩
  have ok_s1 := ob28.ss.get e_s1
  have od_s1 := ob28.od e_s1
  have bi_s1 : s1.ix < 256 := ok_s1.ix
  have f29 := (f_pb_10.no k11)
  have f30 := (f_pr_10.no k11)
  refine D_one 7 (by kernel_rfl) (Nx_pu rfl (pu_fieldAddrH (off := 2) ob28.ss e_s1 (by kernel_rfl) rfl) rfl ⟨⟨kk11, f29, f30⟩, ?_⟩)
  refine D_one 8 (by kernel_rfl) (Nx_pu rfl (pu_loadH ob28.ss e_s1 (by kernel_rfl) rfl rfl) rfl ⟨⟨kk11, f29, f30⟩, ?_⟩)
  have ob32 := (cE_10.1.keptNo k11)
  have ob34 := (cG_10.1.keptNo k11)
  have lm35 := ob28.top
  have hbs := (Nat.le_trans sh_10.2 k11.size)
  have hx1 : s1.X = _ := rfl
  refine D_one 9 (by kernel_rfl) (Nx_lo rfl (lo_call (by kernel_rfl) rfl (clone_ret s1.A s1.X s1.c _ od_s1.bs od_s1.le.2 (have h := hX' s1 (List.mem_of_getElem? e_s1); h))) rfl ?_)
  rintro _ w12 ⟨A_dn, c_dn, rfl, Q12, k12⟩
  have kk12 := kk11.then_ k12
  have f38 := (f29.no k12)
  have f39 := (f30.no k12)
  refine ⟨⟨kk12, f38, f39⟩, ?_⟩
  refine Dt 10 rfl (fun W hS => pu_indexAddrG Tryz.underlying37 (by kernel_rfl) rfl rfl rfl (by omega)) ?_
  have ob40 := (ob28.keptNo k12)
  refine D_one 11 (by kernel_rfl) (Nx_pu rfl (pu_fieldAddrH (off := 2) ob40.ss e_s1 (by kernel_rfl) rfl) rfl ⟨⟨kk12, f38, f39⟩, ?_⟩)
  have hnb : ∀ x, A_dn = some x → w5.heap.size ≤ x.block := own_new Q12 hbs
  refine D_one 12 (by kernel_rfl) (Nx_lo0 rfl (lo_storeSwD (s := s1) ob40 (by kernel_rfl) rfl rfl e_s1 Q12.bs Q12.le.2 Q12.cap (own_dat Q12 (lm35.1 g rfl))) ?_)
  rintro _ w13 kf13
  obtain ⟨q13, k13⟩ := kf13
  have kk13 := kk12.trans k13 (fun i hi => .inr (hi ▸ (Nat.le_trans (kk5).size hgb_g)))
  have f41 := (f38.on k13 (Ne.symm ne_g_pb))
  have f42 := (f39.on k13 (Ne.symm ne_g_pr))
  refine ⟨⟨kk13, f41, f42⟩, ?_⟩
  refine D_done (by kernel_rfl) <| X_in_normal <| X_then hK26 <| C_region <| Rp (pu_add (z := ((i + 1 : Nat) : Int)) rfl rfl (by rw [IntKind.wrap_i64]; omega)) <| Rp (pu_move rfl) <| R_nil ?_
  have ob43 := ((ob32.keptNo k12).onT k13 lm13 hgb_g)
  have ob44 := ((ob34.keptNo k12).onT k13 lm15 hgb_g)
  refine X_round (L.length - (i + 1)) [(1, .pointer (some ⟨pb, 0, none⟩)), (2, .pointer (some ⟨pr, 0, none⟩)), (18, .int .i64 (((L).length : Nat) : Int)), (19, .int .i64 (((i + 1) : Nat) : Int))] (by omega) (Sub.cons rfl (Sub.cons rfl (Sub.cons rfl (Sub.cons rfl (Sub.nil _))))) ⟨i + 1, M.set i ⟨s1.ix, s1.gen, A_dn, s1.X, c_dn⟩, rfl, rfl, by omega, ((key_setD e_s1).trans hk), (fun j u hj e => by
   rw [List.getElem?_set] at e
   split at e
   ·
    rw [if_pos (by omega)] at e; cases e; exact hnb
   ·
    exact hnew j u (by omega) e), kk13, Bk.eq f41 (by rw [List.length_set]), f42, ⟨ob43, (Nat.le_trans (Nat.le_trans (Nat.le_trans cE_10.2 k11.size) k12.size) k13.size)⟩, ⟨ob44, (Nat.le_trans (Nat.le_trans (Nat.le_trans cG_10.2 k11.size) k12.size) k13.size)⟩, ⟨by rw [List.length_set]; exact q13, (Nat.le_trans (Nat.le_trans (Nat.le_trans sh_10.2 k11.size) k12.size) k13.size)⟩⟩
 ·
  refine C_exit <| X_then_exit (X_then_exit (X_in_eq ?_))
  refine X_then hK18 <| C_seq (fun K45 hK45 => ?_)
  have shE := copied_end sh_10.1 hnew (by omega)
  refine C_region <| Rp (pu_loadRow (len := 6) f_pb_10 (by kernel_rfl) (by kernel_rfl) rfl rfl) <| R_lo0 (lo_storeRow (C := [.int .i64 ((q + 1 : Nat) : Int), .int .i64 ((nn : Nat) : Int), .int .u32 ((ge : Nat) : Int), .slice A_cE ((E).length) (c_cE), .slice A_cG ((G).length) (c_cG), .slice (some ⟨g, 0, none⟩) ((M).length) (c_sh)]) f_pr_10 (by kernel_rfl) rfl rfl (by intro u hu; simp at hu; rcases hu with rfl | rfl | rfl | rfl | rfl | rfl <;> rfl) rfl) ?_
  rintro _ w14 kf14
  obtain ⟨k14, f_pr_14⟩ := kf14
  replace f_pr_14 : Bk w14 pr ([.int .i64 ((q + 1 : Nat) : Int), .int .i64 ((nn : Nat) : Int), .int .u32 ((ge : Nat) : Int), .slice A_cE ((E).length) (c_cE), .slice A_cG ((G).length) (c_cG), .slice (some ⟨g, 0, none⟩) ((M).length) (c_sh)]) 39 := f_pr_14
  have kk14 := kk10.trans k14 (fun i hi => .inr (hi ▸ (Nat.le_trans kk1.size N2.le)))
  refine R_nil <| X_then hK45 <| C_ret ?_
  have ob46 := (cE_10.1.on k14 (by have := f5.lt; omega))
  have ob47 := (cG_10.1.on k14 (by have := f8.lt; omega))
  have ob48 := (shE.on k14 (by have := (And.intro f12.lt f12.lt); omega))
  exact X_retRow (len := 6) (.inl rfl) rfl rfl f_pr_14 (by kernel_rfl) (by kernel_rfl) rfl ⟨_, _, _, _, _, _, M, rfl, ob46.low ((kk3).size), ob47.low ((kk4).size), ((ob48).lowb (kk5).size).lowd (kk5).size, hk, kk14⟩
theorem cer_rotate (q nn ge : Nat) (A : Option Addr) (E : List Nat) (c : Nat) (A2 : Option Addr) (G : List Nat) (c2 : Nat) (A3 : Option Addr) (L : List Shr) (c3 : Nat) (A4 : Option Addr) (R : List Nat) (c4 : Nat) (A5 : Option Addr) (M : List Tm) (c5 : Nat) (A6 : Option Addr) (D : List Nat) (c6 : Nat) (Y Z : List Nat) (w : World) (HE : Bs w A E) (hc : E.length ≤ c) (HG : Bs w A2 G) (hc2 : G.length ≤ c2) (HS : Ss w A3 L) (HR : Bs w A4 R) (hc4 : R.length ≤ c4) (HT : Rs tmC 33 w A5 M) (hok : ∀ t ∈ M, okT t) (hc5 : M.length ≤ c5) (HD : Bs w A6 D) (hc6 : D.length ≤ c6) (hm : ((0 < E.length ∧ E.length < 1000000) ∧ (0 < G.length ∧ G.length < 1000000) ∧ (0 < L.length ∧ L.length ≤ 255) ∧ ∀ s ∈ L, 0 < s.X.length ∧ s.X.length < 1000000) ∧ R.length = 32 ∧ D = Y ++ Z ∧ Y.length = 32 ∧ mayR M ∧ M.length < 16) : Ret Tryz.prog 13 #[.agg ([.int .i64 ((q + 1 : Nat) : Int), .int .i64 ((nn : Nat) : Int), .int .u32 ((ge : Nat) : Int), .slice A (E.length) (c), .slice A2 (G.length) (c2), .slice A3 (L.length) (c3)] : List Value).toArray, .slice A4 (R.length) (c4), .agg ([.slice A5 (M.length) (c5)] : List Value).toArray, .slice A6 (D.length) (c6)] w (fun v w' => ∃ A1 c1 A2 c2 A3 c3 L' A4 c4, v = .tuple #[.agg ([.int .i64 ((q + 1 : Nat) : Int), .int .i64 ((nn : Nat) : Int), .int .u32 ((ge : Nat) : Int), .slice A1 (E).length c1, .slice A2 (boxR R (encR (M ++ [(M.length + 1, Y)]))).length c2, .slice A3 L'.length c3] : List Value).toArray, .agg ([.slice A4 (M ++ [(M.length + 1, Y)]).length c4] : List Value).toArray, .nilIface] ∧ Ob w' w.heap.size (.slice A1 E.length c1) E ∧ Ob w' w.heap.size (.slice A2 (boxR R (encR (M ++ [(M.length + 1, Y)]))).length c2) (boxR R (encR (M ++ [(M.length + 1, Y)]))) ∧ Sw 51 w.heap.size w' w.heap.size (.slice A3 (L' : List Shr).length c3) L' ∧ L'.map Shr.key = L.map Shr.key ∧ Ro tmC 33 58 w' w.heap.size (.slice A4 (M ++ [(M.length + 1, Y)]).length c4) (M ++ [(M.length + 1, Y)]) ∧ Kp No w w') := by
 obtain ⟨hcp, hR, hD, hY, hM, hMl⟩ := hm
 have hm2 := may_snoc (Y := Y) hM hMl; have hDl : 32 ≤ D.length := by rw [hD, List.length_append]; omega
 have H_Y0 : Bs w A6 (D.take 32) := HD.take 32
 rw [show D.take 32 = Y by rw [hD]; exact dr_take hY] at H_Y0
 have bY : By 32 Y := ⟨hY, H_Y0.byte⟩
 have kk0 := Kp.refl No w
 refine enter (n := 60) [.agg ([.int .i64 ((q + 1 : Nat) : Int), .int .i64 ((nn : Nat) : Int), .int .u32 ((ge : Nat) : Int), .slice A (E.length) (c), .slice A2 (G.length) (c2), .slice A3 (L.length) (c3)] : List Value).toArray, .slice A4 (R.length) (c4), .agg ([.slice A5 (M.length) (c5)] : List Value).toArray, .slice A6 (D.length) (c6)] Tryz.func13 rfl rfl rfl ?_
 show Cw _ _ _ _ [(0, .agg ([.int .i64 ((q + 1 : Nat) : Int), .int .i64 ((nn : Nat) : Int), .int .u32 ((ge : Nat) : Int), .slice A (E.length) (c), .slice A2 (G.length) (c2), .slice A3 (L.length) (c3)] : List Value).toArray), (1, .slice A4 (R.length) (c4)), (2, .agg ([.slice A5 (M.length) (c5)] : List Value).toArray), (3, .slice A6 (D.length) (c6))] _
 refine C_seq fun K1 hK1 => C_region <| R_lo (lo_box (L := [.int .i64 ((q + 1 : Nat) : Int), .int .i64 ((nn : Nat) : Int), .int .u32 ((ge : Nat) : Int), .slice A (E.length) (c), .slice A2 (G.length) (c2), .slice A3 (L.length) (c3)]) rfl rfl) rfl ?_
 rintro _ w1 ⟨pb, rfl, N1⟩
 have k1 := N1.kp
 have kk1 := kk0.then_ k1
 have f_pb_1 := N1.bk
 refine R_lo (lo_box (L := [.slice A5 (M.length) (c5)]) rfl rfl) rfl ?_
 rintro _ w2 ⟨pg, rfl, N2⟩
 have k2 := N2.kp
 have kk2 := kk1.then_ k2
 have f_pg_2 := N2.bk
 have f2 := (f_pb_1.no k2)
 refine R_lo (lo_alloc (L := [.int .i64 0, .int .i64 0, .int .u32 0, .slice none (0) (0), .slice none (0) (0), .slice none (0) (0)]) (by kernel_rfl)) rfl ?_
 rintro _ w3 ⟨pr, rfl, N3⟩
 have k3 := N3.kp
 have kk3 := kk2.then_ k3
 have ne_pr_pb := Nat.ne_of_gt (Nat.lt_of_lt_of_le f2.lt N3.le)
 have ne_pr_pg := Nat.ne_of_gt (Nat.lt_of_lt_of_le f_pg_2.lt N3.le)
 have f_pr_3 := N3.bk
 have f3 := (f2.no k3)
 have f4 := (f_pg_2.no k3)
 refine R_lo (lo_alloc (L := [.slice none (0) (0)]) (by kernel_rfl)) rfl ?_
 rintro _ w4 ⟨pq, rfl, N4⟩
 have k4 := N4.kp
 have kk4 := kk3.then_ k4
 have ne_pq_pb := Nat.ne_of_gt (Nat.lt_of_lt_of_le f3.lt N4.le)
 have ne_pq_pg := Nat.ne_of_gt (Nat.lt_of_lt_of_le f4.lt N4.le)
 have ne_pq_pr := Nat.ne_of_gt (Nat.lt_of_lt_of_le f_pr_3.lt N4.le)
 have f_pq_4 := N4.bk
 refine Rp (pu_assign rfl) <| R_nil <| X_then hK1 <| C_seq fun K5 hK5 => C_block <| C_seq fun K6 hK6 => C_region <| Rp (pu_move rfl) <| Rp (pu_len Tryz.underlying22 rfl) <| Rp (pu_neq (p := R.length = 32) rfl rfl (by omega)) <| Rp (pu_assign rfl) <| R_nil <| X_then hK6 <| C_decf rfl (fun h => h hR) <| C_seq fun K7 hK7 => C_region <| Rp (pu_move rfl) <| Rp (pu_len Tryz.underlying22 rfl) <| Rp (pu_lss (p := D.length < 32) rfl rfl (by omega)) <| Rp (pu_assign rfl) <| R_nil <| X_then hK7 <| C_decf rfl (by omega) <| C_skip <| X_in_normal <| X_then hK5 <| C_seq (fun K8 hK8 => ?_)
 have f9 := (f3.no k4)
 have f10 := (f4.no k4)
 have f11 := (f_pr_3.no k4)
 refine D_begin (fun W => Kp No w W ∧ Bk W pb ([.int .i64 ((q + 1 : Nat) : Int), .int .i64 ((nn : Nat) : Int), .int .u32 ((ge : Nat) : Int), .slice A (E.length) (c), .slice A2 (G.length) (c2), .slice A3 (L.length) (c3)]) 39 ∧ Bk W pg ([.slice A5 (M.length) (c5)]) 46 ∧ Bk W pr ([.int .i64 0, .int .i64 0, .int .u32 0, .slice none (0) (0), .slice none (0) (0), .slice none (0) (0)]) 39 ∧ Bk W pq ([.slice none (0) (0)]) 46) 12 rfl (by kernel_rfl) ⟨kk4.drew, f9.draw, f10.draw, f11.draw, f_pq_4.draw⟩ ?_
 intro w5 k5 _
 have kk5 := kk4.then_ k5
 refine Dt 0 rfl (fun W hS => pu_loadRow (len := 1) hS.2.2.1 (by kernel_rfl) (by kernel_rfl) rfl rfl) <| Dt 1 rfl (fun W hS => pu_move rfl) ?_
 have HDt12 := Bs.take HD 32
 have H_Y : Bs w A6 Y := by have h := HDt12; rwa [show D.take 32 = Y from by rw [hD]; exact dr_take hY] at h
 refine Dt 2 rfl (fun W hS => pu_sliceHi (hi := 32) (s := 1) Tryz.underlying22 (by kernel_rfl) rfl rfl rfl (by have := hc6; omega)) <| Dt 3 rfl (fun W hS => pu_toArr Tryz.underlying56 rfl (by omega)) <| Dt 4 rfl (fun W hS => pu_loadBs (H_Y.keptNo hS.1) (by kernel_rfl) (by kernel_rfl) bY.1 (by decide) rfl) <| D_two 5 9 (by kernel_rfl) ?_ ?_
 ·
  have f13 : Bk w5 pb ([.int .i64 ((q + 1 : Nat) : Int), .int .i64 ((nn : Nat) : Int), .int .u32 ((ge : Nat) : Int), .slice A (E.length) (c), .slice A2 (G.length) (c2), .slice A3 (L.length) (c3)]) 39 := (f9.no k5)
  have f14 := (f10.no k5)
  have f15 := (f11.no k5)
  have f16 := (f_pq_4.no k5)
  refine Nx_lo rfl (lo_call (by kernel_rfl) rfl (ring_rotate A5 M c5 Y bY _ (HT.keptNo kk5) hok hc5 hM hMl)) rfl ?_
  rintro _ w6 ⟨A_rr, c_rr, rfl, R6, k6⟩
  have kk6 := kk5.then_ k6
  have f18 := (f13.no k6)
  have f19 := (f14.no k6)
  have f20 := (f15.no k6)
  have f21 := (f16.no k6)
  refine ⟨⟨kk6, f18, f19, f20, f21⟩, ?_⟩
  refine Dt 6 rfl (fun W hS => pu_move rfl) <| Dt 7 rfl (fun W hS => pu_extract rfl rfl) <| Dt 8 rfl (fun W hS => pu_extract rfl rfl) <| D_one 9 (by kernel_rfl) (Nx_lo rfl (lo_alloc (L := [.slice none (0) (0)]) (by kernel_rfl)) rfl ?_)
  rintro _ w7 ⟨pn, rfl, N7⟩
  have k7 := N7.kp
  have kk7 := kk6.then_ k7
  have ne_pn_pb := Nat.ne_of_gt (Nat.lt_of_lt_of_le f18.lt N7.le)
  have ne_pn_pg := Nat.ne_of_gt (Nat.lt_of_lt_of_le f19.lt N7.le)
  have ne_pn_pr := Nat.ne_of_gt (Nat.lt_of_lt_of_le f20.lt N7.le)
  have ne_pn_pq := Nat.ne_of_gt (Nat.lt_of_lt_of_le f21.lt N7.le)
  have f_pn_7 := N7.bk
  have f22 := (f18.no k7)
  have f23 := (f19.no k7)
  have f24 := (f20.no k7)
  have f25 := (f21.no k7)
  refine ⟨⟨kk7, f22, f23, f24, f25⟩, ?_⟩
  refine D_one 10 (by kernel_rfl) (Nx_lo0 rfl (lo_storeRow (C := [.slice A_rr ((M ++ [(M.length + 1, Y)]).length) (c_rr)]) f_pn_7 (by kernel_rfl) rfl rfl (by intro u hu; simp at hu; rcases hu with rfl <;> rfl) rfl) ?_)
  rintro _ w8 kf8
  obtain ⟨k8, f_pn_8⟩ := kf8
  replace f_pn_8 : Bk w8 pn ([.slice A_rr ((M ++ [(M.length + 1, Y)]).length) (c_rr)]) 46 := f_pn_8
  have kk8 := kk7.trans k8 (fun i hi => .inr (hi ▸ (Nat.le_trans kk6.size N7.le)))
  have f26 := (f22.on k8 (Ne.symm ne_pn_pb))
  have f27 := (f23.on k8 (Ne.symm ne_pn_pg))
  have f28 := (f24.on k8 (Ne.symm ne_pn_pr))
  have f29 := (f25.on k8 (Ne.symm ne_pn_pq))
  refine ⟨⟨kk8, f26, f27, f28, f29⟩, ?_⟩
  refine Dt 11 rfl (fun W hS => pu_assign rfl) <| D_done (by kernel_rfl) <| X_then hK8 <| C_seq fun K30 hK30 => C_seq fun K31 hK31 => C_region <| Rp (pu_move rfl) <| Rp (pu_neqnn (by kernel_rfl) rfl) <| R_nil <| X_then hK31 <| C_false rfl <| C_skip <| X_then hK30 <| C_seq fun K32 hK32 => C_region <| Rp (pu_move rfl) <| Rp (pu_loadRow (len := 1) f_pn_8 (by kernel_rfl) (by kernel_rfl) rfl rfl) ?_
  have ob33 := ((R6.keptNo k7).onN k8 R6 N7.le)
  refine R_lo (lo_call (by kernel_rfl) rfl (env_sealring A4 R c4 A_rr (M ++ [(M.length + 1, Y)]) c_rr _ (HR.keptNo kk8) hc4 ob33.rs (ok_snoc hok hMl bY) ob33.le.2 hR hm2)) rfl ?_
  rintro _ w9 ⟨A_bx, c_bx, rfl, Q9, k9⟩
  have kk9 := kk8.then_ k9
  refine Rp (pu_move rfl) <| Rp (pu_extract rfl rfl) <| Rp (pu_extract rfl rfl) <| Rp (pu_assign rfl) <| Rp (pu_assign rfl) <| R_nil <| X_then hK32 <| C_seq fun K36 hK36 => C_seq fun K37 hK37 => C_region <| Rp (pu_move rfl) <| Rp (pu_neqnn (by kernel_rfl) rfl) <| R_nil <| X_then hK37 <| C_false rfl <| C_skip <| X_then hK36 <| C_seq fun K38 hK38 => C_region ?_
  have f39 := (f26.no k9)
  refine Rp (pu_loadRow (len := 6) f39 (by kernel_rfl) (by kernel_rfl) rfl rfl) ?_
  have f40 := (f27.no k9)
  have f41 := (f28.no k9)
  have f42 := (f29.no k9)
  have f43 := (f_pn_8.no k9)
  have ob45 := (ob33.keptNo k9)
  refine R_lo (lo_call (by kernel_rfl) rfl (cer_copied q nn ge A E c A2 G c2 A3 L c3 _ (HE.keptNo kk9) hc (HG.keptNo kk9) hc2 (HS.keptNo kk9) hcp)) rfl ?_
  rintro _ w10 ⟨A_ce, c_ce, A_cg, c_cg, A_cs, c_cs, L_cs, rfl, Q10, R10, S10, hK_cs, k10⟩
  have kk10 := kk9.then_ k10
  have hl_cs : L_cs.length = (L).length := by have h := congrArg List.length hK_cs; rwa [List.length_map, List.length_map] at h
  have f54 := (f39.no k10)
  have f55 := (f40.no k10)
  have f56 := (f41.no k10)
  have f57 := (f42.no k10)
  have f58 := (f43.no k10)
  have ob59 := (ob45.keptNo k10)
  have ob60 := (Q9.keptNo k10)
  refine R_lo (lo_alloc (L := [.int .i64 0, .int .i64 0, .int .u32 0, .slice none (0) (0), .slice none (0) (0), .slice none (0) (0)]) (by kernel_rfl)) rfl ?_
  rintro _ w11 ⟨pz, rfl, N11⟩
  have k11 := N11.kp
  have kk11 := kk10.then_ k11
  have ne_pz_pb := Nat.ne_of_gt (Nat.lt_of_lt_of_le f54.lt N11.le)
  have ne_pz_pg := Nat.ne_of_gt (Nat.lt_of_lt_of_le f55.lt N11.le)
  have ne_pz_pr := Nat.ne_of_gt (Nat.lt_of_lt_of_le f56.lt N11.le)
  have ne_pz_pq := Nat.ne_of_gt (Nat.lt_of_lt_of_le f57.lt N11.le)
  have ne_pz_pn := Nat.ne_of_gt (Nat.lt_of_lt_of_le f58.lt N11.le)
  have f_pz_11 := N11.bk
  refine R_lo0 (lo_storeRow (C := [.int .i64 ((q + 1 : Nat) : Int), .int .i64 ((nn : Nat) : Int), .int .u32 ((ge : Nat) : Int), .slice A_ce ((E).length) (c_ce), .slice A_cg ((G).length) (c_cg), .slice A_cs ((L_cs).length) (c_cs)]) f_pz_11 (by kernel_rfl) rfl rfl (by intro u hu; simp at hu; rcases hu with rfl | rfl | rfl | rfl | rfl | rfl <;> rfl) rfl) ?_
  rintro _ w12 kf12
  obtain ⟨k12, f_pz_12⟩ := kf12
  replace f_pz_12 : Bk w12 pz ([.int .i64 ((q + 1 : Nat) : Int), .int .i64 ((nn : Nat) : Int), .int .u32 ((ge : Nat) : Int), .slice A_ce ((E).length) (c_ce), .slice A_cg ((G).length) (c_cg), .slice A_cs ((L_cs).length) (c_cs)]) 39 := f_pz_12
  have kk12 := kk11.trans k12 (fun i hi => .inr (hi ▸ (Nat.le_trans kk10.size N11.le)))
  refine R_nil <| X_then hK38 <| C_seq fun K61 hK61 => C_region <| Rp (pu_move rfl) <| Rp (pu_fieldAddr (off := 4) (o' := 4) (by kernel_rfl) rfl rfl) <| R_lo0 (lo_store f_pz_12 (by kernel_rfl) rfl rfl rfl (show 4 < 6 by decide)) ?_
  rintro _ w13 kf13
  obtain ⟨k13, f_pz_13⟩ := kf13
  replace f_pz_13 : Bk w13 pz ([.int .i64 ((q + 1 : Nat) : Int), .int .i64 ((nn : Nat) : Int), .int .u32 ((ge : Nat) : Int), .slice A_ce ((E).length) (c_ce), .slice A_bx ((boxR R (encR (M ++ [(M.length + 1, Y)]))).length) (c_bx), .slice A_cs ((L_cs).length) (c_cs)]) 39 := f_pz_13
  have kk13 := kk12.trans k13 (fun i hi => .inr (hi ▸ (Nat.le_trans kk10.size N11.le)))
  refine R_nil <| X_then hK61 <| C_seq (fun K62 hK62 => ?_)
  have f63 := (((f54.no k11).on k12 (Ne.symm ne_pz_pb)).on k13 (Ne.symm ne_pz_pb))
  have f64 := (((f55.no k11).on k12 (Ne.symm ne_pz_pg)).on k13 (Ne.symm ne_pz_pg))
  have f65 := (((f58.no k11).on k12 (Ne.symm ne_pz_pn)).on k13 (Ne.symm ne_pz_pn))
  refine D_begin (fun W => Kp No w W ∧ Bk W pb ([.int .i64 ((q + 1 : Nat) : Int), .int .i64 ((nn : Nat) : Int), .int .u32 ((ge : Nat) : Int), .slice A (E.length) (c), .slice A2 (G.length) (c2), .slice A3 (L.length) (c3)]) 39 ∧ Bk W pg ([.slice A5 (M.length) (c5)]) 46 ∧ Bk W pn ([.slice A_rr ((M ++ [(M.length + 1, Y)]).length) (c_rr)]) 46 ∧ Bk W pz ([.int .i64 ((q + 1 : Nat) : Int), .int .i64 ((nn : Nat) : Int), .int .u32 ((ge : Nat) : Int), .slice A_ce ((E).length) (c_ce), .slice A_bx ((boxR R (encR (M ++ [(M.length + 1, Y)]))).length) (c_bx), .slice A_cs ((L_cs).length) (c_cs)]) 39) 5 rfl (by kernel_rfl) ⟨kk13.drew, f63.draw, f64.draw, f65.draw, f_pz_13.draw⟩ ?_
  intro w14 k14 _
  have kk14 := kk13.then_ k14
  refine Dt 0 rfl (fun W hS => pu_loadRow (len := 6) hS.2.2.2.2 (by kernel_rfl) (by kernel_rfl) rfl rfl) <| Dt 1 rfl (fun W hS => pu_loadRow (len := 1) hS.2.2.2.1 (by kernel_rfl) (by kernel_rfl) rfl rfl) ?_
  have f66 := ((((f56.no k11).on k12 (Ne.symm ne_pz_pr)).on k13 (Ne.symm ne_pz_pr)).no k14)
  refine D_one 2 (by kernel_rfl) (Nx_lo0 rfl (lo_storeRow (C := [.int .i64 ((q + 1 : Nat) : Int), .int .i64 ((nn : Nat) : Int), .int .u32 ((ge : Nat) : Int), .slice A_ce ((E).length) (c_ce), .slice A_bx ((boxR R (encR (M ++ [(M.length + 1, Y)]))).length) (c_bx), .slice A_cs ((L_cs).length) (c_cs)]) f66 (by kernel_rfl) rfl rfl (by intro u hu; simp at hu; rcases hu with rfl | rfl | rfl | rfl | rfl | rfl <;> rfl) rfl) ?_)
  rintro _ w15 kf15
  obtain ⟨k15, f_pr_15⟩ := kf15
  replace f_pr_15 : Bk w15 pr ([.int .i64 ((q + 1 : Nat) : Int), .int .i64 ((nn : Nat) : Int), .int .u32 ((ge : Nat) : Int), .slice A_ce ((E).length) (c_ce), .slice A_bx ((boxR R (encR (M ++ [(M.length + 1, Y)]))).length) (c_bx), .slice A_cs ((L_cs).length) (c_cs)]) 39 := f_pr_15
  have kk15 := kk14.trans k15 (fun i hi => .inr (hi ▸ (Nat.le_trans kk2.size N3.le)))
  have f67 := ((f63.no k14).on k15 (Ne.symm ne_pr_pb))
  have f68 := ((f64.no k14).on k15 (Ne.symm ne_pr_pg))
  have f69 := ((f65.no k14).on k15 ne_pn_pr)
  have f70 := ((f_pz_13.no k14).on k15 ne_pz_pr)
  refine ⟨⟨kk15, f67, f68, f69, f70⟩, ?_⟩
  have f71 := (((((f57.no k11).on k12 (Ne.symm ne_pz_pq)).on k13 (Ne.symm ne_pz_pq)).no k14).on k15 ne_pq_pr)
  refine D_one 3 (by kernel_rfl) (Nx_lo0 rfl (lo_storeRow (C := [.slice A_rr ((M ++ [(M.length + 1, Y)]).length) (c_rr)]) f71 (by kernel_rfl) rfl rfl (by intro u hu; simp at hu; rcases hu with rfl <;> rfl) rfl) ?_)
  rintro _ w16 kf16
  obtain ⟨k16, f_pq_16⟩ := kf16
  replace f_pq_16 : Bk w16 pq ([.slice A_rr ((M ++ [(M.length + 1, Y)]).length) (c_rr)]) 46 := f_pq_16
  have kk16 := kk15.trans k16 (fun i hi => .inr (hi ▸ (Nat.le_trans kk3.size N4.le)))
  have f72 := (f67.on k16 (Ne.symm ne_pq_pb))
  have f73 := (f68.on k16 (Ne.symm ne_pq_pg))
  have f74 := (f69.on k16 ne_pn_pq)
  have f75 := (f70.on k16 ne_pz_pq)
  refine ⟨⟨kk16, f72, f73, f74, f75⟩, ?_⟩
  refine Dt 4 rfl (fun W hS => pu_assign rfl) <| D_done (by kernel_rfl) <| X_then hK62 <| C_ret ?_
  have f76 := (f_pr_15.on k16 (Ne.symm ne_pq_pr))
  have ob77 := ((((((Q10.keptNo k11).onN k12 Q10 N11.le).onN k13 Q10 N11.le).keptNo k14).on k15 (by have := f41.lt; omega)).on k16 (by have := f42.lt; omega))
  have ob78 := ((((((ob60.keptNo k11).onN k12 ob60 N11.le).onN k13 ob60 N11.le).keptNo k14).on k15 (by have := f28.lt; omega)).on k16 (by have := f29.lt; omega))
  have ob79 := ((((((S10.keptNo k11).onN k12 S10 N11.le).onN k13 S10 N11.le).keptNo k14).on k15 (by have := f41.lt; omega)).on k16 (by have := f42.lt; omega))
  have ob80 := ((((((ob59.keptNo k11).onN k12 ob59 N11.le).onN k13 ob59 N11.le).keptNo k14).on k15 (by have := f15.lt; omega)).on k16 (by have := f16.lt; omega))
  exact X_retCCT (len := 6) (len2 := 1) (.inl rfl) rfl rfl f76 (by kernel_rfl) (by kernel_rfl) rfl rfl f_pq_16 (by kernel_rfl) (by kernel_rfl) rfl rfl ⟨_, _, _, _, _, _, L_cs, _, _, rfl, ob77.low ((kk9).size), ob78.low ((kk8).size), ((ob79).lowb (kk9).size).lowd (kk9).size, hK_cs, ob80.low ((kk5).size), kk16⟩
 ·
  have f81 : Bk w5 pb ([.int .i64 ((q + 1 : Nat) : Int), .int .i64 ((nn : Nat) : Int), .int .u32 ((ge : Nat) : Int), .slice A (E.length) (c), .slice A2 (G.length) (c2), .slice A3 (L.length) (c3)]) 39 := (f9.no k5)
  have f82 := (f10.no k5)
  have f83 := (f11.no k5)
  have f84 := (f_pq_4.no k5)
  refine Nx_lo rfl (lo_alloc (L := [.slice none (0) (0)]) (by kernel_rfl)) rfl ?_
  rintro _ w17 ⟨pn, rfl, N17⟩
  have k17 := N17.kp
  have kk17 := kk5.then_ k17
  have ne_pn_pb := Nat.ne_of_gt (Nat.lt_of_lt_of_le f81.lt N17.le)
  have ne_pn_pg := Nat.ne_of_gt (Nat.lt_of_lt_of_le f82.lt N17.le)
  have ne_pn_pr := Nat.ne_of_gt (Nat.lt_of_lt_of_le f83.lt N17.le)
  have ne_pn_pq := Nat.ne_of_gt (Nat.lt_of_lt_of_le f84.lt N17.le)
  have f_pn_17 := N17.bk
  have f85 := (f81.no k17)
  have f86 := (f82.no k17)
  have f87 := (f83.no k17)
  have f88 := (f84.no k17)
  refine ⟨⟨kk17, f85, f86, f87, f88⟩, ?_⟩
  refine D_one 5 (by kernel_rfl) (Nx_lo rfl (lo_call (by kernel_rfl) rfl (ring_rotate A5 M c5 Y bY _ (HT.keptNo kk17) hok hc5 hM hMl)) rfl ?_)
  rintro _ w18 ⟨A_rr, c_rr, rfl, R18, k18⟩
  have kk18 := kk17.then_ k18
  have f90 := (f85.no k18)
  have f91 := (f86.no k18)
  have f92 := (f87.no k18)
  have f93 := (f88.no k18)
  refine ⟨⟨kk18, f90, f91, f92, f93⟩, ?_⟩
  refine Dt 6 rfl (fun W hS => pu_move rfl) <| Dt 7 rfl (fun W hS => pu_extract rfl rfl) <| Dt 8 rfl (fun W hS => pu_extract rfl rfl) ?_
  have f94 := (f_pn_17.no k18)
  refine D_one 10 (by kernel_rfl) (Nx_lo0 rfl (lo_storeRow (C := [.slice A_rr ((M ++ [(M.length + 1, Y)]).length) (c_rr)]) f94 (by kernel_rfl) rfl rfl (by intro u hu; simp at hu; rcases hu with rfl <;> rfl) rfl) ?_)
  rintro _ w19 kf19
  obtain ⟨k19, f_pn_19⟩ := kf19
  replace f_pn_19 : Bk w19 pn ([.slice A_rr ((M ++ [(M.length + 1, Y)]).length) (c_rr)]) 46 := f_pn_19
  have kk19 := kk18.trans k19 (fun i hi => .inr (hi ▸ (Nat.le_trans kk5.size N17.le)))
  have f95 := (f90.on k19 (Ne.symm ne_pn_pb))
  have f96 := (f91.on k19 (Ne.symm ne_pn_pg))
  have f97 := (f92.on k19 (Ne.symm ne_pn_pr))
  have f98 := (f93.on k19 (Ne.symm ne_pn_pq))
  refine ⟨⟨kk19, f95, f96, f97, f98⟩, ?_⟩
  refine Dt 11 rfl (fun W hS => pu_assign rfl) <| D_done (by kernel_rfl) <| X_then hK8 <| C_seq fun K99 hK99 => C_seq fun K100 hK100 => C_region <| Rp (pu_move rfl) <| Rp (pu_neqnn (by kernel_rfl) rfl) <| R_nil <| X_then hK100 <| C_false rfl <| C_skip <| X_then hK99 <| C_seq fun K101 hK101 => C_region <| Rp (pu_move rfl) <| Rp (pu_loadRow (len := 1) f_pn_19 (by kernel_rfl) (by kernel_rfl) rfl rfl) ?_
  have ob102 := (R18.on k19 (by have := f_pn_17.lt; omega))
  refine R_lo (lo_call (by kernel_rfl) rfl (env_sealring A4 R c4 A_rr (M ++ [(M.length + 1, Y)]) c_rr _ (HR.keptNo kk19) hc4 ob102.rs (ok_snoc hok hMl bY) ob102.le.2 hR hm2)) rfl ?_
  rintro _ w20 ⟨A_bx, c_bx, rfl, Q20, k20⟩
  have kk20 := kk19.then_ k20
  refine Rp (pu_move rfl) <| Rp (pu_extract rfl rfl) <| Rp (pu_extract rfl rfl) <| Rp (pu_assign rfl) <| Rp (pu_assign rfl) <| R_nil <| X_then hK101 <| C_seq fun K105 hK105 => C_seq fun K106 hK106 => C_region <| Rp (pu_move rfl) <| Rp (pu_neqnn (by kernel_rfl) rfl) <| R_nil <| X_then hK106 <| C_false rfl <| C_skip <| X_then hK105 <| C_seq fun K107 hK107 => C_region ?_
  have f108 := (f95.no k20)
  refine Rp (pu_loadRow (len := 6) f108 (by kernel_rfl) (by kernel_rfl) rfl rfl) ?_
  have f109 := (f96.no k20)
  have f110 := (f97.no k20)
  have f111 := (f98.no k20)
  have f112 := (f_pn_19.no k20)
  have ob114 := (ob102.keptNo k20)
  refine R_lo (lo_call (by kernel_rfl) rfl (cer_copied q nn ge A E c A2 G c2 A3 L c3 _ (HE.keptNo kk20) hc (HG.keptNo kk20) hc2 (HS.keptNo kk20) hcp)) rfl ?_
  rintro _ w21 ⟨A_ce, c_ce, A_cg, c_cg, A_cs, c_cs, L_cs, rfl, Q21, R21, S21, hK_cs, k21⟩
  have kk21 := kk20.then_ k21
  have hl_cs : L_cs.length = (L).length := by have h := congrArg List.length hK_cs; rwa [List.length_map, List.length_map] at h
  have f123 := (f108.no k21)
  have f124 := (f109.no k21)
  have f125 := (f110.no k21)
  have f126 := (f111.no k21)
  have f127 := (f112.no k21)
  have ob128 := (ob114.keptNo k21)
  have ob129 := (Q20.keptNo k21)
  refine R_lo (lo_alloc (L := [.int .i64 0, .int .i64 0, .int .u32 0, .slice none (0) (0), .slice none (0) (0), .slice none (0) (0)]) (by kernel_rfl)) rfl ?_
  rintro _ w22 ⟨pz, rfl, N22⟩
  have k22 := N22.kp
  have kk22 := kk21.then_ k22
  have ne_pz_pb := Nat.ne_of_gt (Nat.lt_of_lt_of_le f123.lt N22.le)
  have ne_pz_pg := Nat.ne_of_gt (Nat.lt_of_lt_of_le f124.lt N22.le)
  have ne_pz_pr := Nat.ne_of_gt (Nat.lt_of_lt_of_le f125.lt N22.le)
  have ne_pz_pq := Nat.ne_of_gt (Nat.lt_of_lt_of_le f126.lt N22.le)
  have ne_pz_pn := Nat.ne_of_gt (Nat.lt_of_lt_of_le f127.lt N22.le)
  have f_pz_22 := N22.bk
  refine R_lo0 (lo_storeRow (C := [.int .i64 ((q + 1 : Nat) : Int), .int .i64 ((nn : Nat) : Int), .int .u32 ((ge : Nat) : Int), .slice A_ce ((E).length) (c_ce), .slice A_cg ((G).length) (c_cg), .slice A_cs ((L_cs).length) (c_cs)]) f_pz_22 (by kernel_rfl) rfl rfl (by intro u hu; simp at hu; rcases hu with rfl | rfl | rfl | rfl | rfl | rfl <;> rfl) rfl) ?_
  rintro _ w23 kf23
  obtain ⟨k23, f_pz_23⟩ := kf23
  replace f_pz_23 : Bk w23 pz ([.int .i64 ((q + 1 : Nat) : Int), .int .i64 ((nn : Nat) : Int), .int .u32 ((ge : Nat) : Int), .slice A_ce ((E).length) (c_ce), .slice A_cg ((G).length) (c_cg), .slice A_cs ((L_cs).length) (c_cs)]) 39 := f_pz_23
  have kk23 := kk22.trans k23 (fun i hi => .inr (hi ▸ (Nat.le_trans kk21.size N22.le)))
  refine R_nil <| X_then hK107 <| C_seq fun K130 hK130 => C_region <| Rp (pu_move rfl) <| Rp (pu_fieldAddr (off := 4) (o' := 4) (by kernel_rfl) rfl rfl) <| R_lo0 (lo_store f_pz_23 (by kernel_rfl) rfl rfl rfl (show 4 < 6 by decide)) ?_
  rintro _ w24 kf24
  obtain ⟨k24, f_pz_24⟩ := kf24
  replace f_pz_24 : Bk w24 pz ([.int .i64 ((q + 1 : Nat) : Int), .int .i64 ((nn : Nat) : Int), .int .u32 ((ge : Nat) : Int), .slice A_ce ((E).length) (c_ce), .slice A_bx ((boxR R (encR (M ++ [(M.length + 1, Y)]))).length) (c_bx), .slice A_cs ((L_cs).length) (c_cs)]) 39 := f_pz_24
  have kk24 := kk23.trans k24 (fun i hi => .inr (hi ▸ (Nat.le_trans kk21.size N22.le)))
  refine R_nil <| X_then hK130 <| C_seq (fun K131 hK131 => ?_)
  have f132 := (((f123.no k22).on k23 (Ne.symm ne_pz_pb)).on k24 (Ne.symm ne_pz_pb))
  have f133 := (((f124.no k22).on k23 (Ne.symm ne_pz_pg)).on k24 (Ne.symm ne_pz_pg))
  have f134 := (((f127.no k22).on k23 (Ne.symm ne_pz_pn)).on k24 (Ne.symm ne_pz_pn))
  refine D_begin (fun W => Kp No w W ∧ Bk W pb ([.int .i64 ((q + 1 : Nat) : Int), .int .i64 ((nn : Nat) : Int), .int .u32 ((ge : Nat) : Int), .slice A (E.length) (c), .slice A2 (G.length) (c2), .slice A3 (L.length) (c3)]) 39 ∧ Bk W pg ([.slice A5 (M.length) (c5)]) 46 ∧ Bk W pn ([.slice A_rr ((M ++ [(M.length + 1, Y)]).length) (c_rr)]) 46 ∧ Bk W pz ([.int .i64 ((q + 1 : Nat) : Int), .int .i64 ((nn : Nat) : Int), .int .u32 ((ge : Nat) : Int), .slice A_ce ((E).length) (c_ce), .slice A_bx ((boxR R (encR (M ++ [(M.length + 1, Y)]))).length) (c_bx), .slice A_cs ((L_cs).length) (c_cs)]) 39) 5 rfl (by kernel_rfl) ⟨kk24.drew, f132.draw, f133.draw, f134.draw, f_pz_24.draw⟩ ?_
  intro w25 k25 _
  have kk25 := kk24.then_ k25
  refine Dt 0 rfl (fun W hS => pu_loadRow (len := 6) hS.2.2.2.2 (by kernel_rfl) (by kernel_rfl) rfl rfl) <| Dt 1 rfl (fun W hS => pu_loadRow (len := 1) hS.2.2.2.1 (by kernel_rfl) (by kernel_rfl) rfl rfl) ?_
  have f135 := ((((f125.no k22).on k23 (Ne.symm ne_pz_pr)).on k24 (Ne.symm ne_pz_pr)).no k25)
  refine D_one 2 (by kernel_rfl) (Nx_lo0 rfl (lo_storeRow (C := [.int .i64 ((q + 1 : Nat) : Int), .int .i64 ((nn : Nat) : Int), .int .u32 ((ge : Nat) : Int), .slice A_ce ((E).length) (c_ce), .slice A_bx ((boxR R (encR (M ++ [(M.length + 1, Y)]))).length) (c_bx), .slice A_cs ((L_cs).length) (c_cs)]) f135 (by kernel_rfl) rfl rfl (by intro u hu; simp at hu; rcases hu with rfl | rfl | rfl | rfl | rfl | rfl <;> rfl) rfl) ?_)
  rintro _ w26 kf26
  obtain ⟨k26, f_pr_26⟩ := kf26
  replace f_pr_26 : Bk w26 pr ([.int .i64 ((q + 1 : Nat) : Int), .int .i64 ((nn : Nat) : Int), .int .u32 ((ge : Nat) : Int), .slice A_ce ((E).length) (c_ce), .slice A_bx ((boxR R (encR (M ++ [(M.length + 1, Y)]))).length) (c_bx), .slice A_cs ((L_cs).length) (c_cs)]) 39 := f_pr_26
  have kk26 := kk25.trans k26 (fun i hi => .inr (hi ▸ (Nat.le_trans kk2.size N3.le)))
  have f136 := ((f132.no k25).on k26 (Ne.symm ne_pr_pb))
  have f137 := ((f133.no k25).on k26 (Ne.symm ne_pr_pg))
  have f138 := ((f134.no k25).on k26 ne_pn_pr)
  have f139 := ((f_pz_24.no k25).on k26 ne_pz_pr)
  refine ⟨⟨kk26, f136, f137, f138, f139⟩, ?_⟩
  have f140 := (((((f126.no k22).on k23 (Ne.symm ne_pz_pq)).on k24 (Ne.symm ne_pz_pq)).no k25).on k26 ne_pq_pr)
  refine D_one 3 (by kernel_rfl) (Nx_lo0 rfl (lo_storeRow (C := [.slice A_rr ((M ++ [(M.length + 1, Y)]).length) (c_rr)]) f140 (by kernel_rfl) rfl rfl (by intro u hu; simp at hu; rcases hu with rfl <;> rfl) rfl) ?_)
  rintro _ w27 kf27
  obtain ⟨k27, f_pq_27⟩ := kf27
  replace f_pq_27 : Bk w27 pq ([.slice A_rr ((M ++ [(M.length + 1, Y)]).length) (c_rr)]) 46 := f_pq_27
  have kk27 := kk26.trans k27 (fun i hi => .inr (hi ▸ (Nat.le_trans kk3.size N4.le)))
  have f141 := (f136.on k27 (Ne.symm ne_pq_pb))
  have f142 := (f137.on k27 (Ne.symm ne_pq_pg))
  have f143 := (f138.on k27 ne_pn_pq)
  have f144 := (f139.on k27 ne_pz_pq)
  refine ⟨⟨kk27, f141, f142, f143, f144⟩, ?_⟩
  refine Dt 4 rfl (fun W hS => pu_assign rfl) <| D_done (by kernel_rfl) <| X_then hK131 <| C_ret ?_
  have f145 := (f_pr_26.on k27 (Ne.symm ne_pq_pr))
  have ob146 := ((((((Q21.keptNo k22).onN k23 Q21 N22.le).onN k24 Q21 N22.le).keptNo k25).on k26 (by have := f110.lt; omega)).on k27 (by have := f111.lt; omega))
  have ob147 := ((((((ob129.keptNo k22).onN k23 ob129 N22.le).onN k24 ob129 N22.le).keptNo k25).on k26 (by have := f97.lt; omega)).on k27 (by have := f98.lt; omega))
  have ob148 := ((((((S21.keptNo k22).onN k23 S21 N22.le).onN k24 S21 N22.le).keptNo k25).on k26 (by have := f110.lt; omega)).on k27 (by have := f111.lt; omega))
  have ob149 := ((((((ob128.keptNo k22).onN k23 ob128 N22.le).onN k24 ob128 N22.le).keptNo k25).on k26 (by have := f87.lt; omega)).on k27 (by have := f88.lt; omega))
  exact X_retCCT (len := 6) (len2 := 1) (.inl rfl) rfl rfl f145 (by kernel_rfl) (by kernel_rfl) rfl rfl f_pq_27 (by kernel_rfl) (by kernel_rfl) rfl rfl ⟨_, _, _, _, _, _, L_cs, _, _, rfl, ob146.low ((kk20).size), ob147.low ((kk19).size), ((ob148).lowb (kk20).size).lowd (kk20).size, hK_cs, ob149.low ((kk17).size), kk27⟩
theorem cer_turned (A : Option Addr) (L : List Shr) (c b : Nat) (w : World) (HS : Ss w A L) (hp : (0 < L.length ∧ L.length ≤ 255) ∧ (∀ s ∈ L, 0 < s.X.length) ∧ b < 100000) : Ret Tryz.prog 12 #[.slice A (L.length) (c), .int .i64 ((b : Nat) : Int)] w (fun v w' => ∃ A' c', v = .slice A' (turnT L b L.length).length c' ∧ Sw 51 0 w' w.heap.size (.slice A' (turnT L b L.length).length c') (turnT L b L.length) ∧ Kp No w w') := by
 obtain ⟨⟨hp1, hp2⟩, hx0, hb⟩ := hp
 have kk0 := Kp.refl No w
 refine enter (n := 26) [.slice A (L.length) (c), .int .i64 ((b : Nat) : Int)] Tryz.func12 rfl rfl rfl ?_
 show Cw _ _ _ _ [(0, .slice A (L.length) (c)), (1, .int .i64 ((b : Nat) : Int))] _
 refine C_seq fun K1 hK1 => C_region <| Rp (pu_assign rfl) <| R_nil <| X_then hK1 <| C_seq fun K2 hK2 => C_region <| Rp (pu_assign rfl) <| R_nil <| X_then hK2 <| C_seq fun K3 hK3 => C_seq fun K4 hK4 => C_region <| Rp (pu_assign rfl) <| R_nil <| X_then hK4 <| C_block ?_
 have sw5 := Sw.nil 51 0 w w.heap.size
 have z6 := Nat.le_refl w.heap.size
 refine C_loop (fun m_ l_ wr => ∃ i : Nat, ∃ An : Option Addr, ∃ cn : Nat, (m_ = L.length - i) ∧ (l_ = [(0, .slice A (L.length) (c)), (1, .int .i64 ((b : Nat) : Int)), (4, .slice none (0) (0)), (5, .slice An ((turnT L b i).length) (cn)), (6, .int .i64 ((i : Nat) : Int))]) ∧ (i ≤ L.length) ∧ (Kp No w wr) ∧ (Sw 51 0 wr w.heap.size (.slice An ((turnT L b i).length) (cn)) (turnT L b i) ∧ w.heap.size ≤ (wr).heap.size)) (L.length - 0) [(0, .slice A (L.length) (c)), (1, .int .i64 ((b : Nat) : Int)), (4, .slice none (0) (0)), (5, .slice none ((turnT L b 0).length) (0)), (6, .int .i64 0)] (Sub.cons rfl (Sub.cons rfl (Sub.cons rfl (Sub.cons rfl (Sub.cons rfl (Sub.nil _)))))) ⟨0, none, 0, rfl, rfl, by omega, kk0, ⟨by exact sw5, z6⟩⟩ ?_
 rintro _ _ w1 ⟨i, An, cn, rfl, rfl, hi, kk1, out_1⟩
 refine C_seq fun K7 hK7 => C_seq fun K8 hK8 => C_region <| Rp (pu_move rfl) <| Rp (pu_move rfl) <| Rp (pu_len Tryz.underlying37 rfl) <| Rp (pu_lss (p := i < L.length) rfl rfl (by omega)) <| R_nil <| X_then hK8 <| C_dec rfl (fun h10 => ?_) (fun h10 => ?_)
 ·
  refine C_skip <| X_then hK7 <| C_seq fun K9 hK9 => C_block <| C_region <| Rp (pu_move rfl) <| Rp (pu_move rfl) <| Rp (pu_move rfl) <| Rp (pu_move rfl) <| Rp (pu_add (z := ((i + b : Nat) : Int)) rfl rfl (by rw [IntKind.wrap_i64]; omega)) <| Rp (pu_move rfl) <| Rp (pu_len Tryz.underlying37 rfl) <| Rp (pu_rem (z := (((i + b) % L.length : Nat) : Int)) rfl rfl (by omega) (by rfl)) ?_
  obtain ⟨s1, e_s1⟩ : ∃ q_, (L)[(i + b) % L.length]? = some q_ := ⟨_, List.getElem?_eq_getElem (by exact Nat.mod_lt _ hp1)⟩
  have ok_s1 := HS.get e_s1
  have okb_s1 := ok_s1.bs
  have bi_s1 : s1.ix < 256 := ok_s1.ix
  refine Rp (pu_indexAddrH (HS.keptNo kk1) Tryz.underlying37 (by kernel_rfl) rfl rfl rfl rfl e_s1) <| Rp (pu_loadHr (HS.keptNo kk1) e_s1 (by kernel_rfl) (by kernel_rfl) rfl) <| R_lo (lo_buildSlice (L := [.int .u8 ((s1.ix : Nat) : Int), .int .u32 ((s1.gen : Nat) : Int), .slice s1.A (s1.X.length) (s1.c)]) Tryz.underlying37 rfl (by kernel_rfl)) rfl ?_
  rintro _ w2 ⟨lit, rfl, N2⟩
  have k2 := N2.kp
  have kk2 := kk1.then_ k2
  have f_lit_2 := N2.bk
  have ob10 := (out_1.1.keptNo k2)
  have hat : w.heap.size ≤ w.heap.size := (kk0).size
  refine R_lo (lo_apps (L := turnT L b i) (M := [s1]) Tryz.underlying37 (by kernel_rfl) ob10 ob10.le.1 rfl rfl rfl (Ss.one (s := s1) f_lit_2 ((HS.keptNo kk2).ok s1 (List.mem_of_getElem? e_s1))) (turn_dat ob10 (Bs.alive ok_s1.bs (hx0 s1 (List.mem_of_getElem? e_s1))) hat (Nat.le_trans hat (Nat.le_trans out_1.2 k2.size))) (by simp) (by rw [turnT_length hp1]; simp; omega) (Nat.le_trans out_1.2 k2.size)) rfl ?_
  rintro _ w3 ⟨A_3, c_3, rfl, p3⟩
  have k3 := p3.kp
  have kk3 := kk2.trans k3 (fun i hi => .inr (Nat.le_trans (kk0).size hi))
  refine Rp (pu_assign rfl) <| R_nil <| X_in_normal <| X_then hK9 <| C_region <| Rp (pu_move rfl) <| Rp (pu_add (z := ((i + 1 : Nat) : Int)) rfl rfl (by rw [IntKind.wrap_i64]; omega)) <| Rp (pu_assign rfl) <| R_nil <| X_round (L.length - (i + 1)) [(0, .slice A (L.length) (c)), (1, .int .i64 ((b : Nat) : Int)), (4, .slice none (0) (0)), (5, .slice A_3 ((turnT L b (i + 1)).length) (c_3)), (6, .int .i64 (((i + 1) : Nat) : Int))] (by omega) (Sub.cons rfl (Sub.cons rfl (Sub.cons rfl (Sub.consE rfl (by rw [turnT_step e_s1]) (Sub.cons rfl (Sub.nil _)))))) ⟨i + 1, A_3, c_3, rfl, rfl, by omega, kk3, ⟨by rw [turnT_step e_s1]; exact p3.ob, (Nat.le_trans (Nat.le_trans out_1.2 k2.size) k3.size)⟩⟩
 ·
  refine C_exit <| X_then_exit (X_then_exit (X_in_eq ?_))
  exact X_then hK3 <| C_seq fun K11 hK11 => C_region <| Rp (pu_move rfl) <| Rp (pu_assign rfl) <| R_nil <| X_then hK11 <| C_ret <| X_ret1 (.inl rfl) rfl rfl (by have hE : i = L.length := (by omega); rw [← hE]; exact ⟨An, cn, rfl, (out_1.1).lowb ((kk0).size), kk1⟩)
theorem cer_open_short (b q nn ge : Nat) (A : Option Addr) (E : List Nat) (c : Nat) (A2 : Option Addr) (G : List Nat) (c2 : Nat) (A3 : Option Addr) (L : List Shr) (c3 : Nat) (w : World) (HE : Bs w A E) (hc : E.length ≤ c) (HG : Bs w A2 G) (hc2 : G.length ≤ c2) (HS : Ss w A3 L) (hm : (2 ≤ q + 1 ∧ q + 1 ≤ nn ∧ nn ≤ 255) ∧ ge < 4294967296 ∧ ge ≠ 0 ∧ L.length < q + 1) : Ret Tryz.prog 10 #[.pointer (some ⟨b, 0, none⟩), .agg ([.int .i64 ((q + 1 : Nat) : Int), .int .i64 ((nn : Nat) : Int), .int .u32 ((ge : Nat) : Int), .slice A (E.length) (c), .slice A2 (G.length) (c2), .slice A3 (L.length) (c3)] : List Value).toArray] w (fun v w' => v = .tuple #[.slice none 0 0, .agg ([.slice none (0) (0)] : List Value).toArray, errE 2] ∧ Kp No w w') := by
 obtain ⟨hP, hge, hgn, hrest⟩ := hm
 have kk0 := Kp.refl No w
 refine enter (n := 68) [.pointer (some ⟨b, 0, none⟩), .agg ([.int .i64 ((q + 1 : Nat) : Int), .int .i64 ((nn : Nat) : Int), .int .u32 ((ge : Nat) : Int), .slice A (E.length) (c), .slice A2 (G.length) (c2), .slice A3 (L.length) (c3)] : List Value).toArray] Tryz.func10 rfl rfl rfl ?_
 show Cw _ _ _ _ [(0, .pointer (some ⟨b, 0, none⟩)), (1, .agg ([.int .i64 ((q + 1 : Nat) : Int), .int .i64 ((nn : Nat) : Int), .int .u32 ((ge : Nat) : Int), .slice A (E.length) (c), .slice A2 (G.length) (c2), .slice A3 (L.length) (c3)] : List Value).toArray)] _
 refine C_seq fun K1 hK1 => C_region <| R_lo (lo_box (L := [.int .i64 ((q + 1 : Nat) : Int), .int .i64 ((nn : Nat) : Int), .int .u32 ((ge : Nat) : Int), .slice A (E.length) (c), .slice A2 (G.length) (c2), .slice A3 (L.length) (c3)]) rfl rfl) rfl ?_
 rintro _ w1 ⟨pb, rfl, N1⟩
 have k1 := N1.kp
 have kk1 := kk0.then_ k1
 have f_pb_1 := N1.bk
 refine Rp (pu_assign rfl) <| R_lo (lo_alloc (L := [.slice none (0) (0)]) (by kernel_rfl)) rfl ?_
 rintro _ w2 ⟨pr, rfl, N2⟩
 have k2 := N2.kp
 have kk2 := kk1.then_ k2
 have f_pr_2 := N2.bk
 refine Rp (pu_assign rfl) <| R_nil <| X_then hK1 <| C_seq fun K2 hK2 => C_seq fun K3 hK3 => C_region <| Rp (pu_move rfl) <| Rp (pu_eqlpn (by kernel_rfl) rfl rfl) <| Rp (pu_move rfl) <| Rg (pu_fieldAddr (off := 0) (o' := 0) (by kernel_rfl) rfl rfl) ?_
 have f4 := (f_pb_1.no k2)
 refine Rg (pu_loadMid (len := 3) (C := [.int .i64 ((q + 1 : Nat) : Int), .int .i64 ((nn : Nat) : Int), .int .u32 ((ge : Nat) : Int)]) f4 (by kernel_rfl) (by kernel_rfl) rfl rfl rfl) <| R_glo rfl rfl (lo_call (by kernel_rfl) rfl (config_check q nn ge _ hP hge hgn)) rfl ?_
 rintro _ w3 ⟨rfl, k3⟩
 have kk3 := kk2.then_ k3
 refine Rg (pu_neqnn (by kernel_rfl) rfl) <| Rp (pu_pickf rfl rfl) <| R_nil <| X_then hK3 <| C_false rfl <| C_skip <| X_then hK2 <| C_seq fun K5 hK5 => C_region <| Rp (pu_move rfl) <| Rp (pu_fieldAddr (off := 5) (o' := 5) (by kernel_rfl) rfl rfl) ?_
 have f6 := (f4.no k3)
 refine Rp (pu_loadK f6 (by kernel_rfl) rfl rfl) <| Rp (pu_fieldAddr (off := 0) (o' := 0) (by kernel_rfl) rfl rfl) <| Rp (pu_fieldAddr (off := 0) (o' := 0) (by kernel_rfl) rfl rfl) <| Rp (pu_loadMid (len := 3) (C := [.int .i64 ((q + 1 : Nat) : Int), .int .i64 ((nn : Nat) : Int), .int .u32 ((ge : Nat) : Int)]) f6 (by kernel_rfl) (by kernel_rfl) rfl rfl rfl) <| R_lo (lo_call (by kernel_rfl) rfl (shamir_combine_short b A3 L c3 q nn ge _ (HS.keptNo kk3) ⟨hP, hrest, hge, by omega⟩)) rfl ?_
 rintro _ w4 ⟨rfl, k4⟩
 have kk4 := kk3.then_ k4
 refine Rp (pu_move rfl) <| Rp (pu_extract rfl rfl) <| Rp (pu_extract rfl rfl) <| Rp (pu_assign rfl) <| Rp (pu_assign rfl) <| R_nil <| X_then hK5 <| C_seq fun K7 hK7 => C_seq fun K8 hK8 => C_region <| Rp (pu_move rfl) <| Rp (pu_neqin (by kernel_rfl) rfl rfl) <| R_nil <| X_then hK8 <| C_true rfl <| C_seq fun K9 hK9 => C_region <| Rp (pu_build (L := [.slice none (0) (0)]) rfl (by kernel_rfl)) <| Rp (pu_move rfl) <| Rp (pu_assign rfl) ?_
 have f10 := ((f_pr_2.no k3).no k4)
 refine R_lo0 (lo_storeRow (C := [.slice none (0) (0)]) f10 (by kernel_rfl) rfl rfl (by intro u hu; simp at hu; rcases hu with rfl <;> rfl) rfl) ?_
 rintro _ w5 kf5
 obtain ⟨k5, f_pr_5⟩ := kf5
 replace f_pr_5 : Bk w5 pr ([.slice none (0) (0)]) 46 := f_pr_5
 have kk5 := kk4.trans k5 (fun i hi => .inr (hi ▸ (Nat.le_trans kk1.size N2.le)))
 exact Rp (pu_assign rfl) <| R_nil <| X_then hK9 <| C_ret <| X_then_ret <| X_retTCT (len := 1) (.inl rfl) rfl rfl rfl f_pr_5 (by kernel_rfl) (by kernel_rfl) rfl rfl ⟨rfl, kk5⟩
theorem cer_open_gen (b q nn ge : Nat) (A : Option Addr) (E : List Nat) (c : Nat) (A2 : Option Addr) (G : List Nat) (c2 : Nat) (A3 : Option Addr) (L : List Shr) (c3 : Nat) (w : World) (HE : Bs w A E) (hc : E.length ≤ c) (HG : Bs w A2 G) (hc2 : G.length ≤ c2) (HS : Ss w A3 L) (hm : (2 ≤ q + 1 ∧ q + 1 ≤ nn ∧ nn ≤ 255) ∧ ge < 4294967296 ∧ ge ≠ 0 ∧ (q + 1 ≤ L.length ∧ L.length ≤ c3 ∧ L.length < 9223372036854775808) ∧ ¬ (∀ s ∈ L.take (q + 1), s.gen = ge)) : Ret Tryz.prog 10 #[.pointer (some ⟨b, 0, none⟩), .agg ([.int .i64 ((q + 1 : Nat) : Int), .int .i64 ((nn : Nat) : Int), .int .u32 ((ge : Nat) : Int), .slice A (E.length) (c), .slice A2 (G.length) (c2), .slice A3 (L.length) (c3)] : List Value).toArray] w (fun v w' => v = .tuple #[.slice none 0 0, .agg ([.slice none (0) (0)] : List Value).toArray, errE 14] ∧ Kp No w w') := by
 obtain ⟨hP, hge, hgn, hrest⟩ := hm
 have kk0 := Kp.refl No w
 refine enter (n := 68) [.pointer (some ⟨b, 0, none⟩), .agg ([.int .i64 ((q + 1 : Nat) : Int), .int .i64 ((nn : Nat) : Int), .int .u32 ((ge : Nat) : Int), .slice A (E.length) (c), .slice A2 (G.length) (c2), .slice A3 (L.length) (c3)] : List Value).toArray] Tryz.func10 rfl rfl rfl ?_
 show Cw _ _ _ _ [(0, .pointer (some ⟨b, 0, none⟩)), (1, .agg ([.int .i64 ((q + 1 : Nat) : Int), .int .i64 ((nn : Nat) : Int), .int .u32 ((ge : Nat) : Int), .slice A (E.length) (c), .slice A2 (G.length) (c2), .slice A3 (L.length) (c3)] : List Value).toArray)] _
 refine C_seq fun K1 hK1 => C_region <| R_lo (lo_box (L := [.int .i64 ((q + 1 : Nat) : Int), .int .i64 ((nn : Nat) : Int), .int .u32 ((ge : Nat) : Int), .slice A (E.length) (c), .slice A2 (G.length) (c2), .slice A3 (L.length) (c3)]) rfl rfl) rfl ?_
 rintro _ w1 ⟨pb, rfl, N1⟩
 have k1 := N1.kp
 have kk1 := kk0.then_ k1
 have f_pb_1 := N1.bk
 refine Rp (pu_assign rfl) <| R_lo (lo_alloc (L := [.slice none (0) (0)]) (by kernel_rfl)) rfl ?_
 rintro _ w2 ⟨pr, rfl, N2⟩
 have k2 := N2.kp
 have kk2 := kk1.then_ k2
 have f_pr_2 := N2.bk
 refine Rp (pu_assign rfl) <| R_nil <| X_then hK1 <| C_seq fun K2 hK2 => C_seq fun K3 hK3 => C_region <| Rp (pu_move rfl) <| Rp (pu_eqlpn (by kernel_rfl) rfl rfl) <| Rp (pu_move rfl) <| Rg (pu_fieldAddr (off := 0) (o' := 0) (by kernel_rfl) rfl rfl) ?_
 have f4 := (f_pb_1.no k2)
 refine Rg (pu_loadMid (len := 3) (C := [.int .i64 ((q + 1 : Nat) : Int), .int .i64 ((nn : Nat) : Int), .int .u32 ((ge : Nat) : Int)]) f4 (by kernel_rfl) (by kernel_rfl) rfl rfl rfl) <| R_glo rfl rfl (lo_call (by kernel_rfl) rfl (config_check q nn ge _ hP hge hgn)) rfl ?_
 rintro _ w3 ⟨rfl, k3⟩
 have kk3 := kk2.then_ k3
 refine Rg (pu_neqnn (by kernel_rfl) rfl) <| Rp (pu_pickf rfl rfl) <| R_nil <| X_then hK3 <| C_false rfl <| C_skip <| X_then hK2 <| C_seq fun K5 hK5 => C_region <| Rp (pu_move rfl) <| Rp (pu_fieldAddr (off := 5) (o' := 5) (by kernel_rfl) rfl rfl) ?_
 have f6 := (f4.no k3)
 refine Rp (pu_loadK f6 (by kernel_rfl) rfl rfl) <| Rp (pu_fieldAddr (off := 0) (o' := 0) (by kernel_rfl) rfl rfl) <| Rp (pu_fieldAddr (off := 0) (o' := 0) (by kernel_rfl) rfl rfl) <| Rp (pu_loadMid (len := 3) (C := [.int .i64 ((q + 1 : Nat) : Int), .int .i64 ((nn : Nat) : Int), .int .u32 ((ge : Nat) : Int)]) f6 (by kernel_rfl) (by kernel_rfl) rfl rfl rfl) <| R_lo (lo_call (by kernel_rfl) rfl (shamir_combine_gen b A3 L c3 q nn ge _ (HS.keptNo kk3) ⟨hP, hrest.1, hge, hrest.2⟩)) rfl ?_
 rintro _ w4 ⟨rfl, k4⟩
 have kk4 := kk3.then_ k4
 refine Rp (pu_move rfl) <| Rp (pu_extract rfl rfl) <| Rp (pu_extract rfl rfl) <| Rp (pu_assign rfl) <| Rp (pu_assign rfl) <| R_nil <| X_then hK5 <| C_seq fun K7 hK7 => C_seq fun K8 hK8 => C_region <| Rp (pu_move rfl) <| Rp (pu_neqin (by kernel_rfl) rfl rfl) <| R_nil <| X_then hK8 <| C_true rfl <| C_seq fun K9 hK9 => C_region <| Rp (pu_build (L := [.slice none (0) (0)]) rfl (by kernel_rfl)) <| Rp (pu_move rfl) <| Rp (pu_assign rfl) ?_
 have f10 := ((f_pr_2.no k3).no k4)
 refine R_lo0 (lo_storeRow (C := [.slice none (0) (0)]) f10 (by kernel_rfl) rfl rfl (by intro u hu; simp at hu; rcases hu with rfl <;> rfl) rfl) ?_
 rintro _ w5 kf5
 obtain ⟨k5, f_pr_5⟩ := kf5
 replace f_pr_5 : Bk w5 pr ([.slice none (0) (0)]) 46 := f_pr_5
 have kk5 := kk4.trans k5 (fun i hi => .inr (hi ▸ (Nat.le_trans kk1.size N2.le)))
 exact Rp (pu_assign rfl) <| R_nil <| X_then hK9 <| C_ret <| X_then_ret <| X_retTCT (len := 1) (.inl rfl) rfl rfl rfl f_pr_5 (by kernel_rfl) (by kernel_rfl) rfl rfl ⟨rfl, kk5⟩
end Go.Proofs.YtlkbkgghfhoggaaGreatDoor
