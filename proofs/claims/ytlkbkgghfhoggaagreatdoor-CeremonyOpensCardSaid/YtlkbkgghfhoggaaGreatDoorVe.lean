/- The body of CeremonyOpens. -/
import Derived.Test.YtlkbkgghfhoggaaGreatDoorVd
import Derived.Test.YtlkbkgghfhoggaaGreatDoorVs
set_option linter.unusedVariables false
set_option linter.unusedSimpArgs false
set_option maxHeartbeats 8000000
set_option maxRecDepth 100000
namespace Go.Proofs.YtlkbkgghfhoggaaGreatDoor
open Go.RowKit Gm
theorem cut_more {D : List Nat} {n k : Nat} (h : D.length = 96 + n) (hk : k ≤ n) : ∃ U R Y X Z : List Nat, D = U ++ (R ++ (Y ++ (X ++ Z))) ∧ U.length = 32 ∧ R.length = 32 ∧ Y.length = 32 ∧ X.length = k := by
 obtain ⟨U, R, Y, X, e, h1, h2, h3, h4⟩ := cut_draws h
 exact ⟨U, R, Y, X.take k, X.drop k, by rw [List.take_append_drop]; exact e, h1, h2, h3, by rw [List.length_take]; omega⟩
theorem cut_two2 {D : List Nat} {n k : Nat} (h : D.length = 32 + n) (hk : k ≤ n) : ∃ U X Z : List Nat, D = U ++ (X ++ Z) ∧ U.length = 32 ∧ X.length = k := by
 obtain ⟨U, X, e, h1, h2⟩ := cut_two h
 exact ⟨U, X.take k, X.drop k, by rw [List.take_append_drop]; exact e, h1, by rw [List.length_take]; omega⟩
theorem part_pos {L : List Shr} {U X : List Nat} {q ge n : Nat} (hK : L.map Shr.key = ptK U X q ge n) (hU : U.length = 32) : ∀ s ∈ L, 0 < s.X.length ∧ s.X.length < 1000000 := fun s hs => by rw [(part_of hK hs).2.2, ptX_length, hU]; decide
theorem key_gen {L M : List Shr} {U X : List Nat} {q k ge n : Nat} (hK : L.map Shr.key = ptK U X q ge n) (hsub : ∀ s ∈ M, s ∈ L) (hl : k + 1 ≤ M.length) (g2 : Nat) (hg : ge ≠ g2) : ¬ (∀ s ∈ M.take (k + 1), s.gen = g2) := fun h => by
 obtain ⟨s, e⟩ : ∃ s, M[0]? = some s := ⟨_, List.getElem?_eq_getElem (by omega)⟩
 have h1 : s ∈ M.take (k + 1) := List.mem_of_getElem? (i := 0) (by rw [List.getElem?_take, if_pos (by omega)]; exact e)
 exact hg ((part_of hK (hsub s (List.mem_of_getElem? e))).1.symm.trans (h s h1))
theorem cer_open_old (b q nn ge : Nat) (A : Option Addr) (E : List Nat) (c : Nat) (A2 : Option Addr) (G : List Nat) (c2 : Nat) (A3 : Option Addr) (L : List Shr) (c3 : Nat) (w : World) (HE : Bs w A E) (hc : E.length ≤ c) (HG : Bs w A2 G) (hc2 : G.length ≤ c2) (HS : Ss w A3 L) (hm : (2 ≤ q + 1 ∧ q + 1 ≤ nn ∧ nn ≤ 255) ∧ ge < 4294967296 ∧ ge ≠ 0 ∧ (L.length ≤ c3 ∧ L.length < 9223372036854775808) ∧ (q + 1 ≤ L.length → ¬ (∀ s ∈ L.take (q + 1), s.gen = ge))) : Ret Tryz.prog 10 #[.pointer (some ⟨b, 0, none⟩), .agg ([.int .i64 ((q + 1 : Nat) : Int), .int .i64 ((nn : Nat) : Int), .int .u32 ((ge : Nat) : Int), .slice A (E.length) (c), .slice A2 (G.length) (c2), .slice A3 (L.length) (c3)] : List Value).toArray] w (fun v w' => ∃ eo : Nat, v = .tuple #[.slice none 0 0, .agg ([.slice none (0) (0)] : List Value).toArray, errE eo] ∧ (eo = 14 ∨ L.length < q + 1 ∧ eo = 2) ∧ Kp No w w') := by
 by_cases h : L.length < q + 1
 ·
  exact (cer_open_short b q nn ge A E c A2 G c2 A3 L c3 w HE hc HG hc2 HS ⟨hm.1, hm.2.1, hm.2.2.1, h⟩).mono fun v w' hv => ⟨2, hv.1, .inr ⟨h, rfl⟩, hv.2⟩
 ·
  exact (cer_open_gen b q nn ge A E c A2 G c2 A3 L c3 w HE hc HG hc2 HS ⟨hm.1, hm.2.1, hm.2.2.1, ⟨by omega, hm.2.2.2.1.1, hm.2.2.2.1.2⟩, hm.2.2.2.2 (by omega)⟩).mono fun v w' hv => ⟨14, hv.1, .inl rfl, hv.2⟩
theorem ceremonyOpens_ (ka : Int) (hka : (Lit.int .i64 ka).wf = true) (na : Int) (hna : (Lit.int .i64 na).wf = true) (A : Option Addr) (l : List Nat) (c : Nat) (A2 : Option Addr) (l2 : List Nat) (c2 : Nat) (kb : Int) (hkb : (Lit.int .i64 kb).wf = true) (nb : Int) (hnb : (Lit.int .i64 nb).wf = true) (A3 : Option Addr) (m : List Nat) (c3 : Nat) (A4 : Option Addr) (m2 : List Nat) (c4 : Nat) (t : Nat) (ht : t < 256) (w : World) (HA : Bs w A l) (ha : l.length ≤ c) (HB : Bs w A2 l2) (hb : l2.length ≤ c2) (HC : Bs w A3 m) (hc : m.length ≤ c3) (HD : Bs w A4 m2) (hd : m2.length ≤ c4) (hG : Gt w) : Ret Tryz.prog 4 #[.agg ([.int .i64 (ka), .int .i64 (na), .slice A (l.length) (c), .slice A2 (l2.length) (c2)] : List Value).toArray, .agg ([.int .i64 (kb), .int .i64 (nb), .slice A3 (m.length) (c3), .slice A4 (m2.length) (c4)] : List Value).toArray, .int .u8 ((t : Nat) : Int)] w (fun v w' => v = .bool true ∧ Kp No w w') := by
 have kk0 := Kp.refl No w
 refine enter (n := 290) [.agg ([.int .i64 (ka), .int .i64 (na), .slice A (l.length) (c), .slice A2 (l2.length) (c2)] : List Value).toArray, .agg ([.int .i64 (kb), .int .i64 (nb), .slice A3 (m.length) (c3), .slice A4 (m2.length) (c4)] : List Value).toArray, .int .u8 ((t : Nat) : Int)] Tryz.func4 rfl rfl rfl ?_
 show Cw _ _ _ _ [(0, .agg ([.int .i64 (ka), .int .i64 (na), .slice A (l.length) (c), .slice A2 (l2.length) (c2)] : List Value).toArray), (1, .agg ([.int .i64 (kb), .int .i64 (nb), .slice A3 (m.length) (c3), .slice A4 (m2.length) (c4)] : List Value).toArray), (2, .int .u8 ((t : Nat) : Int))] _
 refine C_seq fun K1 hK1 => C_region <| R_lo (lo_box (L := [.int .i64 (ka), .int .i64 (na), .slice A (l.length) (c), .slice A2 (l2.length) (c2)]) rfl rfl) rfl ?_
 rintro _ w1 ⟨pa, rfl, N1⟩
 have k1 := N1.kp
 have kk1 := kk0.then_ k1
 have f_pa_1 := N1.bk
 have o2 := (hG.no k1)
 refine R_lo (lo_box (L := [.int .i64 (kb), .int .i64 (nb), .slice A3 (m.length) (c3), .slice A4 (m2.length) (c4)]) rfl rfl) rfl ?_
 rintro _ w2 ⟨pb, rfl, N2⟩
 have k2 := N2.kp
 have kk2 := kk1.then_ k2
 have f_pb_2 := N2.bk
 refine Rp (pu_assign rfl) <| R_nil <| X_then hK1 <| C_seq fun K3 hK3 => C_region <| Rp (pu_fieldAddr (off := 0) (o' := 0) (by kernel_rfl) rfl rfl) ?_
 have f4 := (f_pa_1.no k2)
 refine Rp (pu_loadK f4 (by kernel_rfl) rfl rfl) ?_
 obtain ⟨u, hu, hul⟩ : ∃ u : Nat, (u : Int) = ka % 18446744073709551616 ∧ u < 18446744073709551616 := ⟨(ka % 18446744073709551616).toNat, by omega, by omega⟩
 refine Rp (pu_conv (z := ((u : Nat) : Int)) Tryz.underlying3 Tryz.underlying25 rfl (by rw [IntKind.wrap_u64]; omega)) <| Rp (pu_rem (z := ((u % 4 : Nat) : Int)) rfl rfl (by omega) (by rfl)) <| Rp (pu_conv (z := ((u % 4 : Nat) : Int)) Tryz.underlying25 Tryz.underlying3 rfl (by rw [IntKind.wrap_i64]; omega)) ?_
 obtain ⟨q, hq⟩ : ∃ m : Nat, 2 + u % 4 = m + 1 := ⟨1 + u % 4, by omega⟩
 refine Rp (pu_add (z := ((q + 1 : Nat) : Int)) rfl rfl (by rw [IntKind.wrap_i64]; omega)) <| Rp (pu_assign rfl) <| Rp (pu_assign rfl) <| R_nil <| X_then hK3 <| C_seq fun K5 hK5 => C_region <| Rp (pu_move rfl) <| Rp (pu_fieldAddr (off := 1) (o' := 1) (by kernel_rfl) rfl rfl) <| Rp (pu_loadK f4 (by kernel_rfl) rfl rfl) ?_
 obtain ⟨v, hv, hvl⟩ : ∃ u : Nat, (u : Int) = na % 18446744073709551616 ∧ u < 18446744073709551616 := ⟨(na % 18446744073709551616).toNat, by omega, by omega⟩
 refine Rp (pu_conv (z := ((v : Nat) : Int)) Tryz.underlying3 Tryz.underlying25 rfl (by rw [IntKind.wrap_u64]; omega)) <| Rp (pu_rem (z := ((v % 4 : Nat) : Int)) rfl rfl (by omega) (by rfl)) <| Rp (pu_conv (z := ((v % 4 : Nat) : Int)) Tryz.underlying25 Tryz.underlying3 rfl (by rw [IntKind.wrap_i64]; omega)) ?_
 obtain ⟨nn, hnn⟩ : ∃ m : Nat, q + 1 + v % 4 = m := ⟨q + 1 + v % 4, by omega⟩
 refine Rp (pu_add (z := ((nn : Nat) : Int)) rfl rfl (by rw [IntKind.wrap_i64]; omega)) <| Rp (pu_assign rfl) <| R_nil <| X_then hK5 <| C_seq fun K6 hK6 => C_region <| Rp (pu_fieldAddr (off := 0) (o' := 0) (by kernel_rfl) rfl rfl) <| Rp (pu_loadK f_pb_2 (by kernel_rfl) rfl rfl) ?_
 obtain ⟨u2, hu2, hu2l⟩ : ∃ u : Nat, (u : Int) = kb % 18446744073709551616 ∧ u < 18446744073709551616 := ⟨(kb % 18446744073709551616).toNat, by omega, by omega⟩
 refine Rp (pu_conv (z := ((u2 : Nat) : Int)) Tryz.underlying3 Tryz.underlying25 rfl (by rw [IntKind.wrap_u64]; omega)) <| Rp (pu_rem (z := ((u2 % 4 : Nat) : Int)) rfl rfl (by omega) (by rfl)) <| Rp (pu_conv (z := ((u2 % 4 : Nat) : Int)) Tryz.underlying25 Tryz.underlying3 rfl (by rw [IntKind.wrap_i64]; omega)) ?_
 obtain ⟨p, hp⟩ : ∃ m : Nat, 2 + u2 % 4 = m + 1 := ⟨1 + u2 % 4, by omega⟩
 refine Rp (pu_add (z := ((p + 1 : Nat) : Int)) rfl rfl (by rw [IntKind.wrap_i64]; omega)) <| Rp (pu_assign rfl) <| Rp (pu_assign rfl) <| R_nil <| X_then hK6 <| C_seq fun K7 hK7 => C_region <| Rp (pu_move rfl) <| Rp (pu_fieldAddr (off := 1) (o' := 1) (by kernel_rfl) rfl rfl) <| Rp (pu_loadK f_pb_2 (by kernel_rfl) rfl rfl) ?_
 obtain ⟨v2, hv2, hv2l⟩ : ∃ u : Nat, (u : Int) = nb % 18446744073709551616 ∧ u < 18446744073709551616 := ⟨(nb % 18446744073709551616).toNat, by omega, by omega⟩
 refine Rp (pu_conv (z := ((v2 : Nat) : Int)) Tryz.underlying3 Tryz.underlying25 rfl (by rw [IntKind.wrap_u64]; omega)) <| Rp (pu_rem (z := ((v2 % 4 : Nat) : Int)) rfl rfl (by omega) (by rfl)) <| Rp (pu_conv (z := ((v2 % 4 : Nat) : Int)) Tryz.underlying25 Tryz.underlying3 rfl (by rw [IntKind.wrap_i64]; omega)) ?_
 obtain ⟨mm, hmm⟩ : ∃ m : Nat, p + 1 + v2 % 4 = m := ⟨p + 1 + v2 % 4, by omega⟩
 refine Rp (pu_add (z := ((mm : Nat) : Int)) rfl rfl (by rw [IntKind.wrap_i64]; omega)) <| Rp (pu_assign rfl) <| R_nil <| X_then hK7 <| C_seq fun K8 hK8 => C_region ?_
 have o9 := (o2.no k2)
 refine R_lo (lo_call (by kernel_rfl) rfl (gf_new _)) rfl ?_
 rintro _ w3 ⟨b5_0, rfl, le3, T3, k3⟩
 have kk3 := kk2.then_ k3
 have ne_b5_0_pa := Nat.ne_of_gt (Nat.lt_of_lt_of_le f4.lt le3)
 have ne_b5_0_pb := Nat.ne_of_gt (Nat.lt_of_lt_of_le f_pb_2.lt le3)
 have ne_b5_0_0 := Nat.ne_of_gt (Nat.lt_of_lt_of_le o9.lt le3)
 refine Rp (pu_assign rfl) <| R_nil <| X_then hK8 <| C_seq fun K10 hK10 => C_region <| Rp (pu_move rfl) <| Rp (pu_move rfl) <| Rp (pu_move rfl) <| Rp (pu_fieldAddr (off := 2) (o' := 2) (by kernel_rfl) rfl rfl) ?_
 have f11 := (f4.no k3)
 refine Rp (pu_loadK f11 (by kernel_rfl) rfl rfl) ?_
 have f12 := (f_pb_2.no k3)
 have o13 := (o9.no k3)
 refine R_lo (lo_call (by kernel_rfl) rfl (cer_full A l c 600 _ (HA.keptNo kk3) ha (by omega))) rfl ?_
 rintro _ w4 ⟨A_d, c_d, rfl, Q4, k4⟩
 have kk4 := kk3.then_ k4
 obtain ⟨U, R, Y, X, Z, hd, hU, hR, hY, hX⟩ := cut_more (n := 504) (k := q * 32) (fullB_length l 600) (by omega)
 have bD := (fullB_by 600 HA.byte).2
 rw [hd] at bD
 have bU : Bl U := fun v hv => bD v (by simp [hv]); have bY : By 32 Y := ⟨hY, fun v hv => bD v (by simp [hv])⟩; have bX : Bl X := fun v hv => bD v (by simp [hv])
 have hP12 : 2 ≤ q + 1 ∧ q + 1 ≤ nn ∧ nn ≤ 12 := by omega
 have hPY : 2 ≤ q + 1 ∧ q + 1 ≤ nn ∧ nn ≤ 255 := by omega
 have hQ12 : 2 ≤ p + 1 ∧ p + 1 ≤ mm ∧ mm ≤ 12 := by omega
 have hQY : 2 ≤ p + 1 ∧ p + 1 ≤ mm ∧ mm ≤ 255 := by omega
 have hfl := fullB_length l 600
 have o15 := (T3.no k4)
 have f16 := (f11.no k4)
 have f17 := (f12.no k4)
 have o18 := (o13.no k4)
 refine R_lo (lo_call (by kernel_rfl) rfl (cer_init b5_0 q nn A_d (fullB l 600) c_d U R Y X Z _ Q4.bs Q4.le.2 ⟨hd, hP12, hU, hR, hY, hX⟩ (Aw.ofOb Q4 (by have := T3.lt; omega)) o15)) rfl ?_
 rintro _ w5 ⟨A_ex, c_ex, A_rx, c_rx, A_px, c_px, L_px, rfl, Q5, R5, S5, hK_px, T5, k5⟩
 have kk5 := kk4.trans k5 (fun i hi => .inr (hi ▸ (Nat.le_trans kk2.size le3)))
 have hl_px := (key_len hK_px).trans (ptK_length ..)
 refine Rp (pu_move rfl) <| Rp (pu_extract rfl rfl) <| Rp (pu_extract rfl rfl) ?_
 have f25 := (f16.on k5 (Ne.symm ne_b5_0_pa))
 have f26 := (f17.on k5 (Ne.symm ne_b5_0_pb))
 have o27 := (o18.on k5 (Ne.symm ne_b5_0_0))
 refine R_lo (lo_alloc (L := [.int .i64 0, .int .i64 0, .int .u32 0, .slice none (0) (0), .slice none (0) (0), .slice none (0) (0)]) (by kernel_rfl)) rfl ?_
 rintro _ w6 ⟨mx, rfl, N6⟩
 have k6 := N6.kp
 have kk6 := kk5.then_ k6
 have ne_mx_pa := Nat.ne_of_gt (Nat.lt_of_lt_of_le f25.lt N6.le)
 have ne_mx_pb := Nat.ne_of_gt (Nat.lt_of_lt_of_le f26.lt N6.le)
 have ne_mx_0 := Nat.ne_of_gt (Nat.lt_of_lt_of_le o27.lt N6.le)
 have ne_mx_b5_0 := Nat.ne_of_gt (Nat.lt_of_lt_of_le T5.lt N6.le)
 have f_mx_6 := N6.bk
 refine R_lo0 (lo_storeRow (C := [.int .i64 ((q + 1 : Nat) : Int), .int .i64 ((nn : Nat) : Int), .int .u32 1, .slice A_ex ((boxE U R 1).length) (c_ex), .slice A_rx ((boxR R (encR [(1, Y)])).length) (c_rx), .slice A_px ((L_px).length) (c_px)]) f_mx_6 (by kernel_rfl) rfl rfl (by intro u hu; simp at hu; rcases hu with rfl | rfl | rfl | rfl | rfl | rfl <;> rfl) rfl) ?_
 rintro _ w7 kf7
 obtain ⟨k7, f_mx_7⟩ := kf7
 replace f_mx_7 : Bk w7 mx ([.int .i64 ((q + 1 : Nat) : Int), .int .i64 ((nn : Nat) : Int), .int .u32 1, .slice A_ex ((boxE U R 1).length) (c_ex), .slice A_rx ((boxR R (encR [(1, Y)])).length) (c_rx), .slice A_px ((L_px).length) (c_px)]) 39 := f_mx_7
 have kk7 := kk6.trans k7 (fun i hi => .inr (hi ▸ (Nat.le_trans kk5.size N6.le)))
 refine Rp (pu_assign rfl) <| R_nil <| X_then hK10 <| C_seq fun K29 hK29 => C_seq fun K30 hK30 => C_region <| Rp (pu_move rfl) <| Rp (pu_neqnn (by kernel_rfl) rfl) <| Rp (pu_move rfl) <| Rg (pu_fieldAddr (off := 5) (o' := 5) (by kernel_rfl) rfl rfl) <| Rg (pu_loadK f_mx_7 (by kernel_rfl) rfl rfl) <| Rg (pu_len Tryz.underlying37 rfl) <| Rg (pu_move rfl) <| Rg (pu_false (pu_neq (p := ((L_px).length) = nn) rfl rfl (by omega)) (fun h => h hl_px)) <| Rp (pu_pickf rfl rfl) <| R_nil <| X_then hK30 <| C_false rfl <| C_skip <| X_then hK29 <| C_seq fun K31 hK31 => C_region <| Rp (pu_fieldAddr (off := 5) (o' := 5) (by kernel_rfl) rfl rfl) <| Rp (pu_loadK f_mx_7 (by kernel_rfl) rfl rfl) <| Rp (pu_move rfl) <| Rp (pu_conv (z := ((t : Nat) : Int)) Tryz.underlying5 Tryz.underlying3 rfl (by have : t < 256 := ht; rw [IntKind.wrap_i64]; omega)) ?_
 have ob32 := ((S5.keptNo k6).onN k7 S5 N6.le)
 have f33 := ((f25.no k6).on k7 (Ne.symm ne_mx_pa))
 have f34 := ((f26.no k6).on k7 (Ne.symm ne_mx_pb))
 have o35 := ((o27.no k6).on k7 (Ne.symm ne_mx_0))
 have o36 := ((T5.no k6).on k7 (Ne.symm ne_mx_b5_0))
 have ob40 := ((Q5.keptNo k6).onN k7 Q5 N6.le)
 have ob42 := ((R5.keptNo k6).onN k7 R5 N6.le)
 refine R_lo (lo_call (by kernel_rfl) rfl (cer_turned A_px L_px c_px t _ ob32.ss ⟨⟨by omega, by omega⟩, fun s hs => (part_pos hK_px hU s hs).1, by omega⟩)) rfl ?_
 rintro _ w8 ⟨A_tx, c_tx, rfl, Q8, k8⟩
 have kk8 := kk7.then_ k8
 have z44 := k8.size
 have S_tx : Sw 51 w4.heap.size w8 w7.heap.size (.slice A_tx ((turnT L_px t L_px.length).length) (c_tx)) (turnT L_px t L_px.length) := ⟨Q8.own, Q8.ok, fun s hs x hx => ⟨(ob32.dat s (turnT_mem _ _ _ s hs) x hx).1, (Q8.dat s hs x hx).2⟩⟩
 refine Rp (pu_fieldAddr (off := 5) (o' := 5) (by kernel_rfl) rfl rfl) ?_
 have f45 := (f_mx_7.no k8)
 refine R_lo0 (lo_store f45 (by kernel_rfl) rfl rfl rfl (show 5 < 6 by decide)) ?_
 rintro _ w9 kf9
 obtain ⟨k9, f_mx_9⟩ := kf9
 replace f_mx_9 : Bk w9 mx ([.int .i64 ((q + 1 : Nat) : Int), .int .i64 ((nn : Nat) : Int), .int .u32 1, .slice A_ex ((boxE U R 1).length) (c_ex), .slice A_rx ((boxR R (encR [(1, Y)])).length) (c_rx), .slice A_tx ((turnT L_px t L_px.length).length) (c_tx)]) 39 := f_mx_9
 have kk9 := kk8.trans k9 (fun i hi => .inr (hi ▸ (Nat.le_trans kk5.size N6.le)))
 refine R_nil <| X_then hK31 <| C_seq (fun K46 hK46 => ?_)
 have hlt_tx : (turnT L_px t L_px.length).length = L_px.length := turnT_length (by omega) t _
 have hop_tx := opens_parts (M := turnT L_px t L_px.length) hK_px (turnT_mem _ _ _) (turnT_di _ (di_of hK_px)) (by omega) (by omega) hU hX bU bX
 obtain ⟨U2, X2, Z2, hd2, hU2, hX2⟩ := cut_two2 (n := 368) (k := p * 32) (fullB_length m 400) (by omega)
 have bD2 := (fullB_by 400 HC.byte).2
 rw [hd2] at bD2
 have bU2 : Bl U2 := fun v hv => bD2 v (by simp [hv]); have bX2 : Bl X2 := fun v hv => bD2 v (by simp [hv])
 have hel : (encR [((1, Y) : Tm)]).length = 35 := by unfold encR; rw [List.length_append, keys_len (ok_one bY)]; rfl
 have hrl : (boxR R (encR [(1, Y)])).length = 63 := by rw [boxR_len, hel]
 have hbl : (boxE U2 R 2).length = 48 := by rw [boxE_len, hR]
 have hM1 : mayR ([(1, Y)] ++ [([((1, Y) : Tm)].length + 1, U2)]) := may_snoc may_one (Nat.le_of_ble_eq_true rfl); have bU32 : By 32 U2 := ⟨hU2, bU2⟩; have hok2 := ok_snoc (ok_one bY) (Nat.le_of_ble_eq_true rfl) bU32
 refine C_region <| Rp (pu_move rfl) <| Rp (pu_loadRow (len := 6) f_mx_9 (by kernel_rfl) (by kernel_rfl) rfl rfl) ?_
 have ob47 := ((ob40.keptNo k8).onN k9 Q5 N6.le)
 have ob48 := ((ob42.keptNo k8).onN k9 R5 N6.le)
 have ob49 := (S_tx.kept k9 (fun b hb hc => by have h1 := (S_tx.lt b hb).1; have h2 := f_mx_7.lt; have : b = mx := hc; omega) (fun s hs x hx hc => by have h1 := (S5.dat s (turnT_mem _ _ _ s hs) x hx).2.1; have h2 := N6.le; have : x.block = mx := hc; omega))
 have o50 := ((o36.no k8).on k9 (Ne.symm ne_mx_b5_0))
 have f51 := ((f33.no k8).on k9 (Ne.symm ne_mx_pa))
 have f52 := ((f34.no k8).on k9 (Ne.symm ne_mx_pb))
 have o53 := ((o35.no k8).on k9 (Ne.symm ne_mx_0))
 refine R_lo (lo_call (by kernel_rfl) rfl (cer_open b5_0 q nn 1 A_ex (boxE U R 1) c_ex A_rx (boxR R (encR [(1, Y)])) c_rx A_tx (turnT L_px t L_px.length) c_tx U R ([(1, Y)]) _ ob47.bs ob47.le.2 ob48.bs ob48.le.2 ob49.ss ⟨hPY, ⟨by omega, ob49.le.2, by omega⟩, (by decide), (by decide), hop_tx.1, hop_tx.2, rfl, hR, rfl, may_one, (ok_one bY)⟩ (Aw.ofOb ob47 (by have := o15.lt; omega)) (Aw.ofOb ob48 (by have := o15.lt; omega)) (ob49.aw (by have := (And.intro o36.lt o15.lt); omega)) o50)) rfl ?_
 rintro _ w10 ⟨A_ro, c_ro, A_rn, c_rn, rfl, Q10, R10, T10, k10⟩
 have kk10 := kk9.trans k10 (fun i hi => .inr (hi ▸ (Nat.le_trans kk2.size le3)))
 have z66 := k10.size
 have z67 := k10.size
 refine Rp (pu_move rfl) <| Rp (pu_extract rfl rfl) <| Rp (pu_extract rfl rfl) <| Rp (pu_extract rfl rfl) ?_
 have f68 := (f51.on k10 (Ne.symm ne_b5_0_pa))
 have f69 := (f52.on k10 (Ne.symm ne_b5_0_pb))
 have f70 := (f_mx_9.on k10 ne_mx_b5_0)
 have o71 := (o53.on k10 (Ne.symm ne_b5_0_0))
 have ob73 := (ob47.on k10 (by have := o15.lt; omega))
 have ob74 := (ob48.on k10 (by have := o15.lt; omega))
 have ob76 := (ob49.on k10 (by have := (And.intro o36.lt o15.lt); omega))
 refine R_lo (lo_alloc (L := [.slice none (0) (0)]) (by kernel_rfl)) rfl ?_
 rintro _ w11 ⟨mr, rfl, N11⟩
 have k11 := N11.kp
 have kk11 := kk10.then_ k11
 have ne_mr_pa := Nat.ne_of_gt (Nat.lt_of_lt_of_le f68.lt N11.le)
 have ne_mr_pb := Nat.ne_of_gt (Nat.lt_of_lt_of_le f69.lt N11.le)
 have ne_mr_mx := Nat.ne_of_gt (Nat.lt_of_lt_of_le f70.lt N11.le)
 have ne_mr_0 := Nat.ne_of_gt (Nat.lt_of_lt_of_le o71.lt N11.le)
 have ne_mr_b5_0 := Nat.ne_of_gt (Nat.lt_of_lt_of_le T10.lt N11.le)
 have f_mr_11 := N11.bk
 refine Rp (pu_assign rfl) <| R_lo0 (lo_storeRow (C := [.slice A_rn (([(1, Y)]).length) (c_rn)]) f_mr_11 (by kernel_rfl) rfl rfl (by intro u hu; simp at hu; rcases hu with rfl <;> rfl) rfl) ?_
 rintro _ w12 kf12
 obtain ⟨k12, f_mr_12⟩ := kf12
 replace f_mr_12 : Bk w12 mr ([.slice A_rn (([(1, Y)]).length) (c_rn)]) 46 := f_mr_12
 have kk12 := kk11.trans k12 (fun i hi => .inr (hi ▸ (Nat.le_trans kk10.size N11.le)))
 refine Rp (pu_assign rfl) <| R_nil <| X_then hK46 ?_
 have f77 := ((f68.no k11).on k12 (Ne.symm ne_mr_pa))
 have f78 := ((f69.no k11).on k12 (Ne.symm ne_mr_pb))
 have f79 := ((f70.no k11).on k12 (Ne.symm ne_mr_mx))
 have o80 := ((o71.no k11).on k12 (Ne.symm ne_mr_0))
 have o81 := ((T10.no k11).on k12 (Ne.symm ne_mr_b5_0))
 refine C_cut (fun l_ wr => ∃ my : Nat, ∃ A_ey : Option Addr, ∃ c_ey : Nat, ∃ A_ry : Option Addr, ∃ c_ry : Nat, ∃ A_py : Option Addr, ∃ c_py : Nat, ∃ L_py : List Shr, (l_ = [(2, .int .u8 ((t : Nat) : Int)), (3, .pointer (some ⟨pa, 0, none⟩)), (4, .pointer (some ⟨pb, 0, none⟩)), (6, .bool false), (8, .int .i64 ((nn : Nat) : Int)), (9, .int .i64 ((p + 1 : Nat) : Int)), (10, .int .i64 ((mm : Nat) : Int)), (11, .pointer (some ⟨b5_0, 0, none⟩)), (12, .pointer (some ⟨mx, 0, none⟩)), (14, .slice A_ro ((R).length) (c_ro)), (15, .pointer (some ⟨mr, 0, none⟩)), (16, .nilIface), (17, .pointer (some ⟨my, 0, none⟩)), (18, .nilIface)]) ∧ (L_py.map Shr.key = ptK U2 X2 p 2 mm) ∧ (L_py.length = mm) ∧ (my ≠ 0) ∧ (my ≠ b5_0) ∧ (my ≠ mr) ∧ (my ≠ mx) ∧ (my ≠ pa) ∧ (my ≠ pb) ∧ (Kp No w wr) ∧ (Bk wr pa ([.int .i64 (ka), .int .i64 (na), .slice A (l.length) (c), .slice A2 (l2.length) (c2)]) 24) ∧ (Bk wr pb ([.int .i64 (kb), .int .i64 (nb), .slice A3 (m.length) (c3), .slice A4 (m2.length) (c4)]) 24) ∧ (Bk wr mx ([.int .i64 ((q + 1 : Nat) : Int), .int .i64 ((nn : Nat) : Int), .int .u32 1, .slice A_ex ((boxE U R 1).length) (c_ex), .slice A_rx ((boxR R (encR [(1, Y)])).length) (c_rx), .slice A_tx ((turnT L_px t L_px.length).length) (c_tx)]) 39) ∧ (Bk wr mr ([.slice A_rn (([(1, Y)]).length) (c_rn)]) 46) ∧ (Bk wr my ([.int .i64 ((p + 1 : Nat) : Int), .int .i64 ((mm : Nat) : Int), .int .u32 2, .slice A_ey ((boxE U2 R 2).length) (c_ey), .slice A_ry ((boxR R (encR [(1, Y)])).length) (c_ry), .slice A_py ((L_py).length) (c_py)]) 39) ∧ (Sw 51 w4.heap.size wr w7.heap.size (.slice A_tx ((turnT L_px t L_px.length).length) (c_tx)) (turnT L_px t L_px.length) ∧ w7.heap.size ≤ (wr).heap.size) ∧ (Ob wr w9.heap.size (.slice A_ro ((R).length) (c_ro)) (R) ∧ w9.heap.size ≤ (wr).heap.size) ∧ (Ro tmC 33 58 wr w9.heap.size (.slice A_rn (([(1, Y)]).length) (c_rn)) ([(1, Y)]) ∧ w9.heap.size ≤ (wr).heap.size) ∧ (Ob wr w12.heap.size (.slice A_ey ((boxE U2 R 2).length) (c_ey)) (boxE U2 R 2) ∧ w12.heap.size ≤ (wr).heap.size) ∧ (Ob wr w12.heap.size (.slice A_ry ((boxR R (encR [(1, Y)])).length) (c_ry)) (boxR R (encR [(1, Y)])) ∧ w12.heap.size ≤ (wr).heap.size) ∧ (Sw 51 w12.heap.size wr w12.heap.size (.slice A_py ((L_py).length) (c_py)) (L_py) ∧ w12.heap.size ≤ (wr).heap.size) ∧ (Gt wr) ∧ (Tb wr b5_0)) (fun K_ hK_ => ?_) ?_
 ·
  have ob82 := ((Q10.keptNo k11).onN k12 Q10 N11.le)
  refine D_begin (fun W => Kp No w W ∧ Bk W pa ([.int .i64 (ka), .int .i64 (na), .slice A (l.length) (c), .slice A2 (l2.length) (c2)]) 24 ∧ Bk W pb ([.int .i64 (kb), .int .i64 (nb), .slice A3 (m.length) (c3), .slice A4 (m2.length) (c4)]) 24 ∧ Bk W mx ([.int .i64 ((q + 1 : Nat) : Int), .int .i64 ((nn : Nat) : Int), .int .u32 1, .slice A_ex ((boxE U R 1).length) (c_ex), .slice A_rx ((boxR R (encR [(1, Y)])).length) (c_rx), .slice A_tx ((turnT L_px t L_px.length).length) (c_tx)]) 39 ∧ Bk W mr ([.slice A_rn (([(1, Y)]).length) (c_rn)]) 46 ∧ Gt W ∧ Tb W b5_0 ∧ Ob W w9.heap.size (.slice A_ro ((R).length) (c_ro)) (R)) 15 rfl (by kernel_rfl) ⟨kk12.drew, f77.draw, f78.draw, f79.draw, f_mr_12.draw, o80.draw, o81.draw, ob82.draw⟩ ?_
  intro w13 k13 _
  have kk13 := kk12.then_ k13
  refine Dt 0 rfl (fun W hS => pu_move rfl) <| Dt 1 rfl (fun W hS => pu_loadRow (len := 6) hS.2.2.2.1 (by kernel_rfl) (by kernel_rfl) rfl rfl) <| Dt 2 rfl (fun W hS => pu_move rfl) <| Dt 3 rfl (fun W hS => pu_move rfl) <| Dt 4 rfl (fun W hS => pu_move rfl) <| Dt 5 rfl (fun W hS => pu_fieldAddr (off := 2) (o' := 2) (by kernel_rfl) rfl rfl) <| Dt 6 rfl (fun W hS => pu_loadK hS.2.2.1 (by kernel_rfl) rfl rfl) <| D_two 7 12 (by kernel_rfl) ?_ ?_
  ·
   have f83 : Bk w13 pa ([.int .i64 (ka), .int .i64 (na), .slice A (l.length) (c), .slice A2 (l2.length) (c2)]) 24 := (f77.no k13)
   have f84 := (f78.no k13)
   have f85 := (f79.no k13)
   have f86 := (f_mr_12.no k13)
   have o87 := (o80.no k13)
   have o88 := (o81.no k13)
   have ob90 := (((ob73.keptNo k11).onN k12 ob73 N11.le).keptNo k13)
   have ob92 := (((ob74.keptNo k11).onN k12 ob74 N11.le).keptNo k13)
   have ob96 := (((ob76.keptNo k11).onN k12 ob76 N11.le).keptNo k13)
   have ob98 := (ob82.keptNo k13)
   have ob100 := (((R10.keptNo k11).onN k12 R10 N11.le).keptNo k13)
   refine Nx_lo rfl (lo_call (by kernel_rfl) rfl (cer_full A3 m c3 400 _ (HC.keptNo kk13) hc (by omega))) rfl ?_
   rintro _ w14 ⟨A_db, c_db, rfl, Q14, k14⟩
   have kk14 := kk13.then_ k14
   have f102 := (f83.no k14)
   have f103 := (f84.no k14)
   have f104 := (f85.no k14)
   have f105 := (f86.no k14)
   have o106 := (o87.no k14)
   have o107 := (o88.no k14)
   have ob108 := (ob98.keptNo k14)
   refine ⟨⟨kk14, f102, f103, f104, f105, o106, o107, ob108⟩, ?_⟩
   refine D_two 8 12 (by kernel_rfl) ?_ ?_
   ·
    have ob109 := (ob92.keptNo k14)
    have ob116 := (ob96.keptNo k14)
    have ob119 := (ob100.keptNo k14)
    refine Nx_lo rfl (lo_call (by kernel_rfl) rfl (cer_rekey b5_0 q nn 1 A_ex ((boxE U R 1).length) c_ex A_rx (boxR R (encR [(1, Y)])) c_rx A_tx ((turnT L_px t L_px.length).length) c_tx A_ro R c_ro p mm A_db (fullB m 400) c_db U2 X2 Z2 _ ob109.bs ob109.le.2 ob108.bs ob108.le.2 Q14.bs Q14.le.2 ⟨hPY, ⟨by decide, by decide⟩, hQ12, hR, hd2, hU2, hX2, by omega, by omega⟩ (Aw.ofOb ob109 (by have := o15.lt; omega)) (Aw.ofOb ob108 (by have := o50.lt; omega)) (Aw.ofOb Q14 (by have := o88.lt; omega)) o107)) rfl ?_
    rintro _ w15 ⟨A_ey, c_ey, A_ry, c_ry, A_py, c_py, L_py, rfl, Q15, R15, S15, hK_py, T15, k15⟩
    have kk15 := kk14.trans k15 (fun i hi => .inr (hi ▸ (Nat.le_trans kk2.size le3)))
    have hl_py := (key_len hK_py).trans (ptK_length ..)
    have f138 := (f102.on k15 (Ne.symm ne_b5_0_pa))
    have f139 := (f103.on k15 (Ne.symm ne_b5_0_pb))
    have f140 := (f104.on k15 ne_mx_b5_0)
    have f141 := (f105.on k15 ne_mr_b5_0)
    have o142 := (o106.on k15 (Ne.symm ne_b5_0_0))
    have ob143 := (ob108.on k15 (by have := o50.lt; omega))
    refine ⟨⟨kk15, f138, f139, f140, f141, o142, T15, ob143⟩, ?_⟩
    refine Dt 9 rfl (fun W hS => pu_move rfl) <| Dt 10 rfl (fun W hS => pu_extract rfl rfl) <| Dt 11 rfl (fun W hS => pu_extract rfl rfl) ?_
    have ob147 := (ob116.on k15 (by have := (And.intro o36.lt o15.lt); omega))
    have ob148 := (ob119.on k15 (by have := o50.lt; omega))
    refine D_one 12 (by kernel_rfl) (Nx_lo rfl (lo_alloc (L := [.int .i64 0, .int .i64 0, .int .u32 0, .slice none (0) (0), .slice none (0) (0), .slice none (0) (0)]) (by kernel_rfl)) rfl ?_)
    rintro _ w16 ⟨my, rfl, N16⟩
    have k16 := N16.kp
    have kk16 := kk15.then_ k16
    have ne_my_pa := Nat.ne_of_gt (Nat.lt_of_lt_of_le f138.lt N16.le)
    have ne_my_pb := Nat.ne_of_gt (Nat.lt_of_lt_of_le f139.lt N16.le)
    have ne_my_mx := Nat.ne_of_gt (Nat.lt_of_lt_of_le f140.lt N16.le)
    have ne_my_mr := Nat.ne_of_gt (Nat.lt_of_lt_of_le f141.lt N16.le)
    have ne_my_0 := Nat.ne_of_gt (Nat.lt_of_lt_of_le o142.lt N16.le)
    have ne_my_b5_0 := Nat.ne_of_gt (Nat.lt_of_lt_of_le T15.lt N16.le)
    have f_my_16 := N16.bk
    have f150 := (f138.no k16)
    have f151 := (f139.no k16)
    have f152 := (f140.no k16)
    have f153 := (f141.no k16)
    have o154 := (o142.no k16)
    have o155 := (T15.no k16)
    have ob156 := (ob143.keptNo k16)
    refine ⟨⟨kk16, f150, f151, f152, f153, o154, o155, ob156⟩, ?_⟩
    refine D_one 13 (by kernel_rfl) (Nx_lo0 rfl (lo_storeRow (C := [.int .i64 ((p + 1 : Nat) : Int), .int .i64 ((mm : Nat) : Int), .int .u32 2, .slice A_ey ((boxE U2 R 2).length) (c_ey), .slice A_ry ((boxR R (encR [(1, Y)])).length) (c_ry), .slice A_py ((L_py).length) (c_py)]) f_my_16 (by kernel_rfl) rfl rfl (by intro u hu; simp at hu; rcases hu with rfl | rfl | rfl | rfl | rfl | rfl <;> rfl) rfl) ?_)
    rintro _ w17 kf17
    obtain ⟨k17, f_my_17⟩ := kf17
    replace f_my_17 : Bk w17 my ([.int .i64 ((p + 1 : Nat) : Int), .int .i64 ((mm : Nat) : Int), .int .u32 2, .slice A_ey ((boxE U2 R 2).length) (c_ey), .slice A_ry ((boxR R (encR [(1, Y)])).length) (c_ry), .slice A_py ((L_py).length) (c_py)]) 39 := f_my_17
    have kk17 := kk16.trans k17 (fun i hi => .inr (hi ▸ (Nat.le_trans kk15.size N16.le)))
    have f157 := (f150.on k17 (Ne.symm ne_my_pa))
    have f158 := (f151.on k17 (Ne.symm ne_my_pb))
    have f159 := (f152.on k17 (Ne.symm ne_my_mx))
    have f160 := (f153.on k17 (Ne.symm ne_my_mr))
    have o161 := (o154.on k17 (Ne.symm ne_my_0))
    have o162 := (o155.on k17 (Ne.symm ne_my_b5_0))
    have ob163 := (ob156.onN k17 ob143 N16.le)
    refine ⟨⟨kk17, f157, f158, f159, f160, o161, o162, ob163⟩, ?_⟩
    refine Dt 14 rfl (fun W hS => pu_assign rfl) <| D_done (by kernel_rfl) ?_
    have ob164 := ((ob147.keptNo k16).onN k17 ob147 N16.le)
    have hz165 : w12.heap.size ≤ w17.heap.size := (Nat.le_trans (Nat.le_trans (Nat.le_trans (Nat.le_trans k13.size k14.size) k15.size) k16.size) k17.size)
    have ob166 := ((ob148.keptNo k16).onN k17 ob148 N16.le)
    have ob167 := ((Q15.keptNo k16).onN k17 Q15 N16.le)
    have hz168 : w12.heap.size ≤ w14.heap.size := (Nat.le_trans k13.size k14.size)
    have ob169 := ((R15.keptNo k16).onN k17 R15 N16.le)
    have ob170 := ((S15.keptNo k16).onN k17 S15 N16.le)
    refine Xc hK_ ⟨my, A_ey, c_ey, A_ry, c_ry, A_py, c_py, L_py, rfl, hK_py, hl_py, ne_my_0, ne_my_b5_0, ne_my_mr, ne_my_mx, ne_my_pa, ne_my_pb, kk17, f157, f158, f159, f160, f_my_17, ⟨ob164, (Nat.le_trans (Nat.le_trans (Nat.le_trans (Nat.le_trans (Nat.le_trans z44 k9.size) k10.size) k11.size) k12.size) hz165)⟩, ⟨ob163, (Nat.le_trans (Nat.le_trans (Nat.le_trans z66 k11.size) k12.size) hz165)⟩, ⟨ob166, (Nat.le_trans (Nat.le_trans (Nat.le_trans z67 k11.size) k12.size) hz165)⟩, ⟨ob167.low hz168, hz165⟩, ⟨ob169.low hz168, hz165⟩, ⟨((ob170).lowb hz168).lowd hz168, hz165⟩, o161, o162⟩ (Sub.cons rfl (Sub.cons rfl (Sub.cons rfl (Sub.cons rfl (Sub.cons rfl (Sub.cons rfl (Sub.cons rfl (Sub.cons rfl (Sub.cons rfl (Sub.cons rfl (Sub.cons rfl (Sub.cons rfl (Sub.cons rfl (Sub.cons rfl (Sub.nil _)))))))))))))))
   ·
    have ob171 := (ob90.keptNo k14)
    have ob172 := (ob92.keptNo k14)
    have ob174 := (ob96.keptNo k14)
    have ob175 := (ob100.keptNo k14)
    refine Nx_lo rfl (lo_alloc (L := [.int .i64 0, .int .i64 0, .int .u32 0, .slice none (0) (0), .slice none (0) (0), .slice none (0) (0)]) (by kernel_rfl)) rfl ?_
    rintro _ w18 ⟨my, rfl, N18⟩
    have k18 := N18.kp
    have kk18 := kk14.then_ k18
    have ne_my_pa := Nat.ne_of_gt (Nat.lt_of_lt_of_le f102.lt N18.le)
    have ne_my_pb := Nat.ne_of_gt (Nat.lt_of_lt_of_le f103.lt N18.le)
    have ne_my_mx := Nat.ne_of_gt (Nat.lt_of_lt_of_le f104.lt N18.le)
    have ne_my_mr := Nat.ne_of_gt (Nat.lt_of_lt_of_le f105.lt N18.le)
    have ne_my_0 := Nat.ne_of_gt (Nat.lt_of_lt_of_le o106.lt N18.le)
    have ne_my_b5_0 := Nat.ne_of_gt (Nat.lt_of_lt_of_le o107.lt N18.le)
    have f_my_18 := N18.bk
    have f176 := (f102.no k18)
    have f177 := (f103.no k18)
    have f178 := (f104.no k18)
    have f179 := (f105.no k18)
    have o180 := (o106.no k18)
    have o181 := (o107.no k18)
    have ob182 := (ob108.keptNo k18)
    refine ⟨⟨kk18, f176, f177, f178, f179, o180, o181, ob182⟩, ?_⟩
    have ob183 := (ob172.keptNo k18)
    have ob184 := (Q14.keptNo k18)
    have ob191 := (ob174.keptNo k18)
    have ob194 := (ob175.keptNo k18)
    refine D_one 8 (by kernel_rfl) (Nx_lo rfl (lo_call (by kernel_rfl) rfl (cer_rekey b5_0 q nn 1 A_ex ((boxE U R 1).length) c_ex A_rx (boxR R (encR [(1, Y)])) c_rx A_tx ((turnT L_px t L_px.length).length) c_tx A_ro R c_ro p mm A_db (fullB m 400) c_db U2 X2 Z2 _ ob183.bs ob183.le.2 ob182.bs ob182.le.2 ob184.bs ob184.le.2 ⟨hPY, ⟨by decide, by decide⟩, hQ12, hR, hd2, hU2, hX2, by omega, by omega⟩ (Aw.ofOb ob183 (by have := o15.lt; omega)) (Aw.ofOb ob182 (by have := o50.lt; omega)) (Aw.ofOb ob184 (by have := o88.lt; omega)) o181)) rfl ?_)
    rintro _ w19 ⟨A_ey, c_ey, A_ry, c_ry, A_py, c_py, L_py, rfl, Q19, R19, S19, hK_py, T19, k19⟩
    have kk19 := kk18.trans k19 (fun i hi => .inr (hi ▸ (Nat.le_trans kk2.size le3)))
    have hl_py := (key_len hK_py).trans (ptK_length ..)
    have f213 := (f176.on k19 (Ne.symm ne_b5_0_pa))
    have f214 := (f177.on k19 (Ne.symm ne_b5_0_pb))
    have f215 := (f178.on k19 ne_mx_b5_0)
    have f216 := (f179.on k19 ne_mr_b5_0)
    have o217 := (o180.on k19 (Ne.symm ne_b5_0_0))
    have ob218 := (ob182.on k19 (by have := o50.lt; omega))
    refine ⟨⟨kk19, f213, f214, f215, f216, o217, T19, ob218⟩, ?_⟩
    refine Dt 9 rfl (fun W hS => pu_move rfl) <| Dt 10 rfl (fun W hS => pu_extract rfl rfl) <| Dt 11 rfl (fun W hS => pu_extract rfl rfl) ?_
    have f219 := (f_my_18.on k19 ne_my_b5_0)
    refine D_one 13 (by kernel_rfl) (Nx_lo0 rfl (lo_storeRow (C := [.int .i64 ((p + 1 : Nat) : Int), .int .i64 ((mm : Nat) : Int), .int .u32 2, .slice A_ey ((boxE U2 R 2).length) (c_ey), .slice A_ry ((boxR R (encR [(1, Y)])).length) (c_ry), .slice A_py ((L_py).length) (c_py)]) f219 (by kernel_rfl) rfl rfl (by intro u hu; simp at hu; rcases hu with rfl | rfl | rfl | rfl | rfl | rfl <;> rfl) rfl) ?_)
    rintro _ w20 kf20
    obtain ⟨k20, f_my_20⟩ := kf20
    replace f_my_20 : Bk w20 my ([.int .i64 ((p + 1 : Nat) : Int), .int .i64 ((mm : Nat) : Int), .int .u32 2, .slice A_ey ((boxE U2 R 2).length) (c_ey), .slice A_ry ((boxR R (encR [(1, Y)])).length) (c_ry), .slice A_py ((L_py).length) (c_py)]) 39 := f_my_20
    have kk20 := kk19.trans k20 (fun i hi => .inr (hi ▸ (Nat.le_trans kk14.size N18.le)))
    have f220 := (f213.on k20 (Ne.symm ne_my_pa))
    have f221 := (f214.on k20 (Ne.symm ne_my_pb))
    have f222 := (f215.on k20 (Ne.symm ne_my_mx))
    have f223 := (f216.on k20 (Ne.symm ne_my_mr))
    have o224 := (o217.on k20 (Ne.symm ne_my_0))
    have o225 := (T19.on k20 (Ne.symm ne_my_b5_0))
    have ob226 := (ob218.onN k20 ob108 N18.le)
    refine ⟨⟨kk20, f220, f221, f222, f223, o224, o225, ob226⟩, ?_⟩
    refine Dt 14 rfl (fun W hS => pu_assign rfl) <| D_done (by kernel_rfl) ?_
    have ob227 := ((ob191.on k19 (by have := (And.intro o36.lt o15.lt); omega)).onN k20 ob174 N18.le)
    have hz228 : w12.heap.size ≤ w20.heap.size := (Nat.le_trans (Nat.le_trans (Nat.le_trans (Nat.le_trans k13.size k14.size) k18.size) k19.size) k20.size)
    have ob229 := ((ob194.on k19 (by have := o50.lt; omega)).onN k20 ob175 N18.le)
    have ob230 := (Q19.on k20 (by have := f_my_18.lt; omega))
    have hz231 : w12.heap.size ≤ w18.heap.size := (Nat.le_trans (Nat.le_trans k13.size k14.size) k18.size)
    have ob232 := (R19.on k20 (by have := f_my_18.lt; omega))
    have ob233 := (S19.on k20 (by have := f_my_18.lt; omega))
    refine Xc hK_ ⟨my, A_ey, c_ey, A_ry, c_ry, A_py, c_py, L_py, rfl, hK_py, hl_py, ne_my_0, ne_my_b5_0, ne_my_mr, ne_my_mx, ne_my_pa, ne_my_pb, kk20, f220, f221, f222, f223, f_my_20, ⟨ob227, (Nat.le_trans (Nat.le_trans (Nat.le_trans (Nat.le_trans (Nat.le_trans z44 k9.size) k10.size) k11.size) k12.size) hz228)⟩, ⟨ob226, (Nat.le_trans (Nat.le_trans (Nat.le_trans z66 k11.size) k12.size) hz228)⟩, ⟨ob229, (Nat.le_trans (Nat.le_trans (Nat.le_trans z67 k11.size) k12.size) hz228)⟩, ⟨ob230.low hz231, hz228⟩, ⟨ob232.low hz231, hz228⟩, ⟨((ob233).lowb hz231).lowd hz231, hz228⟩, o224, o225⟩ (Sub.cons rfl (Sub.cons rfl (Sub.cons rfl (Sub.cons rfl (Sub.cons rfl (Sub.cons rfl (Sub.cons rfl (Sub.cons rfl (Sub.cons rfl (Sub.cons rfl (Sub.cons rfl (Sub.cons rfl (Sub.cons rfl (Sub.cons rfl (Sub.nil _)))))))))))))))
  ·
   have f234 : Bk w13 pa ([.int .i64 (ka), .int .i64 (na), .slice A (l.length) (c), .slice A2 (l2.length) (c2)]) 24 := (f77.no k13)
   have f235 := (f78.no k13)
   have f236 := (f79.no k13)
   have f237 := (f_mr_12.no k13)
   have o238 := (o80.no k13)
   have o239 := (o81.no k13)
   have ob241 := (((ob74.keptNo k11).onN k12 ob74 N11.le).keptNo k13)
   have ob243 := (((ob76.keptNo k11).onN k12 ob76 N11.le).keptNo k13)
   have ob244 := (ob82.keptNo k13)
   have ob245 := (((R10.keptNo k11).onN k12 R10 N11.le).keptNo k13)
   refine Nx_lo rfl (lo_alloc (L := [.int .i64 0, .int .i64 0, .int .u32 0, .slice none (0) (0), .slice none (0) (0), .slice none (0) (0)]) (by kernel_rfl)) rfl ?_
   rintro _ w21 ⟨my, rfl, N21⟩
   have k21 := N21.kp
   have kk21 := kk13.then_ k21
   have ne_my_pa := Nat.ne_of_gt (Nat.lt_of_lt_of_le f234.lt N21.le)
   have ne_my_pb := Nat.ne_of_gt (Nat.lt_of_lt_of_le f235.lt N21.le)
   have ne_my_mx := Nat.ne_of_gt (Nat.lt_of_lt_of_le f236.lt N21.le)
   have ne_my_mr := Nat.ne_of_gt (Nat.lt_of_lt_of_le f237.lt N21.le)
   have ne_my_0 := Nat.ne_of_gt (Nat.lt_of_lt_of_le o238.lt N21.le)
   have ne_my_b5_0 := Nat.ne_of_gt (Nat.lt_of_lt_of_le o239.lt N21.le)
   have f_my_21 := N21.bk
   have f246 := (f234.no k21)
   have f247 := (f235.no k21)
   have f248 := (f236.no k21)
   have f249 := (f237.no k21)
   have o250 := (o238.no k21)
   have o251 := (o239.no k21)
   have ob252 := (ob244.keptNo k21)
   refine ⟨⟨kk21, f246, f247, f248, f249, o250, o251, ob252⟩, ?_⟩
   have ob256 := (ob241.keptNo k21)
   have ob260 := (ob243.keptNo k21)
   have ob263 := (ob245.keptNo k21)
   refine D_one 7 (by kernel_rfl) (Nx_lo rfl (lo_call (by kernel_rfl) rfl (cer_full A3 m c3 400 _ (HC.keptNo kk21) hc (by omega))) rfl ?_)
   rintro _ w22 ⟨A_db, c_db, rfl, Q22, k22⟩
   have kk22 := kk21.then_ k22
   have f265 := (f246.no k22)
   have f266 := (f247.no k22)
   have f267 := (f248.no k22)
   have f268 := (f249.no k22)
   have o269 := (o250.no k22)
   have o270 := (o251.no k22)
   have ob271 := (ob252.keptNo k22)
   refine ⟨⟨kk22, f265, f266, f267, f268, o269, o270, ob271⟩, ?_⟩
   have ob272 := (ob256.keptNo k22)
   have f273 := (f_my_21.no k22)
   have ob280 := (ob260.keptNo k22)
   have ob283 := (ob263.keptNo k22)
   refine D_one 8 (by kernel_rfl) (Nx_lo rfl (lo_call (by kernel_rfl) rfl (cer_rekey b5_0 q nn 1 A_ex ((boxE U R 1).length) c_ex A_rx (boxR R (encR [(1, Y)])) c_rx A_tx ((turnT L_px t L_px.length).length) c_tx A_ro R c_ro p mm A_db (fullB m 400) c_db U2 X2 Z2 _ ob272.bs ob272.le.2 ob271.bs ob271.le.2 Q22.bs Q22.le.2 ⟨hPY, ⟨by decide, by decide⟩, hQ12, hR, hd2, hU2, hX2, by omega, by omega⟩ (Aw.ofOb ob272 (by have := o15.lt; omega)) (Aw.ofOb ob271 (by have := o50.lt; omega)) (Aw.ofOb Q22 (by have := o251.lt; omega)) o270)) rfl ?_)
   rintro _ w23 ⟨A_ey, c_ey, A_ry, c_ry, A_py, c_py, L_py, rfl, Q23, R23, S23, hK_py, T23, k23⟩
   have kk23 := kk22.trans k23 (fun i hi => .inr (hi ▸ (Nat.le_trans kk2.size le3)))
   have hl_py := (key_len hK_py).trans (ptK_length ..)
   have f302 := (f265.on k23 (Ne.symm ne_b5_0_pa))
   have f303 := (f266.on k23 (Ne.symm ne_b5_0_pb))
   have f304 := (f267.on k23 ne_mx_b5_0)
   have f305 := (f268.on k23 ne_mr_b5_0)
   have o306 := (o269.on k23 (Ne.symm ne_b5_0_0))
   have ob307 := (ob271.on k23 (by have := o50.lt; omega))
   refine ⟨⟨kk23, f302, f303, f304, f305, o306, T23, ob307⟩, ?_⟩
   refine Dt 9 rfl (fun W hS => pu_move rfl) <| Dt 10 rfl (fun W hS => pu_extract rfl rfl) <| Dt 11 rfl (fun W hS => pu_extract rfl rfl) ?_
   have f308 := (f273.on k23 ne_my_b5_0)
   refine D_one 13 (by kernel_rfl) (Nx_lo0 rfl (lo_storeRow (C := [.int .i64 ((p + 1 : Nat) : Int), .int .i64 ((mm : Nat) : Int), .int .u32 2, .slice A_ey ((boxE U2 R 2).length) (c_ey), .slice A_ry ((boxR R (encR [(1, Y)])).length) (c_ry), .slice A_py ((L_py).length) (c_py)]) f308 (by kernel_rfl) rfl rfl (by intro u hu; simp at hu; rcases hu with rfl | rfl | rfl | rfl | rfl | rfl <;> rfl) rfl) ?_)
   rintro _ w24 kf24
   obtain ⟨k24, f_my_24⟩ := kf24
   replace f_my_24 : Bk w24 my ([.int .i64 ((p + 1 : Nat) : Int), .int .i64 ((mm : Nat) : Int), .int .u32 2, .slice A_ey ((boxE U2 R 2).length) (c_ey), .slice A_ry ((boxR R (encR [(1, Y)])).length) (c_ry), .slice A_py ((L_py).length) (c_py)]) 39 := f_my_24
   have kk24 := kk23.trans k24 (fun i hi => .inr (hi ▸ (Nat.le_trans kk13.size N21.le)))
   have f309 := (f302.on k24 (Ne.symm ne_my_pa))
   have f310 := (f303.on k24 (Ne.symm ne_my_pb))
   have f311 := (f304.on k24 (Ne.symm ne_my_mx))
   have f312 := (f305.on k24 (Ne.symm ne_my_mr))
   have o313 := (o306.on k24 (Ne.symm ne_my_0))
   have o314 := (T23.on k24 (Ne.symm ne_my_b5_0))
   have ob315 := (ob307.onN k24 ob244 N21.le)
   refine ⟨⟨kk24, f309, f310, f311, f312, o313, o314, ob315⟩, ?_⟩
   refine Dt 14 rfl (fun W hS => pu_assign rfl) <| D_done (by kernel_rfl) ?_
   have ob316 := ((ob280.on k23 (by have := (And.intro o36.lt o15.lt); omega)).onN k24 ob243 N21.le)
   have hz317 : w12.heap.size ≤ w24.heap.size := (Nat.le_trans (Nat.le_trans (Nat.le_trans (Nat.le_trans k13.size k21.size) k22.size) k23.size) k24.size)
   have ob318 := ((ob283.on k23 (by have := o50.lt; omega)).onN k24 ob245 N21.le)
   have ob319 := (Q23.on k24 (by have := f273.lt; omega))
   have hz320 : w12.heap.size ≤ w22.heap.size := (Nat.le_trans (Nat.le_trans k13.size k21.size) k22.size)
   have ob321 := (R23.on k24 (by have := f273.lt; omega))
   have ob322 := (S23.on k24 (by have := f273.lt; omega))
   refine Xc hK_ ⟨my, A_ey, c_ey, A_ry, c_ry, A_py, c_py, L_py, rfl, hK_py, hl_py, ne_my_0, ne_my_b5_0, ne_my_mr, ne_my_mx, ne_my_pa, ne_my_pb, kk24, f309, f310, f311, f312, f_my_24, ⟨ob316, (Nat.le_trans (Nat.le_trans (Nat.le_trans (Nat.le_trans (Nat.le_trans z44 k9.size) k10.size) k11.size) k12.size) hz317)⟩, ⟨ob315, (Nat.le_trans (Nat.le_trans (Nat.le_trans z66 k11.size) k12.size) hz317)⟩, ⟨ob318, (Nat.le_trans (Nat.le_trans (Nat.le_trans z67 k11.size) k12.size) hz317)⟩, ⟨ob319.low hz320, hz317⟩, ⟨ob321.low hz320, hz317⟩, ⟨((ob322).lowb hz320).lowd hz320, hz317⟩, o313, o314⟩ (Sub.cons rfl (Sub.cons rfl (Sub.cons rfl (Sub.cons rfl (Sub.cons rfl (Sub.cons rfl (Sub.cons rfl (Sub.cons rfl (Sub.cons rfl (Sub.cons rfl (Sub.cons rfl (Sub.cons rfl (Sub.cons rfl (Sub.cons rfl (Sub.nil _)))))))))))))))
 ·
  rintro _ w25 ⟨my, A_ey, c_ey, A_ry, c_ry, A_py, c_py, L_py, rfl, hK_py, hl_py, ne_my_0, ne_my_b5_0, ne_my_mr, ne_my_mx, ne_my_pa, ne_my_pb, kk25, f_pa_25, f_pb_25, f_mx_25, f_mr_25, f_my_25, tx_25, ro_25, rn_25, ey_25, ry_25, py_25, G_25, T_b5_0_25⟩
  refine C_seq fun K323 hK323 => C_seq fun K324 hK324 => D_begin (fun W => Kp No w W ∧ Bk W pa ([.int .i64 (ka), .int .i64 (na), .slice A (l.length) (c), .slice A2 (l2.length) (c2)]) 24 ∧ Bk W pb ([.int .i64 (kb), .int .i64 (nb), .slice A3 (m.length) (c3), .slice A4 (m2.length) (c4)]) 24 ∧ Bk W mx ([.int .i64 ((q + 1 : Nat) : Int), .int .i64 ((nn : Nat) : Int), .int .u32 1, .slice A_ex ((boxE U R 1).length) (c_ex), .slice A_rx ((boxR R (encR [(1, Y)])).length) (c_rx), .slice A_tx ((turnT L_px t L_px.length).length) (c_tx)]) 39 ∧ Bk W mr ([.slice A_rn (([(1, Y)]).length) (c_rn)]) 46 ∧ Bk W my ([.int .i64 ((p + 1 : Nat) : Int), .int .i64 ((mm : Nat) : Int), .int .u32 2, .slice A_ey ((boxE U2 R 2).length) (c_ey), .slice A_ry ((boxR R (encR [(1, Y)])).length) (c_ry), .slice A_py ((L_py).length) (c_py)]) 39 ∧ Gt W ∧ Tb W b5_0 ∧ Ob W w9.heap.size (.slice A_ro ((R).length) (c_ro)) (R)) 29 rfl (by kernel_rfl) ⟨kk25.drew, f_pa_25.draw, f_pb_25.draw, f_mx_25.draw, f_mr_25.draw, f_my_25.draw, G_25.draw, T_b5_0_25.draw, ro_25.1.draw⟩ ?_
  intro w26 k26 _
  have kk26 := kk25.then_ k26
  refine Dt 0 rfl (fun W hS => pu_move rfl) <| Dt 1 rfl (fun W hS => pu_neqnn (by kernel_rfl) rfl) <| Dt 2 rfl (fun W hS => pu_move rfl) <| Dg 3 rfl (fun W hS => pu_move rfl) <| Dg 4 rfl (fun W hS => pu_neqnn (by kernel_rfl) rfl) <| Dt 5 rfl (fun W hS => pu_pickf rfl rfl) <| Dt 6 rfl (fun W hS => pu_move rfl) <| Dg 7 rfl (fun W hS => pu_fieldAddr (off := 5) (o' := 5) (by kernel_rfl) rfl rfl) <| Dg 8 rfl (fun W hS => pu_loadK hS.2.2.2.2.2.1 (by kernel_rfl) rfl rfl) <| Dg 9 rfl (fun W hS => pu_len Tryz.underlying37 rfl) <| Dg 10 rfl (fun W hS => pu_move rfl) <| Dg 11 rfl (fun W hS => pu_false (pu_neq (p := ((L_py).length) = mm) rfl rfl (by omega)) (fun h => h hl_py)) <| Dt 12 rfl (fun W hS => pu_pickf rfl rfl) <| Dt 13 rfl (fun W hS => pu_move rfl) <| Dg 14 rfl (fun W hS => pu_fieldAddr (off := 0) (o' := 0) (by kernel_rfl) rfl rfl) <| Dg 15 rfl (fun W hS => pu_loadK hS.2.2.2.2.1 (by kernel_rfl) rfl rfl) <| Dg 16 rfl (fun W hS => pu_len Tryz.underlying44 rfl) <| Dg 17 rfl (fun W hS => pu_false (pu_neq (p := (([(1, Y)]).length) = 1) rfl rfl (by omega)) (fun h => h rfl)) <| Dt 18 rfl (fun W hS => pu_pickf rfl rfl) <| Dt 19 rfl (fun W hS => pu_move rfl) <| Dg 20 rfl (fun W hS => pu_move rfl) <| Dg 21 rfl (fun W hS => pu_bstr hS.2.2.2.2.2.2.2.2.bs Tryz.underlying22 Tryz.underlying5 Tryz.underlying9 rfl rfl) <| Dg 22 rfl (fun W hS => pu_fieldAddr (off := 2) (o' := 2) (by kernel_rfl) rfl rfl) <| Dg 23 rfl (fun W hS => pu_loadK hS.2.1 (by kernel_rfl) rfl rfl) ?_
  have f325 := (f_pa_25.no k26)
  have f326 := (f_pb_25.no k26)
  have f327 := (f_mx_25.no k26)
  have f328 := (f_mr_25.no k26)
  have f329 := (f_my_25.no k26)
  have o330 := (G_25.no k26)
  have o331 := (T_b5_0_25.no k26)
  have ob333 := (tx_25.1.keptNo k26)
  have ob335 := (ro_25.1.keptNo k26)
  have ob337 := (rn_25.1.keptNo k26)
  have ob339 := (ey_25.1.keptNo k26)
  have ob341 := (ry_25.1.keptNo k26)
  have ob343 := (py_25.1.keptNo k26)
  refine D_one 24 (by kernel_rfl) (Nx_glo rfl rfl rfl (lo_call (by kernel_rfl) rfl (cer_full A l c 600 _ (HA.keptNo kk26) ha (by omega))) rfl ?_)
  rintro _ w27 ⟨A_d3, c_d3, rfl, Q27, k27⟩
  have kk27 := kk26.then_ k27
  have f345 := (f325.no k27)
  have f346 := (f326.no k27)
  have f347 := (f327.no k27)
  have f348 := (f328.no k27)
  have f349 := (f329.no k27)
  have o350 := (o330.no k27)
  have o351 := (o331.no k27)
  have ob352 := (ob335.keptNo k27)
  refine ⟨⟨kk27, f345, f346, f347, f348, f349, o350, o351, ob352⟩, ?_⟩
  refine Dg 25 rfl (fun W hS => pu_slice2 (lo := 32) (hi := 64) (s := 1) Tryz.underlying22 (by kernel_rfl) rfl rfl rfl rfl rfl (by omega) (by have := Q27.le.2; omega)) <| D_one 26 (by kernel_rfl) (Nx_gpu rfl rfl rfl (pu_bstr ((Bs.cut Q27.bs Q27.le.2 32).take (64 - 32)) Tryz.underlying22 Tryz.underlying5 Tryz.underlying9 rfl (show (((fullB l 600).drop 32).take (64 - 32)).length = 64 - 32 by rw [List.length_take, List.length_drop]; omega)) rfl ⟨⟨kk27, f345, f346, f347, f348, f349, o350, o351, ob352⟩, ?_⟩)
  refine Dg 27 rfl (fun W hS => pu_false (pu_neqs (p := R = (((fullB l 600).drop 32).take (64 - 32))) rfl rfl (bstr_inj (hS.2.2.2.2.2.2.2.2.bs).byte (((Bs.cut Q27.bs Q27.le.2 32).take (64 - 32))).byte)) (fun h => h (by rw [hd, dr_drop hU]; exact (dr_take hR).symm))) <| Dt 28 rfl (fun W hS => pu_pickf rfl rfl) <| D_done (by kernel_rfl) <| X_then hK324 <| C_false rfl <| C_skip <| X_then hK323 <| C_cut (fun l_ wr => ∃ mr2 : Nat, ∃ A_ro2 : Option Addr, ∃ c_ro2 : Nat, ∃ A_rn2 : Option Addr, ∃ c_rn2 : Nat, (l_ = [(4, .pointer (some ⟨pb, 0, none⟩)), (6, .bool false), (8, .int .i64 ((nn : Nat) : Int)), (9, .int .i64 ((p + 1 : Nat) : Int)), (11, .pointer (some ⟨b5_0, 0, none⟩)), (12, .pointer (some ⟨mx, 0, none⟩)), (14, .slice A_ro ((R).length) (c_ro)), (15, .pointer (some ⟨mr, 0, none⟩)), (17, .pointer (some ⟨my, 0, none⟩)), (19, .slice A_ro2 ((R).length) (c_ro2)), (20, .pointer (some ⟨mr2, 0, none⟩)), (21, .nilIface)]) ∧ (mr2 ≠ 0) ∧ (mr2 ≠ b5_0) ∧ (mr2 ≠ mr) ∧ (mr2 ≠ mx) ∧ (mr2 ≠ my) ∧ (mr2 ≠ pb) ∧ (Kp No w wr) ∧ (Bk wr pb ([.int .i64 (kb), .int .i64 (nb), .slice A3 (m.length) (c3), .slice A4 (m2.length) (c4)]) 24) ∧ (Bk wr mx ([.int .i64 ((q + 1 : Nat) : Int), .int .i64 ((nn : Nat) : Int), .int .u32 1, .slice A_ex ((boxE U R 1).length) (c_ex), .slice A_rx ((boxR R (encR [(1, Y)])).length) (c_rx), .slice A_tx ((turnT L_px t L_px.length).length) (c_tx)]) 39) ∧ (Bk wr mr ([.slice A_rn (([(1, Y)]).length) (c_rn)]) 46) ∧ (Bk wr my ([.int .i64 ((p + 1 : Nat) : Int), .int .i64 ((mm : Nat) : Int), .int .u32 2, .slice A_ey ((boxE U2 R 2).length) (c_ey), .slice A_ry ((boxR R (encR [(1, Y)])).length) (c_ry), .slice A_py ((L_py).length) (c_py)]) 39) ∧ (Bk wr mr2 ([.slice A_rn2 (([(1, Y)]).length) (c_rn2)]) 46) ∧ (Ob wr w9.heap.size (.slice A_ro ((R).length) (c_ro)) (R) ∧ w9.heap.size ≤ (wr).heap.size) ∧ (Sw 51 w12.heap.size wr w12.heap.size (.slice A_py ((L_py).length) (c_py)) (L_py) ∧ w12.heap.size ≤ (wr).heap.size) ∧ (Ro tmC 33 58 wr w9.heap.size (.slice A_rn (([(1, Y)]).length) (c_rn)) ([(1, Y)]) ∧ w9.heap.size ≤ (wr).heap.size) ∧ (Sw 51 w4.heap.size wr w7.heap.size (.slice A_tx ((turnT L_px t L_px.length).length) (c_tx)) (turnT L_px t L_px.length) ∧ w7.heap.size ≤ (wr).heap.size) ∧ (Ob wr w12.heap.size (.slice A_ey ((boxE U2 R 2).length) (c_ey)) (boxE U2 R 2) ∧ w12.heap.size ≤ (wr).heap.size) ∧ (Ob wr w12.heap.size (.slice A_ry ((boxR R (encR [(1, Y)])).length) (c_ry)) (boxR R (encR [(1, Y)])) ∧ w12.heap.size ≤ (wr).heap.size) ∧ (Ob wr w27.heap.size (.slice A_ro2 ((R).length) (c_ro2)) (R) ∧ w27.heap.size ≤ (wr).heap.size) ∧ (Ro tmC 33 58 wr w27.heap.size (.slice A_rn2 (([(1, Y)]).length) (c_rn2)) ([(1, Y)]) ∧ w27.heap.size ≤ (wr).heap.size) ∧ (Gt wr) ∧ (Tb wr b5_0)) (fun K_ hK_ => ?_) ?_
  ·
   refine D_begin (fun W => Kp No w W ∧ Bk W pb ([.int .i64 (kb), .int .i64 (nb), .slice A3 (m.length) (c3), .slice A4 (m2.length) (c4)]) 24 ∧ Bk W mx ([.int .i64 ((q + 1 : Nat) : Int), .int .i64 ((nn : Nat) : Int), .int .u32 1, .slice A_ex ((boxE U R 1).length) (c_ex), .slice A_rx ((boxR R (encR [(1, Y)])).length) (c_rx), .slice A_tx ((turnT L_px t L_px.length).length) (c_tx)]) 39 ∧ Bk W mr ([.slice A_rn (([(1, Y)]).length) (c_rn)]) 46 ∧ Bk W my ([.int .i64 ((p + 1 : Nat) : Int), .int .i64 ((mm : Nat) : Int), .int .u32 2, .slice A_ey ((boxE U2 R 2).length) (c_ey), .slice A_ry ((boxR R (encR [(1, Y)])).length) (c_ry), .slice A_py ((L_py).length) (c_py)]) 39 ∧ Gt W ∧ Tb W b5_0) 22 rfl (by kernel_rfl) ⟨kk27.drew, f346.draw, f347.draw, f348.draw, f349.draw, o350.draw, o351.draw⟩ ?_
   intro w28 k28 _
   have kk28 := kk27.then_ k28
   refine Dt 0 rfl (fun W hS => pu_move rfl) <| Dt 1 rfl (fun W hS => pu_fieldAddr (off := 0) (o' := 0) (by kernel_rfl) rfl rfl) <| Dt 2 rfl (fun W hS => pu_loadMid (len := 3) (C := [.int .i64 ((p + 1 : Nat) : Int), .int .i64 ((mm : Nat) : Int), .int .u32 2]) hS.2.2.2.2.1 (by kernel_rfl) (by kernel_rfl) rfl rfl rfl) <| Dt 3 rfl (fun W hS => pu_fieldAddr (off := 3) (o' := 3) (by kernel_rfl) rfl rfl) <| Dt 4 rfl (fun W hS => pu_loadK hS.2.2.2.2.1 (by kernel_rfl) rfl rfl) <| Dt 5 rfl (fun W hS => pu_fieldAddr (off := 4) (o' := 4) (by kernel_rfl) rfl rfl) <| Dt 6 rfl (fun W hS => pu_loadK hS.2.2.2.2.1 (by kernel_rfl) rfl rfl) <| Dt 7 rfl (fun W hS => pu_fieldAddr (off := 5) (o' := 5) (by kernel_rfl) rfl rfl) <| Dt 8 rfl (fun W hS => pu_loadK hS.2.2.2.2.1 (by kernel_rfl) rfl rfl) <| Dt 9 rfl (fun W hS => pu_move rfl) <| Dt 10 rfl (fun W hS => pu_conv (z := ((t : Nat) : Int)) Tryz.underlying5 Tryz.underlying3 rfl (by have : t < 256 := ht; rw [IntKind.wrap_i64]; omega)) <| D_two 11 18 (by kernel_rfl) ?_ ?_
   ·
    have ob353 := ((ob343.keptNo k27).keptNo k28)
    have f354 := (f346.no k28)
    have f355 := (f347.no k28)
    have f356 := (f348.no k28)
    have f357 := (f349.no k28)
    have o358 := (o350.no k28)
    have o359 := (o351.no k28)
    have ob361 := ((ob333.keptNo k27).keptNo k28)
    have ob363 := (ob352.keptNo k28)
    have ob365 := ((ob337.keptNo k27).keptNo k28)
    have ob367 := ((ob339.keptNo k27).keptNo k28)
    have ob369 := ((ob341.keptNo k27).keptNo k28)
    refine Nx_lo rfl (lo_call (by kernel_rfl) rfl (cer_turned A_py L_py c_py t _ ob353.ss ⟨⟨by omega, by omega⟩, fun s hs => (part_pos hK_py hU2 s hs).1, by omega⟩)) rfl ?_
    rintro _ w29 ⟨A_ty, c_ty, rfl, Q29, k29⟩
    have kk29 := kk28.then_ k29
    have S_ty : Sw 51 w12.heap.size w29 w28.heap.size (.slice A_ty ((turnT L_py t L_py.length).length) (c_ty)) (turnT L_py t L_py.length) := ⟨Q29.own, Q29.ok, fun s hs x hx => ⟨(ob353.dat s (turnT_mem _ _ _ s hs) x hx).1, (Q29.dat s hs x hx).2⟩⟩
    have f372 := (f354.no k29)
    have f373 := (f355.no k29)
    have f374 := (f356.no k29)
    have f375 := (f357.no k29)
    have o376 := (o358.no k29)
    have o377 := (o359.no k29)
    refine ⟨⟨kk29, f372, f373, f374, f375, o376, o377⟩, ?_⟩
    refine Dt 12 rfl (fun W hS => pu_build (L := [.int .i64 ((p + 1 : Nat) : Int), .int .i64 ((mm : Nat) : Int), .int .u32 2, .slice A_ey ((boxE U2 R 2).length) (c_ey), .slice A_ry ((boxR R (encR [(1, Y)])).length) (c_ry), .slice A_ty ((turnT L_py t L_py.length).length) (c_ty)]) rfl (by kernel_rfl)) <| D_two 13 18 (by kernel_rfl) ?_ ?_
    ·
     have ob378 := (ob367.keptNo k29)
     have ob379 := (ob369.keptNo k29)
     have hlt_ty : (turnT L_py t L_py.length).length = L_py.length := turnT_length (by omega) t _
     have hop_ty := opens_parts (M := turnT L_py t L_py.length) hK_py (turnT_mem _ _ _) (turnT_di _ (di_of hK_py)) (by omega) (by omega) hU2 hX2 bU2 bX2
     have ob381 := (ob361.keptNo k29)
     have ob383 := (ob363.keptNo k29)
     have ob385 := (ob365.keptNo k29)
     have ob389 := (ob353.keptNo k29)
     refine Nx_lo rfl (lo_call (by kernel_rfl) rfl (cer_open b5_0 p mm 2 A_ey (boxE U2 R 2) c_ey A_ry (boxR R (encR [(1, Y)])) c_ry A_ty (turnT L_py t L_py.length) c_ty U2 R ([(1, Y)]) _ ob378.bs ob378.le.2 ob379.bs ob379.le.2 S_ty.ss ⟨hQY, ⟨by omega, S_ty.le.2, by omega⟩, (by decide), (by decide), hop_ty.1, hop_ty.2, rfl, hR, rfl, may_one, (ok_one bY)⟩ (Aw.ofOb ob378 (by have := o81.lt; omega)) (Aw.ofOb ob379 (by have := o81.lt; omega)) (S_ty.aw (by have := (And.intro o359.lt o81.lt); omega)) o377)) rfl ?_
     rintro _ w30 ⟨A_ro2, c_ro2, A_rn2, c_rn2, rfl, Q30, R30, T30, k30⟩
     have kk30 := kk29.trans k30 (fun i hi => .inr (hi ▸ (Nat.le_trans kk2.size le3)))
     have f400 := (f372.on k30 (Ne.symm ne_b5_0_pb))
     have f401 := (f373.on k30 ne_mx_b5_0)
     have f402 := (f374.on k30 ne_mr_b5_0)
     have f403 := (f375.on k30 ne_my_b5_0)
     have o404 := (o376.on k30 (Ne.symm ne_b5_0_0))
     refine ⟨⟨kk30, f400, f401, f402, f403, o404, T30⟩, ?_⟩
     refine Dt 14 rfl (fun W hS => pu_move rfl) <| Dt 15 rfl (fun W hS => pu_extract rfl rfl) <| Dt 16 rfl (fun W hS => pu_extract rfl rfl) <| Dt 17 rfl (fun W hS => pu_extract rfl rfl) ?_
     have ob405 := (ob381.on k30 (by have := (And.intro o36.lt o15.lt); omega))
     have ob406 := (ob383.on k30 (by have := o50.lt; omega))
     have ob407 := (ob385.on k30 (by have := o50.lt; omega))
     have ob408 := (ob378.on k30 (by have := o81.lt; omega))
     have ob409 := (ob379.on k30 (by have := o81.lt; omega))
     have ob410 := (ob389.on k30 (by have := o81.lt; omega))
     refine D_one 18 (by kernel_rfl) (Nx_lo rfl (lo_alloc (L := [.slice none (0) (0)]) (by kernel_rfl)) rfl ?_)
     rintro _ w31 ⟨mr2, rfl, N31⟩
     have k31 := N31.kp
     have kk31 := kk30.then_ k31
     have ne_mr2_pb := Nat.ne_of_gt (Nat.lt_of_lt_of_le f400.lt N31.le)
     have ne_mr2_mx := Nat.ne_of_gt (Nat.lt_of_lt_of_le f401.lt N31.le)
     have ne_mr2_mr := Nat.ne_of_gt (Nat.lt_of_lt_of_le f402.lt N31.le)
     have ne_mr2_my := Nat.ne_of_gt (Nat.lt_of_lt_of_le f403.lt N31.le)
     have ne_mr2_0 := Nat.ne_of_gt (Nat.lt_of_lt_of_le o404.lt N31.le)
     have ne_mr2_b5_0 := Nat.ne_of_gt (Nat.lt_of_lt_of_le T30.lt N31.le)
     have f_mr2_31 := N31.bk
     have f412 := (f400.no k31)
     have f413 := (f401.no k31)
     have f414 := (f402.no k31)
     have f415 := (f403.no k31)
     have o416 := (o404.no k31)
     have o417 := (T30.no k31)
     refine ⟨⟨kk31, f412, f413, f414, f415, o416, o417⟩, ?_⟩
     refine Dt 19 rfl (fun W hS => pu_assign rfl) <| D_one 20 (by kernel_rfl) (Nx_lo0 rfl (lo_storeRow (C := [.slice A_rn2 (([(1, Y)]).length) (c_rn2)]) f_mr2_31 (by kernel_rfl) rfl rfl (by intro u hu; simp at hu; rcases hu with rfl <;> rfl) rfl) ?_)
     rintro _ w32 kf32
     obtain ⟨k32, f_mr2_32⟩ := kf32
     replace f_mr2_32 : Bk w32 mr2 ([.slice A_rn2 (([(1, Y)]).length) (c_rn2)]) 46 := f_mr2_32
     have kk32 := kk31.trans k32 (fun i hi => .inr (hi ▸ (Nat.le_trans kk30.size N31.le)))
     have f418 := (f412.on k32 (Ne.symm ne_mr2_pb))
     have f419 := (f413.on k32 (Ne.symm ne_mr2_mx))
     have f420 := (f414.on k32 (Ne.symm ne_mr2_mr))
     have f421 := (f415.on k32 (Ne.symm ne_mr2_my))
     have o422 := (o416.on k32 (Ne.symm ne_mr2_0))
     have o423 := (o417.on k32 (Ne.symm ne_mr2_b5_0))
     refine ⟨⟨kk32, f418, f419, f420, f421, o422, o423⟩, ?_⟩
     refine Dt 21 rfl (fun W hS => pu_assign rfl) <| D_done (by kernel_rfl) ?_
     have ob424 := ((ob406.keptNo k31).onN k32 ob406 N31.le)
     have hz425 : w27.heap.size ≤ w32.heap.size := (Nat.le_trans (Nat.le_trans (Nat.le_trans (Nat.le_trans k28.size k29.size) k30.size) k31.size) k32.size)
     have ob426 := ((ob410.keptNo k31).onN k32 ob410 N31.le)
     have ob427 := ((ob407.keptNo k31).onN k32 ob407 N31.le)
     have ob428 := ((ob405.keptNo k31).onN k32 ob405 N31.le)
     have ob429 := ((ob408.keptNo k31).onN k32 ob408 N31.le)
     have ob430 := ((ob409.keptNo k31).onN k32 ob409 N31.le)
     have ob431 := ((Q30.keptNo k31).onN k32 Q30 N31.le)
     have hz432 : w27.heap.size ≤ w29.heap.size := (Nat.le_trans k28.size k29.size)
     have ob433 := ((R30.keptNo k31).onN k32 R30 N31.le)
     refine Xc hK_ ⟨mr2, A_ro2, c_ro2, A_rn2, c_rn2, rfl, ne_mr2_0, ne_mr2_b5_0, ne_mr2_mr, ne_mr2_mx, ne_mr2_my, ne_mr2_pb, kk32, f418, f419, f420, f421, f_mr2_32, ⟨ob424, (Nat.le_trans (Nat.le_trans (Nat.le_trans ro_25.2 k26.size) k27.size) hz425)⟩, ⟨ob426, (Nat.le_trans (Nat.le_trans (Nat.le_trans py_25.2 k26.size) k27.size) hz425)⟩, ⟨ob427, (Nat.le_trans (Nat.le_trans (Nat.le_trans rn_25.2 k26.size) k27.size) hz425)⟩, ⟨ob428, (Nat.le_trans (Nat.le_trans (Nat.le_trans tx_25.2 k26.size) k27.size) hz425)⟩, ⟨ob429, (Nat.le_trans (Nat.le_trans (Nat.le_trans ey_25.2 k26.size) k27.size) hz425)⟩, ⟨ob430, (Nat.le_trans (Nat.le_trans (Nat.le_trans ry_25.2 k26.size) k27.size) hz425)⟩, ⟨ob431.low hz432, hz425⟩, ⟨ob433.low hz432, hz425⟩, o422, o423⟩ (Sub.cons rfl (Sub.cons rfl (Sub.cons rfl (Sub.cons rfl (Sub.cons rfl (Sub.cons rfl (Sub.cons rfl (Sub.cons rfl (Sub.cons rfl (Sub.cons rfl (Sub.cons rfl (Sub.cons rfl (Sub.nil _)))))))))))))
    ·
     have ob434 := (ob361.keptNo k29)
     have ob435 := (ob363.keptNo k29)
     have ob436 := (ob365.keptNo k29)
     have ob437 := (ob367.keptNo k29)
     have ob438 := (ob369.keptNo k29)
     have ob439 := (ob353.keptNo k29)
     refine Nx_lo rfl (lo_alloc (L := [.slice none (0) (0)]) (by kernel_rfl)) rfl ?_
     rintro _ w33 ⟨mr2, rfl, N33⟩
     have k33 := N33.kp
     have kk33 := kk29.then_ k33
     have ne_mr2_pb := Nat.ne_of_gt (Nat.lt_of_lt_of_le f372.lt N33.le)
     have ne_mr2_mx := Nat.ne_of_gt (Nat.lt_of_lt_of_le f373.lt N33.le)
     have ne_mr2_mr := Nat.ne_of_gt (Nat.lt_of_lt_of_le f374.lt N33.le)
     have ne_mr2_my := Nat.ne_of_gt (Nat.lt_of_lt_of_le f375.lt N33.le)
     have ne_mr2_0 := Nat.ne_of_gt (Nat.lt_of_lt_of_le o376.lt N33.le)
     have ne_mr2_b5_0 := Nat.ne_of_gt (Nat.lt_of_lt_of_le o377.lt N33.le)
     have f_mr2_33 := N33.bk
     have f440 := (f372.no k33)
     have f441 := (f373.no k33)
     have f442 := (f374.no k33)
     have f443 := (f375.no k33)
     have o444 := (o376.no k33)
     have o445 := (o377.no k33)
     refine ⟨⟨kk33, f440, f441, f442, f443, o444, o445⟩, ?_⟩
     have ob446 := (ob437.keptNo k33)
     have ob447 := (ob438.keptNo k33)
     have ob448 := (S_ty.keptNo k33)
     have hlt_ty : (turnT L_py t L_py.length).length = L_py.length := turnT_length (by omega) t _
     have hop_ty := opens_parts (M := turnT L_py t L_py.length) hK_py (turnT_mem _ _ _) (turnT_di _ (di_of hK_py)) (by omega) (by omega) hU2 hX2 bU2 bX2
     have ob450 := (ob434.keptNo k33)
     have ob452 := (ob435.keptNo k33)
     have ob454 := (ob436.keptNo k33)
     have ob458 := (ob439.keptNo k33)
     refine D_one 13 (by kernel_rfl) (Nx_lo rfl (lo_call (by kernel_rfl) rfl (cer_open b5_0 p mm 2 A_ey (boxE U2 R 2) c_ey A_ry (boxR R (encR [(1, Y)])) c_ry A_ty (turnT L_py t L_py.length) c_ty U2 R ([(1, Y)]) _ ob446.bs ob446.le.2 ob447.bs ob447.le.2 ob448.ss ⟨hQY, ⟨by omega, ob448.le.2, by omega⟩, (by decide), (by decide), hop_ty.1, hop_ty.2, rfl, hR, rfl, may_one, (ok_one bY)⟩ (Aw.ofOb ob446 (by have := o81.lt; omega)) (Aw.ofOb ob447 (by have := o81.lt; omega)) (ob448.aw (by have := (And.intro o359.lt o81.lt); omega)) o445)) rfl ?_)
     rintro _ w34 ⟨A_ro2, c_ro2, A_rn2, c_rn2, rfl, Q34, R34, T34, k34⟩
     have kk34 := kk33.trans k34 (fun i hi => .inr (hi ▸ (Nat.le_trans kk2.size le3)))
     have f469 := (f440.on k34 (Ne.symm ne_b5_0_pb))
     have f470 := (f441.on k34 ne_mx_b5_0)
     have f471 := (f442.on k34 ne_mr_b5_0)
     have f472 := (f443.on k34 ne_my_b5_0)
     have o473 := (o444.on k34 (Ne.symm ne_b5_0_0))
     refine ⟨⟨kk34, f469, f470, f471, f472, o473, T34⟩, ?_⟩
     refine Dt 14 rfl (fun W hS => pu_move rfl) <| Dt 15 rfl (fun W hS => pu_extract rfl rfl) <| Dt 16 rfl (fun W hS => pu_extract rfl rfl) <| Dt 17 rfl (fun W hS => pu_extract rfl rfl) <| Dt 19 rfl (fun W hS => pu_assign rfl) ?_
     have f474 := (f_mr2_33.on k34 ne_mr2_b5_0)
     refine D_one 20 (by kernel_rfl) (Nx_lo0 rfl (lo_storeRow (C := [.slice A_rn2 (([(1, Y)]).length) (c_rn2)]) f474 (by kernel_rfl) rfl rfl (by intro u hu; simp at hu; rcases hu with rfl <;> rfl) rfl) ?_)
     rintro _ w35 kf35
     obtain ⟨k35, f_mr2_35⟩ := kf35
     replace f_mr2_35 : Bk w35 mr2 ([.slice A_rn2 (([(1, Y)]).length) (c_rn2)]) 46 := f_mr2_35
     have kk35 := kk34.trans k35 (fun i hi => .inr (hi ▸ (Nat.le_trans kk29.size N33.le)))
     have f475 := (f469.on k35 (Ne.symm ne_mr2_pb))
     have f476 := (f470.on k35 (Ne.symm ne_mr2_mx))
     have f477 := (f471.on k35 (Ne.symm ne_mr2_mr))
     have f478 := (f472.on k35 (Ne.symm ne_mr2_my))
     have o479 := (o473.on k35 (Ne.symm ne_mr2_0))
     have o480 := (T34.on k35 (Ne.symm ne_mr2_b5_0))
     refine ⟨⟨kk35, f475, f476, f477, f478, o479, o480⟩, ?_⟩
     refine Dt 21 rfl (fun W hS => pu_assign rfl) <| D_done (by kernel_rfl) ?_
     have ob481 := ((ob452.on k34 (by have := o50.lt; omega)).onN k35 ob435 N33.le)
     have hz482 : w27.heap.size ≤ w35.heap.size := (Nat.le_trans (Nat.le_trans (Nat.le_trans (Nat.le_trans k28.size k29.size) k33.size) k34.size) k35.size)
     have ob483 := ((ob458.on k34 (by have := o81.lt; omega)).onN k35 ob439 N33.le)
     have ob484 := ((ob454.on k34 (by have := o50.lt; omega)).onN k35 ob436 N33.le)
     have ob485 := ((ob450.on k34 (by have := (And.intro o36.lt o15.lt); omega)).onN k35 ob434 N33.le)
     have ob486 := ((ob446.on k34 (by have := o81.lt; omega)).onN k35 ob437 N33.le)
     have ob487 := ((ob447.on k34 (by have := o81.lt; omega)).onN k35 ob438 N33.le)
     have ob488 := (Q34.on k35 (by have := f_mr2_33.lt; omega))
     have hz489 : w27.heap.size ≤ w33.heap.size := (Nat.le_trans (Nat.le_trans k28.size k29.size) k33.size)
     have ob490 := (R34.on k35 (by have := f_mr2_33.lt; omega))
     refine Xc hK_ ⟨mr2, A_ro2, c_ro2, A_rn2, c_rn2, rfl, ne_mr2_0, ne_mr2_b5_0, ne_mr2_mr, ne_mr2_mx, ne_mr2_my, ne_mr2_pb, kk35, f475, f476, f477, f478, f_mr2_35, ⟨ob481, (Nat.le_trans (Nat.le_trans (Nat.le_trans ro_25.2 k26.size) k27.size) hz482)⟩, ⟨ob483, (Nat.le_trans (Nat.le_trans (Nat.le_trans py_25.2 k26.size) k27.size) hz482)⟩, ⟨ob484, (Nat.le_trans (Nat.le_trans (Nat.le_trans rn_25.2 k26.size) k27.size) hz482)⟩, ⟨ob485, (Nat.le_trans (Nat.le_trans (Nat.le_trans tx_25.2 k26.size) k27.size) hz482)⟩, ⟨ob486, (Nat.le_trans (Nat.le_trans (Nat.le_trans ey_25.2 k26.size) k27.size) hz482)⟩, ⟨ob487, (Nat.le_trans (Nat.le_trans (Nat.le_trans ry_25.2 k26.size) k27.size) hz482)⟩, ⟨ob488.low hz489, hz482⟩, ⟨ob490.low hz489, hz482⟩, o479, o480⟩ (Sub.cons rfl (Sub.cons rfl (Sub.cons rfl (Sub.cons rfl (Sub.cons rfl (Sub.cons rfl (Sub.cons rfl (Sub.cons rfl (Sub.cons rfl (Sub.cons rfl (Sub.cons rfl (Sub.cons rfl (Sub.nil _)))))))))))))
   ·
    have f491 : Bk w28 pb ([.int .i64 (kb), .int .i64 (nb), .slice A3 (m.length) (c3), .slice A4 (m2.length) (c4)]) 24 := (f346.no k28)
    have f492 := (f347.no k28)
    have f493 := (f348.no k28)
    have f494 := (f349.no k28)
    have o495 := (o350.no k28)
    have o496 := (o351.no k28)
    have ob497 := ((ob333.keptNo k27).keptNo k28)
    have ob498 := (ob352.keptNo k28)
    have ob499 := ((ob337.keptNo k27).keptNo k28)
    have ob500 := ((ob339.keptNo k27).keptNo k28)
    have ob501 := ((ob341.keptNo k27).keptNo k28)
    have ob502 := ((ob343.keptNo k27).keptNo k28)
    refine Nx_lo rfl (lo_alloc (L := [.slice none (0) (0)]) (by kernel_rfl)) rfl ?_
    rintro _ w36 ⟨mr2, rfl, N36⟩
    have k36 := N36.kp
    have kk36 := kk28.then_ k36
    have ne_mr2_pb := Nat.ne_of_gt (Nat.lt_of_lt_of_le f491.lt N36.le)
    have ne_mr2_mx := Nat.ne_of_gt (Nat.lt_of_lt_of_le f492.lt N36.le)
    have ne_mr2_mr := Nat.ne_of_gt (Nat.lt_of_lt_of_le f493.lt N36.le)
    have ne_mr2_my := Nat.ne_of_gt (Nat.lt_of_lt_of_le f494.lt N36.le)
    have ne_mr2_0 := Nat.ne_of_gt (Nat.lt_of_lt_of_le o495.lt N36.le)
    have ne_mr2_b5_0 := Nat.ne_of_gt (Nat.lt_of_lt_of_le o496.lt N36.le)
    have f_mr2_36 := N36.bk
    have f503 := (f491.no k36)
    have f504 := (f492.no k36)
    have f505 := (f493.no k36)
    have f506 := (f494.no k36)
    have o507 := (o495.no k36)
    have o508 := (o496.no k36)
    refine ⟨⟨kk36, f503, f504, f505, f506, o507, o508⟩, ?_⟩
    have ob509 := (ob502.keptNo k36)
    have ob511 := (ob497.keptNo k36)
    have ob513 := (ob498.keptNo k36)
    have ob515 := (ob499.keptNo k36)
    have ob517 := (ob500.keptNo k36)
    have ob519 := (ob501.keptNo k36)
    refine D_one 11 (by kernel_rfl) (Nx_lo rfl (lo_call (by kernel_rfl) rfl (cer_turned A_py L_py c_py t _ ob509.ss ⟨⟨by omega, by omega⟩, fun s hs => (part_pos hK_py hU2 s hs).1, by omega⟩)) rfl ?_)
    rintro _ w37 ⟨A_ty, c_ty, rfl, Q37, k37⟩
    have kk37 := kk36.then_ k37
    have S_ty : Sw 51 w12.heap.size w37 w36.heap.size (.slice A_ty ((turnT L_py t L_py.length).length) (c_ty)) (turnT L_py t L_py.length) := ⟨Q37.own, Q37.ok, fun s hs x hx => ⟨(ob509.dat s (turnT_mem _ _ _ s hs) x hx).1, (Q37.dat s hs x hx).2⟩⟩
    have f522 := (f503.no k37)
    have f523 := (f504.no k37)
    have f524 := (f505.no k37)
    have f525 := (f506.no k37)
    have o526 := (o507.no k37)
    have o527 := (o508.no k37)
    refine ⟨⟨kk37, f522, f523, f524, f525, o526, o527⟩, ?_⟩
    refine Dt 12 rfl (fun W hS => pu_build (L := [.int .i64 ((p + 1 : Nat) : Int), .int .i64 ((mm : Nat) : Int), .int .u32 2, .slice A_ey ((boxE U2 R 2).length) (c_ey), .slice A_ry ((boxR R (encR [(1, Y)])).length) (c_ry), .slice A_ty ((turnT L_py t L_py.length).length) (c_ty)]) rfl (by kernel_rfl)) ?_
    have ob528 := (ob517.keptNo k37)
    have ob529 := (ob519.keptNo k37)
    have hlt_ty : (turnT L_py t L_py.length).length = L_py.length := turnT_length (by omega) t _
    have hop_ty := opens_parts (M := turnT L_py t L_py.length) hK_py (turnT_mem _ _ _) (turnT_di _ (di_of hK_py)) (by omega) (by omega) hU2 hX2 bU2 bX2
    have f530 := (f_mr2_36.no k37)
    have ob532 := (ob511.keptNo k37)
    have ob534 := (ob513.keptNo k37)
    have ob536 := (ob515.keptNo k37)
    have ob540 := (ob509.keptNo k37)
    refine D_one 13 (by kernel_rfl) (Nx_lo rfl (lo_call (by kernel_rfl) rfl (cer_open b5_0 p mm 2 A_ey (boxE U2 R 2) c_ey A_ry (boxR R (encR [(1, Y)])) c_ry A_ty (turnT L_py t L_py.length) c_ty U2 R ([(1, Y)]) _ ob528.bs ob528.le.2 ob529.bs ob529.le.2 S_ty.ss ⟨hQY, ⟨by omega, S_ty.le.2, by omega⟩, (by decide), (by decide), hop_ty.1, hop_ty.2, rfl, hR, rfl, may_one, (ok_one bY)⟩ (Aw.ofOb ob528 (by have := o81.lt; omega)) (Aw.ofOb ob529 (by have := o81.lt; omega)) (S_ty.aw (by have := (And.intro o508.lt o81.lt); omega)) o527)) rfl ?_)
    rintro _ w38 ⟨A_ro2, c_ro2, A_rn2, c_rn2, rfl, Q38, R38, T38, k38⟩
    have kk38 := kk37.trans k38 (fun i hi => .inr (hi ▸ (Nat.le_trans kk2.size le3)))
    have f551 := (f522.on k38 (Ne.symm ne_b5_0_pb))
    have f552 := (f523.on k38 ne_mx_b5_0)
    have f553 := (f524.on k38 ne_mr_b5_0)
    have f554 := (f525.on k38 ne_my_b5_0)
    have o555 := (o526.on k38 (Ne.symm ne_b5_0_0))
    refine ⟨⟨kk38, f551, f552, f553, f554, o555, T38⟩, ?_⟩
    refine Dt 14 rfl (fun W hS => pu_move rfl) <| Dt 15 rfl (fun W hS => pu_extract rfl rfl) <| Dt 16 rfl (fun W hS => pu_extract rfl rfl) <| Dt 17 rfl (fun W hS => pu_extract rfl rfl) <| Dt 19 rfl (fun W hS => pu_assign rfl) ?_
    have f556 := (f530.on k38 ne_mr2_b5_0)
    refine D_one 20 (by kernel_rfl) (Nx_lo0 rfl (lo_storeRow (C := [.slice A_rn2 (([(1, Y)]).length) (c_rn2)]) f556 (by kernel_rfl) rfl rfl (by intro u hu; simp at hu; rcases hu with rfl <;> rfl) rfl) ?_)
    rintro _ w39 kf39
    obtain ⟨k39, f_mr2_39⟩ := kf39
    replace f_mr2_39 : Bk w39 mr2 ([.slice A_rn2 (([(1, Y)]).length) (c_rn2)]) 46 := f_mr2_39
    have kk39 := kk38.trans k39 (fun i hi => .inr (hi ▸ (Nat.le_trans kk28.size N36.le)))
    have f557 := (f551.on k39 (Ne.symm ne_mr2_pb))
    have f558 := (f552.on k39 (Ne.symm ne_mr2_mx))
    have f559 := (f553.on k39 (Ne.symm ne_mr2_mr))
    have f560 := (f554.on k39 (Ne.symm ne_mr2_my))
    have o561 := (o555.on k39 (Ne.symm ne_mr2_0))
    have o562 := (T38.on k39 (Ne.symm ne_mr2_b5_0))
    refine ⟨⟨kk39, f557, f558, f559, f560, o561, o562⟩, ?_⟩
    refine Dt 21 rfl (fun W hS => pu_assign rfl) <| D_done (by kernel_rfl) ?_
    have ob563 := ((ob534.on k38 (by have := o50.lt; omega)).onN k39 ob498 N36.le)
    have hz564 : w27.heap.size ≤ w39.heap.size := (Nat.le_trans (Nat.le_trans (Nat.le_trans (Nat.le_trans k28.size k36.size) k37.size) k38.size) k39.size)
    have ob565 := ((ob540.on k38 (by have := o81.lt; omega)).onN k39 ob502 N36.le)
    have ob566 := ((ob536.on k38 (by have := o50.lt; omega)).onN k39 ob499 N36.le)
    have ob567 := ((ob532.on k38 (by have := (And.intro o36.lt o15.lt); omega)).onN k39 ob497 N36.le)
    have ob568 := ((ob528.on k38 (by have := o81.lt; omega)).onN k39 ob500 N36.le)
    have ob569 := ((ob529.on k38 (by have := o81.lt; omega)).onN k39 ob501 N36.le)
    have ob570 := (Q38.on k39 (by have := f530.lt; omega))
    have hz571 : w27.heap.size ≤ w37.heap.size := (Nat.le_trans (Nat.le_trans k28.size k36.size) k37.size)
    have ob572 := (R38.on k39 (by have := f530.lt; omega))
    refine Xc hK_ ⟨mr2, A_ro2, c_ro2, A_rn2, c_rn2, rfl, ne_mr2_0, ne_mr2_b5_0, ne_mr2_mr, ne_mr2_mx, ne_mr2_my, ne_mr2_pb, kk39, f557, f558, f559, f560, f_mr2_39, ⟨ob563, (Nat.le_trans (Nat.le_trans (Nat.le_trans ro_25.2 k26.size) k27.size) hz564)⟩, ⟨ob565, (Nat.le_trans (Nat.le_trans (Nat.le_trans py_25.2 k26.size) k27.size) hz564)⟩, ⟨ob566, (Nat.le_trans (Nat.le_trans (Nat.le_trans rn_25.2 k26.size) k27.size) hz564)⟩, ⟨ob567, (Nat.le_trans (Nat.le_trans (Nat.le_trans tx_25.2 k26.size) k27.size) hz564)⟩, ⟨ob568, (Nat.le_trans (Nat.le_trans (Nat.le_trans ey_25.2 k26.size) k27.size) hz564)⟩, ⟨ob569, (Nat.le_trans (Nat.le_trans (Nat.le_trans ry_25.2 k26.size) k27.size) hz564)⟩, ⟨ob570.low hz571, hz564⟩, ⟨ob572.low hz571, hz564⟩, o561, o562⟩ (Sub.cons rfl (Sub.cons rfl (Sub.cons rfl (Sub.cons rfl (Sub.cons rfl (Sub.cons rfl (Sub.cons rfl (Sub.cons rfl (Sub.cons rfl (Sub.cons rfl (Sub.cons rfl (Sub.cons rfl (Sub.nil _)))))))))))))
  ·
   rintro _ w40 ⟨mr2, A_ro2, c_ro2, A_rn2, c_rn2, rfl, ne_mr2_0, ne_mr2_b5_0, ne_mr2_mr, ne_mr2_mx, ne_mr2_my, ne_mr2_pb, kk40, f_pb_40, f_mx_40, f_mr_40, f_my_40, f_mr2_40, ro_40, py_40, rn_40, tx_40, ey_40, ry_40, ro2_40, rn2_40, G_40, T_b5_0_40⟩
   refine C_seq fun K573 hK573 => C_region <| Rp (pu_move rfl) <| Rp (pu_fieldAddr (off := 0) (o' := 0) (by kernel_rfl) rfl rfl) <| Rp (pu_loadMid (len := 3) (C := [.int .i64 ((p + 1 : Nat) : Int), .int .i64 ((mm : Nat) : Int), .int .u32 2]) f_my_40 (by kernel_rfl) (by kernel_rfl) rfl rfl rfl) <| Rp (pu_fieldAddr (off := 3) (o' := 3) (by kernel_rfl) rfl rfl) <| Rp (pu_loadK f_my_40 (by kernel_rfl) rfl rfl) <| Rp (pu_fieldAddr (off := 4) (o' := 4) (by kernel_rfl) rfl rfl) <| Rp (pu_loadK f_my_40 (by kernel_rfl) rfl rfl) <| Rp (pu_fieldAddr (off := 5) (o' := 5) (by kernel_rfl) rfl rfl) <| Rp (pu_loadK f_mx_40 (by kernel_rfl) rfl rfl) <| Rp (pu_build (L := [.int .i64 ((p + 1 : Nat) : Int), .int .i64 ((mm : Nat) : Int), .int .u32 2, .slice A_ey ((boxE U2 R 2).length) (c_ey), .slice A_ry ((boxR R (encR [(1, Y)])).length) (c_ry), .slice A_tx ((turnT L_px t L_px.length).length) (c_tx)]) rfl (by kernel_rfl)) <| R_lo (lo_call (by kernel_rfl) rfl (cer_open_old b5_0 p mm 2 A_ey (boxE U2 R 2) c_ey A_ry (boxR R (encR [(1, Y)])) c_ry A_tx (turnT L_px t L_px.length) c_tx _ ey_40.1.bs ey_40.1.le.2 ry_40.1.bs ry_40.1.le.2 tx_40.1.ss ⟨hQY, by decide, by decide, ⟨tx_40.1.le.2, by omega⟩, fun h => key_gen hK_px (turnT_mem _ _ _) h 2 (by decide)⟩)) rfl ?_
   rintro _ w41 ⟨eo, rfl, heo, k41⟩
   have kk41 := kk40.then_ k41
   refine Rp (pu_move rfl) <| Rp (pu_extract rfl rfl) <| Rp (pu_extract rfl rfl) <| Rp (pu_extract rfl rfl) ?_
   have f574 := (f_pb_40.no k41)
   have f576 := (f_mr_40.no k41)
   have f577 := (f_my_40.no k41)
   have f578 := (f_mr2_40.no k41)
   have o579 := (G_40.no k41)
   have o580 := (T_b5_0_40.no k41)
   have ob581 := (ro_40.1.keptNo k41)
   have ob582 := (py_40.1.keptNo k41)
   have ob583 := (rn_40.1.keptNo k41)
   have ob585 := (ey_40.1.keptNo k41)
   have ob586 := (ry_40.1.keptNo k41)
   have ob587 := (ro2_40.1.keptNo k41)
   have ob588 := (rn2_40.1.keptNo k41)
   refine R_lo (lo_alloc (L := [.slice none (0) (0)]) (by kernel_rfl)) rfl ?_
   rintro _ w42 ⟨mr4, rfl, N42⟩
   have k42 := N42.kp
   have kk42 := kk41.then_ k42
   have ne_mr4_pb := Nat.ne_of_gt (Nat.lt_of_lt_of_le f574.lt N42.le)
   have ne_mr4_mr := Nat.ne_of_gt (Nat.lt_of_lt_of_le f576.lt N42.le)
   have ne_mr4_my := Nat.ne_of_gt (Nat.lt_of_lt_of_le f577.lt N42.le)
   have ne_mr4_mr2 := Nat.ne_of_gt (Nat.lt_of_lt_of_le f578.lt N42.le)
   have ne_mr4_0 := Nat.ne_of_gt (Nat.lt_of_lt_of_le o579.lt N42.le)
   have ne_mr4_b5_0 := Nat.ne_of_gt (Nat.lt_of_lt_of_le o580.lt N42.le)
   have f_mr4_42 := N42.bk
   refine Rp (pu_assign rfl) <| R_lo0 (lo_storeRow (C := [.slice none (0) (0)]) f_mr4_42 (by kernel_rfl) rfl rfl (by intro u hu; simp at hu; rcases hu with rfl <;> rfl) rfl) ?_
   rintro _ w43 kf43
   obtain ⟨k43, f_mr4_43⟩ := kf43
   replace f_mr4_43 : Bk w43 mr4 ([.slice none (0) (0)]) 46 := f_mr4_43
   have kk43 := kk42.trans k43 (fun i hi => .inr (hi ▸ (Nat.le_trans kk41.size N42.le)))
   refine Rp (pu_assign rfl) <| R_nil <| X_then hK573 ?_
   have f589 := ((f574.no k42).on k43 (Ne.symm ne_mr4_pb))
   have f590 := ((f576.no k42).on k43 (Ne.symm ne_mr4_mr))
   have f591 := ((f577.no k42).on k43 (Ne.symm ne_mr4_my))
   have f592 := ((f578.no k42).on k43 (Ne.symm ne_mr4_mr2))
   have o593 := ((o579.no k42).on k43 (Ne.symm ne_mr4_0))
   have o594 := ((o580.no k42).on k43 (Ne.symm ne_mr4_b5_0))
   refine C_cut (fun l_ wr => (l_ = [(4, .pointer (some ⟨pb, 0, none⟩)), (6, .bool false), (8, .int .i64 ((nn : Nat) : Int)), (9, .int .i64 ((p + 1 : Nat) : Int)), (11, .pointer (some ⟨b5_0, 0, none⟩)), (14, .slice A_ro ((R).length) (c_ro)), (15, .pointer (some ⟨mr, 0, none⟩)), (17, .pointer (some ⟨my, 0, none⟩)), (19, .slice A_ro2 ((R).length) (c_ro2)), (20, .pointer (some ⟨mr2, 0, none⟩)), (21, .nilIface), (24, .iface 76 (.int .i64 ((eo : Nat) : Int))), (27, .iface 76 (.int .i64 2))]) ∧ (Kp No w wr) ∧ (Bk wr pb ([.int .i64 (kb), .int .i64 (nb), .slice A3 (m.length) (c3), .slice A4 (m2.length) (c4)]) 24) ∧ (Bk wr mr ([.slice A_rn (([(1, Y)]).length) (c_rn)]) 46) ∧ (Bk wr my ([.int .i64 ((p + 1 : Nat) : Int), .int .i64 ((mm : Nat) : Int), .int .u32 2, .slice A_ey ((boxE U2 R 2).length) (c_ey), .slice A_ry ((boxR R (encR [(1, Y)])).length) (c_ry), .slice A_py ((L_py).length) (c_py)]) 39) ∧ (Bk wr mr2 ([.slice A_rn2 (([(1, Y)]).length) (c_rn2)]) 46) ∧ (Ob wr w9.heap.size (.slice A_ro ((R).length) (c_ro)) (R) ∧ w9.heap.size ≤ (wr).heap.size) ∧ (Ob wr w27.heap.size (.slice A_ro2 ((R).length) (c_ro2)) (R) ∧ w27.heap.size ≤ (wr).heap.size) ∧ (Ob wr w12.heap.size (.slice A_ey ((boxE U2 R 2).length) (c_ey)) (boxE U2 R 2) ∧ w12.heap.size ≤ (wr).heap.size) ∧ (Ob wr w12.heap.size (.slice A_ry ((boxR R (encR [(1, Y)])).length) (c_ry)) (boxR R (encR [(1, Y)])) ∧ w12.heap.size ≤ (wr).heap.size) ∧ (Ro tmC 33 58 wr w9.heap.size (.slice A_rn (([(1, Y)]).length) (c_rn)) ([(1, Y)]) ∧ w9.heap.size ≤ (wr).heap.size) ∧ (Sw 51 w12.heap.size wr w12.heap.size (.slice A_py ((L_py).length) (c_py)) (L_py) ∧ w12.heap.size ≤ (wr).heap.size) ∧ (Ro tmC 33 58 wr w27.heap.size (.slice A_rn2 (([(1, Y)]).length) (c_rn2)) ([(1, Y)]) ∧ w27.heap.size ≤ (wr).heap.size) ∧ (Gt wr) ∧ (Tb wr b5_0)) (fun K_ hK_ => ?_) ?_
   ·
    refine D_begin (fun W => Kp No w W ∧ Bk W pb ([.int .i64 (kb), .int .i64 (nb), .slice A3 (m.length) (c3), .slice A4 (m2.length) (c4)]) 24 ∧ Bk W mr ([.slice A_rn (([(1, Y)]).length) (c_rn)]) 46 ∧ Bk W my ([.int .i64 ((p + 1 : Nat) : Int), .int .i64 ((mm : Nat) : Int), .int .u32 2, .slice A_ey ((boxE U2 R 2).length) (c_ey), .slice A_ry ((boxR R (encR [(1, Y)])).length) (c_ry), .slice A_py ((L_py).length) (c_py)]) 39 ∧ Bk W mr2 ([.slice A_rn2 (([(1, Y)]).length) (c_rn2)]) 46 ∧ Gt W ∧ Tb W b5_0) 22 rfl (by kernel_rfl) ⟨kk43.drew, f589.draw, f590.draw, f591.draw, f592.draw, o593.draw, o594.draw⟩ ?_
    intro w44 k44 _
    have kk44 := kk43.then_ k44
    refine Dt 0 rfl (fun W hS => pu_move rfl) <| Dt 1 rfl (fun W hS => pu_fieldAddr (off := 0) (o' := 0) (by kernel_rfl) rfl rfl) <| Dt 2 rfl (fun W hS => pu_loadMid (len := 3) (C := [.int .i64 ((p + 1 : Nat) : Int), .int .i64 ((mm : Nat) : Int), .int .u32 2]) hS.2.2.2.1 (by kernel_rfl) (by kernel_rfl) rfl rfl rfl) <| Dt 3 rfl (fun W hS => pu_fieldAddr (off := 3) (o' := 3) (by kernel_rfl) rfl rfl) <| Dt 4 rfl (fun W hS => pu_loadK hS.2.2.2.1 (by kernel_rfl) rfl rfl) <| Dt 5 rfl (fun W hS => pu_fieldAddr (off := 4) (o' := 4) (by kernel_rfl) rfl rfl) <| Dt 6 rfl (fun W hS => pu_loadK hS.2.2.2.1 (by kernel_rfl) rfl rfl) <| Dt 7 rfl (fun W hS => pu_fieldAddr (off := 5) (o' := 5) (by kernel_rfl) rfl rfl) <| Dt 8 rfl (fun W hS => pu_loadK hS.2.2.2.1 (by kernel_rfl) rfl rfl) <| Dt 9 rfl (fun W hS => pu_move rfl) <| Dt 10 rfl (fun W hS => pu_sub (z := ((p : Nat) : Int)) rfl rfl (by rw [IntKind.wrap_i64]; omega)) <| D_two 11 18 (by kernel_rfl) ?_ ?_
    ·
     have ob595 := (((ob582.keptNo k42).onN k43 ob582 N42.le).keptNo k44)
     have f596 := (f589.no k44)
     have f597 := (f590.no k44)
     have f598 := (f591.no k44)
     have f599 := (f592.no k44)
     have o600 := (o593.no k44)
     have o601 := (o594.no k44)
     refine Nx_pu rfl (pu_sliceHi (hi := p) (s := 3) Tryz.underlying37 (by kernel_rfl) rfl rfl rfl (by have hle_ := ob595.le; omega)) rfl ⟨⟨kk44, f596, f597, f598, f599, o600, o601⟩, ?_⟩
     refine Dt 12 rfl (fun W hS => pu_build (L := [.int .i64 ((p + 1 : Nat) : Int), .int .i64 ((mm : Nat) : Int), .int .u32 2, .slice A_ey ((boxE U2 R 2).length) (c_ey), .slice A_ry ((boxR R (encR [(1, Y)])).length) (c_ry), .slice A_py (p) (c_py)]) rfl (by kernel_rfl)) <| D_two 13 18 (by kernel_rfl) ?_ ?_
     ·
      have ob602 := (((ob585.keptNo k42).onN k43 ob585 N42.le).keptNo k44)
      have ob603 := (((ob586.keptNo k42).onN k43 ob586 N42.le).keptNo k44)
      refine Nx_lo rfl (lo_callE (by kernel_rfl) rfl (by rw [(show (L_py.take p).length = p by rw [List.length_take]; omega)] <;> rfl) (cer_open_short b5_0 p mm 2 A_ey (boxE U2 R 2) c_ey A_ry (boxR R (encR [(1, Y)])) c_ry A_py (L_py.take p) c_py _ ob602.bs ob602.le.2 ob603.bs ob603.le.2 (ob595.ss.take p) ⟨hQY, by decide, by decide, by rw [List.length_take]; omega⟩)) rfl ?_
      rintro _ w45 ⟨rfl, k45⟩
      have kk45 := kk44.then_ k45
      have f604 := (f596.no k45)
      have f605 := (f597.no k45)
      have f606 := (f598.no k45)
      have f607 := (f599.no k45)
      have o608 := (o600.no k45)
      have o609 := (o601.no k45)
      refine ⟨⟨kk45, f604, f605, f606, f607, o608, o609⟩, ?_⟩
      refine Dt 14 rfl (fun W hS => pu_move rfl) <| Dt 15 rfl (fun W hS => pu_extract rfl rfl) <| Dt 16 rfl (fun W hS => pu_extract rfl rfl) <| Dt 17 rfl (fun W hS => pu_extract rfl rfl) ?_
      have ob610 := ((((ob581.keptNo k42).onN k43 ob581 N42.le).keptNo k44).keptNo k45)
      have ob611 := (ob595.keptNo k45)
      have ob612 := ((((ob583.keptNo k42).onN k43 ob583 N42.le).keptNo k44).keptNo k45)
      have ob613 := (ob602.keptNo k45)
      have ob614 := (ob603.keptNo k45)
      have ob615 := ((((ob587.keptNo k42).onN k43 ob587 N42.le).keptNo k44).keptNo k45)
      have ob616 := ((((ob588.keptNo k42).onN k43 ob588 N42.le).keptNo k44).keptNo k45)
      refine D_one 18 (by kernel_rfl) (Nx_lo rfl (lo_alloc (L := [.slice none (0) (0)]) (by kernel_rfl)) rfl ?_)
      rintro _ w46 ⟨mr5, rfl, N46⟩
      have k46 := N46.kp
      have kk46 := kk45.then_ k46
      have ne_mr5_pb := Nat.ne_of_gt (Nat.lt_of_lt_of_le f604.lt N46.le)
      have ne_mr5_mr := Nat.ne_of_gt (Nat.lt_of_lt_of_le f605.lt N46.le)
      have ne_mr5_my := Nat.ne_of_gt (Nat.lt_of_lt_of_le f606.lt N46.le)
      have ne_mr5_mr2 := Nat.ne_of_gt (Nat.lt_of_lt_of_le f607.lt N46.le)
      have ne_mr5_0 := Nat.ne_of_gt (Nat.lt_of_lt_of_le o608.lt N46.le)
      have ne_mr5_b5_0 := Nat.ne_of_gt (Nat.lt_of_lt_of_le o609.lt N46.le)
      have f_mr5_46 := N46.bk
      have f617 := (f604.no k46)
      have f618 := (f605.no k46)
      have f619 := (f606.no k46)
      have f620 := (f607.no k46)
      have o621 := (o608.no k46)
      have o622 := (o609.no k46)
      refine ⟨⟨kk46, f617, f618, f619, f620, o621, o622⟩, ?_⟩
      refine Dt 19 rfl (fun W hS => pu_assign rfl) <| D_one 20 (by kernel_rfl) (Nx_lo0 rfl (lo_storeRow (C := [.slice none (0) (0)]) f_mr5_46 (by kernel_rfl) rfl rfl (by intro u hu; simp at hu; rcases hu with rfl <;> rfl) rfl) ?_)
      rintro _ w47 kf47
      obtain ⟨k47, f_mr5_47⟩ := kf47
      replace f_mr5_47 : Bk w47 mr5 ([.slice none (0) (0)]) 46 := f_mr5_47
      have kk47 := kk46.trans k47 (fun i hi => .inr (hi ▸ (Nat.le_trans kk45.size N46.le)))
      have f623 := (f617.on k47 (Ne.symm ne_mr5_pb))
      have f624 := (f618.on k47 (Ne.symm ne_mr5_mr))
      have f625 := (f619.on k47 (Ne.symm ne_mr5_my))
      have f626 := (f620.on k47 (Ne.symm ne_mr5_mr2))
      have o627 := (o621.on k47 (Ne.symm ne_mr5_0))
      have o628 := (o622.on k47 (Ne.symm ne_mr5_b5_0))
      refine ⟨⟨kk47, f623, f624, f625, f626, o627, o628⟩, ?_⟩
      refine Dt 21 rfl (fun W hS => pu_assign rfl) <| D_done (by kernel_rfl) ?_
      have ob629 := ((ob610.keptNo k46).onN k47 ob610 N46.le)
      have hz630 : w43.heap.size ≤ w47.heap.size := (Nat.le_trans (Nat.le_trans (Nat.le_trans k44.size k45.size) k46.size) k47.size)
      have ob631 := ((ob615.keptNo k46).onN k47 ob615 N46.le)
      have ob632 := ((ob613.keptNo k46).onN k47 ob613 N46.le)
      have ob633 := ((ob614.keptNo k46).onN k47 ob614 N46.le)
      have ob634 := ((ob612.keptNo k46).onN k47 ob612 N46.le)
      have ob635 := ((ob611.keptNo k46).onN k47 ob611 N46.le)
      have ob636 := ((ob616.keptNo k46).onN k47 ob616 N46.le)
      refine Xc hK_ ⟨rfl, kk47, f623, f624, f625, f626, ⟨ob629, (Nat.le_trans (Nat.le_trans (Nat.le_trans (Nat.le_trans ro_40.2 k41.size) k42.size) k43.size) hz630)⟩, ⟨ob631, (Nat.le_trans (Nat.le_trans (Nat.le_trans (Nat.le_trans ro2_40.2 k41.size) k42.size) k43.size) hz630)⟩, ⟨ob632, (Nat.le_trans (Nat.le_trans (Nat.le_trans (Nat.le_trans ey_40.2 k41.size) k42.size) k43.size) hz630)⟩, ⟨ob633, (Nat.le_trans (Nat.le_trans (Nat.le_trans (Nat.le_trans ry_40.2 k41.size) k42.size) k43.size) hz630)⟩, ⟨ob634, (Nat.le_trans (Nat.le_trans (Nat.le_trans (Nat.le_trans rn_40.2 k41.size) k42.size) k43.size) hz630)⟩, ⟨ob635, (Nat.le_trans (Nat.le_trans (Nat.le_trans (Nat.le_trans py_40.2 k41.size) k42.size) k43.size) hz630)⟩, ⟨ob636, (Nat.le_trans (Nat.le_trans (Nat.le_trans (Nat.le_trans rn2_40.2 k41.size) k42.size) k43.size) hz630)⟩, o627, o628⟩ (Sub.cons rfl (Sub.cons rfl (Sub.cons rfl (Sub.cons rfl (Sub.cons rfl (Sub.cons rfl (Sub.cons rfl (Sub.cons rfl (Sub.cons rfl (Sub.cons rfl (Sub.cons rfl (Sub.cons rfl (Sub.cons rfl (Sub.nil _))))))))))))))
     ·
      have ob637 := (((ob581.keptNo k42).onN k43 ob581 N42.le).keptNo k44)
      have ob638 := (((ob583.keptNo k42).onN k43 ob583 N42.le).keptNo k44)
      have ob639 := (((ob585.keptNo k42).onN k43 ob585 N42.le).keptNo k44)
      have ob640 := (((ob586.keptNo k42).onN k43 ob586 N42.le).keptNo k44)
      have ob641 := (((ob587.keptNo k42).onN k43 ob587 N42.le).keptNo k44)
      have ob642 := (((ob588.keptNo k42).onN k43 ob588 N42.le).keptNo k44)
      refine Nx_lo rfl (lo_alloc (L := [.slice none (0) (0)]) (by kernel_rfl)) rfl ?_
      rintro _ w48 ⟨mr5, rfl, N48⟩
      have k48 := N48.kp
      have kk48 := kk44.then_ k48
      have ne_mr5_pb := Nat.ne_of_gt (Nat.lt_of_lt_of_le f596.lt N48.le)
      have ne_mr5_mr := Nat.ne_of_gt (Nat.lt_of_lt_of_le f597.lt N48.le)
      have ne_mr5_my := Nat.ne_of_gt (Nat.lt_of_lt_of_le f598.lt N48.le)
      have ne_mr5_mr2 := Nat.ne_of_gt (Nat.lt_of_lt_of_le f599.lt N48.le)
      have ne_mr5_0 := Nat.ne_of_gt (Nat.lt_of_lt_of_le o600.lt N48.le)
      have ne_mr5_b5_0 := Nat.ne_of_gt (Nat.lt_of_lt_of_le o601.lt N48.le)
      have f_mr5_48 := N48.bk
      have f643 := (f596.no k48)
      have f644 := (f597.no k48)
      have f645 := (f598.no k48)
      have f646 := (f599.no k48)
      have o647 := (o600.no k48)
      have o648 := (o601.no k48)
      refine ⟨⟨kk48, f643, f644, f645, f646, o647, o648⟩, ?_⟩
      have ob649 := (ob639.keptNo k48)
      have ob650 := (ob640.keptNo k48)
      have ob651 := (ob595.keptNo k48)
      refine D_one 13 (by kernel_rfl) (Nx_lo rfl (lo_callE (by kernel_rfl) rfl (by rw [(show (L_py.take p).length = p by rw [List.length_take]; omega)] <;> rfl) (cer_open_short b5_0 p mm 2 A_ey (boxE U2 R 2) c_ey A_ry (boxR R (encR [(1, Y)])) c_ry A_py (L_py.take p) c_py _ ob649.bs ob649.le.2 ob650.bs ob650.le.2 (ob651.ss.take p) ⟨hQY, by decide, by decide, by rw [List.length_take]; omega⟩)) rfl ?_)
      rintro _ w49 ⟨rfl, k49⟩
      have kk49 := kk48.then_ k49
      have f652 := (f643.no k49)
      have f653 := (f644.no k49)
      have f654 := (f645.no k49)
      have f655 := (f646.no k49)
      have o656 := (o647.no k49)
      have o657 := (o648.no k49)
      refine ⟨⟨kk49, f652, f653, f654, f655, o656, o657⟩, ?_⟩
      refine Dt 14 rfl (fun W hS => pu_move rfl) <| Dt 15 rfl (fun W hS => pu_extract rfl rfl) <| Dt 16 rfl (fun W hS => pu_extract rfl rfl) <| Dt 17 rfl (fun W hS => pu_extract rfl rfl) <| Dt 19 rfl (fun W hS => pu_assign rfl) ?_
      have f658 := (f_mr5_48.no k49)
      refine D_one 20 (by kernel_rfl) (Nx_lo0 rfl (lo_storeRow (C := [.slice none (0) (0)]) f658 (by kernel_rfl) rfl rfl (by intro u hu; simp at hu; rcases hu with rfl <;> rfl) rfl) ?_)
      rintro _ w50 kf50
      obtain ⟨k50, f_mr5_50⟩ := kf50
      replace f_mr5_50 : Bk w50 mr5 ([.slice none (0) (0)]) 46 := f_mr5_50
      have kk50 := kk49.trans k50 (fun i hi => .inr (hi ▸ (Nat.le_trans kk44.size N48.le)))
      have f659 := (f652.on k50 (Ne.symm ne_mr5_pb))
      have f660 := (f653.on k50 (Ne.symm ne_mr5_mr))
      have f661 := (f654.on k50 (Ne.symm ne_mr5_my))
      have f662 := (f655.on k50 (Ne.symm ne_mr5_mr2))
      have o663 := (o656.on k50 (Ne.symm ne_mr5_0))
      have o664 := (o657.on k50 (Ne.symm ne_mr5_b5_0))
      refine ⟨⟨kk50, f659, f660, f661, f662, o663, o664⟩, ?_⟩
      refine Dt 21 rfl (fun W hS => pu_assign rfl) <| D_done (by kernel_rfl) ?_
      have ob665 := (((ob637.keptNo k48).keptNo k49).onN k50 ob637 N48.le)
      have hz666 : w43.heap.size ≤ w50.heap.size := (Nat.le_trans (Nat.le_trans (Nat.le_trans k44.size k48.size) k49.size) k50.size)
      have ob667 := (((ob641.keptNo k48).keptNo k49).onN k50 ob641 N48.le)
      have ob668 := ((ob649.keptNo k49).onN k50 ob639 N48.le)
      have ob669 := ((ob650.keptNo k49).onN k50 ob640 N48.le)
      have ob670 := (((ob638.keptNo k48).keptNo k49).onN k50 ob638 N48.le)
      have ob671 := ((ob651.keptNo k49).onN k50 ob595 N48.le)
      have ob672 := (((ob642.keptNo k48).keptNo k49).onN k50 ob642 N48.le)
      refine Xc hK_ ⟨rfl, kk50, f659, f660, f661, f662, ⟨ob665, (Nat.le_trans (Nat.le_trans (Nat.le_trans (Nat.le_trans ro_40.2 k41.size) k42.size) k43.size) hz666)⟩, ⟨ob667, (Nat.le_trans (Nat.le_trans (Nat.le_trans (Nat.le_trans ro2_40.2 k41.size) k42.size) k43.size) hz666)⟩, ⟨ob668, (Nat.le_trans (Nat.le_trans (Nat.le_trans (Nat.le_trans ey_40.2 k41.size) k42.size) k43.size) hz666)⟩, ⟨ob669, (Nat.le_trans (Nat.le_trans (Nat.le_trans (Nat.le_trans ry_40.2 k41.size) k42.size) k43.size) hz666)⟩, ⟨ob670, (Nat.le_trans (Nat.le_trans (Nat.le_trans (Nat.le_trans rn_40.2 k41.size) k42.size) k43.size) hz666)⟩, ⟨ob671, (Nat.le_trans (Nat.le_trans (Nat.le_trans (Nat.le_trans py_40.2 k41.size) k42.size) k43.size) hz666)⟩, ⟨ob672, (Nat.le_trans (Nat.le_trans (Nat.le_trans (Nat.le_trans rn2_40.2 k41.size) k42.size) k43.size) hz666)⟩, o663, o664⟩ (Sub.cons rfl (Sub.cons rfl (Sub.cons rfl (Sub.cons rfl (Sub.cons rfl (Sub.cons rfl (Sub.cons rfl (Sub.cons rfl (Sub.cons rfl (Sub.cons rfl (Sub.cons rfl (Sub.cons rfl (Sub.cons rfl (Sub.nil _))))))))))))))
    ·
     have f673 : Bk w44 pb ([.int .i64 (kb), .int .i64 (nb), .slice A3 (m.length) (c3), .slice A4 (m2.length) (c4)]) 24 := (f589.no k44)
     have f674 := (f590.no k44)
     have f675 := (f591.no k44)
     have f676 := (f592.no k44)
     have o677 := (o593.no k44)
     have o678 := (o594.no k44)
     have ob679 := (((ob581.keptNo k42).onN k43 ob581 N42.le).keptNo k44)
     have ob680 := (((ob582.keptNo k42).onN k43 ob582 N42.le).keptNo k44)
     have ob681 := (((ob583.keptNo k42).onN k43 ob583 N42.le).keptNo k44)
     have ob682 := (((ob585.keptNo k42).onN k43 ob585 N42.le).keptNo k44)
     have ob683 := (((ob586.keptNo k42).onN k43 ob586 N42.le).keptNo k44)
     have ob684 := (((ob587.keptNo k42).onN k43 ob587 N42.le).keptNo k44)
     have ob685 := (((ob588.keptNo k42).onN k43 ob588 N42.le).keptNo k44)
     refine Nx_lo rfl (lo_alloc (L := [.slice none (0) (0)]) (by kernel_rfl)) rfl ?_
     rintro _ w51 ⟨mr5, rfl, N51⟩
     have k51 := N51.kp
     have kk51 := kk44.then_ k51
     have ne_mr5_pb := Nat.ne_of_gt (Nat.lt_of_lt_of_le f673.lt N51.le)
     have ne_mr5_mr := Nat.ne_of_gt (Nat.lt_of_lt_of_le f674.lt N51.le)
     have ne_mr5_my := Nat.ne_of_gt (Nat.lt_of_lt_of_le f675.lt N51.le)
     have ne_mr5_mr2 := Nat.ne_of_gt (Nat.lt_of_lt_of_le f676.lt N51.le)
     have ne_mr5_0 := Nat.ne_of_gt (Nat.lt_of_lt_of_le o677.lt N51.le)
     have ne_mr5_b5_0 := Nat.ne_of_gt (Nat.lt_of_lt_of_le o678.lt N51.le)
     have f_mr5_51 := N51.bk
     have f686 := (f673.no k51)
     have f687 := (f674.no k51)
     have f688 := (f675.no k51)
     have f689 := (f676.no k51)
     have o690 := (o677.no k51)
     have o691 := (o678.no k51)
     refine ⟨⟨kk51, f686, f687, f688, f689, o690, o691⟩, ?_⟩
     have ob692 := (ob680.keptNo k51)
     refine D_one 11 (by kernel_rfl) (Nx_pu rfl (pu_sliceHi (hi := p) (s := 3) Tryz.underlying37 (by kernel_rfl) rfl rfl rfl (by have hle_ := ob692.le; omega)) rfl ⟨⟨kk51, f686, f687, f688, f689, o690, o691⟩, ?_⟩)
     refine Dt 12 rfl (fun W hS => pu_build (L := [.int .i64 ((p + 1 : Nat) : Int), .int .i64 ((mm : Nat) : Int), .int .u32 2, .slice A_ey ((boxE U2 R 2).length) (c_ey), .slice A_ry ((boxR R (encR [(1, Y)])).length) (c_ry), .slice A_py (p) (c_py)]) rfl (by kernel_rfl)) ?_
     have ob693 := (ob682.keptNo k51)
     have ob694 := (ob683.keptNo k51)
     refine D_one 13 (by kernel_rfl) (Nx_lo rfl (lo_callE (by kernel_rfl) rfl (by rw [(show (L_py.take p).length = p by rw [List.length_take]; omega)] <;> rfl) (cer_open_short b5_0 p mm 2 A_ey (boxE U2 R 2) c_ey A_ry (boxR R (encR [(1, Y)])) c_ry A_py (L_py.take p) c_py _ ob693.bs ob693.le.2 ob694.bs ob694.le.2 (ob692.ss.take p) ⟨hQY, by decide, by decide, by rw [List.length_take]; omega⟩)) rfl ?_)
     rintro _ w52 ⟨rfl, k52⟩
     have kk52 := kk51.then_ k52
     have f695 := (f686.no k52)
     have f696 := (f687.no k52)
     have f697 := (f688.no k52)
     have f698 := (f689.no k52)
     have o699 := (o690.no k52)
     have o700 := (o691.no k52)
     refine ⟨⟨kk52, f695, f696, f697, f698, o699, o700⟩, ?_⟩
     refine Dt 14 rfl (fun W hS => pu_move rfl) <| Dt 15 rfl (fun W hS => pu_extract rfl rfl) <| Dt 16 rfl (fun W hS => pu_extract rfl rfl) <| Dt 17 rfl (fun W hS => pu_extract rfl rfl) <| Dt 19 rfl (fun W hS => pu_assign rfl) ?_
     have f701 := (f_mr5_51.no k52)
     refine D_one 20 (by kernel_rfl) (Nx_lo0 rfl (lo_storeRow (C := [.slice none (0) (0)]) f701 (by kernel_rfl) rfl rfl (by intro u hu; simp at hu; rcases hu with rfl <;> rfl) rfl) ?_)
     rintro _ w53 kf53
     obtain ⟨k53, f_mr5_53⟩ := kf53
     replace f_mr5_53 : Bk w53 mr5 ([.slice none (0) (0)]) 46 := f_mr5_53
     have kk53 := kk52.trans k53 (fun i hi => .inr (hi ▸ (Nat.le_trans kk44.size N51.le)))
     have f702 := (f695.on k53 (Ne.symm ne_mr5_pb))
     have f703 := (f696.on k53 (Ne.symm ne_mr5_mr))
     have f704 := (f697.on k53 (Ne.symm ne_mr5_my))
     have f705 := (f698.on k53 (Ne.symm ne_mr5_mr2))
     have o706 := (o699.on k53 (Ne.symm ne_mr5_0))
     have o707 := (o700.on k53 (Ne.symm ne_mr5_b5_0))
     refine ⟨⟨kk53, f702, f703, f704, f705, o706, o707⟩, ?_⟩
     refine Dt 21 rfl (fun W hS => pu_assign rfl) <| D_done (by kernel_rfl) ?_
     have ob708 := (((ob679.keptNo k51).keptNo k52).onN k53 ob679 N51.le)
     have hz709 : w43.heap.size ≤ w53.heap.size := (Nat.le_trans (Nat.le_trans (Nat.le_trans k44.size k51.size) k52.size) k53.size)
     have ob710 := (((ob684.keptNo k51).keptNo k52).onN k53 ob684 N51.le)
     have ob711 := ((ob693.keptNo k52).onN k53 ob682 N51.le)
     have ob712 := ((ob694.keptNo k52).onN k53 ob683 N51.le)
     have ob713 := (((ob681.keptNo k51).keptNo k52).onN k53 ob681 N51.le)
     have ob714 := ((ob692.keptNo k52).onN k53 ob680 N51.le)
     have ob715 := (((ob685.keptNo k51).keptNo k52).onN k53 ob685 N51.le)
     refine Xc hK_ ⟨rfl, kk53, f702, f703, f704, f705, ⟨ob708, (Nat.le_trans (Nat.le_trans (Nat.le_trans (Nat.le_trans ro_40.2 k41.size) k42.size) k43.size) hz709)⟩, ⟨ob710, (Nat.le_trans (Nat.le_trans (Nat.le_trans (Nat.le_trans ro2_40.2 k41.size) k42.size) k43.size) hz709)⟩, ⟨ob711, (Nat.le_trans (Nat.le_trans (Nat.le_trans (Nat.le_trans ey_40.2 k41.size) k42.size) k43.size) hz709)⟩, ⟨ob712, (Nat.le_trans (Nat.le_trans (Nat.le_trans (Nat.le_trans ry_40.2 k41.size) k42.size) k43.size) hz709)⟩, ⟨ob713, (Nat.le_trans (Nat.le_trans (Nat.le_trans (Nat.le_trans rn_40.2 k41.size) k42.size) k43.size) hz709)⟩, ⟨ob714, (Nat.le_trans (Nat.le_trans (Nat.le_trans (Nat.le_trans py_40.2 k41.size) k42.size) k43.size) hz709)⟩, ⟨ob715, (Nat.le_trans (Nat.le_trans (Nat.le_trans (Nat.le_trans rn2_40.2 k41.size) k42.size) k43.size) hz709)⟩, o706, o707⟩ (Sub.cons rfl (Sub.cons rfl (Sub.cons rfl (Sub.cons rfl (Sub.cons rfl (Sub.cons rfl (Sub.cons rfl (Sub.cons rfl (Sub.cons rfl (Sub.cons rfl (Sub.cons rfl (Sub.cons rfl (Sub.cons rfl (Sub.nil _))))))))))))))
   ·
    rintro _ w54 ⟨rfl, kk54, f_pb_54, f_mr_54, f_my_54, f_mr2_54, ro_54, ro2_54, ey_54, ry_54, rn_54, py_54, rn2_54, G_54, T_b5_0_54⟩
    refine C_cut (fun l_ wr => ∃ mz : Nat, ∃ mg : Nat, ∃ A_ez : Option Addr, ∃ c_ez : Nat, ∃ A_rz : Option Addr, ∃ c_rz : Nat, ∃ A_pz : Option Addr, ∃ c_pz : Nat, ∃ L_pz : List Shr, ∃ A_gz : Option Addr, ∃ c_gz : Nat, (l_ = [(6, .bool false), (8, .int .i64 ((nn : Nat) : Int)), (9, .int .i64 ((p + 1 : Nat) : Int)), (11, .pointer (some ⟨b5_0, 0, none⟩)), (14, .slice A_ro ((R).length) (c_ro)), (15, .pointer (some ⟨mr, 0, none⟩)), (17, .pointer (some ⟨my, 0, none⟩)), (19, .slice A_ro2 ((R).length) (c_ro2)), (20, .pointer (some ⟨mr2, 0, none⟩)), (21, .nilIface), (24, .iface 76 (.int .i64 ((eo : Nat) : Int))), (27, .iface 76 (.int .i64 2)), (28, .pointer (some ⟨mz, 0, none⟩)), (29, .pointer (some ⟨mg, 0, none⟩)), (30, .nilIface)]) ∧ (L_pz.map Shr.key = L_py.map Shr.key) ∧ (L_pz.length = L_py.length) ∧ (mz ≠ 0) ∧ (mz ≠ b5_0) ∧ (mz ≠ mr) ∧ (mz ≠ mr2) ∧ (mz ≠ my) ∧ (mg ≠ 0) ∧ (mg ≠ b5_0) ∧ (mg ≠ mr) ∧ (mg ≠ mr2) ∧ (mg ≠ my) ∧ (mg ≠ mz) ∧ (Kp No w wr) ∧ (Bk wr mr ([.slice A_rn (([(1, Y)]).length) (c_rn)]) 46) ∧ (Bk wr my ([.int .i64 ((p + 1 : Nat) : Int), .int .i64 ((mm : Nat) : Int), .int .u32 2, .slice A_ey ((boxE U2 R 2).length) (c_ey), .slice A_ry ((boxR R (encR [(1, Y)])).length) (c_ry), .slice A_py ((L_py).length) (c_py)]) 39) ∧ (Bk wr mr2 ([.slice A_rn2 (([(1, Y)]).length) (c_rn2)]) 46) ∧ (Bk wr mz ([.int .i64 ((p + 1 : Nat) : Int), .int .i64 ((mm : Nat) : Int), .int .u32 2, .slice A_ez ((boxE U2 R 2).length) (c_ez), .slice A_rz ((boxR R (encR ([(1, Y)] ++ [([((1, Y) : Tm)].length + 1, U2)]))).length) (c_rz), .slice A_pz ((L_pz).length) (c_pz)]) 39) ∧ (Bk wr mg ([.slice A_gz (([(1, Y)] ++ [([((1, Y) : Tm)].length + 1, U2)]).length) (c_gz)]) 46) ∧ (Ob wr w9.heap.size (.slice A_ro ((R).length) (c_ro)) (R) ∧ w9.heap.size ≤ (wr).heap.size) ∧ (Ob wr w27.heap.size (.slice A_ro2 ((R).length) (c_ro2)) (R) ∧ w27.heap.size ≤ (wr).heap.size) ∧ (Ro tmC 33 58 wr w9.heap.size (.slice A_rn (([(1, Y)]).length) (c_rn)) ([(1, Y)]) ∧ w9.heap.size ≤ (wr).heap.size) ∧ (Ro tmC 33 58 wr w27.heap.size (.slice A_rn2 (([(1, Y)]).length) (c_rn2)) ([(1, Y)]) ∧ w27.heap.size ≤ (wr).heap.size) ∧ (Ob wr w54.heap.size (.slice A_ez ((boxE U2 R 2).length) (c_ez)) (boxE U2 R 2) ∧ w54.heap.size ≤ (wr).heap.size) ∧ (Ob wr w54.heap.size (.slice A_rz ((boxR R (encR ([(1, Y)] ++ [([((1, Y) : Tm)].length + 1, U2)]))).length) (c_rz)) (boxR R (encR ([(1, Y)] ++ [([((1, Y) : Tm)].length + 1, U2)]))) ∧ w54.heap.size ≤ (wr).heap.size) ∧ (Sw 51 w54.heap.size wr w54.heap.size (.slice A_pz ((L_pz).length) (c_pz)) (L_pz) ∧ w54.heap.size ≤ (wr).heap.size) ∧ (Ro tmC 33 58 wr w54.heap.size (.slice A_gz (([(1, Y)] ++ [([((1, Y) : Tm)].length + 1, U2)]).length) (c_gz)) ([(1, Y)] ++ [([((1, Y) : Tm)].length + 1, U2)]) ∧ w54.heap.size ≤ (wr).heap.size) ∧ (Gt wr) ∧ (Tb wr b5_0)) (fun K_ hK_ => ?_) ?_
    ·
     refine D_begin (fun W => Kp No w W ∧ Bk W pb ([.int .i64 (kb), .int .i64 (nb), .slice A3 (m.length) (c3), .slice A4 (m2.length) (c4)]) 24 ∧ Bk W mr ([.slice A_rn (([(1, Y)]).length) (c_rn)]) 46 ∧ Bk W my ([.int .i64 ((p + 1 : Nat) : Int), .int .i64 ((mm : Nat) : Int), .int .u32 2, .slice A_ey ((boxE U2 R 2).length) (c_ey), .slice A_ry ((boxR R (encR [(1, Y)])).length) (c_ry), .slice A_py ((L_py).length) (c_py)]) 39 ∧ Bk W mr2 ([.slice A_rn2 (([(1, Y)]).length) (c_rn2)]) 46 ∧ Gt W ∧ Tb W b5_0 ∧ Ob W w9.heap.size (.slice A_ro ((R).length) (c_ro)) (R)) 16 rfl (by kernel_rfl) ⟨kk54.drew, f_pb_54.draw, f_mr_54.draw, f_my_54.draw, f_mr2_54.draw, G_54.draw, T_b5_0_54.draw, ro_54.1.draw⟩ ?_
     intro w55 k55 _
     have kk55 := kk54.then_ k55
     refine Dt 0 rfl (fun W hS => pu_loadRow (len := 6) hS.2.2.2.1 (by kernel_rfl) (by kernel_rfl) rfl rfl) <| Dt 1 rfl (fun W hS => pu_move rfl) <| Dt 2 rfl (fun W hS => pu_loadRow (len := 1) hS.2.2.2.2.1 (by kernel_rfl) (by kernel_rfl) rfl rfl) <| Dt 3 rfl (fun W hS => pu_fieldAddr (off := 2) (o' := 2) (by kernel_rfl) rfl rfl) <| Dt 4 rfl (fun W hS => pu_loadK hS.2.1 (by kernel_rfl) rfl rfl) <| D_three 5 11 12 (by kernel_rfl) ?_ ?_ ?_
     ·
      have f716 : Bk w55 pb ([.int .i64 (kb), .int .i64 (nb), .slice A3 (m.length) (c3), .slice A4 (m2.length) (c4)]) 24 := (f_pb_54.no k55)
      have f717 := (f_mr_54.no k55)
      have f718 := (f_my_54.no k55)
      have f719 := (f_mr2_54.no k55)
      have o720 := (G_54.no k55)
      have o721 := (T_b5_0_54.no k55)
      have ob723 := (ro_54.1.keptNo k55)
      have ob725 := (ro2_54.1.keptNo k55)
      have ob727 := (ey_54.1.keptNo k55)
      have ob729 := (ry_54.1.keptNo k55)
      have ob731 := (rn_54.1.keptNo k55)
      have ob733 := (py_54.1.keptNo k55)
      have ob735 := (rn2_54.1.keptNo k55)
      refine Nx_lo rfl (lo_call (by kernel_rfl) rfl (cer_full A3 m c3 400 _ (HC.keptNo kk55) hc (by omega))) rfl ?_
      rintro _ w56 ⟨A_dc, c_dc, rfl, Q56, k56⟩
      have kk56 := kk55.then_ k56
      have f737 := (f716.no k56)
      have f738 := (f717.no k56)
      have f739 := (f718.no k56)
      have f740 := (f719.no k56)
      have o741 := (o720.no k56)
      have o742 := (o721.no k56)
      have ob743 := (ob723.keptNo k56)
      refine ⟨⟨kk56, f737, f738, f739, f740, o741, o742, ob743⟩, ?_⟩
      refine D_three 6 11 12 (by kernel_rfl) ?_ ?_ ?_
      ·
       have ob744 := (ob727.keptNo k56)
       have ob745 := (ob729.keptNo k56)
       have ob746 := (ob733.keptNo k56)
       have ob747 := (ob735.keptNo k56)
       have ob750 := (ob725.keptNo k56)
       have ob754 := (ob731.keptNo k56)
       refine Nx_lo rfl (lo_call (by kernel_rfl) rfl (cer_rotate p mm 2 A_ey (boxE U2 R 2) c_ey A_ry (boxR R (encR [(1, Y)])) c_ry A_py L_py c_py A_ro R c_ro A_rn2 ([(1, Y)]) c_rn2 A_dc (fullB m 400) c_dc U2 (X2 ++ Z2) _ ob744.bs ob744.le.2 ob745.bs ob745.le.2 ob746.ss ob743.bs ob743.le.2 ob747.rs (ok_one bY) ob747.le.2 Q56.bs Q56.le.2 ⟨⟨⟨by omega, by omega⟩, ⟨by omega, by omega⟩, ⟨by omega, by omega⟩, part_pos hK_py hU2⟩, hR, hd2, hU2, may_one, Nat.le_of_ble_eq_true rfl⟩)) rfl ?_
       rintro _ w57 ⟨A_ez, c_ez, A_rz, c_rz, A_pz, c_pz, L_pz, A_gz, c_gz, rfl, Q57, R57, S57, hK_pz, U57, k57⟩
       have kk57 := kk56.then_ k57
       have hl_pz : L_pz.length = (L_py).length := by have h := congrArg List.length hK_pz; rwa [List.length_map, List.length_map] at h
       have f786 := (f737.no k57)
       have f787 := (f738.no k57)
       have f788 := (f739.no k57)
       have f789 := (f740.no k57)
       have o790 := (o741.no k57)
       have o791 := (o742.no k57)
       have ob792 := (ob743.keptNo k57)
       refine ⟨⟨kk57, f786, f787, f788, f789, o790, o791, ob792⟩, ?_⟩
       refine Dt 7 rfl (fun W hS => pu_move rfl) <| Dt 8 rfl (fun W hS => pu_extract rfl rfl) <| Dt 9 rfl (fun W hS => pu_extract rfl rfl) <| Dt 10 rfl (fun W hS => pu_extract rfl rfl) <| D_two 11 12 (by kernel_rfl) ?_ ?_
       ·
        have ob793 := (ob750.keptNo k57)
        have ob796 := (ob754.keptNo k57)
        have ob798 := (ob747.keptNo k57)
        refine Nx_lo rfl (lo_alloc (L := [.int .i64 0, .int .i64 0, .int .u32 0, .slice none (0) (0), .slice none (0) (0), .slice none (0) (0)]) (by kernel_rfl)) rfl ?_
        rintro _ w58 ⟨mz, rfl, N58⟩
        have k58 := N58.kp
        have kk58 := kk57.then_ k58
        have ne_mz_pb := Nat.ne_of_gt (Nat.lt_of_lt_of_le f786.lt N58.le)
        have ne_mz_mr := Nat.ne_of_gt (Nat.lt_of_lt_of_le f787.lt N58.le)
        have ne_mz_my := Nat.ne_of_gt (Nat.lt_of_lt_of_le f788.lt N58.le)
        have ne_mz_mr2 := Nat.ne_of_gt (Nat.lt_of_lt_of_le f789.lt N58.le)
        have ne_mz_0 := Nat.ne_of_gt (Nat.lt_of_lt_of_le o790.lt N58.le)
        have ne_mz_b5_0 := Nat.ne_of_gt (Nat.lt_of_lt_of_le o791.lt N58.le)
        have f_mz_58 := N58.bk
        have f800 := (f786.no k58)
        have f801 := (f787.no k58)
        have f802 := (f788.no k58)
        have f803 := (f789.no k58)
        have o804 := (o790.no k58)
        have o805 := (o791.no k58)
        have ob806 := (ob792.keptNo k58)
        refine ⟨⟨kk58, f800, f801, f802, f803, o804, o805, ob806⟩, ?_⟩
        have ob807 := (ob793.keptNo k58)
        have ob810 := (ob796.keptNo k58)
        have ob812 := (ob798.keptNo k58)
        have ob814 := (Q57.keptNo k58)
        have ob815 := (R57.keptNo k58)
        have ob816 := (S57.keptNo k58)
        have ob817 := (U57.keptNo k58)
        refine D_one 12 (by kernel_rfl) (Nx_lo rfl (lo_alloc (L := [.slice none (0) (0)]) (by kernel_rfl)) rfl ?_)
        rintro _ w59 ⟨mg, rfl, N59⟩
        have k59 := N59.kp
        have kk59 := kk58.then_ k59
        have ne_mg_pb := Nat.ne_of_gt (Nat.lt_of_lt_of_le f800.lt N59.le)
        have ne_mg_mr := Nat.ne_of_gt (Nat.lt_of_lt_of_le f801.lt N59.le)
        have ne_mg_my := Nat.ne_of_gt (Nat.lt_of_lt_of_le f802.lt N59.le)
        have ne_mg_mr2 := Nat.ne_of_gt (Nat.lt_of_lt_of_le f803.lt N59.le)
        have ne_mg_mz := Nat.ne_of_gt (Nat.lt_of_lt_of_le f_mz_58.lt N59.le)
        have ne_mg_0 := Nat.ne_of_gt (Nat.lt_of_lt_of_le o804.lt N59.le)
        have ne_mg_b5_0 := Nat.ne_of_gt (Nat.lt_of_lt_of_le o805.lt N59.le)
        have f_mg_59 := N59.bk
        have f818 := (f800.no k59)
        have f819 := (f801.no k59)
        have f820 := (f802.no k59)
        have f821 := (f803.no k59)
        have o822 := (o804.no k59)
        have o823 := (o805.no k59)
        have ob824 := (ob806.keptNo k59)
        refine ⟨⟨kk59, f818, f819, f820, f821, o822, o823, ob824⟩, ?_⟩
        have f825 := (f_mz_58.no k59)
        refine D_one 13 (by kernel_rfl) (Nx_lo0 rfl (lo_storeRow (C := [.int .i64 ((p + 1 : Nat) : Int), .int .i64 ((mm : Nat) : Int), .int .u32 2, .slice A_ez ((boxE U2 R 2).length) (c_ez), .slice A_rz ((boxR R (encR (([(1, Y)]) ++ [(([(1, Y)]).length + 1, U2)]))).length) (c_rz), .slice A_pz ((L_pz).length) (c_pz)]) f825 (by kernel_rfl) rfl rfl (by intro u hu; simp at hu; rcases hu with rfl | rfl | rfl | rfl | rfl | rfl <;> rfl) rfl) ?_)
        rintro _ w60 kf60
        obtain ⟨k60, f_mz_60⟩ := kf60
        replace f_mz_60 : Bk w60 mz ([.int .i64 ((p + 1 : Nat) : Int), .int .i64 ((mm : Nat) : Int), .int .u32 2, .slice A_ez ((boxE U2 R 2).length) (c_ez), .slice A_rz ((boxR R (encR (([(1, Y)]) ++ [(([(1, Y)]).length + 1, U2)]))).length) (c_rz), .slice A_pz ((L_pz).length) (c_pz)]) 39 := f_mz_60
        have kk60 := kk59.trans k60 (fun i hi => .inr (hi ▸ (Nat.le_trans kk57.size N58.le)))
        have f826 := (f818.on k60 (Ne.symm ne_mz_pb))
        have f827 := (f819.on k60 (Ne.symm ne_mz_mr))
        have f828 := (f820.on k60 (Ne.symm ne_mz_my))
        have f829 := (f821.on k60 (Ne.symm ne_mz_mr2))
        have o830 := (o822.on k60 (Ne.symm ne_mz_0))
        have o831 := (o823.on k60 (Ne.symm ne_mz_b5_0))
        have ob832 := (ob824.onN k60 ob792 N58.le)
        refine ⟨⟨kk60, f826, f827, f828, f829, o830, o831, ob832⟩, ?_⟩
        have f833 := (f_mg_59.on k60 ne_mg_mz)
        refine D_one 14 (by kernel_rfl) (Nx_lo0 rfl (lo_storeRow (C := [.slice A_gz ((([(1, Y)]) ++ [(([(1, Y)]).length + 1, U2)]).length) (c_gz)]) f833 (by kernel_rfl) rfl rfl (by intro u hu; simp at hu; rcases hu with rfl <;> rfl) rfl) ?_)
        rintro _ w61 kf61
        obtain ⟨k61, f_mg_61⟩ := kf61
        replace f_mg_61 : Bk w61 mg ([.slice A_gz ((([(1, Y)]) ++ [(([(1, Y)]).length + 1, U2)]).length) (c_gz)]) 46 := f_mg_61
        have kk61 := kk60.trans k61 (fun i hi => .inr (hi ▸ (Nat.le_trans kk58.size N59.le)))
        have f834 := (f826.on k61 (Ne.symm ne_mg_pb))
        have f835 := (f827.on k61 (Ne.symm ne_mg_mr))
        have f836 := (f828.on k61 (Ne.symm ne_mg_my))
        have f837 := (f829.on k61 (Ne.symm ne_mg_mr2))
        have o838 := (o830.on k61 (Ne.symm ne_mg_0))
        have o839 := (o831.on k61 (Ne.symm ne_mg_b5_0))
        have ob840 := (ob832.onN k61 ob806 N59.le)
        refine ⟨⟨kk61, f834, f835, f836, f837, o838, o839, ob840⟩, ?_⟩
        refine Dt 15 rfl (fun W hS => pu_assign rfl) <| D_done (by kernel_rfl) ?_
        have f841 := (f_mz_60.on k61 (Ne.symm ne_mg_mz))
        have hz842 : w54.heap.size ≤ w61.heap.size := (Nat.le_trans (Nat.le_trans (Nat.le_trans (Nat.le_trans (Nat.le_trans (Nat.le_trans k55.size k56.size) k57.size) k58.size) k59.size) k60.size) k61.size)
        have ob843 := (((ob807.keptNo k59).onN k60 ob793 N58.le).onN k61 ob807 N59.le)
        have ob844 := (((ob810.keptNo k59).onN k60 ob796 N58.le).onN k61 ob810 N59.le)
        have ob845 := (((ob812.keptNo k59).onN k60 ob798 N58.le).onN k61 ob812 N59.le)
        have ob846 := (((ob814.keptNo k59).onN k60 Q57 N58.le).onN k61 ob814 N59.le)
        have hz847 : w54.heap.size ≤ w56.heap.size := (Nat.le_trans k55.size k56.size)
        have ob848 := (((ob815.keptNo k59).onN k60 R57 N58.le).onN k61 ob815 N59.le)
        have ob849 := (((ob816.keptNo k59).onN k60 S57 N58.le).onN k61 ob816 N59.le)
        have ob850 := (((ob817.keptNo k59).onN k60 U57 N58.le).onN k61 ob817 N59.le)
        refine Xc hK_ ⟨mz, mg, A_ez, c_ez, A_rz, c_rz, A_pz, c_pz, L_pz, A_gz, c_gz, rfl, hK_pz, hl_pz, ne_mz_0, ne_mz_b5_0, ne_mz_mr, ne_mz_mr2, ne_mz_my, ne_mg_0, ne_mg_b5_0, ne_mg_mr, ne_mg_mr2, ne_mg_my, ne_mg_mz, kk61, f835, f836, f837, f841, f_mg_61, ⟨ob840, (Nat.le_trans ro_54.2 hz842)⟩, ⟨ob843, (Nat.le_trans ro2_54.2 hz842)⟩, ⟨ob844, (Nat.le_trans rn_54.2 hz842)⟩, ⟨ob845, (Nat.le_trans rn2_54.2 hz842)⟩, ⟨ob846.low hz847, hz842⟩, ⟨ob848.low hz847, hz842⟩, ⟨((ob849).lowb hz847).lowd hz847, hz842⟩, ⟨ob850.low hz847, hz842⟩, o838, o839⟩ (Sub.cons rfl (Sub.cons rfl (Sub.cons rfl (Sub.cons rfl (Sub.cons rfl (Sub.cons rfl (Sub.cons rfl (Sub.cons rfl (Sub.cons rfl (Sub.cons rfl (Sub.cons rfl (Sub.cons rfl (Sub.cons rfl (Sub.cons rfl (Sub.cons rfl (Sub.nil _))))))))))))))))
       ·
        have ob851 := (ob750.keptNo k57)
        have ob854 := (ob754.keptNo k57)
        have ob856 := (ob747.keptNo k57)
        refine Nx_lo rfl (lo_alloc (L := [.slice none (0) (0)]) (by kernel_rfl)) rfl ?_
        rintro _ w62 ⟨mg, rfl, N62⟩
        have k62 := N62.kp
        have kk62 := kk57.then_ k62
        have ne_mg_pb := Nat.ne_of_gt (Nat.lt_of_lt_of_le f786.lt N62.le)
        have ne_mg_mr := Nat.ne_of_gt (Nat.lt_of_lt_of_le f787.lt N62.le)
        have ne_mg_my := Nat.ne_of_gt (Nat.lt_of_lt_of_le f788.lt N62.le)
        have ne_mg_mr2 := Nat.ne_of_gt (Nat.lt_of_lt_of_le f789.lt N62.le)
        have ne_mg_0 := Nat.ne_of_gt (Nat.lt_of_lt_of_le o790.lt N62.le)
        have ne_mg_b5_0 := Nat.ne_of_gt (Nat.lt_of_lt_of_le o791.lt N62.le)
        have f_mg_62 := N62.bk
        have f858 := (f786.no k62)
        have f859 := (f787.no k62)
        have f860 := (f788.no k62)
        have f861 := (f789.no k62)
        have o862 := (o790.no k62)
        have o863 := (o791.no k62)
        have ob864 := (ob792.keptNo k62)
        refine ⟨⟨kk62, f858, f859, f860, f861, o862, o863, ob864⟩, ?_⟩
        have ob865 := (ob851.keptNo k62)
        have ob868 := (ob854.keptNo k62)
        have ob870 := (ob856.keptNo k62)
        have ob872 := (Q57.keptNo k62)
        have ob873 := (R57.keptNo k62)
        have ob874 := (S57.keptNo k62)
        have ob875 := (U57.keptNo k62)
        refine D_one 11 (by kernel_rfl) (Nx_lo rfl (lo_alloc (L := [.int .i64 0, .int .i64 0, .int .u32 0, .slice none (0) (0), .slice none (0) (0), .slice none (0) (0)]) (by kernel_rfl)) rfl ?_)
        rintro _ w63 ⟨mz, rfl, N63⟩
        have k63 := N63.kp
        have kk63 := kk62.then_ k63
        have ne_mz_pb := Nat.ne_of_gt (Nat.lt_of_lt_of_le f858.lt N63.le)
        have ne_mz_mr := Nat.ne_of_gt (Nat.lt_of_lt_of_le f859.lt N63.le)
        have ne_mz_my := Nat.ne_of_gt (Nat.lt_of_lt_of_le f860.lt N63.le)
        have ne_mz_mr2 := Nat.ne_of_gt (Nat.lt_of_lt_of_le f861.lt N63.le)
        have ne_mz_mg := Nat.ne_of_gt (Nat.lt_of_lt_of_le f_mg_62.lt N63.le)
        have ne_mz_0 := Nat.ne_of_gt (Nat.lt_of_lt_of_le o862.lt N63.le)
        have ne_mz_b5_0 := Nat.ne_of_gt (Nat.lt_of_lt_of_le o863.lt N63.le)
        have f_mz_63 := N63.bk
        have f876 := (f858.no k63)
        have f877 := (f859.no k63)
        have f878 := (f860.no k63)
        have f879 := (f861.no k63)
        have o880 := (o862.no k63)
        have o881 := (o863.no k63)
        have ob882 := (ob864.keptNo k63)
        refine ⟨⟨kk63, f876, f877, f878, f879, o880, o881, ob882⟩, ?_⟩
        refine D_one 13 (by kernel_rfl) (Nx_lo0 rfl (lo_storeRow (C := [.int .i64 ((p + 1 : Nat) : Int), .int .i64 ((mm : Nat) : Int), .int .u32 2, .slice A_ez ((boxE U2 R 2).length) (c_ez), .slice A_rz ((boxR R (encR (([(1, Y)]) ++ [(([(1, Y)]).length + 1, U2)]))).length) (c_rz), .slice A_pz ((L_pz).length) (c_pz)]) f_mz_63 (by kernel_rfl) rfl rfl (by intro u hu; simp at hu; rcases hu with rfl | rfl | rfl | rfl | rfl | rfl <;> rfl) rfl) ?_)
        rintro _ w64 kf64
        obtain ⟨k64, f_mz_64⟩ := kf64
        replace f_mz_64 : Bk w64 mz ([.int .i64 ((p + 1 : Nat) : Int), .int .i64 ((mm : Nat) : Int), .int .u32 2, .slice A_ez ((boxE U2 R 2).length) (c_ez), .slice A_rz ((boxR R (encR (([(1, Y)]) ++ [(([(1, Y)]).length + 1, U2)]))).length) (c_rz), .slice A_pz ((L_pz).length) (c_pz)]) 39 := f_mz_64
        have kk64 := kk63.trans k64 (fun i hi => .inr (hi ▸ (Nat.le_trans kk62.size N63.le)))
        have f883 := (f876.on k64 (Ne.symm ne_mz_pb))
        have f884 := (f877.on k64 (Ne.symm ne_mz_mr))
        have f885 := (f878.on k64 (Ne.symm ne_mz_my))
        have f886 := (f879.on k64 (Ne.symm ne_mz_mr2))
        have o887 := (o880.on k64 (Ne.symm ne_mz_0))
        have o888 := (o881.on k64 (Ne.symm ne_mz_b5_0))
        have ob889 := (ob882.onN k64 ob864 N63.le)
        refine ⟨⟨kk64, f883, f884, f885, f886, o887, o888, ob889⟩, ?_⟩
        have f890 := ((f_mg_62.no k63).on k64 (Ne.symm ne_mz_mg))
        refine D_one 14 (by kernel_rfl) (Nx_lo0 rfl (lo_storeRow (C := [.slice A_gz ((([(1, Y)]) ++ [(([(1, Y)]).length + 1, U2)]).length) (c_gz)]) f890 (by kernel_rfl) rfl rfl (by intro u hu; simp at hu; rcases hu with rfl <;> rfl) rfl) ?_)
        rintro _ w65 kf65
        obtain ⟨k65, f_mg_65⟩ := kf65
        replace f_mg_65 : Bk w65 mg ([.slice A_gz ((([(1, Y)]) ++ [(([(1, Y)]).length + 1, U2)]).length) (c_gz)]) 46 := f_mg_65
        have kk65 := kk64.trans k65 (fun i hi => .inr (hi ▸ (Nat.le_trans kk57.size N62.le)))
        have f891 := (f883.on k65 (Ne.symm ne_mg_pb))
        have f892 := (f884.on k65 (Ne.symm ne_mg_mr))
        have f893 := (f885.on k65 (Ne.symm ne_mg_my))
        have f894 := (f886.on k65 (Ne.symm ne_mg_mr2))
        have o895 := (o887.on k65 (Ne.symm ne_mg_0))
        have o896 := (o888.on k65 (Ne.symm ne_mg_b5_0))
        have ob897 := (ob889.onN k65 ob792 N62.le)
        refine ⟨⟨kk65, f891, f892, f893, f894, o895, o896, ob897⟩, ?_⟩
        refine Dt 15 rfl (fun W hS => pu_assign rfl) <| D_done (by kernel_rfl) ?_
        have f898 := (f_mz_64.on k65 ne_mz_mg)
        have hz899 : w54.heap.size ≤ w65.heap.size := (Nat.le_trans (Nat.le_trans (Nat.le_trans (Nat.le_trans (Nat.le_trans (Nat.le_trans k55.size k56.size) k57.size) k62.size) k63.size) k64.size) k65.size)
        have ob900 := (((ob865.keptNo k63).onN k64 ob865 N63.le).onN k65 ob851 N62.le)
        have ob901 := (((ob868.keptNo k63).onN k64 ob868 N63.le).onN k65 ob854 N62.le)
        have ob902 := (((ob870.keptNo k63).onN k64 ob870 N63.le).onN k65 ob856 N62.le)
        have ob903 := (((ob872.keptNo k63).onN k64 ob872 N63.le).onN k65 Q57 N62.le)
        have hz904 : w54.heap.size ≤ w56.heap.size := (Nat.le_trans k55.size k56.size)
        have ob905 := (((ob873.keptNo k63).onN k64 ob873 N63.le).onN k65 R57 N62.le)
        have ob906 := (((ob874.keptNo k63).onN k64 ob874 N63.le).onN k65 S57 N62.le)
        have ob907 := (((ob875.keptNo k63).onN k64 ob875 N63.le).onN k65 U57 N62.le)
        refine Xc hK_ ⟨mz, mg, A_ez, c_ez, A_rz, c_rz, A_pz, c_pz, L_pz, A_gz, c_gz, rfl, hK_pz, hl_pz, ne_mz_0, ne_mz_b5_0, ne_mz_mr, ne_mz_mr2, ne_mz_my, ne_mg_0, ne_mg_b5_0, ne_mg_mr, ne_mg_mr2, ne_mg_my, (Ne.symm ne_mz_mg), kk65, f892, f893, f894, f898, f_mg_65, ⟨ob897, (Nat.le_trans ro_54.2 hz899)⟩, ⟨ob900, (Nat.le_trans ro2_54.2 hz899)⟩, ⟨ob901, (Nat.le_trans rn_54.2 hz899)⟩, ⟨ob902, (Nat.le_trans rn2_54.2 hz899)⟩, ⟨ob903.low hz904, hz899⟩, ⟨ob905.low hz904, hz899⟩, ⟨((ob906).lowb hz904).lowd hz904, hz899⟩, ⟨ob907.low hz904, hz899⟩, o895, o896⟩ (Sub.cons rfl (Sub.cons rfl (Sub.cons rfl (Sub.cons rfl (Sub.cons rfl (Sub.cons rfl (Sub.cons rfl (Sub.cons rfl (Sub.cons rfl (Sub.cons rfl (Sub.cons rfl (Sub.cons rfl (Sub.cons rfl (Sub.cons rfl (Sub.cons rfl (Sub.nil _))))))))))))))))
      ·
       have ob908 := (ob725.keptNo k56)
       have ob909 := (ob727.keptNo k56)
       have ob910 := (ob729.keptNo k56)
       have ob911 := (ob731.keptNo k56)
       have ob912 := (ob733.keptNo k56)
       have ob913 := (ob735.keptNo k56)
       refine Nx_lo rfl (lo_alloc (L := [.int .i64 0, .int .i64 0, .int .u32 0, .slice none (0) (0), .slice none (0) (0), .slice none (0) (0)]) (by kernel_rfl)) rfl ?_
       rintro _ w66 ⟨mz, rfl, N66⟩
       have k66 := N66.kp
       have kk66 := kk56.then_ k66
       have ne_mz_pb := Nat.ne_of_gt (Nat.lt_of_lt_of_le f737.lt N66.le)
       have ne_mz_mr := Nat.ne_of_gt (Nat.lt_of_lt_of_le f738.lt N66.le)
       have ne_mz_my := Nat.ne_of_gt (Nat.lt_of_lt_of_le f739.lt N66.le)
       have ne_mz_mr2 := Nat.ne_of_gt (Nat.lt_of_lt_of_le f740.lt N66.le)
       have ne_mz_0 := Nat.ne_of_gt (Nat.lt_of_lt_of_le o741.lt N66.le)
       have ne_mz_b5_0 := Nat.ne_of_gt (Nat.lt_of_lt_of_le o742.lt N66.le)
       have f_mz_66 := N66.bk
       have f914 := (f737.no k66)
       have f915 := (f738.no k66)
       have f916 := (f739.no k66)
       have f917 := (f740.no k66)
       have o918 := (o741.no k66)
       have o919 := (o742.no k66)
       have ob920 := (ob743.keptNo k66)
       refine ⟨⟨kk66, f914, f915, f916, f917, o918, o919, ob920⟩, ?_⟩
       refine D_two 6 12 (by kernel_rfl) ?_ ?_
       ·
        have ob921 := (ob909.keptNo k66)
        have ob922 := (ob910.keptNo k66)
        have ob923 := (ob912.keptNo k66)
        have ob924 := (Q56.keptNo k66)
        have ob925 := (ob913.keptNo k66)
        have ob928 := (ob908.keptNo k66)
        have ob932 := (ob911.keptNo k66)
        refine Nx_lo rfl (lo_call (by kernel_rfl) rfl (cer_rotate p mm 2 A_ey (boxE U2 R 2) c_ey A_ry (boxR R (encR [(1, Y)])) c_ry A_py L_py c_py A_ro R c_ro A_rn2 ([(1, Y)]) c_rn2 A_dc (fullB m 400) c_dc U2 (X2 ++ Z2) _ ob921.bs ob921.le.2 ob922.bs ob922.le.2 ob923.ss ob920.bs ob920.le.2 ob925.rs (ok_one bY) ob925.le.2 ob924.bs ob924.le.2 ⟨⟨⟨by omega, by omega⟩, ⟨by omega, by omega⟩, ⟨by omega, by omega⟩, part_pos hK_py hU2⟩, hR, hd2, hU2, may_one, Nat.le_of_ble_eq_true rfl⟩)) rfl ?_
        rintro _ w67 ⟨A_ez, c_ez, A_rz, c_rz, A_pz, c_pz, L_pz, A_gz, c_gz, rfl, Q67, R67, S67, hK_pz, U67, k67⟩
        have kk67 := kk66.then_ k67
        have hl_pz : L_pz.length = (L_py).length := by have h := congrArg List.length hK_pz; rwa [List.length_map, List.length_map] at h
        have f964 := (f914.no k67)
        have f965 := (f915.no k67)
        have f966 := (f916.no k67)
        have f967 := (f917.no k67)
        have o968 := (o918.no k67)
        have o969 := (o919.no k67)
        have ob970 := (ob920.keptNo k67)
        refine ⟨⟨kk67, f964, f965, f966, f967, o968, o969, ob970⟩, ?_⟩
        refine Dt 7 rfl (fun W hS => pu_move rfl) <| Dt 8 rfl (fun W hS => pu_extract rfl rfl) <| Dt 9 rfl (fun W hS => pu_extract rfl rfl) <| Dt 10 rfl (fun W hS => pu_extract rfl rfl) ?_
        have f971 := (f_mz_66.no k67)
        have ob972 := (ob928.keptNo k67)
        have ob975 := (ob932.keptNo k67)
        have ob977 := (ob925.keptNo k67)
        refine D_one 12 (by kernel_rfl) (Nx_lo rfl (lo_alloc (L := [.slice none (0) (0)]) (by kernel_rfl)) rfl ?_)
        rintro _ w68 ⟨mg, rfl, N68⟩
        have k68 := N68.kp
        have kk68 := kk67.then_ k68
        have ne_mg_pb := Nat.ne_of_gt (Nat.lt_of_lt_of_le f964.lt N68.le)
        have ne_mg_mr := Nat.ne_of_gt (Nat.lt_of_lt_of_le f965.lt N68.le)
        have ne_mg_my := Nat.ne_of_gt (Nat.lt_of_lt_of_le f966.lt N68.le)
        have ne_mg_mr2 := Nat.ne_of_gt (Nat.lt_of_lt_of_le f967.lt N68.le)
        have ne_mg_mz := Nat.ne_of_gt (Nat.lt_of_lt_of_le f971.lt N68.le)
        have ne_mg_0 := Nat.ne_of_gt (Nat.lt_of_lt_of_le o968.lt N68.le)
        have ne_mg_b5_0 := Nat.ne_of_gt (Nat.lt_of_lt_of_le o969.lt N68.le)
        have f_mg_68 := N68.bk
        have f979 := (f964.no k68)
        have f980 := (f965.no k68)
        have f981 := (f966.no k68)
        have f982 := (f967.no k68)
        have o983 := (o968.no k68)
        have o984 := (o969.no k68)
        have ob985 := (ob970.keptNo k68)
        refine ⟨⟨kk68, f979, f980, f981, f982, o983, o984, ob985⟩, ?_⟩
        have f986 := (f971.no k68)
        refine D_one 13 (by kernel_rfl) (Nx_lo0 rfl (lo_storeRow (C := [.int .i64 ((p + 1 : Nat) : Int), .int .i64 ((mm : Nat) : Int), .int .u32 2, .slice A_ez ((boxE U2 R 2).length) (c_ez), .slice A_rz ((boxR R (encR (([(1, Y)]) ++ [(([(1, Y)]).length + 1, U2)]))).length) (c_rz), .slice A_pz ((L_pz).length) (c_pz)]) f986 (by kernel_rfl) rfl rfl (by intro u hu; simp at hu; rcases hu with rfl | rfl | rfl | rfl | rfl | rfl <;> rfl) rfl) ?_)
        rintro _ w69 kf69
        obtain ⟨k69, f_mz_69⟩ := kf69
        replace f_mz_69 : Bk w69 mz ([.int .i64 ((p + 1 : Nat) : Int), .int .i64 ((mm : Nat) : Int), .int .u32 2, .slice A_ez ((boxE U2 R 2).length) (c_ez), .slice A_rz ((boxR R (encR (([(1, Y)]) ++ [(([(1, Y)]).length + 1, U2)]))).length) (c_rz), .slice A_pz ((L_pz).length) (c_pz)]) 39 := f_mz_69
        have kk69 := kk68.trans k69 (fun i hi => .inr (hi ▸ (Nat.le_trans kk56.size N66.le)))
        have f987 := (f979.on k69 (Ne.symm ne_mz_pb))
        have f988 := (f980.on k69 (Ne.symm ne_mz_mr))
        have f989 := (f981.on k69 (Ne.symm ne_mz_my))
        have f990 := (f982.on k69 (Ne.symm ne_mz_mr2))
        have o991 := (o983.on k69 (Ne.symm ne_mz_0))
        have o992 := (o984.on k69 (Ne.symm ne_mz_b5_0))
        have ob993 := (ob985.onN k69 ob743 N66.le)
        refine ⟨⟨kk69, f987, f988, f989, f990, o991, o992, ob993⟩, ?_⟩
        have f994 := (f_mg_68.on k69 ne_mg_mz)
        refine D_one 14 (by kernel_rfl) (Nx_lo0 rfl (lo_storeRow (C := [.slice A_gz ((([(1, Y)]) ++ [(([(1, Y)]).length + 1, U2)]).length) (c_gz)]) f994 (by kernel_rfl) rfl rfl (by intro u hu; simp at hu; rcases hu with rfl <;> rfl) rfl) ?_)
        rintro _ w70 kf70
        obtain ⟨k70, f_mg_70⟩ := kf70
        replace f_mg_70 : Bk w70 mg ([.slice A_gz ((([(1, Y)]) ++ [(([(1, Y)]).length + 1, U2)]).length) (c_gz)]) 46 := f_mg_70
        have kk70 := kk69.trans k70 (fun i hi => .inr (hi ▸ (Nat.le_trans kk67.size N68.le)))
        have f995 := (f987.on k70 (Ne.symm ne_mg_pb))
        have f996 := (f988.on k70 (Ne.symm ne_mg_mr))
        have f997 := (f989.on k70 (Ne.symm ne_mg_my))
        have f998 := (f990.on k70 (Ne.symm ne_mg_mr2))
        have o999 := (o991.on k70 (Ne.symm ne_mg_0))
        have o1000 := (o992.on k70 (Ne.symm ne_mg_b5_0))
        have ob1001 := (ob993.onN k70 ob970 N68.le)
        refine ⟨⟨kk70, f995, f996, f997, f998, o999, o1000, ob1001⟩, ?_⟩
        refine Dt 15 rfl (fun W hS => pu_assign rfl) <| D_done (by kernel_rfl) ?_
        have f1002 := (f_mz_69.on k70 (Ne.symm ne_mg_mz))
        have hz1003 : w54.heap.size ≤ w70.heap.size := (Nat.le_trans (Nat.le_trans (Nat.le_trans (Nat.le_trans (Nat.le_trans (Nat.le_trans k55.size k56.size) k66.size) k67.size) k68.size) k69.size) k70.size)
        have ob1004 := (((ob972.keptNo k68).onN k69 ob908 N66.le).onN k70 ob972 N68.le)
        have ob1005 := (((ob975.keptNo k68).onN k69 ob911 N66.le).onN k70 ob975 N68.le)
        have ob1006 := (((ob977.keptNo k68).onN k69 ob913 N66.le).onN k70 ob977 N68.le)
        have ob1007 := (((Q67.keptNo k68).on k69 (by have := f_mz_66.lt; omega)).onN k70 Q67 N68.le)
        have hz1008 : w54.heap.size ≤ w66.heap.size := (Nat.le_trans (Nat.le_trans k55.size k56.size) k66.size)
        have ob1009 := (((R67.keptNo k68).on k69 (by have := f_mz_66.lt; omega)).onN k70 R67 N68.le)
        have ob1010 := (((S67.keptNo k68).on k69 (by have := f_mz_66.lt; omega)).onN k70 S67 N68.le)
        have ob1011 := (((U67.keptNo k68).on k69 (by have := f_mz_66.lt; omega)).onN k70 U67 N68.le)
        refine Xc hK_ ⟨mz, mg, A_ez, c_ez, A_rz, c_rz, A_pz, c_pz, L_pz, A_gz, c_gz, rfl, hK_pz, hl_pz, ne_mz_0, ne_mz_b5_0, ne_mz_mr, ne_mz_mr2, ne_mz_my, ne_mg_0, ne_mg_b5_0, ne_mg_mr, ne_mg_mr2, ne_mg_my, ne_mg_mz, kk70, f996, f997, f998, f1002, f_mg_70, ⟨ob1001, (Nat.le_trans ro_54.2 hz1003)⟩, ⟨ob1004, (Nat.le_trans ro2_54.2 hz1003)⟩, ⟨ob1005, (Nat.le_trans rn_54.2 hz1003)⟩, ⟨ob1006, (Nat.le_trans rn2_54.2 hz1003)⟩, ⟨ob1007.low hz1008, hz1003⟩, ⟨ob1009.low hz1008, hz1003⟩, ⟨((ob1010).lowb hz1008).lowd hz1008, hz1003⟩, ⟨ob1011.low hz1008, hz1003⟩, o999, o1000⟩ (Sub.cons rfl (Sub.cons rfl (Sub.cons rfl (Sub.cons rfl (Sub.cons rfl (Sub.cons rfl (Sub.cons rfl (Sub.cons rfl (Sub.cons rfl (Sub.cons rfl (Sub.cons rfl (Sub.cons rfl (Sub.cons rfl (Sub.cons rfl (Sub.cons rfl (Sub.nil _))))))))))))))))
       ·
        have ob1012 := (ob908.keptNo k66)
        have ob1013 := (ob909.keptNo k66)
        have ob1014 := (ob910.keptNo k66)
        have ob1015 := (ob911.keptNo k66)
        have ob1016 := (ob912.keptNo k66)
        have ob1017 := (ob913.keptNo k66)
        have ob1018 := (Q56.keptNo k66)
        refine Nx_lo rfl (lo_alloc (L := [.slice none (0) (0)]) (by kernel_rfl)) rfl ?_
        rintro _ w71 ⟨mg, rfl, N71⟩
        have k71 := N71.kp
        have kk71 := kk66.then_ k71
        have ne_mg_pb := Nat.ne_of_gt (Nat.lt_of_lt_of_le f914.lt N71.le)
        have ne_mg_mr := Nat.ne_of_gt (Nat.lt_of_lt_of_le f915.lt N71.le)
        have ne_mg_my := Nat.ne_of_gt (Nat.lt_of_lt_of_le f916.lt N71.le)
        have ne_mg_mr2 := Nat.ne_of_gt (Nat.lt_of_lt_of_le f917.lt N71.le)
        have ne_mg_mz := Nat.ne_of_gt (Nat.lt_of_lt_of_le f_mz_66.lt N71.le)
        have ne_mg_0 := Nat.ne_of_gt (Nat.lt_of_lt_of_le o918.lt N71.le)
        have ne_mg_b5_0 := Nat.ne_of_gt (Nat.lt_of_lt_of_le o919.lt N71.le)
        have f_mg_71 := N71.bk
        have f1019 := (f914.no k71)
        have f1020 := (f915.no k71)
        have f1021 := (f916.no k71)
        have f1022 := (f917.no k71)
        have o1023 := (o918.no k71)
        have o1024 := (o919.no k71)
        have ob1025 := (ob920.keptNo k71)
        refine ⟨⟨kk71, f1019, f1020, f1021, f1022, o1023, o1024, ob1025⟩, ?_⟩
        have ob1026 := (ob1013.keptNo k71)
        have ob1027 := (ob1014.keptNo k71)
        have ob1028 := (ob1016.keptNo k71)
        have ob1029 := (ob1018.keptNo k71)
        have ob1030 := (ob1017.keptNo k71)
        have f1031 := (f_mz_66.no k71)
        have ob1034 := (ob1012.keptNo k71)
        have ob1038 := (ob1015.keptNo k71)
        refine D_one 6 (by kernel_rfl) (Nx_lo rfl (lo_call (by kernel_rfl) rfl (cer_rotate p mm 2 A_ey (boxE U2 R 2) c_ey A_ry (boxR R (encR [(1, Y)])) c_ry A_py L_py c_py A_ro R c_ro A_rn2 ([(1, Y)]) c_rn2 A_dc (fullB m 400) c_dc U2 (X2 ++ Z2) _ ob1026.bs ob1026.le.2 ob1027.bs ob1027.le.2 ob1028.ss ob1025.bs ob1025.le.2 ob1030.rs (ok_one bY) ob1030.le.2 ob1029.bs ob1029.le.2 ⟨⟨⟨by omega, by omega⟩, ⟨by omega, by omega⟩, ⟨by omega, by omega⟩, part_pos hK_py hU2⟩, hR, hd2, hU2, may_one, Nat.le_of_ble_eq_true rfl⟩)) rfl ?_)
        rintro _ w72 ⟨A_ez, c_ez, A_rz, c_rz, A_pz, c_pz, L_pz, A_gz, c_gz, rfl, Q72, R72, S72, hK_pz, U72, k72⟩
        have kk72 := kk71.then_ k72
        have hl_pz : L_pz.length = (L_py).length := by have h := congrArg List.length hK_pz; rwa [List.length_map, List.length_map] at h
        have f1070 := (f1019.no k72)
        have f1071 := (f1020.no k72)
        have f1072 := (f1021.no k72)
        have f1073 := (f1022.no k72)
        have o1074 := (o1023.no k72)
        have o1075 := (o1024.no k72)
        have ob1076 := (ob1025.keptNo k72)
        refine ⟨⟨kk72, f1070, f1071, f1072, f1073, o1074, o1075, ob1076⟩, ?_⟩
        refine Dt 7 rfl (fun W hS => pu_move rfl) <| Dt 8 rfl (fun W hS => pu_extract rfl rfl) <| Dt 9 rfl (fun W hS => pu_extract rfl rfl) <| Dt 10 rfl (fun W hS => pu_extract rfl rfl) ?_
        have f1077 := (f1031.no k72)
        refine D_one 13 (by kernel_rfl) (Nx_lo0 rfl (lo_storeRow (C := [.int .i64 ((p + 1 : Nat) : Int), .int .i64 ((mm : Nat) : Int), .int .u32 2, .slice A_ez ((boxE U2 R 2).length) (c_ez), .slice A_rz ((boxR R (encR (([(1, Y)]) ++ [(([(1, Y)]).length + 1, U2)]))).length) (c_rz), .slice A_pz ((L_pz).length) (c_pz)]) f1077 (by kernel_rfl) rfl rfl (by intro u hu; simp at hu; rcases hu with rfl | rfl | rfl | rfl | rfl | rfl <;> rfl) rfl) ?_)
        rintro _ w73 kf73
        obtain ⟨k73, f_mz_73⟩ := kf73
        replace f_mz_73 : Bk w73 mz ([.int .i64 ((p + 1 : Nat) : Int), .int .i64 ((mm : Nat) : Int), .int .u32 2, .slice A_ez ((boxE U2 R 2).length) (c_ez), .slice A_rz ((boxR R (encR (([(1, Y)]) ++ [(([(1, Y)]).length + 1, U2)]))).length) (c_rz), .slice A_pz ((L_pz).length) (c_pz)]) 39 := f_mz_73
        have kk73 := kk72.trans k73 (fun i hi => .inr (hi ▸ (Nat.le_trans kk56.size N66.le)))
        have f1078 := (f1070.on k73 (Ne.symm ne_mz_pb))
        have f1079 := (f1071.on k73 (Ne.symm ne_mz_mr))
        have f1080 := (f1072.on k73 (Ne.symm ne_mz_my))
        have f1081 := (f1073.on k73 (Ne.symm ne_mz_mr2))
        have o1082 := (o1074.on k73 (Ne.symm ne_mz_0))
        have o1083 := (o1075.on k73 (Ne.symm ne_mz_b5_0))
        have ob1084 := (ob1076.onN k73 ob743 N66.le)
        refine ⟨⟨kk73, f1078, f1079, f1080, f1081, o1082, o1083, ob1084⟩, ?_⟩
        have f1085 := ((f_mg_71.no k72).on k73 ne_mg_mz)
        refine D_one 14 (by kernel_rfl) (Nx_lo0 rfl (lo_storeRow (C := [.slice A_gz ((([(1, Y)]) ++ [(([(1, Y)]).length + 1, U2)]).length) (c_gz)]) f1085 (by kernel_rfl) rfl rfl (by intro u hu; simp at hu; rcases hu with rfl <;> rfl) rfl) ?_)
        rintro _ w74 kf74
        obtain ⟨k74, f_mg_74⟩ := kf74
        replace f_mg_74 : Bk w74 mg ([.slice A_gz ((([(1, Y)]) ++ [(([(1, Y)]).length + 1, U2)]).length) (c_gz)]) 46 := f_mg_74
        have kk74 := kk73.trans k74 (fun i hi => .inr (hi ▸ (Nat.le_trans kk66.size N71.le)))
        have f1086 := (f1078.on k74 (Ne.symm ne_mg_pb))
        have f1087 := (f1079.on k74 (Ne.symm ne_mg_mr))
        have f1088 := (f1080.on k74 (Ne.symm ne_mg_my))
        have f1089 := (f1081.on k74 (Ne.symm ne_mg_mr2))
        have o1090 := (o1082.on k74 (Ne.symm ne_mg_0))
        have o1091 := (o1083.on k74 (Ne.symm ne_mg_b5_0))
        have ob1092 := (ob1084.onN k74 ob920 N71.le)
        refine ⟨⟨kk74, f1086, f1087, f1088, f1089, o1090, o1091, ob1092⟩, ?_⟩
        refine Dt 15 rfl (fun W hS => pu_assign rfl) <| D_done (by kernel_rfl) ?_
        have f1093 := (f_mz_73.on k74 (Ne.symm ne_mg_mz))
        have hz1094 : w54.heap.size ≤ w74.heap.size := (Nat.le_trans (Nat.le_trans (Nat.le_trans (Nat.le_trans (Nat.le_trans (Nat.le_trans k55.size k56.size) k66.size) k71.size) k72.size) k73.size) k74.size)
        have ob1095 := (((ob1034.keptNo k72).onN k73 ob908 N66.le).onN k74 ob1012 N71.le)
        have ob1096 := (((ob1038.keptNo k72).onN k73 ob911 N66.le).onN k74 ob1015 N71.le)
        have ob1097 := (((ob1030.keptNo k72).onN k73 ob913 N66.le).onN k74 ob1017 N71.le)
        have ob1098 := ((Q72.on k73 (by have := f1031.lt; omega)).on k74 (by have := f_mg_71.lt; omega))
        have hz1099 : w54.heap.size ≤ w71.heap.size := (Nat.le_trans (Nat.le_trans (Nat.le_trans k55.size k56.size) k66.size) k71.size)
        have ob1100 := ((R72.on k73 (by have := f1031.lt; omega)).on k74 (by have := f_mg_71.lt; omega))
        have ob1101 := ((S72.on k73 (by have := f1031.lt; omega)).on k74 (by have := f_mg_71.lt; omega))
        have ob1102 := ((U72.on k73 (by have := f1031.lt; omega)).on k74 (by have := f_mg_71.lt; omega))
        refine Xc hK_ ⟨mz, mg, A_ez, c_ez, A_rz, c_rz, A_pz, c_pz, L_pz, A_gz, c_gz, rfl, hK_pz, hl_pz, ne_mz_0, ne_mz_b5_0, ne_mz_mr, ne_mz_mr2, ne_mz_my, ne_mg_0, ne_mg_b5_0, ne_mg_mr, ne_mg_mr2, ne_mg_my, ne_mg_mz, kk74, f1087, f1088, f1089, f1093, f_mg_74, ⟨ob1092, (Nat.le_trans ro_54.2 hz1094)⟩, ⟨ob1095, (Nat.le_trans ro2_54.2 hz1094)⟩, ⟨ob1096, (Nat.le_trans rn_54.2 hz1094)⟩, ⟨ob1097, (Nat.le_trans rn2_54.2 hz1094)⟩, ⟨ob1098.low hz1099, hz1094⟩, ⟨ob1100.low hz1099, hz1094⟩, ⟨((ob1101).lowb hz1099).lowd hz1099, hz1094⟩, ⟨ob1102.low hz1099, hz1094⟩, o1090, o1091⟩ (Sub.cons rfl (Sub.cons rfl (Sub.cons rfl (Sub.cons rfl (Sub.cons rfl (Sub.cons rfl (Sub.cons rfl (Sub.cons rfl (Sub.cons rfl (Sub.cons rfl (Sub.cons rfl (Sub.cons rfl (Sub.cons rfl (Sub.cons rfl (Sub.cons rfl (Sub.nil _))))))))))))))))
      ·
       have ob1103 := (ob725.keptNo k56)
       have ob1104 := (ob727.keptNo k56)
       have ob1105 := (ob729.keptNo k56)
       have ob1106 := (ob731.keptNo k56)
       have ob1107 := (ob733.keptNo k56)
       have ob1108 := (ob735.keptNo k56)
       refine Nx_lo rfl (lo_alloc (L := [.slice none (0) (0)]) (by kernel_rfl)) rfl ?_
       rintro _ w75 ⟨mg, rfl, N75⟩
       have k75 := N75.kp
       have kk75 := kk56.then_ k75
       have ne_mg_pb := Nat.ne_of_gt (Nat.lt_of_lt_of_le f737.lt N75.le)
       have ne_mg_mr := Nat.ne_of_gt (Nat.lt_of_lt_of_le f738.lt N75.le)
       have ne_mg_my := Nat.ne_of_gt (Nat.lt_of_lt_of_le f739.lt N75.le)
       have ne_mg_mr2 := Nat.ne_of_gt (Nat.lt_of_lt_of_le f740.lt N75.le)
       have ne_mg_0 := Nat.ne_of_gt (Nat.lt_of_lt_of_le o741.lt N75.le)
       have ne_mg_b5_0 := Nat.ne_of_gt (Nat.lt_of_lt_of_le o742.lt N75.le)
       have f_mg_75 := N75.bk
       have f1109 := (f737.no k75)
       have f1110 := (f738.no k75)
       have f1111 := (f739.no k75)
       have f1112 := (f740.no k75)
       have o1113 := (o741.no k75)
       have o1114 := (o742.no k75)
       have ob1115 := (ob743.keptNo k75)
       refine ⟨⟨kk75, f1109, f1110, f1111, f1112, o1113, o1114, ob1115⟩, ?_⟩
       refine D_two 6 11 (by kernel_rfl) ?_ ?_
       ·
        have ob1116 := (ob1104.keptNo k75)
        have ob1117 := (ob1105.keptNo k75)
        have ob1118 := (ob1107.keptNo k75)
        have ob1119 := (Q56.keptNo k75)
        have ob1120 := (ob1108.keptNo k75)
        have ob1123 := (ob1103.keptNo k75)
        have ob1127 := (ob1106.keptNo k75)
        refine Nx_lo rfl (lo_call (by kernel_rfl) rfl (cer_rotate p mm 2 A_ey (boxE U2 R 2) c_ey A_ry (boxR R (encR [(1, Y)])) c_ry A_py L_py c_py A_ro R c_ro A_rn2 ([(1, Y)]) c_rn2 A_dc (fullB m 400) c_dc U2 (X2 ++ Z2) _ ob1116.bs ob1116.le.2 ob1117.bs ob1117.le.2 ob1118.ss ob1115.bs ob1115.le.2 ob1120.rs (ok_one bY) ob1120.le.2 ob1119.bs ob1119.le.2 ⟨⟨⟨by omega, by omega⟩, ⟨by omega, by omega⟩, ⟨by omega, by omega⟩, part_pos hK_py hU2⟩, hR, hd2, hU2, may_one, Nat.le_of_ble_eq_true rfl⟩)) rfl ?_
        rintro _ w76 ⟨A_ez, c_ez, A_rz, c_rz, A_pz, c_pz, L_pz, A_gz, c_gz, rfl, Q76, R76, S76, hK_pz, U76, k76⟩
        have kk76 := kk75.then_ k76
        have hl_pz : L_pz.length = (L_py).length := by have h := congrArg List.length hK_pz; rwa [List.length_map, List.length_map] at h
        have f1159 := (f1109.no k76)
        have f1160 := (f1110.no k76)
        have f1161 := (f1111.no k76)
        have f1162 := (f1112.no k76)
        have o1163 := (o1113.no k76)
        have o1164 := (o1114.no k76)
        have ob1165 := (ob1115.keptNo k76)
        refine ⟨⟨kk76, f1159, f1160, f1161, f1162, o1163, o1164, ob1165⟩, ?_⟩
        refine Dt 7 rfl (fun W hS => pu_move rfl) <| Dt 8 rfl (fun W hS => pu_extract rfl rfl) <| Dt 9 rfl (fun W hS => pu_extract rfl rfl) <| Dt 10 rfl (fun W hS => pu_extract rfl rfl) ?_
        have f1166 := (f_mg_75.no k76)
        have ob1167 := (ob1123.keptNo k76)
        have ob1170 := (ob1127.keptNo k76)
        have ob1172 := (ob1120.keptNo k76)
        refine D_one 11 (by kernel_rfl) (Nx_lo rfl (lo_alloc (L := [.int .i64 0, .int .i64 0, .int .u32 0, .slice none (0) (0), .slice none (0) (0), .slice none (0) (0)]) (by kernel_rfl)) rfl ?_)
        rintro _ w77 ⟨mz, rfl, N77⟩
        have k77 := N77.kp
        have kk77 := kk76.then_ k77
        have ne_mz_pb := Nat.ne_of_gt (Nat.lt_of_lt_of_le f1159.lt N77.le)
        have ne_mz_mr := Nat.ne_of_gt (Nat.lt_of_lt_of_le f1160.lt N77.le)
        have ne_mz_my := Nat.ne_of_gt (Nat.lt_of_lt_of_le f1161.lt N77.le)
        have ne_mz_mr2 := Nat.ne_of_gt (Nat.lt_of_lt_of_le f1162.lt N77.le)
        have ne_mz_mg := Nat.ne_of_gt (Nat.lt_of_lt_of_le f1166.lt N77.le)
        have ne_mz_0 := Nat.ne_of_gt (Nat.lt_of_lt_of_le o1163.lt N77.le)
        have ne_mz_b5_0 := Nat.ne_of_gt (Nat.lt_of_lt_of_le o1164.lt N77.le)
        have f_mz_77 := N77.bk
        have f1174 := (f1159.no k77)
        have f1175 := (f1160.no k77)
        have f1176 := (f1161.no k77)
        have f1177 := (f1162.no k77)
        have o1178 := (o1163.no k77)
        have o1179 := (o1164.no k77)
        have ob1180 := (ob1165.keptNo k77)
        refine ⟨⟨kk77, f1174, f1175, f1176, f1177, o1178, o1179, ob1180⟩, ?_⟩
        refine D_one 13 (by kernel_rfl) (Nx_lo0 rfl (lo_storeRow (C := [.int .i64 ((p + 1 : Nat) : Int), .int .i64 ((mm : Nat) : Int), .int .u32 2, .slice A_ez ((boxE U2 R 2).length) (c_ez), .slice A_rz ((boxR R (encR (([(1, Y)]) ++ [(([(1, Y)]).length + 1, U2)]))).length) (c_rz), .slice A_pz ((L_pz).length) (c_pz)]) f_mz_77 (by kernel_rfl) rfl rfl (by intro u hu; simp at hu; rcases hu with rfl | rfl | rfl | rfl | rfl | rfl <;> rfl) rfl) ?_)
        rintro _ w78 kf78
        obtain ⟨k78, f_mz_78⟩ := kf78
        replace f_mz_78 : Bk w78 mz ([.int .i64 ((p + 1 : Nat) : Int), .int .i64 ((mm : Nat) : Int), .int .u32 2, .slice A_ez ((boxE U2 R 2).length) (c_ez), .slice A_rz ((boxR R (encR (([(1, Y)]) ++ [(([(1, Y)]).length + 1, U2)]))).length) (c_rz), .slice A_pz ((L_pz).length) (c_pz)]) 39 := f_mz_78
        have kk78 := kk77.trans k78 (fun i hi => .inr (hi ▸ (Nat.le_trans kk76.size N77.le)))
        have f1181 := (f1174.on k78 (Ne.symm ne_mz_pb))
        have f1182 := (f1175.on k78 (Ne.symm ne_mz_mr))
        have f1183 := (f1176.on k78 (Ne.symm ne_mz_my))
        have f1184 := (f1177.on k78 (Ne.symm ne_mz_mr2))
        have o1185 := (o1178.on k78 (Ne.symm ne_mz_0))
        have o1186 := (o1179.on k78 (Ne.symm ne_mz_b5_0))
        have ob1187 := (ob1180.onN k78 ob1165 N77.le)
        refine ⟨⟨kk78, f1181, f1182, f1183, f1184, o1185, o1186, ob1187⟩, ?_⟩
        have f1188 := ((f1166.no k77).on k78 (Ne.symm ne_mz_mg))
        refine D_one 14 (by kernel_rfl) (Nx_lo0 rfl (lo_storeRow (C := [.slice A_gz ((([(1, Y)]) ++ [(([(1, Y)]).length + 1, U2)]).length) (c_gz)]) f1188 (by kernel_rfl) rfl rfl (by intro u hu; simp at hu; rcases hu with rfl <;> rfl) rfl) ?_)
        rintro _ w79 kf79
        obtain ⟨k79, f_mg_79⟩ := kf79
        replace f_mg_79 : Bk w79 mg ([.slice A_gz ((([(1, Y)]) ++ [(([(1, Y)]).length + 1, U2)]).length) (c_gz)]) 46 := f_mg_79
        have kk79 := kk78.trans k79 (fun i hi => .inr (hi ▸ (Nat.le_trans kk56.size N75.le)))
        have f1189 := (f1181.on k79 (Ne.symm ne_mg_pb))
        have f1190 := (f1182.on k79 (Ne.symm ne_mg_mr))
        have f1191 := (f1183.on k79 (Ne.symm ne_mg_my))
        have f1192 := (f1184.on k79 (Ne.symm ne_mg_mr2))
        have o1193 := (o1185.on k79 (Ne.symm ne_mg_0))
        have o1194 := (o1186.on k79 (Ne.symm ne_mg_b5_0))
        have ob1195 := (ob1187.onN k79 ob743 N75.le)
        refine ⟨⟨kk79, f1189, f1190, f1191, f1192, o1193, o1194, ob1195⟩, ?_⟩
        refine Dt 15 rfl (fun W hS => pu_assign rfl) <| D_done (by kernel_rfl) ?_
        have f1196 := (f_mz_78.on k79 ne_mz_mg)
        have hz1197 : w54.heap.size ≤ w79.heap.size := (Nat.le_trans (Nat.le_trans (Nat.le_trans (Nat.le_trans (Nat.le_trans (Nat.le_trans k55.size k56.size) k75.size) k76.size) k77.size) k78.size) k79.size)
        have ob1198 := (((ob1167.keptNo k77).onN k78 ob1167 N77.le).onN k79 ob1103 N75.le)
        have ob1199 := (((ob1170.keptNo k77).onN k78 ob1170 N77.le).onN k79 ob1106 N75.le)
        have ob1200 := (((ob1172.keptNo k77).onN k78 ob1172 N77.le).onN k79 ob1108 N75.le)
        have ob1201 := (((Q76.keptNo k77).onN k78 Q76 N77.le).on k79 (by have := f_mg_75.lt; omega))
        have hz1202 : w54.heap.size ≤ w75.heap.size := (Nat.le_trans (Nat.le_trans k55.size k56.size) k75.size)
        have ob1203 := (((R76.keptNo k77).onN k78 R76 N77.le).on k79 (by have := f_mg_75.lt; omega))
        have ob1204 := (((S76.keptNo k77).onN k78 S76 N77.le).on k79 (by have := f_mg_75.lt; omega))
        have ob1205 := (((U76.keptNo k77).onN k78 U76 N77.le).on k79 (by have := f_mg_75.lt; omega))
        refine Xc hK_ ⟨mz, mg, A_ez, c_ez, A_rz, c_rz, A_pz, c_pz, L_pz, A_gz, c_gz, rfl, hK_pz, hl_pz, ne_mz_0, ne_mz_b5_0, ne_mz_mr, ne_mz_mr2, ne_mz_my, ne_mg_0, ne_mg_b5_0, ne_mg_mr, ne_mg_mr2, ne_mg_my, (Ne.symm ne_mz_mg), kk79, f1190, f1191, f1192, f1196, f_mg_79, ⟨ob1195, (Nat.le_trans ro_54.2 hz1197)⟩, ⟨ob1198, (Nat.le_trans ro2_54.2 hz1197)⟩, ⟨ob1199, (Nat.le_trans rn_54.2 hz1197)⟩, ⟨ob1200, (Nat.le_trans rn2_54.2 hz1197)⟩, ⟨ob1201.low hz1202, hz1197⟩, ⟨ob1203.low hz1202, hz1197⟩, ⟨((ob1204).lowb hz1202).lowd hz1202, hz1197⟩, ⟨ob1205.low hz1202, hz1197⟩, o1193, o1194⟩ (Sub.cons rfl (Sub.cons rfl (Sub.cons rfl (Sub.cons rfl (Sub.cons rfl (Sub.cons rfl (Sub.cons rfl (Sub.cons rfl (Sub.cons rfl (Sub.cons rfl (Sub.cons rfl (Sub.cons rfl (Sub.cons rfl (Sub.cons rfl (Sub.cons rfl (Sub.nil _))))))))))))))))
       ·
        have ob1206 := (ob1103.keptNo k75)
        have ob1207 := (ob1104.keptNo k75)
        have ob1208 := (ob1105.keptNo k75)
        have ob1209 := (ob1106.keptNo k75)
        have ob1210 := (ob1107.keptNo k75)
        have ob1211 := (ob1108.keptNo k75)
        have ob1212 := (Q56.keptNo k75)
        refine Nx_lo rfl (lo_alloc (L := [.int .i64 0, .int .i64 0, .int .u32 0, .slice none (0) (0), .slice none (0) (0), .slice none (0) (0)]) (by kernel_rfl)) rfl ?_
        rintro _ w80 ⟨mz, rfl, N80⟩
        have k80 := N80.kp
        have kk80 := kk75.then_ k80
        have ne_mz_pb := Nat.ne_of_gt (Nat.lt_of_lt_of_le f1109.lt N80.le)
        have ne_mz_mr := Nat.ne_of_gt (Nat.lt_of_lt_of_le f1110.lt N80.le)
        have ne_mz_my := Nat.ne_of_gt (Nat.lt_of_lt_of_le f1111.lt N80.le)
        have ne_mz_mr2 := Nat.ne_of_gt (Nat.lt_of_lt_of_le f1112.lt N80.le)
        have ne_mz_mg := Nat.ne_of_gt (Nat.lt_of_lt_of_le f_mg_75.lt N80.le)
        have ne_mz_0 := Nat.ne_of_gt (Nat.lt_of_lt_of_le o1113.lt N80.le)
        have ne_mz_b5_0 := Nat.ne_of_gt (Nat.lt_of_lt_of_le o1114.lt N80.le)
        have f_mz_80 := N80.bk
        have f1213 := (f1109.no k80)
        have f1214 := (f1110.no k80)
        have f1215 := (f1111.no k80)
        have f1216 := (f1112.no k80)
        have o1217 := (o1113.no k80)
        have o1218 := (o1114.no k80)
        have ob1219 := (ob1115.keptNo k80)
        refine ⟨⟨kk80, f1213, f1214, f1215, f1216, o1217, o1218, ob1219⟩, ?_⟩
        have ob1220 := (ob1207.keptNo k80)
        have ob1221 := (ob1208.keptNo k80)
        have ob1222 := (ob1210.keptNo k80)
        have ob1223 := (ob1212.keptNo k80)
        have ob1224 := (ob1211.keptNo k80)
        have f1225 := (f_mg_75.no k80)
        have ob1228 := (ob1206.keptNo k80)
        have ob1232 := (ob1209.keptNo k80)
        refine D_one 6 (by kernel_rfl) (Nx_lo rfl (lo_call (by kernel_rfl) rfl (cer_rotate p mm 2 A_ey (boxE U2 R 2) c_ey A_ry (boxR R (encR [(1, Y)])) c_ry A_py L_py c_py A_ro R c_ro A_rn2 ([(1, Y)]) c_rn2 A_dc (fullB m 400) c_dc U2 (X2 ++ Z2) _ ob1220.bs ob1220.le.2 ob1221.bs ob1221.le.2 ob1222.ss ob1219.bs ob1219.le.2 ob1224.rs (ok_one bY) ob1224.le.2 ob1223.bs ob1223.le.2 ⟨⟨⟨by omega, by omega⟩, ⟨by omega, by omega⟩, ⟨by omega, by omega⟩, part_pos hK_py hU2⟩, hR, hd2, hU2, may_one, Nat.le_of_ble_eq_true rfl⟩)) rfl ?_)
        rintro _ w81 ⟨A_ez, c_ez, A_rz, c_rz, A_pz, c_pz, L_pz, A_gz, c_gz, rfl, Q81, R81, S81, hK_pz, U81, k81⟩
        have kk81 := kk80.then_ k81
        have hl_pz : L_pz.length = (L_py).length := by have h := congrArg List.length hK_pz; rwa [List.length_map, List.length_map] at h
        have f1264 := (f1213.no k81)
        have f1265 := (f1214.no k81)
        have f1266 := (f1215.no k81)
        have f1267 := (f1216.no k81)
        have o1268 := (o1217.no k81)
        have o1269 := (o1218.no k81)
        have ob1270 := (ob1219.keptNo k81)
        refine ⟨⟨kk81, f1264, f1265, f1266, f1267, o1268, o1269, ob1270⟩, ?_⟩
        refine Dt 7 rfl (fun W hS => pu_move rfl) <| Dt 8 rfl (fun W hS => pu_extract rfl rfl) <| Dt 9 rfl (fun W hS => pu_extract rfl rfl) <| Dt 10 rfl (fun W hS => pu_extract rfl rfl) ?_
        have f1271 := (f_mz_80.no k81)
        refine D_one 13 (by kernel_rfl) (Nx_lo0 rfl (lo_storeRow (C := [.int .i64 ((p + 1 : Nat) : Int), .int .i64 ((mm : Nat) : Int), .int .u32 2, .slice A_ez ((boxE U2 R 2).length) (c_ez), .slice A_rz ((boxR R (encR (([(1, Y)]) ++ [(([(1, Y)]).length + 1, U2)]))).length) (c_rz), .slice A_pz ((L_pz).length) (c_pz)]) f1271 (by kernel_rfl) rfl rfl (by intro u hu; simp at hu; rcases hu with rfl | rfl | rfl | rfl | rfl | rfl <;> rfl) rfl) ?_)
        rintro _ w82 kf82
        obtain ⟨k82, f_mz_82⟩ := kf82
        replace f_mz_82 : Bk w82 mz ([.int .i64 ((p + 1 : Nat) : Int), .int .i64 ((mm : Nat) : Int), .int .u32 2, .slice A_ez ((boxE U2 R 2).length) (c_ez), .slice A_rz ((boxR R (encR (([(1, Y)]) ++ [(([(1, Y)]).length + 1, U2)]))).length) (c_rz), .slice A_pz ((L_pz).length) (c_pz)]) 39 := f_mz_82
        have kk82 := kk81.trans k82 (fun i hi => .inr (hi ▸ (Nat.le_trans kk75.size N80.le)))
        have f1272 := (f1264.on k82 (Ne.symm ne_mz_pb))
        have f1273 := (f1265.on k82 (Ne.symm ne_mz_mr))
        have f1274 := (f1266.on k82 (Ne.symm ne_mz_my))
        have f1275 := (f1267.on k82 (Ne.symm ne_mz_mr2))
        have o1276 := (o1268.on k82 (Ne.symm ne_mz_0))
        have o1277 := (o1269.on k82 (Ne.symm ne_mz_b5_0))
        have ob1278 := (ob1270.onN k82 ob1115 N80.le)
        refine ⟨⟨kk82, f1272, f1273, f1274, f1275, o1276, o1277, ob1278⟩, ?_⟩
        have f1279 := ((f1225.no k81).on k82 (Ne.symm ne_mz_mg))
        refine D_one 14 (by kernel_rfl) (Nx_lo0 rfl (lo_storeRow (C := [.slice A_gz ((([(1, Y)]) ++ [(([(1, Y)]).length + 1, U2)]).length) (c_gz)]) f1279 (by kernel_rfl) rfl rfl (by intro u hu; simp at hu; rcases hu with rfl <;> rfl) rfl) ?_)
        rintro _ w83 kf83
        obtain ⟨k83, f_mg_83⟩ := kf83
        replace f_mg_83 : Bk w83 mg ([.slice A_gz ((([(1, Y)]) ++ [(([(1, Y)]).length + 1, U2)]).length) (c_gz)]) 46 := f_mg_83
        have kk83 := kk82.trans k83 (fun i hi => .inr (hi ▸ (Nat.le_trans kk56.size N75.le)))
        have f1280 := (f1272.on k83 (Ne.symm ne_mg_pb))
        have f1281 := (f1273.on k83 (Ne.symm ne_mg_mr))
        have f1282 := (f1274.on k83 (Ne.symm ne_mg_my))
        have f1283 := (f1275.on k83 (Ne.symm ne_mg_mr2))
        have o1284 := (o1276.on k83 (Ne.symm ne_mg_0))
        have o1285 := (o1277.on k83 (Ne.symm ne_mg_b5_0))
        have ob1286 := (ob1278.onN k83 ob743 N75.le)
        refine ⟨⟨kk83, f1280, f1281, f1282, f1283, o1284, o1285, ob1286⟩, ?_⟩
        refine Dt 15 rfl (fun W hS => pu_assign rfl) <| D_done (by kernel_rfl) ?_
        have f1287 := (f_mz_82.on k83 ne_mz_mg)
        have hz1288 : w54.heap.size ≤ w83.heap.size := (Nat.le_trans (Nat.le_trans (Nat.le_trans (Nat.le_trans (Nat.le_trans (Nat.le_trans k55.size k56.size) k75.size) k80.size) k81.size) k82.size) k83.size)
        have ob1289 := (((ob1228.keptNo k81).onN k82 ob1206 N80.le).onN k83 ob1103 N75.le)
        have ob1290 := (((ob1232.keptNo k81).onN k82 ob1209 N80.le).onN k83 ob1106 N75.le)
        have ob1291 := (((ob1224.keptNo k81).onN k82 ob1211 N80.le).onN k83 ob1108 N75.le)
        have ob1292 := ((Q81.on k82 (by have := f_mz_80.lt; omega)).on k83 (by have := f1225.lt; omega))
        have hz1293 : w54.heap.size ≤ w80.heap.size := (Nat.le_trans (Nat.le_trans (Nat.le_trans k55.size k56.size) k75.size) k80.size)
        have ob1294 := ((R81.on k82 (by have := f_mz_80.lt; omega)).on k83 (by have := f1225.lt; omega))
        have ob1295 := ((S81.on k82 (by have := f_mz_80.lt; omega)).on k83 (by have := f1225.lt; omega))
        have ob1296 := ((U81.on k82 (by have := f_mz_80.lt; omega)).on k83 (by have := f1225.lt; omega))
        refine Xc hK_ ⟨mz, mg, A_ez, c_ez, A_rz, c_rz, A_pz, c_pz, L_pz, A_gz, c_gz, rfl, hK_pz, hl_pz, ne_mz_0, ne_mz_b5_0, ne_mz_mr, ne_mz_mr2, ne_mz_my, ne_mg_0, ne_mg_b5_0, ne_mg_mr, ne_mg_mr2, ne_mg_my, (Ne.symm ne_mz_mg), kk83, f1281, f1282, f1283, f1287, f_mg_83, ⟨ob1286, (Nat.le_trans ro_54.2 hz1288)⟩, ⟨ob1289, (Nat.le_trans ro2_54.2 hz1288)⟩, ⟨ob1290, (Nat.le_trans rn_54.2 hz1288)⟩, ⟨ob1291, (Nat.le_trans rn2_54.2 hz1288)⟩, ⟨ob1292.low hz1293, hz1288⟩, ⟨ob1294.low hz1293, hz1288⟩, ⟨((ob1295).lowb hz1293).lowd hz1293, hz1288⟩, ⟨ob1296.low hz1293, hz1288⟩, o1284, o1285⟩ (Sub.cons rfl (Sub.cons rfl (Sub.cons rfl (Sub.cons rfl (Sub.cons rfl (Sub.cons rfl (Sub.cons rfl (Sub.cons rfl (Sub.cons rfl (Sub.cons rfl (Sub.cons rfl (Sub.cons rfl (Sub.cons rfl (Sub.cons rfl (Sub.cons rfl (Sub.nil _))))))))))))))))
     ·
      have f1297 : Bk w55 pb ([.int .i64 (kb), .int .i64 (nb), .slice A3 (m.length) (c3), .slice A4 (m2.length) (c4)]) 24 := (f_pb_54.no k55)
      have f1298 := (f_mr_54.no k55)
      have f1299 := (f_my_54.no k55)
      have f1300 := (f_mr2_54.no k55)
      have o1301 := (G_54.no k55)
      have o1302 := (T_b5_0_54.no k55)
      have ob1303 := (ro_54.1.keptNo k55)
      have ob1304 := (ro2_54.1.keptNo k55)
      have ob1305 := (ey_54.1.keptNo k55)
      have ob1306 := (ry_54.1.keptNo k55)
      have ob1307 := (rn_54.1.keptNo k55)
      have ob1308 := (py_54.1.keptNo k55)
      have ob1309 := (rn2_54.1.keptNo k55)
      refine Nx_lo rfl (lo_alloc (L := [.int .i64 0, .int .i64 0, .int .u32 0, .slice none (0) (0), .slice none (0) (0), .slice none (0) (0)]) (by kernel_rfl)) rfl ?_
      rintro _ w84 ⟨mz, rfl, N84⟩
      have k84 := N84.kp
      have kk84 := kk55.then_ k84
      have ne_mz_pb := Nat.ne_of_gt (Nat.lt_of_lt_of_le f1297.lt N84.le)
      have ne_mz_mr := Nat.ne_of_gt (Nat.lt_of_lt_of_le f1298.lt N84.le)
      have ne_mz_my := Nat.ne_of_gt (Nat.lt_of_lt_of_le f1299.lt N84.le)
      have ne_mz_mr2 := Nat.ne_of_gt (Nat.lt_of_lt_of_le f1300.lt N84.le)
      have ne_mz_0 := Nat.ne_of_gt (Nat.lt_of_lt_of_le o1301.lt N84.le)
      have ne_mz_b5_0 := Nat.ne_of_gt (Nat.lt_of_lt_of_le o1302.lt N84.le)
      have f_mz_84 := N84.bk
      have f1310 := (f1297.no k84)
      have f1311 := (f1298.no k84)
      have f1312 := (f1299.no k84)
      have f1313 := (f1300.no k84)
      have o1314 := (o1301.no k84)
      have o1315 := (o1302.no k84)
      have ob1316 := (ob1303.keptNo k84)
      refine ⟨⟨kk84, f1310, f1311, f1312, f1313, o1314, o1315, ob1316⟩, ?_⟩
      refine D_two 5 12 (by kernel_rfl) ?_ ?_
      ·
       have lm1317 := ob1316.top
       have ob1319 := (ob1304.keptNo k84)
       have ob1321 := (ob1305.keptNo k84)
       have ob1323 := (ob1306.keptNo k84)
       have ob1325 := (ob1307.keptNo k84)
       have ob1327 := (ob1308.keptNo k84)
       have ob1329 := (ob1309.keptNo k84)
       refine Nx_lo rfl (lo_call (by kernel_rfl) rfl (cer_full A3 m c3 400 _ (HC.keptNo kk84) hc (by omega))) rfl ?_
       rintro _ w85 ⟨A_dc, c_dc, rfl, Q85, k85⟩
       have kk85 := kk84.then_ k85
       have f1331 := (f1310.no k85)
       have f1332 := (f1311.no k85)
       have f1333 := (f1312.no k85)
       have f1334 := (f1313.no k85)
       have o1335 := (o1314.no k85)
       have o1336 := (o1315.no k85)
       have ob1337 := (ob1316.keptNo k85)
       refine ⟨⟨kk85, f1331, f1332, f1333, f1334, o1335, o1336, ob1337⟩, ?_⟩
       refine D_two 6 12 (by kernel_rfl) ?_ ?_
       ·
        have ob1338 := (ob1321.keptNo k85)
        have ob1339 := (ob1323.keptNo k85)
        have ob1340 := (ob1327.keptNo k85)
        have ob1341 := (ob1329.keptNo k85)
        have f1342 := (f_mz_84.no k85)
        have ob1345 := (ob1319.keptNo k85)
        have ob1349 := (ob1325.keptNo k85)
        refine Nx_lo rfl (lo_call (by kernel_rfl) rfl (cer_rotate p mm 2 A_ey (boxE U2 R 2) c_ey A_ry (boxR R (encR [(1, Y)])) c_ry A_py L_py c_py A_ro R c_ro A_rn2 ([(1, Y)]) c_rn2 A_dc (fullB m 400) c_dc U2 (X2 ++ Z2) _ ob1338.bs ob1338.le.2 ob1339.bs ob1339.le.2 ob1340.ss ob1337.bs ob1337.le.2 ob1341.rs (ok_one bY) ob1341.le.2 Q85.bs Q85.le.2 ⟨⟨⟨by omega, by omega⟩, ⟨by omega, by omega⟩, ⟨by omega, by omega⟩, part_pos hK_py hU2⟩, hR, hd2, hU2, may_one, Nat.le_of_ble_eq_true rfl⟩)) rfl ?_
        rintro _ w86 ⟨A_ez, c_ez, A_rz, c_rz, A_pz, c_pz, L_pz, A_gz, c_gz, rfl, Q86, R86, S86, hK_pz, U86, k86⟩
        have kk86 := kk85.then_ k86
        have hl_pz : L_pz.length = (L_py).length := by have h := congrArg List.length hK_pz; rwa [List.length_map, List.length_map] at h
        have f1381 := (f1331.no k86)
        have f1382 := (f1332.no k86)
        have f1383 := (f1333.no k86)
        have f1384 := (f1334.no k86)
        have o1385 := (o1335.no k86)
        have o1386 := (o1336.no k86)
        have ob1387 := (ob1337.keptNo k86)
        refine ⟨⟨kk86, f1381, f1382, f1383, f1384, o1385, o1386, ob1387⟩, ?_⟩
        refine Dt 7 rfl (fun W hS => pu_move rfl) <| Dt 8 rfl (fun W hS => pu_extract rfl rfl) <| Dt 9 rfl (fun W hS => pu_extract rfl rfl) <| Dt 10 rfl (fun W hS => pu_extract rfl rfl) ?_
        have f1388 := (f1342.no k86)
        have ob1389 := (ob1345.keptNo k86)
        have ob1392 := (ob1349.keptNo k86)
        have ob1394 := (ob1341.keptNo k86)
        refine D_one 12 (by kernel_rfl) (Nx_lo rfl (lo_alloc (L := [.slice none (0) (0)]) (by kernel_rfl)) rfl ?_)
        rintro _ w87 ⟨mg, rfl, N87⟩
        have k87 := N87.kp
        have kk87 := kk86.then_ k87
        have ne_mg_pb := Nat.ne_of_gt (Nat.lt_of_lt_of_le f1381.lt N87.le)
        have ne_mg_mr := Nat.ne_of_gt (Nat.lt_of_lt_of_le f1382.lt N87.le)
        have ne_mg_my := Nat.ne_of_gt (Nat.lt_of_lt_of_le f1383.lt N87.le)
        have ne_mg_mr2 := Nat.ne_of_gt (Nat.lt_of_lt_of_le f1384.lt N87.le)
        have ne_mg_mz := Nat.ne_of_gt (Nat.lt_of_lt_of_le f1388.lt N87.le)
        have ne_mg_0 := Nat.ne_of_gt (Nat.lt_of_lt_of_le o1385.lt N87.le)
        have ne_mg_b5_0 := Nat.ne_of_gt (Nat.lt_of_lt_of_le o1386.lt N87.le)
        have f_mg_87 := N87.bk
        have f1396 := (f1381.no k87)
        have f1397 := (f1382.no k87)
        have f1398 := (f1383.no k87)
        have f1399 := (f1384.no k87)
        have o1400 := (o1385.no k87)
        have o1401 := (o1386.no k87)
        have ob1402 := (ob1387.keptNo k87)
        refine ⟨⟨kk87, f1396, f1397, f1398, f1399, o1400, o1401, ob1402⟩, ?_⟩
        have f1403 := (f1388.no k87)
        refine D_one 13 (by kernel_rfl) (Nx_lo0 rfl (lo_storeRow (C := [.int .i64 ((p + 1 : Nat) : Int), .int .i64 ((mm : Nat) : Int), .int .u32 2, .slice A_ez ((boxE U2 R 2).length) (c_ez), .slice A_rz ((boxR R (encR (([(1, Y)]) ++ [(([(1, Y)]).length + 1, U2)]))).length) (c_rz), .slice A_pz ((L_pz).length) (c_pz)]) f1403 (by kernel_rfl) rfl rfl (by intro u hu; simp at hu; rcases hu with rfl | rfl | rfl | rfl | rfl | rfl <;> rfl) rfl) ?_)
        rintro _ w88 kf88
        obtain ⟨k88, f_mz_88⟩ := kf88
        replace f_mz_88 : Bk w88 mz ([.int .i64 ((p + 1 : Nat) : Int), .int .i64 ((mm : Nat) : Int), .int .u32 2, .slice A_ez ((boxE U2 R 2).length) (c_ez), .slice A_rz ((boxR R (encR (([(1, Y)]) ++ [(([(1, Y)]).length + 1, U2)]))).length) (c_rz), .slice A_pz ((L_pz).length) (c_pz)]) 39 := f_mz_88
        have kk88 := kk87.trans k88 (fun i hi => .inr (hi ▸ (Nat.le_trans kk55.size N84.le)))
        have f1404 := (f1396.on k88 (Ne.symm ne_mz_pb))
        have f1405 := (f1397.on k88 (Ne.symm ne_mz_mr))
        have f1406 := (f1398.on k88 (Ne.symm ne_mz_my))
        have f1407 := (f1399.on k88 (Ne.symm ne_mz_mr2))
        have o1408 := (o1400.on k88 (Ne.symm ne_mz_0))
        have o1409 := (o1401.on k88 (Ne.symm ne_mz_b5_0))
        have ob1410 := (ob1402.onN k88 ob1303 N84.le)
        refine ⟨⟨kk88, f1404, f1405, f1406, f1407, o1408, o1409, ob1410⟩, ?_⟩
        have f1411 := (f_mg_87.on k88 ne_mg_mz)
        refine D_one 14 (by kernel_rfl) (Nx_lo0 rfl (lo_storeRow (C := [.slice A_gz ((([(1, Y)]) ++ [(([(1, Y)]).length + 1, U2)]).length) (c_gz)]) f1411 (by kernel_rfl) rfl rfl (by intro u hu; simp at hu; rcases hu with rfl <;> rfl) rfl) ?_)
        rintro _ w89 kf89
        obtain ⟨k89, f_mg_89⟩ := kf89
        replace f_mg_89 : Bk w89 mg ([.slice A_gz ((([(1, Y)]) ++ [(([(1, Y)]).length + 1, U2)]).length) (c_gz)]) 46 := f_mg_89
        have kk89 := kk88.trans k89 (fun i hi => .inr (hi ▸ (Nat.le_trans kk86.size N87.le)))
        have f1412 := (f1404.on k89 (Ne.symm ne_mg_pb))
        have f1413 := (f1405.on k89 (Ne.symm ne_mg_mr))
        have f1414 := (f1406.on k89 (Ne.symm ne_mg_my))
        have f1415 := (f1407.on k89 (Ne.symm ne_mg_mr2))
        have o1416 := (o1408.on k89 (Ne.symm ne_mg_0))
        have o1417 := (o1409.on k89 (Ne.symm ne_mg_b5_0))
        have ob1418 := (ob1410.onN k89 ob1387 N87.le)
        refine ⟨⟨kk89, f1412, f1413, f1414, f1415, o1416, o1417, ob1418⟩, ?_⟩
        refine Dt 15 rfl (fun W hS => pu_assign rfl) <| D_done (by kernel_rfl) ?_
        have f1419 := (f_mz_88.on k89 (Ne.symm ne_mg_mz))
        have hz1420 : w54.heap.size ≤ w89.heap.size := (Nat.le_trans (Nat.le_trans (Nat.le_trans (Nat.le_trans (Nat.le_trans (Nat.le_trans k55.size k84.size) k85.size) k86.size) k87.size) k88.size) k89.size)
        have ob1421 := (((ob1389.keptNo k87).onN k88 ob1304 N84.le).onN k89 ob1389 N87.le)
        have ob1422 := (((ob1392.keptNo k87).onN k88 ob1307 N84.le).onN k89 ob1392 N87.le)
        have ob1423 := (((ob1394.keptNo k87).onN k88 ob1309 N84.le).onN k89 ob1394 N87.le)
        have ob1424 := (((Q86.keptNo k87).on k88 (by have := f1342.lt; omega)).onN k89 Q86 N87.le)
        have hz1425 : w54.heap.size ≤ w85.heap.size := (Nat.le_trans (Nat.le_trans k55.size k84.size) k85.size)
        have ob1426 := (((R86.keptNo k87).on k88 (by have := f1342.lt; omega)).onN k89 R86 N87.le)
        have ob1427 := (((S86.keptNo k87).on k88 (by have := f1342.lt; omega)).onN k89 S86 N87.le)
        have ob1428 := (((U86.keptNo k87).on k88 (by have := f1342.lt; omega)).onN k89 U86 N87.le)
        refine Xc hK_ ⟨mz, mg, A_ez, c_ez, A_rz, c_rz, A_pz, c_pz, L_pz, A_gz, c_gz, rfl, hK_pz, hl_pz, ne_mz_0, ne_mz_b5_0, ne_mz_mr, ne_mz_mr2, ne_mz_my, ne_mg_0, ne_mg_b5_0, ne_mg_mr, ne_mg_mr2, ne_mg_my, ne_mg_mz, kk89, f1413, f1414, f1415, f1419, f_mg_89, ⟨ob1418, (Nat.le_trans ro_54.2 hz1420)⟩, ⟨ob1421, (Nat.le_trans ro2_54.2 hz1420)⟩, ⟨ob1422, (Nat.le_trans rn_54.2 hz1420)⟩, ⟨ob1423, (Nat.le_trans rn2_54.2 hz1420)⟩, ⟨ob1424.low hz1425, hz1420⟩, ⟨ob1426.low hz1425, hz1420⟩, ⟨((ob1427).lowb hz1425).lowd hz1425, hz1420⟩, ⟨ob1428.low hz1425, hz1420⟩, o1416, o1417⟩ (Sub.cons rfl (Sub.cons rfl (Sub.cons rfl (Sub.cons rfl (Sub.cons rfl (Sub.cons rfl (Sub.cons rfl (Sub.cons rfl (Sub.cons rfl (Sub.cons rfl (Sub.cons rfl (Sub.cons rfl (Sub.cons rfl (Sub.cons rfl (Sub.cons rfl (Sub.nil _))))))))))))))))
       ·
        have f1429 : Bk w85 mz ([.int .i64 0, .int .i64 0, .int .u32 0, .slice none (0) (0), .slice none (0) (0), .slice none (0) (0)]) 39 := (f_mz_84.no k85)
        have ob1430 := (ob1319.keptNo k85)
        have ob1431 := (ob1321.keptNo k85)
        have ob1432 := (ob1323.keptNo k85)
        have ob1433 := (ob1325.keptNo k85)
        have ob1434 := (ob1327.keptNo k85)
        have ob1435 := (ob1329.keptNo k85)
        refine Nx_lo rfl (lo_alloc (L := [.slice none (0) (0)]) (by kernel_rfl)) rfl ?_
        rintro _ w90 ⟨mg, rfl, N90⟩
        have k90 := N90.kp
        have kk90 := kk85.then_ k90
        have ne_mg_pb := Nat.ne_of_gt (Nat.lt_of_lt_of_le f1331.lt N90.le)
        have ne_mg_mr := Nat.ne_of_gt (Nat.lt_of_lt_of_le f1332.lt N90.le)
        have ne_mg_my := Nat.ne_of_gt (Nat.lt_of_lt_of_le f1333.lt N90.le)
        have ne_mg_mr2 := Nat.ne_of_gt (Nat.lt_of_lt_of_le f1334.lt N90.le)
        have ne_mg_mz := Nat.ne_of_gt (Nat.lt_of_lt_of_le f1429.lt N90.le)
        have ne_mg_0 := Nat.ne_of_gt (Nat.lt_of_lt_of_le o1335.lt N90.le)
        have ne_mg_b5_0 := Nat.ne_of_gt (Nat.lt_of_lt_of_le o1336.lt N90.le)
        have f_mg_90 := N90.bk
        have f1436 := (f1331.no k90)
        have f1437 := (f1332.no k90)
        have f1438 := (f1333.no k90)
        have f1439 := (f1334.no k90)
        have o1440 := (o1335.no k90)
        have o1441 := (o1336.no k90)
        have ob1442 := (ob1337.keptNo k90)
        refine ⟨⟨kk90, f1436, f1437, f1438, f1439, o1440, o1441, ob1442⟩, ?_⟩
        have ob1443 := (ob1431.keptNo k90)
        have ob1444 := (ob1432.keptNo k90)
        have ob1445 := (ob1434.keptNo k90)
        have ob1446 := (Q85.keptNo k90)
        have ob1447 := (ob1435.keptNo k90)
        have f1448 := (f1429.no k90)
        have ob1451 := (ob1430.keptNo k90)
        have ob1455 := (ob1433.keptNo k90)
        refine D_one 6 (by kernel_rfl) (Nx_lo rfl (lo_call (by kernel_rfl) rfl (cer_rotate p mm 2 A_ey (boxE U2 R 2) c_ey A_ry (boxR R (encR [(1, Y)])) c_ry A_py L_py c_py A_ro R c_ro A_rn2 ([(1, Y)]) c_rn2 A_dc (fullB m 400) c_dc U2 (X2 ++ Z2) _ ob1443.bs ob1443.le.2 ob1444.bs ob1444.le.2 ob1445.ss ob1442.bs ob1442.le.2 ob1447.rs (ok_one bY) ob1447.le.2 ob1446.bs ob1446.le.2 ⟨⟨⟨by omega, by omega⟩, ⟨by omega, by omega⟩, ⟨by omega, by omega⟩, part_pos hK_py hU2⟩, hR, hd2, hU2, may_one, Nat.le_of_ble_eq_true rfl⟩)) rfl ?_)
        rintro _ w91 ⟨A_ez, c_ez, A_rz, c_rz, A_pz, c_pz, L_pz, A_gz, c_gz, rfl, Q91, R91, S91, hK_pz, U91, k91⟩
        have kk91 := kk90.then_ k91
        have hl_pz : L_pz.length = (L_py).length := by have h := congrArg List.length hK_pz; rwa [List.length_map, List.length_map] at h
        have f1487 := (f1436.no k91)
        have f1488 := (f1437.no k91)
        have f1489 := (f1438.no k91)
        have f1490 := (f1439.no k91)
        have o1491 := (o1440.no k91)
        have o1492 := (o1441.no k91)
        have ob1493 := (ob1442.keptNo k91)
        refine ⟨⟨kk91, f1487, f1488, f1489, f1490, o1491, o1492, ob1493⟩, ?_⟩
        refine Dt 7 rfl (fun W hS => pu_move rfl) <| Dt 8 rfl (fun W hS => pu_extract rfl rfl) <| Dt 9 rfl (fun W hS => pu_extract rfl rfl) <| Dt 10 rfl (fun W hS => pu_extract rfl rfl) ?_
        have f1494 := (f1448.no k91)
        refine D_one 13 (by kernel_rfl) (Nx_lo0 rfl (lo_storeRow (C := [.int .i64 ((p + 1 : Nat) : Int), .int .i64 ((mm : Nat) : Int), .int .u32 2, .slice A_ez ((boxE U2 R 2).length) (c_ez), .slice A_rz ((boxR R (encR (([(1, Y)]) ++ [(([(1, Y)]).length + 1, U2)]))).length) (c_rz), .slice A_pz ((L_pz).length) (c_pz)]) f1494 (by kernel_rfl) rfl rfl (by intro u hu; simp at hu; rcases hu with rfl | rfl | rfl | rfl | rfl | rfl <;> rfl) rfl) ?_)
        rintro _ w92 kf92
        obtain ⟨k92, f_mz_92⟩ := kf92
        replace f_mz_92 : Bk w92 mz ([.int .i64 ((p + 1 : Nat) : Int), .int .i64 ((mm : Nat) : Int), .int .u32 2, .slice A_ez ((boxE U2 R 2).length) (c_ez), .slice A_rz ((boxR R (encR (([(1, Y)]) ++ [(([(1, Y)]).length + 1, U2)]))).length) (c_rz), .slice A_pz ((L_pz).length) (c_pz)]) 39 := f_mz_92
        have kk92 := kk91.trans k92 (fun i hi => .inr (hi ▸ (Nat.le_trans kk55.size N84.le)))
        have f1495 := (f1487.on k92 (Ne.symm ne_mz_pb))
        have f1496 := (f1488.on k92 (Ne.symm ne_mz_mr))
        have f1497 := (f1489.on k92 (Ne.symm ne_mz_my))
        have f1498 := (f1490.on k92 (Ne.symm ne_mz_mr2))
        have o1499 := (o1491.on k92 (Ne.symm ne_mz_0))
        have o1500 := (o1492.on k92 (Ne.symm ne_mz_b5_0))
        have ob1501 := (ob1493.onN k92 ob1303 N84.le)
        refine ⟨⟨kk92, f1495, f1496, f1497, f1498, o1499, o1500, ob1501⟩, ?_⟩
        have f1502 := ((f_mg_90.no k91).on k92 ne_mg_mz)
        refine D_one 14 (by kernel_rfl) (Nx_lo0 rfl (lo_storeRow (C := [.slice A_gz ((([(1, Y)]) ++ [(([(1, Y)]).length + 1, U2)]).length) (c_gz)]) f1502 (by kernel_rfl) rfl rfl (by intro u hu; simp at hu; rcases hu with rfl <;> rfl) rfl) ?_)
        rintro _ w93 kf93
        obtain ⟨k93, f_mg_93⟩ := kf93
        replace f_mg_93 : Bk w93 mg ([.slice A_gz ((([(1, Y)]) ++ [(([(1, Y)]).length + 1, U2)]).length) (c_gz)]) 46 := f_mg_93
        have kk93 := kk92.trans k93 (fun i hi => .inr (hi ▸ (Nat.le_trans kk85.size N90.le)))
        have f1503 := (f1495.on k93 (Ne.symm ne_mg_pb))
        have f1504 := (f1496.on k93 (Ne.symm ne_mg_mr))
        have f1505 := (f1497.on k93 (Ne.symm ne_mg_my))
        have f1506 := (f1498.on k93 (Ne.symm ne_mg_mr2))
        have o1507 := (o1499.on k93 (Ne.symm ne_mg_0))
        have o1508 := (o1500.on k93 (Ne.symm ne_mg_b5_0))
        have ob1509 := (ob1501.onN k93 ob1337 N90.le)
        refine ⟨⟨kk93, f1503, f1504, f1505, f1506, o1507, o1508, ob1509⟩, ?_⟩
        refine Dt 15 rfl (fun W hS => pu_assign rfl) <| D_done (by kernel_rfl) ?_
        have f1510 := (f_mz_92.on k93 (Ne.symm ne_mg_mz))
        have hz1511 : w54.heap.size ≤ w93.heap.size := (Nat.le_trans (Nat.le_trans (Nat.le_trans (Nat.le_trans (Nat.le_trans (Nat.le_trans k55.size k84.size) k85.size) k90.size) k91.size) k92.size) k93.size)
        have ob1512 := (((ob1451.keptNo k91).onN k92 ob1304 N84.le).onN k93 ob1430 N90.le)
        have ob1513 := (((ob1455.keptNo k91).onN k92 ob1307 N84.le).onN k93 ob1433 N90.le)
        have ob1514 := (((ob1447.keptNo k91).onN k92 ob1309 N84.le).onN k93 ob1435 N90.le)
        have ob1515 := ((Q91.on k92 (by have := f1448.lt; omega)).on k93 (by have := f_mg_90.lt; omega))
        have hz1516 : w54.heap.size ≤ w90.heap.size := (Nat.le_trans (Nat.le_trans (Nat.le_trans k55.size k84.size) k85.size) k90.size)
        have ob1517 := ((R91.on k92 (by have := f1448.lt; omega)).on k93 (by have := f_mg_90.lt; omega))
        have ob1518 := ((S91.on k92 (by have := f1448.lt; omega)).on k93 (by have := f_mg_90.lt; omega))
        have ob1519 := ((U91.on k92 (by have := f1448.lt; omega)).on k93 (by have := f_mg_90.lt; omega))
        refine Xc hK_ ⟨mz, mg, A_ez, c_ez, A_rz, c_rz, A_pz, c_pz, L_pz, A_gz, c_gz, rfl, hK_pz, hl_pz, ne_mz_0, ne_mz_b5_0, ne_mz_mr, ne_mz_mr2, ne_mz_my, ne_mg_0, ne_mg_b5_0, ne_mg_mr, ne_mg_mr2, ne_mg_my, ne_mg_mz, kk93, f1504, f1505, f1506, f1510, f_mg_93, ⟨ob1509, (Nat.le_trans ro_54.2 hz1511)⟩, ⟨ob1512, (Nat.le_trans ro2_54.2 hz1511)⟩, ⟨ob1513, (Nat.le_trans rn_54.2 hz1511)⟩, ⟨ob1514, (Nat.le_trans rn2_54.2 hz1511)⟩, ⟨ob1515.low hz1516, hz1511⟩, ⟨ob1517.low hz1516, hz1511⟩, ⟨((ob1518).lowb hz1516).lowd hz1516, hz1511⟩, ⟨ob1519.low hz1516, hz1511⟩, o1507, o1508⟩ (Sub.cons rfl (Sub.cons rfl (Sub.cons rfl (Sub.cons rfl (Sub.cons rfl (Sub.cons rfl (Sub.cons rfl (Sub.cons rfl (Sub.cons rfl (Sub.cons rfl (Sub.cons rfl (Sub.cons rfl (Sub.cons rfl (Sub.cons rfl (Sub.cons rfl (Sub.nil _))))))))))))))))
      ·
       have ob1520 := (ob1304.keptNo k84)
       have ob1521 := (ob1305.keptNo k84)
       have ob1522 := (ob1306.keptNo k84)
       have ob1523 := (ob1307.keptNo k84)
       have ob1524 := (ob1308.keptNo k84)
       have ob1525 := (ob1309.keptNo k84)
       refine Nx_lo rfl (lo_alloc (L := [.slice none (0) (0)]) (by kernel_rfl)) rfl ?_
       rintro _ w94 ⟨mg, rfl, N94⟩
       have k94 := N94.kp
       have kk94 := kk84.then_ k94
       have ne_mg_pb := Nat.ne_of_gt (Nat.lt_of_lt_of_le f1310.lt N94.le)
       have ne_mg_mr := Nat.ne_of_gt (Nat.lt_of_lt_of_le f1311.lt N94.le)
       have ne_mg_my := Nat.ne_of_gt (Nat.lt_of_lt_of_le f1312.lt N94.le)
       have ne_mg_mr2 := Nat.ne_of_gt (Nat.lt_of_lt_of_le f1313.lt N94.le)
       have ne_mg_mz := Nat.ne_of_gt (Nat.lt_of_lt_of_le f_mz_84.lt N94.le)
       have ne_mg_0 := Nat.ne_of_gt (Nat.lt_of_lt_of_le o1314.lt N94.le)
       have ne_mg_b5_0 := Nat.ne_of_gt (Nat.lt_of_lt_of_le o1315.lt N94.le)
       have f_mg_94 := N94.bk
       have f1526 := (f1310.no k94)
       have f1527 := (f1311.no k94)
       have f1528 := (f1312.no k94)
       have f1529 := (f1313.no k94)
       have o1530 := (o1314.no k94)
       have o1531 := (o1315.no k94)
       have ob1532 := (ob1316.keptNo k94)
       refine ⟨⟨kk94, f1526, f1527, f1528, f1529, o1530, o1531, ob1532⟩, ?_⟩
       have f1533 := (f_mz_84.no k94)
       have ob1536 := (ob1520.keptNo k94)
       have ob1538 := (ob1521.keptNo k94)
       have ob1540 := (ob1522.keptNo k94)
       have ob1542 := (ob1523.keptNo k94)
       have ob1544 := (ob1524.keptNo k94)
       have ob1546 := (ob1525.keptNo k94)
       refine D_one 5 (by kernel_rfl) (Nx_lo rfl (lo_call (by kernel_rfl) rfl (cer_full A3 m c3 400 _ (HC.keptNo kk94) hc (by omega))) rfl ?_)
       rintro _ w95 ⟨A_dc, c_dc, rfl, Q95, k95⟩
       have kk95 := kk94.then_ k95
       have f1548 := (f1526.no k95)
       have f1549 := (f1527.no k95)
       have f1550 := (f1528.no k95)
       have f1551 := (f1529.no k95)
       have o1552 := (o1530.no k95)
       have o1553 := (o1531.no k95)
       have ob1554 := (ob1532.keptNo k95)
       refine ⟨⟨kk95, f1548, f1549, f1550, f1551, o1552, o1553, ob1554⟩, ?_⟩
       have ob1555 := (ob1538.keptNo k95)
       have ob1556 := (ob1540.keptNo k95)
       have ob1557 := (ob1544.keptNo k95)
       have ob1558 := (ob1546.keptNo k95)
       have f1559 := (f1533.no k95)
       have f1560 := (f_mg_94.no k95)
       have ob1563 := (ob1536.keptNo k95)
       have ob1567 := (ob1542.keptNo k95)
       refine D_one 6 (by kernel_rfl) (Nx_lo rfl (lo_call (by kernel_rfl) rfl (cer_rotate p mm 2 A_ey (boxE U2 R 2) c_ey A_ry (boxR R (encR [(1, Y)])) c_ry A_py L_py c_py A_ro R c_ro A_rn2 ([(1, Y)]) c_rn2 A_dc (fullB m 400) c_dc U2 (X2 ++ Z2) _ ob1555.bs ob1555.le.2 ob1556.bs ob1556.le.2 ob1557.ss ob1554.bs ob1554.le.2 ob1558.rs (ok_one bY) ob1558.le.2 Q95.bs Q95.le.2 ⟨⟨⟨by omega, by omega⟩, ⟨by omega, by omega⟩, ⟨by omega, by omega⟩, part_pos hK_py hU2⟩, hR, hd2, hU2, may_one, Nat.le_of_ble_eq_true rfl⟩)) rfl ?_)
       rintro _ w96 ⟨A_ez, c_ez, A_rz, c_rz, A_pz, c_pz, L_pz, A_gz, c_gz, rfl, Q96, R96, S96, hK_pz, U96, k96⟩
       have kk96 := kk95.then_ k96
       have hl_pz : L_pz.length = (L_py).length := by have h := congrArg List.length hK_pz; rwa [List.length_map, List.length_map] at h
       have f1599 := (f1548.no k96)
       have f1600 := (f1549.no k96)
       have f1601 := (f1550.no k96)
       have f1602 := (f1551.no k96)
       have o1603 := (o1552.no k96)
       have o1604 := (o1553.no k96)
       have ob1605 := (ob1554.keptNo k96)
       refine ⟨⟨kk96, f1599, f1600, f1601, f1602, o1603, o1604, ob1605⟩, ?_⟩
       refine Dt 7 rfl (fun W hS => pu_move rfl) <| Dt 8 rfl (fun W hS => pu_extract rfl rfl) <| Dt 9 rfl (fun W hS => pu_extract rfl rfl) <| Dt 10 rfl (fun W hS => pu_extract rfl rfl) ?_
       have f1606 := (f1559.no k96)
       refine D_one 13 (by kernel_rfl) (Nx_lo0 rfl (lo_storeRow (C := [.int .i64 ((p + 1 : Nat) : Int), .int .i64 ((mm : Nat) : Int), .int .u32 2, .slice A_ez ((boxE U2 R 2).length) (c_ez), .slice A_rz ((boxR R (encR (([(1, Y)]) ++ [(([(1, Y)]).length + 1, U2)]))).length) (c_rz), .slice A_pz ((L_pz).length) (c_pz)]) f1606 (by kernel_rfl) rfl rfl (by intro u hu; simp at hu; rcases hu with rfl | rfl | rfl | rfl | rfl | rfl <;> rfl) rfl) ?_)
       rintro _ w97 kf97
       obtain ⟨k97, f_mz_97⟩ := kf97
       replace f_mz_97 : Bk w97 mz ([.int .i64 ((p + 1 : Nat) : Int), .int .i64 ((mm : Nat) : Int), .int .u32 2, .slice A_ez ((boxE U2 R 2).length) (c_ez), .slice A_rz ((boxR R (encR (([(1, Y)]) ++ [(([(1, Y)]).length + 1, U2)]))).length) (c_rz), .slice A_pz ((L_pz).length) (c_pz)]) 39 := f_mz_97
       have kk97 := kk96.trans k97 (fun i hi => .inr (hi ▸ (Nat.le_trans kk55.size N84.le)))
       have f1607 := (f1599.on k97 (Ne.symm ne_mz_pb))
       have f1608 := (f1600.on k97 (Ne.symm ne_mz_mr))
       have f1609 := (f1601.on k97 (Ne.symm ne_mz_my))
       have f1610 := (f1602.on k97 (Ne.symm ne_mz_mr2))
       have o1611 := (o1603.on k97 (Ne.symm ne_mz_0))
       have o1612 := (o1604.on k97 (Ne.symm ne_mz_b5_0))
       have ob1613 := (ob1605.onN k97 ob1303 N84.le)
       refine ⟨⟨kk97, f1607, f1608, f1609, f1610, o1611, o1612, ob1613⟩, ?_⟩
       have f1614 := ((f1560.no k96).on k97 ne_mg_mz)
       refine D_one 14 (by kernel_rfl) (Nx_lo0 rfl (lo_storeRow (C := [.slice A_gz ((([(1, Y)]) ++ [(([(1, Y)]).length + 1, U2)]).length) (c_gz)]) f1614 (by kernel_rfl) rfl rfl (by intro u hu; simp at hu; rcases hu with rfl <;> rfl) rfl) ?_)
       rintro _ w98 kf98
       obtain ⟨k98, f_mg_98⟩ := kf98
       replace f_mg_98 : Bk w98 mg ([.slice A_gz ((([(1, Y)]) ++ [(([(1, Y)]).length + 1, U2)]).length) (c_gz)]) 46 := f_mg_98
       have kk98 := kk97.trans k98 (fun i hi => .inr (hi ▸ (Nat.le_trans kk84.size N94.le)))
       have f1615 := (f1607.on k98 (Ne.symm ne_mg_pb))
       have f1616 := (f1608.on k98 (Ne.symm ne_mg_mr))
       have f1617 := (f1609.on k98 (Ne.symm ne_mg_my))
       have f1618 := (f1610.on k98 (Ne.symm ne_mg_mr2))
       have o1619 := (o1611.on k98 (Ne.symm ne_mg_0))
       have o1620 := (o1612.on k98 (Ne.symm ne_mg_b5_0))
       have ob1621 := (ob1613.onN k98 ob1316 N94.le)
       refine ⟨⟨kk98, f1615, f1616, f1617, f1618, o1619, o1620, ob1621⟩, ?_⟩
       refine Dt 15 rfl (fun W hS => pu_assign rfl) <| D_done (by kernel_rfl) ?_
       have f1622 := (f_mz_97.on k98 (Ne.symm ne_mg_mz))
       have hz1623 : w54.heap.size ≤ w98.heap.size := (Nat.le_trans (Nat.le_trans (Nat.le_trans (Nat.le_trans (Nat.le_trans (Nat.le_trans k55.size k84.size) k94.size) k95.size) k96.size) k97.size) k98.size)
       have ob1624 := (((ob1563.keptNo k96).onN k97 ob1304 N84.le).onN k98 ob1520 N94.le)
       have ob1625 := (((ob1567.keptNo k96).onN k97 ob1307 N84.le).onN k98 ob1523 N94.le)
       have ob1626 := (((ob1558.keptNo k96).onN k97 ob1309 N84.le).onN k98 ob1525 N94.le)
       have ob1627 := ((Q96.on k97 (by have := f1559.lt; omega)).on k98 (by have := f1560.lt; omega))
       have hz1628 : w54.heap.size ≤ w95.heap.size := (Nat.le_trans (Nat.le_trans (Nat.le_trans k55.size k84.size) k94.size) k95.size)
       have ob1629 := ((R96.on k97 (by have := f1559.lt; omega)).on k98 (by have := f1560.lt; omega))
       have ob1630 := ((S96.on k97 (by have := f1559.lt; omega)).on k98 (by have := f1560.lt; omega))
       have ob1631 := ((U96.on k97 (by have := f1559.lt; omega)).on k98 (by have := f1560.lt; omega))
       refine Xc hK_ ⟨mz, mg, A_ez, c_ez, A_rz, c_rz, A_pz, c_pz, L_pz, A_gz, c_gz, rfl, hK_pz, hl_pz, ne_mz_0, ne_mz_b5_0, ne_mz_mr, ne_mz_mr2, ne_mz_my, ne_mg_0, ne_mg_b5_0, ne_mg_mr, ne_mg_mr2, ne_mg_my, ne_mg_mz, kk98, f1616, f1617, f1618, f1622, f_mg_98, ⟨ob1621, (Nat.le_trans ro_54.2 hz1623)⟩, ⟨ob1624, (Nat.le_trans ro2_54.2 hz1623)⟩, ⟨ob1625, (Nat.le_trans rn_54.2 hz1623)⟩, ⟨ob1626, (Nat.le_trans rn2_54.2 hz1623)⟩, ⟨ob1627.low hz1628, hz1623⟩, ⟨ob1629.low hz1628, hz1623⟩, ⟨((ob1630).lowb hz1628).lowd hz1628, hz1623⟩, ⟨ob1631.low hz1628, hz1623⟩, o1619, o1620⟩ (Sub.cons rfl (Sub.cons rfl (Sub.cons rfl (Sub.cons rfl (Sub.cons rfl (Sub.cons rfl (Sub.cons rfl (Sub.cons rfl (Sub.cons rfl (Sub.cons rfl (Sub.cons rfl (Sub.cons rfl (Sub.cons rfl (Sub.cons rfl (Sub.cons rfl (Sub.nil _))))))))))))))))
     ·
      have f1632 : Bk w55 pb ([.int .i64 (kb), .int .i64 (nb), .slice A3 (m.length) (c3), .slice A4 (m2.length) (c4)]) 24 := (f_pb_54.no k55)
      have f1633 := (f_mr_54.no k55)
      have f1634 := (f_my_54.no k55)
      have f1635 := (f_mr2_54.no k55)
      have o1636 := (G_54.no k55)
      have o1637 := (T_b5_0_54.no k55)
      have ob1638 := (ro_54.1.keptNo k55)
      have ob1639 := (ro2_54.1.keptNo k55)
      have ob1640 := (ey_54.1.keptNo k55)
      have ob1641 := (ry_54.1.keptNo k55)
      have ob1642 := (rn_54.1.keptNo k55)
      have ob1643 := (py_54.1.keptNo k55)
      have ob1644 := (rn2_54.1.keptNo k55)
      refine Nx_lo rfl (lo_alloc (L := [.slice none (0) (0)]) (by kernel_rfl)) rfl ?_
      rintro _ w99 ⟨mg, rfl, N99⟩
      have k99 := N99.kp
      have kk99 := kk55.then_ k99
      have ne_mg_pb := Nat.ne_of_gt (Nat.lt_of_lt_of_le f1632.lt N99.le)
      have ne_mg_mr := Nat.ne_of_gt (Nat.lt_of_lt_of_le f1633.lt N99.le)
      have ne_mg_my := Nat.ne_of_gt (Nat.lt_of_lt_of_le f1634.lt N99.le)
      have ne_mg_mr2 := Nat.ne_of_gt (Nat.lt_of_lt_of_le f1635.lt N99.le)
      have ne_mg_0 := Nat.ne_of_gt (Nat.lt_of_lt_of_le o1636.lt N99.le)
      have ne_mg_b5_0 := Nat.ne_of_gt (Nat.lt_of_lt_of_le o1637.lt N99.le)
      have f_mg_99 := N99.bk
      have f1645 := (f1632.no k99)
      have f1646 := (f1633.no k99)
      have f1647 := (f1634.no k99)
      have f1648 := (f1635.no k99)
      have o1649 := (o1636.no k99)
      have o1650 := (o1637.no k99)
      have ob1651 := (ob1638.keptNo k99)
      refine ⟨⟨kk99, f1645, f1646, f1647, f1648, o1649, o1650, ob1651⟩, ?_⟩
      refine D_two 5 11 (by kernel_rfl) ?_ ?_
      ·
       have lm1652 := ob1651.top
       have ob1654 := (ob1639.keptNo k99)
       have ob1656 := (ob1640.keptNo k99)
       have ob1658 := (ob1641.keptNo k99)
       have ob1660 := (ob1642.keptNo k99)
       have ob1662 := (ob1643.keptNo k99)
       have ob1664 := (ob1644.keptNo k99)
       refine Nx_lo rfl (lo_call (by kernel_rfl) rfl (cer_full A3 m c3 400 _ (HC.keptNo kk99) hc (by omega))) rfl ?_
       rintro _ w100 ⟨A_dc, c_dc, rfl, Q100, k100⟩
       have kk100 := kk99.then_ k100
       have f1666 := (f1645.no k100)
       have f1667 := (f1646.no k100)
       have f1668 := (f1647.no k100)
       have f1669 := (f1648.no k100)
       have o1670 := (o1649.no k100)
       have o1671 := (o1650.no k100)
       have ob1672 := (ob1651.keptNo k100)
       refine ⟨⟨kk100, f1666, f1667, f1668, f1669, o1670, o1671, ob1672⟩, ?_⟩
       refine D_two 6 11 (by kernel_rfl) ?_ ?_
       ·
        have ob1673 := (ob1656.keptNo k100)
        have ob1674 := (ob1658.keptNo k100)
        have ob1675 := (ob1662.keptNo k100)
        have ob1676 := (ob1664.keptNo k100)
        have f1677 := (f_mg_99.no k100)
        have ob1680 := (ob1654.keptNo k100)
        have ob1684 := (ob1660.keptNo k100)
        refine Nx_lo rfl (lo_call (by kernel_rfl) rfl (cer_rotate p mm 2 A_ey (boxE U2 R 2) c_ey A_ry (boxR R (encR [(1, Y)])) c_ry A_py L_py c_py A_ro R c_ro A_rn2 ([(1, Y)]) c_rn2 A_dc (fullB m 400) c_dc U2 (X2 ++ Z2) _ ob1673.bs ob1673.le.2 ob1674.bs ob1674.le.2 ob1675.ss ob1672.bs ob1672.le.2 ob1676.rs (ok_one bY) ob1676.le.2 Q100.bs Q100.le.2 ⟨⟨⟨by omega, by omega⟩, ⟨by omega, by omega⟩, ⟨by omega, by omega⟩, part_pos hK_py hU2⟩, hR, hd2, hU2, may_one, Nat.le_of_ble_eq_true rfl⟩)) rfl ?_
        rintro _ w101 ⟨A_ez, c_ez, A_rz, c_rz, A_pz, c_pz, L_pz, A_gz, c_gz, rfl, Q101, R101, S101, hK_pz, U101, k101⟩
        have kk101 := kk100.then_ k101
        have hl_pz : L_pz.length = (L_py).length := by have h := congrArg List.length hK_pz; rwa [List.length_map, List.length_map] at h
        have f1716 := (f1666.no k101)
        have f1717 := (f1667.no k101)
        have f1718 := (f1668.no k101)
        have f1719 := (f1669.no k101)
        have o1720 := (o1670.no k101)
        have o1721 := (o1671.no k101)
        have ob1722 := (ob1672.keptNo k101)
        refine ⟨⟨kk101, f1716, f1717, f1718, f1719, o1720, o1721, ob1722⟩, ?_⟩
        refine Dt 7 rfl (fun W hS => pu_move rfl) <| Dt 8 rfl (fun W hS => pu_extract rfl rfl) <| Dt 9 rfl (fun W hS => pu_extract rfl rfl) <| Dt 10 rfl (fun W hS => pu_extract rfl rfl) ?_
        have f1723 := (f1677.no k101)
        have ob1724 := (ob1680.keptNo k101)
        have ob1727 := (ob1684.keptNo k101)
        have ob1729 := (ob1676.keptNo k101)
        refine D_one 11 (by kernel_rfl) (Nx_lo rfl (lo_alloc (L := [.int .i64 0, .int .i64 0, .int .u32 0, .slice none (0) (0), .slice none (0) (0), .slice none (0) (0)]) (by kernel_rfl)) rfl ?_)
        rintro _ w102 ⟨mz, rfl, N102⟩
        have k102 := N102.kp
        have kk102 := kk101.then_ k102
        have ne_mz_pb := Nat.ne_of_gt (Nat.lt_of_lt_of_le f1716.lt N102.le)
        have ne_mz_mr := Nat.ne_of_gt (Nat.lt_of_lt_of_le f1717.lt N102.le)
        have ne_mz_my := Nat.ne_of_gt (Nat.lt_of_lt_of_le f1718.lt N102.le)
        have ne_mz_mr2 := Nat.ne_of_gt (Nat.lt_of_lt_of_le f1719.lt N102.le)
        have ne_mz_mg := Nat.ne_of_gt (Nat.lt_of_lt_of_le f1723.lt N102.le)
        have ne_mz_0 := Nat.ne_of_gt (Nat.lt_of_lt_of_le o1720.lt N102.le)
        have ne_mz_b5_0 := Nat.ne_of_gt (Nat.lt_of_lt_of_le o1721.lt N102.le)
        have f_mz_102 := N102.bk
        have f1731 := (f1716.no k102)
        have f1732 := (f1717.no k102)
        have f1733 := (f1718.no k102)
        have f1734 := (f1719.no k102)
        have o1735 := (o1720.no k102)
        have o1736 := (o1721.no k102)
        have ob1737 := (ob1722.keptNo k102)
        refine ⟨⟨kk102, f1731, f1732, f1733, f1734, o1735, o1736, ob1737⟩, ?_⟩
        refine D_one 13 (by kernel_rfl) (Nx_lo0 rfl (lo_storeRow (C := [.int .i64 ((p + 1 : Nat) : Int), .int .i64 ((mm : Nat) : Int), .int .u32 2, .slice A_ez ((boxE U2 R 2).length) (c_ez), .slice A_rz ((boxR R (encR (([(1, Y)]) ++ [(([(1, Y)]).length + 1, U2)]))).length) (c_rz), .slice A_pz ((L_pz).length) (c_pz)]) f_mz_102 (by kernel_rfl) rfl rfl (by intro u hu; simp at hu; rcases hu with rfl | rfl | rfl | rfl | rfl | rfl <;> rfl) rfl) ?_)
        rintro _ w103 kf103
        obtain ⟨k103, f_mz_103⟩ := kf103
        replace f_mz_103 : Bk w103 mz ([.int .i64 ((p + 1 : Nat) : Int), .int .i64 ((mm : Nat) : Int), .int .u32 2, .slice A_ez ((boxE U2 R 2).length) (c_ez), .slice A_rz ((boxR R (encR (([(1, Y)]) ++ [(([(1, Y)]).length + 1, U2)]))).length) (c_rz), .slice A_pz ((L_pz).length) (c_pz)]) 39 := f_mz_103
        have kk103 := kk102.trans k103 (fun i hi => .inr (hi ▸ (Nat.le_trans kk101.size N102.le)))
        have f1738 := (f1731.on k103 (Ne.symm ne_mz_pb))
        have f1739 := (f1732.on k103 (Ne.symm ne_mz_mr))
        have f1740 := (f1733.on k103 (Ne.symm ne_mz_my))
        have f1741 := (f1734.on k103 (Ne.symm ne_mz_mr2))
        have o1742 := (o1735.on k103 (Ne.symm ne_mz_0))
        have o1743 := (o1736.on k103 (Ne.symm ne_mz_b5_0))
        have ob1744 := (ob1737.onN k103 ob1722 N102.le)
        refine ⟨⟨kk103, f1738, f1739, f1740, f1741, o1742, o1743, ob1744⟩, ?_⟩
        have f1745 := ((f1723.no k102).on k103 (Ne.symm ne_mz_mg))
        refine D_one 14 (by kernel_rfl) (Nx_lo0 rfl (lo_storeRow (C := [.slice A_gz ((([(1, Y)]) ++ [(([(1, Y)]).length + 1, U2)]).length) (c_gz)]) f1745 (by kernel_rfl) rfl rfl (by intro u hu; simp at hu; rcases hu with rfl <;> rfl) rfl) ?_)
        rintro _ w104 kf104
        obtain ⟨k104, f_mg_104⟩ := kf104
        replace f_mg_104 : Bk w104 mg ([.slice A_gz ((([(1, Y)]) ++ [(([(1, Y)]).length + 1, U2)]).length) (c_gz)]) 46 := f_mg_104
        have kk104 := kk103.trans k104 (fun i hi => .inr (hi ▸ (Nat.le_trans kk55.size N99.le)))
        have f1746 := (f1738.on k104 (Ne.symm ne_mg_pb))
        have f1747 := (f1739.on k104 (Ne.symm ne_mg_mr))
        have f1748 := (f1740.on k104 (Ne.symm ne_mg_my))
        have f1749 := (f1741.on k104 (Ne.symm ne_mg_mr2))
        have o1750 := (o1742.on k104 (Ne.symm ne_mg_0))
        have o1751 := (o1743.on k104 (Ne.symm ne_mg_b5_0))
        have ob1752 := (ob1744.onN k104 ob1638 N99.le)
        refine ⟨⟨kk104, f1746, f1747, f1748, f1749, o1750, o1751, ob1752⟩, ?_⟩
        refine Dt 15 rfl (fun W hS => pu_assign rfl) <| D_done (by kernel_rfl) ?_
        have f1753 := (f_mz_103.on k104 ne_mz_mg)
        have hz1754 : w54.heap.size ≤ w104.heap.size := (Nat.le_trans (Nat.le_trans (Nat.le_trans (Nat.le_trans (Nat.le_trans (Nat.le_trans k55.size k99.size) k100.size) k101.size) k102.size) k103.size) k104.size)
        have ob1755 := (((ob1724.keptNo k102).onN k103 ob1724 N102.le).onN k104 ob1639 N99.le)
        have ob1756 := (((ob1727.keptNo k102).onN k103 ob1727 N102.le).onN k104 ob1642 N99.le)
        have ob1757 := (((ob1729.keptNo k102).onN k103 ob1729 N102.le).onN k104 ob1644 N99.le)
        have ob1758 := (((Q101.keptNo k102).onN k103 Q101 N102.le).on k104 (by have := f1677.lt; omega))
        have hz1759 : w54.heap.size ≤ w100.heap.size := (Nat.le_trans (Nat.le_trans k55.size k99.size) k100.size)
        have ob1760 := (((R101.keptNo k102).onN k103 R101 N102.le).on k104 (by have := f1677.lt; omega))
        have ob1761 := (((S101.keptNo k102).onN k103 S101 N102.le).on k104 (by have := f1677.lt; omega))
        have ob1762 := (((U101.keptNo k102).onN k103 U101 N102.le).on k104 (by have := f1677.lt; omega))
        refine Xc hK_ ⟨mz, mg, A_ez, c_ez, A_rz, c_rz, A_pz, c_pz, L_pz, A_gz, c_gz, rfl, hK_pz, hl_pz, ne_mz_0, ne_mz_b5_0, ne_mz_mr, ne_mz_mr2, ne_mz_my, ne_mg_0, ne_mg_b5_0, ne_mg_mr, ne_mg_mr2, ne_mg_my, (Ne.symm ne_mz_mg), kk104, f1747, f1748, f1749, f1753, f_mg_104, ⟨ob1752, (Nat.le_trans ro_54.2 hz1754)⟩, ⟨ob1755, (Nat.le_trans ro2_54.2 hz1754)⟩, ⟨ob1756, (Nat.le_trans rn_54.2 hz1754)⟩, ⟨ob1757, (Nat.le_trans rn2_54.2 hz1754)⟩, ⟨ob1758.low hz1759, hz1754⟩, ⟨ob1760.low hz1759, hz1754⟩, ⟨((ob1761).lowb hz1759).lowd hz1759, hz1754⟩, ⟨ob1762.low hz1759, hz1754⟩, o1750, o1751⟩ (Sub.cons rfl (Sub.cons rfl (Sub.cons rfl (Sub.cons rfl (Sub.cons rfl (Sub.cons rfl (Sub.cons rfl (Sub.cons rfl (Sub.cons rfl (Sub.cons rfl (Sub.cons rfl (Sub.cons rfl (Sub.cons rfl (Sub.cons rfl (Sub.cons rfl (Sub.nil _))))))))))))))))
       ·
        have f1763 : Bk w100 mg ([.slice none (0) (0)]) 46 := (f_mg_99.no k100)
        have ob1764 := (ob1654.keptNo k100)
        have ob1765 := (ob1656.keptNo k100)
        have ob1766 := (ob1658.keptNo k100)
        have ob1767 := (ob1660.keptNo k100)
        have ob1768 := (ob1662.keptNo k100)
        have ob1769 := (ob1664.keptNo k100)
        refine Nx_lo rfl (lo_alloc (L := [.int .i64 0, .int .i64 0, .int .u32 0, .slice none (0) (0), .slice none (0) (0), .slice none (0) (0)]) (by kernel_rfl)) rfl ?_
        rintro _ w105 ⟨mz, rfl, N105⟩
        have k105 := N105.kp
        have kk105 := kk100.then_ k105
        have ne_mz_pb := Nat.ne_of_gt (Nat.lt_of_lt_of_le f1666.lt N105.le)
        have ne_mz_mr := Nat.ne_of_gt (Nat.lt_of_lt_of_le f1667.lt N105.le)
        have ne_mz_my := Nat.ne_of_gt (Nat.lt_of_lt_of_le f1668.lt N105.le)
        have ne_mz_mr2 := Nat.ne_of_gt (Nat.lt_of_lt_of_le f1669.lt N105.le)
        have ne_mz_mg := Nat.ne_of_gt (Nat.lt_of_lt_of_le f1763.lt N105.le)
        have ne_mz_0 := Nat.ne_of_gt (Nat.lt_of_lt_of_le o1670.lt N105.le)
        have ne_mz_b5_0 := Nat.ne_of_gt (Nat.lt_of_lt_of_le o1671.lt N105.le)
        have f_mz_105 := N105.bk
        have f1770 := (f1666.no k105)
        have f1771 := (f1667.no k105)
        have f1772 := (f1668.no k105)
        have f1773 := (f1669.no k105)
        have o1774 := (o1670.no k105)
        have o1775 := (o1671.no k105)
        have ob1776 := (ob1672.keptNo k105)
        refine ⟨⟨kk105, f1770, f1771, f1772, f1773, o1774, o1775, ob1776⟩, ?_⟩
        have ob1777 := (ob1765.keptNo k105)
        have ob1778 := (ob1766.keptNo k105)
        have ob1779 := (ob1768.keptNo k105)
        have ob1780 := (Q100.keptNo k105)
        have ob1781 := (ob1769.keptNo k105)
        have f1782 := (f1763.no k105)
        have ob1785 := (ob1764.keptNo k105)
        have ob1789 := (ob1767.keptNo k105)
        refine D_one 6 (by kernel_rfl) (Nx_lo rfl (lo_call (by kernel_rfl) rfl (cer_rotate p mm 2 A_ey (boxE U2 R 2) c_ey A_ry (boxR R (encR [(1, Y)])) c_ry A_py L_py c_py A_ro R c_ro A_rn2 ([(1, Y)]) c_rn2 A_dc (fullB m 400) c_dc U2 (X2 ++ Z2) _ ob1777.bs ob1777.le.2 ob1778.bs ob1778.le.2 ob1779.ss ob1776.bs ob1776.le.2 ob1781.rs (ok_one bY) ob1781.le.2 ob1780.bs ob1780.le.2 ⟨⟨⟨by omega, by omega⟩, ⟨by omega, by omega⟩, ⟨by omega, by omega⟩, part_pos hK_py hU2⟩, hR, hd2, hU2, may_one, Nat.le_of_ble_eq_true rfl⟩)) rfl ?_)
        rintro _ w106 ⟨A_ez, c_ez, A_rz, c_rz, A_pz, c_pz, L_pz, A_gz, c_gz, rfl, Q106, R106, S106, hK_pz, U106, k106⟩
        have kk106 := kk105.then_ k106
        have hl_pz : L_pz.length = (L_py).length := by have h := congrArg List.length hK_pz; rwa [List.length_map, List.length_map] at h
        have f1821 := (f1770.no k106)
        have f1822 := (f1771.no k106)
        have f1823 := (f1772.no k106)
        have f1824 := (f1773.no k106)
        have o1825 := (o1774.no k106)
        have o1826 := (o1775.no k106)
        have ob1827 := (ob1776.keptNo k106)
        refine ⟨⟨kk106, f1821, f1822, f1823, f1824, o1825, o1826, ob1827⟩, ?_⟩
        refine Dt 7 rfl (fun W hS => pu_move rfl) <| Dt 8 rfl (fun W hS => pu_extract rfl rfl) <| Dt 9 rfl (fun W hS => pu_extract rfl rfl) <| Dt 10 rfl (fun W hS => pu_extract rfl rfl) ?_
        have f1828 := (f_mz_105.no k106)
        refine D_one 13 (by kernel_rfl) (Nx_lo0 rfl (lo_storeRow (C := [.int .i64 ((p + 1 : Nat) : Int), .int .i64 ((mm : Nat) : Int), .int .u32 2, .slice A_ez ((boxE U2 R 2).length) (c_ez), .slice A_rz ((boxR R (encR (([(1, Y)]) ++ [(([(1, Y)]).length + 1, U2)]))).length) (c_rz), .slice A_pz ((L_pz).length) (c_pz)]) f1828 (by kernel_rfl) rfl rfl (by intro u hu; simp at hu; rcases hu with rfl | rfl | rfl | rfl | rfl | rfl <;> rfl) rfl) ?_)
        rintro _ w107 kf107
        obtain ⟨k107, f_mz_107⟩ := kf107
        replace f_mz_107 : Bk w107 mz ([.int .i64 ((p + 1 : Nat) : Int), .int .i64 ((mm : Nat) : Int), .int .u32 2, .slice A_ez ((boxE U2 R 2).length) (c_ez), .slice A_rz ((boxR R (encR (([(1, Y)]) ++ [(([(1, Y)]).length + 1, U2)]))).length) (c_rz), .slice A_pz ((L_pz).length) (c_pz)]) 39 := f_mz_107
        have kk107 := kk106.trans k107 (fun i hi => .inr (hi ▸ (Nat.le_trans kk100.size N105.le)))
        have f1829 := (f1821.on k107 (Ne.symm ne_mz_pb))
        have f1830 := (f1822.on k107 (Ne.symm ne_mz_mr))
        have f1831 := (f1823.on k107 (Ne.symm ne_mz_my))
        have f1832 := (f1824.on k107 (Ne.symm ne_mz_mr2))
        have o1833 := (o1825.on k107 (Ne.symm ne_mz_0))
        have o1834 := (o1826.on k107 (Ne.symm ne_mz_b5_0))
        have ob1835 := (ob1827.onN k107 ob1672 N105.le)
        refine ⟨⟨kk107, f1829, f1830, f1831, f1832, o1833, o1834, ob1835⟩, ?_⟩
        have f1836 := ((f1782.no k106).on k107 (Ne.symm ne_mz_mg))
        refine D_one 14 (by kernel_rfl) (Nx_lo0 rfl (lo_storeRow (C := [.slice A_gz ((([(1, Y)]) ++ [(([(1, Y)]).length + 1, U2)]).length) (c_gz)]) f1836 (by kernel_rfl) rfl rfl (by intro u hu; simp at hu; rcases hu with rfl <;> rfl) rfl) ?_)
        rintro _ w108 kf108
        obtain ⟨k108, f_mg_108⟩ := kf108
        replace f_mg_108 : Bk w108 mg ([.slice A_gz ((([(1, Y)]) ++ [(([(1, Y)]).length + 1, U2)]).length) (c_gz)]) 46 := f_mg_108
        have kk108 := kk107.trans k108 (fun i hi => .inr (hi ▸ (Nat.le_trans kk55.size N99.le)))
        have f1837 := (f1829.on k108 (Ne.symm ne_mg_pb))
        have f1838 := (f1830.on k108 (Ne.symm ne_mg_mr))
        have f1839 := (f1831.on k108 (Ne.symm ne_mg_my))
        have f1840 := (f1832.on k108 (Ne.symm ne_mg_mr2))
        have o1841 := (o1833.on k108 (Ne.symm ne_mg_0))
        have o1842 := (o1834.on k108 (Ne.symm ne_mg_b5_0))
        have ob1843 := (ob1835.onN k108 ob1638 N99.le)
        refine ⟨⟨kk108, f1837, f1838, f1839, f1840, o1841, o1842, ob1843⟩, ?_⟩
        refine Dt 15 rfl (fun W hS => pu_assign rfl) <| D_done (by kernel_rfl) ?_
        have f1844 := (f_mz_107.on k108 ne_mz_mg)
        have hz1845 : w54.heap.size ≤ w108.heap.size := (Nat.le_trans (Nat.le_trans (Nat.le_trans (Nat.le_trans (Nat.le_trans (Nat.le_trans k55.size k99.size) k100.size) k105.size) k106.size) k107.size) k108.size)
        have ob1846 := (((ob1785.keptNo k106).onN k107 ob1764 N105.le).onN k108 ob1639 N99.le)
        have ob1847 := (((ob1789.keptNo k106).onN k107 ob1767 N105.le).onN k108 ob1642 N99.le)
        have ob1848 := (((ob1781.keptNo k106).onN k107 ob1769 N105.le).onN k108 ob1644 N99.le)
        have ob1849 := ((Q106.on k107 (by have := f_mz_105.lt; omega)).on k108 (by have := f1782.lt; omega))
        have hz1850 : w54.heap.size ≤ w105.heap.size := (Nat.le_trans (Nat.le_trans (Nat.le_trans k55.size k99.size) k100.size) k105.size)
        have ob1851 := ((R106.on k107 (by have := f_mz_105.lt; omega)).on k108 (by have := f1782.lt; omega))
        have ob1852 := ((S106.on k107 (by have := f_mz_105.lt; omega)).on k108 (by have := f1782.lt; omega))
        have ob1853 := ((U106.on k107 (by have := f_mz_105.lt; omega)).on k108 (by have := f1782.lt; omega))
        refine Xc hK_ ⟨mz, mg, A_ez, c_ez, A_rz, c_rz, A_pz, c_pz, L_pz, A_gz, c_gz, rfl, hK_pz, hl_pz, ne_mz_0, ne_mz_b5_0, ne_mz_mr, ne_mz_mr2, ne_mz_my, ne_mg_0, ne_mg_b5_0, ne_mg_mr, ne_mg_mr2, ne_mg_my, (Ne.symm ne_mz_mg), kk108, f1838, f1839, f1840, f1844, f_mg_108, ⟨ob1843, (Nat.le_trans ro_54.2 hz1845)⟩, ⟨ob1846, (Nat.le_trans ro2_54.2 hz1845)⟩, ⟨ob1847, (Nat.le_trans rn_54.2 hz1845)⟩, ⟨ob1848, (Nat.le_trans rn2_54.2 hz1845)⟩, ⟨ob1849.low hz1850, hz1845⟩, ⟨ob1851.low hz1850, hz1845⟩, ⟨((ob1852).lowb hz1850).lowd hz1850, hz1845⟩, ⟨ob1853.low hz1850, hz1845⟩, o1841, o1842⟩ (Sub.cons rfl (Sub.cons rfl (Sub.cons rfl (Sub.cons rfl (Sub.cons rfl (Sub.cons rfl (Sub.cons rfl (Sub.cons rfl (Sub.cons rfl (Sub.cons rfl (Sub.cons rfl (Sub.cons rfl (Sub.cons rfl (Sub.cons rfl (Sub.cons rfl (Sub.nil _))))))))))))))))
      ·
       have ob1854 := (ob1639.keptNo k99)
       have ob1855 := (ob1640.keptNo k99)
       have ob1856 := (ob1641.keptNo k99)
       have ob1857 := (ob1642.keptNo k99)
       have ob1858 := (ob1643.keptNo k99)
       have ob1859 := (ob1644.keptNo k99)
       refine Nx_lo rfl (lo_alloc (L := [.int .i64 0, .int .i64 0, .int .u32 0, .slice none (0) (0), .slice none (0) (0), .slice none (0) (0)]) (by kernel_rfl)) rfl ?_
       rintro _ w109 ⟨mz, rfl, N109⟩
       have k109 := N109.kp
       have kk109 := kk99.then_ k109
       have ne_mz_pb := Nat.ne_of_gt (Nat.lt_of_lt_of_le f1645.lt N109.le)
       have ne_mz_mr := Nat.ne_of_gt (Nat.lt_of_lt_of_le f1646.lt N109.le)
       have ne_mz_my := Nat.ne_of_gt (Nat.lt_of_lt_of_le f1647.lt N109.le)
       have ne_mz_mr2 := Nat.ne_of_gt (Nat.lt_of_lt_of_le f1648.lt N109.le)
       have ne_mz_mg := Nat.ne_of_gt (Nat.lt_of_lt_of_le f_mg_99.lt N109.le)
       have ne_mz_0 := Nat.ne_of_gt (Nat.lt_of_lt_of_le o1649.lt N109.le)
       have ne_mz_b5_0 := Nat.ne_of_gt (Nat.lt_of_lt_of_le o1650.lt N109.le)
       have f_mz_109 := N109.bk
       have f1860 := (f1645.no k109)
       have f1861 := (f1646.no k109)
       have f1862 := (f1647.no k109)
       have f1863 := (f1648.no k109)
       have o1864 := (o1649.no k109)
       have o1865 := (o1650.no k109)
       have ob1866 := (ob1651.keptNo k109)
       refine ⟨⟨kk109, f1860, f1861, f1862, f1863, o1864, o1865, ob1866⟩, ?_⟩
       have f1867 := (f_mg_99.no k109)
       have ob1870 := (ob1854.keptNo k109)
       have ob1872 := (ob1855.keptNo k109)
       have ob1874 := (ob1856.keptNo k109)
       have ob1876 := (ob1857.keptNo k109)
       have ob1878 := (ob1858.keptNo k109)
       have ob1880 := (ob1859.keptNo k109)
       refine D_one 5 (by kernel_rfl) (Nx_lo rfl (lo_call (by kernel_rfl) rfl (cer_full A3 m c3 400 _ (HC.keptNo kk109) hc (by omega))) rfl ?_)
       rintro _ w110 ⟨A_dc, c_dc, rfl, Q110, k110⟩
       have kk110 := kk109.then_ k110
       have f1882 := (f1860.no k110)
       have f1883 := (f1861.no k110)
       have f1884 := (f1862.no k110)
       have f1885 := (f1863.no k110)
       have o1886 := (o1864.no k110)
       have o1887 := (o1865.no k110)
       have ob1888 := (ob1866.keptNo k110)
       refine ⟨⟨kk110, f1882, f1883, f1884, f1885, o1886, o1887, ob1888⟩, ?_⟩
       have ob1889 := (ob1872.keptNo k110)
       have ob1890 := (ob1874.keptNo k110)
       have ob1891 := (ob1878.keptNo k110)
       have ob1892 := (ob1880.keptNo k110)
       have f1893 := (f1867.no k110)
       have f1894 := (f_mz_109.no k110)
       have ob1897 := (ob1870.keptNo k110)
       have ob1901 := (ob1876.keptNo k110)
       refine D_one 6 (by kernel_rfl) (Nx_lo rfl (lo_call (by kernel_rfl) rfl (cer_rotate p mm 2 A_ey (boxE U2 R 2) c_ey A_ry (boxR R (encR [(1, Y)])) c_ry A_py L_py c_py A_ro R c_ro A_rn2 ([(1, Y)]) c_rn2 A_dc (fullB m 400) c_dc U2 (X2 ++ Z2) _ ob1889.bs ob1889.le.2 ob1890.bs ob1890.le.2 ob1891.ss ob1888.bs ob1888.le.2 ob1892.rs (ok_one bY) ob1892.le.2 Q110.bs Q110.le.2 ⟨⟨⟨by omega, by omega⟩, ⟨by omega, by omega⟩, ⟨by omega, by omega⟩, part_pos hK_py hU2⟩, hR, hd2, hU2, may_one, Nat.le_of_ble_eq_true rfl⟩)) rfl ?_)
       rintro _ w111 ⟨A_ez, c_ez, A_rz, c_rz, A_pz, c_pz, L_pz, A_gz, c_gz, rfl, Q111, R111, S111, hK_pz, U111, k111⟩
       have kk111 := kk110.then_ k111
       have hl_pz : L_pz.length = (L_py).length := by have h := congrArg List.length hK_pz; rwa [List.length_map, List.length_map] at h
       have f1933 := (f1882.no k111)
       have f1934 := (f1883.no k111)
       have f1935 := (f1884.no k111)
       have f1936 := (f1885.no k111)
       have o1937 := (o1886.no k111)
       have o1938 := (o1887.no k111)
       have ob1939 := (ob1888.keptNo k111)
       refine ⟨⟨kk111, f1933, f1934, f1935, f1936, o1937, o1938, ob1939⟩, ?_⟩
       refine Dt 7 rfl (fun W hS => pu_move rfl) <| Dt 8 rfl (fun W hS => pu_extract rfl rfl) <| Dt 9 rfl (fun W hS => pu_extract rfl rfl) <| Dt 10 rfl (fun W hS => pu_extract rfl rfl) ?_
       have f1940 := (f1894.no k111)
       refine D_one 13 (by kernel_rfl) (Nx_lo0 rfl (lo_storeRow (C := [.int .i64 ((p + 1 : Nat) : Int), .int .i64 ((mm : Nat) : Int), .int .u32 2, .slice A_ez ((boxE U2 R 2).length) (c_ez), .slice A_rz ((boxR R (encR (([(1, Y)]) ++ [(([(1, Y)]).length + 1, U2)]))).length) (c_rz), .slice A_pz ((L_pz).length) (c_pz)]) f1940 (by kernel_rfl) rfl rfl (by intro u hu; simp at hu; rcases hu with rfl | rfl | rfl | rfl | rfl | rfl <;> rfl) rfl) ?_)
       rintro _ w112 kf112
       obtain ⟨k112, f_mz_112⟩ := kf112
       replace f_mz_112 : Bk w112 mz ([.int .i64 ((p + 1 : Nat) : Int), .int .i64 ((mm : Nat) : Int), .int .u32 2, .slice A_ez ((boxE U2 R 2).length) (c_ez), .slice A_rz ((boxR R (encR (([(1, Y)]) ++ [(([(1, Y)]).length + 1, U2)]))).length) (c_rz), .slice A_pz ((L_pz).length) (c_pz)]) 39 := f_mz_112
       have kk112 := kk111.trans k112 (fun i hi => .inr (hi ▸ (Nat.le_trans kk99.size N109.le)))
       have f1941 := (f1933.on k112 (Ne.symm ne_mz_pb))
       have f1942 := (f1934.on k112 (Ne.symm ne_mz_mr))
       have f1943 := (f1935.on k112 (Ne.symm ne_mz_my))
       have f1944 := (f1936.on k112 (Ne.symm ne_mz_mr2))
       have o1945 := (o1937.on k112 (Ne.symm ne_mz_0))
       have o1946 := (o1938.on k112 (Ne.symm ne_mz_b5_0))
       have ob1947 := (ob1939.onN k112 ob1651 N109.le)
       refine ⟨⟨kk112, f1941, f1942, f1943, f1944, o1945, o1946, ob1947⟩, ?_⟩
       have f1948 := ((f1893.no k111).on k112 (Ne.symm ne_mz_mg))
       refine D_one 14 (by kernel_rfl) (Nx_lo0 rfl (lo_storeRow (C := [.slice A_gz ((([(1, Y)]) ++ [(([(1, Y)]).length + 1, U2)]).length) (c_gz)]) f1948 (by kernel_rfl) rfl rfl (by intro u hu; simp at hu; rcases hu with rfl <;> rfl) rfl) ?_)
       rintro _ w113 kf113
       obtain ⟨k113, f_mg_113⟩ := kf113
       replace f_mg_113 : Bk w113 mg ([.slice A_gz ((([(1, Y)]) ++ [(([(1, Y)]).length + 1, U2)]).length) (c_gz)]) 46 := f_mg_113
       have kk113 := kk112.trans k113 (fun i hi => .inr (hi ▸ (Nat.le_trans kk55.size N99.le)))
       have f1949 := (f1941.on k113 (Ne.symm ne_mg_pb))
       have f1950 := (f1942.on k113 (Ne.symm ne_mg_mr))
       have f1951 := (f1943.on k113 (Ne.symm ne_mg_my))
       have f1952 := (f1944.on k113 (Ne.symm ne_mg_mr2))
       have o1953 := (o1945.on k113 (Ne.symm ne_mg_0))
       have o1954 := (o1946.on k113 (Ne.symm ne_mg_b5_0))
       have ob1955 := (ob1947.onN k113 ob1638 N99.le)
       refine ⟨⟨kk113, f1949, f1950, f1951, f1952, o1953, o1954, ob1955⟩, ?_⟩
       refine Dt 15 rfl (fun W hS => pu_assign rfl) <| D_done (by kernel_rfl) ?_
       have f1956 := (f_mz_112.on k113 ne_mz_mg)
       have hz1957 : w54.heap.size ≤ w113.heap.size := (Nat.le_trans (Nat.le_trans (Nat.le_trans (Nat.le_trans (Nat.le_trans (Nat.le_trans k55.size k99.size) k109.size) k110.size) k111.size) k112.size) k113.size)
       have ob1958 := (((ob1897.keptNo k111).onN k112 ob1854 N109.le).onN k113 ob1639 N99.le)
       have ob1959 := (((ob1901.keptNo k111).onN k112 ob1857 N109.le).onN k113 ob1642 N99.le)
       have ob1960 := (((ob1892.keptNo k111).onN k112 ob1859 N109.le).onN k113 ob1644 N99.le)
       have ob1961 := ((Q111.on k112 (by have := f1894.lt; omega)).on k113 (by have := f1893.lt; omega))
       have hz1962 : w54.heap.size ≤ w110.heap.size := (Nat.le_trans (Nat.le_trans (Nat.le_trans k55.size k99.size) k109.size) k110.size)
       have ob1963 := ((R111.on k112 (by have := f1894.lt; omega)).on k113 (by have := f1893.lt; omega))
       have ob1964 := ((S111.on k112 (by have := f1894.lt; omega)).on k113 (by have := f1893.lt; omega))
       have ob1965 := ((U111.on k112 (by have := f1894.lt; omega)).on k113 (by have := f1893.lt; omega))
       refine Xc hK_ ⟨mz, mg, A_ez, c_ez, A_rz, c_rz, A_pz, c_pz, L_pz, A_gz, c_gz, rfl, hK_pz, hl_pz, ne_mz_0, ne_mz_b5_0, ne_mz_mr, ne_mz_mr2, ne_mz_my, ne_mg_0, ne_mg_b5_0, ne_mg_mr, ne_mg_mr2, ne_mg_my, (Ne.symm ne_mz_mg), kk113, f1950, f1951, f1952, f1956, f_mg_113, ⟨ob1955, (Nat.le_trans ro_54.2 hz1957)⟩, ⟨ob1958, (Nat.le_trans ro2_54.2 hz1957)⟩, ⟨ob1959, (Nat.le_trans rn_54.2 hz1957)⟩, ⟨ob1960, (Nat.le_trans rn2_54.2 hz1957)⟩, ⟨ob1961.low hz1962, hz1957⟩, ⟨ob1963.low hz1962, hz1957⟩, ⟨((ob1964).lowb hz1962).lowd hz1962, hz1957⟩, ⟨ob1965.low hz1962, hz1957⟩, o1953, o1954⟩ (Sub.cons rfl (Sub.cons rfl (Sub.cons rfl (Sub.cons rfl (Sub.cons rfl (Sub.cons rfl (Sub.cons rfl (Sub.cons rfl (Sub.cons rfl (Sub.cons rfl (Sub.cons rfl (Sub.cons rfl (Sub.cons rfl (Sub.cons rfl (Sub.cons rfl (Sub.nil _))))))))))))))))
    ·
     rintro _ w114 ⟨mz, mg, A_ez, c_ez, A_rz, c_rz, A_pz, c_pz, L_pz, A_gz, c_gz, rfl, hK_pz, hl_pz, ne_mz_0, ne_mz_b5_0, ne_mz_mr, ne_mz_mr2, ne_mz_my, ne_mg_0, ne_mg_b5_0, ne_mg_mr, ne_mg_mr2, ne_mg_my, ne_mg_mz, kk114, f_mr_114, f_my_114, f_mr2_114, f_mz_114, f_mg_114, ro_114, ro2_114, rn_114, rn2_114, ez_114, rz_114, pz_114, gz_114, G_114, T_b5_0_114⟩
     refine C_seq fun K1966 hK1966 => C_seq fun K1967 hK1967 => D_begin (fun W => Kp No w W ∧ Bk W mr ([.slice A_rn (([(1, Y)]).length) (c_rn)]) 46 ∧ Bk W my ([.int .i64 ((p + 1 : Nat) : Int), .int .i64 ((mm : Nat) : Int), .int .u32 2, .slice A_ey ((boxE U2 R 2).length) (c_ey), .slice A_ry ((boxR R (encR [(1, Y)])).length) (c_ry), .slice A_py ((L_py).length) (c_py)]) 39 ∧ Bk W mr2 ([.slice A_rn2 (([(1, Y)]).length) (c_rn2)]) 46 ∧ Bk W mz ([.int .i64 ((p + 1 : Nat) : Int), .int .i64 ((mm : Nat) : Int), .int .u32 2, .slice A_ez ((boxE U2 R 2).length) (c_ez), .slice A_rz ((boxR R (encR ([(1, Y)] ++ [([((1, Y) : Tm)].length + 1, U2)]))).length) (c_rz), .slice A_pz ((L_pz).length) (c_pz)]) 39 ∧ Bk W mg ([.slice A_gz (([(1, Y)] ++ [([((1, Y) : Tm)].length + 1, U2)]).length) (c_gz)]) 46 ∧ Gt W ∧ Tb W b5_0 ∧ Ob W w9.heap.size (.slice A_ro ((R).length) (c_ro)) (R) ∧ Ob W w27.heap.size (.slice A_ro2 ((R).length) (c_ro2)) (R) ∧ Ro tmC 33 58 W w9.heap.size (.slice A_rn (([(1, Y)]).length) (c_rn)) ([(1, Y)]) ∧ Ro tmC 33 58 W w27.heap.size (.slice A_rn2 (([(1, Y)]).length) (c_rn2)) ([(1, Y)])) 36 rfl (by kernel_rfl) ⟨kk114.drew, f_mr_114.draw, f_my_114.draw, f_mr2_114.draw, f_mz_114.draw, f_mg_114.draw, G_114.draw, T_b5_0_114.draw, ro_114.1.draw, ro2_114.1.draw, rn_114.1.draw, rn2_114.1.draw⟩ ?_
     intro w115 k115 _
     have kk115 := kk114.then_ k115
     refine Dt 0 rfl (fun W hS => pu_move rfl) <| Dt 1 rfl (fun W hS => pu_neqnn (by kernel_rfl) rfl) <| Dt 2 rfl (fun W hS => pu_move rfl) <| Dg 3 rfl (fun W hS => pu_move rfl) <| Dg 4 rfl (fun W hS => pu_neqnn (by kernel_rfl) rfl) <| Dt 5 rfl (fun W hS => pu_pickf rfl rfl) <| Dt 6 rfl (fun W hS => pu_move rfl) <| Dg 7 rfl (fun W hS => pu_move rfl) <| Dg 8 rfl (fun W hS => pu_bstr hS.2.2.2.2.2.2.2.2.2.1.bs Tryz.underlying22 Tryz.underlying5 Tryz.underlying9 rfl rfl) <| Dg 9 rfl (fun W hS => pu_move rfl) <| Dg 10 rfl (fun W hS => pu_bstr hS.2.2.2.2.2.2.2.2.1.bs Tryz.underlying22 Tryz.underlying5 Tryz.underlying9 rfl rfl) <| Dg 11 rfl (fun W hS => pu_false (pu_neqs (p := R = R) rfl rfl (bstr_inj (hS.2.2.2.2.2.2.2.2.2.1.bs).byte (hS.2.2.2.2.2.2.2.2.1.bs).byte)) (fun h => h rfl)) <| Dt 12 rfl (fun W hS => pu_pickf rfl rfl) <| Dt 13 rfl (fun W hS => pu_move rfl) <| Dg 14 rfl (fun W hS => pu_fieldAddr (off := 0) (o' := 0) (by kernel_rfl) rfl rfl) <| Dg 15 rfl (fun W hS => pu_loadK hS.2.2.2.1 (by kernel_rfl) rfl rfl) <| Dg 16 rfl (fun W hS => pu_len Tryz.underlying44 rfl) <| Dg 17 rfl (fun W hS => pu_false (pu_neq (p := (([(1, Y)]).length) = 1) rfl rfl (by omega)) (fun h => h rfl)) <| Dt 18 rfl (fun W hS => pu_pickf rfl rfl) <| Dt 19 rfl (fun W hS => pu_move rfl) <| Dg 20 rfl (fun W hS => pu_fieldAddr (off := 0) (o' := 0) (by kernel_rfl) rfl rfl) <| Dg 21 rfl (fun W hS => pu_loadK hS.2.2.2.1 (by kernel_rfl) rfl rfl) ?_
     obtain ⟨ta, e_ta⟩ : ∃ q_, ([(1, Y)])[0]? = some q_ := ⟨_, List.getElem?_eq_getElem (by first | omega | exact Nat.le_of_ble_eq_true rfl)⟩
     have ok_ta : okT ta := (ok_one bY) ta (List.mem_of_getElem? e_ta)
     refine Dg 22 rfl (fun W hS => pu_indexAddrR (m := 0) hS.2.2.2.2.2.2.2.2.2.2.2.rs Tryz.underlying44 (by kernel_rfl) rfl rfl rfl rfl e_ta) <| Dg 23 rfl (fun W hS => pu_loadRow2 hS.2.2.2.2.2.2.2.2.2.2.2.rs e_ta (by kernel_rfl) (by kernel_rfl) rfl) <| Dg 24 rfl (fun W hS => pu_fieldAddr (off := 0) (o' := 0) (by kernel_rfl) rfl rfl) <| Dg 25 rfl (fun W hS => pu_loadK hS.2.1 (by kernel_rfl) rfl rfl) ?_
     obtain ⟨tb, e_tb⟩ : ∃ q_, ([(1, Y)])[0]? = some q_ := ⟨_, List.getElem?_eq_getElem (by first | omega | exact Nat.le_of_ble_eq_true rfl)⟩
     have ok_tb : okT tb := (ok_one bY) tb (List.mem_of_getElem? e_tb)
     refine Dg 26 rfl (fun W hS => pu_indexAddrR (m := 0) hS.2.2.2.2.2.2.2.2.2.2.1.rs Tryz.underlying44 (by kernel_rfl) rfl rfl rfl rfl e_tb) <| Dg 27 rfl (fun W hS => pu_loadRow2 hS.2.2.2.2.2.2.2.2.2.2.1.rs e_tb (by kernel_rfl) (by kernel_rfl) rfl) <| Dg 28 rfl (fun W hS => pu_false (pu_neqT Tryz.underlying58 (by kernel_rfl) (by kernel_rfl) (by decide) (by decide) Tryz.underlying32 Tryz.underlying56 Tryz.underlying5 (by kernel_rfl) (by kernel_rfl) rfl rfl ok_ta.2 ok_tb.2 rfl rfl) (fun h => h (by have h := e_ta.symm.trans e_tb; cases h; exact ⟨rfl, rfl⟩))) <| Dt 29 rfl (fun W hS => pu_pickf rfl rfl) <| Dt 30 rfl (fun W hS => pu_move rfl) <| Dg 31 rfl (fun W hS => pu_fieldAddr (off := 0) (o' := 0) (by kernel_rfl) rfl rfl) <| Dg 32 rfl (fun W hS => pu_loadK hS.2.2.2.2.2.1 (by kernel_rfl) rfl rfl) <| Dg 33 rfl (fun W hS => pu_len Tryz.underlying44 rfl) <| Dg 34 rfl (fun W hS => pu_false (pu_neq (p := (([(1, Y)] ++ [([((1, Y) : Tm)].length + 1, U2)]).length) = 2) rfl rfl (by omega)) (fun h => h rfl)) <| Dt 35 rfl (fun W hS => pu_pickf rfl rfl) <| D_done (by kernel_rfl) <| X_then hK1967 <| C_false rfl <| C_skip <| X_then hK1966 <| C_seq (fun K1968 hK1968 => ?_)
     have hK_z := hK_pz.trans hK_py; have hop_z := opens_own hK_z (by omega) (by omega) hU2 hX2 bU2 bX2
     refine C_region <| Rp (pu_move rfl) ?_
     have f1969 := (f_mz_114.no k115)
     refine Rp (pu_loadRow (len := 6) f1969 (by kernel_rfl) (by kernel_rfl) rfl rfl) ?_
     have ob1970 := (ez_114.1.keptNo k115)
     have ob1971 := (rz_114.1.keptNo k115)
     have ob1972 := (pz_114.1.keptNo k115)
     have o1973 := (T_b5_0_114.no k115)
     have f1974 := (f_mr_114.no k115)
     have f1975 := (f_my_114.no k115)
     have f1976 := (f_mr2_114.no k115)
     have f1977 := (f_mg_114.no k115)
     have o1978 := (G_114.no k115)
     have ob1991 := (gz_114.1.keptNo k115)
     refine R_lo (lo_call (by kernel_rfl) rfl (cer_open b5_0 p mm 2 A_ez (boxE U2 R 2) c_ez A_rz (boxR R (encR ([(1, Y)] ++ [([((1, Y) : Tm)].length + 1, U2)]))) c_rz A_pz L_pz c_pz U2 R ([(1, Y)] ++ [([((1, Y) : Tm)].length + 1, U2)]) _ ob1970.bs ob1970.le.2 ob1971.bs ob1971.le.2 ob1972.ss ⟨hQY, ⟨by omega, ob1972.le.2, by omega⟩, (by decide), (by decide), hop_z.1, hop_z.2, rfl, hR, rfl, hM1, hok2⟩ (Aw.ofOb ob1970 (by have := T_b5_0_54.lt; omega)) (Aw.ofOb ob1971 (by have := T_b5_0_54.lt; omega)) (ob1972.aw (by have := T_b5_0_54.lt; omega)) o1973)) rfl ?_
     rintro _ w116 ⟨A_ro3, c_ro3, A_rn3, c_rn3, rfl, Q116, R116, T116, k116⟩
     have kk116 := kk115.trans k116 (fun i hi => .inr (hi ▸ (Nat.le_trans kk2.size le3)))
     refine Rp (pu_move rfl) <| Rp (pu_extract rfl rfl) <| Rp (pu_extract rfl rfl) <| Rp (pu_extract rfl rfl) ?_
     have f2002 := (f1974.on k116 ne_mr_b5_0)
     have f2003 := (f1975.on k116 ne_my_b5_0)
     have f2004 := (f1976.on k116 ne_mr2_b5_0)
     have f2005 := (f1969.on k116 ne_mz_b5_0)
     have f2006 := (f1977.on k116 ne_mg_b5_0)
     have o2007 := (o1978.on k116 (Ne.symm ne_b5_0_0))
     have ob2015 := (ob1991.on k116 (by have := T_b5_0_54.lt; omega))
     refine R_lo (lo_alloc (L := [.slice none (0) (0)]) (by kernel_rfl)) rfl ?_
     rintro _ w117 ⟨mr3, rfl, N117⟩
     have k117 := N117.kp
     have kk117 := kk116.then_ k117
     have ne_mr3_mr := Nat.ne_of_gt (Nat.lt_of_lt_of_le f2002.lt N117.le)
     have ne_mr3_my := Nat.ne_of_gt (Nat.lt_of_lt_of_le f2003.lt N117.le)
     have ne_mr3_mr2 := Nat.ne_of_gt (Nat.lt_of_lt_of_le f2004.lt N117.le)
     have ne_mr3_mz := Nat.ne_of_gt (Nat.lt_of_lt_of_le f2005.lt N117.le)
     have ne_mr3_mg := Nat.ne_of_gt (Nat.lt_of_lt_of_le f2006.lt N117.le)
     have ne_mr3_0 := Nat.ne_of_gt (Nat.lt_of_lt_of_le o2007.lt N117.le)
     have ne_mr3_b5_0 := Nat.ne_of_gt (Nat.lt_of_lt_of_le T116.lt N117.le)
     have f_mr3_117 := N117.bk
     refine Rp (pu_assign rfl) <| R_lo0 (lo_storeRow (C := [.slice A_rn3 (([(1, Y)] ++ [([((1, Y) : Tm)].length + 1, U2)]).length) (c_rn3)]) f_mr3_117 (by kernel_rfl) rfl rfl (by intro u hu; simp at hu; rcases hu with rfl <;> rfl) rfl) ?_
     rintro _ w118 kf118
     obtain ⟨k118, f_mr3_118⟩ := kf118
     replace f_mr3_118 : Bk w118 mr3 ([.slice A_rn3 (([(1, Y)] ++ [([((1, Y) : Tm)].length + 1, U2)]).length) (c_rn3)]) 46 := f_mr3_118
     have kk118 := kk117.trans k118 (fun i hi => .inr (hi ▸ (Nat.le_trans kk116.size N117.le)))
     refine Rp (pu_assign rfl) <| R_nil <| X_then hK1968 <| C_seq fun K2016 hK2016 => C_region <| Rp (pu_move rfl) ?_
     have o2017 := ((o2007.no k117).on k118 (Ne.symm ne_mr3_0))
     refine R_lo (lo_call (by kernel_rfl) rfl (num36_err ((eo : Nat) : Int) _ o2017)) rfl ?_
     rintro _ w119 ⟨rfl, k119⟩
     have kk119 := kk118.then_ k119
     refine Rp (pu_eql (p := eo = 14) rfl rfl (by omega)) ?_
     by_cases g21_3 : eo = 14
     ·
      refine Rp (pu_true (pu_move rfl) g21_3) <| R_gno rfl rfl rfl rfl <| R_gno rfl rfl rfl rfl <| R_gno rfl rfl rfl rfl <| R_gno rfl rfl rfl rfl <| R_gun rfl rfl rfl <| R_gun rfl rfl rfl <| R_gun rfl rfl rfl <| R_gno rfl rfl rfl rfl <| Rp (pu_pickt rfl rfl) <| Rp (pu_assign rfl) <| R_nil <| X_then hK2016 <| C_seq (fun K2018 hK2018 => ?_)
      have f2019 := (((f2002.no k117).on k118 (Ne.symm ne_mr3_mr)).no k119)
      have f2020 := (((f2003.no k117).on k118 (Ne.symm ne_mr3_my)).no k119)
      have f2021 := (((f2004.no k117).on k118 (Ne.symm ne_mr3_mr2)).no k119)
      have f2022 := (((f2005.no k117).on k118 (Ne.symm ne_mr3_mz)).no k119)
      have f2023 := (((f2006.no k117).on k118 (Ne.symm ne_mr3_mg)).no k119)
      have f2024 := (f_mr3_118.no k119)
      have o2025 := (o2017.no k119)
      have o2026 := (((T116.no k117).on k118 (Ne.symm ne_mr3_b5_0)).no k119)
      have ob2027 := (((R116.keptNo k117).onN k118 R116 N117.le).keptNo k119)
      have ob2028 := (((ob2015.keptNo k117).onN k118 ob2015 N117.le).keptNo k119)
      refine D_begin (fun W => Kp No w W ∧ Bk W mr ([.slice A_rn (([(1, Y)]).length) (c_rn)]) 46 ∧ Bk W my ([.int .i64 ((p + 1 : Nat) : Int), .int .i64 ((mm : Nat) : Int), .int .u32 2, .slice A_ey ((boxE U2 R 2).length) (c_ey), .slice A_ry ((boxR R (encR [(1, Y)])).length) (c_ry), .slice A_py ((L_py).length) (c_py)]) 39 ∧ Bk W mr2 ([.slice A_rn2 (([(1, Y)]).length) (c_rn2)]) 46 ∧ Bk W mz ([.int .i64 ((p + 1 : Nat) : Int), .int .i64 ((mm : Nat) : Int), .int .u32 2, .slice A_ez ((boxE U2 R 2).length) (c_ez), .slice A_rz ((boxR R (encR ([(1, Y)] ++ [([((1, Y) : Tm)].length + 1, U2)]))).length) (c_rz), .slice A_pz ((L_pz).length) (c_pz)]) 39 ∧ Bk W mg ([.slice A_gz (([(1, Y)] ++ [([((1, Y) : Tm)].length + 1, U2)]).length) (c_gz)]) 46 ∧ Bk W mr3 ([.slice A_rn3 (([(1, Y)] ++ [([((1, Y) : Tm)].length + 1, U2)]).length) (c_rn3)]) 46 ∧ Gt W ∧ Tb W b5_0 ∧ Ro tmC 33 58 W w115.heap.size (.slice A_rn3 (([(1, Y)] ++ [([((1, Y) : Tm)].length + 1, U2)]).length) (c_rn3)) ([(1, Y)] ++ [([((1, Y) : Tm)].length + 1, U2)]) ∧ Ro tmC 33 58 W w54.heap.size (.slice A_gz (([(1, Y)] ++ [([((1, Y) : Tm)].length + 1, U2)]).length) (c_gz)) ([(1, Y)] ++ [([((1, Y) : Tm)].length + 1, U2)])) 38 rfl (by kernel_rfl) ⟨kk119.drew, f2019.draw, f2020.draw, f2021.draw, f2022.draw, f2023.draw, f2024.draw, o2025.draw, o2026.draw, ob2027.draw, ob2028.draw⟩ ?_
      intro w120 k120 _
      have kk120 := kk119.then_ k120
      refine Dt 0 rfl (fun W hS => pu_move rfl) <| Dt 1 rfl (fun W hS => pu_move rfl) <| Dg 2 rfl (fun W hS => pu_move rfl) ?_
      have o2029 := (o2025.no k120)
      refine D_one 3 (by kernel_rfl) (Nx_glo rfl rfl rfl (lo_call (by kernel_rfl) rfl (num36_err 2 _ o2029)) rfl ?_)
      rintro _ w121 ⟨rfl, k121⟩
      have kk121 := kk120.then_ k121
      have f2030 := ((f2019.no k120).no k121)
      have f2031 := ((f2020.no k120).no k121)
      have f2032 := ((f2021.no k120).no k121)
      have f2033 := ((f2022.no k120).no k121)
      have f2034 := ((f2023.no k120).no k121)
      have f2035 := ((f2024.no k120).no k121)
      have o2036 := (o2029.no k121)
      have o2037 := ((o2026.no k120).no k121)
      have ob2038 := ((ob2027.keptNo k120).keptNo k121)
      have ob2039 := ((ob2028.keptNo k120).keptNo k121)
      refine ⟨⟨kk121, f2030, f2031, f2032, f2033, f2034, f2035, o2036, o2037, ob2038, ob2039⟩, ?_⟩
      refine Dg 4 rfl (fun W hS => pu_true (pu_eql (p := (2 : Nat) = 2) rfl rfl (by omega)) (by decide)) <| Dt 5 rfl (fun W hS => pu_pickt rfl rfl) <| Dt 6 rfl (fun W hS => pu_move rfl) <| Dg 7 rfl (fun W hS => pu_move rfl) <| Dg 8 rfl (fun W hS => pu_eqlnn (by kernel_rfl) rfl) <| Dt 9 rfl (fun W hS => pu_pickt rfl rfl) <| Dt 10 rfl (fun W hS => pu_move rfl) <| Dg 11 rfl (fun W hS => pu_fieldAddr (off := 0) (o' := 0) (by kernel_rfl) rfl rfl) <| Dg 12 rfl (fun W hS => pu_loadK hS.2.2.2.2.2.2.1 (by kernel_rfl) rfl rfl) <| Dg 13 rfl (fun W hS => pu_len Tryz.underlying44 rfl) <| Dg 14 rfl (fun W hS => pu_true (pu_eql (p := (([(1, Y)] ++ [([((1, Y) : Tm)].length + 1, U2)]).length) = 2) rfl rfl (by omega)) rfl) <| Dt 15 rfl (fun W hS => pu_pickt rfl rfl) <| Dt 16 rfl (fun W hS => pu_move rfl) <| Dg 17 rfl (fun W hS => pu_fieldAddr (off := 0) (o' := 0) (by kernel_rfl) rfl rfl) <| Dg 18 rfl (fun W hS => pu_loadK hS.2.2.2.2.2.2.1 (by kernel_rfl) rfl rfl) ?_
      obtain ⟨tc, e_tc⟩ : ∃ q_, ([(1, Y)] ++ [([((1, Y) : Tm)].length + 1, U2)])[1]? = some q_ := ⟨_, List.getElem?_eq_getElem (by first | omega | exact Nat.le_of_ble_eq_true rfl)⟩
      have ok_tc : okT tc := hok2 tc (List.mem_of_getElem? e_tc)
      refine Dg 19 rfl (fun W hS => pu_indexAddrR (m := 1) hS.2.2.2.2.2.2.2.2.2.1.rs Tryz.underlying44 (by kernel_rfl) rfl rfl rfl rfl e_tc) <| Dg 20 rfl (fun W hS => pu_loadRow2 hS.2.2.2.2.2.2.2.2.2.1.rs e_tc (by kernel_rfl) (by kernel_rfl) rfl) <| Dg 21 rfl (fun W hS => pu_fieldAddr (off := 0) (o' := 0) (by kernel_rfl) rfl rfl) <| Dg 22 rfl (fun W hS => pu_loadK hS.2.2.2.2.2.1 (by kernel_rfl) rfl rfl) ?_
      obtain ⟨td, e_td⟩ : ∃ q_, ([(1, Y)] ++ [([((1, Y) : Tm)].length + 1, U2)])[1]? = some q_ := ⟨_, List.getElem?_eq_getElem (by first | omega | exact Nat.le_of_ble_eq_true rfl)⟩
      have ok_td : okT td := hok2 td (List.mem_of_getElem? e_td)
      refine Dg 23 rfl (fun W hS => pu_indexAddrR (m := 1) hS.2.2.2.2.2.2.2.2.2.2.rs Tryz.underlying44 (by kernel_rfl) rfl rfl rfl rfl e_td) <| Dg 24 rfl (fun W hS => pu_loadRow2 hS.2.2.2.2.2.2.2.2.2.2.rs e_td (by kernel_rfl) (by kernel_rfl) rfl) <| Dg 25 rfl (fun W hS => pu_true (pu_eqlT Tryz.underlying58 (by kernel_rfl) (by kernel_rfl) (by decide) (by decide) Tryz.underlying32 Tryz.underlying56 Tryz.underlying5 (by kernel_rfl) (by kernel_rfl) rfl rfl ok_tc.2 ok_td.2 rfl rfl) (by have h := e_tc.symm.trans e_td; cases h; exact ⟨rfl, rfl⟩)) <| Dt 26 rfl (fun W hS => pu_pickt rfl rfl) <| Dt 27 rfl (fun W hS => pu_move rfl) <| Dg 28 rfl (fun W hS => pu_fieldAddr (off := 0) (o' := 0) (by kernel_rfl) rfl rfl) <| Dg 29 rfl (fun W hS => pu_fieldAddr (off := 0) (o' := 0) (by kernel_rfl) rfl rfl) <| Dg 30 rfl (fun W hS => pu_fieldAddr (off := 2) (o' := 2) (by kernel_rfl) rfl rfl) <| Dg 31 rfl (fun W hS => pu_loadK hS.2.2.1 (by kernel_rfl) rfl rfl) <| Dg 32 rfl (fun W hS => pu_true (pu_eql (p := (2 : Nat) = 2) rfl rfl (by omega)) (by decide)) <| Dt 33 rfl (fun W hS => pu_pickt rfl rfl) <| Dt 34 rfl (fun W hS => pu_move rfl) <| D_one 35 (by kernel_rfl) (Nx_glo rfl rfl rfl (lo_call (by kernel_rfl) rfl (sure36 _ o2036)) rfl ?_)
      rintro _ w122 ⟨rfl, k122⟩
      have kk122 := kk121.then_ k122
      have f2040 := (f2030.no k122)
      have f2041 := (f2031.no k122)
      have f2042 := (f2032.no k122)
      have f2043 := (f2033.no k122)
      have f2044 := (f2034.no k122)
      have f2045 := (f2035.no k122)
      have o2046 := (o2036.no k122)
      have o2047 := (o2037.no k122)
      have ob2048 := (ob2038.keptNo k122)
      have ob2049 := (ob2039.keptNo k122)
      refine ⟨⟨kk122, f2040, f2041, f2042, f2043, f2044, f2045, o2046, o2047, ob2048, ob2049⟩, ?_⟩
      exact Dt 36 rfl (fun W hS => pu_pickt rfl rfl) <| Dt 37 rfl (fun W hS => pu_assign rfl) <| D_done (by kernel_rfl) <| X_then hK2018 <| C_ret <| X_ret1 (.inl rfl) rfl rfl ⟨rfl, kk122⟩
     ·
      refine Rp (pu_false (pu_move rfl) g21_3) <| Rg (pu_move rfl) <| Rg (pu_move rfl) <| Rg (pu_true (pu_lss (p := nn < (p + 1)) rfl rfl (by omega)) (by rcases heo with h | ⟨h, _⟩ <;> first | exact absurd h g21_3 | (rw [hlt_tx, hl_px] at h; exact h))) <| Rg (pu_move rfl) <| Rg (pu_move rfl) ?_
      have o2050 := (o2017.no k119)
      refine R_glo rfl rfl (lo_call (by kernel_rfl) rfl (num36_err ((eo : Nat) : Int) _ o2050)) rfl ?_
      rintro _ w123 ⟨rfl, k123⟩
      have kk123 := kk119.then_ k123
      refine Rg (pu_true (pu_eql (p := eo = 2) rfl rfl (by omega)) (by rcases heo with h | ⟨_, h⟩ <;> first | exact absurd h g21_3 | exact h)) <| Rg (pu_pickt rfl rfl) <| Rp (pu_pickf rfl rfl) <| Rp (pu_assign rfl) <| R_nil <| X_then hK2016 <| C_seq (fun K2051 hK2051 => ?_)
      have f2052 := ((((f2002.no k117).on k118 (Ne.symm ne_mr3_mr)).no k119).no k123)
      have f2053 := ((((f2003.no k117).on k118 (Ne.symm ne_mr3_my)).no k119).no k123)
      have f2054 := ((((f2004.no k117).on k118 (Ne.symm ne_mr3_mr2)).no k119).no k123)
      have f2055 := ((((f2005.no k117).on k118 (Ne.symm ne_mr3_mz)).no k119).no k123)
      have f2056 := ((((f2006.no k117).on k118 (Ne.symm ne_mr3_mg)).no k119).no k123)
      have f2057 := ((f_mr3_118.no k119).no k123)
      have o2058 := (o2050.no k123)
      have o2059 := ((((T116.no k117).on k118 (Ne.symm ne_mr3_b5_0)).no k119).no k123)
      have ob2060 := ((((R116.keptNo k117).onN k118 R116 N117.le).keptNo k119).keptNo k123)
      have ob2061 := ((((ob2015.keptNo k117).onN k118 ob2015 N117.le).keptNo k119).keptNo k123)
      refine D_begin (fun W => Kp No w W ∧ Bk W mr ([.slice A_rn (([(1, Y)]).length) (c_rn)]) 46 ∧ Bk W my ([.int .i64 ((p + 1 : Nat) : Int), .int .i64 ((mm : Nat) : Int), .int .u32 2, .slice A_ey ((boxE U2 R 2).length) (c_ey), .slice A_ry ((boxR R (encR [(1, Y)])).length) (c_ry), .slice A_py ((L_py).length) (c_py)]) 39 ∧ Bk W mr2 ([.slice A_rn2 (([(1, Y)]).length) (c_rn2)]) 46 ∧ Bk W mz ([.int .i64 ((p + 1 : Nat) : Int), .int .i64 ((mm : Nat) : Int), .int .u32 2, .slice A_ez ((boxE U2 R 2).length) (c_ez), .slice A_rz ((boxR R (encR ([(1, Y)] ++ [([((1, Y) : Tm)].length + 1, U2)]))).length) (c_rz), .slice A_pz ((L_pz).length) (c_pz)]) 39 ∧ Bk W mg ([.slice A_gz (([(1, Y)] ++ [([((1, Y) : Tm)].length + 1, U2)]).length) (c_gz)]) 46 ∧ Bk W mr3 ([.slice A_rn3 (([(1, Y)] ++ [([((1, Y) : Tm)].length + 1, U2)]).length) (c_rn3)]) 46 ∧ Gt W ∧ Tb W b5_0 ∧ Ro tmC 33 58 W w115.heap.size (.slice A_rn3 (([(1, Y)] ++ [([((1, Y) : Tm)].length + 1, U2)]).length) (c_rn3)) ([(1, Y)] ++ [([((1, Y) : Tm)].length + 1, U2)]) ∧ Ro tmC 33 58 W w54.heap.size (.slice A_gz (([(1, Y)] ++ [([((1, Y) : Tm)].length + 1, U2)]).length) (c_gz)) ([(1, Y)] ++ [([((1, Y) : Tm)].length + 1, U2)])) 38 rfl (by kernel_rfl) ⟨kk123.drew, f2052.draw, f2053.draw, f2054.draw, f2055.draw, f2056.draw, f2057.draw, o2058.draw, o2059.draw, ob2060.draw, ob2061.draw⟩ ?_
      intro w124 k124 _
      have kk124 := kk123.then_ k124
      refine Dt 0 rfl (fun W hS => pu_move rfl) <| Dt 1 rfl (fun W hS => pu_move rfl) <| Dg 2 rfl (fun W hS => pu_move rfl) ?_
      have o2062 := (o2058.no k124)
      refine D_one 3 (by kernel_rfl) (Nx_glo rfl rfl rfl (lo_call (by kernel_rfl) rfl (num36_err 2 _ o2062)) rfl ?_)
      rintro _ w125 ⟨rfl, k125⟩
      have kk125 := kk124.then_ k125
      have f2063 := ((f2052.no k124).no k125)
      have f2064 := ((f2053.no k124).no k125)
      have f2065 := ((f2054.no k124).no k125)
      have f2066 := ((f2055.no k124).no k125)
      have f2067 := ((f2056.no k124).no k125)
      have f2068 := ((f2057.no k124).no k125)
      have o2069 := (o2062.no k125)
      have o2070 := ((o2059.no k124).no k125)
      have ob2071 := ((ob2060.keptNo k124).keptNo k125)
      have ob2072 := ((ob2061.keptNo k124).keptNo k125)
      refine ⟨⟨kk125, f2063, f2064, f2065, f2066, f2067, f2068, o2069, o2070, ob2071, ob2072⟩, ?_⟩
      refine Dg 4 rfl (fun W hS => pu_true (pu_eql (p := (2 : Nat) = 2) rfl rfl (by omega)) (by decide)) <| Dt 5 rfl (fun W hS => pu_pickt rfl rfl) <| Dt 6 rfl (fun W hS => pu_move rfl) <| Dg 7 rfl (fun W hS => pu_move rfl) <| Dg 8 rfl (fun W hS => pu_eqlnn (by kernel_rfl) rfl) <| Dt 9 rfl (fun W hS => pu_pickt rfl rfl) <| Dt 10 rfl (fun W hS => pu_move rfl) <| Dg 11 rfl (fun W hS => pu_fieldAddr (off := 0) (o' := 0) (by kernel_rfl) rfl rfl) <| Dg 12 rfl (fun W hS => pu_loadK hS.2.2.2.2.2.2.1 (by kernel_rfl) rfl rfl) <| Dg 13 rfl (fun W hS => pu_len Tryz.underlying44 rfl) <| Dg 14 rfl (fun W hS => pu_true (pu_eql (p := (([(1, Y)] ++ [([((1, Y) : Tm)].length + 1, U2)]).length) = 2) rfl rfl (by omega)) rfl) <| Dt 15 rfl (fun W hS => pu_pickt rfl rfl) <| Dt 16 rfl (fun W hS => pu_move rfl) <| Dg 17 rfl (fun W hS => pu_fieldAddr (off := 0) (o' := 0) (by kernel_rfl) rfl rfl) <| Dg 18 rfl (fun W hS => pu_loadK hS.2.2.2.2.2.2.1 (by kernel_rfl) rfl rfl) ?_
      obtain ⟨tc, e_tc⟩ : ∃ q_, ([(1, Y)] ++ [([((1, Y) : Tm)].length + 1, U2)])[1]? = some q_ := ⟨_, List.getElem?_eq_getElem (by first | omega | exact Nat.le_of_ble_eq_true rfl)⟩
      have ok_tc : okT tc := hok2 tc (List.mem_of_getElem? e_tc)
      refine Dg 19 rfl (fun W hS => pu_indexAddrR (m := 1) hS.2.2.2.2.2.2.2.2.2.1.rs Tryz.underlying44 (by kernel_rfl) rfl rfl rfl rfl e_tc) <| Dg 20 rfl (fun W hS => pu_loadRow2 hS.2.2.2.2.2.2.2.2.2.1.rs e_tc (by kernel_rfl) (by kernel_rfl) rfl) <| Dg 21 rfl (fun W hS => pu_fieldAddr (off := 0) (o' := 0) (by kernel_rfl) rfl rfl) <| Dg 22 rfl (fun W hS => pu_loadK hS.2.2.2.2.2.1 (by kernel_rfl) rfl rfl) ?_
      obtain ⟨td, e_td⟩ : ∃ q_, ([(1, Y)] ++ [([((1, Y) : Tm)].length + 1, U2)])[1]? = some q_ := ⟨_, List.getElem?_eq_getElem (by first | omega | exact Nat.le_of_ble_eq_true rfl)⟩
      have ok_td : okT td := hok2 td (List.mem_of_getElem? e_td)
      refine Dg 23 rfl (fun W hS => pu_indexAddrR (m := 1) hS.2.2.2.2.2.2.2.2.2.2.rs Tryz.underlying44 (by kernel_rfl) rfl rfl rfl rfl e_td) <| Dg 24 rfl (fun W hS => pu_loadRow2 hS.2.2.2.2.2.2.2.2.2.2.rs e_td (by kernel_rfl) (by kernel_rfl) rfl) <| Dg 25 rfl (fun W hS => pu_true (pu_eqlT Tryz.underlying58 (by kernel_rfl) (by kernel_rfl) (by decide) (by decide) Tryz.underlying32 Tryz.underlying56 Tryz.underlying5 (by kernel_rfl) (by kernel_rfl) rfl rfl ok_tc.2 ok_td.2 rfl rfl) (by have h := e_tc.symm.trans e_td; cases h; exact ⟨rfl, rfl⟩)) <| Dt 26 rfl (fun W hS => pu_pickt rfl rfl) <| Dt 27 rfl (fun W hS => pu_move rfl) <| Dg 28 rfl (fun W hS => pu_fieldAddr (off := 0) (o' := 0) (by kernel_rfl) rfl rfl) <| Dg 29 rfl (fun W hS => pu_fieldAddr (off := 0) (o' := 0) (by kernel_rfl) rfl rfl) <| Dg 30 rfl (fun W hS => pu_fieldAddr (off := 2) (o' := 2) (by kernel_rfl) rfl rfl) <| Dg 31 rfl (fun W hS => pu_loadK hS.2.2.1 (by kernel_rfl) rfl rfl) <| Dg 32 rfl (fun W hS => pu_true (pu_eql (p := (2 : Nat) = 2) rfl rfl (by omega)) (by decide)) <| Dt 33 rfl (fun W hS => pu_pickt rfl rfl) <| Dt 34 rfl (fun W hS => pu_move rfl) <| D_one 35 (by kernel_rfl) (Nx_glo rfl rfl rfl (lo_call (by kernel_rfl) rfl (sure36 _ o2069)) rfl ?_)
      rintro _ w126 ⟨rfl, k126⟩
      have kk126 := kk125.then_ k126
      have f2073 := (f2063.no k126)
      have f2074 := (f2064.no k126)
      have f2075 := (f2065.no k126)
      have f2076 := (f2066.no k126)
      have f2077 := (f2067.no k126)
      have f2078 := (f2068.no k126)
      have o2079 := (o2069.no k126)
      have o2080 := (o2070.no k126)
      have ob2081 := (ob2071.keptNo k126)
      have ob2082 := (ob2072.keptNo k126)
      refine ⟨⟨kk126, f2073, f2074, f2075, f2076, f2077, f2078, o2079, o2080, ob2081, ob2082⟩, ?_⟩
      exact Dt 36 rfl (fun W hS => pu_pickt rfl rfl) <| Dt 37 rfl (fun W hS => pu_assign rfl) <| D_done (by kernel_rfl) <| X_then hK2051 <| C_ret <| X_ret1 (.inl rfl) rfl rfl ⟨rfl, kk126⟩
end Go.Proofs.YtlkbkgghfhoggaaGreatDoor
