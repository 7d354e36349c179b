/- Walks of the document's Wrong and Combine of parts that go together. -/
import Derived.Test.YtjbdimfpjbmggaaDoorSj
import Derived.Test.YtjbdimfpjbmggaaDoorNm
set_option linter.unusedVariables false
set_option linter.unusedSimpArgs false
namespace Go.Proofs.YtjbdimfpjbmggaaDoor
open Go.RowKit Gm
set_option maxRecDepth 100000 in
set_option maxHeartbeats 2000000 in
theorem ref03_wrong_ok (A : Option Addr) (L : List Shr) (c q nn ge : Nat) (w : World) (HS : Ss w A L) (hm : (2 ≤ q + 1 ∧ q + 1 ≤ nn ∧ nn ≤ 255) ∧ (q + 1 ≤ L.length ∧ L.length ≤ c ∧ L.length < 9223372036854775808) ∧ ge < 4294967296 ∧ ∃ N, Good (L.take (q + 1)) ge N) : Ret Tryd.prog 48 #[.slice A (L.length) (c), .agg ([.int .i64 ((q + 1 : Nat) : Int), .int .i64 ((nn : Nat) : Int), .int .u32 ((ge : Nat) : Int)] : List Value).toArray] w (fun v w' => v = .int .i64 0 ∧ Kp No w w') := by
  obtain ⟨hP, ⟨hl1, hl2, hl3⟩, hge, N, hG⟩ := hm; have hN1 := hG.n1; have hN2 := hG.n2
  have kk0 := Kp.refl No w
  refine enter (n := 90) [.slice A (L.length) (c), .agg ([.int .i64 ((q + 1 : Nat) : Int), .int .i64 ((nn : Nat) : Int), .int .u32 ((ge : Nat) : Int)] : List Value).toArray] Tryd.func48 rfl rfl rfl ?_
  show Cw _ _ _ _ [(0, .slice A (L.length) (c)), (1, .agg ([.int .i64 ((q + 1 : Nat) : Int), .int .i64 ((nn : Nat) : Int), .int .u32 ((ge : Nat) : Int)] : List Value).toArray)] _
  refine C_seq (fun K1 hK1 => ?_)
  refine C_region ?_
  refine R_lo (lo_box (L := [.int .i64 ((q + 1 : Nat) : Int), .int .i64 ((nn : Nat) : Int), .int .u32 ((ge : Nat) : Int)]) rfl rfl) rfl ?_
  rintro _ w1 ⟨p0_0, rfl, N1⟩
  have k1 := N1.kp
  have kk1 := kk0.then_ k1
  have f_p0_0_1 : Bk w1 p0_0 ([.int .i64 ((q + 1 : Nat) : Int), .int .i64 ((nn : Nat) : Int), .int .u32 ((ge : Nat) : Int)]) 25 := N1.bk
  refine R_pu (pu_assign rfl) rfl ?_
  refine R_nil ?_
  refine X_then hK1 ?_
  refine C_seq (fun K2 hK2 => ?_)
  refine C_seq (fun K3 hK3 => ?_)
  refine C_region ?_
  refine R_pu (pu_loadRow (len := 3) f_p0_0_1 (by kernel_rfl) (by kernel_rfl) rfl rfl) rfl ?_
  refine R_lo (lo_call (by kernel_rfl) rfl (ref03_may_yes q nn ge _ hP)) rfl ?_
  rintro _ w2 ⟨rfl, k2⟩
  have kk2 := kk1.then_ k2
  refine R_pu (pu_not rfl) rfl ?_
  refine R_nil ?_
  refine X_then hK3 ?_
  refine C_false rfl ?_
  refine C_skip ?_
  refine X_then hK2 ?_
  refine C_seq (fun K4 hK4 => ?_)
  refine C_seq (fun K5 hK5 => ?_)
  refine C_region ?_
  refine R_pu (pu_move rfl) rfl ?_
  refine R_pu (pu_len Tryd.underlying36 rfl) rfl ?_
  refine R_pu (pu_fieldAddr (off := 0) (o' := 0) (by kernel_rfl) rfl rfl) rfl ?_
  have f6 : Bk w2 p0_0 ([.int .i64 ((q + 1 : Nat) : Int), .int .i64 ((nn : Nat) : Int), .int .u32 ((ge : Nat) : Int)]) 25 := (f_p0_0_1.no k2)
  refine R_pu (pu_loadK f6 (by kernel_rfl) rfl rfl) rfl ?_
  refine R_pu (pu_false (pu_lss (p := L.length < (q + 1)) rfl rfl (by omega)) (by omega)) rfl ?_
  refine R_nil ?_
  refine X_then hK5 ?_
  refine C_false rfl ?_
  refine C_skip ?_
  refine X_then hK4 ?_
  refine C_seq (fun K7 hK7 => ?_)
  refine C_seq (fun K8 hK8 => ?_)
  obtain ⟨M, hM⟩ : ∃ M, M = L.take (q + 1) := ⟨_, rfl⟩
  have hML : M.length = q + 1 := by rw [hM, List.length_take]; omega
  have HSM : Ss w A M := by rw [hM]; exact HS.take _
  rw [← hM] at hG
  have hMl : M.length ≤ L.length := by omega
  refine C_region ?_
  refine R_pu (pu_assign rfl) rfl ?_
  refine R_nil ?_
  refine X_then hK8 ?_
  refine C_block ?_
  refine C_loop (fun m_ l_ wr => ∃ i : Nat, (m_ = q + 1 - i) ∧ (l_ = [(0, .slice A (L.length) (c)), (3, .pointer (some ⟨p0_0, 0, none⟩)), (5, .int .i64 ((i : Nat) : Int))]) ∧ (i ≤ q + 1) ∧ (Kp No w wr) ∧ (Bk wr p0_0 ([.int .i64 ((q + 1 : Nat) : Int), .int .i64 ((nn : Nat) : Int), .int .u32 ((ge : Nat) : Int)]) 25)) (q + 1 - 0) [(0, .slice A (L.length) (c)), (3, .pointer (some ⟨p0_0, 0, none⟩)), (5, .int .i64 0)] (Sub.cons rfl (Sub.cons rfl (Sub.cons rfl (Sub.nil _)))) ⟨0, rfl, rfl, by omega, kk2, f6⟩ ?_
  rintro _ _ w3 ⟨i, rfl, rfl, hi, kk3, f_p0_0_3⟩
  refine C_seq (fun K9 hK9 => ?_)
  refine C_seq (fun K10 hK10 => ?_)
  refine C_region ?_
  refine R_pu (pu_move rfl) rfl ?_
  refine R_pu (pu_fieldAddr (off := 0) (o' := 0) (by kernel_rfl) rfl rfl) rfl ?_
  refine R_pu (pu_loadK f_p0_0_3 (by kernel_rfl) rfl rfl) rfl ?_
  refine R_pu (pu_lss (p := i < (q + 1)) rfl rfl (by omega)) rfl ?_
  refine R_nil ?_
  refine X_then hK10 ?_
  refine C_dec rfl (fun h19 => ?_) (fun h19 => ?_)
  · refine C_skip ?_
    refine X_then hK9 ?_
    refine C_seq (fun K11 hK11 => ?_)
    refine C_block ?_
    refine C_seq (fun K12 hK12 => ?_)
    refine D_begin (fun W => Kp No w W ∧ Bk W p0_0 ([.int .i64 ((q + 1 : Nat) : Int), .int .i64 ((nn : Nat) : Int), .int .u32 ((ge : Nat) : Int)]) 25) 8 rfl (by kernel_rfl) ⟨kk3.drew, f_p0_0_3.draw⟩ ?_
    intro w4 k4 _
    have kk4 := kk3.then_ k4
    refine D_take 0 rfl (by kernel_rfl) (by kernel_rfl) (by kernel_rfl) (fun _ _ _ h => h) rfl (fun W hS => pu_move rfl) ?_
    refine D_take 1 rfl (by kernel_rfl) (by kernel_rfl) (by kernel_rfl) (fun _ _ _ h => h) rfl (fun W hS => pu_move rfl) ?_
    obtain ⟨s1, e_s1⟩ : ∃ q_, (M)[i]? = some q_ := ⟨_, List.getElem?_eq_getElem (by first | omega | (simp; done) | (simp; omega))⟩
    have ok_s1 := HSM.get e_s1
    have okb_s1 := ok_s1.bs
    have bi_s1 : s1.ix < 256 := ok_s1.ix
    refine D_take 2 rfl (by kernel_rfl) (by kernel_rfl) (by kernel_rfl) (fun _ _ _ h => h) rfl (fun W hS => pu_indexAddrL (HSM.keptNo hS.1) Tryd.underlying36 (by kernel_rfl) rfl hMl rfl rfl e_s1) ?_
    refine D_take 3 rfl (by kernel_rfl) (by kernel_rfl) (by kernel_rfl) (fun _ _ _ h => h) rfl (fun W hS => pu_fieldAddrH (off := 1) (HSM.keptNo hS.1) e_s1 (by kernel_rfl) rfl) ?_
    refine D_take 4 rfl (by kernel_rfl) (by kernel_rfl) (by kernel_rfl) (fun _ _ _ h => h) rfl (fun W hS => pu_loadH (HSM.keptNo hS.1) e_s1 (by kernel_rfl) rfl rfl) ?_
    refine D_take 5 rfl (by kernel_rfl) (by kernel_rfl) (by kernel_rfl) (fun _ _ _ h => h) rfl (fun W hS => pu_fieldAddr (off := 2) (o' := 2) (by kernel_rfl) rfl rfl) ?_
    refine D_take 6 rfl (by kernel_rfl) (by kernel_rfl) (by kernel_rfl) (fun _ _ _ h => h) rfl (fun W hS => pu_loadK hS.2 (by kernel_rfl) rfl rfl) ?_
    refine D_take 7 rfl (by kernel_rfl) (by kernel_rfl) (by kernel_rfl) (fun _ _ _ h => h) rfl (fun W hS => pu_neq (p := s1.gen = ge) rfl rfl (by omega)) ?_
    refine D_done (by kernel_rfl) ?_
    refine X_then hK12 ?_
    refine C_decf rfl (fun h => h (hG.geni e_s1)) ?_
    refine C_skip ?_
    refine X_in_normal ?_
    refine X_then hK11 ?_
    refine C_region ?_
    refine R_pu (pu_move rfl) rfl ?_
    refine R_pu (pu_add (z := ((i + 1 : Nat) : Int)) rfl rfl (by rw [IntKind.wrap_i64]; omega)) rfl ?_
    refine R_pu (pu_assign rfl) rfl ?_
    refine R_nil ?_
    have f13 : Bk w4 p0_0 ([.int .i64 ((q + 1 : Nat) : Int), .int .i64 ((nn : Nat) : Int), .int .u32 ((ge : Nat) : Int)]) 25 := (f_p0_0_3.no k4)
    refine X_round (q + 1 - (i + 1)) [(0, .slice A (L.length) (c)), (3, .pointer (some ⟨p0_0, 0, none⟩)), (5, .int .i64 (((i + 1) : Nat) : Int))] (by omega) (Sub.cons rfl (Sub.cons rfl (Sub.cons rfl (Sub.nil _)))) ⟨i + 1, rfl, rfl, by omega, kk4, f13⟩
  · refine C_exit ?_
    refine X_then_exit (X_then_exit (X_in_eq ?_))
    refine X_then hK7 ?_
    refine C_seq (fun K14 hK14 => ?_)
    refine C_seq (fun K15 hK15 => ?_)
    refine C_region ?_
    refine R_pu (pu_assign rfl) rfl ?_
    refine R_nil ?_
    refine X_then hK15 ?_
    refine C_block ?_
    refine C_loop (fun m_ l_ wr => ∃ i : Nat, (m_ = q + 1 - i) ∧ (l_ = [(0, .slice A (L.length) (c)), (3, .pointer (some ⟨p0_0, 0, none⟩)), (6, .int .i64 ((i : Nat) : Int))]) ∧ (i ≤ q + 1) ∧ (Kp No w wr) ∧ (Bk wr p0_0 ([.int .i64 ((q + 1 : Nat) : Int), .int .i64 ((nn : Nat) : Int), .int .u32 ((ge : Nat) : Int)]) 25)) (q + 1 - 0) [(0, .slice A (L.length) (c)), (3, .pointer (some ⟨p0_0, 0, none⟩)), (6, .int .i64 0)] (Sub.cons rfl (Sub.cons rfl (Sub.cons rfl (Sub.nil _)))) ⟨0, rfl, rfl, by omega, kk3, f_p0_0_3⟩ ?_
    rintro _ _ w5 ⟨i, rfl, rfl, hi, kk5, f_p0_0_5⟩
    refine C_seq (fun K16 hK16 => ?_)
    refine C_seq (fun K17 hK17 => ?_)
    refine C_region ?_
    refine R_pu (pu_move rfl) rfl ?_
    refine R_pu (pu_fieldAddr (off := 0) (o' := 0) (by kernel_rfl) rfl rfl) rfl ?_
    refine R_pu (pu_loadK f_p0_0_5 (by kernel_rfl) rfl rfl) rfl ?_
    refine R_pu (pu_lss (p := i < (q + 1)) rfl rfl (by omega)) rfl ?_
    refine R_nil ?_
    refine X_then hK17 ?_
    refine C_dec rfl (fun h33 => ?_) (fun h33 => ?_)
    · refine C_skip ?_
      refine X_then hK16 ?_
      refine C_seq (fun K18 hK18 => ?_)
      refine C_block ?_
      refine C_seq (fun K19 hK19 => ?_)
      refine C_seq (fun K20 hK20 => ?_)
      refine D_begin (fun W => Kp No w W ∧ Bk W p0_0 ([.int .i64 ((q + 1 : Nat) : Int), .int .i64 ((nn : Nat) : Int), .int .u32 ((ge : Nat) : Int)]) 25) 38 rfl (by kernel_rfl) ⟨kk5.drew, f_p0_0_5.draw⟩ ?_
      intro w6 k6 _
      have kk6 := kk5.then_ k6
      refine D_take 0 rfl (by kernel_rfl) (by kernel_rfl) (by kernel_rfl) (fun _ _ _ h => h) rfl (fun W hS => pu_move rfl) ?_
      refine D_take 1 rfl (by kernel_rfl) (by kernel_rfl) (by kernel_rfl) (fun _ _ _ h => h) rfl (fun W hS => pu_move rfl) ?_
      obtain ⟨s2, e_s2⟩ : ∃ q_, (M)[i]? = some q_ := ⟨_, List.getElem?_eq_getElem (by first | omega | (simp; done) | (simp; omega))⟩
      have ok_s2 := HSM.get e_s2
      have okb_s2 := ok_s2.bs
      have bi_s2 : s2.ix < 256 := ok_s2.ix
      refine D_take 2 rfl (by kernel_rfl) (by kernel_rfl) (by kernel_rfl) (fun _ _ _ h => h) rfl (fun W hS => pu_indexAddrL (HSM.keptNo hS.1) Tryd.underlying36 (by kernel_rfl) rfl hMl rfl rfl e_s2) ?_
      refine D_take 3 rfl (by kernel_rfl) (by kernel_rfl) (by kernel_rfl) (fun _ _ _ h => h) rfl (fun W hS => pu_fieldAddrH (off := 0) (HSM.keptNo hS.1) e_s2 (by kernel_rfl) rfl) ?_
      refine D_take 4 rfl (by kernel_rfl) (by kernel_rfl) (by kernel_rfl) (fun _ _ _ h => h) rfl (fun W hS => pu_loadH (HSM.keptNo hS.1) e_s2 (by kernel_rfl) rfl rfl) ?_
      refine D_take 5 rfl (by kernel_rfl) (by kernel_rfl) (by kernel_rfl) (fun _ _ _ h => h) rfl (fun W hS => pu_false (pu_eql (p := s2.ix = 0) rfl rfl (by omega)) (hG.ixi e_s2)) ?_
      refine D_take 6 rfl (by kernel_rfl) (by kernel_rfl) (by kernel_rfl) (fun _ _ _ h => h) rfl (fun W hS => pu_move rfl) ?_
      refine D_gtake 7 rfl rfl rfl (by kernel_rfl) (by kernel_rfl) (by kernel_rfl) (fun _ _ _ h => h) rfl (fun W hS => pu_move rfl) ?_
      refine D_gtake 8 rfl rfl rfl (by kernel_rfl) (by kernel_rfl) (by kernel_rfl) (fun _ _ _ h => h) rfl (fun W hS => pu_move rfl) ?_
      refine D_gtake 9 rfl rfl rfl (by kernel_rfl) (by kernel_rfl) (by kernel_rfl) (fun _ _ _ h => h) rfl (fun W hS => pu_indexAddrL (HSM.keptNo hS.1) Tryd.underlying36 (by kernel_rfl) rfl hMl rfl rfl e_s2) ?_
      refine D_gtake 10 rfl rfl rfl (by kernel_rfl) (by kernel_rfl) (by kernel_rfl) (fun _ _ _ h => h) rfl (fun W hS => pu_fieldAddrH (off := 2) (HSM.keptNo hS.1) e_s2 (by kernel_rfl) rfl) ?_
      refine D_gtake 11 rfl rfl rfl (by kernel_rfl) (by kernel_rfl) (by kernel_rfl) (fun _ _ _ h => h) rfl (fun W hS => pu_loadH (HSM.keptNo hS.1) e_s2 (by kernel_rfl) rfl rfl) ?_
      refine D_gtake 12 rfl rfl rfl (by kernel_rfl) (by kernel_rfl) (by kernel_rfl) (fun _ _ _ h => h) rfl (fun W hS => pu_len Tryd.underlying22 rfl) ?_
      refine D_gtake 13 rfl rfl rfl (by kernel_rfl) (by kernel_rfl) (by kernel_rfl) (fun _ _ _ h => h) rfl (fun W hS => pu_move rfl) ?_
      obtain ⟨s0, e_s0⟩ : ∃ q_, (M)[0]? = some q_ := ⟨_, List.getElem?_eq_getElem (by first | omega | (simp; done) | (simp; omega))⟩
      have ok_s0 := HSM.get e_s0
      have okb_s0 := ok_s0.bs
      have bi_s0 : s0.ix < 256 := ok_s0.ix
      refine D_gtake 14 rfl rfl rfl (by kernel_rfl) (by kernel_rfl) (by kernel_rfl) (fun _ _ _ h => h) rfl (fun W hS => pu_indexAddrL (HSM.keptNo hS.1) Tryd.underlying36 (by kernel_rfl) rfl hMl rfl rfl e_s0) ?_
      refine D_gtake 15 rfl rfl rfl (by kernel_rfl) (by kernel_rfl) (by kernel_rfl) (fun _ _ _ h => h) rfl (fun W hS => pu_fieldAddrH (off := 2) (HSM.keptNo hS.1) e_s0 (by kernel_rfl) rfl) ?_
      refine D_gtake 16 rfl rfl rfl (by kernel_rfl) (by kernel_rfl) (by kernel_rfl) (fun _ _ _ h => h) rfl (fun W hS => pu_loadH (HSM.keptNo hS.1) e_s0 (by kernel_rfl) rfl rfl) ?_
      refine D_gtake 17 rfl rfl rfl (by kernel_rfl) (by kernel_rfl) (by kernel_rfl) (fun _ _ _ h => h) rfl (fun W hS => pu_len Tryd.underlying22 rfl) ?_
      refine D_gtake 18 rfl rfl rfl (by kernel_rfl) (by kernel_rfl) (by kernel_rfl) (fun _ _ _ h => h) rfl (fun W hS => pu_false (pu_neq (p := s2.X.length = s0.X.length) rfl rfl (by omega)) (fun h => h ((hG.leni e_s2).trans (hG.leni e_s0).symm))) ?_
      refine D_take 19 rfl (by kernel_rfl) (by kernel_rfl) (by kernel_rfl) (fun _ _ _ h => h) rfl (fun W hS => pu_pickf rfl rfl) ?_
      refine D_take 20 rfl (by kernel_rfl) (by kernel_rfl) (by kernel_rfl) (fun _ _ _ h => h) rfl (fun W hS => pu_move rfl) ?_
      refine D_gtake 21 rfl rfl rfl (by kernel_rfl) (by kernel_rfl) (by kernel_rfl) (fun _ _ _ h => h) rfl (fun W hS => pu_move rfl) ?_
      refine D_gtake 22 rfl rfl rfl (by kernel_rfl) (by kernel_rfl) (by kernel_rfl) (fun _ _ _ h => h) rfl (fun W hS => pu_move rfl) ?_
      refine D_gtake 23 rfl rfl rfl (by kernel_rfl) (by kernel_rfl) (by kernel_rfl) (fun _ _ _ h => h) rfl (fun W hS => pu_indexAddrL (HSM.keptNo hS.1) Tryd.underlying36 (by kernel_rfl) rfl hMl rfl rfl e_s2) ?_
      refine D_gtake 24 rfl rfl rfl (by kernel_rfl) (by kernel_rfl) (by kernel_rfl) (fun _ _ _ h => h) rfl (fun W hS => pu_fieldAddrH (off := 2) (HSM.keptNo hS.1) e_s2 (by kernel_rfl) rfl) ?_
      refine D_gtake 25 rfl rfl rfl (by kernel_rfl) (by kernel_rfl) (by kernel_rfl) (fun _ _ _ h => h) rfl (fun W hS => pu_loadH (HSM.keptNo hS.1) e_s2 (by kernel_rfl) rfl rfl) ?_
      refine D_gtake 26 rfl rfl rfl (by kernel_rfl) (by kernel_rfl) (by kernel_rfl) (fun _ _ _ h => h) rfl (fun W hS => pu_len Tryd.underlying22 rfl) ?_
      refine D_gtake 27 rfl rfl rfl (by kernel_rfl) (by kernel_rfl) (by kernel_rfl) (fun _ _ _ h => h) rfl (fun W hS => pu_false (pu_lss (p := s2.X.length < 1) rfl rfl (by omega)) (by have := hG.leni e_s2; omega)) ?_
      refine D_take 28 rfl (by kernel_rfl) (by kernel_rfl) (by kernel_rfl) (fun _ _ _ h => h) rfl (fun W hS => pu_pickf rfl rfl) ?_
      refine D_take 29 rfl (by kernel_rfl) (by kernel_rfl) (by kernel_rfl) (fun _ _ _ h => h) rfl (fun W hS => pu_move rfl) ?_
      refine D_gtake 30 rfl rfl rfl (by kernel_rfl) (by kernel_rfl) (by kernel_rfl) (fun _ _ _ h => h) rfl (fun W hS => pu_move rfl) ?_
      refine D_gtake 31 rfl rfl rfl (by kernel_rfl) (by kernel_rfl) (by kernel_rfl) (fun _ _ _ h => h) rfl (fun W hS => pu_move rfl) ?_
      refine D_gtake 32 rfl rfl rfl (by kernel_rfl) (by kernel_rfl) (by kernel_rfl) (fun _ _ _ h => h) rfl (fun W hS => pu_indexAddrL (HSM.keptNo hS.1) Tryd.underlying36 (by kernel_rfl) rfl hMl rfl rfl e_s2) ?_
      refine D_gtake 33 rfl rfl rfl (by kernel_rfl) (by kernel_rfl) (by kernel_rfl) (fun _ _ _ h => h) rfl (fun W hS => pu_fieldAddrH (off := 2) (HSM.keptNo hS.1) e_s2 (by kernel_rfl) rfl) ?_
      refine D_gtake 34 rfl rfl rfl (by kernel_rfl) (by kernel_rfl) (by kernel_rfl) (fun _ _ _ h => h) rfl (fun W hS => pu_loadH (HSM.keptNo hS.1) e_s2 (by kernel_rfl) rfl rfl) ?_
      refine D_gtake 35 rfl rfl rfl (by kernel_rfl) (by kernel_rfl) (by kernel_rfl) (fun _ _ _ h => h) rfl (fun W hS => pu_len Tryd.underlying22 rfl) ?_
      refine D_gtake 36 rfl rfl rfl (by kernel_rfl) (by kernel_rfl) (by kernel_rfl) (fun _ _ _ h => h) rfl (fun W hS => pu_false (pu_gtr (p := s2.X.length > 64) rfl rfl (by omega)) (by have := hG.leni e_s2; omega)) ?_
      refine D_take 37 rfl (by kernel_rfl) (by kernel_rfl) (by kernel_rfl) (fun _ _ _ h => h) rfl (fun W hS => pu_pickf rfl rfl) ?_
      refine D_done (by kernel_rfl) ?_
      refine X_then hK20 ?_
      refine C_false rfl ?_
      refine C_skip ?_
      refine X_then hK19 ?_
      refine C_seq (fun K21 hK21 => ?_)
      refine C_region ?_
      refine R_pu (pu_assign rfl) rfl ?_
      refine R_nil ?_
      refine X_then hK21 ?_
      refine C_block ?_
      have f22 : Bk w6 p0_0 ([.int .i64 ((q + 1 : Nat) : Int), .int .i64 ((nn : Nat) : Int), .int .u32 ((ge : Nat) : Int)]) 25 := (f_p0_0_5.no k6)
      refine C_loop (fun m_ l_ wr => ∃ k : Nat, (m_ = i - k) ∧ (l_ = [(0, .slice A (L.length) (c)), (3, .pointer (some ⟨p0_0, 0, none⟩)), (6, .int .i64 ((i : Nat) : Int)), (7, .int .i64 ((k : Nat) : Int))]) ∧ (k ≤ i) ∧ (Kp No w wr) ∧ (Bk wr p0_0 ([.int .i64 ((q + 1 : Nat) : Int), .int .i64 ((nn : Nat) : Int), .int .u32 ((ge : Nat) : Int)]) 25)) (i - 0) [(0, .slice A (L.length) (c)), (3, .pointer (some ⟨p0_0, 0, none⟩)), (6, .int .i64 ((i : Nat) : Int)), (7, .int .i64 0)] (Sub.cons rfl (Sub.cons rfl (Sub.cons rfl (Sub.cons rfl (Sub.nil _))))) ⟨0, rfl, rfl, by omega, kk6, f22⟩ ?_
      rintro _ _ w7 ⟨k, rfl, rfl, hk, kk7, f_p0_0_7⟩
      refine C_seq (fun K23 hK23 => ?_)
      refine C_seq (fun K24 hK24 => ?_)
      refine C_region ?_
      refine R_pu (pu_move rfl) rfl ?_
      refine R_pu (pu_move rfl) rfl ?_
      refine R_pu (pu_lss (p := k < i) rfl rfl (by omega)) rfl ?_
      refine R_nil ?_
      refine X_then hK24 ?_
      refine C_dec rfl (fun h76 => ?_) (fun h76 => ?_)
      · refine C_skip ?_
        refine X_then hK23 ?_
        refine C_seq (fun K25 hK25 => ?_)
        refine C_block ?_
        refine C_seq (fun K26 hK26 => ?_)
        refine D_begin (fun W => Kp No w W ∧ Bk W p0_0 ([.int .i64 ((q + 1 : Nat) : Int), .int .i64 ((nn : Nat) : Int), .int .u32 ((ge : Nat) : Int)]) 25) 11 rfl (by kernel_rfl) ⟨kk7.drew, f_p0_0_7.draw⟩ ?_
        intro w8 k8 _
        have kk8 := kk7.then_ k8
        refine D_take 0 rfl (by kernel_rfl) (by kernel_rfl) (by kernel_rfl) (fun _ _ _ h => h) rfl (fun W hS => pu_move rfl) ?_
        refine D_take 1 rfl (by kernel_rfl) (by kernel_rfl) (by kernel_rfl) (fun _ _ _ h => h) rfl (fun W hS => pu_move rfl) ?_
        obtain ⟨s3, e_s3⟩ : ∃ q_, (M)[k]? = some q_ := ⟨_, List.getElem?_eq_getElem (by first | omega | (simp; done) | (simp; omega))⟩
        have ok_s3 := HSM.get e_s3
        have okb_s3 := ok_s3.bs
        have bi_s3 : s3.ix < 256 := ok_s3.ix
        refine D_take 2 rfl (by kernel_rfl) (by kernel_rfl) (by kernel_rfl) (fun _ _ _ h => h) rfl (fun W hS => pu_indexAddrL (HSM.keptNo hS.1) Tryd.underlying36 (by kernel_rfl) rfl hMl rfl rfl e_s3) ?_
        refine D_take 3 rfl (by kernel_rfl) (by kernel_rfl) (by kernel_rfl) (fun _ _ _ h => h) rfl (fun W hS => pu_fieldAddrH (off := 0) (HSM.keptNo hS.1) e_s3 (by kernel_rfl) rfl) ?_
        refine D_take 4 rfl (by kernel_rfl) (by kernel_rfl) (by kernel_rfl) (fun _ _ _ h => h) rfl (fun W hS => pu_loadH (HSM.keptNo hS.1) e_s3 (by kernel_rfl) rfl rfl) ?_
        refine D_take 5 rfl (by kernel_rfl) (by kernel_rfl) (by kernel_rfl) (fun _ _ _ h => h) rfl (fun W hS => pu_move rfl) ?_
        refine D_take 6 rfl (by kernel_rfl) (by kernel_rfl) (by kernel_rfl) (fun _ _ _ h => h) rfl (fun W hS => pu_move rfl) ?_
        obtain ⟨s4, e_s4⟩ : ∃ q_, (M)[i]? = some q_ := ⟨_, List.getElem?_eq_getElem (by first | omega | (simp; done) | (simp; omega))⟩
        have ok_s4 := HSM.get e_s4
        have okb_s4 := ok_s4.bs
        have bi_s4 : s4.ix < 256 := ok_s4.ix
        refine D_take 7 rfl (by kernel_rfl) (by kernel_rfl) (by kernel_rfl) (fun _ _ _ h => h) rfl (fun W hS => pu_indexAddrL (HSM.keptNo hS.1) Tryd.underlying36 (by kernel_rfl) rfl hMl rfl rfl e_s4) ?_
        refine D_take 8 rfl (by kernel_rfl) (by kernel_rfl) (by kernel_rfl) (fun _ _ _ h => h) rfl (fun W hS => pu_fieldAddrH (off := 0) (HSM.keptNo hS.1) e_s4 (by kernel_rfl) rfl) ?_
        refine D_take 9 rfl (by kernel_rfl) (by kernel_rfl) (by kernel_rfl) (fun _ _ _ h => h) rfl (fun W hS => pu_loadH (HSM.keptNo hS.1) e_s4 (by kernel_rfl) rfl rfl) ?_
        refine D_take 10 rfl (by kernel_rfl) (by kernel_rfl) (by kernel_rfl) (fun _ _ _ h => h) rfl (fun W hS => pu_eql (p := s3.ix = s4.ix) rfl rfl (by omega)) ?_
        refine D_done (by kernel_rfl) ?_
        refine X_then hK26 ?_
        refine C_decf rfl (fun h => hG.di k i (by omega) (by rw [ixs_length]; omega) (by rw [getD_some (ixs_get e_s3), getD_some (ixs_get e_s4)]; exact h)) ?_
        refine C_skip ?_
        refine X_in_normal ?_
        refine X_then hK25 ?_
        refine C_region ?_
        refine R_pu (pu_move rfl) rfl ?_
        refine R_pu (pu_add (z := ((k + 1 : Nat) : Int)) rfl rfl (by rw [IntKind.wrap_i64]; omega)) rfl ?_
        refine R_pu (pu_assign rfl) rfl ?_
        refine R_nil ?_
        have f27 : Bk w8 p0_0 ([.int .i64 ((q + 1 : Nat) : Int), .int .i64 ((nn : Nat) : Int), .int .u32 ((ge : Nat) : Int)]) 25 := (f_p0_0_7.no k8)
        refine X_round (i - (k + 1)) [(0, .slice A (L.length) (c)), (3, .pointer (some ⟨p0_0, 0, none⟩)), (6, .int .i64 ((i : Nat) : Int)), (7, .int .i64 (((k + 1) : Nat) : Int))] (by omega) (Sub.cons rfl (Sub.cons rfl (Sub.cons rfl (Sub.cons rfl (Sub.nil _))))) ⟨k + 1, rfl, rfl, by omega, kk8, f27⟩
      · refine C_exit ?_
        refine X_then_exit (X_then_exit (X_in_eq ?_))
        refine X_in_normal ?_
        refine X_then hK18 ?_
        refine C_region ?_
        refine R_pu (pu_move rfl) rfl ?_
        refine R_pu (pu_add (z := ((i + 1 : Nat) : Int)) rfl rfl (by rw [IntKind.wrap_i64]; omega)) rfl ?_
        refine R_pu (pu_assign rfl) rfl ?_
        refine R_nil ?_
        refine X_round (q + 1 - (i + 1)) [(0, .slice A (L.length) (c)), (3, .pointer (some ⟨p0_0, 0, none⟩)), (6, .int .i64 (((i + 1) : Nat) : Int))] (by omega) (Sub.cons rfl (Sub.cons rfl (Sub.cons rfl (Sub.nil _)))) ⟨i + 1, rfl, rfl, by omega, kk7, f_p0_0_7⟩
    · refine C_exit ?_
      refine X_then_exit (X_then_exit (X_in_eq ?_))
      refine X_then hK14 ?_
      refine C_seq (fun K28 hK28 => ?_)
      refine C_region ?_
      refine R_pu (pu_assign rfl) rfl ?_
      refine R_nil ?_
      refine X_then hK28 ?_
      refine C_ret ?_
      exact X_ret1 (.inl rfl) rfl rfl ⟨rfl, kk5⟩
set_option maxRecDepth 100000 in
set_option maxHeartbeats 2000000 in
theorem ref03_combine (A : Option Addr) (L : List Shr) (c q nn ge : Nat) (x N : Nat) (w : World) (HS : Ss w A L) (hm : (2 ≤ q + 1 ∧ q + 1 ≤ nn ∧ nn ≤ 255) ∧ (q + 1 ≤ L.length ∧ L.length ≤ c ∧ L.length < 9223372036854775808) ∧ ge < 4294967296 ∧ Good (L.take (q + 1)) ge N) (hx : x < 256) : Ret Tryd.prog 26 #[.slice A (L.length) (c), .agg ([.int .i64 ((q + 1 : Nat) : Int), .int .i64 ((nn : Nat) : Int), .int .u32 ((ge : Nat) : Int)] : List Value).toArray, .int .u8 ((x : Nat) : Int)] w (fun v w' => ∃ A c, v = .tuple #[.slice A (thX (L.take (q + 1)) N x).length c, .int .i64 0] ∧ Ob w' w.heap.size (.slice A (thX (L.take (q + 1)) N x).length c) (thX (L.take (q + 1)) N x) ∧ Kp No w w') := by
  obtain ⟨hP, ⟨hl1, hl2, hl3⟩, hge, hG⟩ := hm; have hN1 := hG.n1; have hN2 := hG.n2
  have kk0 := Kp.refl No w
  refine enter (n := 79) [.slice A (L.length) (c), .agg ([.int .i64 ((q + 1 : Nat) : Int), .int .i64 ((nn : Nat) : Int), .int .u32 ((ge : Nat) : Int)] : List Value).toArray, .int .u8 ((x : Nat) : Int)] Tryd.func26 rfl rfl rfl ?_
  show Cw _ _ _ _ [(0, .slice A (L.length) (c)), (1, .agg ([.int .i64 ((q + 1 : Nat) : Int), .int .i64 ((nn : Nat) : Int), .int .u32 ((ge : Nat) : Int)] : List Value).toArray), (2, .int .u8 ((x : Nat) : Int))] _
  refine C_seq (fun K1 hK1 => ?_)
  refine C_region ?_
  refine R_lo (lo_box (L := [.int .i64 ((q + 1 : Nat) : Int), .int .i64 ((nn : Nat) : Int), .int .u32 ((ge : Nat) : Int)]) rfl rfl) rfl ?_
  rintro _ w1 ⟨p0_0, rfl, N1⟩
  have k1 := N1.kp
  have kk1 := kk0.then_ k1
  have f_p0_0_1 : Bk w1 p0_0 ([.int .i64 ((q + 1 : Nat) : Int), .int .i64 ((nn : Nat) : Int), .int .u32 ((ge : Nat) : Int)]) 25 := N1.bk
  refine R_pu (pu_assign rfl) rfl ?_
  refine R_pu (pu_assign rfl) rfl ?_
  refine R_nil ?_
  refine X_then hK1 ?_
  refine C_seq (fun K2 hK2 => ?_)
  refine C_region ?_
  refine R_pu (pu_move rfl) rfl ?_
  refine R_pu (pu_loadRow (len := 3) f_p0_0_1 (by kernel_rfl) (by kernel_rfl) rfl rfl) rfl ?_
  refine R_lo (lo_call (by kernel_rfl) rfl (ref03_wrong_ok A L c q nn ge _ (HS.keptNo kk1) ⟨hP, ⟨hl1, hl2, hl3⟩, hge, N, hG⟩)) rfl ?_
  rintro _ w2 ⟨rfl, k2⟩
  have kk2 := kk1.then_ k2
  refine R_pu (pu_assign rfl) rfl ?_
  refine R_nil ?_
  refine X_then hK2 ?_
  refine C_seq (fun K3 hK3 => ?_)
  refine C_seq (fun K4 hK4 => ?_)
  refine C_region ?_
  refine R_pu (pu_move rfl) rfl ?_
  refine R_pu (pu_false (pu_neq (p := (0 : Nat) = 0) rfl rfl (by omega)) (by decide)) rfl ?_
  refine R_nil ?_
  refine X_then hK4 ?_
  refine C_false rfl ?_
  refine C_skip ?_
  refine X_then hK3 ?_
  refine C_seq (fun K5 hK5 => ?_)
  obtain ⟨M, hM⟩ : ∃ M, M = L.take (q + 1) := ⟨_, rfl⟩
  have hML : M.length = q + 1 := by rw [hM, List.length_take]; omega
  have HSM : Ss w A M := by rw [hM]; exact HS.take _
  rw [← hM] at hG
  have hMl : M.length ≤ L.length := by omega
  refine C_region ?_
  refine R_pu (pu_assign rfl) rfl ?_
  refine R_nil ?_
  refine X_then hK5 ?_
  refine C_seq (fun K6 hK6 => ?_)
  refine C_seq (fun K7 hK7 => ?_)
  refine C_region ?_
  refine R_pu (pu_assign rfl) rfl ?_
  refine R_nil ?_
  refine X_then hK7 ?_
  refine C_block ?_
  have f8 : Bk w2 p0_0 ([.int .i64 ((q + 1 : Nat) : Int), .int .i64 ((nn : Nat) : Int), .int .u32 ((ge : Nat) : Int)]) 25 := (f_p0_0_1.no k2)
  have ob9 := Ob.nil w2 w2.heap.size
  have z10 := Nat.le_refl w2.heap.size
  refine C_loop (fun m_ l_ wr => ∃ i : Nat, ∃ An : Option Addr, ∃ cn : Nat, (m_ = q + 1 - i) ∧ (l_ = [(0, .slice A (L.length) (c)), (2, .int .u8 ((x : Nat) : Int)), (4, .pointer (some ⟨p0_0, 0, none⟩)), (6, .slice none (0) (0)), (7, .int .i64 0), (9, .slice An (((ixs M).take i).length) (cn)), (10, .int .i64 ((i : Nat) : Int))]) ∧ (i ≤ q + 1) ∧ (Kp No w wr) ∧ (Bk wr p0_0 ([.int .i64 ((q + 1 : Nat) : Int), .int .i64 ((nn : Nat) : Int), .int .u32 ((ge : Nat) : Int)]) 25) ∧ (Ob wr w2.heap.size (.slice An ((ixs M).take i).length cn) ((ixs M).take i) ∧ w2.heap.size ≤ (wr).heap.size)) (q + 1 - 0) [(0, .slice A (L.length) (c)), (2, .int .u8 ((x : Nat) : Int)), (4, .pointer (some ⟨p0_0, 0, none⟩)), (6, .slice none (0) (0)), (7, .int .i64 0), (9, .slice none (((ixs M).take 0).length) (0)), (10, .int .i64 0)] (Sub.cons rfl (Sub.cons rfl (Sub.cons rfl (Sub.cons rfl (Sub.cons rfl (Sub.cons rfl (Sub.cons rfl (Sub.nil _)))))))) ⟨0, none, 0, rfl, rfl, by omega, kk2, f8, ⟨by exact ob9, z10⟩⟩ ?_
  rintro _ _ w3 ⟨i, An, cn, rfl, rfl, hi, kk3, f_p0_0_3, xs_3⟩
  refine C_seq (fun K11 hK11 => ?_)
  refine C_seq (fun K12 hK12 => ?_)
  refine C_region ?_
  refine R_pu (pu_move rfl) rfl ?_
  refine R_pu (pu_fieldAddr (off := 0) (o' := 0) (by kernel_rfl) rfl rfl) rfl ?_
  refine R_pu (pu_loadK f_p0_0_3 (by kernel_rfl) rfl rfl) rfl ?_
  refine R_pu (pu_lss (p := i < (q + 1)) rfl rfl (by omega)) rfl ?_
  refine R_nil ?_
  refine X_then hK12 ?_
  refine C_dec rfl (fun h26 => ?_) (fun h26 => ?_)
  · refine C_skip ?_
    refine X_then hK11 ?_
    refine C_seq (fun K13 hK13 => ?_)
    refine C_block ?_
    refine C_region ?_
    refine R_pu (pu_move rfl) rfl ?_
    refine R_pu (pu_move rfl) rfl ?_
    refine R_pu (pu_move rfl) rfl ?_
    obtain ⟨s1, e_s1⟩ : ∃ q_, (M)[i]? = some q_ := ⟨_, List.getElem?_eq_getElem (by first | omega | (simp; done) | (simp; omega))⟩
    have ok_s1 := HSM.get e_s1
    have okb_s1 := ok_s1.bs
    have bi_s1 : s1.ix < 256 := ok_s1.ix
    refine R_pu (pu_indexAddrL (HSM.keptNo kk3) Tryd.underlying36 (by kernel_rfl) rfl hMl rfl rfl e_s1) rfl ?_
    refine R_pu (pu_fieldAddrH (off := 0) (HSM.keptNo kk3) e_s1 (by kernel_rfl) rfl) rfl ?_
    refine R_pu (pu_loadH (HSM.keptNo kk3) e_s1 (by kernel_rfl) rfl rfl) rfl ?_
    refine R_lo (lo_buildSlice (L := u8s ([s1.ix])) Tryd.underlying22 rfl (by kernel_rfl)) rfl ?_
    rintro _ w4 ⟨p8_6, rfl, N4⟩
    have k4 := N4.kp
    have kk4 := kk3.then_ k4
    have ne_p8_6_p0_0 : p8_6 ≠ p0_0 := Nat.ne_of_gt (Nat.lt_of_lt_of_le f_p0_0_3.lt N4.le)
    have f_p8_6_4 : Bk w4 p8_6 (u8s ([s1.ix])) 5 := N4.bk
    have ob14 := (xs_3.1.keptNo k4)
    refine R_lo (lo_app (X := (ixs M).take i) (Y := [s1.ix]) ob14 ob14.le.1 rfl rfl (show By 1 [s1.ix] from ⟨rfl, fun n hn => by rw [List.mem_singleton.1 hn]; exact ok_s1.ix⟩).1 (Bs.ofBk f_p8_6_4 (show By 1 [s1.ix] from ⟨rfl, fun n hn => by rw [List.mem_singleton.1 hn]; exact ok_s1.ix⟩)) (by rw [List.length_take, ixs_length]; simp; omega) (Nat.le_trans xs_3.2 k4.size)) rfl ?_
    rintro _ w5 ⟨A_5, c_5, rfl, p5⟩
    have k5 := p5.kp
    have kk5 := kk4.trans k5 (fun i hi => .inr (Nat.le_trans (kk2).size hi))
    refine R_pu (pu_assign rfl) rfl ?_
    refine R_nil ?_
    refine X_in_normal ?_
    refine X_then hK13 ?_
    refine C_region ?_
    refine R_pu (pu_move rfl) rfl ?_
    refine R_pu (pu_add (z := ((i + 1 : Nat) : Int)) rfl rfl (by rw [IntKind.wrap_i64]; omega)) rfl ?_
    refine R_pu (pu_assign rfl) rfl ?_
    refine R_nil ?_
    have f15 : Bk w5 p0_0 ([.int .i64 ((q + 1 : Nat) : Int), .int .i64 ((nn : Nat) : Int), .int .u32 ((ge : Nat) : Int)]) 25 := ((f_p0_0_3.no k4).kept k5 (by have := f8.lt; omega))
    refine X_round (q + 1 - (i + 1)) [(0, .slice A (L.length) (c)), (2, .int .u8 ((x : Nat) : Int)), (4, .pointer (some ⟨p0_0, 0, none⟩)), (6, .slice none (0) (0)), (7, .int .i64 0), (9, .slice A_5 (((ixs M).take (i + 1)).length) (c_5)), (10, .int .i64 (((i + 1) : Nat) : Int))] (by omega) (Sub.cons rfl (Sub.cons rfl (Sub.cons rfl (Sub.cons rfl (Sub.cons rfl (Sub.consE rfl (by rw [take_snoc (ixs_get e_s1)]) (Sub.cons rfl (Sub.nil _)))))))) ⟨i + 1, A_5, c_5, rfl, rfl, by omega, kk5, f15, ⟨by rw [← take_snoc (ixs_get e_s1)]; exact p5.ob, (Nat.le_trans (Nat.le_trans xs_3.2 k4.size) k5.size)⟩⟩
  · refine C_exit ?_
    refine X_then_exit (X_then_exit (X_in_eq ?_))
    refine X_then hK6 ?_
    refine C_seq (fun K16 hK16 => ?_)
    have hX : (ixs M).take i = ixs M := List.take_of_length_le (by rw [ixs_length]; omega)
    have obx : Ob w3 w2.heap.size (.slice An ((ixs M).take i).length cn) (ixs M) := by have h := xs_3.1; rw [hX] at h ⊢; exact h
    refine C_region ?_
    refine R_pu (pu_move rfl) rfl ?_
    refine R_pu (pu_move rfl) rfl ?_
    refine R_lo (lo_callE (by kernel_rfl) rfl (by rw [obx.le.1] <;> rfl) (ref_weights An (ixs M) cn x hx _ obx.bs obx.le.2 (by have hm_ := ((hG.may (by omega) (by omega))).2; omega) (hG.may (by omega) (by omega)))) rfl ?_
    rintro _ w6 ⟨A_wl, c_wl, rfl, Q6, k6⟩
    have kk6 := kk3.then_ k6
    have z17 : w3.heap.size ≤ w6.heap.size := k6.size
    refine R_pu (pu_move rfl) rfl ?_
    refine R_pu (pu_extract rfl rfl) rfl ?_
    refine R_pu (pu_extract rfl rfl) rfl ?_
    refine R_pu (pu_assign rfl) rfl ?_
    refine R_pu (pu_assign rfl) rfl ?_
    refine R_nil ?_
    refine X_then hK16 ?_
    refine C_seq (fun K18 hK18 => ?_)
    refine C_region ?_
    refine R_pu (pu_assign rfl) rfl ?_
    refine R_nil ?_
    refine X_then hK18 ?_
    refine C_seq (fun K19 hK19 => ?_)
    refine C_seq (fun K20 hK20 => ?_)
    refine C_region ?_
    refine R_pu (pu_assign rfl) rfl ?_
    refine R_nil ?_
    refine X_then hK20 ?_
    refine C_block ?_
    have f21 : Bk w6 p0_0 ([.int .i64 ((q + 1 : Nat) : Int), .int .i64 ((nn : Nat) : Int), .int .u32 ((ge : Nat) : Int)]) 25 := (f_p0_0_3.no k6)
    have ob22 := Ob.nil w6 w6.heap.size
    have z23 := Nat.le_refl w6.heap.size
    have ob25 := (obx.keptNo k6)
    have lm24 := ob25.top
    have lm26 := Q6.top
    refine C_loop (fun m_ l_ wr => ∃ j : Nat, ∃ Ao : Option Addr, ∃ co : Nat, (m_ = N - j) ∧ (l_ = [(0, .slice A (L.length) (c)), (4, .pointer (some ⟨p0_0, 0, none⟩)), (6, .slice none (0) (0)), (7, .int .i64 0), (11, .slice A_wl ((wtL (ixs M) x).length) (c_wl)), (13, .slice Ao ((thT M x j).length) (co)), (14, .int .i64 ((j : Nat) : Int))]) ∧ (j ≤ N) ∧ (Kp No w wr) ∧ (Bk wr p0_0 ([.int .i64 ((q + 1 : Nat) : Int), .int .i64 ((nn : Nat) : Int), .int .u32 ((ge : Nat) : Int)]) 25) ∧ (Ob wr w3.heap.size (.slice A_wl ((wtL (ixs M) x).length) (c_wl)) (wtL (ixs M) x) ∧ w3.heap.size ≤ (wr).heap.size) ∧ (Ob wr w6.heap.size (.slice Ao (thT M x j).length co) (thT M x j) ∧ w6.heap.size ≤ (wr).heap.size)) (N - 0) [(0, .slice A (L.length) (c)), (4, .pointer (some ⟨p0_0, 0, none⟩)), (6, .slice none (0) (0)), (7, .int .i64 0), (11, .slice A_wl ((wtL (ixs M) x).length) (c_wl)), (13, .slice none ((thT M x 0).length) (0)), (14, .int .i64 0)] (Sub.cons rfl (Sub.cons rfl (Sub.cons rfl (Sub.cons rfl (Sub.cons rfl (Sub.cons rfl (Sub.cons rfl (Sub.nil _)))))))) ⟨0, none, 0, rfl, rfl, by omega, kk6, f21, ⟨Q6, z17⟩, ⟨by exact ob22, z23⟩⟩ ?_
    rintro _ _ w7 ⟨j, Ao, co, rfl, rfl, hj, kk7, f_p0_0_7, wl_7, n_7⟩
    refine C_seq (fun K27 hK27 => ?_)
    refine C_seq (fun K28 hK28 => ?_)
    refine C_region ?_
    refine R_pu (pu_move rfl) rfl ?_
    refine R_pu (pu_move rfl) rfl ?_
    obtain ⟨s0, e_s0⟩ : ∃ q_, (M)[0]? = some q_ := ⟨_, List.getElem?_eq_getElem (by first | omega | (simp; done) | (simp; omega))⟩
    have ok_s0 := HSM.get e_s0
    have okb_s0 := ok_s0.bs
    have bi_s0 : s0.ix < 256 := ok_s0.ix
    refine R_pu (pu_indexAddrL (HSM.keptNo kk7) Tryd.underlying36 (by kernel_rfl) rfl hMl rfl rfl e_s0) rfl ?_
    refine R_pu (pu_fieldAddrH (off := 2) (HSM.keptNo kk7) e_s0 (by kernel_rfl) rfl) rfl ?_
    refine R_pu (pu_loadH (HSM.keptNo kk7) e_s0 (by kernel_rfl) rfl rfl) rfl ?_
    refine R_pu (pu_len Tryd.underlying22 rfl) rfl ?_
    have l0 := hG.leni e_s0
    refine R_pu (pu_lss (p := j < s0.X.length) rfl rfl (by omega)) rfl ?_
    refine R_nil ?_
    refine X_then hK28 ?_
    refine C_dec rfl (fun h49 => ?_) (fun h49 => ?_)
    · refine C_skip ?_
      refine X_then hK27 ?_
      refine C_seq (fun K29 hK29 => ?_)
      refine C_block ?_
      refine C_seq (fun K30 hK30 => ?_)
      refine C_region ?_
      refine R_pu (pu_assign rfl) rfl ?_
      refine R_nil ?_
      refine X_then hK30 ?_
      refine C_seq (fun K31 hK31 => ?_)
      refine C_seq (fun K32 hK32 => ?_)
      refine C_region ?_
      refine R_pu (pu_assign rfl) rfl ?_
      refine R_nil ?_
      refine X_then hK32 ?_
      refine C_block ?_
      refine C_loop (fun m_ l_ wr => ∃ k : Nat, (m_ = q + 1 - k) ∧ (l_ = [(0, .slice A (L.length) (c)), (4, .pointer (some ⟨p0_0, 0, none⟩)), (6, .slice none (0) (0)), (7, .int .i64 0), (11, .slice A_wl ((wtL (ixs M) x).length) (c_wl)), (13, .slice Ao ((thT M x j).length) (co)), (14, .int .i64 ((j : Nat) : Int)), (15, .int .u8 ((ipN (ixs M) (ysL M j) x k : Nat) : Int)), (16, .int .i64 ((k : Nat) : Int))]) ∧ (k ≤ q + 1) ∧ (Kp No w wr) ∧ (Bk wr p0_0 ([.int .i64 ((q + 1 : Nat) : Int), .int .i64 ((nn : Nat) : Int), .int .u32 ((ge : Nat) : Int)]) 25) ∧ (Ob wr w3.heap.size (.slice A_wl ((wtL (ixs M) x).length) (c_wl)) (wtL (ixs M) x) ∧ w3.heap.size ≤ (wr).heap.size) ∧ (Ob wr w6.heap.size (.slice Ao ((thT M x j).length) (co)) (thT M x j) ∧ w6.heap.size ≤ (wr).heap.size)) (q + 1 - 0) [(0, .slice A (L.length) (c)), (4, .pointer (some ⟨p0_0, 0, none⟩)), (6, .slice none (0) (0)), (7, .int .i64 0), (11, .slice A_wl ((wtL (ixs M) x).length) (c_wl)), (13, .slice Ao ((thT M x j).length) (co)), (14, .int .i64 ((j : Nat) : Int)), (15, .int .u8 ((ipN (ixs M) (ysL M j) x 0 : Nat) : Int)), (16, .int .i64 0)] (Sub.cons rfl (Sub.cons rfl (Sub.cons rfl (Sub.cons rfl (Sub.cons rfl (Sub.cons rfl (Sub.cons rfl (Sub.cons rfl (Sub.cons rfl (Sub.nil _)))))))))) ⟨0, rfl, rfl, by omega, kk7, f_p0_0_7, ⟨wl_7.1, wl_7.2⟩, ⟨n_7.1, n_7.2⟩⟩ ?_
      rintro _ _ w8 ⟨k, rfl, rfl, hk, kk8, f_p0_0_8, wl_8, n_8⟩
      refine C_seq (fun K33 hK33 => ?_)
      refine C_seq (fun K34 hK34 => ?_)
      refine C_region ?_
      refine R_pu (pu_move rfl) rfl ?_
      refine R_pu (pu_fieldAddr (off := 0) (o' := 0) (by kernel_rfl) rfl rfl) rfl ?_
      refine R_pu (pu_loadK f_p0_0_8 (by kernel_rfl) rfl rfl) rfl ?_
      refine R_pu (pu_lss (p := k < (q + 1)) rfl rfl (by omega)) rfl ?_
      refine R_nil ?_
      refine X_then hK34 ?_
      refine C_dec rfl (fun h55 => ?_) (fun h55 => ?_)
      · refine C_skip ?_
        refine X_then hK33 ?_
        refine C_seq (fun K35 hK35 => ?_)
        refine C_block ?_
        refine D_begin (fun W => Kp No w W ∧ Bk W p0_0 ([.int .i64 ((q + 1 : Nat) : Int), .int .i64 ((nn : Nat) : Int), .int .u32 ((ge : Nat) : Int)]) 25 ∧ Ob W w3.heap.size (.slice A_wl ((wtL (ixs M) x).length) (c_wl)) (wtL (ixs M) x)) 17 rfl (by kernel_rfl) ⟨kk8.drew, f_p0_0_8.draw, wl_8.1.draw⟩ ?_
        intro w9 k9 _
        have kk9 := kk8.then_ k9
        refine D_take 0 rfl (by kernel_rfl) (by kernel_rfl) (by kernel_rfl) (fun _ _ _ h => h) rfl (fun W hS => pu_move rfl) ?_
        refine D_take 1 rfl (by kernel_rfl) (by kernel_rfl) (by kernel_rfl) (fun _ _ _ h => h) rfl (fun W hS => pu_move rfl) ?_
        refine D_take 2 rfl (by kernel_rfl) (by kernel_rfl) (by kernel_rfl) (fun _ _ _ h => h) rfl (fun W hS => pu_move rfl) ?_
        obtain ⟨s3, e_s3⟩ : ∃ q_, (M)[k]? = some q_ := ⟨_, List.getElem?_eq_getElem (by first | omega | (simp; done) | (simp; omega))⟩
        have ok_s3 := HSM.get e_s3
        have okb_s3 := ok_s3.bs
        have bi_s3 : s3.ix < 256 := ok_s3.ix
        refine D_take 3 rfl (by kernel_rfl) (by kernel_rfl) (by kernel_rfl) (fun _ _ _ h => h) rfl (fun W hS => pu_indexAddrL (HSM.keptNo hS.1) Tryd.underlying36 (by kernel_rfl) rfl hMl rfl rfl e_s3) ?_
        refine D_take 4 rfl (by kernel_rfl) (by kernel_rfl) (by kernel_rfl) (fun _ _ _ h => h) rfl (fun W hS => pu_fieldAddrH (off := 2) (HSM.keptNo hS.1) e_s3 (by kernel_rfl) rfl) ?_
        refine D_take 5 rfl (by kernel_rfl) (by kernel_rfl) (by kernel_rfl) (fun _ _ _ h => h) rfl (fun W hS => pu_loadH (HSM.keptNo hS.1) e_s3 (by kernel_rfl) rfl rfl) ?_
        refine D_take 6 rfl (by kernel_rfl) (by kernel_rfl) (by kernel_rfl) (fun _ _ _ h => h) rfl (fun W hS => pu_move rfl) ?_
        have l3 := hG.leni e_s3
        refine D_take 7 rfl (by kernel_rfl) (by kernel_rfl) (by kernel_rfl) (fun _ _ _ h => h) rfl (fun W hS => pu_indexAddrB (m := j) (okb_s3.keptNo hS.1) Tryd.underlying22 (by kernel_rfl) rfl rfl rfl rfl (by omega)) ?_
        obtain ⟨y, e_y⟩ : ∃ q_, (s3.X)[j]? = some q_ := ⟨_, List.getElem?_eq_getElem (by omega)⟩
        have b_y : y < 256 := ((okb_s3.keptNo kk9)).lt e_y
        refine D_take 8 rfl (by kernel_rfl) (by kernel_rfl) (by kernel_rfl) (fun _ _ _ h => h) rfl (fun W hS => pu_loadB (okb_s3.keptNo hS.1) (by kernel_rfl) rfl e_y) ?_
        refine D_take 10 rfl (by kernel_rfl) (by kernel_rfl) (by kernel_rfl) (fun _ _ _ h => h) rfl (fun W hS => pu_move rfl) ?_
        refine D_take 11 rfl (by kernel_rfl) (by kernel_rfl) (by kernel_rfl) (fun _ _ _ h => h) rfl (fun W hS => pu_move rfl) ?_
        refine D_take 12 rfl (by kernel_rfl) (by kernel_rfl) (by kernel_rfl) (fun _ _ _ h => h) rfl (fun W hS => pu_indexAddrB (m := k) hS.2.2.bs Tryd.underlying22 (by kernel_rfl) rfl rfl rfl rfl (by rw [wtL_length, ixs_length]; omega)) ?_
        refine D_take 13 rfl (by kernel_rfl) (by kernel_rfl) (by kernel_rfl) (fun _ _ _ h => h) rfl (fun W hS => pu_loadB hS.2.2.bs (by kernel_rfl) rfl (wtL_get (by rw [ixs_length]; omega))) ?_
        have f36 : Bk w9 p0_0 ([.int .i64 ((q + 1 : Nat) : Int), .int .i64 ((nn : Nat) : Int), .int .u32 ((ge : Nat) : Int)]) 25 := (f_p0_0_8.no k9)
        have ob37 := (wl_8.1.keptNo k9)
        have ob38 := (n_8.1.keptNo k9)
        refine D_one 9 (by kernel_rfl) (Nx_lo rfl (lo_buildSlice (L := u8s ([0, y])) Tryd.underlying22 rfl (by kernel_rfl)) rfl ?_)
        rintro _ w10 ⟨p18_9, rfl, N10⟩
        have k10 := N10.kp
        have kk10 := kk9.then_ k10
        have ne_p18_9_p0_0 : p18_9 ≠ p0_0 := Nat.ne_of_gt (Nat.lt_of_lt_of_le f36.lt N10.le)
        have f_p18_9_10 : Bk w10 p18_9 (u8s ([0, y])) 5 := N10.bk
        have f39 : Bk w10 p0_0 ([.int .i64 ((q + 1 : Nat) : Int), .int .i64 ((nn : Nat) : Int), .int .u32 ((ge : Nat) : Int)]) 25 := (f36.no k10)
        have ob40 := (ob37.keptNo k10)
        refine ⟨⟨kk10, f39, ob40⟩, ?_⟩
        refine D_one 14 (by kernel_rfl) (Nx_lo rfl (lo_callE (by kernel_rfl) rfl (by rw [(show By 2 [0, y] from ⟨rfl, by intro n hn; simp at hn; rcases hn with rfl | rfl <;> first | omega | exact (by decide) | exact b_y⟩).1] <;> rfl) (ref_eval (some ⟨p18_9, 0, none⟩) ([0, y]) 2 (wt (ixs M) x k) (wt_lt _ _ _) _ (Bs.ofBk f_p18_9_10 (show By 2 [0, y] from ⟨rfl, by intro n hn; simp at hn; rcases hn with rfl | rfl <;> first | omega | exact (by decide) | exact b_y⟩)) (Nat.le_of_eq (show By 2 [0, y] from ⟨rfl, by intro n hn; simp at hn; rcases hn with rfl | rfl <;> first | omega | exact (by decide) | exact b_y⟩).1) (by have hbl_ := (show By 2 [0, y] from ⟨rfl, by intro n hn; simp at hn; rcases hn with rfl | rfl <;> first | omega | exact (by decide) | exact b_y⟩).1; omega))) rfl ?_)
        rintro _ w11 ⟨rfl, k11⟩
        have kk11 := kk10.then_ k11
        have f41 : Bk w11 p0_0 ([.int .i64 ((q + 1 : Nat) : Int), .int .i64 ((nn : Nat) : Int), .int .u32 ((ge : Nat) : Int)]) 25 := (f39.no k11)
        have ob42 := (ob40.keptNo k11)
        refine ⟨⟨kk11, f41, ob42⟩, ?_⟩
        refine D_one 15 (by kernel_rfl) (Nx_lo rfl (lo_call (by kernel_rfl) rfl (ref_add2 (ipN (ixs M) (ysL M j) x k) (hE ([0, y]) (wt (ixs M) x k)) (ipN_lt _ _ _ _) (hE_lt ((Bs.ofBk f_p18_9_10 (show By 2 [0, y] from ⟨rfl, by intro n hn; simp at hn; rcases hn with rfl | rfl <;> first | omega | exact (by decide) | exact b_y⟩))).byte _) _)) rfl ?_)
        rintro _ w12 ⟨rfl, k12⟩
        have kk12 := kk11.then_ k12
        have f43 : Bk w12 p0_0 ([.int .i64 ((q + 1 : Nat) : Int), .int .i64 ((nn : Nat) : Int), .int .u32 ((ge : Nat) : Int)]) 25 := (f41.no k12)
        have ob44 := (ob42.keptNo k12)
        refine ⟨⟨kk12, f43, ob44⟩, ?_⟩
        refine D_take 16 rfl (by kernel_rfl) (by kernel_rfl) (by kernel_rfl) (fun _ _ _ h => h) rfl (fun W hS => pu_assign rfl) ?_
        refine D_done (by kernel_rfl) ?_
        refine X_in_normal ?_
        refine X_then hK35 ?_
        refine C_region ?_
        refine R_pu (pu_move rfl) rfl ?_
        refine R_pu (pu_add (z := ((k + 1 : Nat) : Int)) rfl rfl (by rw [IntKind.wrap_i64]; omega)) rfl ?_
        refine R_pu (pu_assign rfl) rfl ?_
        refine R_nil ?_
        have ob45 := (((ob38.keptNo k10).keptNo k11).keptNo k12)
        refine X_round (q + 1 - (k + 1)) [(0, .slice A (L.length) (c)), (4, .pointer (some ⟨p0_0, 0, none⟩)), (6, .slice none (0) (0)), (7, .int .i64 0), (11, .slice A_wl ((wtL (ixs M) x).length) (c_wl)), (13, .slice Ao ((thT M x j).length) (co)), (14, .int .i64 ((j : Nat) : Int)), (15, .int .u8 ((ipN (ixs M) (ysL M j) x (k + 1) : Nat) : Int)), (16, .int .i64 (((k + 1) : Nat) : Int))] (by omega) (Sub.cons rfl (Sub.cons rfl (Sub.cons rfl (Sub.cons rfl (Sub.cons rfl (Sub.cons rfl (Sub.cons rfl (Sub.consE rfl (by rw [ipN_step (ysL_get e_s3 e_y) rfl b_y]) (Sub.cons rfl (Sub.nil _)))))))))) ⟨k + 1, rfl, rfl, by omega, kk12, f43, ⟨ob44, (Nat.le_trans (Nat.le_trans (Nat.le_trans (Nat.le_trans wl_8.2 k9.size) k10.size) k11.size) k12.size)⟩, ⟨ob45, (Nat.le_trans (Nat.le_trans (Nat.le_trans (Nat.le_trans n_8.2 k9.size) k10.size) k11.size) k12.size)⟩⟩
      · refine C_exit ?_
        refine X_then_exit (X_then_exit (X_in_eq ?_))
        refine X_then hK31 ?_
        refine C_region ?_
        refine R_pu (pu_move rfl) rfl ?_
        refine R_pu (pu_move rfl) rfl ?_
        refine R_lo (lo_buildSlice (L := u8s ([ipN (ixs M) (ysL M j) x k])) Tryd.underlying22 rfl (by kernel_rfl)) rfl ?_
        rintro _ w13 ⟨p19_2, rfl, N13⟩
        have k13 := N13.kp
        have kk13 := kk8.then_ k13
        have ne_p19_2_p0_0 : p19_2 ≠ p0_0 := Nat.ne_of_gt (Nat.lt_of_lt_of_le f_p0_0_8.lt N13.le)
        have f_p19_2_13 : Bk w13 p19_2 (u8s ([ipN (ixs M) (ysL M j) x k])) 5 := N13.bk
        have ob46 := (n_8.1.keptNo k13)
        refine R_lo (lo_app (X := thT M x j) (Y := [ipN (ixs M) (ysL M j) x k]) ob46 ob46.le.1 rfl rfl (show By 1 [ipN (ixs M) (ysL M j) x k] from ⟨rfl, fun n hn => by rw [List.mem_singleton.1 hn]; exact (ipN_lt _ _ _ _)⟩).1 (Bs.ofBk f_p19_2_13 (show By 1 [ipN (ixs M) (ysL M j) x k] from ⟨rfl, fun n hn => by rw [List.mem_singleton.1 hn]; exact (ipN_lt _ _ _ _)⟩)) (by rw [thT_length]; simp; omega) (Nat.le_trans n_8.2 k13.size)) rfl ?_
        rintro _ w14 ⟨A_14, c_14, rfl, p14⟩
        have k14 := p14.kp
        have kk14 := kk13.trans k14 (fun i hi => .inr (Nat.le_trans (kk6).size hi))
        refine R_pu (pu_assign rfl) rfl ?_
        refine R_nil ?_
        refine X_in_normal ?_
        refine X_then hK29 ?_
        refine C_region ?_
        refine R_pu (pu_move rfl) rfl ?_
        refine R_pu (pu_add (z := ((j + 1 : Nat) : Int)) rfl rfl (by rw [IntKind.wrap_i64]; omega)) rfl ?_
        refine R_pu (pu_assign rfl) rfl ?_
        refine R_nil ?_
        have f47 : Bk w14 p0_0 ([.int .i64 ((q + 1 : Nat) : Int), .int .i64 ((nn : Nat) : Int), .int .u32 ((ge : Nat) : Int)]) 25 := ((f_p0_0_8.no k13).kept k14 (by have := f21.lt; omega))
        have ob48 := ((wl_8.1.keptNo k13).past lm26 k14)
        refine X_round (N - (j + 1)) [(0, .slice A (L.length) (c)), (4, .pointer (some ⟨p0_0, 0, none⟩)), (6, .slice none (0) (0)), (7, .int .i64 0), (11, .slice A_wl ((wtL (ixs M) x).length) (c_wl)), (13, .slice A_14 ((thT M x (j + 1)).length) (c_14)), (14, .int .i64 (((j + 1) : Nat) : Int))] (by omega) (Sub.cons rfl (Sub.cons rfl (Sub.cons rfl (Sub.cons rfl (Sub.cons rfl (Sub.consE rfl (by rw [show ipN (ixs M) (ysL M j) x k = thv M x j by unfold thv; rw [ixs_length, show k = M.length by omega], thT_snoc]) (Sub.cons rfl (Sub.nil _)))))))) ⟨j + 1, A_14, c_14, rfl, rfl, by omega, kk14, f47, ⟨ob48, (Nat.le_trans (Nat.le_trans wl_8.2 k13.size) k14.size)⟩, ⟨by rw [← thT_snoc, ← show ipN (ixs M) (ysL M j) x k = thv M x j by unfold thv; rw [ixs_length, show k = M.length by omega]]; exact p14.ob, (Nat.le_trans (Nat.le_trans n_8.2 k13.size) k14.size)⟩⟩
    · refine C_exit ?_
      refine X_then_exit (X_then_exit (X_in_eq ?_))
      refine X_then hK19 ?_
      refine C_seq (fun K49 hK49 => ?_)
      refine C_region ?_
      refine R_pu (pu_move rfl) rfl ?_
      refine R_pu (pu_assign rfl) rfl ?_
      refine R_pu (pu_assign rfl) rfl ?_
      refine R_nil ?_
      refine X_then hK49 ?_
      refine C_ret ?_
      exact X_ret2 (.inl rfl) rfl rfl rfl (by rw [← show thT M x j = thX (L.take (q + 1)) N x by rw [← hM]; exact thT_end (by omega)]; exact ⟨Ao, co, rfl, n_7.1.low ((kk6).size), kk7⟩)
end Go.Proofs.YtjbdimfpjbmggaaDoor
