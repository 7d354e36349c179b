/- The bodies of GhashExact and GhashLinear: they return true. -/
import Derived.Test.YtfoenaleboodpaaGr2
import Derived.Test.YtfoenaleboodpaaHw6
import Derived.Test.YtfoenaleboodpaaHp1
set_option linter.unusedVariables false
set_option linter.unusedSimpArgs false
namespace Go.Proofs.Ytfoenaleboodpaa
open Go.RowKit

theorem r_add {x y : List Nat} (bx : By 16 x) (b_y : By 16 y) (w : World) : Ret Try.prog 11 #[.agg (u8s x).toArray, .agg (u8s y).toArray] w (fun v w' => v = .agg (u8s (addB x y)).toArray ∧ Kp No w w') :=
  Ret.of_calls (c_add bx b_y w) fun _ _ h => ⟨_, h.1, rfl, h.2⟩
theorem r_mul {x y : List Nat} (bx : By 16 x) (b_y : By 16 y) (w : World) : Ret Try.prog 10 #[.agg (u8s x).toArray, .agg (u8s y).toArray] w (fun v w' => v = .agg (u8s (mulB x y)).toArray ∧ Kp No w w') :=
  Ret.of_calls (c_mul bx b_y w) fun _ _ h => ⟨_, h.1, rfl, h.2⟩
theorem r_sure (w : World) : Ret Try.prog 12 #[] w (fun v w' => v = .bool true ∧ Kp No w w') := Ret.of_calls (c_sure w) fun _ _ h => ⟨_, h.1, rfl, h.2⟩
theorem r_hash (x : List Nat) (bx : By 16 x) (a1 a2 : Option Addr) (l1 l2 : List Nat) (c1 c2 : Nat) (w : World) (B1 : Bs w a1 l1) (h1 : l1.length ≤ c1) (B2 : Bs w a2 l2) (h2 : l2.length ≤ c2) (s1 : l1.length < 2 ^ 60) (s2 : l2.length < 2 ^ 60) :
    Ret Try.prog 15 #[.agg (u8s x).toArray, .slice a1 l1.length c1, .slice a2 l2.length c2] w (fun v w' => v = .agg (u8s (hashB x l1 l2)).toArray ∧ Kp No w w') :=
  Ret.of_calls (gh_hash x bx a1 a2 l1 l2 c1 c2 w B1 h1 B2 h2 s1 s2) fun _ _ h => ⟨_, h.1, rfl, h.2⟩
theorem addB_xorL {x y : List Nat} (bx : By 16 x) (b_y : By 16 y) : addB x y = xorL x y := by
  rw [addB_eq]
  conv => rhs; rw [toB_of_be bx, toB_of_be b_y]
  rw [xorL_toB]

set_option maxRecDepth 100000 in
set_option maxHeartbeats 2000000 in
theorem ghashExact_ (xs : List Nat) (bxs : By 32 xs) (A1 : Option Addr) (l1 : List Nat) (c1 : Nat) (A2 : Option Addr) (l2 : List Nat) (c2 : Nat) (w : World) (HB1 : Bs w A1 l1) (hc1 : l1.length ≤ c1) (HB2 : Bs w A2 l2) (hc2 : l2.length ≤ c2) : Ret Try.prog 4 #[.agg (u8s xs).toArray, .slice A1 (l1.length) (c1), .slice A2 (l2.length) (c2)] w (fun v w' => v = .bool true ∧ Kp No w w') := by
  have kk0 := Kp.refl No w
  refine enter (n := 57) [.agg (u8s xs).toArray, .slice A1 (l1.length) (c1), .slice A2 (l2.length) (c2)] Try.func4 rfl rfl rfl ?_
  show Cw _ _ _ _ [(0, .agg (u8s xs).toArray), (1, .slice A1 (l1.length) (c1)), (2, .slice A2 (l2.length) (c2))] _
  refine C_seq (fun K1 hK1 => ?_)
  refine C_region ?_
  refine R_lo (lo_box (L := u8s xs) rfl rfl) rfl ?_
  rintro _ w1 ⟨pxs, rfl, N1⟩
  have k1 := N1.kp
  have kk1 := kk0.then_ k1
  have f_pxs_1 : Bk w1 pxs (u8s xs) 27 := N1.bk
  refine R_pu (pu_assign rfl) rfl ?_
  refine R_nil ?_
  refine X_then hK1 ?_
  refine C_seq (fun K2 hK2 => ?_)
  refine C_seq (fun K3 hK3 => ?_)
  refine C_region ?_
  refine R_pu (pu_move rfl) rfl ?_
  refine R_pu (pu_len Try.underlying28 rfl) rfl ?_
  refine R_pu (pu_gtr (p := l1.length > 300) rfl rfl (by omega)) rfl ?_
  by_cases g1_3 : l1.length > 300
  · refine R_pu (pu_true (pu_move rfl) g1_3) rfl ?_
    refine R_gno rfl rfl rfl rfl ?_
    refine R_gno rfl rfl rfl rfl ?_
    refine R_gno rfl rfl rfl rfl ?_
    refine R_pu (pu_pickt rfl rfl) rfl ?_
    refine R_nil ?_
    refine X_then hK3 ?_
    refine C_true rfl ?_
    refine C_seq (fun K4 hK4 => ?_)
    refine C_region ?_
    refine R_lo (lo_call (by kernel_rfl) rfl (r_sure _)) rfl ?_
    rintro _ w2 ⟨rfl, k2⟩
    have kk2 := kk1.then_ k2
    refine R_pu (pu_assign rfl) rfl ?_
    refine R_nil ?_
    refine X_then hK4 ?_
    refine C_ret ?_
    refine X_then_ret ?_
    exact X_ret1 (.inl rfl) rfl rfl ⟨rfl, kk2⟩
  · refine R_pu (pu_false (pu_move rfl) g1_3) rfl ?_
    refine R_gpu rfl rfl (pu_move rfl) rfl ?_
    refine R_gpu rfl rfl (pu_len Try.underlying28 rfl) rfl ?_
    refine R_gpu rfl rfl (pu_gtr (p := l2.length > 300) rfl rfl (by omega)) rfl ?_
    refine R_pu (pu_pickf rfl rfl) rfl ?_
    refine R_nil ?_
    refine X_then hK3 ?_
    refine C_dec rfl (fun h16 => ?_) (fun h16 => ?_)
    · refine C_seq (fun K5 hK5 => ?_)
      refine C_region ?_
      refine R_lo (lo_call (by kernel_rfl) rfl (r_sure _)) rfl ?_
      rintro _ w3 ⟨rfl, k3⟩
      have kk3 := kk1.then_ k3
      refine R_pu (pu_assign rfl) rfl ?_
      refine R_nil ?_
      refine X_then hK5 ?_
      refine C_ret ?_
      refine X_then_ret ?_
      exact X_ret1 (.inl rfl) rfl rfl ⟨rfl, kk3⟩
    · refine C_skip ?_
      refine X_then hK2 ?_
      refine C_seq (fun K6 hK6 => ?_)
      refine D_begin (fun W => Kp No w W ∧ Bk W pxs (u8s xs) 27) 8 rfl (by kernel_rfl) ⟨kk1.drew, f_pxs_1.draw⟩ ?_
      intro w4 k4 _
      have kk4 := kk1.then_ k4
      refine D_take 0 rfl (by kernel_rfl) (by kernel_rfl) (by kernel_rfl) (fun _ _ _ h => h) rfl (fun W hS => pu_indexAddrA (m := 0) (s := 16) (o' := 0) Try.underlying27 (by kernel_rfl) rfl rfl rfl (by omega) (by omega)) ?_
      refine D_take 1 rfl (by kernel_rfl) (by kernel_rfl) (by kernel_rfl) (fun _ _ _ h => h) rfl (fun W hS => pu_loadMid (len := 16) (C := u8s ((xs.drop 0).take 16)) hS.2 (by kernel_rfl) (by kernel_rfl) rfl (u8s_mid _ _ _) (by rw [u8s_length]; exact (by_mid (o := 0) (n := 16) bxs (by decide)).1)) ?_
      refine D_take 2 rfl (by kernel_rfl) (by kernel_rfl) (by kernel_rfl) (fun _ _ _ h => h) rfl (fun W hS => pu_indexAddrA (m := 1) (s := 16) (o' := 16) Try.underlying27 (by kernel_rfl) rfl rfl rfl (by omega) (by omega)) ?_
      refine D_take 3 rfl (by kernel_rfl) (by kernel_rfl) (by kernel_rfl) (fun _ _ _ h => h) rfl (fun W hS => pu_loadMid (len := 16) (C := u8s ((xs.drop 16).take 16)) hS.2 (by kernel_rfl) (by kernel_rfl) rfl (u8s_mid _ _ _) (by rw [u8s_length]; exact (by_mid (o := 16) (n := 16) bxs (by decide)).1)) ?_
      refine D_two 4 5 (by kernel_rfl) ?_ ?_
      · have f7 : Bk w4 pxs (u8s xs) 27 := (f_pxs_1.no k4)
        refine Nx_lo rfl (lo_alloc (L := u8s (List.replicate 16 0)) (by kernel_rfl)) rfl ?_
        rintro _ w5 ⟨px, rfl, N5⟩
        have k5 := N5.kp
        have kk5 := kk4.then_ k5
        have ne_px_pxs : px ≠ pxs := Nat.ne_of_gt (Nat.lt_of_lt_of_le f7.lt N5.le)
        have f_px_5 : Bk w5 px (u8s (List.replicate 16 0)) 23 := N5.bk
        have f8 : Bk w5 pxs (u8s xs) 27 := (f7.no k5)
        refine ⟨⟨kk5, f8⟩, ?_⟩
        refine D_one 5 (by kernel_rfl) (Nx_lo rfl (lo_alloc (L := u8s (List.replicate 16 0)) (by kernel_rfl)) rfl ?_)
        rintro _ w6 ⟨py, rfl, N6⟩
        have k6 := N6.kp
        have kk6 := kk5.then_ k6
        have ne_py_pxs : py ≠ pxs := Nat.ne_of_gt (Nat.lt_of_lt_of_le f8.lt N6.le)
        have ne_py_px : py ≠ px := Nat.ne_of_gt (Nat.lt_of_lt_of_le f_px_5.lt N6.le)
        have f_py_6 : Bk w6 py (u8s (List.replicate 16 0)) 23 := N6.bk
        have f9 : Bk w6 pxs (u8s xs) 27 := (f8.no k6)
        refine ⟨⟨kk6, f9⟩, ?_⟩
        have f10 : Bk w6 px (u8s (List.replicate 16 0)) 23 := (f_px_5.no k6)
        refine D_one 6 (by kernel_rfl) (Nx_lo0 rfl (lo_storeRow (C := u8s ((xs.drop 0).take 16)) f10 (by rw [u8s_length, (by_mid (o := 0) (n := 16) bxs (by decide)).1]; kernel_rfl) rfl rfl (u8s_each _) (by rw [u8s_length, u8s_length, (by_mid (o := 0) (n := 16) bxs (by decide)).1, (rep_by 16).1])) ?_)
        rintro _ w7 kf7
        obtain ⟨k7, f_px_7⟩ := kf7
        replace f_px_7 : Bk w7 px (u8s ((xs.drop 0).take 16)) 23 := f_px_7
        have kk7 := kk6.trans k7 (fun i hi => .inr (hi ▸ (Nat.le_trans kk4.size N5.le)))
        have f11 : Bk w7 pxs (u8s xs) 27 := (f9.on k7 (Ne.symm ne_px_pxs))
        refine ⟨⟨kk7, f11⟩, ?_⟩
        have f12 : Bk w7 py (u8s (List.replicate 16 0)) 23 := (f_py_6.on k7 ne_py_px)
        refine D_one 7 (by kernel_rfl) (Nx_lo0 rfl (lo_storeRow (C := u8s ((xs.drop 16).take 16)) f12 (by rw [u8s_length, (by_mid (o := 16) (n := 16) bxs (by decide)).1]; kernel_rfl) rfl rfl (u8s_each _) (by rw [u8s_length, u8s_length, (by_mid (o := 16) (n := 16) bxs (by decide)).1, (rep_by 16).1])) ?_)
        rintro _ w8 kf8
        obtain ⟨k8, f_py_8⟩ := kf8
        replace f_py_8 : Bk w8 py (u8s ((xs.drop 16).take 16)) 23 := f_py_8
        have kk8 := kk7.trans k8 (fun i hi => .inr (hi ▸ (Nat.le_trans kk5.size N6.le)))
        have f13 : Bk w8 pxs (u8s xs) 27 := (f11.on k8 (Ne.symm ne_py_pxs))
        refine ⟨⟨kk8, f13⟩, ?_⟩
        refine D_done (by kernel_rfl) ?_
        refine X_then hK6 ?_
        refine C_seq (fun K14 hK14 => ?_)
        have f15 : Bk w8 px (u8s ((xs.drop 0).take 16)) 23 := (f_px_7.on k8 (Ne.symm ne_py_px))
        refine D_begin (fun W => Kp No w W ∧ Bk W pxs (u8s xs) 27 ∧ Bk W px (u8s ((xs.drop 0).take 16)) 23 ∧ Bk W py (u8s ((xs.drop 16).take 16)) 23) 36 rfl (by kernel_rfl) ⟨kk8.drew, f13.draw, f15.draw, f_py_8.draw⟩ ?_
        intro w9 k9 _
        have kk9 := kk8.then_ k9
        refine D_take 0 rfl (by kernel_rfl) (by kernel_rfl) (by kernel_rfl) (fun _ _ _ h => h) rfl (fun W hS => pu_loadRow (len := 16) hS.2.2.1 (by kernel_rfl) (by kernel_rfl) (by rw [u8s_length]; exact (by_mid (o := 0) (n := 16) bxs (by decide)).1) rfl) ?_
        refine D_take 1 rfl (by kernel_rfl) (by kernel_rfl) (by kernel_rfl) (fun _ _ _ h => h) rfl (fun W hS => pu_loadRow (len := 16) hS.2.2.2 (by kernel_rfl) (by kernel_rfl) (by rw [u8s_length]; exact (by_mid (o := 16) (n := 16) bxs (by decide)).1) rfl) ?_
        refine D_take 3 rfl (by kernel_rfl) (by kernel_rfl) (by kernel_rfl) (fun _ _ _ h => h) rfl (fun W hS => pu_indexAddrA (m := 0) (s := 16) (o' := 0) Try.underlying27 (by kernel_rfl) rfl rfl rfl (by omega) (by omega)) ?_
        refine D_take 4 rfl (by kernel_rfl) (by kernel_rfl) (by kernel_rfl) (fun _ _ _ h => h) rfl (fun W hS => pu_loadMid (len := 16) (C := u8s ((xs.drop 0).take 16)) hS.2.1 (by kernel_rfl) (by kernel_rfl) rfl (u8s_mid _ _ _) (by rw [u8s_length]; exact (by_mid (o := 0) (n := 16) bxs (by decide)).1)) ?_
        refine D_take 5 rfl (by kernel_rfl) (by kernel_rfl) (by kernel_rfl) (fun _ _ _ h => h) rfl (fun W hS => pu_indexAddrA (m := 1) (s := 16) (o' := 16) Try.underlying27 (by kernel_rfl) rfl rfl rfl (by omega) (by omega)) ?_
        refine D_take 6 rfl (by kernel_rfl) (by kernel_rfl) (by kernel_rfl) (fun _ _ _ h => h) rfl (fun W hS => pu_loadMid (len := 16) (C := u8s ((xs.drop 16).take 16)) hS.2.1 (by kernel_rfl) (by kernel_rfl) rfl (u8s_mid _ _ _) (by rw [u8s_length]; exact (by_mid (o := 16) (n := 16) bxs (by decide)).1)) ?_
        refine D_one 2 (by kernel_rfl) (Nx_lo rfl (lo_call (by kernel_rfl) rfl (r_add (by_mid (o := 0) (n := 16) bxs (by decide)) (by_mid (o := 16) (n := 16) bxs (by decide)) _)) rfl ?_)
        rintro _ w10 ⟨rfl, k10⟩
        have kk10 := kk9.then_ k10
        have f16 : Bk w10 pxs (u8s xs) 27 := ((f13.no k9).no k10)
        have f17 : Bk w10 px (u8s ((xs.drop 0).take 16)) 23 := ((f15.no k9).no k10)
        have f18 : Bk w10 py (u8s ((xs.drop 16).take 16)) 23 := ((f_py_8.no k9).no k10)
        refine ⟨⟨kk10, f16, f17, f18⟩, ?_⟩
        refine D_one 7 (by kernel_rfl) (Nx_lo rfl (lo_call (by kernel_rfl) rfl (ref_add ((xs.drop 0).take 16) ((xs.drop 16).take 16) (by_mid (o := 0) (n := 16) bxs (by decide)) (by_mid (o := 16) (n := 16) bxs (by decide)) _)) rfl ?_)
        rintro _ w11 ⟨rfl, k11⟩
        have kk11 := kk10.then_ k11
        have f19 : Bk w11 pxs (u8s xs) 27 := (f16.no k11)
        have f20 : Bk w11 px (u8s ((xs.drop 0).take 16)) 23 := (f17.no k11)
        have f21 : Bk w11 py (u8s ((xs.drop 16).take 16)) 23 := (f18.no k11)
        refine ⟨⟨kk11, f19, f20, f21⟩, ?_⟩
        refine D_take 8 rfl (by kernel_rfl) (by kernel_rfl) (by kernel_rfl) (fun _ _ _ h => h) rfl (fun W hS => pu_true (pu_eqlB (t := 23) Try.underlying23 Try.underlying5 (by kernel_rfl) (by kernel_rfl) ((addB_by _ _)) ((xorL_by (by_mid (o := 0) (n := 16) bxs (by decide)) (by_mid (o := 16) (n := 16) bxs (by decide)))) rfl rfl) (addB_xorL (by_mid bxs (by decide)) (by_mid bxs (by decide)))) ?_
        refine D_take 9 rfl (by kernel_rfl) (by kernel_rfl) (by kernel_rfl) (fun _ _ _ h => h) rfl (fun W hS => pu_move rfl) ?_
        refine D_gtake 10 rfl rfl rfl (by kernel_rfl) (by kernel_rfl) (by kernel_rfl) (fun _ _ _ h => h) rfl (fun W hS => pu_loadRow (len := 16) hS.2.2.1 (by kernel_rfl) (by kernel_rfl) (by rw [u8s_length]; exact (by_mid (o := 0) (n := 16) bxs (by decide)).1) rfl) ?_
        refine D_gtake 11 rfl rfl rfl (by kernel_rfl) (by kernel_rfl) (by kernel_rfl) (fun _ _ _ h => h) rfl (fun W hS => pu_loadRow (len := 16) hS.2.2.2 (by kernel_rfl) (by kernel_rfl) (by rw [u8s_length]; exact (by_mid (o := 16) (n := 16) bxs (by decide)).1) rfl) ?_
        refine D_gtake 13 rfl rfl rfl (by kernel_rfl) (by kernel_rfl) (by kernel_rfl) (fun _ _ _ h => h) rfl (fun W hS => pu_indexAddrA (m := 0) (s := 16) (o' := 0) Try.underlying27 (by kernel_rfl) rfl rfl rfl (by omega) (by omega)) ?_
        refine D_gtake 14 rfl rfl rfl (by kernel_rfl) (by kernel_rfl) (by kernel_rfl) (fun _ _ _ h => h) rfl (fun W hS => pu_loadMid (len := 16) (C := u8s ((xs.drop 0).take 16)) hS.2.1 (by kernel_rfl) (by kernel_rfl) rfl (u8s_mid _ _ _) (by rw [u8s_length]; exact (by_mid (o := 0) (n := 16) bxs (by decide)).1)) ?_
        refine D_gtake 15 rfl rfl rfl (by kernel_rfl) (by kernel_rfl) (by kernel_rfl) (fun _ _ _ h => h) rfl (fun W hS => pu_indexAddrA (m := 1) (s := 16) (o' := 16) Try.underlying27 (by kernel_rfl) rfl rfl rfl (by omega) (by omega)) ?_
        refine D_gtake 16 rfl rfl rfl (by kernel_rfl) (by kernel_rfl) (by kernel_rfl) (fun _ _ _ h => h) rfl (fun W hS => pu_loadMid (len := 16) (C := u8s ((xs.drop 16).take 16)) hS.2.1 (by kernel_rfl) (by kernel_rfl) rfl (u8s_mid _ _ _) (by rw [u8s_length]; exact (by_mid (o := 16) (n := 16) bxs (by decide)).1)) ?_
        refine D_one 12 (by kernel_rfl) (Nx_glo rfl rfl rfl (lo_call (by kernel_rfl) rfl (r_mul (by_mid (o := 0) (n := 16) bxs (by decide)) (by_mid (o := 16) (n := 16) bxs (by decide)) _)) rfl ?_)
        rintro _ w12 ⟨rfl, k12⟩
        have kk12 := kk11.then_ k12
        have f22 : Bk w12 pxs (u8s xs) 27 := (f19.no k12)
        have f23 : Bk w12 px (u8s ((xs.drop 0).take 16)) 23 := (f20.no k12)
        have f24 : Bk w12 py (u8s ((xs.drop 16).take 16)) 23 := (f21.no k12)
        refine ⟨⟨kk12, f22, f23, f24⟩, ?_⟩
        refine D_one 17 (by kernel_rfl) (Nx_glo rfl rfl rfl (lo_call (by kernel_rfl) rfl (ref_mul ((xs.drop 0).take 16) ((xs.drop 16).take 16) (by_mid (o := 0) (n := 16) bxs (by decide)) (by_mid (o := 16) (n := 16) bxs (by decide)) _)) rfl ?_)
        rintro _ w13 ⟨rfl, k13⟩
        have kk13 := kk12.then_ k13
        have f25 : Bk w13 pxs (u8s xs) 27 := (f22.no k13)
        have f26 : Bk w13 px (u8s ((xs.drop 0).take 16)) 23 := (f23.no k13)
        have f27 : Bk w13 py (u8s ((xs.drop 16).take 16)) 23 := (f24.no k13)
        refine ⟨⟨kk13, f25, f26, f27⟩, ?_⟩
        refine D_gtake 18 rfl rfl rfl (by kernel_rfl) (by kernel_rfl) (by kernel_rfl) (fun _ _ _ h => h) rfl (fun W hS => pu_true (pu_eqlB (t := 23) Try.underlying23 Try.underlying5 (by kernel_rfl) (by kernel_rfl) ((mulB_by _ _)) ((mulB_by _ _)) rfl rfl) rfl) ?_
        refine D_take 19 rfl (by kernel_rfl) (by kernel_rfl) (by kernel_rfl) (fun _ _ _ h => h) rfl (fun W hS => pu_pickt rfl rfl) ?_
        refine D_take 20 rfl (by kernel_rfl) (by kernel_rfl) (by kernel_rfl) (fun _ _ _ h => h) rfl (fun W hS => pu_move rfl) ?_
        refine D_gtake 21 rfl rfl rfl (by kernel_rfl) (by kernel_rfl) (by kernel_rfl) (fun _ _ _ h => h) rfl (fun W hS => pu_loadRow (len := 16) hS.2.2.1 (by kernel_rfl) (by kernel_rfl) (by rw [u8s_length]; exact (by_mid (o := 0) (n := 16) bxs (by decide)).1) rfl) ?_
        refine D_gtake 22 rfl rfl rfl (by kernel_rfl) (by kernel_rfl) (by kernel_rfl) (fun _ _ _ h => h) rfl (fun W hS => pu_move rfl) ?_
        refine D_gtake 23 rfl rfl rfl (by kernel_rfl) (by kernel_rfl) (by kernel_rfl) (fun _ _ _ h => h) rfl (fun W hS => pu_move rfl) ?_
        refine D_gtake 25 rfl rfl rfl (by kernel_rfl) (by kernel_rfl) (by kernel_rfl) (fun _ _ _ h => h) rfl (fun W hS => pu_indexAddrA (m := 0) (s := 16) (o' := 0) Try.underlying27 (by kernel_rfl) rfl rfl rfl (by omega) (by omega)) ?_
        refine D_gtake 26 rfl rfl rfl (by kernel_rfl) (by kernel_rfl) (by kernel_rfl) (fun _ _ _ h => h) rfl (fun W hS => pu_loadMid (len := 16) (C := u8s ((xs.drop 0).take 16)) hS.2.1 (by kernel_rfl) (by kernel_rfl) rfl (u8s_mid _ _ _) (by rw [u8s_length]; exact (by_mid (o := 0) (n := 16) bxs (by decide)).1)) ?_
        refine D_gtake 27 rfl rfl rfl (by kernel_rfl) (by kernel_rfl) (by kernel_rfl) (fun _ _ _ h => h) rfl (fun W hS => pu_move rfl) ?_
        refine D_gtake 28 rfl rfl rfl (by kernel_rfl) (by kernel_rfl) (by kernel_rfl) (fun _ _ _ h => h) rfl (fun W hS => pu_move rfl) ?_
        refine D_one 24 (by kernel_rfl) (Nx_glo rfl rfl rfl (lo_call (by kernel_rfl) rfl (r_hash ((xs.drop 0).take 16) (by_mid (o := 0) (n := 16) bxs (by decide)) A1 A2 l1 l2 c1 c2 _ (HB1.keptNo kk13) hc1 (HB2.keptNo kk13) hc2 (by first | omega | (simp; done) | (simp; omega)) (by first | omega | (simp; done) | (simp; omega)))) rfl ?_)
        rintro _ w14 ⟨rfl, k14⟩
        have kk14 := kk13.then_ k14
        have f28 : Bk w14 pxs (u8s xs) 27 := (f25.no k14)
        have f29 : Bk w14 px (u8s ((xs.drop 0).take 16)) 23 := (f26.no k14)
        have f30 : Bk w14 py (u8s ((xs.drop 16).take 16)) 23 := (f27.no k14)
        refine ⟨⟨kk14, f28, f29, f30⟩, ?_⟩
        refine D_one 29 (by kernel_rfl) (Nx_glo rfl rfl rfl (lo_call (by kernel_rfl) rfl (ref_hash ((xs.drop 0).take 16) (by_mid (o := 0) (n := 16) bxs (by decide)) A1 A2 l1 l2 c1 c2 _ (HB1.keptNo kk14) hc1 (HB2.keptNo kk14) hc2 (by first | omega | (simp; done) | (simp; omega)) (by first | omega | (simp; done) | (simp; omega)))) rfl ?_)
        rintro _ w15 ⟨rfl, k15⟩
        have kk15 := kk14.then_ k15
        have f31 : Bk w15 pxs (u8s xs) 27 := (f28.no k15)
        have f32 : Bk w15 px (u8s ((xs.drop 0).take 16)) 23 := (f29.no k15)
        have f33 : Bk w15 py (u8s ((xs.drop 16).take 16)) 23 := (f30.no k15)
        refine ⟨⟨kk15, f31, f32, f33⟩, ?_⟩
        refine D_gtake 30 rfl rfl rfl (by kernel_rfl) (by kernel_rfl) (by kernel_rfl) (fun _ _ _ h => h) rfl (fun W hS => pu_true (pu_eqlB (t := 23) Try.underlying23 Try.underlying5 (by kernel_rfl) (by kernel_rfl) ((hashB_by _ _ _)) ((hashB_by _ _ _)) rfl rfl) rfl) ?_
        refine D_take 31 rfl (by kernel_rfl) (by kernel_rfl) (by kernel_rfl) (fun _ _ _ h => h) rfl (fun W hS => pu_pickt rfl rfl) ?_
        refine D_take 32 rfl (by kernel_rfl) (by kernel_rfl) (by kernel_rfl) (fun _ _ _ h => h) rfl (fun W hS => pu_move rfl) ?_
        refine D_one 33 (by kernel_rfl) (Nx_glo rfl rfl rfl (lo_call (by kernel_rfl) rfl (r_sure _)) rfl ?_)
        rintro _ w16 ⟨rfl, k16⟩
        have kk16 := kk15.then_ k16
        have f34 : Bk w16 pxs (u8s xs) 27 := (f31.no k16)
        have f35 : Bk w16 px (u8s ((xs.drop 0).take 16)) 23 := (f32.no k16)
        have f36 : Bk w16 py (u8s ((xs.drop 16).take 16)) 23 := (f33.no k16)
        refine ⟨⟨kk16, f34, f35, f36⟩, ?_⟩
        refine D_take 34 rfl (by kernel_rfl) (by kernel_rfl) (by kernel_rfl) (fun _ _ _ h => h) rfl (fun W hS => pu_pickt rfl rfl) ?_
        refine D_take 35 rfl (by kernel_rfl) (by kernel_rfl) (by kernel_rfl) (fun _ _ _ h => h) rfl (fun W hS => pu_assign rfl) ?_
        refine D_done (by kernel_rfl) ?_
        refine X_then hK14 ?_
        refine C_ret ?_
        exact X_ret1 (.inl rfl) rfl rfl ⟨rfl, kk16⟩
      · have f37 : Bk w4 pxs (u8s xs) 27 := (f_pxs_1.no k4)
        refine Nx_lo rfl (lo_alloc (L := u8s (List.replicate 16 0)) (by kernel_rfl)) rfl ?_
        rintro _ w17 ⟨py, rfl, N17⟩
        have k17 := N17.kp
        have kk17 := kk4.then_ k17
        have ne_py_pxs : py ≠ pxs := Nat.ne_of_gt (Nat.lt_of_lt_of_le f37.lt N17.le)
        have f_py_17 : Bk w17 py (u8s (List.replicate 16 0)) 23 := N17.bk
        have f38 : Bk w17 pxs (u8s xs) 27 := (f37.no k17)
        refine ⟨⟨kk17, f38⟩, ?_⟩
        refine D_one 4 (by kernel_rfl) (Nx_lo rfl (lo_alloc (L := u8s (List.replicate 16 0)) (by kernel_rfl)) rfl ?_)
        rintro _ w18 ⟨px, rfl, N18⟩
        have k18 := N18.kp
        have kk18 := kk17.then_ k18
        have ne_px_pxs : px ≠ pxs := Nat.ne_of_gt (Nat.lt_of_lt_of_le f38.lt N18.le)
        have ne_px_py : px ≠ py := Nat.ne_of_gt (Nat.lt_of_lt_of_le f_py_17.lt N18.le)
        have f_px_18 : Bk w18 px (u8s (List.replicate 16 0)) 23 := N18.bk
        have f39 : Bk w18 pxs (u8s xs) 27 := (f38.no k18)
        refine ⟨⟨kk18, f39⟩, ?_⟩
        refine D_one 6 (by kernel_rfl) (Nx_lo0 rfl (lo_storeRow (C := u8s ((xs.drop 0).take 16)) f_px_18 (by rw [u8s_length, (by_mid (o := 0) (n := 16) bxs (by decide)).1]; kernel_rfl) rfl rfl (u8s_each _) (by rw [u8s_length, u8s_length, (by_mid (o := 0) (n := 16) bxs (by decide)).1, (rep_by 16).1])) ?_)
        rintro _ w19 kf19
        obtain ⟨k19, f_px_19⟩ := kf19
        replace f_px_19 : Bk w19 px (u8s ((xs.drop 0).take 16)) 23 := f_px_19
        have kk19 := kk18.trans k19 (fun i hi => .inr (hi ▸ (Nat.le_trans kk17.size N18.le)))
        have f40 : Bk w19 pxs (u8s xs) 27 := (f39.on k19 (Ne.symm ne_px_pxs))
        refine ⟨⟨kk19, f40⟩, ?_⟩
        have f41 : Bk w19 py (u8s (List.replicate 16 0)) 23 := ((f_py_17.no k18).on k19 (Ne.symm ne_px_py))
        refine D_one 7 (by kernel_rfl) (Nx_lo0 rfl (lo_storeRow (C := u8s ((xs.drop 16).take 16)) f41 (by rw [u8s_length, (by_mid (o := 16) (n := 16) bxs (by decide)).1]; kernel_rfl) rfl rfl (u8s_each _) (by rw [u8s_length, u8s_length, (by_mid (o := 16) (n := 16) bxs (by decide)).1, (rep_by 16).1])) ?_)
        rintro _ w20 kf20
        obtain ⟨k20, f_py_20⟩ := kf20
        replace f_py_20 : Bk w20 py (u8s ((xs.drop 16).take 16)) 23 := f_py_20
        have kk20 := kk19.trans k20 (fun i hi => .inr (hi ▸ (Nat.le_trans kk4.size N17.le)))
        have f42 : Bk w20 pxs (u8s xs) 27 := (f40.on k20 (Ne.symm ne_py_pxs))
        refine ⟨⟨kk20, f42⟩, ?_⟩
        refine D_done (by kernel_rfl) ?_
        refine X_then hK6 ?_
        refine C_seq (fun K43 hK43 => ?_)
        have f44 : Bk w20 px (u8s ((xs.drop 0).take 16)) 23 := (f_px_19.on k20 ne_px_py)
        refine D_begin (fun W => Kp No w W ∧ Bk W pxs (u8s xs) 27 ∧ Bk W py (u8s ((xs.drop 16).take 16)) 23 ∧ Bk W px (u8s ((xs.drop 0).take 16)) 23) 36 rfl (by kernel_rfl) ⟨kk20.drew, f42.draw, f_py_20.draw, f44.draw⟩ ?_
        intro w21 k21 _
        have kk21 := kk20.then_ k21
        refine D_take 0 rfl (by kernel_rfl) (by kernel_rfl) (by kernel_rfl) (fun _ _ _ h => h) rfl (fun W hS => pu_loadRow (len := 16) hS.2.2.2 (by kernel_rfl) (by kernel_rfl) (by rw [u8s_length]; exact (by_mid (o := 0) (n := 16) bxs (by decide)).1) rfl) ?_
        refine D_take 1 rfl (by kernel_rfl) (by kernel_rfl) (by kernel_rfl) (fun _ _ _ h => h) rfl (fun W hS => pu_loadRow (len := 16) hS.2.2.1 (by kernel_rfl) (by kernel_rfl) (by rw [u8s_length]; exact (by_mid (o := 16) (n := 16) bxs (by decide)).1) rfl) ?_
        refine D_take 3 rfl (by kernel_rfl) (by kernel_rfl) (by kernel_rfl) (fun _ _ _ h => h) rfl (fun W hS => pu_indexAddrA (m := 0) (s := 16) (o' := 0) Try.underlying27 (by kernel_rfl) rfl rfl rfl (by omega) (by omega)) ?_
        refine D_take 4 rfl (by kernel_rfl) (by kernel_rfl) (by kernel_rfl) (fun _ _ _ h => h) rfl (fun W hS => pu_loadMid (len := 16) (C := u8s ((xs.drop 0).take 16)) hS.2.1 (by kernel_rfl) (by kernel_rfl) rfl (u8s_mid _ _ _) (by rw [u8s_length]; exact (by_mid (o := 0) (n := 16) bxs (by decide)).1)) ?_
        refine D_take 5 rfl (by kernel_rfl) (by kernel_rfl) (by kernel_rfl) (fun _ _ _ h => h) rfl (fun W hS => pu_indexAddrA (m := 1) (s := 16) (o' := 16) Try.underlying27 (by kernel_rfl) rfl rfl rfl (by omega) (by omega)) ?_
        refine D_take 6 rfl (by kernel_rfl) (by kernel_rfl) (by kernel_rfl) (fun _ _ _ h => h) rfl (fun W hS => pu_loadMid (len := 16) (C := u8s ((xs.drop 16).take 16)) hS.2.1 (by kernel_rfl) (by kernel_rfl) rfl (u8s_mid _ _ _) (by rw [u8s_length]; exact (by_mid (o := 16) (n := 16) bxs (by decide)).1)) ?_
        refine D_one 2 (by kernel_rfl) (Nx_lo rfl (lo_call (by kernel_rfl) rfl (r_add (by_mid (o := 0) (n := 16) bxs (by decide)) (by_mid (o := 16) (n := 16) bxs (by decide)) _)) rfl ?_)
        rintro _ w22 ⟨rfl, k22⟩
        have kk22 := kk21.then_ k22
        have f45 : Bk w22 pxs (u8s xs) 27 := ((f42.no k21).no k22)
        have f46 : Bk w22 py (u8s ((xs.drop 16).take 16)) 23 := ((f_py_20.no k21).no k22)
        have f47 : Bk w22 px (u8s ((xs.drop 0).take 16)) 23 := ((f44.no k21).no k22)
        refine ⟨⟨kk22, f45, f46, f47⟩, ?_⟩
        refine D_one 7 (by kernel_rfl) (Nx_lo rfl (lo_call (by kernel_rfl) rfl (ref_add ((xs.drop 0).take 16) ((xs.drop 16).take 16) (by_mid (o := 0) (n := 16) bxs (by decide)) (by_mid (o := 16) (n := 16) bxs (by decide)) _)) rfl ?_)
        rintro _ w23 ⟨rfl, k23⟩
        have kk23 := kk22.then_ k23
        have f48 : Bk w23 pxs (u8s xs) 27 := (f45.no k23)
        have f49 : Bk w23 py (u8s ((xs.drop 16).take 16)) 23 := (f46.no k23)
        have f50 : Bk w23 px (u8s ((xs.drop 0).take 16)) 23 := (f47.no k23)
        refine ⟨⟨kk23, f48, f49, f50⟩, ?_⟩
        refine D_take 8 rfl (by kernel_rfl) (by kernel_rfl) (by kernel_rfl) (fun _ _ _ h => h) rfl (fun W hS => pu_true (pu_eqlB (t := 23) Try.underlying23 Try.underlying5 (by kernel_rfl) (by kernel_rfl) ((addB_by _ _)) ((xorL_by (by_mid (o := 0) (n := 16) bxs (by decide)) (by_mid (o := 16) (n := 16) bxs (by decide)))) rfl rfl) (addB_xorL (by_mid bxs (by decide)) (by_mid bxs (by decide)))) ?_
        refine D_take 9 rfl (by kernel_rfl) (by kernel_rfl) (by kernel_rfl) (fun _ _ _ h => h) rfl (fun W hS => pu_move rfl) ?_
        refine D_gtake 10 rfl rfl rfl (by kernel_rfl) (by kernel_rfl) (by kernel_rfl) (fun _ _ _ h => h) rfl (fun W hS => pu_loadRow (len := 16) hS.2.2.2 (by kernel_rfl) (by kernel_rfl) (by rw [u8s_length]; exact (by_mid (o := 0) (n := 16) bxs (by decide)).1) rfl) ?_
        refine D_gtake 11 rfl rfl rfl (by kernel_rfl) (by kernel_rfl) (by kernel_rfl) (fun _ _ _ h => h) rfl (fun W hS => pu_loadRow (len := 16) hS.2.2.1 (by kernel_rfl) (by kernel_rfl) (by rw [u8s_length]; exact (by_mid (o := 16) (n := 16) bxs (by decide)).1) rfl) ?_
        refine D_gtake 13 rfl rfl rfl (by kernel_rfl) (by kernel_rfl) (by kernel_rfl) (fun _ _ _ h => h) rfl (fun W hS => pu_indexAddrA (m := 0) (s := 16) (o' := 0) Try.underlying27 (by kernel_rfl) rfl rfl rfl (by omega) (by omega)) ?_
        refine D_gtake 14 rfl rfl rfl (by kernel_rfl) (by kernel_rfl) (by kernel_rfl) (fun _ _ _ h => h) rfl (fun W hS => pu_loadMid (len := 16) (C := u8s ((xs.drop 0).take 16)) hS.2.1 (by kernel_rfl) (by kernel_rfl) rfl (u8s_mid _ _ _) (by rw [u8s_length]; exact (by_mid (o := 0) (n := 16) bxs (by decide)).1)) ?_
        refine D_gtake 15 rfl rfl rfl (by kernel_rfl) (by kernel_rfl) (by kernel_rfl) (fun _ _ _ h => h) rfl (fun W hS => pu_indexAddrA (m := 1) (s := 16) (o' := 16) Try.underlying27 (by kernel_rfl) rfl rfl rfl (by omega) (by omega)) ?_
        refine D_gtake 16 rfl rfl rfl (by kernel_rfl) (by kernel_rfl) (by kernel_rfl) (fun _ _ _ h => h) rfl (fun W hS => pu_loadMid (len := 16) (C := u8s ((xs.drop 16).take 16)) hS.2.1 (by kernel_rfl) (by kernel_rfl) rfl (u8s_mid _ _ _) (by rw [u8s_length]; exact (by_mid (o := 16) (n := 16) bxs (by decide)).1)) ?_
        refine D_one 12 (by kernel_rfl) (Nx_glo rfl rfl rfl (lo_call (by kernel_rfl) rfl (r_mul (by_mid (o := 0) (n := 16) bxs (by decide)) (by_mid (o := 16) (n := 16) bxs (by decide)) _)) rfl ?_)
        rintro _ w24 ⟨rfl, k24⟩
        have kk24 := kk23.then_ k24
        have f51 : Bk w24 pxs (u8s xs) 27 := (f48.no k24)
        have f52 : Bk w24 py (u8s ((xs.drop 16).take 16)) 23 := (f49.no k24)
        have f53 : Bk w24 px (u8s ((xs.drop 0).take 16)) 23 := (f50.no k24)
        refine ⟨⟨kk24, f51, f52, f53⟩, ?_⟩
        refine D_one 17 (by kernel_rfl) (Nx_glo rfl rfl rfl (lo_call (by kernel_rfl) rfl (ref_mul ((xs.drop 0).take 16) ((xs.drop 16).take 16) (by_mid (o := 0) (n := 16) bxs (by decide)) (by_mid (o := 16) (n := 16) bxs (by decide)) _)) rfl ?_)
        rintro _ w25 ⟨rfl, k25⟩
        have kk25 := kk24.then_ k25
        have f54 : Bk w25 pxs (u8s xs) 27 := (f51.no k25)
        have f55 : Bk w25 py (u8s ((xs.drop 16).take 16)) 23 := (f52.no k25)
        have f56 : Bk w25 px (u8s ((xs.drop 0).take 16)) 23 := (f53.no k25)
        refine ⟨⟨kk25, f54, f55, f56⟩, ?_⟩
        refine D_gtake 18 rfl rfl rfl (by kernel_rfl) (by kernel_rfl) (by kernel_rfl) (fun _ _ _ h => h) rfl (fun W hS => pu_true (pu_eqlB (t := 23) Try.underlying23 Try.underlying5 (by kernel_rfl) (by kernel_rfl) ((mulB_by _ _)) ((mulB_by _ _)) rfl rfl) rfl) ?_
        refine D_take 19 rfl (by kernel_rfl) (by kernel_rfl) (by kernel_rfl) (fun _ _ _ h => h) rfl (fun W hS => pu_pickt rfl rfl) ?_
        refine D_take 20 rfl (by kernel_rfl) (by kernel_rfl) (by kernel_rfl) (fun _ _ _ h => h) rfl (fun W hS => pu_move rfl) ?_
        refine D_gtake 21 rfl rfl rfl (by kernel_rfl) (by kernel_rfl) (by kernel_rfl) (fun _ _ _ h => h) rfl (fun W hS => pu_loadRow (len := 16) hS.2.2.2 (by kernel_rfl) (by kernel_rfl) (by rw [u8s_length]; exact (by_mid (o := 0) (n := 16) bxs (by decide)).1) rfl) ?_
        refine D_gtake 22 rfl rfl rfl (by kernel_rfl) (by kernel_rfl) (by kernel_rfl) (fun _ _ _ h => h) rfl (fun W hS => pu_move rfl) ?_
        refine D_gtake 23 rfl rfl rfl (by kernel_rfl) (by kernel_rfl) (by kernel_rfl) (fun _ _ _ h => h) rfl (fun W hS => pu_move rfl) ?_
        refine D_gtake 25 rfl rfl rfl (by kernel_rfl) (by kernel_rfl) (by kernel_rfl) (fun _ _ _ h => h) rfl (fun W hS => pu_indexAddrA (m := 0) (s := 16) (o' := 0) Try.underlying27 (by kernel_rfl) rfl rfl rfl (by omega) (by omega)) ?_
        refine D_gtake 26 rfl rfl rfl (by kernel_rfl) (by kernel_rfl) (by kernel_rfl) (fun _ _ _ h => h) rfl (fun W hS => pu_loadMid (len := 16) (C := u8s ((xs.drop 0).take 16)) hS.2.1 (by kernel_rfl) (by kernel_rfl) rfl (u8s_mid _ _ _) (by rw [u8s_length]; exact (by_mid (o := 0) (n := 16) bxs (by decide)).1)) ?_
        refine D_gtake 27 rfl rfl rfl (by kernel_rfl) (by kernel_rfl) (by kernel_rfl) (fun _ _ _ h => h) rfl (fun W hS => pu_move rfl) ?_
        refine D_gtake 28 rfl rfl rfl (by kernel_rfl) (by kernel_rfl) (by kernel_rfl) (fun _ _ _ h => h) rfl (fun W hS => pu_move rfl) ?_
        refine D_one 24 (by kernel_rfl) (Nx_glo rfl rfl rfl (lo_call (by kernel_rfl) rfl (r_hash ((xs.drop 0).take 16) (by_mid (o := 0) (n := 16) bxs (by decide)) A1 A2 l1 l2 c1 c2 _ (HB1.keptNo kk25) hc1 (HB2.keptNo kk25) hc2 (by first | omega | (simp; done) | (simp; omega)) (by first | omega | (simp; done) | (simp; omega)))) rfl ?_)
        rintro _ w26 ⟨rfl, k26⟩
        have kk26 := kk25.then_ k26
        have f57 : Bk w26 pxs (u8s xs) 27 := (f54.no k26)
        have f58 : Bk w26 py (u8s ((xs.drop 16).take 16)) 23 := (f55.no k26)
        have f59 : Bk w26 px (u8s ((xs.drop 0).take 16)) 23 := (f56.no k26)
        refine ⟨⟨kk26, f57, f58, f59⟩, ?_⟩
        refine D_one 29 (by kernel_rfl) (Nx_glo rfl rfl rfl (lo_call (by kernel_rfl) rfl (ref_hash ((xs.drop 0).take 16) (by_mid (o := 0) (n := 16) bxs (by decide)) A1 A2 l1 l2 c1 c2 _ (HB1.keptNo kk26) hc1 (HB2.keptNo kk26) hc2 (by first | omega | (simp; done) | (simp; omega)) (by first | omega | (simp; done) | (simp; omega)))) rfl ?_)
        rintro _ w27 ⟨rfl, k27⟩
        have kk27 := kk26.then_ k27
        have f60 : Bk w27 pxs (u8s xs) 27 := (f57.no k27)
        have f61 : Bk w27 py (u8s ((xs.drop 16).take 16)) 23 := (f58.no k27)
        have f62 : Bk w27 px (u8s ((xs.drop 0).take 16)) 23 := (f59.no k27)
        refine ⟨⟨kk27, f60, f61, f62⟩, ?_⟩
        refine D_gtake 30 rfl rfl rfl (by kernel_rfl) (by kernel_rfl) (by kernel_rfl) (fun _ _ _ h => h) rfl (fun W hS => pu_true (pu_eqlB (t := 23) Try.underlying23 Try.underlying5 (by kernel_rfl) (by kernel_rfl) ((hashB_by _ _ _)) ((hashB_by _ _ _)) rfl rfl) rfl) ?_
        refine D_take 31 rfl (by kernel_rfl) (by kernel_rfl) (by kernel_rfl) (fun _ _ _ h => h) rfl (fun W hS => pu_pickt rfl rfl) ?_
        refine D_take 32 rfl (by kernel_rfl) (by kernel_rfl) (by kernel_rfl) (fun _ _ _ h => h) rfl (fun W hS => pu_move rfl) ?_
        refine D_one 33 (by kernel_rfl) (Nx_glo rfl rfl rfl (lo_call (by kernel_rfl) rfl (r_sure _)) rfl ?_)
        rintro _ w28 ⟨rfl, k28⟩
        have kk28 := kk27.then_ k28
        have f63 : Bk w28 pxs (u8s xs) 27 := (f60.no k28)
        have f64 : Bk w28 py (u8s ((xs.drop 16).take 16)) 23 := (f61.no k28)
        have f65 : Bk w28 px (u8s ((xs.drop 0).take 16)) 23 := (f62.no k28)
        refine ⟨⟨kk28, f63, f64, f65⟩, ?_⟩
        refine D_take 34 rfl (by kernel_rfl) (by kernel_rfl) (by kernel_rfl) (fun _ _ _ h => h) rfl (fun W hS => pu_pickt rfl rfl) ?_
        refine D_take 35 rfl (by kernel_rfl) (by kernel_rfl) (by kernel_rfl) (fun _ _ _ h => h) rfl (fun W hS => pu_assign rfl) ?_
        refine D_done (by kernel_rfl) ?_
        refine X_then hK43 ?_
        refine C_ret ?_
        exact X_ret1 (.inl rfl) rfl rfl ⟨rfl, kk28⟩
theorem zx_snoc {l m : List Nat} {k p q : Nat} (hp : l[k]? = some p) (hq : m[k]? = some q) : zx (l.take k) (m.take k) ++ [p ^^^ q] = zx (l.take (k + 1)) (m.take (k + 1)) := by
  have hk := (List.getElem?_eq_some_iff.1 hp).1
  have hk' := (List.getElem?_eq_some_iff.1 hq).1
  rw [List.take_add_one, List.take_add_one, hp, hq]
  unfold zx
  rw [List.zipWith_append (by simp; omega)]
  rfl
set_option maxRecDepth 100000 in
set_option maxHeartbeats 2000000 in
theorem ghashLinear_ (x : List Nat) (bx : By 16 x) (A1 : Option Addr) (l : List Nat) (c1 : Nat) (A2 : Option Addr) (m : List Nat) (c2 : Nat) (w : World) (HB1 : Bs w A1 l) (hc1 : l.length ≤ c1) (HB2 : Bs w A2 m) (hc2 : m.length ≤ c2) : Ret Try.prog 5 #[.agg (u8s x).toArray, .slice A1 (l.length) (c1), .slice A2 (m.length) (c2)] w (fun v w' => v = .bool true ∧ Kp No w w') := by
  have kk0 := Kp.refl No w
  refine enter (n := 64) [.agg (u8s x).toArray, .slice A1 (l.length) (c1), .slice A2 (m.length) (c2)] Try.func5 rfl rfl rfl ?_
  show Cw _ _ _ _ [(0, .agg (u8s x).toArray), (1, .slice A1 (l.length) (c1)), (2, .slice A2 (m.length) (c2))] _
  refine C_seq (fun K1 hK1 => ?_)
  refine C_region ?_
  refine R_lo (lo_box (L := u8s x) rfl rfl) rfl ?_
  rintro _ w1 ⟨p0_0, rfl, N1⟩
  have k1 := N1.kp
  have kk1 := kk0.then_ k1
  have f_p0_0_1 : Bk w1 p0_0 (u8s x) 22 := N1.bk
  refine R_pu (pu_assign rfl) rfl ?_
  refine R_nil ?_
  refine X_then hK1 ?_
  refine C_seq (fun K2 hK2 => ?_)
  refine C_seq (fun K3 hK3 => ?_)
  refine C_region ?_
  refine R_pu (pu_move rfl) rfl ?_
  refine R_pu (pu_len Try.underlying28 rfl) rfl ?_
  refine R_pu (pu_gtr (p := l.length > 200) rfl rfl (by omega)) rfl ?_
  by_cases g1_3 : l.length > 200
  · refine R_pu (pu_true (pu_move rfl) g1_3) rfl ?_
    refine R_gno rfl rfl rfl rfl ?_
    refine R_gno rfl rfl rfl rfl ?_
    refine R_gno rfl rfl rfl rfl ?_
    refine R_gno rfl rfl rfl rfl ?_
    refine R_gno rfl rfl rfl rfl ?_
    refine R_pu (pu_pickt rfl rfl) rfl ?_
    refine R_nil ?_
    refine X_then hK3 ?_
    refine C_true rfl ?_
    refine C_seq (fun K4 hK4 => ?_)
    refine C_region ?_
    refine R_lo (lo_call (by kernel_rfl) rfl (r_sure _)) rfl ?_
    rintro _ w2 ⟨rfl, k2⟩
    have kk2 := kk1.then_ k2
    refine R_pu (pu_assign rfl) rfl ?_
    refine R_nil ?_
    refine X_then hK4 ?_
    refine C_ret ?_
    refine X_then_ret ?_
    exact X_ret1 (.inl rfl) rfl rfl ⟨rfl, kk2⟩
  · refine R_pu (pu_false (pu_move rfl) g1_3) rfl ?_
    refine R_gpu rfl rfl (pu_move rfl) rfl ?_
    refine R_gpu rfl rfl (pu_len Try.underlying28 rfl) rfl ?_
    refine R_gpu rfl rfl (pu_move rfl) rfl ?_
    refine R_gpu rfl rfl (pu_len Try.underlying28 rfl) rfl ?_
    refine R_gpu rfl rfl (pu_neq (p := m.length = l.length) rfl rfl (by omega)) rfl ?_
    refine R_pu (pu_pickf rfl rfl) rfl ?_
    refine R_nil ?_
    refine X_then hK3 ?_
    refine C_dec rfl (fun h21 => ?_) (fun h21 => ?_)
    · refine C_seq (fun K5 hK5 => ?_)
      refine C_region ?_
      refine R_lo (lo_call (by kernel_rfl) rfl (r_sure _)) rfl ?_
      rintro _ w3 ⟨rfl, k3⟩
      have kk3 := kk1.then_ k3
      refine R_pu (pu_assign rfl) rfl ?_
      refine R_nil ?_
      refine X_then hK5 ?_
      refine C_ret ?_
      refine X_then_ret ?_
      exact X_ret1 (.inl rfl) rfl rfl ⟨rfl, kk3⟩
    · refine C_skip ?_
      refine X_then hK2 ?_
      refine C_seq (fun K6 hK6 => ?_)
      refine C_region ?_
      refine R_pu (pu_loadRow (len := 16) f_p0_0_1 (by kernel_rfl) (by kernel_rfl) (by rw [u8s_length]; exact bx.1) rfl) rfl ?_
      refine R_lo (lo_alloc (L := u8s (List.replicate 16 0)) (by kernel_rfl)) rfl ?_
      rintro _ w4 ⟨p3_1, rfl, N4⟩
      have k4 := N4.kp
      have kk4 := kk1.then_ k4
      have ne_p3_1_p0_0 : p3_1 ≠ p0_0 := Nat.ne_of_gt (Nat.lt_of_lt_of_le f_p0_0_1.lt N4.le)
      have f_p3_1_4 : Bk w4 p3_1 (u8s (List.replicate 16 0)) 23 := N4.bk
      refine R_lo0 (lo_storeRow (C := u8s x) f_p3_1_4 (by rw [u8s_length, bx.1]; kernel_rfl) rfl rfl (u8s_each _) (by rw [u8s_length, u8s_length, bx.1, (rep_by 16).1])) ?_
      rintro _ w5 kf5
      obtain ⟨k5, f_p3_1_5⟩ := kf5
      replace f_p3_1_5 : Bk w5 p3_1 (u8s x) 23 := f_p3_1_5
      have kk5 := kk4.trans k5 (fun i hi => .inr (hi ▸ (Nat.le_trans kk1.size N4.le)))
      refine R_nil ?_
      refine X_then hK6 ?_
      refine C_seq (fun K7 hK7 => ?_)
      refine C_region ?_
      refine R_pu (pu_assign rfl) rfl ?_
      refine R_nil ?_
      refine X_then hK7 ?_
      refine C_seq (fun K8 hK8 => ?_)
      refine C_seq (fun K9 hK9 => ?_)
      refine C_region ?_
      refine R_pu (pu_assign rfl) rfl ?_
      refine R_nil ?_
      refine X_then hK9 ?_
      refine C_block ?_
      have hlm : m.length = l.length := by omega
      have f10 : Bk w5 p0_0 (u8s x) 22 := ((f_p0_0_1.no k4).on k5 (Ne.symm ne_p3_1_p0_0))
      have ob11 := Ob.nil w5 w5.heap.size
      have z12 := Nat.le_refl w5.heap.size
      refine C_loop (fun m_ l_ wr => ∃ k : Nat, ∃ An : Option Addr, ∃ cn : Nat, (m_ = l.length - k) ∧ (l_ = [(1, .slice A1 (l.length) (c1)), (2, .slice A2 (m.length) (c2)), (6, .bool false), (7, .pointer (some ⟨p3_1, 0, none⟩)), (8, .slice An ((zx (l.take k) (m.take k)).length) (cn)), (9, .int .i64 ((k : Nat) : Int))]) ∧ (k ≤ l.length) ∧ (Kp No w wr) ∧ (Bk wr p0_0 (u8s x) 22) ∧ (Bk wr p3_1 (u8s x) 23) ∧ (Ob wr w5.heap.size (.slice An (zx (l.take k) (m.take k)).length cn) (zx (l.take k) (m.take k)) ∧ w5.heap.size ≤ (wr).heap.size)) (l.length - 0) [(1, .slice A1 (l.length) (c1)), (2, .slice A2 (m.length) (c2)), (6, .bool false), (7, .pointer (some ⟨p3_1, 0, none⟩)), (8, .slice none ((zx (l.take 0) (m.take 0)).length) (0)), (9, .int .i64 0)] (Sub.cons rfl (Sub.cons rfl (Sub.cons rfl (Sub.cons rfl (Sub.cons rfl (Sub.cons rfl (Sub.nil _))))))) ⟨0, none, 0, rfl, rfl, by omega, kk5, f10, f_p3_1_5, ⟨ob11, z12⟩⟩ ?_
      rintro _ _ w6 ⟨k, An, cn, rfl, rfl, hk, kk6, f_p0_0_6, f_p3_1_6, n_6⟩
      refine C_seq (fun K13 hK13 => ?_)
      refine C_seq (fun K14 hK14 => ?_)
      refine C_region ?_
      refine R_pu (pu_move rfl) rfl ?_
      refine R_pu (pu_move rfl) rfl ?_
      refine R_pu (pu_len Try.underlying28 rfl) rfl ?_
      refine R_pu (pu_lss (p := k < l.length) rfl rfl (by omega)) rfl ?_
      refine R_nil ?_
      refine X_then hK14 ?_
      refine C_dec rfl (fun h27 => ?_) (fun h27 => ?_)
      · refine C_skip ?_
        refine X_then hK13 ?_
        refine C_seq (fun K15 hK15 => ?_)
        refine C_block ?_
        refine D_begin (fun W => Kp No w W ∧ Bk W p0_0 (u8s x) 22 ∧ Bk W p3_1 (u8s x) 23) 13 rfl (by kernel_rfl) ⟨kk6.drew, f_p0_0_6.draw, f_p3_1_6.draw⟩ ?_
        intro w7 k7 _
        have kk7 := kk6.then_ k7
        refine D_take 0 rfl (by kernel_rfl) (by kernel_rfl) (by kernel_rfl) (fun _ _ _ h => h) rfl (fun W hS => pu_move rfl) ?_
        refine D_take 1 rfl (by kernel_rfl) (by kernel_rfl) (by kernel_rfl) (fun _ _ _ h => h) rfl (fun W hS => pu_move rfl) ?_
        refine D_take 2 rfl (by kernel_rfl) (by kernel_rfl) (by kernel_rfl) (fun _ _ _ h => h) rfl (fun W hS => pu_move rfl) ?_
        refine D_take 3 rfl (by kernel_rfl) (by kernel_rfl) (by kernel_rfl) (fun _ _ _ h => h) rfl (fun W hS => pu_indexAddrB (m := k) (HB1.keptNo hS.1) Try.underlying28 (by kernel_rfl) rfl rfl rfl rfl (by omega)) ?_
        obtain ⟨p, e_p⟩ : ∃ q_, (l)[k]? = some q_ := ⟨_, List.getElem?_eq_getElem (by omega)⟩
        have b_p : p < 256 := ((HB1.keptNo kk7)).lt e_p
        refine D_take 4 rfl (by kernel_rfl) (by kernel_rfl) (by kernel_rfl) (fun _ _ _ h => h) rfl (fun W hS => pu_loadB (HB1.keptNo hS.1) (by kernel_rfl) rfl e_p) ?_
        refine D_take 5 rfl (by kernel_rfl) (by kernel_rfl) (by kernel_rfl) (fun _ _ _ h => h) rfl (fun W hS => pu_move rfl) ?_
        refine D_take 6 rfl (by kernel_rfl) (by kernel_rfl) (by kernel_rfl) (fun _ _ _ h => h) rfl (fun W hS => pu_move rfl) ?_
        refine D_take 7 rfl (by kernel_rfl) (by kernel_rfl) (by kernel_rfl) (fun _ _ _ h => h) rfl (fun W hS => pu_indexAddrB (m := k) (HB2.keptNo hS.1) Try.underlying28 (by kernel_rfl) rfl rfl rfl rfl (by omega)) ?_
        obtain ⟨q, e_q⟩ : ∃ q_, (m)[k]? = some q_ := ⟨_, List.getElem?_eq_getElem (by omega)⟩
        have b_q : q < 256 := ((HB2.keptNo kk7)).lt e_q
        refine D_take 8 rfl (by kernel_rfl) (by kernel_rfl) (by kernel_rfl) (fun _ _ _ h => h) rfl (fun W hS => pu_loadB (HB2.keptNo hS.1) (by kernel_rfl) rfl e_q) ?_
        refine D_take 9 rfl (by kernel_rfl) (by kernel_rfl) (by kernel_rfl) (fun _ _ _ h => h) rfl (fun W hS => pu_xor rfl rfl (u8_xor_nat p q b_p b_q)) ?_
        have f16 : Bk w7 p0_0 (u8s x) 22 := (f_p0_0_6.no k7)
        have f17 : Bk w7 p3_1 (u8s x) 23 := (f_p3_1_6.no k7)
        have ob18 := (n_6.1.keptNo k7)
        refine D_one 10 (by kernel_rfl) (Nx_lo rfl (lo_buildSlice (L := u8s ([p ^^^ q])) Try.underlying28 rfl (by kernel_rfl)) rfl ?_)
        rintro _ w8 ⟨p8_10, rfl, N8⟩
        have k8 := N8.kp
        have kk8 := kk7.then_ k8
        have ne_p8_10_p0_0 : p8_10 ≠ p0_0 := Nat.ne_of_gt (Nat.lt_of_lt_of_le f16.lt N8.le)
        have ne_p8_10_p3_1 : p8_10 ≠ p3_1 := Nat.ne_of_gt (Nat.lt_of_lt_of_le f17.lt N8.le)
        have f_p8_10_8 : Bk w8 p8_10 (u8s ([p ^^^ q])) 5 := N8.bk
        have f19 : Bk w8 p0_0 (u8s x) 22 := (f16.no k8)
        have f20 : Bk w8 p3_1 (u8s x) 23 := (f17.no k8)
        refine ⟨⟨kk8, f19, f20⟩, ?_⟩
        have ob21 := (ob18.keptNo k8)
        refine D_one 11 (by kernel_rfl) (Nx_lo rfl (lo_app (X := zx (l.take k) (m.take k)) (Y := [p ^^^ q]) ob21 ob21.le.1 rfl rfl (show By 1 [p ^^^ q] from ⟨rfl, fun n hn => by rw [List.mem_singleton.1 hn]; exact (Nat.xor_lt_two_pow (n := 8) b_p b_q)⟩).1 (Bs.ofBk f_p8_10_8 (show By 1 [p ^^^ q] from ⟨rfl, fun n hn => by rw [List.mem_singleton.1 hn]; exact (Nat.xor_lt_two_pow (n := 8) b_p b_q)⟩)) (by rw [zx_length (by rw [List.length_take, List.length_take, hlm]), List.length_take]; simp; omega) (Nat.le_trans (Nat.le_trans n_6.2 k7.size) k8.size)) rfl ?_)
        rintro _ w9 ⟨A_9, c_9, rfl, p9⟩
        have k9 := p9.kp
        have kk9 := kk8.trans k9 (fun i hi => .inr (Nat.le_trans (kk5).size hi))
        have f22 : Bk w9 p0_0 (u8s x) 22 := (f19.kept k9 (by have := f10.lt; omega))
        have f23 : Bk w9 p3_1 (u8s x) 23 := (f20.kept k9 (by have := f_p3_1_5.lt; omega))
        refine ⟨⟨kk9, f22, f23⟩, ?_⟩
        refine D_take 12 rfl (by kernel_rfl) (by kernel_rfl) (by kernel_rfl) (fun _ _ _ h => h) rfl (fun W hS => pu_assign rfl) ?_
        refine D_done (by kernel_rfl) ?_
        refine X_in_normal ?_
        refine X_then hK15 ?_
        refine C_region ?_
        refine R_pu (pu_move rfl) rfl ?_
        refine R_pu (pu_add (z := ((k + 1 : Nat) : Int)) rfl rfl (by rw [IntKind.wrap_i64]; omega)) rfl ?_
        refine R_pu (pu_assign rfl) rfl ?_
        refine R_nil ?_
        refine X_round (l.length - (k + 1)) [(1, .slice A1 (l.length) (c1)), (2, .slice A2 (m.length) (c2)), (6, .bool false), (7, .pointer (some ⟨p3_1, 0, none⟩)), (8, .slice A_9 ((zx (l.take (k + 1)) (m.take (k + 1))).length) (c_9)), (9, .int .i64 (((k + 1) : Nat) : Int))] (by omega) (Sub.cons rfl (Sub.cons rfl (Sub.cons rfl (Sub.cons rfl (Sub.consE rfl (by rw [zx_snoc e_p e_q]) (Sub.cons rfl (Sub.nil _))))))) ⟨k + 1, A_9, c_9, rfl, rfl, by omega, kk9, f22, f23, ⟨by rw [← zx_snoc e_p e_q]; exact p9.ob, (Nat.le_trans (Nat.le_trans (Nat.le_trans n_6.2 k7.size) k8.size) k9.size)⟩⟩
      · refine C_exit ?_
        refine X_then_exit (X_then_exit (X_in_eq ?_))
        refine X_then hK8 ?_
        refine C_cut (fun l_ wr => ∃ pa : Nat, ∃ pb : Nat, (l_ = [(1, .slice A1 (l.length) (c1)), (6, .bool false), (7, .pointer (some ⟨p3_1, 0, none⟩)), (8, .slice An ((zx (l.take k) (m.take k)).length) (cn)), (10, .pointer (some ⟨pa, 0, none⟩)), (11, .pointer (some ⟨pb, 0, none⟩))]) ∧ (Kp No w wr) ∧ (Bk wr p0_0 (u8s x) 22) ∧ (Bk wr p3_1 (u8s x) 23) ∧ (Bk wr pa (u8s (hashB x [] l)) 23) ∧ (Bk wr pb (u8s (hashB x [] m)) 23) ∧ (Ob wr w5.heap.size (.slice An ((zx (l.take k) (m.take k)).length) (cn)) (zx (l.take k) (m.take k)) ∧ w5.heap.size ≤ (wr).heap.size)) (fun K_ hK_ => ?_) ?_
        · have ez : zx (l.take k) (m.take k) = zx l m := by rw [List.take_of_length_le (by omega), List.take_of_length_le (by omega)]
          have s1 : (zx (l.take k) (m.take k)).length < 2 ^ 60 := by rw [ez, zx_length hlm.symm]; omega
          refine D_begin (fun W => Kp No w W ∧ Bk W p0_0 (u8s x) 22 ∧ Bk W p3_1 (u8s x) 23) 10 rfl (by kernel_rfl) ⟨kk6.drew, f_p0_0_6.draw, f_p3_1_6.draw⟩ ?_
          intro w10 k10 _
          have kk10 := kk6.then_ k10
          refine D_take 0 rfl (by kernel_rfl) (by kernel_rfl) (by kernel_rfl) (fun _ _ _ h => h) rfl (fun W hS => pu_loadRow (len := 16) hS.2.2 (by kernel_rfl) (by kernel_rfl) (by rw [u8s_length]; exact bx.1) rfl) ?_
          refine D_take 1 rfl (by kernel_rfl) (by kernel_rfl) (by kernel_rfl) (fun _ _ _ h => h) rfl (fun W hS => pu_move rfl) ?_
          refine D_take 3 rfl (by kernel_rfl) (by kernel_rfl) (by kernel_rfl) (fun _ _ _ h => h) rfl (fun W hS => pu_loadRow (len := 16) hS.2.2 (by kernel_rfl) (by kernel_rfl) (by rw [u8s_length]; exact bx.1) rfl) ?_
          refine D_take 4 rfl (by kernel_rfl) (by kernel_rfl) (by kernel_rfl) (fun _ _ _ h => h) rfl (fun W hS => pu_move rfl) ?_
          refine D_three 2 6 7 (by kernel_rfl) ?_ ?_ ?_
          · refine Nx_lo rfl (lo_call (by kernel_rfl) rfl (r_hash x bx none A1 ([]) l 0 c1 _ (Bs.nil _ none) (Nat.le_refl _) (HB1.keptNo kk10) hc1 (by first | omega | (simp; done) | (simp; omega)) (by first | omega | (simp; done) | (simp; omega)))) rfl ?_
            rintro _ w11 ⟨rfl, k11⟩
            have kk11 := kk10.then_ k11
            have f24 : Bk w11 p0_0 (u8s x) 22 := ((f_p0_0_6.no k10).no k11)
            have f25 : Bk w11 p3_1 (u8s x) 23 := ((f_p3_1_6.no k10).no k11)
            refine ⟨⟨kk11, f24, f25⟩, ?_⟩
            refine D_three 5 6 7 (by kernel_rfl) ?_ ?_ ?_
            · refine Nx_lo rfl (lo_call (by kernel_rfl) rfl (r_hash x bx none A2 ([]) m 0 c2 _ (Bs.nil _ none) (Nat.le_refl _) (HB2.keptNo kk11) hc2 (by first | omega | (simp; done) | (simp; omega)) (by first | omega | (simp; done) | (simp; omega)))) rfl ?_
              rintro _ w12 ⟨rfl, k12⟩
              have kk12 := kk11.then_ k12
              have f26 : Bk w12 p0_0 (u8s x) 22 := (f24.no k12)
              have f27 : Bk w12 p3_1 (u8s x) 23 := (f25.no k12)
              refine ⟨⟨kk12, f26, f27⟩, ?_⟩
              refine D_two 6 7 (by kernel_rfl) ?_ ?_
              · have ob28 := (((n_6.1.keptNo k10).keptNo k11).keptNo k12)
                refine Nx_lo rfl (lo_alloc (L := u8s (List.replicate 16 0)) (by kernel_rfl)) rfl ?_
                rintro _ w13 ⟨p9_6, rfl, N13⟩
                have k13 := N13.kp
                have kk13 := kk12.then_ k13
                have ne_p9_6_p0_0 : p9_6 ≠ p0_0 := Nat.ne_of_gt (Nat.lt_of_lt_of_le f26.lt N13.le)
                have ne_p9_6_p3_1 : p9_6 ≠ p3_1 := Nat.ne_of_gt (Nat.lt_of_lt_of_le f27.lt N13.le)
                have f_p9_6_13 : Bk w13 p9_6 (u8s (List.replicate 16 0)) 23 := N13.bk
                have f29 : Bk w13 p0_0 (u8s x) 22 := (f26.no k13)
                have f30 : Bk w13 p3_1 (u8s x) 23 := (f27.no k13)
                refine ⟨⟨kk13, f29, f30⟩, ?_⟩
                have ob31 := (ob28.keptNo k13)
                refine D_one 7 (by kernel_rfl) (Nx_lo rfl (lo_alloc (L := u8s (List.replicate 16 0)) (by kernel_rfl)) rfl ?_)
                rintro _ w14 ⟨p9_7, rfl, N14⟩
                have k14 := N14.kp
                have kk14 := kk13.then_ k14
                have ne_p9_7_p0_0 : p9_7 ≠ p0_0 := Nat.ne_of_gt (Nat.lt_of_lt_of_le f29.lt N14.le)
                have ne_p9_7_p3_1 : p9_7 ≠ p3_1 := Nat.ne_of_gt (Nat.lt_of_lt_of_le f30.lt N14.le)
                have ne_p9_7_p9_6 : p9_7 ≠ p9_6 := Nat.ne_of_gt (Nat.lt_of_lt_of_le f_p9_6_13.lt N14.le)
                have f_p9_7_14 : Bk w14 p9_7 (u8s (List.replicate 16 0)) 23 := N14.bk
                have f32 : Bk w14 p0_0 (u8s x) 22 := (f29.no k14)
                have f33 : Bk w14 p3_1 (u8s x) 23 := (f30.no k14)
                refine ⟨⟨kk14, f32, f33⟩, ?_⟩
                have f34 : Bk w14 p9_6 (u8s (List.replicate 16 0)) 23 := (f_p9_6_13.no k14)
                refine D_one 8 (by kernel_rfl) (Nx_lo0 rfl (lo_storeRow (C := u8s (hashB x ([]) l)) f34 (by rw [u8s_length, (hashB_by _ _ _).1]; kernel_rfl) rfl rfl (u8s_each _) (by rw [u8s_length, u8s_length, (hashB_by _ _ _).1, (rep_by 16).1])) ?_)
                rintro _ w15 kf15
                obtain ⟨k15, f_p9_6_15⟩ := kf15
                replace f_p9_6_15 : Bk w15 p9_6 (u8s (hashB x ([]) l)) 23 := f_p9_6_15
                have kk15 := kk14.trans k15 (fun i hi => .inr (hi ▸ (Nat.le_trans kk12.size N13.le)))
                have f35 : Bk w15 p0_0 (u8s x) 22 := (f32.on k15 (Ne.symm ne_p9_6_p0_0))
                have f36 : Bk w15 p3_1 (u8s x) 23 := (f33.on k15 (Ne.symm ne_p9_6_p3_1))
                refine ⟨⟨kk15, f35, f36⟩, ?_⟩
                have f37 : Bk w15 p9_7 (u8s (List.replicate 16 0)) 23 := (f_p9_7_14.on k15 ne_p9_7_p9_6)
                refine D_one 9 (by kernel_rfl) (Nx_lo0 rfl (lo_storeRow (C := u8s (hashB x ([]) m)) f37 (by rw [u8s_length, (hashB_by _ _ _).1]; kernel_rfl) rfl rfl (u8s_each _) (by rw [u8s_length, u8s_length, (hashB_by _ _ _).1, (rep_by 16).1])) ?_)
                rintro _ w16 kf16
                obtain ⟨k16, f_p9_7_16⟩ := kf16
                replace f_p9_7_16 : Bk w16 p9_7 (u8s (hashB x ([]) m)) 23 := f_p9_7_16
                have kk16 := kk15.trans k16 (fun i hi => .inr (hi ▸ (Nat.le_trans kk13.size N14.le)))
                have f38 : Bk w16 p0_0 (u8s x) 22 := (f35.on k16 (Ne.symm ne_p9_7_p0_0))
                have f39 : Bk w16 p3_1 (u8s x) 23 := (f36.on k16 (Ne.symm ne_p9_7_p3_1))
                refine ⟨⟨kk16, f38, f39⟩, ?_⟩
                refine D_done (by kernel_rfl) ?_
                have f40 : Bk w16 p9_6 (u8s (hashB x ([]) l)) 23 := (f_p9_6_15.on k16 (Ne.symm ne_p9_7_p9_6))
                have ob41 := (((ob31.keptNo k14).onN k15 ob28 N13.le).onN k16 ob31 N14.le)
                refine X_cut hK_ [(1, .slice A1 (l.length) (c1)), (6, .bool false), (7, .pointer (some ⟨p3_1, 0, none⟩)), (8, .slice An ((zx (l.take k) (m.take k)).length) (cn)), (10, .pointer (some ⟨p9_6, 0, none⟩)), (11, .pointer (some ⟨p9_7, 0, none⟩))] (Sub.cons rfl (Sub.cons rfl (Sub.cons rfl (Sub.cons rfl (Sub.cons rfl (Sub.cons rfl (Sub.nil _))))))) ⟨p9_6, p9_7, rfl, kk16, f38, f39, f40, f_p9_7_16, ⟨ob41, (Nat.le_trans (Nat.le_trans (Nat.le_trans (Nat.le_trans (Nat.le_trans (Nat.le_trans (Nat.le_trans n_6.2 k10.size) k11.size) k12.size) k13.size) k14.size) k15.size) k16.size)⟩⟩
              · have ob42 := (((n_6.1.keptNo k10).keptNo k11).keptNo k12)
                refine Nx_lo rfl (lo_alloc (L := u8s (List.replicate 16 0)) (by kernel_rfl)) rfl ?_
                rintro _ w17 ⟨p9_7, rfl, N17⟩
                have k17 := N17.kp
                have kk17 := kk12.then_ k17
                have ne_p9_7_p0_0 : p9_7 ≠ p0_0 := Nat.ne_of_gt (Nat.lt_of_lt_of_le f26.lt N17.le)
                have ne_p9_7_p3_1 : p9_7 ≠ p3_1 := Nat.ne_of_gt (Nat.lt_of_lt_of_le f27.lt N17.le)
                have f_p9_7_17 : Bk w17 p9_7 (u8s (List.replicate 16 0)) 23 := N17.bk
                have f43 : Bk w17 p0_0 (u8s x) 22 := (f26.no k17)
                have f44 : Bk w17 p3_1 (u8s x) 23 := (f27.no k17)
                refine ⟨⟨kk17, f43, f44⟩, ?_⟩
                have ob45 := (ob42.keptNo k17)
                refine D_one 6 (by kernel_rfl) (Nx_lo rfl (lo_alloc (L := u8s (List.replicate 16 0)) (by kernel_rfl)) rfl ?_)
                rintro _ w18 ⟨p9_6, rfl, N18⟩
                have k18 := N18.kp
                have kk18 := kk17.then_ k18
                have ne_p9_6_p0_0 : p9_6 ≠ p0_0 := Nat.ne_of_gt (Nat.lt_of_lt_of_le f43.lt N18.le)
                have ne_p9_6_p3_1 : p9_6 ≠ p3_1 := Nat.ne_of_gt (Nat.lt_of_lt_of_le f44.lt N18.le)
                have ne_p9_6_p9_7 : p9_6 ≠ p9_7 := Nat.ne_of_gt (Nat.lt_of_lt_of_le f_p9_7_17.lt N18.le)
                have f_p9_6_18 : Bk w18 p9_6 (u8s (List.replicate 16 0)) 23 := N18.bk
                have f46 : Bk w18 p0_0 (u8s x) 22 := (f43.no k18)
                have f47 : Bk w18 p3_1 (u8s x) 23 := (f44.no k18)
                refine ⟨⟨kk18, f46, f47⟩, ?_⟩
                refine D_one 8 (by kernel_rfl) (Nx_lo0 rfl (lo_storeRow (C := u8s (hashB x ([]) l)) f_p9_6_18 (by rw [u8s_length, (hashB_by _ _ _).1]; kernel_rfl) rfl rfl (u8s_each _) (by rw [u8s_length, u8s_length, (hashB_by _ _ _).1, (rep_by 16).1])) ?_)
                rintro _ w19 kf19
                obtain ⟨k19, f_p9_6_19⟩ := kf19
                replace f_p9_6_19 : Bk w19 p9_6 (u8s (hashB x ([]) l)) 23 := f_p9_6_19
                have kk19 := kk18.trans k19 (fun i hi => .inr (hi ▸ (Nat.le_trans kk17.size N18.le)))
                have f48 : Bk w19 p0_0 (u8s x) 22 := (f46.on k19 (Ne.symm ne_p9_6_p0_0))
                have f49 : Bk w19 p3_1 (u8s x) 23 := (f47.on k19 (Ne.symm ne_p9_6_p3_1))
                refine ⟨⟨kk19, f48, f49⟩, ?_⟩
                have f50 : Bk w19 p9_7 (u8s (List.replicate 16 0)) 23 := ((f_p9_7_17.no k18).on k19 (Ne.symm ne_p9_6_p9_7))
                refine D_one 9 (by kernel_rfl) (Nx_lo0 rfl (lo_storeRow (C := u8s (hashB x ([]) m)) f50 (by rw [u8s_length, (hashB_by _ _ _).1]; kernel_rfl) rfl rfl (u8s_each _) (by rw [u8s_length, u8s_length, (hashB_by _ _ _).1, (rep_by 16).1])) ?_)
                rintro _ w20 kf20
                obtain ⟨k20, f_p9_7_20⟩ := kf20
                replace f_p9_7_20 : Bk w20 p9_7 (u8s (hashB x ([]) m)) 23 := f_p9_7_20
                have kk20 := kk19.trans k20 (fun i hi => .inr (hi ▸ (Nat.le_trans kk12.size N17.le)))
                have f51 : Bk w20 p0_0 (u8s x) 22 := (f48.on k20 (Ne.symm ne_p9_7_p0_0))
                have f52 : Bk w20 p3_1 (u8s x) 23 := (f49.on k20 (Ne.symm ne_p9_7_p3_1))
                refine ⟨⟨kk20, f51, f52⟩, ?_⟩
                refine D_done (by kernel_rfl) ?_
                have f53 : Bk w20 p9_6 (u8s (hashB x ([]) l)) 23 := (f_p9_6_19.on k20 ne_p9_6_p9_7)
                have ob54 := (((ob45.keptNo k18).onN k19 ob45 N18.le).onN k20 ob42 N17.le)
                refine X_cut hK_ [(1, .slice A1 (l.length) (c1)), (6, .bool false), (7, .pointer (some ⟨p3_1, 0, none⟩)), (8, .slice An ((zx (l.take k) (m.take k)).length) (cn)), (10, .pointer (some ⟨p9_6, 0, none⟩)), (11, .pointer (some ⟨p9_7, 0, none⟩))] (Sub.cons rfl (Sub.cons rfl (Sub.cons rfl (Sub.cons rfl (Sub.cons rfl (Sub.cons rfl (Sub.nil _))))))) ⟨p9_6, p9_7, rfl, kk20, f51, f52, f53, f_p9_7_20, ⟨ob54, (Nat.le_trans (Nat.le_trans (Nat.le_trans (Nat.le_trans (Nat.le_trans (Nat.le_trans (Nat.le_trans n_6.2 k10.size) k11.size) k12.size) k17.size) k18.size) k19.size) k20.size)⟩⟩
            · have ob55 := ((n_6.1.keptNo k10).keptNo k11)
              refine Nx_lo rfl (lo_alloc (L := u8s (List.replicate 16 0)) (by kernel_rfl)) rfl ?_
              rintro _ w21 ⟨p9_6, rfl, N21⟩
              have k21 := N21.kp
              have kk21 := kk11.then_ k21
              have ne_p9_6_p0_0 : p9_6 ≠ p0_0 := Nat.ne_of_gt (Nat.lt_of_lt_of_le f24.lt N21.le)
              have ne_p9_6_p3_1 : p9_6 ≠ p3_1 := Nat.ne_of_gt (Nat.lt_of_lt_of_le f25.lt N21.le)
              have f_p9_6_21 : Bk w21 p9_6 (u8s (List.replicate 16 0)) 23 := N21.bk
              have f56 : Bk w21 p0_0 (u8s x) 22 := (f24.no k21)
              have f57 : Bk w21 p3_1 (u8s x) 23 := (f25.no k21)
              refine ⟨⟨kk21, f56, f57⟩, ?_⟩
              refine D_two 5 7 (by kernel_rfl) ?_ ?_
              · refine Nx_lo rfl (lo_call (by kernel_rfl) rfl (r_hash x bx none A2 ([]) m 0 c2 _ (Bs.nil _ none) (Nat.le_refl _) (HB2.keptNo kk21) hc2 (by first | omega | (simp; done) | (simp; omega)) (by first | omega | (simp; done) | (simp; omega)))) rfl ?_
                rintro _ w22 ⟨rfl, k22⟩
                have kk22 := kk21.then_ k22
                have f58 : Bk w22 p0_0 (u8s x) 22 := (f56.no k22)
                have f59 : Bk w22 p3_1 (u8s x) 23 := (f57.no k22)
                refine ⟨⟨kk22, f58, f59⟩, ?_⟩
                have f60 : Bk w22 p9_6 (u8s (List.replicate 16 0)) 23 := (f_p9_6_21.no k22)
                have ob61 := ((ob55.keptNo k21).keptNo k22)
                refine D_one 7 (by kernel_rfl) (Nx_lo rfl (lo_alloc (L := u8s (List.replicate 16 0)) (by kernel_rfl)) rfl ?_)
                rintro _ w23 ⟨p9_7, rfl, N23⟩
                have k23 := N23.kp
                have kk23 := kk22.then_ k23
                have ne_p9_7_p0_0 : p9_7 ≠ p0_0 := Nat.ne_of_gt (Nat.lt_of_lt_of_le f58.lt N23.le)
                have ne_p9_7_p3_1 : p9_7 ≠ p3_1 := Nat.ne_of_gt (Nat.lt_of_lt_of_le f59.lt N23.le)
                have ne_p9_7_p9_6 : p9_7 ≠ p9_6 := Nat.ne_of_gt (Nat.lt_of_lt_of_le f60.lt N23.le)
                have f_p9_7_23 : Bk w23 p9_7 (u8s (List.replicate 16 0)) 23 := N23.bk
                have f62 : Bk w23 p0_0 (u8s x) 22 := (f58.no k23)
                have f63 : Bk w23 p3_1 (u8s x) 23 := (f59.no k23)
                refine ⟨⟨kk23, f62, f63⟩, ?_⟩
                have f64 : Bk w23 p9_6 (u8s (List.replicate 16 0)) 23 := (f60.no k23)
                refine D_one 8 (by kernel_rfl) (Nx_lo0 rfl (lo_storeRow (C := u8s (hashB x ([]) l)) f64 (by rw [u8s_length, (hashB_by _ _ _).1]; kernel_rfl) rfl rfl (u8s_each _) (by rw [u8s_length, u8s_length, (hashB_by _ _ _).1, (rep_by 16).1])) ?_)
                rintro _ w24 kf24
                obtain ⟨k24, f_p9_6_24⟩ := kf24
                replace f_p9_6_24 : Bk w24 p9_6 (u8s (hashB x ([]) l)) 23 := f_p9_6_24
                have kk24 := kk23.trans k24 (fun i hi => .inr (hi ▸ (Nat.le_trans kk11.size N21.le)))
                have f65 : Bk w24 p0_0 (u8s x) 22 := (f62.on k24 (Ne.symm ne_p9_6_p0_0))
                have f66 : Bk w24 p3_1 (u8s x) 23 := (f63.on k24 (Ne.symm ne_p9_6_p3_1))
                refine ⟨⟨kk24, f65, f66⟩, ?_⟩
                have f67 : Bk w24 p9_7 (u8s (List.replicate 16 0)) 23 := (f_p9_7_23.on k24 ne_p9_7_p9_6)
                refine D_one 9 (by kernel_rfl) (Nx_lo0 rfl (lo_storeRow (C := u8s (hashB x ([]) m)) f67 (by rw [u8s_length, (hashB_by _ _ _).1]; kernel_rfl) rfl rfl (u8s_each _) (by rw [u8s_length, u8s_length, (hashB_by _ _ _).1, (rep_by 16).1])) ?_)
                rintro _ w25 kf25
                obtain ⟨k25, f_p9_7_25⟩ := kf25
                replace f_p9_7_25 : Bk w25 p9_7 (u8s (hashB x ([]) m)) 23 := f_p9_7_25
                have kk25 := kk24.trans k25 (fun i hi => .inr (hi ▸ (Nat.le_trans kk22.size N23.le)))
                have f68 : Bk w25 p0_0 (u8s x) 22 := (f65.on k25 (Ne.symm ne_p9_7_p0_0))
                have f69 : Bk w25 p3_1 (u8s x) 23 := (f66.on k25 (Ne.symm ne_p9_7_p3_1))
                refine ⟨⟨kk25, f68, f69⟩, ?_⟩
                refine D_done (by kernel_rfl) ?_
                have f70 : Bk w25 p9_6 (u8s (hashB x ([]) l)) 23 := (f_p9_6_24.on k25 (Ne.symm ne_p9_7_p9_6))
                have ob71 := (((ob61.keptNo k23).onN k24 ob55 N21.le).onN k25 ob61 N23.le)
                refine X_cut hK_ [(1, .slice A1 (l.length) (c1)), (6, .bool false), (7, .pointer (some ⟨p3_1, 0, none⟩)), (8, .slice An ((zx (l.take k) (m.take k)).length) (cn)), (10, .pointer (some ⟨p9_6, 0, none⟩)), (11, .pointer (some ⟨p9_7, 0, none⟩))] (Sub.cons rfl (Sub.cons rfl (Sub.cons rfl (Sub.cons rfl (Sub.cons rfl (Sub.cons rfl (Sub.nil _))))))) ⟨p9_6, p9_7, rfl, kk25, f68, f69, f70, f_p9_7_25, ⟨ob71, (Nat.le_trans (Nat.le_trans (Nat.le_trans (Nat.le_trans (Nat.le_trans (Nat.le_trans (Nat.le_trans n_6.2 k10.size) k11.size) k21.size) k22.size) k23.size) k24.size) k25.size)⟩⟩
              · have ob72 := (ob55.keptNo k21)
                refine Nx_lo rfl (lo_alloc (L := u8s (List.replicate 16 0)) (by kernel_rfl)) rfl ?_
                rintro _ w26 ⟨p9_7, rfl, N26⟩
                have k26 := N26.kp
                have kk26 := kk21.then_ k26
                have ne_p9_7_p0_0 : p9_7 ≠ p0_0 := Nat.ne_of_gt (Nat.lt_of_lt_of_le f56.lt N26.le)
                have ne_p9_7_p3_1 : p9_7 ≠ p3_1 := Nat.ne_of_gt (Nat.lt_of_lt_of_le f57.lt N26.le)
                have ne_p9_7_p9_6 : p9_7 ≠ p9_6 := Nat.ne_of_gt (Nat.lt_of_lt_of_le f_p9_6_21.lt N26.le)
                have f_p9_7_26 : Bk w26 p9_7 (u8s (List.replicate 16 0)) 23 := N26.bk
                have f73 : Bk w26 p0_0 (u8s x) 22 := (f56.no k26)
                have f74 : Bk w26 p3_1 (u8s x) 23 := (f57.no k26)
                refine ⟨⟨kk26, f73, f74⟩, ?_⟩
                refine D_one 5 (by kernel_rfl) (Nx_lo rfl (lo_call (by kernel_rfl) rfl (r_hash x bx none A2 ([]) m 0 c2 _ (Bs.nil _ none) (Nat.le_refl _) (HB2.keptNo kk26) hc2 (by first | omega | (simp; done) | (simp; omega)) (by first | omega | (simp; done) | (simp; omega)))) rfl ?_)
                rintro _ w27 ⟨rfl, k27⟩
                have kk27 := kk26.then_ k27
                have f75 : Bk w27 p0_0 (u8s x) 22 := (f73.no k27)
                have f76 : Bk w27 p3_1 (u8s x) 23 := (f74.no k27)
                refine ⟨⟨kk27, f75, f76⟩, ?_⟩
                have f77 : Bk w27 p9_6 (u8s (List.replicate 16 0)) 23 := ((f_p9_6_21.no k26).no k27)
                refine D_one 8 (by kernel_rfl) (Nx_lo0 rfl (lo_storeRow (C := u8s (hashB x ([]) l)) f77 (by rw [u8s_length, (hashB_by _ _ _).1]; kernel_rfl) rfl rfl (u8s_each _) (by rw [u8s_length, u8s_length, (hashB_by _ _ _).1, (rep_by 16).1])) ?_)
                rintro _ w28 kf28
                obtain ⟨k28, f_p9_6_28⟩ := kf28
                replace f_p9_6_28 : Bk w28 p9_6 (u8s (hashB x ([]) l)) 23 := f_p9_6_28
                have kk28 := kk27.trans k28 (fun i hi => .inr (hi ▸ (Nat.le_trans kk11.size N21.le)))
                have f78 : Bk w28 p0_0 (u8s x) 22 := (f75.on k28 (Ne.symm ne_p9_6_p0_0))
                have f79 : Bk w28 p3_1 (u8s x) 23 := (f76.on k28 (Ne.symm ne_p9_6_p3_1))
                refine ⟨⟨kk28, f78, f79⟩, ?_⟩
                have f80 : Bk w28 p9_7 (u8s (List.replicate 16 0)) 23 := ((f_p9_7_26.no k27).on k28 ne_p9_7_p9_6)
                refine D_one 9 (by kernel_rfl) (Nx_lo0 rfl (lo_storeRow (C := u8s (hashB x ([]) m)) f80 (by rw [u8s_length, (hashB_by _ _ _).1]; kernel_rfl) rfl rfl (u8s_each _) (by rw [u8s_length, u8s_length, (hashB_by _ _ _).1, (rep_by 16).1])) ?_)
                rintro _ w29 kf29
                obtain ⟨k29, f_p9_7_29⟩ := kf29
                replace f_p9_7_29 : Bk w29 p9_7 (u8s (hashB x ([]) m)) 23 := f_p9_7_29
                have kk29 := kk28.trans k29 (fun i hi => .inr (hi ▸ (Nat.le_trans kk21.size N26.le)))
                have f81 : Bk w29 p0_0 (u8s x) 22 := (f78.on k29 (Ne.symm ne_p9_7_p0_0))
                have f82 : Bk w29 p3_1 (u8s x) 23 := (f79.on k29 (Ne.symm ne_p9_7_p3_1))
                refine ⟨⟨kk29, f81, f82⟩, ?_⟩
                refine D_done (by kernel_rfl) ?_
                have f83 : Bk w29 p9_6 (u8s (hashB x ([]) l)) 23 := (f_p9_6_28.on k29 (Ne.symm ne_p9_7_p9_6))
                have ob84 := ((((ob72.keptNo k26).keptNo k27).onN k28 ob55 N21.le).onN k29 ob72 N26.le)
                refine X_cut hK_ [(1, .slice A1 (l.length) (c1)), (6, .bool false), (7, .pointer (some ⟨p3_1, 0, none⟩)), (8, .slice An ((zx (l.take k) (m.take k)).length) (cn)), (10, .pointer (some ⟨p9_6, 0, none⟩)), (11, .pointer (some ⟨p9_7, 0, none⟩))] (Sub.cons rfl (Sub.cons rfl (Sub.cons rfl (Sub.cons rfl (Sub.cons rfl (Sub.cons rfl (Sub.nil _))))))) ⟨p9_6, p9_7, rfl, kk29, f81, f82, f83, f_p9_7_29, ⟨ob84, (Nat.le_trans (Nat.le_trans (Nat.le_trans (Nat.le_trans (Nat.le_trans (Nat.le_trans (Nat.le_trans n_6.2 k10.size) k11.size) k21.size) k26.size) k27.size) k28.size) k29.size)⟩⟩
            · have ob85 := ((n_6.1.keptNo k10).keptNo k11)
              refine Nx_lo rfl (lo_alloc (L := u8s (List.replicate 16 0)) (by kernel_rfl)) rfl ?_
              rintro _ w30 ⟨p9_7, rfl, N30⟩
              have k30 := N30.kp
              have kk30 := kk11.then_ k30
              have ne_p9_7_p0_0 : p9_7 ≠ p0_0 := Nat.ne_of_gt (Nat.lt_of_lt_of_le f24.lt N30.le)
              have ne_p9_7_p3_1 : p9_7 ≠ p3_1 := Nat.ne_of_gt (Nat.lt_of_lt_of_le f25.lt N30.le)
              have f_p9_7_30 : Bk w30 p9_7 (u8s (List.replicate 16 0)) 23 := N30.bk
              have f86 : Bk w30 p0_0 (u8s x) 22 := (f24.no k30)
              have f87 : Bk w30 p3_1 (u8s x) 23 := (f25.no k30)
              refine ⟨⟨kk30, f86, f87⟩, ?_⟩
              refine D_two 5 6 (by kernel_rfl) ?_ ?_
              · refine Nx_lo rfl (lo_call (by kernel_rfl) rfl (r_hash x bx none A2 ([]) m 0 c2 _ (Bs.nil _ none) (Nat.le_refl _) (HB2.keptNo kk30) hc2 (by first | omega | (simp; done) | (simp; omega)) (by first | omega | (simp; done) | (simp; omega)))) rfl ?_
                rintro _ w31 ⟨rfl, k31⟩
                have kk31 := kk30.then_ k31
                have f88 : Bk w31 p0_0 (u8s x) 22 := (f86.no k31)
                have f89 : Bk w31 p3_1 (u8s x) 23 := (f87.no k31)
                refine ⟨⟨kk31, f88, f89⟩, ?_⟩
                have f90 : Bk w31 p9_7 (u8s (List.replicate 16 0)) 23 := (f_p9_7_30.no k31)
                have ob91 := ((ob85.keptNo k30).keptNo k31)
                refine D_one 6 (by kernel_rfl) (Nx_lo rfl (lo_alloc (L := u8s (List.replicate 16 0)) (by kernel_rfl)) rfl ?_)
                rintro _ w32 ⟨p9_6, rfl, N32⟩
                have k32 := N32.kp
                have kk32 := kk31.then_ k32
                have ne_p9_6_p0_0 : p9_6 ≠ p0_0 := Nat.ne_of_gt (Nat.lt_of_lt_of_le f88.lt N32.le)
                have ne_p9_6_p3_1 : p9_6 ≠ p3_1 := Nat.ne_of_gt (Nat.lt_of_lt_of_le f89.lt N32.le)
                have ne_p9_6_p9_7 : p9_6 ≠ p9_7 := Nat.ne_of_gt (Nat.lt_of_lt_of_le f90.lt N32.le)
                have f_p9_6_32 : Bk w32 p9_6 (u8s (List.replicate 16 0)) 23 := N32.bk
                have f92 : Bk w32 p0_0 (u8s x) 22 := (f88.no k32)
                have f93 : Bk w32 p3_1 (u8s x) 23 := (f89.no k32)
                refine ⟨⟨kk32, f92, f93⟩, ?_⟩
                refine D_one 8 (by kernel_rfl) (Nx_lo0 rfl (lo_storeRow (C := u8s (hashB x ([]) l)) f_p9_6_32 (by rw [u8s_length, (hashB_by _ _ _).1]; kernel_rfl) rfl rfl (u8s_each _) (by rw [u8s_length, u8s_length, (hashB_by _ _ _).1, (rep_by 16).1])) ?_)
                rintro _ w33 kf33
                obtain ⟨k33, f_p9_6_33⟩ := kf33
                replace f_p9_6_33 : Bk w33 p9_6 (u8s (hashB x ([]) l)) 23 := f_p9_6_33
                have kk33 := kk32.trans k33 (fun i hi => .inr (hi ▸ (Nat.le_trans kk31.size N32.le)))
                have f94 : Bk w33 p0_0 (u8s x) 22 := (f92.on k33 (Ne.symm ne_p9_6_p0_0))
                have f95 : Bk w33 p3_1 (u8s x) 23 := (f93.on k33 (Ne.symm ne_p9_6_p3_1))
                refine ⟨⟨kk33, f94, f95⟩, ?_⟩
                have f96 : Bk w33 p9_7 (u8s (List.replicate 16 0)) 23 := ((f90.no k32).on k33 (Ne.symm ne_p9_6_p9_7))
                refine D_one 9 (by kernel_rfl) (Nx_lo0 rfl (lo_storeRow (C := u8s (hashB x ([]) m)) f96 (by rw [u8s_length, (hashB_by _ _ _).1]; kernel_rfl) rfl rfl (u8s_each _) (by rw [u8s_length, u8s_length, (hashB_by _ _ _).1, (rep_by 16).1])) ?_)
                rintro _ w34 kf34
                obtain ⟨k34, f_p9_7_34⟩ := kf34
                replace f_p9_7_34 : Bk w34 p9_7 (u8s (hashB x ([]) m)) 23 := f_p9_7_34
                have kk34 := kk33.trans k34 (fun i hi => .inr (hi ▸ (Nat.le_trans kk11.size N30.le)))
                have f97 : Bk w34 p0_0 (u8s x) 22 := (f94.on k34 (Ne.symm ne_p9_7_p0_0))
                have f98 : Bk w34 p3_1 (u8s x) 23 := (f95.on k34 (Ne.symm ne_p9_7_p3_1))
                refine ⟨⟨kk34, f97, f98⟩, ?_⟩
                refine D_done (by kernel_rfl) ?_
                have f99 : Bk w34 p9_6 (u8s (hashB x ([]) l)) 23 := (f_p9_6_33.on k34 ne_p9_6_p9_7)
                have ob100 := (((ob91.keptNo k32).onN k33 ob91 N32.le).onN k34 ob85 N30.le)
                refine X_cut hK_ [(1, .slice A1 (l.length) (c1)), (6, .bool false), (7, .pointer (some ⟨p3_1, 0, none⟩)), (8, .slice An ((zx (l.take k) (m.take k)).length) (cn)), (10, .pointer (some ⟨p9_6, 0, none⟩)), (11, .pointer (some ⟨p9_7, 0, none⟩))] (Sub.cons rfl (Sub.cons rfl (Sub.cons rfl (Sub.cons rfl (Sub.cons rfl (Sub.cons rfl (Sub.nil _))))))) ⟨p9_6, p9_7, rfl, kk34, f97, f98, f99, f_p9_7_34, ⟨ob100, (Nat.le_trans (Nat.le_trans (Nat.le_trans (Nat.le_trans (Nat.le_trans (Nat.le_trans (Nat.le_trans n_6.2 k10.size) k11.size) k30.size) k31.size) k32.size) k33.size) k34.size)⟩⟩
              · have ob101 := (ob85.keptNo k30)
                refine Nx_lo rfl (lo_alloc (L := u8s (List.replicate 16 0)) (by kernel_rfl)) rfl ?_
                rintro _ w35 ⟨p9_6, rfl, N35⟩
                have k35 := N35.kp
                have kk35 := kk30.then_ k35
                have ne_p9_6_p0_0 : p9_6 ≠ p0_0 := Nat.ne_of_gt (Nat.lt_of_lt_of_le f86.lt N35.le)
                have ne_p9_6_p3_1 : p9_6 ≠ p3_1 := Nat.ne_of_gt (Nat.lt_of_lt_of_le f87.lt N35.le)
                have ne_p9_6_p9_7 : p9_6 ≠ p9_7 := Nat.ne_of_gt (Nat.lt_of_lt_of_le f_p9_7_30.lt N35.le)
                have f_p9_6_35 : Bk w35 p9_6 (u8s (List.replicate 16 0)) 23 := N35.bk
                have f102 : Bk w35 p0_0 (u8s x) 22 := (f86.no k35)
                have f103 : Bk w35 p3_1 (u8s x) 23 := (f87.no k35)
                refine ⟨⟨kk35, f102, f103⟩, ?_⟩
                refine D_one 5 (by kernel_rfl) (Nx_lo rfl (lo_call (by kernel_rfl) rfl (r_hash x bx none A2 ([]) m 0 c2 _ (Bs.nil _ none) (Nat.le_refl _) (HB2.keptNo kk35) hc2 (by first | omega | (simp; done) | (simp; omega)) (by first | omega | (simp; done) | (simp; omega)))) rfl ?_)
                rintro _ w36 ⟨rfl, k36⟩
                have kk36 := kk35.then_ k36
                have f104 : Bk w36 p0_0 (u8s x) 22 := (f102.no k36)
                have f105 : Bk w36 p3_1 (u8s x) 23 := (f103.no k36)
                refine ⟨⟨kk36, f104, f105⟩, ?_⟩
                have f106 : Bk w36 p9_6 (u8s (List.replicate 16 0)) 23 := (f_p9_6_35.no k36)
                refine D_one 8 (by kernel_rfl) (Nx_lo0 rfl (lo_storeRow (C := u8s (hashB x ([]) l)) f106 (by rw [u8s_length, (hashB_by _ _ _).1]; kernel_rfl) rfl rfl (u8s_each _) (by rw [u8s_length, u8s_length, (hashB_by _ _ _).1, (rep_by 16).1])) ?_)
                rintro _ w37 kf37
                obtain ⟨k37, f_p9_6_37⟩ := kf37
                replace f_p9_6_37 : Bk w37 p9_6 (u8s (hashB x ([]) l)) 23 := f_p9_6_37
                have kk37 := kk36.trans k37 (fun i hi => .inr (hi ▸ (Nat.le_trans kk30.size N35.le)))
                have f107 : Bk w37 p0_0 (u8s x) 22 := (f104.on k37 (Ne.symm ne_p9_6_p0_0))
                have f108 : Bk w37 p3_1 (u8s x) 23 := (f105.on k37 (Ne.symm ne_p9_6_p3_1))
                refine ⟨⟨kk37, f107, f108⟩, ?_⟩
                have f109 : Bk w37 p9_7 (u8s (List.replicate 16 0)) 23 := (((f_p9_7_30.no k35).no k36).on k37 (Ne.symm ne_p9_6_p9_7))
                refine D_one 9 (by kernel_rfl) (Nx_lo0 rfl (lo_storeRow (C := u8s (hashB x ([]) m)) f109 (by rw [u8s_length, (hashB_by _ _ _).1]; kernel_rfl) rfl rfl (u8s_each _) (by rw [u8s_length, u8s_length, (hashB_by _ _ _).1, (rep_by 16).1])) ?_)
                rintro _ w38 kf38
                obtain ⟨k38, f_p9_7_38⟩ := kf38
                replace f_p9_7_38 : Bk w38 p9_7 (u8s (hashB x ([]) m)) 23 := f_p9_7_38
                have kk38 := kk37.trans k38 (fun i hi => .inr (hi ▸ (Nat.le_trans kk11.size N30.le)))
                have f110 : Bk w38 p0_0 (u8s x) 22 := (f107.on k38 (Ne.symm ne_p9_7_p0_0))
                have f111 : Bk w38 p3_1 (u8s x) 23 := (f108.on k38 (Ne.symm ne_p9_7_p3_1))
                refine ⟨⟨kk38, f110, f111⟩, ?_⟩
                refine D_done (by kernel_rfl) ?_
                have f112 : Bk w38 p9_6 (u8s (hashB x ([]) l)) 23 := (f_p9_6_37.on k38 ne_p9_6_p9_7)
                have ob113 := ((((ob101.keptNo k35).keptNo k36).onN k37 ob101 N35.le).onN k38 ob85 N30.le)
                refine X_cut hK_ [(1, .slice A1 (l.length) (c1)), (6, .bool false), (7, .pointer (some ⟨p3_1, 0, none⟩)), (8, .slice An ((zx (l.take k) (m.take k)).length) (cn)), (10, .pointer (some ⟨p9_6, 0, none⟩)), (11, .pointer (some ⟨p9_7, 0, none⟩))] (Sub.cons rfl (Sub.cons rfl (Sub.cons rfl (Sub.cons rfl (Sub.cons rfl (Sub.cons rfl (Sub.nil _))))))) ⟨p9_6, p9_7, rfl, kk38, f110, f111, f112, f_p9_7_38, ⟨ob113, (Nat.le_trans (Nat.le_trans (Nat.le_trans (Nat.le_trans (Nat.le_trans (Nat.le_trans (Nat.le_trans n_6.2 k10.size) k11.size) k30.size) k35.size) k36.size) k37.size) k38.size)⟩⟩
          · have f114 : Bk w10 p0_0 (u8s x) 22 := (f_p0_0_6.no k10)
            have f115 : Bk w10 p3_1 (u8s x) 23 := (f_p3_1_6.no k10)
            have ob116 := (n_6.1.keptNo k10)
            refine Nx_lo rfl (lo_alloc (L := u8s (List.replicate 16 0)) (by kernel_rfl)) rfl ?_
            rintro _ w39 ⟨p9_6, rfl, N39⟩
            have k39 := N39.kp
            have kk39 := kk10.then_ k39
            have ne_p9_6_p0_0 : p9_6 ≠ p0_0 := Nat.ne_of_gt (Nat.lt_of_lt_of_le f114.lt N39.le)
            have ne_p9_6_p3_1 : p9_6 ≠ p3_1 := Nat.ne_of_gt (Nat.lt_of_lt_of_le f115.lt N39.le)
            have f_p9_6_39 : Bk w39 p9_6 (u8s (List.replicate 16 0)) 23 := N39.bk
            have f117 : Bk w39 p0_0 (u8s x) 22 := (f114.no k39)
            have f118 : Bk w39 p3_1 (u8s x) 23 := (f115.no k39)
            refine ⟨⟨kk39, f117, f118⟩, ?_⟩
            refine D_two 2 7 (by kernel_rfl) ?_ ?_
            · refine Nx_lo rfl (lo_call (by kernel_rfl) rfl (r_hash x bx none A1 ([]) l 0 c1 _ (Bs.nil _ none) (Nat.le_refl _) (HB1.keptNo kk39) hc1 (by first | omega | (simp; done) | (simp; omega)) (by first | omega | (simp; done) | (simp; omega)))) rfl ?_
              rintro _ w40 ⟨rfl, k40⟩
              have kk40 := kk39.then_ k40
              have f119 : Bk w40 p0_0 (u8s x) 22 := (f117.no k40)
              have f120 : Bk w40 p3_1 (u8s x) 23 := (f118.no k40)
              refine ⟨⟨kk40, f119, f120⟩, ?_⟩
              refine D_two 5 7 (by kernel_rfl) ?_ ?_
              · refine Nx_lo rfl (lo_call (by kernel_rfl) rfl (r_hash x bx none A2 ([]) m 0 c2 _ (Bs.nil _ none) (Nat.le_refl _) (HB2.keptNo kk40) hc2 (by first | omega | (simp; done) | (simp; omega)) (by first | omega | (simp; done) | (simp; omega)))) rfl ?_
                rintro _ w41 ⟨rfl, k41⟩
                have kk41 := kk40.then_ k41
                have f121 : Bk w41 p0_0 (u8s x) 22 := (f119.no k41)
                have f122 : Bk w41 p3_1 (u8s x) 23 := (f120.no k41)
                refine ⟨⟨kk41, f121, f122⟩, ?_⟩
                have f123 : Bk w41 p9_6 (u8s (List.replicate 16 0)) 23 := ((f_p9_6_39.no k40).no k41)
                have ob124 := (((ob116.keptNo k39).keptNo k40).keptNo k41)
                refine D_one 7 (by kernel_rfl) (Nx_lo rfl (lo_alloc (L := u8s (List.replicate 16 0)) (by kernel_rfl)) rfl ?_)
                rintro _ w42 ⟨p9_7, rfl, N42⟩
                have k42 := N42.kp
                have kk42 := kk41.then_ k42
                have ne_p9_7_p0_0 : p9_7 ≠ p0_0 := Nat.ne_of_gt (Nat.lt_of_lt_of_le f121.lt N42.le)
                have ne_p9_7_p3_1 : p9_7 ≠ p3_1 := Nat.ne_of_gt (Nat.lt_of_lt_of_le f122.lt N42.le)
                have ne_p9_7_p9_6 : p9_7 ≠ p9_6 := Nat.ne_of_gt (Nat.lt_of_lt_of_le f123.lt N42.le)
                have f_p9_7_42 : Bk w42 p9_7 (u8s (List.replicate 16 0)) 23 := N42.bk
                have f125 : Bk w42 p0_0 (u8s x) 22 := (f121.no k42)
                have f126 : Bk w42 p3_1 (u8s x) 23 := (f122.no k42)
                refine ⟨⟨kk42, f125, f126⟩, ?_⟩
                have f127 : Bk w42 p9_6 (u8s (List.replicate 16 0)) 23 := (f123.no k42)
                refine D_one 8 (by kernel_rfl) (Nx_lo0 rfl (lo_storeRow (C := u8s (hashB x ([]) l)) f127 (by rw [u8s_length, (hashB_by _ _ _).1]; kernel_rfl) rfl rfl (u8s_each _) (by rw [u8s_length, u8s_length, (hashB_by _ _ _).1, (rep_by 16).1])) ?_)
                rintro _ w43 kf43
                obtain ⟨k43, f_p9_6_43⟩ := kf43
                replace f_p9_6_43 : Bk w43 p9_6 (u8s (hashB x ([]) l)) 23 := f_p9_6_43
                have kk43 := kk42.trans k43 (fun i hi => .inr (hi ▸ (Nat.le_trans kk10.size N39.le)))
                have f128 : Bk w43 p0_0 (u8s x) 22 := (f125.on k43 (Ne.symm ne_p9_6_p0_0))
                have f129 : Bk w43 p3_1 (u8s x) 23 := (f126.on k43 (Ne.symm ne_p9_6_p3_1))
                refine ⟨⟨kk43, f128, f129⟩, ?_⟩
                have f130 : Bk w43 p9_7 (u8s (List.replicate 16 0)) 23 := (f_p9_7_42.on k43 ne_p9_7_p9_6)
                refine D_one 9 (by kernel_rfl) (Nx_lo0 rfl (lo_storeRow (C := u8s (hashB x ([]) m)) f130 (by rw [u8s_length, (hashB_by _ _ _).1]; kernel_rfl) rfl rfl (u8s_each _) (by rw [u8s_length, u8s_length, (hashB_by _ _ _).1, (rep_by 16).1])) ?_)
                rintro _ w44 kf44
                obtain ⟨k44, f_p9_7_44⟩ := kf44
                replace f_p9_7_44 : Bk w44 p9_7 (u8s (hashB x ([]) m)) 23 := f_p9_7_44
                have kk44 := kk43.trans k44 (fun i hi => .inr (hi ▸ (Nat.le_trans kk41.size N42.le)))
                have f131 : Bk w44 p0_0 (u8s x) 22 := (f128.on k44 (Ne.symm ne_p9_7_p0_0))
                have f132 : Bk w44 p3_1 (u8s x) 23 := (f129.on k44 (Ne.symm ne_p9_7_p3_1))
                refine ⟨⟨kk44, f131, f132⟩, ?_⟩
                refine D_done (by kernel_rfl) ?_
                have f133 : Bk w44 p9_6 (u8s (hashB x ([]) l)) 23 := (f_p9_6_43.on k44 (Ne.symm ne_p9_7_p9_6))
                have ob134 := (((ob124.keptNo k42).onN k43 ob116 N39.le).onN k44 ob124 N42.le)
                refine X_cut hK_ [(1, .slice A1 (l.length) (c1)), (6, .bool false), (7, .pointer (some ⟨p3_1, 0, none⟩)), (8, .slice An ((zx (l.take k) (m.take k)).length) (cn)), (10, .pointer (some ⟨p9_6, 0, none⟩)), (11, .pointer (some ⟨p9_7, 0, none⟩))] (Sub.cons rfl (Sub.cons rfl (Sub.cons rfl (Sub.cons rfl (Sub.cons rfl (Sub.cons rfl (Sub.nil _))))))) ⟨p9_6, p9_7, rfl, kk44, f131, f132, f133, f_p9_7_44, ⟨ob134, (Nat.le_trans (Nat.le_trans (Nat.le_trans (Nat.le_trans (Nat.le_trans (Nat.le_trans (Nat.le_trans n_6.2 k10.size) k39.size) k40.size) k41.size) k42.size) k43.size) k44.size)⟩⟩
              · have f135 : Bk w40 p9_6 (u8s (List.replicate 16 0)) 23 := (f_p9_6_39.no k40)
                have ob136 := ((ob116.keptNo k39).keptNo k40)
                refine Nx_lo rfl (lo_alloc (L := u8s (List.replicate 16 0)) (by kernel_rfl)) rfl ?_
                rintro _ w45 ⟨p9_7, rfl, N45⟩
                have k45 := N45.kp
                have kk45 := kk40.then_ k45
                have ne_p9_7_p0_0 : p9_7 ≠ p0_0 := Nat.ne_of_gt (Nat.lt_of_lt_of_le f119.lt N45.le)
                have ne_p9_7_p3_1 : p9_7 ≠ p3_1 := Nat.ne_of_gt (Nat.lt_of_lt_of_le f120.lt N45.le)
                have ne_p9_7_p9_6 : p9_7 ≠ p9_6 := Nat.ne_of_gt (Nat.lt_of_lt_of_le f135.lt N45.le)
                have f_p9_7_45 : Bk w45 p9_7 (u8s (List.replicate 16 0)) 23 := N45.bk
                have f137 : Bk w45 p0_0 (u8s x) 22 := (f119.no k45)
                have f138 : Bk w45 p3_1 (u8s x) 23 := (f120.no k45)
                refine ⟨⟨kk45, f137, f138⟩, ?_⟩
                refine D_one 5 (by kernel_rfl) (Nx_lo rfl (lo_call (by kernel_rfl) rfl (r_hash x bx none A2 ([]) m 0 c2 _ (Bs.nil _ none) (Nat.le_refl _) (HB2.keptNo kk45) hc2 (by first | omega | (simp; done) | (simp; omega)) (by first | omega | (simp; done) | (simp; omega)))) rfl ?_)
                rintro _ w46 ⟨rfl, k46⟩
                have kk46 := kk45.then_ k46
                have f139 : Bk w46 p0_0 (u8s x) 22 := (f137.no k46)
                have f140 : Bk w46 p3_1 (u8s x) 23 := (f138.no k46)
                refine ⟨⟨kk46, f139, f140⟩, ?_⟩
                have f141 : Bk w46 p9_6 (u8s (List.replicate 16 0)) 23 := ((f135.no k45).no k46)
                refine D_one 8 (by kernel_rfl) (Nx_lo0 rfl (lo_storeRow (C := u8s (hashB x ([]) l)) f141 (by rw [u8s_length, (hashB_by _ _ _).1]; kernel_rfl) rfl rfl (u8s_each _) (by rw [u8s_length, u8s_length, (hashB_by _ _ _).1, (rep_by 16).1])) ?_)
                rintro _ w47 kf47
                obtain ⟨k47, f_p9_6_47⟩ := kf47
                replace f_p9_6_47 : Bk w47 p9_6 (u8s (hashB x ([]) l)) 23 := f_p9_6_47
                have kk47 := kk46.trans k47 (fun i hi => .inr (hi ▸ (Nat.le_trans kk10.size N39.le)))
                have f142 : Bk w47 p0_0 (u8s x) 22 := (f139.on k47 (Ne.symm ne_p9_6_p0_0))
                have f143 : Bk w47 p3_1 (u8s x) 23 := (f140.on k47 (Ne.symm ne_p9_6_p3_1))
                refine ⟨⟨kk47, f142, f143⟩, ?_⟩
                have f144 : Bk w47 p9_7 (u8s (List.replicate 16 0)) 23 := ((f_p9_7_45.no k46).on k47 ne_p9_7_p9_6)
                refine D_one 9 (by kernel_rfl) (Nx_lo0 rfl (lo_storeRow (C := u8s (hashB x ([]) m)) f144 (by rw [u8s_length, (hashB_by _ _ _).1]; kernel_rfl) rfl rfl (u8s_each _) (by rw [u8s_length, u8s_length, (hashB_by _ _ _).1, (rep_by 16).1])) ?_)
                rintro _ w48 kf48
                obtain ⟨k48, f_p9_7_48⟩ := kf48
                replace f_p9_7_48 : Bk w48 p9_7 (u8s (hashB x ([]) m)) 23 := f_p9_7_48
                have kk48 := kk47.trans k48 (fun i hi => .inr (hi ▸ (Nat.le_trans kk40.size N45.le)))
                have f145 : Bk w48 p0_0 (u8s x) 22 := (f142.on k48 (Ne.symm ne_p9_7_p0_0))
                have f146 : Bk w48 p3_1 (u8s x) 23 := (f143.on k48 (Ne.symm ne_p9_7_p3_1))
                refine ⟨⟨kk48, f145, f146⟩, ?_⟩
                refine D_done (by kernel_rfl) ?_
                have f147 : Bk w48 p9_6 (u8s (hashB x ([]) l)) 23 := (f_p9_6_47.on k48 (Ne.symm ne_p9_7_p9_6))
                have ob148 := ((((ob136.keptNo k45).keptNo k46).onN k47 ob116 N39.le).onN k48 ob136 N45.le)
                refine X_cut hK_ [(1, .slice A1 (l.length) (c1)), (6, .bool false), (7, .pointer (some ⟨p3_1, 0, none⟩)), (8, .slice An ((zx (l.take k) (m.take k)).length) (cn)), (10, .pointer (some ⟨p9_6, 0, none⟩)), (11, .pointer (some ⟨p9_7, 0, none⟩))] (Sub.cons rfl (Sub.cons rfl (Sub.cons rfl (Sub.cons rfl (Sub.cons rfl (Sub.cons rfl (Sub.nil _))))))) ⟨p9_6, p9_7, rfl, kk48, f145, f146, f147, f_p9_7_48, ⟨ob148, (Nat.le_trans (Nat.le_trans (Nat.le_trans (Nat.le_trans (Nat.le_trans (Nat.le_trans (Nat.le_trans n_6.2 k10.size) k39.size) k40.size) k45.size) k46.size) k47.size) k48.size)⟩⟩
            · have ob149 := (ob116.keptNo k39)
              refine Nx_lo rfl (lo_alloc (L := u8s (List.replicate 16 0)) (by kernel_rfl)) rfl ?_
              rintro _ w49 ⟨p9_7, rfl, N49⟩
              have k49 := N49.kp
              have kk49 := kk39.then_ k49
              have ne_p9_7_p0_0 : p9_7 ≠ p0_0 := Nat.ne_of_gt (Nat.lt_of_lt_of_le f117.lt N49.le)
              have ne_p9_7_p3_1 : p9_7 ≠ p3_1 := Nat.ne_of_gt (Nat.lt_of_lt_of_le f118.lt N49.le)
              have ne_p9_7_p9_6 : p9_7 ≠ p9_6 := Nat.ne_of_gt (Nat.lt_of_lt_of_le f_p9_6_39.lt N49.le)
              have f_p9_7_49 : Bk w49 p9_7 (u8s (List.replicate 16 0)) 23 := N49.bk
              have f150 : Bk w49 p0_0 (u8s x) 22 := (f117.no k49)
              have f151 : Bk w49 p3_1 (u8s x) 23 := (f118.no k49)
              refine ⟨⟨kk49, f150, f151⟩, ?_⟩
              refine D_one 2 (by kernel_rfl) (Nx_lo rfl (lo_call (by kernel_rfl) rfl (r_hash x bx none A1 ([]) l 0 c1 _ (Bs.nil _ none) (Nat.le_refl _) (HB1.keptNo kk49) hc1 (by first | omega | (simp; done) | (simp; omega)) (by first | omega | (simp; done) | (simp; omega)))) rfl ?_)
              rintro _ w50 ⟨rfl, k50⟩
              have kk50 := kk49.then_ k50
              have f152 : Bk w50 p0_0 (u8s x) 22 := (f150.no k50)
              have f153 : Bk w50 p3_1 (u8s x) 23 := (f151.no k50)
              refine ⟨⟨kk50, f152, f153⟩, ?_⟩
              refine D_one 5 (by kernel_rfl) (Nx_lo rfl (lo_call (by kernel_rfl) rfl (r_hash x bx none A2 ([]) m 0 c2 _ (Bs.nil _ none) (Nat.le_refl _) (HB2.keptNo kk50) hc2 (by first | omega | (simp; done) | (simp; omega)) (by first | omega | (simp; done) | (simp; omega)))) rfl ?_)
              rintro _ w51 ⟨rfl, k51⟩
              have kk51 := kk50.then_ k51
              have f154 : Bk w51 p0_0 (u8s x) 22 := (f152.no k51)
              have f155 : Bk w51 p3_1 (u8s x) 23 := (f153.no k51)
              refine ⟨⟨kk51, f154, f155⟩, ?_⟩
              have f156 : Bk w51 p9_6 (u8s (List.replicate 16 0)) 23 := (((f_p9_6_39.no k49).no k50).no k51)
              refine D_one 8 (by kernel_rfl) (Nx_lo0 rfl (lo_storeRow (C := u8s (hashB x ([]) l)) f156 (by rw [u8s_length, (hashB_by _ _ _).1]; kernel_rfl) rfl rfl (u8s_each _) (by rw [u8s_length, u8s_length, (hashB_by _ _ _).1, (rep_by 16).1])) ?_)
              rintro _ w52 kf52
              obtain ⟨k52, f_p9_6_52⟩ := kf52
              replace f_p9_6_52 : Bk w52 p9_6 (u8s (hashB x ([]) l)) 23 := f_p9_6_52
              have kk52 := kk51.trans k52 (fun i hi => .inr (hi ▸ (Nat.le_trans kk10.size N39.le)))
              have f157 : Bk w52 p0_0 (u8s x) 22 := (f154.on k52 (Ne.symm ne_p9_6_p0_0))
              have f158 : Bk w52 p3_1 (u8s x) 23 := (f155.on k52 (Ne.symm ne_p9_6_p3_1))
              refine ⟨⟨kk52, f157, f158⟩, ?_⟩
              have f159 : Bk w52 p9_7 (u8s (List.replicate 16 0)) 23 := (((f_p9_7_49.no k50).no k51).on k52 ne_p9_7_p9_6)
              refine D_one 9 (by kernel_rfl) (Nx_lo0 rfl (lo_storeRow (C := u8s (hashB x ([]) m)) f159 (by rw [u8s_length, (hashB_by _ _ _).1]; kernel_rfl) rfl rfl (u8s_each _) (by rw [u8s_length, u8s_length, (hashB_by _ _ _).1, (rep_by 16).1])) ?_)
              rintro _ w53 kf53
              obtain ⟨k53, f_p9_7_53⟩ := kf53
              replace f_p9_7_53 : Bk w53 p9_7 (u8s (hashB x ([]) m)) 23 := f_p9_7_53
              have kk53 := kk52.trans k53 (fun i hi => .inr (hi ▸ (Nat.le_trans kk39.size N49.le)))
              have f160 : Bk w53 p0_0 (u8s x) 22 := (f157.on k53 (Ne.symm ne_p9_7_p0_0))
              have f161 : Bk w53 p3_1 (u8s x) 23 := (f158.on k53 (Ne.symm ne_p9_7_p3_1))
              refine ⟨⟨kk53, f160, f161⟩, ?_⟩
              refine D_done (by kernel_rfl) ?_
              have f162 : Bk w53 p9_6 (u8s (hashB x ([]) l)) 23 := (f_p9_6_52.on k53 (Ne.symm ne_p9_7_p9_6))
              have ob163 := (((((ob149.keptNo k49).keptNo k50).keptNo k51).onN k52 ob116 N39.le).onN k53 ob149 N49.le)
              refine X_cut hK_ [(1, .slice A1 (l.length) (c1)), (6, .bool false), (7, .pointer (some ⟨p3_1, 0, none⟩)), (8, .slice An ((zx (l.take k) (m.take k)).length) (cn)), (10, .pointer (some ⟨p9_6, 0, none⟩)), (11, .pointer (some ⟨p9_7, 0, none⟩))] (Sub.cons rfl (Sub.cons rfl (Sub.cons rfl (Sub.cons rfl (Sub.cons rfl (Sub.cons rfl (Sub.nil _))))))) ⟨p9_6, p9_7, rfl, kk53, f160, f161, f162, f_p9_7_53, ⟨ob163, (Nat.le_trans (Nat.le_trans (Nat.le_trans (Nat.le_trans (Nat.le_trans (Nat.le_trans (Nat.le_trans n_6.2 k10.size) k39.size) k49.size) k50.size) k51.size) k52.size) k53.size)⟩⟩
          · have f164 : Bk w10 p0_0 (u8s x) 22 := (f_p0_0_6.no k10)
            have f165 : Bk w10 p3_1 (u8s x) 23 := (f_p3_1_6.no k10)
            have ob166 := (n_6.1.keptNo k10)
            refine Nx_lo rfl (lo_alloc (L := u8s (List.replicate 16 0)) (by kernel_rfl)) rfl ?_
            rintro _ w54 ⟨p9_7, rfl, N54⟩
            have k54 := N54.kp
            have kk54 := kk10.then_ k54
            have ne_p9_7_p0_0 : p9_7 ≠ p0_0 := Nat.ne_of_gt (Nat.lt_of_lt_of_le f164.lt N54.le)
            have ne_p9_7_p3_1 : p9_7 ≠ p3_1 := Nat.ne_of_gt (Nat.lt_of_lt_of_le f165.lt N54.le)
            have f_p9_7_54 : Bk w54 p9_7 (u8s (List.replicate 16 0)) 23 := N54.bk
            have f167 : Bk w54 p0_0 (u8s x) 22 := (f164.no k54)
            have f168 : Bk w54 p3_1 (u8s x) 23 := (f165.no k54)
            refine ⟨⟨kk54, f167, f168⟩, ?_⟩
            refine D_two 2 6 (by kernel_rfl) ?_ ?_
            · refine Nx_lo rfl (lo_call (by kernel_rfl) rfl (r_hash x bx none A1 ([]) l 0 c1 _ (Bs.nil _ none) (Nat.le_refl _) (HB1.keptNo kk54) hc1 (by first | omega | (simp; done) | (simp; omega)) (by first | omega | (simp; done) | (simp; omega)))) rfl ?_
              rintro _ w55 ⟨rfl, k55⟩
              have kk55 := kk54.then_ k55
              have f169 : Bk w55 p0_0 (u8s x) 22 := (f167.no k55)
              have f170 : Bk w55 p3_1 (u8s x) 23 := (f168.no k55)
              refine ⟨⟨kk55, f169, f170⟩, ?_⟩
              refine D_two 5 6 (by kernel_rfl) ?_ ?_
              · refine Nx_lo rfl (lo_call (by kernel_rfl) rfl (r_hash x bx none A2 ([]) m 0 c2 _ (Bs.nil _ none) (Nat.le_refl _) (HB2.keptNo kk55) hc2 (by first | omega | (simp; done) | (simp; omega)) (by first | omega | (simp; done) | (simp; omega)))) rfl ?_
                rintro _ w56 ⟨rfl, k56⟩
                have kk56 := kk55.then_ k56
                have f171 : Bk w56 p0_0 (u8s x) 22 := (f169.no k56)
                have f172 : Bk w56 p3_1 (u8s x) 23 := (f170.no k56)
                refine ⟨⟨kk56, f171, f172⟩, ?_⟩
                have f173 : Bk w56 p9_7 (u8s (List.replicate 16 0)) 23 := ((f_p9_7_54.no k55).no k56)
                have ob174 := (((ob166.keptNo k54).keptNo k55).keptNo k56)
                refine D_one 6 (by kernel_rfl) (Nx_lo rfl (lo_alloc (L := u8s (List.replicate 16 0)) (by kernel_rfl)) rfl ?_)
                rintro _ w57 ⟨p9_6, rfl, N57⟩
                have k57 := N57.kp
                have kk57 := kk56.then_ k57
                have ne_p9_6_p0_0 : p9_6 ≠ p0_0 := Nat.ne_of_gt (Nat.lt_of_lt_of_le f171.lt N57.le)
                have ne_p9_6_p3_1 : p9_6 ≠ p3_1 := Nat.ne_of_gt (Nat.lt_of_lt_of_le f172.lt N57.le)
                have ne_p9_6_p9_7 : p9_6 ≠ p9_7 := Nat.ne_of_gt (Nat.lt_of_lt_of_le f173.lt N57.le)
                have f_p9_6_57 : Bk w57 p9_6 (u8s (List.replicate 16 0)) 23 := N57.bk
                have f175 : Bk w57 p0_0 (u8s x) 22 := (f171.no k57)
                have f176 : Bk w57 p3_1 (u8s x) 23 := (f172.no k57)
                refine ⟨⟨kk57, f175, f176⟩, ?_⟩
                refine D_one 8 (by kernel_rfl) (Nx_lo0 rfl (lo_storeRow (C := u8s (hashB x ([]) l)) f_p9_6_57 (by rw [u8s_length, (hashB_by _ _ _).1]; kernel_rfl) rfl rfl (u8s_each _) (by rw [u8s_length, u8s_length, (hashB_by _ _ _).1, (rep_by 16).1])) ?_)
                rintro _ w58 kf58
                obtain ⟨k58, f_p9_6_58⟩ := kf58
                replace f_p9_6_58 : Bk w58 p9_6 (u8s (hashB x ([]) l)) 23 := f_p9_6_58
                have kk58 := kk57.trans k58 (fun i hi => .inr (hi ▸ (Nat.le_trans kk56.size N57.le)))
                have f177 : Bk w58 p0_0 (u8s x) 22 := (f175.on k58 (Ne.symm ne_p9_6_p0_0))
                have f178 : Bk w58 p3_1 (u8s x) 23 := (f176.on k58 (Ne.symm ne_p9_6_p3_1))
                refine ⟨⟨kk58, f177, f178⟩, ?_⟩
                have f179 : Bk w58 p9_7 (u8s (List.replicate 16 0)) 23 := ((f173.no k57).on k58 (Ne.symm ne_p9_6_p9_7))
                refine D_one 9 (by kernel_rfl) (Nx_lo0 rfl (lo_storeRow (C := u8s (hashB x ([]) m)) f179 (by rw [u8s_length, (hashB_by _ _ _).1]; kernel_rfl) rfl rfl (u8s_each _) (by rw [u8s_length, u8s_length, (hashB_by _ _ _).1, (rep_by 16).1])) ?_)
                rintro _ w59 kf59
                obtain ⟨k59, f_p9_7_59⟩ := kf59
                replace f_p9_7_59 : Bk w59 p9_7 (u8s (hashB x ([]) m)) 23 := f_p9_7_59
                have kk59 := kk58.trans k59 (fun i hi => .inr (hi ▸ (Nat.le_trans kk10.size N54.le)))
                have f180 : Bk w59 p0_0 (u8s x) 22 := (f177.on k59 (Ne.symm ne_p9_7_p0_0))
                have f181 : Bk w59 p3_1 (u8s x) 23 := (f178.on k59 (Ne.symm ne_p9_7_p3_1))
                refine ⟨⟨kk59, f180, f181⟩, ?_⟩
                refine D_done (by kernel_rfl) ?_
                have f182 : Bk w59 p9_6 (u8s (hashB x ([]) l)) 23 := (f_p9_6_58.on k59 ne_p9_6_p9_7)
                have ob183 := (((ob174.keptNo k57).onN k58 ob174 N57.le).onN k59 ob166 N54.le)
                refine X_cut hK_ [(1, .slice A1 (l.length) (c1)), (6, .bool false), (7, .pointer (some ⟨p3_1, 0, none⟩)), (8, .slice An ((zx (l.take k) (m.take k)).length) (cn)), (10, .pointer (some ⟨p9_6, 0, none⟩)), (11, .pointer (some ⟨p9_7, 0, none⟩))] (Sub.cons rfl (Sub.cons rfl (Sub.cons rfl (Sub.cons rfl (Sub.cons rfl (Sub.cons rfl (Sub.nil _))))))) ⟨p9_6, p9_7, rfl, kk59, f180, f181, f182, f_p9_7_59, ⟨ob183, (Nat.le_trans (Nat.le_trans (Nat.le_trans (Nat.le_trans (Nat.le_trans (Nat.le_trans (Nat.le_trans n_6.2 k10.size) k54.size) k55.size) k56.size) k57.size) k58.size) k59.size)⟩⟩
              · have f184 : Bk w55 p9_7 (u8s (List.replicate 16 0)) 23 := (f_p9_7_54.no k55)
                have ob185 := ((ob166.keptNo k54).keptNo k55)
                refine Nx_lo rfl (lo_alloc (L := u8s (List.replicate 16 0)) (by kernel_rfl)) rfl ?_
                rintro _ w60 ⟨p9_6, rfl, N60⟩
                have k60 := N60.kp
                have kk60 := kk55.then_ k60
                have ne_p9_6_p0_0 : p9_6 ≠ p0_0 := Nat.ne_of_gt (Nat.lt_of_lt_of_le f169.lt N60.le)
                have ne_p9_6_p3_1 : p9_6 ≠ p3_1 := Nat.ne_of_gt (Nat.lt_of_lt_of_le f170.lt N60.le)
                have ne_p9_6_p9_7 : p9_6 ≠ p9_7 := Nat.ne_of_gt (Nat.lt_of_lt_of_le f184.lt N60.le)
                have f_p9_6_60 : Bk w60 p9_6 (u8s (List.replicate 16 0)) 23 := N60.bk
                have f186 : Bk w60 p0_0 (u8s x) 22 := (f169.no k60)
                have f187 : Bk w60 p3_1 (u8s x) 23 := (f170.no k60)
                refine ⟨⟨kk60, f186, f187⟩, ?_⟩
                refine D_one 5 (by kernel_rfl) (Nx_lo rfl (lo_call (by kernel_rfl) rfl (r_hash x bx none A2 ([]) m 0 c2 _ (Bs.nil _ none) (Nat.le_refl _) (HB2.keptNo kk60) hc2 (by first | omega | (simp; done) | (simp; omega)) (by first | omega | (simp; done) | (simp; omega)))) rfl ?_)
                rintro _ w61 ⟨rfl, k61⟩
                have kk61 := kk60.then_ k61
                have f188 : Bk w61 p0_0 (u8s x) 22 := (f186.no k61)
                have f189 : Bk w61 p3_1 (u8s x) 23 := (f187.no k61)
                refine ⟨⟨kk61, f188, f189⟩, ?_⟩
                have f190 : Bk w61 p9_6 (u8s (List.replicate 16 0)) 23 := (f_p9_6_60.no k61)
                refine D_one 8 (by kernel_rfl) (Nx_lo0 rfl (lo_storeRow (C := u8s (hashB x ([]) l)) f190 (by rw [u8s_length, (hashB_by _ _ _).1]; kernel_rfl) rfl rfl (u8s_each _) (by rw [u8s_length, u8s_length, (hashB_by _ _ _).1, (rep_by 16).1])) ?_)
                rintro _ w62 kf62
                obtain ⟨k62, f_p9_6_62⟩ := kf62
                replace f_p9_6_62 : Bk w62 p9_6 (u8s (hashB x ([]) l)) 23 := f_p9_6_62
                have kk62 := kk61.trans k62 (fun i hi => .inr (hi ▸ (Nat.le_trans kk55.size N60.le)))
                have f191 : Bk w62 p0_0 (u8s x) 22 := (f188.on k62 (Ne.symm ne_p9_6_p0_0))
                have f192 : Bk w62 p3_1 (u8s x) 23 := (f189.on k62 (Ne.symm ne_p9_6_p3_1))
                refine ⟨⟨kk62, f191, f192⟩, ?_⟩
                have f193 : Bk w62 p9_7 (u8s (List.replicate 16 0)) 23 := (((f184.no k60).no k61).on k62 (Ne.symm ne_p9_6_p9_7))
                refine D_one 9 (by kernel_rfl) (Nx_lo0 rfl (lo_storeRow (C := u8s (hashB x ([]) m)) f193 (by rw [u8s_length, (hashB_by _ _ _).1]; kernel_rfl) rfl rfl (u8s_each _) (by rw [u8s_length, u8s_length, (hashB_by _ _ _).1, (rep_by 16).1])) ?_)
                rintro _ w63 kf63
                obtain ⟨k63, f_p9_7_63⟩ := kf63
                replace f_p9_7_63 : Bk w63 p9_7 (u8s (hashB x ([]) m)) 23 := f_p9_7_63
                have kk63 := kk62.trans k63 (fun i hi => .inr (hi ▸ (Nat.le_trans kk10.size N54.le)))
                have f194 : Bk w63 p0_0 (u8s x) 22 := (f191.on k63 (Ne.symm ne_p9_7_p0_0))
                have f195 : Bk w63 p3_1 (u8s x) 23 := (f192.on k63 (Ne.symm ne_p9_7_p3_1))
                refine ⟨⟨kk63, f194, f195⟩, ?_⟩
                refine D_done (by kernel_rfl) ?_
                have f196 : Bk w63 p9_6 (u8s (hashB x ([]) l)) 23 := (f_p9_6_62.on k63 ne_p9_6_p9_7)
                have ob197 := ((((ob185.keptNo k60).keptNo k61).onN k62 ob185 N60.le).onN k63 ob166 N54.le)
                refine X_cut hK_ [(1, .slice A1 (l.length) (c1)), (6, .bool false), (7, .pointer (some ⟨p3_1, 0, none⟩)), (8, .slice An ((zx (l.take k) (m.take k)).length) (cn)), (10, .pointer (some ⟨p9_6, 0, none⟩)), (11, .pointer (some ⟨p9_7, 0, none⟩))] (Sub.cons rfl (Sub.cons rfl (Sub.cons rfl (Sub.cons rfl (Sub.cons rfl (Sub.cons rfl (Sub.nil _))))))) ⟨p9_6, p9_7, rfl, kk63, f194, f195, f196, f_p9_7_63, ⟨ob197, (Nat.le_trans (Nat.le_trans (Nat.le_trans (Nat.le_trans (Nat.le_trans (Nat.le_trans (Nat.le_trans n_6.2 k10.size) k54.size) k55.size) k60.size) k61.size) k62.size) k63.size)⟩⟩
            · have ob198 := (ob166.keptNo k54)
              refine Nx_lo rfl (lo_alloc (L := u8s (List.replicate 16 0)) (by kernel_rfl)) rfl ?_
              rintro _ w64 ⟨p9_6, rfl, N64⟩
              have k64 := N64.kp
              have kk64 := kk54.then_ k64
              have ne_p9_6_p0_0 : p9_6 ≠ p0_0 := Nat.ne_of_gt (Nat.lt_of_lt_of_le f167.lt N64.le)
              have ne_p9_6_p3_1 : p9_6 ≠ p3_1 := Nat.ne_of_gt (Nat.lt_of_lt_of_le f168.lt N64.le)
              have ne_p9_6_p9_7 : p9_6 ≠ p9_7 := Nat.ne_of_gt (Nat.lt_of_lt_of_le f_p9_7_54.lt N64.le)
              have f_p9_6_64 : Bk w64 p9_6 (u8s (List.replicate 16 0)) 23 := N64.bk
              have f199 : Bk w64 p0_0 (u8s x) 22 := (f167.no k64)
              have f200 : Bk w64 p3_1 (u8s x) 23 := (f168.no k64)
              refine ⟨⟨kk64, f199, f200⟩, ?_⟩
              refine D_one 2 (by kernel_rfl) (Nx_lo rfl (lo_call (by kernel_rfl) rfl (r_hash x bx none A1 ([]) l 0 c1 _ (Bs.nil _ none) (Nat.le_refl _) (HB1.keptNo kk64) hc1 (by first | omega | (simp; done) | (simp; omega)) (by first | omega | (simp; done) | (simp; omega)))) rfl ?_)
              rintro _ w65 ⟨rfl, k65⟩
              have kk65 := kk64.then_ k65
              have f201 : Bk w65 p0_0 (u8s x) 22 := (f199.no k65)
              have f202 : Bk w65 p3_1 (u8s x) 23 := (f200.no k65)
              refine ⟨⟨kk65, f201, f202⟩, ?_⟩
              refine D_one 5 (by kernel_rfl) (Nx_lo rfl (lo_call (by kernel_rfl) rfl (r_hash x bx none A2 ([]) m 0 c2 _ (Bs.nil _ none) (Nat.le_refl _) (HB2.keptNo kk65) hc2 (by first | omega | (simp; done) | (simp; omega)) (by first | omega | (simp; done) | (simp; omega)))) rfl ?_)
              rintro _ w66 ⟨rfl, k66⟩
              have kk66 := kk65.then_ k66
              have f203 : Bk w66 p0_0 (u8s x) 22 := (f201.no k66)
              have f204 : Bk w66 p3_1 (u8s x) 23 := (f202.no k66)
              refine ⟨⟨kk66, f203, f204⟩, ?_⟩
              have f205 : Bk w66 p9_6 (u8s (List.replicate 16 0)) 23 := ((f_p9_6_64.no k65).no k66)
              refine D_one 8 (by kernel_rfl) (Nx_lo0 rfl (lo_storeRow (C := u8s (hashB x ([]) l)) f205 (by rw [u8s_length, (hashB_by _ _ _).1]; kernel_rfl) rfl rfl (u8s_each _) (by rw [u8s_length, u8s_length, (hashB_by _ _ _).1, (rep_by 16).1])) ?_)
              rintro _ w67 kf67
              obtain ⟨k67, f_p9_6_67⟩ := kf67
              replace f_p9_6_67 : Bk w67 p9_6 (u8s (hashB x ([]) l)) 23 := f_p9_6_67
              have kk67 := kk66.trans k67 (fun i hi => .inr (hi ▸ (Nat.le_trans kk54.size N64.le)))
              have f206 : Bk w67 p0_0 (u8s x) 22 := (f203.on k67 (Ne.symm ne_p9_6_p0_0))
              have f207 : Bk w67 p3_1 (u8s x) 23 := (f204.on k67 (Ne.symm ne_p9_6_p3_1))
              refine ⟨⟨kk67, f206, f207⟩, ?_⟩
              have f208 : Bk w67 p9_7 (u8s (List.replicate 16 0)) 23 := ((((f_p9_7_54.no k64).no k65).no k66).on k67 (Ne.symm ne_p9_6_p9_7))
              refine D_one 9 (by kernel_rfl) (Nx_lo0 rfl (lo_storeRow (C := u8s (hashB x ([]) m)) f208 (by rw [u8s_length, (hashB_by _ _ _).1]; kernel_rfl) rfl rfl (u8s_each _) (by rw [u8s_length, u8s_length, (hashB_by _ _ _).1, (rep_by 16).1])) ?_)
              rintro _ w68 kf68
              obtain ⟨k68, f_p9_7_68⟩ := kf68
              replace f_p9_7_68 : Bk w68 p9_7 (u8s (hashB x ([]) m)) 23 := f_p9_7_68
              have kk68 := kk67.trans k68 (fun i hi => .inr (hi ▸ (Nat.le_trans kk10.size N54.le)))
              have f209 : Bk w68 p0_0 (u8s x) 22 := (f206.on k68 (Ne.symm ne_p9_7_p0_0))
              have f210 : Bk w68 p3_1 (u8s x) 23 := (f207.on k68 (Ne.symm ne_p9_7_p3_1))
              refine ⟨⟨kk68, f209, f210⟩, ?_⟩
              refine D_done (by kernel_rfl) ?_
              have f211 : Bk w68 p9_6 (u8s (hashB x ([]) l)) 23 := (f_p9_6_67.on k68 ne_p9_6_p9_7)
              have ob212 := (((((ob198.keptNo k64).keptNo k65).keptNo k66).onN k67 ob198 N64.le).onN k68 ob166 N54.le)
              refine X_cut hK_ [(1, .slice A1 (l.length) (c1)), (6, .bool false), (7, .pointer (some ⟨p3_1, 0, none⟩)), (8, .slice An ((zx (l.take k) (m.take k)).length) (cn)), (10, .pointer (some ⟨p9_6, 0, none⟩)), (11, .pointer (some ⟨p9_7, 0, none⟩))] (Sub.cons rfl (Sub.cons rfl (Sub.cons rfl (Sub.cons rfl (Sub.cons rfl (Sub.cons rfl (Sub.nil _))))))) ⟨p9_6, p9_7, rfl, kk68, f209, f210, f211, f_p9_7_68, ⟨ob212, (Nat.le_trans (Nat.le_trans (Nat.le_trans (Nat.le_trans (Nat.le_trans (Nat.le_trans (Nat.le_trans n_6.2 k10.size) k54.size) k64.size) k65.size) k66.size) k67.size) k68.size)⟩⟩
        · rintro _ w69 ⟨pa, pb, rfl, kk69, f_p0_0_69, f_p3_1_69, f_pa_69, f_pb_69, n_69⟩
          refine C_seq (fun K213 hK213 => ?_)
          have ez : zx (l.take k) (m.take k) = zx l m := by rw [List.take_of_length_le (by omega), List.take_of_length_le (by omega)]
          have s1 : (zx (l.take k) (m.take k)).length < 2 ^ 60 := by rw [ez, zx_length hlm.symm]; omega
          refine D_begin (fun W => Kp No w W ∧ Bk W p0_0 (u8s x) 22 ∧ Bk W p3_1 (u8s x) 23 ∧ Bk W pa (u8s (hashB x [] l)) 23 ∧ Bk W pb (u8s (hashB x [] m)) 23) 17 rfl (by kernel_rfl) ⟨kk69.drew, f_p0_0_69.draw, f_p3_1_69.draw, f_pa_69.draw, f_pb_69.draw⟩ ?_
          intro w70 k70 _
          have kk70 := kk69.then_ k70
          refine D_take 0 rfl (by kernel_rfl) (by kernel_rfl) (by kernel_rfl) (fun _ _ _ h => h) rfl (fun W hS => pu_loadRow (len := 16) hS.2.2.2.1 (by kernel_rfl) (by kernel_rfl) (by rw [u8s_length]; exact (hashB_by _ _ _).1) rfl) ?_
          refine D_take 1 rfl (by kernel_rfl) (by kernel_rfl) (by kernel_rfl) (fun _ _ _ h => h) rfl (fun W hS => pu_loadRow (len := 16) hS.2.2.2.2 (by kernel_rfl) (by kernel_rfl) (by rw [u8s_length]; exact (hashB_by _ _ _).1) rfl) ?_
          refine D_take 3 rfl (by kernel_rfl) (by kernel_rfl) (by kernel_rfl) (fun _ _ _ h => h) rfl (fun W hS => pu_loadRow (len := 16) hS.2.2.1 (by kernel_rfl) (by kernel_rfl) (by rw [u8s_length]; exact bx.1) rfl) ?_
          refine D_take 4 rfl (by kernel_rfl) (by kernel_rfl) (by kernel_rfl) (fun _ _ _ h => h) rfl (fun W hS => pu_move rfl) ?_
          refine D_take 6 rfl (by kernel_rfl) (by kernel_rfl) (by kernel_rfl) (fun _ _ _ h => h) rfl (fun W hS => pu_loadRow (len := 16) hS.2.2.1 (by kernel_rfl) (by kernel_rfl) (by rw [u8s_length]; exact bx.1) rfl) ?_
          refine D_take 7 rfl (by kernel_rfl) (by kernel_rfl) (by kernel_rfl) (fun _ _ _ h => h) rfl (fun W hS => pu_move rfl) ?_
          refine D_take 8 rfl (by kernel_rfl) (by kernel_rfl) (by kernel_rfl) (fun _ _ _ h => h) rfl (fun W hS => pu_len Try.underlying28 rfl) ?_
          refine D_two 2 9 (by kernel_rfl) ?_ ?_
          · refine Nx_lo rfl (lo_call (by kernel_rfl) rfl (r_add (hashB_by _ _ _) (hashB_by _ _ _) _)) rfl ?_
            rintro _ w71 ⟨rfl, k71⟩
            have kk71 := kk70.then_ k71
            have f214 : Bk w71 p0_0 (u8s x) 22 := ((f_p0_0_69.no k70).no k71)
            have f215 : Bk w71 p3_1 (u8s x) 23 := ((f_p3_1_69.no k70).no k71)
            have f216 : Bk w71 pa (u8s (hashB x [] l)) 23 := ((f_pa_69.no k70).no k71)
            have f217 : Bk w71 pb (u8s (hashB x [] m)) 23 := ((f_pb_69.no k70).no k71)
            refine ⟨⟨kk71, f214, f215, f216, f217⟩, ?_⟩
            refine D_two 5 9 (by kernel_rfl) ?_ ?_
            · have ob218 := ((n_69.1.keptNo k70).keptNo k71)
              refine Nx_lo rfl (lo_call (by kernel_rfl) rfl (r_hash x bx none An ([]) (zx (l.take k) (m.take k)) 0 cn _ (Bs.nil _ none) (Nat.le_refl _) ob218.bs ob218.le.2 (by first | omega | (simp; done) | (simp; omega)) (by first | exact s1 | omega))) rfl ?_
              rintro _ w72 ⟨rfl, k72⟩
              have kk72 := kk71.then_ k72
              have f219 : Bk w72 p0_0 (u8s x) 22 := (f214.no k72)
              have f220 : Bk w72 p3_1 (u8s x) 23 := (f215.no k72)
              have f221 : Bk w72 pa (u8s (hashB x [] l)) 23 := (f216.no k72)
              have f222 : Bk w72 pb (u8s (hashB x [] m)) 23 := (f217.no k72)
              refine ⟨⟨kk72, f219, f220, f221, f222⟩, ?_⟩
              have ob223 := (ob218.keptNo k72)
              refine D_one 9 (by kernel_rfl) (Nx_lo rfl (lo_make (z := .int .u8 0) (bytes := 1) (ln := l.length) (cp := l.length) Try.underlying28 (by kernel_rfl) rfl rfl rfl rfl rfl (by omega) (by omega) (by omega)) rfl ?_)
              rintro _ w73 ⟨p10_9, rfl, N73⟩
              have k73 := N73.kp
              have kk73 := kk72.then_ k73
              have ne_p10_9_p0_0 : p10_9 ≠ p0_0 := Nat.ne_of_gt (Nat.lt_of_lt_of_le f219.lt N73.le)
              have ne_p10_9_p3_1 : p10_9 ≠ p3_1 := Nat.ne_of_gt (Nat.lt_of_lt_of_le f220.lt N73.le)
              have ne_p10_9_pa : p10_9 ≠ pa := Nat.ne_of_gt (Nat.lt_of_lt_of_le f221.lt N73.le)
              have ne_p10_9_pb : p10_9 ≠ pb := Nat.ne_of_gt (Nat.lt_of_lt_of_le f222.lt N73.le)
              have f_p10_9_73 : Bk w73 p10_9 (u8s (List.replicate l.length 0)) 5 := by rw [u8s_rep]; exact N73.bk
              have f224 : Bk w73 p0_0 (u8s x) 22 := (f219.no k73)
              have f225 : Bk w73 p3_1 (u8s x) 23 := (f220.no k73)
              have f226 : Bk w73 pa (u8s (hashB x [] l)) 23 := (f221.no k73)
              have f227 : Bk w73 pb (u8s (hashB x [] m)) 23 := (f222.no k73)
              refine ⟨⟨kk73, f224, f225, f226, f227⟩, ?_⟩
              refine D_one 10 (by kernel_rfl) (Nx_lo rfl (lo_callE (by kernel_rfl) rfl (by rw [(rep_by l.length).1] <;> rfl) (r_hash x bx none (some ⟨p10_9, 0, none⟩) ([]) (List.replicate l.length 0) 0 l.length _ (Bs.nil _ none) (Nat.le_refl _) (Bs.ofBk f_p10_9_73 (rep_by l.length)) (Nat.le_of_eq (rep_by l.length).1) (by first | omega | (simp; done) | (simp; omega)) (by first | omega | (simp; done) | (simp; omega)))) rfl ?_)
              rintro _ w74 ⟨rfl, k74⟩
              have kk74 := kk73.then_ k74
              have f228 : Bk w74 p0_0 (u8s x) 22 := (f224.no k74)
              have f229 : Bk w74 p3_1 (u8s x) 23 := (f225.no k74)
              have f230 : Bk w74 pa (u8s (hashB x [] l)) 23 := (f226.no k74)
              have f231 : Bk w74 pb (u8s (hashB x [] m)) 23 := (f227.no k74)
              refine ⟨⟨kk74, f228, f229, f230, f231⟩, ?_⟩
              refine D_one 11 (by kernel_rfl) (Nx_lo rfl (lo_call (by kernel_rfl) rfl (r_add (hashB_by _ _ _) (hashB_by _ _ _) _)) rfl ?_)
              rintro _ w75 ⟨rfl, k75⟩
              have kk75 := kk74.then_ k75
              have f232 : Bk w75 p0_0 (u8s x) 22 := (f228.no k75)
              have f233 : Bk w75 p3_1 (u8s x) 23 := (f229.no k75)
              have f234 : Bk w75 pa (u8s (hashB x [] l)) 23 := (f230.no k75)
              have f235 : Bk w75 pb (u8s (hashB x [] m)) 23 := (f231.no k75)
              refine ⟨⟨kk75, f232, f233, f234, f235⟩, ?_⟩
              refine D_take 12 rfl (by kernel_rfl) (by kernel_rfl) (by kernel_rfl) (fun _ _ _ h => h) rfl (fun W hS => pu_true (pu_eqlB (t := 23) Try.underlying23 Try.underlying5 (by kernel_rfl) (by kernel_rfl) ((addB_by _ _)) ((addB_by _ _)) rfl rfl) (by rw [ez]; exact hash_linear bx hlm.symm HB1.byte HB2.byte (by omega))) ?_
              refine D_take 13 rfl (by kernel_rfl) (by kernel_rfl) (by kernel_rfl) (fun _ _ _ h => h) rfl (fun W hS => pu_move rfl) ?_
              refine D_one 14 (by kernel_rfl) (Nx_glo rfl rfl rfl (lo_call (by kernel_rfl) rfl (r_sure _)) rfl ?_)
              rintro _ w76 ⟨rfl, k76⟩
              have kk76 := kk75.then_ k76
              have f236 : Bk w76 p0_0 (u8s x) 22 := (f232.no k76)
              have f237 : Bk w76 p3_1 (u8s x) 23 := (f233.no k76)
              have f238 : Bk w76 pa (u8s (hashB x [] l)) 23 := (f234.no k76)
              have f239 : Bk w76 pb (u8s (hashB x [] m)) 23 := (f235.no k76)
              refine ⟨⟨kk76, f236, f237, f238, f239⟩, ?_⟩
              refine D_take 15 rfl (by kernel_rfl) (by kernel_rfl) (by kernel_rfl) (fun _ _ _ h => h) rfl (fun W hS => pu_pickt rfl rfl) ?_
              refine D_take 16 rfl (by kernel_rfl) (by kernel_rfl) (by kernel_rfl) (fun _ _ _ h => h) rfl (fun W hS => pu_assign rfl) ?_
              refine D_done (by kernel_rfl) ?_
              refine X_then hK213 ?_
              refine C_ret ?_
              exact X_ret1 (.inl rfl) rfl rfl ⟨rfl, kk76⟩
            · have ob240 := ((n_69.1.keptNo k70).keptNo k71)
              refine Nx_lo rfl (lo_make (z := .int .u8 0) (bytes := 1) (ln := l.length) (cp := l.length) Try.underlying28 (by kernel_rfl) rfl rfl rfl rfl rfl (by omega) (by omega) (by omega)) rfl ?_
              rintro _ w77 ⟨p10_9, rfl, N77⟩
              have k77 := N77.kp
              have kk77 := kk71.then_ k77
              have ne_p10_9_p0_0 : p10_9 ≠ p0_0 := Nat.ne_of_gt (Nat.lt_of_lt_of_le f214.lt N77.le)
              have ne_p10_9_p3_1 : p10_9 ≠ p3_1 := Nat.ne_of_gt (Nat.lt_of_lt_of_le f215.lt N77.le)
              have ne_p10_9_pa : p10_9 ≠ pa := Nat.ne_of_gt (Nat.lt_of_lt_of_le f216.lt N77.le)
              have ne_p10_9_pb : p10_9 ≠ pb := Nat.ne_of_gt (Nat.lt_of_lt_of_le f217.lt N77.le)
              have f_p10_9_77 : Bk w77 p10_9 (u8s (List.replicate l.length 0)) 5 := by rw [u8s_rep]; exact N77.bk
              have f241 : Bk w77 p0_0 (u8s x) 22 := (f214.no k77)
              have f242 : Bk w77 p3_1 (u8s x) 23 := (f215.no k77)
              have f243 : Bk w77 pa (u8s (hashB x [] l)) 23 := (f216.no k77)
              have f244 : Bk w77 pb (u8s (hashB x [] m)) 23 := (f217.no k77)
              refine ⟨⟨kk77, f241, f242, f243, f244⟩, ?_⟩
              have ob245 := (ob240.keptNo k77)
              refine D_one 5 (by kernel_rfl) (Nx_lo rfl (lo_call (by kernel_rfl) rfl (r_hash x bx none An ([]) (zx (l.take k) (m.take k)) 0 cn _ (Bs.nil _ none) (Nat.le_refl _) ob245.bs ob245.le.2 (by first | omega | (simp; done) | (simp; omega)) (by first | exact s1 | omega))) rfl ?_)
              rintro _ w78 ⟨rfl, k78⟩
              have kk78 := kk77.then_ k78
              have f246 : Bk w78 p0_0 (u8s x) 22 := (f241.no k78)
              have f247 : Bk w78 p3_1 (u8s x) 23 := (f242.no k78)
              have f248 : Bk w78 pa (u8s (hashB x [] l)) 23 := (f243.no k78)
              have f249 : Bk w78 pb (u8s (hashB x [] m)) 23 := (f244.no k78)
              refine ⟨⟨kk78, f246, f247, f248, f249⟩, ?_⟩
              have f250 : Bk w78 p10_9 (u8s (List.replicate l.length 0)) 5 := (f_p10_9_77.no k78)
              refine D_one 10 (by kernel_rfl) (Nx_lo rfl (lo_callE (by kernel_rfl) rfl (by rw [(rep_by l.length).1] <;> rfl) (r_hash x bx none (some ⟨p10_9, 0, none⟩) ([]) (List.replicate l.length 0) 0 l.length _ (Bs.nil _ none) (Nat.le_refl _) (Bs.ofBk f250 (rep_by l.length)) (Nat.le_of_eq (rep_by l.length).1) (by first | omega | (simp; done) | (simp; omega)) (by first | omega | (simp; done) | (simp; omega)))) rfl ?_)
              rintro _ w79 ⟨rfl, k79⟩
              have kk79 := kk78.then_ k79
              have f251 : Bk w79 p0_0 (u8s x) 22 := (f246.no k79)
              have f252 : Bk w79 p3_1 (u8s x) 23 := (f247.no k79)
              have f253 : Bk w79 pa (u8s (hashB x [] l)) 23 := (f248.no k79)
              have f254 : Bk w79 pb (u8s (hashB x [] m)) 23 := (f249.no k79)
              refine ⟨⟨kk79, f251, f252, f253, f254⟩, ?_⟩
              refine D_one 11 (by kernel_rfl) (Nx_lo rfl (lo_call (by kernel_rfl) rfl (r_add (hashB_by _ _ _) (hashB_by _ _ _) _)) rfl ?_)
              rintro _ w80 ⟨rfl, k80⟩
              have kk80 := kk79.then_ k80
              have f255 : Bk w80 p0_0 (u8s x) 22 := (f251.no k80)
              have f256 : Bk w80 p3_1 (u8s x) 23 := (f252.no k80)
              have f257 : Bk w80 pa (u8s (hashB x [] l)) 23 := (f253.no k80)
              have f258 : Bk w80 pb (u8s (hashB x [] m)) 23 := (f254.no k80)
              refine ⟨⟨kk80, f255, f256, f257, f258⟩, ?_⟩
              refine D_take 12 rfl (by kernel_rfl) (by kernel_rfl) (by kernel_rfl) (fun _ _ _ h => h) rfl (fun W hS => pu_true (pu_eqlB (t := 23) Try.underlying23 Try.underlying5 (by kernel_rfl) (by kernel_rfl) ((addB_by _ _)) ((addB_by _ _)) rfl rfl) (by rw [ez]; exact hash_linear bx hlm.symm HB1.byte HB2.byte (by omega))) ?_
              refine D_take 13 rfl (by kernel_rfl) (by kernel_rfl) (by kernel_rfl) (fun _ _ _ h => h) rfl (fun W hS => pu_move rfl) ?_
              refine D_one 14 (by kernel_rfl) (Nx_glo rfl rfl rfl (lo_call (by kernel_rfl) rfl (r_sure _)) rfl ?_)
              rintro _ w81 ⟨rfl, k81⟩
              have kk81 := kk80.then_ k81
              have f259 : Bk w81 p0_0 (u8s x) 22 := (f255.no k81)
              have f260 : Bk w81 p3_1 (u8s x) 23 := (f256.no k81)
              have f261 : Bk w81 pa (u8s (hashB x [] l)) 23 := (f257.no k81)
              have f262 : Bk w81 pb (u8s (hashB x [] m)) 23 := (f258.no k81)
              refine ⟨⟨kk81, f259, f260, f261, f262⟩, ?_⟩
              refine D_take 15 rfl (by kernel_rfl) (by kernel_rfl) (by kernel_rfl) (fun _ _ _ h => h) rfl (fun W hS => pu_pickt rfl rfl) ?_
              refine D_take 16 rfl (by kernel_rfl) (by kernel_rfl) (by kernel_rfl) (fun _ _ _ h => h) rfl (fun W hS => pu_assign rfl) ?_
              refine D_done (by kernel_rfl) ?_
              refine X_then hK213 ?_
              refine C_ret ?_
              exact X_ret1 (.inl rfl) rfl rfl ⟨rfl, kk81⟩
          · have f263 : Bk w70 p0_0 (u8s x) 22 := (f_p0_0_69.no k70)
            have f264 : Bk w70 p3_1 (u8s x) 23 := (f_p3_1_69.no k70)
            have f265 : Bk w70 pa (u8s (hashB x [] l)) 23 := (f_pa_69.no k70)
            have f266 : Bk w70 pb (u8s (hashB x [] m)) 23 := (f_pb_69.no k70)
            have ob267 := (n_69.1.keptNo k70)
            refine Nx_lo rfl (lo_make (z := .int .u8 0) (bytes := 1) (ln := l.length) (cp := l.length) Try.underlying28 (by kernel_rfl) rfl rfl rfl rfl rfl (by omega) (by omega) (by omega)) rfl ?_
            rintro _ w82 ⟨p10_9, rfl, N82⟩
            have k82 := N82.kp
            have kk82 := kk70.then_ k82
            have ne_p10_9_p0_0 : p10_9 ≠ p0_0 := Nat.ne_of_gt (Nat.lt_of_lt_of_le f263.lt N82.le)
            have ne_p10_9_p3_1 : p10_9 ≠ p3_1 := Nat.ne_of_gt (Nat.lt_of_lt_of_le f264.lt N82.le)
            have ne_p10_9_pa : p10_9 ≠ pa := Nat.ne_of_gt (Nat.lt_of_lt_of_le f265.lt N82.le)
            have ne_p10_9_pb : p10_9 ≠ pb := Nat.ne_of_gt (Nat.lt_of_lt_of_le f266.lt N82.le)
            have f_p10_9_82 : Bk w82 p10_9 (u8s (List.replicate l.length 0)) 5 := by rw [u8s_rep]; exact N82.bk
            have f268 : Bk w82 p0_0 (u8s x) 22 := (f263.no k82)
            have f269 : Bk w82 p3_1 (u8s x) 23 := (f264.no k82)
            have f270 : Bk w82 pa (u8s (hashB x [] l)) 23 := (f265.no k82)
            have f271 : Bk w82 pb (u8s (hashB x [] m)) 23 := (f266.no k82)
            refine ⟨⟨kk82, f268, f269, f270, f271⟩, ?_⟩
            refine D_one 2 (by kernel_rfl) (Nx_lo rfl (lo_call (by kernel_rfl) rfl (r_add (hashB_by _ _ _) (hashB_by _ _ _) _)) rfl ?_)
            rintro _ w83 ⟨rfl, k83⟩
            have kk83 := kk82.then_ k83
            have f272 : Bk w83 p0_0 (u8s x) 22 := (f268.no k83)
            have f273 : Bk w83 p3_1 (u8s x) 23 := (f269.no k83)
            have f274 : Bk w83 pa (u8s (hashB x [] l)) 23 := (f270.no k83)
            have f275 : Bk w83 pb (u8s (hashB x [] m)) 23 := (f271.no k83)
            refine ⟨⟨kk83, f272, f273, f274, f275⟩, ?_⟩
            have ob276 := ((ob267.keptNo k82).keptNo k83)
            refine D_one 5 (by kernel_rfl) (Nx_lo rfl (lo_call (by kernel_rfl) rfl (r_hash x bx none An ([]) (zx (l.take k) (m.take k)) 0 cn _ (Bs.nil _ none) (Nat.le_refl _) ob276.bs ob276.le.2 (by first | omega | (simp; done) | (simp; omega)) (by first | exact s1 | omega))) rfl ?_)
            rintro _ w84 ⟨rfl, k84⟩
            have kk84 := kk83.then_ k84
            have f277 : Bk w84 p0_0 (u8s x) 22 := (f272.no k84)
            have f278 : Bk w84 p3_1 (u8s x) 23 := (f273.no k84)
            have f279 : Bk w84 pa (u8s (hashB x [] l)) 23 := (f274.no k84)
            have f280 : Bk w84 pb (u8s (hashB x [] m)) 23 := (f275.no k84)
            refine ⟨⟨kk84, f277, f278, f279, f280⟩, ?_⟩
            have f281 : Bk w84 p10_9 (u8s (List.replicate l.length 0)) 5 := ((f_p10_9_82.no k83).no k84)
            refine D_one 10 (by kernel_rfl) (Nx_lo rfl (lo_callE (by kernel_rfl) rfl (by rw [(rep_by l.length).1] <;> rfl) (r_hash x bx none (some ⟨p10_9, 0, none⟩) ([]) (List.replicate l.length 0) 0 l.length _ (Bs.nil _ none) (Nat.le_refl _) (Bs.ofBk f281 (rep_by l.length)) (Nat.le_of_eq (rep_by l.length).1) (by first | omega | (simp; done) | (simp; omega)) (by first | omega | (simp; done) | (simp; omega)))) rfl ?_)
            rintro _ w85 ⟨rfl, k85⟩
            have kk85 := kk84.then_ k85
            have f282 : Bk w85 p0_0 (u8s x) 22 := (f277.no k85)
            have f283 : Bk w85 p3_1 (u8s x) 23 := (f278.no k85)
            have f284 : Bk w85 pa (u8s (hashB x [] l)) 23 := (f279.no k85)
            have f285 : Bk w85 pb (u8s (hashB x [] m)) 23 := (f280.no k85)
            refine ⟨⟨kk85, f282, f283, f284, f285⟩, ?_⟩
            refine D_one 11 (by kernel_rfl) (Nx_lo rfl (lo_call (by kernel_rfl) rfl (r_add (hashB_by _ _ _) (hashB_by _ _ _) _)) rfl ?_)
            rintro _ w86 ⟨rfl, k86⟩
            have kk86 := kk85.then_ k86
            have f286 : Bk w86 p0_0 (u8s x) 22 := (f282.no k86)
            have f287 : Bk w86 p3_1 (u8s x) 23 := (f283.no k86)
            have f288 : Bk w86 pa (u8s (hashB x [] l)) 23 := (f284.no k86)
            have f289 : Bk w86 pb (u8s (hashB x [] m)) 23 := (f285.no k86)
            refine ⟨⟨kk86, f286, f287, f288, f289⟩, ?_⟩
            refine D_take 12 rfl (by kernel_rfl) (by kernel_rfl) (by kernel_rfl) (fun _ _ _ h => h) rfl (fun W hS => pu_true (pu_eqlB (t := 23) Try.underlying23 Try.underlying5 (by kernel_rfl) (by kernel_rfl) ((addB_by _ _)) ((addB_by _ _)) rfl rfl) (by rw [ez]; exact hash_linear bx hlm.symm HB1.byte HB2.byte (by omega))) ?_
            refine D_take 13 rfl (by kernel_rfl) (by kernel_rfl) (by kernel_rfl) (fun _ _ _ h => h) rfl (fun W hS => pu_move rfl) ?_
            refine D_one 14 (by kernel_rfl) (Nx_glo rfl rfl rfl (lo_call (by kernel_rfl) rfl (r_sure _)) rfl ?_)
            rintro _ w87 ⟨rfl, k87⟩
            have kk87 := kk86.then_ k87
            have f290 : Bk w87 p0_0 (u8s x) 22 := (f286.no k87)
            have f291 : Bk w87 p3_1 (u8s x) 23 := (f287.no k87)
            have f292 : Bk w87 pa (u8s (hashB x [] l)) 23 := (f288.no k87)
            have f293 : Bk w87 pb (u8s (hashB x [] m)) 23 := (f289.no k87)
            refine ⟨⟨kk87, f290, f291, f292, f293⟩, ?_⟩
            refine D_take 15 rfl (by kernel_rfl) (by kernel_rfl) (by kernel_rfl) (fun _ _ _ h => h) rfl (fun W hS => pu_pickt rfl rfl) ?_
            refine D_take 16 rfl (by kernel_rfl) (by kernel_rfl) (by kernel_rfl) (fun _ _ _ h => h) rfl (fun W hS => pu_assign rfl) ?_
            refine D_done (by kernel_rfl) ?_
            refine X_then hK213 ?_
            refine C_ret ?_
            exact X_ret1 (.inl rfl) rfl rfl ⟨rfl, kk87⟩
end Go.Proofs.Ytfoenaleboodpaa
