/- Walks of sha: words and blocks. -/
import Derived.Test.YtlkbkgghfhoggaaGreatDoorLz
set_option linter.unusedVariables false
set_option linter.unusedSimpArgs false
set_option maxHeartbeats 2000000
set_option maxRecDepth 100000
namespace Go.Proofs.YtlkbkgghfhoggaaGreatDoor
open Go.RowKit Gm
theorem rot32 (x : Nat) (hx : x < 4294967296) (k : Int) (n m : Nat) (hk : IntKind.u64.wrap k = (n : Int)) (hn : n < 18446744073709551616) (h32 : m ≤ 32) (hm : n &&& 31 = m) (w : World)  : Ret Tryz.prog 101 #[.int .u32 ((x : Nat) : Int), .int .i64 (k)] w (fun v w' => v = .int .u32 ((rolL m x : Nat) : Int) ∧ Kp No w w') := by
 have kk0 := Kp.refl No w
 refine enter (n := 17) [.int .u32 ((x : Nat) : Int), .int .i64 (k)] Tryz.func101 rfl rfl rfl ?_
 show Cw _ _ _ _ [(0, .int .u32 ((x : Nat) : Int)), (1, .int .i64 (k))] _
 exact C_seq fun K1 hK1 => C_region <| Rp (pu_assign rfl) <| R_nil <| X_then hK1 <| C_seq fun K2 hK2 => C_region <| Rp (pu_move rfl) <| Rp (pu_conv (z := ((n : Nat) : Int)) Tryz.underlying3 Tryz.underlying25 rfl hk) <| Rp (pu_and rfl rfl ((u64_and_nat n 31 hn (by decide)).trans (congrArg (fun z : Nat => (z : Int)) hm))) <| Rp (pu_assign rfl) <| R_nil <| X_then hK2 <| C_seq fun K3 hK3 => C_region <| Rp (pu_move rfl) <| Rp (pu_move rfl) <| Rp (pu_shl (m := m) (z := ((x * 2 ^ m % 4294967296 : Nat) : Int)) rfl rfl (shl_nat_u32 x m (by omega))) <| Rp (pu_move rfl) <| Rp (pu_move rfl) <| Rp (pu_sub (z := ((32 - m : Nat) : Int)) rfl rfl (by rw [IntKind.wrap_u64]; omega)) <| Rp (pu_shr (m := 32 - m) rfl rfl (shr_nat x (32 - m) (by simp only [IntKind.bits]; omega))) <| Rp (pu_or rfl rfl (u32_or_nat (x * 2 ^ m % 4294967296) (x / 2 ^ (32 - m)) (Nat.mod_lt _ (by decide)) (show x / 2 ^ (32 - m) < 2 ^ 32 from Nat.lt_of_le_of_lt (Nat.div_le_self _ _) hx))) <| Rp (pu_assign rfl) <| R_nil <| X_then hK3 <| C_ret <| X_ret1 (.inl rfl) rfl rfl ⟨rfl, kk0⟩
theorem sha_first  (w : World)  : Ret Tryz.prog 104 #[] w (fun v w' => v = .agg (u32s iv).toArray ∧ Kp No w w') := by
 have kk0 := Kp.refl No w
 refine enter (n := 2) [] Tryz.func104 rfl rfl rfl ?_
 show Cw _ _ _ _ [] _
 refine C_seq fun K1 hK1 => C_region <| R_lo (lo_alloc (L := u32s (List.replicate 8 0)) (by kernel_rfl)) rfl ?_
 rintro _ w1 ⟨pr, rfl, N1⟩
 have k1 := N1.kp
 have kk1 := kk0.then_ k1
 have f_pr_1 := N1.bk
 refine R_nil <| X_then hK1 <| C_seq fun K2 hK2 => C_region <| Rp (pu_build (L := u32s iv) rfl (by kernel_rfl)) <| R_lo0 (lo_storeRow (C := u32s iv) f_pr_1 (by rw [u32s_length, iv_wd.1]; kernel_rfl) rfl rfl (u32s_each _) ((u32s_length _).trans (iv_wd.1.trans ((wd_rep 8).1.symm.trans (u32s_length _).symm)))) ?_
 rintro _ w2 kf2
 obtain ⟨k2, f_pr_2⟩ := kf2
 replace f_pr_2 : Bk w2 pr (u32s iv) 203 := f_pr_2
 have kk2 := kk1.trans k2 (fun i hi => .inr (hi ▸ (Nat.le_trans kk0.size N1.le)))
 exact R_nil <| X_then hK2 <| C_ret <| X_retRow (len := 8) (.inl rfl) rfl rfl f_pr_2 (by kernel_rfl) (by kernel_rfl) (by rw [u32s_length]; exact iv_wd.1) ⟨rfl, kk2⟩
theorem sha_constants  (w : World)  : Ret Tryz.prog 113 #[] w (fun v w' => v = .agg (u32s k256).toArray ∧ Kp No w w') := by
 have kk0 := Kp.refl No w
 refine enter (n := 2) [] Tryz.func113 rfl rfl rfl ?_
 show Cw _ _ _ _ [] _
 refine C_seq fun K1 hK1 => C_region <| R_lo (lo_alloc (L := u32s (List.replicate 64 0)) (by kernel_rfl)) rfl ?_
 rintro _ w1 ⟨pr, rfl, N1⟩
 have k1 := N1.kp
 have kk1 := kk0.then_ k1
 have f_pr_1 := N1.bk
 refine R_nil <| X_then hK1 <| C_seq fun K2 hK2 => C_region <| Rp (pu_build (L := u32s k256) rfl (by kernel_rfl)) <| R_lo0 (lo_storeRow (C := u32s k256) f_pr_1 (by rw [u32s_length, k256_wd.1]; kernel_rfl) rfl rfl (u32s_each _) ((u32s_length _).trans (k256_wd.1.trans ((wd_rep 64).1.symm.trans (u32s_length _).symm)))) ?_
 rintro _ w2 kf2
 obtain ⟨k2, f_pr_2⟩ := kf2
 replace f_pr_2 : Bk w2 pr (u32s k256) 212 := f_pr_2
 have kk2 := kk1.trans k2 (fun i hi => .inr (hi ▸ (Nat.le_trans kk0.size N1.le)))
 exact R_nil <| X_then hK2 <| C_ret <| X_retRow (len := 64) (.inl rfl) rfl rfl f_pr_2 (by kernel_rfl) (by kernel_rfl) (by rw [u32s_length]; exact k256_wd.1) ⟨rfl, kk2⟩
theorem sha_schedule (A : Option Addr) (l : List Nat) (c : Nat) (w : World) (HB : Bs w A l) (hc : l.length ≤ c) (hl : l.length = 64) : Ret Tryz.prog 114 #[.slice A (l.length) (c)] w (fun v w' => v = .agg (u32s (arr 64 (sF l))).toArray ∧ Kp No w w') := by
 have kk0 := Kp.refl No w
 refine enter (n := 93) [.slice A (l.length) (c)] Tryz.func114 rfl rfl rfl ?_
 show Cw _ _ _ _ [(0, .slice A (l.length) (c))] _
 refine C_seq fun K1 hK1 => C_region <| R_lo (lo_alloc (L := u32s (List.replicate 64 0)) (by kernel_rfl)) rfl ?_
 rintro _ w1 ⟨pr, rfl, N1⟩
 have k1 := N1.kp
 have kk1 := kk0.then_ k1
 have f_pr_1 := N1.bk
 refine R_nil <| X_then hK1 <| C_seq fun K2 hK2 => C_region <| R_lo (lo_alloc (L := u32s (List.replicate 64 0)) (by kernel_rfl)) rfl ?_
 rintro _ w2 ⟨pw, rfl, N2⟩
 have k2 := N2.kp
 have kk2 := kk1.then_ k2
 have ne_pw_pr := Nat.ne_of_gt (Nat.lt_of_lt_of_le f_pr_1.lt N2.le)
 have f_pw_2 := N2.bk
 refine R_nil <| X_then hK2 <| C_seq fun K3 hK3 => C_seq fun K4 hK4 => C_region <| Rp (pu_move rfl) <| R_nil <| X_then hK4 <| C_block ?_
 have f5 := (f_pr_1.no k2)
 refine C_loop (fun m_ l_ wr => ∃ i : Nat, (m_ = 16 - i) ∧ (l_ = [(0, .slice A (l.length) (c)), (2, .pointer (some ⟨pr, 0, none⟩)), (3, .pointer (some ⟨pw, 0, none⟩)), (10, .int .i64 ((i : Nat) : Int))]) ∧ (i ≤ 16) ∧ (Kp No w wr) ∧ (Bk wr pr (u32s (List.replicate 64 0)) 212) ∧ (Bk wr pw (u32s (upto (kb l) (fun _ => 0) i 64)) 212)) (16 - 0) [(0, .slice A (l.length) (c)), (2, .pointer (some ⟨pr, 0, none⟩)), (3, .pointer (some ⟨pw, 0, none⟩)), (10, .int .i64 0)] (Sub.cons rfl (Sub.cons rfl (Sub.cons rfl (Sub.cons rfl (Sub.nil _))))) ⟨0, rfl, rfl, by omega, kk2, f5, Bk.eq f_pw_2 (congrArg u32s (rep_upto _ _))⟩ ?_
 rintro _ _ w3 ⟨i, rfl, rfl, hi, kk3, f_pr_3, f_pw_3⟩
 refine C_seq fun K6 hK6 => C_region <| Rp (pu_lss (p := i < 16) rfl rfl (by omega)) <| R_nil <| X_then hK6 <| C_seq fun K7 hK7 => C_dec rfl (fun h11 => ?_) (fun h11 => ?_)
 ·
  refine C_skip <| X_then hK7 <| C_seq fun K8 hK8 => C_block <| C_seq fun K9 hK9 => C_region <| Rp (pu_move rfl) <| Rp (pu_assign rfl) <| R_nil <| X_then hK9 <| Z_begin (fun W => Kp No w W ∧ Bk W pr (u32s (List.replicate 64 0)) 212 ∧ Bk W pw (u32s (upto (kb l) (fun _ => 0) i 64)) 212) 35 36 rfl (by kernel_rfl) ⟨kk3.drew, f_pr_3.draw, f_pw_3.draw⟩ ?_
  intro w4 k4 _
  have kk4 := kk3.then_ k4
  refine Z_take 0 rfl (by kernel_rfl) (by kernel_rfl) (by kernel_rfl) (by kernel_rfl) (by kernel_rfl) (fun _ _ _ h => h) rfl (fun W hS => pu_move rfl) <| Z_take 1 rfl (by kernel_rfl) (by kernel_rfl) (by kernel_rfl) (by kernel_rfl) (by kernel_rfl) (fun _ _ _ h => h) rfl (fun W hS => pu_move rfl) <| Z_take 2 rfl (by kernel_rfl) (by kernel_rfl) (by kernel_rfl) (by kernel_rfl) (by kernel_rfl) (fun _ _ _ h => h) rfl (fun W hS => pu_move rfl) <| Z_take 3 rfl (by kernel_rfl) (by kernel_rfl) (by kernel_rfl) (by kernel_rfl) (by kernel_rfl) (fun _ _ _ h => h) rfl (fun W hS => pu_mul (z := ((4 * i : Nat) : Int)) rfl rfl (by rw [IntKind.wrap_i64]; omega)) <| Z_take 4 rfl (by kernel_rfl) (by kernel_rfl) (by kernel_rfl) (by kernel_rfl) (by kernel_rfl) (fun _ _ _ h => h) rfl (fun W hS => pu_indexAddrB (m := 4 * i) (HB.keptNo hS.1) Tryz.underlying22 (by kernel_rfl) rfl rfl rfl rfl (by omega)) ?_
  obtain ⟨n0, e_n0⟩ : ∃ q_, (l)[4 * i]? = some q_ := ⟨_, List.getElem?_eq_getElem (by omega)⟩
  have b_n0 : n0 < 256 := ((HB.keptNo kk4)).lt e_n0
  refine Z_take 5 rfl (by kernel_rfl) (by kernel_rfl) (by kernel_rfl) (by kernel_rfl) (by kernel_rfl) (fun _ _ _ h => h) rfl (fun W hS => pu_loadB (HB.keptNo hS.1) (by kernel_rfl) rfl e_n0) <| Z_take 6 rfl (by kernel_rfl) (by kernel_rfl) (by kernel_rfl) (by kernel_rfl) (by kernel_rfl) (fun _ _ _ h => h) rfl (fun W hS => pu_conv (z := ((n0 : Nat) : Int)) Tryz.underlying5 Tryz.underlying32 rfl (by have : n0 < 256 := b_n0; rw [IntKind.wrap_u32]; omega)) <| Z_take 7 rfl (by kernel_rfl) (by kernel_rfl) (by kernel_rfl) (by kernel_rfl) (by kernel_rfl) (fun _ _ _ h => h) rfl (fun W hS => pu_shlc (m := 24) (c := 16777216) (z := ((n0 * 16777216 % 4294967296 : Nat) : Int)) rfl rfl (by decide) (by rw [IntKind.wrap_u32]; omega)) <| Z_take 8 rfl (by kernel_rfl) (by kernel_rfl) (by kernel_rfl) (by kernel_rfl) (by kernel_rfl) (fun _ _ _ h => h) rfl (fun W hS => pu_move rfl) <| Z_take 9 rfl (by kernel_rfl) (by kernel_rfl) (by kernel_rfl) (by kernel_rfl) (by kernel_rfl) (fun _ _ _ h => h) rfl (fun W hS => pu_move rfl) <| Z_take 10 rfl (by kernel_rfl) (by kernel_rfl) (by kernel_rfl) (by kernel_rfl) (by kernel_rfl) (fun _ _ _ h => h) rfl (fun W hS => pu_mul (z := ((4 * i : Nat) : Int)) rfl rfl (by rw [IntKind.wrap_i64]; omega)) <| Z_take 11 rfl (by kernel_rfl) (by kernel_rfl) (by kernel_rfl) (by kernel_rfl) (by kernel_rfl) (fun _ _ _ h => h) rfl (fun W hS => pu_add (z := (((4 * i) + 1 : Nat) : Int)) rfl rfl (by rw [IntKind.wrap_i64]; omega)) <| Z_take 12 rfl (by kernel_rfl) (by kernel_rfl) (by kernel_rfl) (by kernel_rfl) (by kernel_rfl) (fun _ _ _ h => h) rfl (fun W hS => pu_indexAddrB (m := (4 * i) + 1) (HB.keptNo hS.1) Tryz.underlying22 (by kernel_rfl) rfl rfl rfl rfl (by omega)) ?_
  obtain ⟨n1, e_n1⟩ : ∃ q_, (l)[(4 * i) + 1]? = some q_ := ⟨_, List.getElem?_eq_getElem (by omega)⟩
  have b_n1 : n1 < 256 := ((HB.keptNo kk4)).lt e_n1
  refine Z_take 13 rfl (by kernel_rfl) (by kernel_rfl) (by kernel_rfl) (by kernel_rfl) (by kernel_rfl) (fun _ _ _ h => h) rfl (fun W hS => pu_loadB (HB.keptNo hS.1) (by kernel_rfl) rfl e_n1) <| Z_take 14 rfl (by kernel_rfl) (by kernel_rfl) (by kernel_rfl) (by kernel_rfl) (by kernel_rfl) (fun _ _ _ h => h) rfl (fun W hS => pu_conv (z := ((n1 : Nat) : Int)) Tryz.underlying5 Tryz.underlying32 rfl (by have : n1 < 256 := b_n1; rw [IntKind.wrap_u32]; omega)) <| Z_take 15 rfl (by kernel_rfl) (by kernel_rfl) (by kernel_rfl) (by kernel_rfl) (by kernel_rfl) (fun _ _ _ h => h) rfl (fun W hS => pu_shlc (m := 16) (c := 65536) (z := ((n1 * 65536 % 4294967296 : Nat) : Int)) rfl rfl (by decide) (by rw [IntKind.wrap_u32]; omega)) <| Z_take 16 rfl (by kernel_rfl) (by kernel_rfl) (by kernel_rfl) (by kernel_rfl) (by kernel_rfl) (fun _ _ _ h => h) rfl (fun W hS => pu_or rfl rfl (u32_or_nat (n0 * 16777216 % 4294967296) (n1 * 65536 % 4294967296) (Nat.mod_lt _ (by decide)) (Nat.mod_lt _ (by decide)))) <| Z_take 17 rfl (by kernel_rfl) (by kernel_rfl) (by kernel_rfl) (by kernel_rfl) (by kernel_rfl) (fun _ _ _ h => h) rfl (fun W hS => pu_move rfl) <| Z_take 18 rfl (by kernel_rfl) (by kernel_rfl) (by kernel_rfl) (by kernel_rfl) (by kernel_rfl) (fun _ _ _ h => h) rfl (fun W hS => pu_move rfl) <| Z_take 19 rfl (by kernel_rfl) (by kernel_rfl) (by kernel_rfl) (by kernel_rfl) (by kernel_rfl) (fun _ _ _ h => h) rfl (fun W hS => pu_mul (z := ((4 * i : Nat) : Int)) rfl rfl (by rw [IntKind.wrap_i64]; omega)) <| Z_take 20 rfl (by kernel_rfl) (by kernel_rfl) (by kernel_rfl) (by kernel_rfl) (by kernel_rfl) (fun _ _ _ h => h) rfl (fun W hS => pu_add (z := (((4 * i) + 2 : Nat) : Int)) rfl rfl (by rw [IntKind.wrap_i64]; omega)) <| Z_take 21 rfl (by kernel_rfl) (by kernel_rfl) (by kernel_rfl) (by kernel_rfl) (by kernel_rfl) (fun _ _ _ h => h) rfl (fun W hS => pu_indexAddrB (m := (4 * i) + 2) (HB.keptNo hS.1) Tryz.underlying22 (by kernel_rfl) rfl rfl rfl rfl (by omega)) ?_
  obtain ⟨n2, e_n2⟩ : ∃ q_, (l)[(4 * i) + 2]? = some q_ := ⟨_, List.getElem?_eq_getElem (by omega)⟩
  have b_n2 : n2 < 256 := ((HB.keptNo kk4)).lt e_n2
  refine Z_take 22 rfl (by kernel_rfl) (by kernel_rfl) (by kernel_rfl) (by kernel_rfl) (by kernel_rfl) (fun _ _ _ h => h) rfl (fun W hS => pu_loadB (HB.keptNo hS.1) (by kernel_rfl) rfl e_n2) <| Z_take 23 rfl (by kernel_rfl) (by kernel_rfl) (by kernel_rfl) (by kernel_rfl) (by kernel_rfl) (fun _ _ _ h => h) rfl (fun W hS => pu_conv (z := ((n2 : Nat) : Int)) Tryz.underlying5 Tryz.underlying32 rfl (by have : n2 < 256 := b_n2; rw [IntKind.wrap_u32]; omega)) <| Z_take 24 rfl (by kernel_rfl) (by kernel_rfl) (by kernel_rfl) (by kernel_rfl) (by kernel_rfl) (fun _ _ _ h => h) rfl (fun W hS => pu_shlc (m := 8) (c := 256) (z := ((n2 * 256 % 4294967296 : Nat) : Int)) rfl rfl (by decide) (by rw [IntKind.wrap_u32]; omega)) <| Z_take 25 rfl (by kernel_rfl) (by kernel_rfl) (by kernel_rfl) (by kernel_rfl) (by kernel_rfl) (fun _ _ _ h => h) rfl (fun W hS => pu_or rfl rfl (u32_or_nat ((n0 * 16777216 % 4294967296) ||| (n1 * 65536 % 4294967296)) (n2 * 256 % 4294967296) (Nat.or_lt_two_pow (n := 32) (Nat.mod_lt _ (by decide)) (Nat.mod_lt _ (by decide))) (Nat.mod_lt _ (by decide)))) <| Z_take 26 rfl (by kernel_rfl) (by kernel_rfl) (by kernel_rfl) (by kernel_rfl) (by kernel_rfl) (fun _ _ _ h => h) rfl (fun W hS => pu_move rfl) <| Z_take 27 rfl (by kernel_rfl) (by kernel_rfl) (by kernel_rfl) (by kernel_rfl) (by kernel_rfl) (fun _ _ _ h => h) rfl (fun W hS => pu_move rfl) <| Z_take 28 rfl (by kernel_rfl) (by kernel_rfl) (by kernel_rfl) (by kernel_rfl) (by kernel_rfl) (fun _ _ _ h => h) rfl (fun W hS => pu_mul (z := ((4 * i : Nat) : Int)) rfl rfl (by rw [IntKind.wrap_i64]; omega)) <| Z_take 29 rfl (by kernel_rfl) (by kernel_rfl) (by kernel_rfl) (by kernel_rfl) (by kernel_rfl) (fun _ _ _ h => h) rfl (fun W hS => pu_add (z := (((4 * i) + 3 : Nat) : Int)) rfl rfl (by rw [IntKind.wrap_i64]; omega)) <| Z_take 30 rfl (by kernel_rfl) (by kernel_rfl) (by kernel_rfl) (by kernel_rfl) (by kernel_rfl) (fun _ _ _ h => h) rfl (fun W hS => pu_indexAddrB (m := (4 * i) + 3) (HB.keptNo hS.1) Tryz.underlying22 (by kernel_rfl) rfl rfl rfl rfl (by omega)) ?_
  obtain ⟨n3, e_n3⟩ : ∃ q_, (l)[(4 * i) + 3]? = some q_ := ⟨_, List.getElem?_eq_getElem (by omega)⟩
  have b_n3 : n3 < 256 := ((HB.keptNo kk4)).lt e_n3
  refine Z_take 31 rfl (by kernel_rfl) (by kernel_rfl) (by kernel_rfl) (by kernel_rfl) (by kernel_rfl) (fun _ _ _ h => h) rfl (fun W hS => pu_loadB (HB.keptNo hS.1) (by kernel_rfl) rfl e_n3) <| Z_take 32 rfl (by kernel_rfl) (by kernel_rfl) (by kernel_rfl) (by kernel_rfl) (by kernel_rfl) (fun _ _ _ h => h) rfl (fun W hS => pu_conv (z := ((n3 : Nat) : Int)) Tryz.underlying5 Tryz.underlying32 rfl (by have : n3 < 256 := b_n3; rw [IntKind.wrap_u32]; omega)) <| Z_take 33 rfl (by kernel_rfl) (by kernel_rfl) (by kernel_rfl) (by kernel_rfl) (by kernel_rfl) (fun _ _ _ h => h) rfl (fun W hS => pu_or rfl rfl (u32_or_nat (((n0 * 16777216 % 4294967296) ||| (n1 * 65536 % 4294967296)) ||| (n2 * 256 % 4294967296)) n3 (Nat.or_lt_two_pow (n := 32) (Nat.or_lt_two_pow (n := 32) (Nat.mod_lt _ (by decide)) (Nat.mod_lt _ (by decide))) (Nat.mod_lt _ (by decide))) (Nat.lt_of_lt_of_le b_n3 (by decide)))) <| Z_take 34 rfl (by kernel_rfl) (by kernel_rfl) (by kernel_rfl) (by kernel_rfl) (by kernel_rfl) (fun _ _ _ h => h) rfl (fun W hS => pu_indexAddrA (m := i) (s := 1) (o' := i) Tryz.underlying212 (by kernel_rfl) rfl rfl rfl (by omega) (by omega)) ?_
  have f10 := (f_pw_3.no k4)
  refine Z_last 35 (by kernel_rfl) rfl (by kernel_rfl) (by kernel_rfl) (lo_store f10 (by kernel_rfl) rfl rfl rfl (by rw [u32s_length, (wd_upto (fun i _ => kb_lt HB.byte i) (fun _ _ => by decide)).1]; omega)) ?_
  rintro _ w5 kf5
  obtain ⟨k5, f_pw_5⟩ := kf5
  replace f_pw_5 := Bk.eq f_pw_5 (u32s_set _ _ _)
  replace f_pw_5 : Bk w5 pw (u32s ((upto (kb l) (fun _ => 0) i 64).set i ((((n0 * 16777216 % 4294967296) ||| (n1 * 65536 % 4294967296)) ||| (n2 * 256 % 4294967296)) ||| n3))) 212 := f_pw_5
  have kk5 := kk4.trans k5 (fun i hi => .inr (hi ▸ (Nat.le_trans kk1.size N2.le)))
  refine X_in_normal <| X_then hK8 <| C_region <| Rp (pu_add (z := ((i + 1 : Nat) : Int)) rfl rfl (by rw [IntKind.wrap_i64]; omega)) <| Rp (pu_move rfl) <| R_nil ?_
  have f11 := ((f_pr_3.no k4).on k5 (Ne.symm ne_pw_pr))
  refine X_round (16 - (i + 1)) [(0, .slice A (l.length) (c)), (2, .pointer (some ⟨pr, 0, none⟩)), (3, .pointer (some ⟨pw, 0, none⟩)), (10, .int .i64 (((i + 1) : Nat) : Int))] (by omega) (Sub.cons rfl (Sub.cons rfl (Sub.cons rfl (Sub.cons rfl (Sub.nil _))))) ⟨i + 1, rfl, rfl, by omega, kk5, f11, Bk.eq f_pw_5 (congrArg u32s (upto_set (kb_get e_n0 e_n1 e_n2 e_n3)))⟩
 ·
  refine C_exit <| X_then_exit (X_then_exit (X_in_eq ?_))
  refine X_then hK3 <| C_seq fun K12 hK12 => C_seq fun K13 hK13 => C_region <| Rp (pu_assign rfl) <| R_nil <| X_then hK13 <| C_block <| C_loop (fun m_ l_ wr => ∃ j : Nat, (m_ = 64 - j) ∧ (l_ = [(2, .pointer (some ⟨pr, 0, none⟩)), (3, .pointer (some ⟨pw, 0, none⟩)), (5, .int .i64 ((j : Nat) : Int))]) ∧ (16 ≤ j) ∧ (j ≤ 64) ∧ (Kp No w wr) ∧ (Bk wr pr (u32s (List.replicate 64 0)) 212) ∧ (Bk wr pw (u32s (upto (sF l) (fun _ => 0) j 64)) 212)) (64 - 16) [(2, .pointer (some ⟨pr, 0, none⟩)), (3, .pointer (some ⟨pw, 0, none⟩)), (5, .int .i64 16)] (Sub.cons rfl (Sub.cons rfl (Sub.cons rfl (Sub.nil _)))) ⟨16, rfl, rfl, by omega, by omega, kk3, f_pr_3, Bk.eq f_pw_3 (congrArg u32s (by rw [show i = 16 by omega]; exact upto_sF l))⟩ ?_
  rintro _ _ w6 ⟨j, rfl, rfl, hj, hj2, kk6, f_pr_6, f_pw_6⟩
  refine C_seq fun K14 hK14 => C_seq fun K15 hK15 => C_region <| Rp (pu_move rfl) <| Rp (pu_lss (p := j < 64) rfl rfl (by omega)) <| R_nil <| X_then hK15 <| C_dec rfl (fun h50 => ?_) (fun h50 => ?_)
  ·
   refine C_skip <| X_then hK14 <| C_seq fun K16 hK16 => C_block <| C_seq fun K17 hK17 => D_begin (fun W => Kp No w W ∧ Bk W pr (u32s (List.replicate 64 0)) 212 ∧ Bk W pw (u32s (upto (sF l) (fun _ => 0) j 64)) 212) 10 rfl (by kernel_rfl) ⟨kk6.drew, f_pr_6.draw, f_pw_6.draw⟩ ?_
   intro w7 k7 _
   have kk7 := kk6.then_ k7
   refine Dt 0 rfl (fun W hS => pu_move rfl) <| Dt 1 rfl (fun W hS => pu_sub (z := ((j - 15 : Nat) : Int)) rfl rfl (by rw [IntKind.wrap_i64]; omega)) <| Dt 2 rfl (fun W hS => pu_indexAddrA (m := j - 15) (s := 1) (o' := j - 15) Tryz.underlying212 (by kernel_rfl) rfl rfl rfl (by omega) (by omega)) <| Dt 3 rfl (fun W hS => pu_loadK hS.2.2 (by kernel_rfl) rfl (u32s_get (upto_lo (by omega) (by omega)))) <| Dt 4 rfl (fun W hS => pu_move rfl) <| Dt 5 rfl (fun W hS => pu_sub (z := ((j - 2 : Nat) : Int)) rfl rfl (by rw [IntKind.wrap_i64]; omega)) <| Dt 6 rfl (fun W hS => pu_indexAddrA (m := j - 2) (s := 1) (o' := j - 2) Tryz.underlying212 (by kernel_rfl) rfl rfl rfl (by omega) (by omega)) <| Dt 7 rfl (fun W hS => pu_loadK hS.2.2 (by kernel_rfl) rfl (u32s_get (upto_lo (by omega) (by omega)))) <| Dt 8 rfl (fun W hS => pu_assign rfl) <| Dt 9 rfl (fun W hS => pu_assign rfl) <| D_done (by kernel_rfl) <| X_then hK17 <| C_seq fun K18 hK18 => C_region <| Rp (pu_move rfl) <| R_lo (lo_call (by kernel_rfl) rfl (rot32 (sF l (j - 15)) (sF_lt HB.byte _) (-7) 18446744073709551609 25 rfl (by decide) (by decide) rfl _)) rfl ?_
   rintro _ w8 ⟨rfl, k8⟩
   have kk8 := kk7.then_ k8
   refine Rp (pu_move rfl) <| R_lo (lo_call (by kernel_rfl) rfl (rot32 (sF l (j - 15)) (sF_lt HB.byte _) (-18) 18446744073709551598 14 rfl (by decide) (by decide) rfl _)) rfl ?_
   rintro _ w9 ⟨rfl, k9⟩
   have kk9 := kk8.then_ k9
   refine Rp (pu_xor rfl rfl (u32_xor_nat (rolL 25 (sF l (j - 15))) (rolL 14 (sF l (j - 15))) (rolL_lt (sF_lt HB.byte _)) (rolL_lt (sF_lt HB.byte _)))) <| Rp (pu_move rfl) <| Rp (pu_shrc (m := 3) (c := 8) rfl rfl (by decide) (fdiv_nat (sF l (j - 15)) 8)) <| Rp (pu_xor rfl rfl (u32_xor_nat ((rolL 25 (sF l (j - 15))) ^^^ (rolL 14 (sF l (j - 15)))) ((sF l (j - 15)) / 8) (Nat.xor_lt_two_pow (n := 32) (rolL_lt (sF_lt HB.byte _)) (rolL_lt (sF_lt HB.byte _))) (show (sF l (j - 15)) / 8 < 2 ^ 32 from Nat.lt_of_le_of_lt (Nat.div_le_self _ _) (sF_lt HB.byte _)))) <| Rp (show Pu _ _ _ _ (.int .u32 ((bs0 (sF l (j - 15)) : Nat) : Int)) from pu_assign rfl) <| R_nil <| X_then hK18 <| C_seq fun K19 hK19 => C_region <| Rp (pu_move rfl) <| R_lo (lo_call (by kernel_rfl) rfl (rot32 (sF l (j - 2)) (sF_lt HB.byte _) (-17) 18446744073709551599 15 rfl (by decide) (by decide) rfl _)) rfl ?_
   rintro _ w10 ⟨rfl, k10⟩
   have kk10 := kk9.then_ k10
   refine Rp (pu_move rfl) <| R_lo (lo_call (by kernel_rfl) rfl (rot32 (sF l (j - 2)) (sF_lt HB.byte _) (-19) 18446744073709551597 13 rfl (by decide) (by decide) rfl _)) rfl ?_
   rintro _ w11 ⟨rfl, k11⟩
   have kk11 := kk10.then_ k11
   refine Rp (pu_xor rfl rfl (u32_xor_nat (rolL 15 (sF l (j - 2))) (rolL 13 (sF l (j - 2))) (rolL_lt (sF_lt HB.byte _)) (rolL_lt (sF_lt HB.byte _)))) <| Rp (pu_move rfl) <| Rp (pu_shrc (m := 10) (c := 1024) rfl rfl (by decide) (fdiv_nat (sF l (j - 2)) 1024)) <| Rp (pu_xor rfl rfl (u32_xor_nat ((rolL 15 (sF l (j - 2))) ^^^ (rolL 13 (sF l (j - 2)))) ((sF l (j - 2)) / 1024) (Nat.xor_lt_two_pow (n := 32) (rolL_lt (sF_lt HB.byte _)) (rolL_lt (sF_lt HB.byte _))) (show (sF l (j - 2)) / 1024 < 2 ^ 32 from Nat.lt_of_le_of_lt (Nat.div_le_self _ _) (sF_lt HB.byte _)))) <| Rp (show Pu _ _ _ _ (.int .u32 ((bs1 (sF l (j - 2)) : Nat) : Int)) from pu_assign rfl) <| R_nil <| X_then hK19 ?_
   have f20 := (((((f_pr_6.no k7).no k8).no k9).no k10).no k11)
   have f21 := (((((f_pw_6.no k7).no k8).no k9).no k10).no k11)
   refine Z_begin (fun W => Kp No w W ∧ Bk W pr (u32s (List.replicate 64 0)) 212 ∧ Bk W pw (u32s (upto (sF l) (fun _ => 0) j 64)) 212) 15 16 rfl (by kernel_rfl) ⟨kk11.drew, f20.draw, f21.draw⟩ ?_
   intro w12 k12 _
   have kk12 := kk11.then_ k12
   refine Z_take 0 rfl (by kernel_rfl) (by kernel_rfl) (by kernel_rfl) (by kernel_rfl) (by kernel_rfl) (fun _ _ _ h => h) rfl (fun W hS => pu_move rfl) <| Z_take 1 rfl (by kernel_rfl) (by kernel_rfl) (by kernel_rfl) (by kernel_rfl) (by kernel_rfl) (fun _ _ _ h => h) rfl (fun W hS => pu_move rfl) <| Z_take 2 rfl (by kernel_rfl) (by kernel_rfl) (by kernel_rfl) (by kernel_rfl) (by kernel_rfl) (fun _ _ _ h => h) rfl (fun W hS => pu_move rfl) <| Z_take 3 rfl (by kernel_rfl) (by kernel_rfl) (by kernel_rfl) (by kernel_rfl) (by kernel_rfl) (fun _ _ _ h => h) rfl (fun W hS => pu_sub (z := ((j - 7 : Nat) : Int)) rfl rfl (by rw [IntKind.wrap_i64]; omega)) <| Z_take 4 rfl (by kernel_rfl) (by kernel_rfl) (by kernel_rfl) (by kernel_rfl) (by kernel_rfl) (fun _ _ _ h => h) rfl (fun W hS => pu_indexAddrA (m := j - 7) (s := 1) (o' := j - 7) Tryz.underlying212 (by kernel_rfl) rfl rfl rfl (by omega) (by omega)) <| Z_take 5 rfl (by kernel_rfl) (by kernel_rfl) (by kernel_rfl) (by kernel_rfl) (by kernel_rfl) (fun _ _ _ h => h) rfl (fun W hS => pu_loadK hS.2.2 (by kernel_rfl) rfl (u32s_get (upto_lo (by omega) (by omega)))) <| Z_take 6 rfl (by kernel_rfl) (by kernel_rfl) (by kernel_rfl) (by kernel_rfl) (by kernel_rfl) (fun _ _ _ h => h) rfl (fun W hS => pu_add (z := (((bs1 (sF l (j - 2)) + sF l (j - 7)) % 4294967296 : Nat) : Int)) rfl rfl (by rw [IntKind.wrap_u32]; omega)) <| Z_take 7 rfl (by kernel_rfl) (by kernel_rfl) (by kernel_rfl) (by kernel_rfl) (by kernel_rfl) (fun _ _ _ h => h) rfl (fun W hS => pu_move rfl) <| Z_take 8 rfl (by kernel_rfl) (by kernel_rfl) (by kernel_rfl) (by kernel_rfl) (by kernel_rfl) (fun _ _ _ h => h) rfl (fun W hS => pu_add (z := ((((bs1 (sF l (j - 2)) + sF l (j - 7)) % 4294967296 + bs0 (sF l (j - 15))) % 4294967296 : Nat) : Int)) rfl rfl (by rw [IntKind.wrap_u32]; omega)) <| Z_take 9 rfl (by kernel_rfl) (by kernel_rfl) (by kernel_rfl) (by kernel_rfl) (by kernel_rfl) (fun _ _ _ h => h) rfl (fun W hS => pu_move rfl) <| Z_take 10 rfl (by kernel_rfl) (by kernel_rfl) (by kernel_rfl) (by kernel_rfl) (by kernel_rfl) (fun _ _ _ h => h) rfl (fun W hS => pu_sub (z := ((j - 16 : Nat) : Int)) rfl rfl (by rw [IntKind.wrap_i64]; omega)) <| Z_take 11 rfl (by kernel_rfl) (by kernel_rfl) (by kernel_rfl) (by kernel_rfl) (by kernel_rfl) (fun _ _ _ h => h) rfl (fun W hS => pu_indexAddrA (m := j - 16) (s := 1) (o' := j - 16) Tryz.underlying212 (by kernel_rfl) rfl rfl rfl (by omega) (by omega)) <| Z_take 12 rfl (by kernel_rfl) (by kernel_rfl) (by kernel_rfl) (by kernel_rfl) (by kernel_rfl) (fun _ _ _ h => h) rfl (fun W hS => pu_loadK hS.2.2 (by kernel_rfl) rfl (u32s_get (upto_lo (by omega) (by omega)))) <| Z_take 13 rfl (by kernel_rfl) (by kernel_rfl) (by kernel_rfl) (by kernel_rfl) (by kernel_rfl) (fun _ _ _ h => h) rfl (fun W hS => pu_add (z := (((((bs1 (sF l (j - 2)) + sF l (j - 7)) % 4294967296 + bs0 (sF l (j - 15))) % 4294967296 + sF l (j - 16)) % 4294967296 : Nat) : Int)) rfl rfl (by rw [IntKind.wrap_u32]; omega)) <| Z_take 14 rfl (by kernel_rfl) (by kernel_rfl) (by kernel_rfl) (by kernel_rfl) (by kernel_rfl) (fun _ _ _ h => h) rfl (fun W hS => pu_indexAddrA (m := j) (s := 1) (o' := j) Tryz.underlying212 (by kernel_rfl) rfl rfl rfl (by omega) (by omega)) ?_
   have f22 := (f21.no k12)
   refine Z_last 15 (by kernel_rfl) rfl (by kernel_rfl) (by kernel_rfl) (lo_store f22 (by kernel_rfl) rfl rfl rfl (by rw [u32s_length, (wd_upto (fun i _ => sF_lt HB.byte i) (fun _ _ => by decide)).1]; omega)) ?_
   rintro _ w13 kf13
   obtain ⟨k13, f_pw_13⟩ := kf13
   replace f_pw_13 := Bk.eq f_pw_13 (u32s_set _ _ _)
   replace f_pw_13 : Bk w13 pw (u32s ((upto (sF l) (fun _ => 0) j 64).set j ((((bs1 (sF l (j - 2)) + sF l (j - 7)) % 4294967296 + bs0 (sF l (j - 15))) % 4294967296 + sF l (j - 16)) % 4294967296))) 212 := f_pw_13
   have kk13 := kk12.trans k13 (fun i hi => .inr (hi ▸ (Nat.le_trans kk1.size N2.le)))
   refine X_in_normal <| X_then hK16 <| C_region <| Rp (pu_move rfl) <| Rp (pu_add (z := ((j + 1 : Nat) : Int)) rfl rfl (by rw [IntKind.wrap_i64]; omega)) <| Rp (pu_assign rfl) <| R_nil ?_
   have f23 := ((f20.no k12).on k13 (Ne.symm ne_pw_pr))
   refine X_round (64 - (j + 1)) [(2, .pointer (some ⟨pr, 0, none⟩)), (3, .pointer (some ⟨pw, 0, none⟩)), (5, .int .i64 (((j + 1) : Nat) : Int))] (by omega) (Sub.cons rfl (Sub.cons rfl (Sub.cons rfl (Sub.nil _)))) ⟨j + 1, rfl, rfl, by omega, by omega, kk13, f23, Bk.eq f_pw_13 (congrArg u32s (upto_set (sF_nx l hj).symm))⟩
  ·
   refine C_exit <| X_then_exit (X_then_exit (X_in_eq ?_))
   refine X_then hK12 <| C_seq (fun K24 hK24 => ?_)
   have fE : Bk w6 pw (u32s (arr 64 (sF l))) 212 := Bk.eq f_pw_6 (congrArg u32s (by rw [show j = 64 by omega]; exact upto_all _ _ (Nat.le_refl _)))
   refine C_region <| Rp (pu_loadRow (len := 64) fE (by kernel_rfl) (by kernel_rfl) (by rw [u32s_length]; exact (wd_arr fun i _ => sF_lt HB.byte i).1) rfl) <| R_lo0 (lo_storeRow (C := u32s (arr 64 (sF l))) f_pr_6 (by rw [u32s_length, (wd_arr fun i _ => sF_lt HB.byte i).1]; kernel_rfl) rfl rfl (u32s_each _) ((u32s_length _).trans ((wd_arr fun i _ => sF_lt HB.byte i).1.trans ((wd_rep 64).1.symm.trans (u32s_length _).symm)))) ?_
   rintro _ w14 kf14
   obtain ⟨k14, f_pr_14⟩ := kf14
   replace f_pr_14 : Bk w14 pr (u32s (arr 64 (sF l))) 212 := f_pr_14
   have kk14 := kk6.trans k14 (fun i hi => .inr (hi ▸ (Nat.le_trans kk0.size N1.le)))
   exact R_nil <| X_then hK24 <| C_ret <| X_retRow (len := 64) (.inl rfl) rfl rfl f_pr_14 (by kernel_rfl) (by kernel_rfl) (by rw [u32s_length]; exact (wd_arr fun i _ => sF_lt HB.byte i).1) ⟨rfl, kk14⟩
theorem sha_mix (H : List Nat) (hH : Wd 8 H) (A : Option Addr) (l : List Nat) (c : Nat) (w : World) (HB : Bs w A l) (hc : l.length ≤ c) (hl : l.length = 64) : Ret Tryz.prog 105 #[.agg (u32s H : List Value).toArray, .slice A (l.length) (c)] w (fun v w' => v = .agg (u32s (mixB H l)).toArray ∧ Kp No w w') := by
 have kk0 := Kp.refl No w
 refine enter (n := 113) [.agg (u32s H : List Value).toArray, .slice A (l.length) (c)] Tryz.func105 rfl rfl rfl ?_
 show Cw _ _ _ _ [(0, .agg (u32s H : List Value).toArray), (1, .slice A (l.length) (c))] _
 refine C_seq fun K1 hK1 => C_region <| R_lo (lo_box (L := u32s H) rfl rfl) rfl ?_
 rintro _ w1 ⟨p2, rfl, N1⟩
 have k1 := N1.kp
 have kk1 := kk0.then_ k1
 have f_p2_1 := N1.bk
 refine R_lo (lo_alloc (L := u32s (List.replicate 8 0)) (by kernel_rfl)) rfl ?_
 rintro _ w2 ⟨p4, rfl, N2⟩
 have k2 := N2.kp
 have kk2 := kk1.then_ k2
 have ne_p4_p2 := Nat.ne_of_gt (Nat.lt_of_lt_of_le f_p2_1.lt N2.le)
 have f_p4_2 := N2.bk
 refine R_nil <| X_then hK1 <| C_seq (fun K2 hK2 => ?_)
 have f3 := (f_p2_1.no k2)
 refine D_begin (fun W => Kp No w W ∧ Bk W p2 (u32s H) 203) 10 rfl (by kernel_rfl) ⟨kk2.drew, f3.draw⟩ ?_
 intro w3 k3 _
 have kk3 := kk2.then_ k3
 refine Dt 1 rfl (fun W hS => pu_move rfl) <| Dt 3 rfl (fun W hS => pu_loadRow (len := 8) hS.2 (by kernel_rfl) (by kernel_rfl) (by rw [u32s_length]; exact hH.1) rfl) ?_
 have f4 := (f3.no k3)
 have f5 := (f_p4_2.no k3)
 refine D_set (I := fun W => Kp No w3 W) [0, 2, 4, 5, 6] [14, 16, 5, 6, 7] #[true, true, true, true, true, true, true, false, false, false] (fun d v W => match d with | 14 => v = .agg (u32s k256).toArray | 16 => v = .agg (u32s (arr 64 (sF l))).toArray | 5 => ∃ p, v = .pointer (some ⟨p, 0, none⟩) ∧ w3.heap.size ≤ p ∧ Bk W p (u32s (List.replicate 64 0)) 212 | 6 => ∃ p, v = .pointer (some ⟨p, 0, none⟩) ∧ w3.heap.size ≤ p ∧ Bk W p (u32s (List.replicate 64 0)) 212 | 7 => ∃ p, v = .pointer (some ⟨p, 0, none⟩) ∧ w3.heap.size ≤ p ∧ Bk W p (u32s (List.replicate 8 0)) 203 | _ => False) (f := 3) (by kernel_rfl) (fun _ _ a b => a.then_ b) (fun W a => ⟨kk3.then_ a, f4.no a⟩) (Kp.refl No w3) ?_ ?_ ?_ ?_ ?_
 ·
  intro d v W W' h k
  split at h
  ·
   exact h
  ·
   exact h
  ·
   obtain ⟨p, a, b, c⟩ := h; exact ⟨p, a, b, c.no k⟩
  ·
   obtain ⟨p, a, b, c⟩ := h; exact ⟨p, a, b, c.no k⟩
  ·
   obtain ⟨p, a, b, c⟩ := h; exact ⟨p, a, b, c.no k⟩
  ·
   exact h
 ·
  intro d p o W h
  split at h
  ·
   cases h
  ·
   cases h
  ·
   obtain ⟨q, a, b, c⟩ := h; cases a; exact c.lt
  ·
   obtain ⟨q, a, b, c⟩ := h; cases a; exact c.lt
  ·
   obtain ⟨q, a, b, c⟩ := h; cases a; exact c.lt
  ·
   cases h
 ·
  intro i hi
  simp only [List.mem_cons, List.not_mem_nil, or_false] at hi
  rcases hi with rfl | rfl | rfl | rfl | rfl
  ·
   exact ⟨14, by decide, rfl, _, _, _, _, rfl, rfl, rfl, fun W hW => (lo_call (by kernel_rfl) rfl (sha_constants _)).mono fun v W' h => ⟨h.1, h.2, fun p o e => by rw [h.1] at e; cases e⟩⟩
  ·
   exact ⟨16, by decide, rfl, _, _, _, _, rfl, rfl, rfl, fun W hW => (lo_call (by kernel_rfl) rfl (sha_schedule A l c _ (HB.keptNo (kk3.then_ hW)) hc hl)).mono fun v W' h => ⟨h.1, h.2, fun p o e => by rw [h.1] at e; cases e⟩⟩
  ·
   exact ⟨5, by decide, rfl, _, _, _, _, rfl, rfl, rfl, fun W hW => (lo_alloc (L := u32s (List.replicate 64 0)) (by kernel_rfl)).mono fun v W' ⟨p, e, N⟩ => ⟨⟨p, e, Nat.le_trans hW.size N.le, N.bk⟩, N.kp, fun q o e' => by rw [e] at e'; cases e'; exact N.le⟩⟩
  ·
   exact ⟨6, by decide, rfl, _, _, _, _, rfl, rfl, rfl, fun W hW => (lo_alloc (L := u32s (List.replicate 64 0)) (by kernel_rfl)).mono fun v W' ⟨p, e, N⟩ => ⟨⟨p, e, Nat.le_trans hW.size N.le, N.bk⟩, N.kp, fun q o e' => by rw [e] at e'; cases e'; exact N.le⟩⟩
  ·
   exact ⟨7, by decide, rfl, _, _, _, _, rfl, rfl, rfl, fun W hW => (lo_alloc (L := u32s (List.replicate 8 0)) (by kernel_rfl)).mono fun v W' ⟨p, e, N⟩ => ⟨⟨p, e, Nat.le_trans hW.size N.le, N.bk⟩, N.kp, fun q o e' => by rw [e] at e'; cases e'; exact N.le⟩⟩
 ·
  decide +kernel
 intro l' w4 hs k4 hd hne
 have kk4 := kk3.then_ k4
 obtain ⟨_, a14, rfl⟩ := hd 14 (by decide)
 obtain ⟨_, a16, rfl⟩ := hd 16 (by decide)
 obtain ⟨_, a5, p5, rfl, l_p5, f_p5⟩ := hd 5 (by decide)
 obtain ⟨_, a6, p6, rfl, l_p6, f_p6⟩ := hd 6 (by decide)
 obtain ⟨_, a7, pv, rfl, l_pv, f_pv⟩ := hd 7 (by decide)
 have ne_p5 := Nat.ne_of_gt (Nat.lt_of_lt_of_le f4.lt l_p5)
 have ne4_p5 : p5 ≠ p4 := Nat.ne_of_gt (Nat.lt_of_lt_of_le f5.lt l_p5)
 have ne_p6 := Nat.ne_of_gt (Nat.lt_of_lt_of_le f4.lt l_p6)
 have ne4_p6 : p6 ≠ p4 := Nat.ne_of_gt (Nat.lt_of_lt_of_le f5.lt l_p6)
 have ne_p6p5 := hne 6 (by decide) 5 (by decide) (by decide) _ _ _ _ a6 a5
 have ne_pv := Nat.ne_of_gt (Nat.lt_of_lt_of_le f4.lt l_pv)
 have ne4_pv : pv ≠ p4 := Nat.ne_of_gt (Nat.lt_of_lt_of_le f5.lt l_pv)
 have ne_pvp5 := hne 7 (by decide) 5 (by decide) (by decide) _ _ _ _ a7 a5
 have ne_pvp6 := hne 7 (by decide) 6 (by decide) (by decide) _ _ _ _ a7 a6
 refine D_sub (l' := [(2, .pointer (some ⟨p2, 0, none⟩)), (4, .pointer (some ⟨p4, 0, none⟩)), (5, .pointer (some ⟨p5, 0, none⟩)), (6, .pointer (some ⟨p6, 0, none⟩)), (7, .pointer (some ⟨pv, 0, none⟩)), (14, .agg (u32s k256 : List Value).toArray), (16, .agg (u32s (arr 64 (sF l)) : List Value).toArray), (17, .agg (u32s H : List Value).toArray)]) (Sub.cons (hs _ _ rfl) (Sub.cons (hs _ _ rfl) (Sub.cons a5 (Sub.cons a6 (Sub.cons a7 (Sub.cons a14 (Sub.cons a16 (Sub.cons (hs _ _ rfl) (Sub.nil _))))))))) <| D_one 7 (by kernel_rfl) (Nx_lo0 rfl (lo_storeRow (C := u32s k256) f_p5 (by rw [u32s_length, k256_wd.1]; kernel_rfl) rfl rfl (u32s_each _) ((u32s_length _).trans (k256_wd.1.trans ((wd_rep 64).1.symm.trans (u32s_length _).symm)))) ?_)
 rintro _ w5 kf5
 obtain ⟨k5, f_p5_5⟩ := kf5
 replace f_p5_5 : Bk w5 p5 (u32s k256) 212 := f_p5_5
 have kk5 := kk4.trans k5 (fun i hi => .inr (hi ▸ (Nat.le_trans kk3.size l_p5)))
 have f6 := ((f4.no k4).on k5 (Ne.symm ne_p5))
 refine ⟨⟨kk5, f6⟩, ?_⟩
 have f7 := (f_p6.on k5 ne_p6p5)
 refine D_one 8 (by kernel_rfl) (Nx_lo0 rfl (lo_storeRow (C := u32s (arr 64 (sF l))) f7 (by rw [u32s_length, (wd_arr fun i _ => sF_lt HB.byte i).1]; kernel_rfl) rfl rfl (u32s_each _) ((u32s_length _).trans ((wd_arr fun i _ => sF_lt HB.byte i).1.trans ((wd_rep 64).1.symm.trans (u32s_length _).symm)))) ?_)
 rintro _ w6 kf6
 obtain ⟨k6, f_p6_6⟩ := kf6
 replace f_p6_6 : Bk w6 p6 (u32s (arr 64 (sF l))) 212 := f_p6_6
 have kk6 := kk5.trans k6 (fun i hi => .inr (hi ▸ (Nat.le_trans kk3.size l_p6)))
 have f8 := (f6.on k6 (Ne.symm ne_p6))
 refine ⟨⟨kk6, f8⟩, ?_⟩
 have f9 := ((f_pv.on k5 ne_pvp5).on k6 ne_pvp6)
 refine D_one 9 (by kernel_rfl) (Nx_lo0 rfl (lo_storeRow (C := u32s H) f9 (by rw [u32s_length, hH.1]; kernel_rfl) rfl rfl (u32s_each _) ((u32s_length _).trans (hH.1.trans ((wd_rep 8).1.symm.trans (u32s_length _).symm)))) ?_)
 rintro _ w7 kf7
 obtain ⟨k7, f_pv_7⟩ := kf7
 replace f_pv_7 : Bk w7 pv (u32s H) 203 := f_pv_7
 have kk7 := kk6.trans k7 (fun i hi => .inr (hi ▸ (Nat.le_trans kk3.size l_pv)))
 have f10 := (f8.on k7 (Ne.symm ne_pv))
 refine ⟨⟨kk7, f10⟩, ?_⟩
 refine D_done (by kernel_rfl) <| X_then hK2 <| C_seq fun K11 hK11 => C_seq fun K12 hK12 => C_region <| Rp (pu_move rfl) <| R_nil <| X_then hK12 <| C_block ?_
 have f13 := ((((f5.no k4).on k5 (Ne.symm ne4_p5)).on k6 (Ne.symm ne4_p6)).on k7 (Ne.symm ne4_pv))
 have f14 := ((f_p5_5.on k6 (Ne.symm ne_p6p5)).on k7 (Ne.symm ne_pvp5))
 have f15 := (f_p6_6.on k7 (Ne.symm ne_pvp6))
 refine C_loop (fun m_ l_ wr => ∃ i : Nat, (m_ = 64 - i) ∧ (l_ = [(2, .pointer (some ⟨p2, 0, none⟩)), (4, .pointer (some ⟨p4, 0, none⟩)), (5, .pointer (some ⟨p5, 0, none⟩)), (6, .pointer (some ⟨p6, 0, none⟩)), (7, .pointer (some ⟨pv, 0, none⟩)), (18, .int .i64 ((i : Nat) : Int))]) ∧ (i ≤ 64) ∧ (Kp No w wr) ∧ (Bk wr p2 (u32s H) 203) ∧ (Bk wr p4 (u32s (List.replicate 8 0)) 203) ∧ (Bk wr p5 (u32s k256) 212) ∧ (Bk wr p6 (u32s (arr 64 (sF l))) 212) ∧ (Bk wr pv (u32s (mxN H l i)) 203)) (64 - 0) [(2, .pointer (some ⟨p2, 0, none⟩)), (4, .pointer (some ⟨p4, 0, none⟩)), (5, .pointer (some ⟨p5, 0, none⟩)), (6, .pointer (some ⟨p6, 0, none⟩)), (7, .pointer (some ⟨pv, 0, none⟩)), (18, .int .i64 0)] (Sub.cons rfl (Sub.cons rfl (Sub.cons rfl (Sub.cons rfl (Sub.cons rfl (Sub.cons rfl (Sub.nil _))))))) ⟨0, rfl, rfl, by omega, kk7, f10, f13, f14, f15, Bk.eq f_pv_7 rfl⟩ ?_
 rintro _ _ w8 ⟨i, rfl, rfl, hi, kk8, f_p2_8, f_p4_8, f_p5_8, f_p6_8, f_pv_8⟩
 refine C_seq fun K16 hK16 => C_region <| Rp (pu_lss (p := i < 64) rfl rfl (by omega)) <| R_nil <| X_then hK16 <| C_seq fun K17 hK17 => C_dec rfl (fun h19 => ?_) (fun h19 => ?_)
 ·
  refine C_skip <| X_then hK17 <| C_seq fun K18 hK18 => C_block <| C_seq fun K19 hK19 => C_region <| Rp (pu_move rfl) <| Rp (pu_assign rfl) <| R_nil <| X_then hK19 <| C_seq fun K20 hK20 => D_begin (fun W => Kp No w W ∧ Bk W p2 (u32s H) 203 ∧ Bk W p4 (u32s (List.replicate 8 0)) 203 ∧ Bk W p5 (u32s k256) 212 ∧ Bk W p6 (u32s (arr 64 (sF l))) 212 ∧ Bk W pv (u32s (mxN H l i)) 203) 12 rfl (by kernel_rfl) ⟨kk8.drew, f_p2_8.draw, f_p4_8.draw, f_p5_8.draw, f_p6_8.draw, f_pv_8.draw⟩ ?_
  intro w9 k9 _
  have kk9 := kk8.then_ k9
  refine Dt 0 rfl (fun W hS => pu_indexAddrA (m := 4) (s := 1) (o' := 4) Tryz.underlying203 (by kernel_rfl) rfl rfl rfl (by omega) (by omega)) <| Dt 1 rfl (fun W hS => pu_loadK hS.2.2.2.2.2 (by kernel_rfl) rfl (u32s_get (Wd.get (mxN_wd hH l _) (by decide)))) <| Dt 3 rfl (fun W hS => pu_indexAddrA (m := 4) (s := 1) (o' := 4) Tryz.underlying203 (by kernel_rfl) rfl rfl rfl (by omega) (by omega)) <| Dt 4 rfl (fun W hS => pu_loadK hS.2.2.2.2.2 (by kernel_rfl) rfl (u32s_get (Wd.get (mxN_wd hH l _) (by decide)))) <| Dt 7 rfl (fun W hS => pu_indexAddrA (m := 4) (s := 1) (o' := 4) Tryz.underlying203 (by kernel_rfl) rfl rfl rfl (by omega) (by omega)) <| Dt 8 rfl (fun W hS => pu_loadK hS.2.2.2.2.2 (by kernel_rfl) rfl (u32s_get (Wd.get (mxN_wd hH l _) (by decide)))) <| D_one 2 (by kernel_rfl) (Nx_lo rfl (lo_call (by kernel_rfl) rfl (rot32 ((mxN H l i).getD 4 0) (Wd.lt (mxN_wd hH l _) _) (-6) 18446744073709551610 26 rfl (by decide) (by decide) rfl _)) rfl ?_)
  rintro _ w10 ⟨rfl, k10⟩
  have kk10 := kk9.then_ k10
  have f21 := ((f_p2_8.no k9).no k10)
  have f22 := ((f_p4_8.no k9).no k10)
  have f23 := ((f_p5_8.no k9).no k10)
  have f24 := ((f_p6_8.no k9).no k10)
  have f25 := ((f_pv_8.no k9).no k10)
  refine ⟨⟨kk10, f21, f22, f23, f24, f25⟩, ?_⟩
  refine D_one 5 (by kernel_rfl) (Nx_lo rfl (lo_call (by kernel_rfl) rfl (rot32 ((mxN H l i).getD 4 0) (Wd.lt (mxN_wd hH l _) _) (-11) 18446744073709551605 21 rfl (by decide) (by decide) rfl _)) rfl ?_)
  rintro _ w11 ⟨rfl, k11⟩
  have kk11 := kk10.then_ k11
  have f26 := (f21.no k11)
  have f27 := (f22.no k11)
  have f28 := (f23.no k11)
  have f29 := (f24.no k11)
  have f30 := (f25.no k11)
  refine ⟨⟨kk11, f26, f27, f28, f29, f30⟩, ?_⟩
  refine Dt 6 rfl (fun W hS => pu_xor rfl rfl (u32_xor_nat (rolL 26 ((mxN H l i).getD 4 0)) (rolL 21 ((mxN H l i).getD 4 0)) (rolL_lt (Wd.lt (mxN_wd hH l _) _)) (rolL_lt (Wd.lt (mxN_wd hH l _) _)))) <| D_one 9 (by kernel_rfl) (Nx_lo rfl (lo_call (by kernel_rfl) rfl (rot32 ((mxN H l i).getD 4 0) (Wd.lt (mxN_wd hH l _) _) (-25) 18446744073709551591 7 rfl (by decide) (by decide) rfl _)) rfl ?_)
  rintro _ w12 ⟨rfl, k12⟩
  have kk12 := kk11.then_ k12
  have f31 := (f26.no k12)
  have f32 := (f27.no k12)
  have f33 := (f28.no k12)
  have f34 := (f29.no k12)
  have f35 := (f30.no k12)
  refine ⟨⟨kk12, f31, f32, f33, f34, f35⟩, ?_⟩
  refine Dt 10 rfl (fun W hS => pu_xor rfl rfl (u32_xor_nat ((rolL 26 ((mxN H l i).getD 4 0)) ^^^ (rolL 21 ((mxN H l i).getD 4 0))) (rolL 7 ((mxN H l i).getD 4 0)) (Nat.xor_lt_two_pow (n := 32) (rolL_lt (Wd.lt (mxN_wd hH l _) _)) (rolL_lt (Wd.lt (mxN_wd hH l _) _))) (rolL_lt (Wd.lt (mxN_wd hH l _) _)))) <| Dt 11 rfl (fun W hS => show Pu _ _ _ _ (.int .u32 ((bS1 ((mxN H l i).getD 4 0) : Nat) : Int)) from pu_assign rfl) <| D_done (by kernel_rfl) <| X_then hK20 <| C_seq fun K36 hK36 => D_begin (fun W => Kp No w W ∧ Bk W p2 (u32s H) 203 ∧ Bk W p4 (u32s (List.replicate 8 0)) 203 ∧ Bk W p5 (u32s k256) 212 ∧ Bk W p6 (u32s (arr 64 (sF l))) 212 ∧ Bk W pv (u32s (mxN H l i)) 203) 26 rfl (by kernel_rfl) ⟨kk12.drew, f31.draw, f32.draw, f33.draw, f34.draw, f35.draw⟩ ?_
  intro w13 k13 _
  have kk13 := kk12.then_ k13
  refine Dt 0 rfl (fun W hS => pu_indexAddrA (m := 7) (s := 1) (o' := 7) Tryz.underlying203 (by kernel_rfl) rfl rfl rfl (by omega) (by omega)) <| Dt 1 rfl (fun W hS => pu_loadK hS.2.2.2.2.2 (by kernel_rfl) rfl (u32s_get (Wd.get (mxN_wd hH l _) (by decide)))) <| Dt 2 rfl (fun W hS => pu_move rfl) <| Dt 3 rfl (fun W hS => pu_add (z := ((((mxN H l i).getD 7 0 + bS1 ((mxN H l i).getD 4 0)) % 4294967296 : Nat) : Int)) rfl rfl (by rw [IntKind.wrap_u32]; omega)) <| Dt 4 rfl (fun W hS => pu_indexAddrA (m := 4) (s := 1) (o' := 4) Tryz.underlying203 (by kernel_rfl) rfl rfl rfl (by omega) (by omega)) <| Dt 5 rfl (fun W hS => pu_loadK hS.2.2.2.2.2 (by kernel_rfl) rfl (u32s_get (Wd.get (mxN_wd hH l _) (by decide)))) <| Dt 6 rfl (fun W hS => pu_indexAddrA (m := 5) (s := 1) (o' := 5) Tryz.underlying203 (by kernel_rfl) rfl rfl rfl (by omega) (by omega)) <| Dt 7 rfl (fun W hS => pu_loadK hS.2.2.2.2.2 (by kernel_rfl) rfl (u32s_get (Wd.get (mxN_wd hH l _) (by decide)))) <| Dt 8 rfl (fun W hS => pu_and rfl rfl (u32_and_nat ((mxN H l i).getD 4 0) ((mxN H l i).getD 5 0) (Wd.lt (mxN_wd hH l _) _) (Wd.lt (mxN_wd hH l _) _))) <| Dt 9 rfl (fun W hS => pu_indexAddrA (m := 4) (s := 1) (o' := 4) Tryz.underlying203 (by kernel_rfl) rfl rfl rfl (by omega) (by omega)) <| Dt 10 rfl (fun W hS => pu_loadK hS.2.2.2.2.2 (by kernel_rfl) rfl (u32s_get (Wd.get (mxN_wd hH l _) (by decide)))) <| Dt 11 rfl (fun W hS => pu_notx rfl (Wd.lt (mxN_wd hH l _) _)) <| Dt 12 rfl (fun W hS => pu_indexAddrA (m := 6) (s := 1) (o' := 6) Tryz.underlying203 (by kernel_rfl) rfl rfl rfl (by omega) (by omega)) <| Dt 13 rfl (fun W hS => pu_loadK hS.2.2.2.2.2 (by kernel_rfl) rfl (u32s_get (Wd.get (mxN_wd hH l _) (by decide)))) <| Dt 14 rfl (fun W hS => pu_and rfl rfl (u32_and_nat (4294967295 - ((mxN H l i).getD 4 0)) ((mxN H l i).getD 6 0) (Nat.lt_of_le_of_lt (Nat.sub_le _ _) (by decide)) (Wd.lt (mxN_wd hH l _) _))) <| Dt 15 rfl (fun W hS => pu_xor rfl rfl (u32_xor_nat (((mxN H l i).getD 4 0) &&& ((mxN H l i).getD 5 0)) ((4294967295 - ((mxN H l i).getD 4 0)) &&& ((mxN H l i).getD 6 0)) (Nat.and_lt_two_pow (n := 32) _ (Wd.lt (mxN_wd hH l _) _)) (Nat.and_lt_two_pow (n := 32) _ (Wd.lt (mxN_wd hH l _) _)))) <| Dt 16 rfl (fun W hS => pu_add (z := (((((mxN H l i).getD 7 0 + bS1 ((mxN H l i).getD 4 0)) % 4294967296 + ((((mxN H l i).getD 4 0) &&& ((mxN H l i).getD 5 0)) ^^^ ((4294967295 - ((mxN H l i).getD 4 0)) &&& ((mxN H l i).getD 6 0)))) % 4294967296 : Nat) : Int)) rfl rfl (by rw [IntKind.wrap_u32]; omega)) <| Dt 17 rfl (fun W hS => pu_move rfl) <| Dt 18 rfl (fun W hS => pu_indexAddrA (m := i) (s := 1) (o' := i) Tryz.underlying212 (by kernel_rfl) rfl rfl rfl (by omega) (by omega)) <| Dt 19 rfl (fun W hS => pu_loadK hS.2.2.2.1 (by kernel_rfl) rfl (u32s_get (k256_wd.get (by omega)))) <| Dt 20 rfl (fun W hS => pu_add (z := (((((((mxN H l i).getD 7 0 + bS1 ((mxN H l i).getD 4 0)) % 4294967296 + ((((mxN H l i).getD 4 0) &&& ((mxN H l i).getD 5 0)) ^^^ ((4294967295 - ((mxN H l i).getD 4 0)) &&& ((mxN H l i).getD 6 0)))) % 4294967296) + k256.getD i 0) % 4294967296 : Nat) : Int)) rfl rfl (by rw [IntKind.wrap_u32]; omega)) <| Dt 21 rfl (fun W hS => pu_move rfl) <| Dt 22 rfl (fun W hS => pu_indexAddrA (m := i) (s := 1) (o' := i) Tryz.underlying212 (by kernel_rfl) rfl rfl rfl (by omega) (by omega)) <| Dt 23 rfl (fun W hS => pu_loadK hS.2.2.2.2.1 (by kernel_rfl) rfl (u32s_get (arr_get _ (by omega)))) <| Dt 24 rfl (fun W hS => pu_add (z := (((((((((mxN H l i).getD 7 0 + bS1 ((mxN H l i).getD 4 0)) % 4294967296 + ((((mxN H l i).getD 4 0) &&& ((mxN H l i).getD 5 0)) ^^^ ((4294967295 - ((mxN H l i).getD 4 0)) &&& ((mxN H l i).getD 6 0)))) % 4294967296) + k256.getD i 0) % 4294967296) + sF l i) % 4294967296 : Nat) : Int)) rfl rfl (by rw [IntKind.wrap_u32]; omega)) <| Dt 25 rfl (fun W hS => show Pu _ _ _ _ (.int .u32 ((rt1 (mxN H l i) (k256.getD i 0) (sF l i) : Nat) : Int)) from pu_assign rfl) <| D_done (by kernel_rfl) <| X_then hK36 <| C_seq (fun K37 hK37 => ?_)
  have f38 := (f31.no k13)
  have f39 := (f32.no k13)
  have f40 := (f33.no k13)
  have f41 := (f34.no k13)
  have f42 := (f35.no k13)
  refine D_begin (fun W => Kp No w W ∧ Bk W p2 (u32s H) 203 ∧ Bk W p4 (u32s (List.replicate 8 0)) 203 ∧ Bk W p5 (u32s k256) 212 ∧ Bk W p6 (u32s (arr 64 (sF l))) 212 ∧ Bk W pv (u32s (mxN H l i)) 203) 12 rfl (by kernel_rfl) ⟨kk13.drew, f38.draw, f39.draw, f40.draw, f41.draw, f42.draw⟩ ?_
  intro w14 k14 _
  have kk14 := kk13.then_ k14
  refine Dt 0 rfl (fun W hS => pu_indexAddrA (m := 0) (s := 1) (o' := 0) Tryz.underlying203 (by kernel_rfl) rfl rfl rfl (by omega) (by omega)) <| Dt 1 rfl (fun W hS => pu_loadK hS.2.2.2.2.2 (by kernel_rfl) rfl (u32s_get (Wd.get (mxN_wd hH l _) (by decide)))) <| Dt 3 rfl (fun W hS => pu_indexAddrA (m := 0) (s := 1) (o' := 0) Tryz.underlying203 (by kernel_rfl) rfl rfl rfl (by omega) (by omega)) <| Dt 4 rfl (fun W hS => pu_loadK hS.2.2.2.2.2 (by kernel_rfl) rfl (u32s_get (Wd.get (mxN_wd hH l _) (by decide)))) <| Dt 7 rfl (fun W hS => pu_indexAddrA (m := 0) (s := 1) (o' := 0) Tryz.underlying203 (by kernel_rfl) rfl rfl rfl (by omega) (by omega)) <| Dt 8 rfl (fun W hS => pu_loadK hS.2.2.2.2.2 (by kernel_rfl) rfl (u32s_get (Wd.get (mxN_wd hH l _) (by decide)))) <| D_one 2 (by kernel_rfl) (Nx_lo rfl (lo_call (by kernel_rfl) rfl (rot32 ((mxN H l i).getD 0 0) (Wd.lt (mxN_wd hH l _) _) (-2) 18446744073709551614 30 rfl (by decide) (by decide) rfl _)) rfl ?_)
  rintro _ w15 ⟨rfl, k15⟩
  have kk15 := kk14.then_ k15
  have f43 := ((f38.no k14).no k15)
  have f44 := ((f39.no k14).no k15)
  have f45 := ((f40.no k14).no k15)
  have f46 := ((f41.no k14).no k15)
  have f47 := ((f42.no k14).no k15)
  refine ⟨⟨kk15, f43, f44, f45, f46, f47⟩, ?_⟩
  refine D_one 5 (by kernel_rfl) (Nx_lo rfl (lo_call (by kernel_rfl) rfl (rot32 ((mxN H l i).getD 0 0) (Wd.lt (mxN_wd hH l _) _) (-13) 18446744073709551603 19 rfl (by decide) (by decide) rfl _)) rfl ?_)
  rintro _ w16 ⟨rfl, k16⟩
  have kk16 := kk15.then_ k16
  have f48 := (f43.no k16)
  have f49 := (f44.no k16)
  have f50 := (f45.no k16)
  have f51 := (f46.no k16)
  have f52 := (f47.no k16)
  refine ⟨⟨kk16, f48, f49, f50, f51, f52⟩, ?_⟩
  refine Dt 6 rfl (fun W hS => pu_xor rfl rfl (u32_xor_nat (rolL 30 ((mxN H l i).getD 0 0)) (rolL 19 ((mxN H l i).getD 0 0)) (rolL_lt (Wd.lt (mxN_wd hH l _) _)) (rolL_lt (Wd.lt (mxN_wd hH l _) _)))) <| D_one 9 (by kernel_rfl) (Nx_lo rfl (lo_call (by kernel_rfl) rfl (rot32 ((mxN H l i).getD 0 0) (Wd.lt (mxN_wd hH l _) _) (-22) 18446744073709551594 10 rfl (by decide) (by decide) rfl _)) rfl ?_)
  rintro _ w17 ⟨rfl, k17⟩
  have kk17 := kk16.then_ k17
  have f53 := (f48.no k17)
  have f54 := (f49.no k17)
  have f55 := (f50.no k17)
  have f56 := (f51.no k17)
  have f57 := (f52.no k17)
  refine ⟨⟨kk17, f53, f54, f55, f56, f57⟩, ?_⟩
  refine Dt 10 rfl (fun W hS => pu_xor rfl rfl (u32_xor_nat ((rolL 30 ((mxN H l i).getD 0 0)) ^^^ (rolL 19 ((mxN H l i).getD 0 0))) (rolL 10 ((mxN H l i).getD 0 0)) (Nat.xor_lt_two_pow (n := 32) (rolL_lt (Wd.lt (mxN_wd hH l _) _)) (rolL_lt (Wd.lt (mxN_wd hH l _) _))) (rolL_lt (Wd.lt (mxN_wd hH l _) _)))) <| Dt 11 rfl (fun W hS => show Pu _ _ _ _ (.int .u32 ((bS0 ((mxN H l i).getD 0 0) : Nat) : Int)) from pu_assign rfl) <| D_done (by kernel_rfl) <| X_then hK37 <| C_seq fun K58 hK58 => C_region <| Rp (pu_move rfl) <| Rp (pu_indexAddrA (m := 0) (s := 1) (o' := 0) Tryz.underlying203 (by kernel_rfl) rfl rfl rfl (by omega) (by omega)) <| Rp (pu_loadK f57 (by kernel_rfl) rfl (u32s_get (Wd.get (mxN_wd hH l _) (by decide)))) <| Rp (pu_indexAddrA (m := 1) (s := 1) (o' := 1) Tryz.underlying203 (by kernel_rfl) rfl rfl rfl (by omega) (by omega)) <| Rp (pu_loadK f57 (by kernel_rfl) rfl (u32s_get (Wd.get (mxN_wd hH l _) (by decide)))) <| Rp (pu_and rfl rfl (u32_and_nat ((mxN H l i).getD 0 0) ((mxN H l i).getD 1 0) (Wd.lt (mxN_wd hH l _) _) (Wd.lt (mxN_wd hH l _) _))) <| Rp (pu_indexAddrA (m := 0) (s := 1) (o' := 0) Tryz.underlying203 (by kernel_rfl) rfl rfl rfl (by omega) (by omega)) <| Rp (pu_loadK f57 (by kernel_rfl) rfl (u32s_get (Wd.get (mxN_wd hH l _) (by decide)))) <| Rp (pu_indexAddrA (m := 2) (s := 1) (o' := 2) Tryz.underlying203 (by kernel_rfl) rfl rfl rfl (by omega) (by omega)) <| Rp (pu_loadK f57 (by kernel_rfl) rfl (u32s_get (Wd.get (mxN_wd hH l _) (by decide)))) <| Rp (pu_and rfl rfl (u32_and_nat ((mxN H l i).getD 0 0) ((mxN H l i).getD 2 0) (Wd.lt (mxN_wd hH l _) _) (Wd.lt (mxN_wd hH l _) _))) <| Rp (pu_xor rfl rfl (u32_xor_nat (((mxN H l i).getD 0 0) &&& ((mxN H l i).getD 1 0)) (((mxN H l i).getD 0 0) &&& ((mxN H l i).getD 2 0)) (Nat.and_lt_two_pow (n := 32) _ (Wd.lt (mxN_wd hH l _) _)) (Nat.and_lt_two_pow (n := 32) _ (Wd.lt (mxN_wd hH l _) _)))) <| Rp (pu_indexAddrA (m := 1) (s := 1) (o' := 1) Tryz.underlying203 (by kernel_rfl) rfl rfl rfl (by omega) (by omega)) <| Rp (pu_loadK f57 (by kernel_rfl) rfl (u32s_get (Wd.get (mxN_wd hH l _) (by decide)))) <| Rp (pu_indexAddrA (m := 2) (s := 1) (o' := 2) Tryz.underlying203 (by kernel_rfl) rfl rfl rfl (by omega) (by omega)) <| Rp (pu_loadK f57 (by kernel_rfl) rfl (u32s_get (Wd.get (mxN_wd hH l _) (by decide)))) <| Rp (pu_and rfl rfl (u32_and_nat ((mxN H l i).getD 1 0) ((mxN H l i).getD 2 0) (Wd.lt (mxN_wd hH l _) _) (Wd.lt (mxN_wd hH l _) _))) <| Rp (pu_xor rfl rfl (u32_xor_nat ((((mxN H l i).getD 0 0) &&& ((mxN H l i).getD 1 0)) ^^^ (((mxN H l i).getD 0 0) &&& ((mxN H l i).getD 2 0))) (((mxN H l i).getD 1 0) &&& ((mxN H l i).getD 2 0)) (Nat.xor_lt_two_pow (n := 32) (Nat.and_lt_two_pow (n := 32) _ (Wd.lt (mxN_wd hH l _) _)) (Nat.and_lt_two_pow (n := 32) _ (Wd.lt (mxN_wd hH l _) _))) (Nat.and_lt_two_pow (n := 32) _ (Wd.lt (mxN_wd hH l _) _)))) <| Rp (pu_add (z := (((bS0 ((mxN H l i).getD 0 0) + (((((mxN H l i).getD 0 0) &&& ((mxN H l i).getD 1 0)) ^^^ (((mxN H l i).getD 0 0) &&& ((mxN H l i).getD 2 0))) ^^^ (((mxN H l i).getD 1 0) &&& ((mxN H l i).getD 2 0)))) % 4294967296 : Nat) : Int)) rfl rfl (by rw [IntKind.wrap_u32]; omega)) <| Rp (show Pu _ _ _ _ (.int .u32 ((rt2 (mxN H l i) : Nat) : Int)) from pu_assign rfl) <| R_nil <| X_then hK58 <| C_seq fun K59 hK59 => D_begin (fun W => Kp No w W ∧ Bk W p2 (u32s H) 203 ∧ Bk W p5 (u32s k256) 212 ∧ Bk W p6 (u32s (arr 64 (sF l))) 212) 3 rfl (by kernel_rfl) ⟨kk17.drew, f53.draw, f55.draw, f56.draw⟩ ?_
  intro w18 k18 _
  have kk18 := kk17.then_ k18
  refine Dt 0 rfl (fun W hS => pu_sliceArrLo (lo := 1) Tryz.underlying203 (by kernel_rfl) rfl rfl rfl (by decide)) <| Dt 1 rfl (fun W hS => pu_sliceArrHi (hi := 7) Tryz.underlying203 (by kernel_rfl) rfl rfl rfl (by decide) (by decide)) ?_
  have f60 := (f57.no k18)
  refine D_one 2 (by kernel_rfl) (Nx_lo rfl (lo_copyW (m' := 7) f60 rfl rfl rfl (by rw [(mxN_wd hH l i).1]; decide) (by rw [(mxN_wd hH l i).1]; decide)) rfl ?_)
  rintro _ w19 kg19
  obtain ⟨rfl, k19, f_pv_19⟩ := kg19
  replace f_pv_19 := Bk.eq f_pv_19 (congrArg u32s (shf_eq (mxN_wd hH l i)))
  have kk19 := kk18.trans k19 (fun i hi => .inr (hi ▸ (Nat.le_trans kk3.size l_pv)))
  have f61 := ((f53.no k18).on k19 (Ne.symm ne_pv))
  have f62 := ((f55.no k18).on k19 (Ne.symm ne_pvp5))
  have f63 := ((f56.no k18).on k19 (Ne.symm ne_pvp6))
  refine ⟨⟨kk19, f61, f62, f63⟩, ?_⟩
  refine D_done (by kernel_rfl) <| X_then hK59 <| C_seq fun K64 hK64 => C_region <| Rp (pu_indexAddrA (m := 4) (s := 1) (o' := 4) Tryz.underlying203 (by kernel_rfl) rfl rfl rfl (by omega) (by omega)) <| Rp (pu_loadK f_pv_19 (by kernel_rfl) rfl (u32s_get (Wd.get (shf_wd (mxN_wd hH l i)) (by decide)))) <| Rp (pu_move rfl) <| Rp (pu_add (z := ((((shf (mxN H l i)).getD 4 0 + rt1 (mxN H l i) (k256.getD i 0) (sF l i)) % 4294967296 : Nat) : Int)) rfl rfl (by rw [IntKind.wrap_u32]; omega)) <| Rp (pu_indexAddrA (m := 4) (s := 1) (o' := 4) Tryz.underlying203 (by kernel_rfl) rfl rfl rfl (by omega) (by omega)) <| R_lo0 (lo_store f_pv_19 (by kernel_rfl) rfl rfl rfl (by rw [u32s_length, (shf_wd (mxN_wd hH l i)).1]; decide)) ?_
  rintro _ w20 kf20
  obtain ⟨k20, f_pv_20⟩ := kf20
  replace f_pv_20 := Bk.eq f_pv_20 (u32s_set _ _ _)
  replace f_pv_20 : Bk w20 pv (u32s ((shf (mxN H l i)).set 4 (((shf (mxN H l i)).getD 4 0 + rt1 (mxN H l i) (k256.getD i 0) (sF l i)) % 4294967296))) 203 := f_pv_20
  have kk20 := kk19.trans k20 (fun i hi => .inr (hi ▸ (Nat.le_trans kk3.size l_pv)))
  refine R_nil <| X_then hK64 <| C_region <| Rp (pu_move rfl) <| Rp (pu_move rfl) <| Rp (pu_add (z := (((rt1 (mxN H l i) (k256.getD i 0) (sF l i) + rt2 (mxN H l i)) % 4294967296 : Nat) : Int)) rfl rfl (by rw [IntKind.wrap_u32]; omega)) <| Rp (pu_indexAddrA (m := 0) (s := 1) (o' := 0) Tryz.underlying203 (by kernel_rfl) rfl rfl rfl (by omega) (by omega)) <| R_lo0 (lo_store f_pv_20 (by kernel_rfl) rfl rfl rfl (by rw [u32s_length, (Wd.set (shf_wd (mxN_wd hH l i)) (by omega)).1]; decide)) ?_
  rintro _ w21 kf21
  obtain ⟨k21, f_pv_21⟩ := kf21
  replace f_pv_21 := Bk.eq f_pv_21 (u32s_set _ _ _)
  replace f_pv_21 : Bk w21 pv (u32s (((shf (mxN H l i)).set 4 (((shf (mxN H l i)).getD 4 0 + rt1 (mxN H l i) (k256.getD i 0) (sF l i)) % 4294967296)).set 0 ((rt1 (mxN H l i) (k256.getD i 0) (sF l i) + rt2 (mxN H l i)) % 4294967296))) 203 := f_pv_21
  have kk21 := kk20.trans k21 (fun i hi => .inr (hi ▸ (Nat.le_trans kk3.size l_pv)))
  refine R_nil <| X_in_normal <| X_then hK18 <| C_region <| Rp (pu_add (z := ((i + 1 : Nat) : Int)) rfl rfl (by rw [IntKind.wrap_i64]; omega)) <| Rp (pu_move rfl) <| R_nil ?_
  have f65 := ((f61.on k20 (Ne.symm ne_pv)).on k21 (Ne.symm ne_pv))
  have f66 := ((((f54.no k18).on k19 (Ne.symm ne4_pv)).on k20 (Ne.symm ne4_pv)).on k21 (Ne.symm ne4_pv))
  have f67 := ((f62.on k20 (Ne.symm ne_pvp5)).on k21 (Ne.symm ne_pvp5))
  have f68 := ((f63.on k20 (Ne.symm ne_pvp6)).on k21 (Ne.symm ne_pvp6))
  refine X_round (64 - (i + 1)) [(2, .pointer (some ⟨p2, 0, none⟩)), (4, .pointer (some ⟨p4, 0, none⟩)), (5, .pointer (some ⟨p5, 0, none⟩)), (6, .pointer (some ⟨p6, 0, none⟩)), (7, .pointer (some ⟨pv, 0, none⟩)), (18, .int .i64 (((i + 1) : Nat) : Int))] (by omega) (Sub.cons rfl (Sub.cons rfl (Sub.cons rfl (Sub.cons rfl (Sub.cons rfl (Sub.cons rfl (Sub.nil _))))))) ⟨i + 1, rfl, rfl, by omega, kk21, f65, f66, f67, f68, Bk.eq f_pv_21 (congrArg u32s (rdB_shf (mxN_wd hH l i) (k256.getD i 0) (sF l i)))⟩
 ·
  refine C_exit <| X_then_exit (X_then_exit (X_in_eq ?_))
  refine X_then hK11 <| C_seq fun K69 hK69 => C_seq fun K70 hK70 => C_region <| Rp (pu_move rfl) <| R_nil <| X_then hK70 <| C_block <| C_loop (fun m_ l_ wr => ∃ i2 : Nat, (m_ = 8 - i2) ∧ (l_ = [(2, .pointer (some ⟨p2, 0, none⟩)), (4, .pointer (some ⟨p4, 0, none⟩)), (7, .pointer (some ⟨pv, 0, none⟩)), (100, .int .i64 ((i2 : Nat) : Int))]) ∧ (i2 ≤ 8) ∧ (Kp No w wr) ∧ (Bk wr p2 (u32s (upto (fun j => (H.getD j 0 + (mxN H l 64).getD j 0) % 4294967296) (fun j => H.getD j 0) i2 8)) 203) ∧ (Bk wr p4 (u32s (List.replicate 8 0)) 203) ∧ (Bk wr p5 (u32s k256) 212) ∧ (Bk wr p6 (u32s (arr 64 (sF l))) 212) ∧ (Bk wr pv (u32s (mxN H l 64)) 203)) (8 - 0) [(2, .pointer (some ⟨p2, 0, none⟩)), (4, .pointer (some ⟨p4, 0, none⟩)), (7, .pointer (some ⟨pv, 0, none⟩)), (100, .int .i64 0)] (Sub.cons rfl (Sub.cons rfl (Sub.cons rfl (Sub.cons rfl (Sub.nil _))))) ⟨0, rfl, rfl, by omega, kk8, Bk.eq f_p2_8 (congrArg u32s ((upto_zero _ _ _).trans (arr_of hH.1)).symm), f_p4_8, f_p5_8, f_p6_8, Bk.eq f_pv_8 (by rw [show i = 64 by omega])⟩ ?_
  rintro _ _ w22 ⟨i2, rfl, rfl, hi2, kk22, f_p2_22, f_p4_22, f_p5_22, f_p6_22, f_pv_22⟩
  refine C_seq fun K71 hK71 => C_region <| Rp (pu_lss (p := i2 < 8) rfl rfl (by omega)) <| R_nil <| X_then hK71 <| C_seq fun K72 hK72 => C_dec rfl (fun h101 => ?_) (fun h101 => ?_)
  ·
   refine C_skip <| X_then hK72 <| C_seq fun K73 hK73 => C_block <| C_seq fun K74 hK74 => C_region <| Rp (pu_move rfl) <| Rp (pu_assign rfl) <| R_nil <| X_then hK74 <| Z_begin (fun W => Kp No w W ∧ Bk W p2 (u32s (upto (fun j => (H.getD j 0 + (mxN H l 64).getD j 0) % 4294967296) (fun j => H.getD j 0) i2 8)) 203 ∧ Bk W p4 (u32s (List.replicate 8 0)) 203 ∧ Bk W p5 (u32s k256) 212 ∧ Bk W p6 (u32s (arr 64 (sF l))) 212 ∧ Bk W pv (u32s (mxN H l 64)) 203) 8 9 rfl (by kernel_rfl) ⟨kk22.drew, f_p2_22.draw, f_p4_22.draw, f_p5_22.draw, f_p6_22.draw, f_pv_22.draw⟩ ?_
   intro w23 k23 _
   have kk23 := kk22.then_ k23
   refine Z_take 0 rfl (by kernel_rfl) (by kernel_rfl) (by kernel_rfl) (by kernel_rfl) (by kernel_rfl) (fun _ _ _ h => h) rfl (fun W hS => pu_move rfl) <| Z_take 1 rfl (by kernel_rfl) (by kernel_rfl) (by kernel_rfl) (by kernel_rfl) (by kernel_rfl) (fun _ _ _ h => h) rfl (fun W hS => pu_indexAddrA (m := i2) (s := 1) (o' := i2) Tryz.underlying203 (by kernel_rfl) rfl rfl rfl (by omega) (by omega)) <| Z_take 2 rfl (by kernel_rfl) (by kernel_rfl) (by kernel_rfl) (by kernel_rfl) (by kernel_rfl) (fun _ _ _ h => h) rfl (fun W hS => pu_loadK hS.2.1 (by kernel_rfl) rfl (u32s_get (upto_at (Nat.le_refl _) (by omega)))) <| Z_take 3 rfl (by kernel_rfl) (by kernel_rfl) (by kernel_rfl) (by kernel_rfl) (by kernel_rfl) (fun _ _ _ h => h) rfl (fun W hS => pu_move rfl) <| Z_take 4 rfl (by kernel_rfl) (by kernel_rfl) (by kernel_rfl) (by kernel_rfl) (by kernel_rfl) (fun _ _ _ h => h) rfl (fun W hS => pu_indexAddrA (m := i2) (s := 1) (o' := i2) Tryz.underlying203 (by kernel_rfl) rfl rfl rfl (by omega) (by omega)) <| Z_take 5 rfl (by kernel_rfl) (by kernel_rfl) (by kernel_rfl) (by kernel_rfl) (by kernel_rfl) (fun _ _ _ h => h) rfl (fun W hS => pu_loadK hS.2.2.2.2.2 (by kernel_rfl) rfl (u32s_get (Wd.get (mxN_wd hH l _) (by omega)))) <| Z_take 6 rfl (by kernel_rfl) (by kernel_rfl) (by kernel_rfl) (by kernel_rfl) (by kernel_rfl) (fun _ _ _ h => h) rfl (fun W hS => pu_add (z := (((H.getD i2 0 + (mxN H l 64).getD i2 0) % 4294967296 : Nat) : Int)) rfl rfl (by rw [IntKind.wrap_u32]; omega)) <| Z_take 7 rfl (by kernel_rfl) (by kernel_rfl) (by kernel_rfl) (by kernel_rfl) (by kernel_rfl) (fun _ _ _ h => h) rfl (fun W hS => pu_indexAddrA (m := i2) (s := 1) (o' := i2) Tryz.underlying203 (by kernel_rfl) rfl rfl rfl (by omega) (by omega)) ?_
   have f75 := (f_p2_22.no k23)
   refine Z_last 8 (by kernel_rfl) rfl (by kernel_rfl) (by kernel_rfl) (lo_store f75 (by kernel_rfl) rfl rfl rfl (by rw [u32s_length, (wd_upto (fun _ _ => Nat.mod_lt _ (by decide)) (fun _ _ => hH.lt _)).1]; omega)) ?_
   rintro _ w24 kf24
   obtain ⟨k24, f_p2_24⟩ := kf24
   replace f_p2_24 := Bk.eq f_p2_24 (u32s_set _ _ _)
   replace f_p2_24 : Bk w24 p2 (u32s ((upto (fun j => (H.getD j 0 + (mxN H l 64).getD j 0) % 4294967296) (fun j => H.getD j 0) i2 8).set i2 ((H.getD i2 0 + (mxN H l 64).getD i2 0) % 4294967296))) 203 := f_p2_24
   have kk24 := kk23.trans k24 (fun i hi => .inr (hi ▸ (Nat.le_trans kk0.size N1.le)))
   refine X_in_normal <| X_then hK73 <| C_region <| Rp (pu_add (z := ((i2 + 1 : Nat) : Int)) rfl rfl (by rw [IntKind.wrap_i64]; omega)) <| Rp (pu_move rfl) <| R_nil ?_
   have f76 := ((f_p4_22.no k23).on k24 ne_p4_p2)
   have f77 := ((f_p5_22.no k23).on k24 ne_p5)
   have f78 := ((f_p6_22.no k23).on k24 ne_p6)
   have f79 := ((f_pv_22.no k23).on k24 ne_pv)
   refine X_round (8 - (i2 + 1)) [(2, .pointer (some ⟨p2, 0, none⟩)), (4, .pointer (some ⟨p4, 0, none⟩)), (7, .pointer (some ⟨pv, 0, none⟩)), (100, .int .i64 (((i2 + 1) : Nat) : Int))] (by omega) (Sub.cons rfl (Sub.cons rfl (Sub.cons rfl (Sub.cons rfl (Sub.nil _))))) ⟨i2 + 1, rfl, rfl, by omega, kk24, Bk.eq f_p2_24 (congrArg u32s (upto_set rfl)), f76, f77, f78, f79⟩
  ·
   refine C_exit <| X_then_exit (X_then_exit (X_in_eq ?_))
   refine X_then hK69 <| C_seq (fun K80 hK80 => ?_)
   have fE : Bk w22 p2 (u32s (mixB H l)) 203 := Bk.eq f_p2_22 (congrArg u32s (by rw [show i2 = 8 by omega]; exact upto_all _ _ (Nat.le_refl _)))
   refine C_region <| Rp (pu_loadRow (len := 8) fE (by kernel_rfl) (by kernel_rfl) (by rw [u32s_length]; exact (mixB_wd _ _).1) rfl) <| R_lo0 (lo_storeRow (C := u32s (mixB H l)) f_p4_22 (by rw [u32s_length, (mixB_wd _ _).1]; kernel_rfl) rfl rfl (u32s_each _) ((u32s_length _).trans ((mixB_wd _ _).1.trans ((wd_rep 8).1.symm.trans (u32s_length _).symm)))) ?_
   rintro _ w25 kf25
   obtain ⟨k25, f_p4_25⟩ := kf25
   replace f_p4_25 : Bk w25 p4 (u32s (mixB H l)) 203 := f_p4_25
   have kk25 := kk22.trans k25 (fun i hi => .inr (hi ▸ (Nat.le_trans kk1.size N2.le)))
   exact R_nil <| X_then hK80 <| C_ret <| X_retRow (len := 8) (.inl rfl) rfl rfl f_p4_25 (by kernel_rfl) (by kernel_rfl) (by rw [u32s_length]; exact (mixB_wd _ _).1) ⟨rfl, kk25⟩
end Go.Proofs.YtlkbkgghfhoggaaGreatDoor
