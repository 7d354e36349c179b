/- Walks: GfOrder, GfLogs: printed by wip/gen/gen01b.py. -/
import Derived.Test.YtikipijafdcmfaaGw5
import Derived.Test.YtikipijafdcmfaaGl1
set_option linter.unusedVariables false
set_option linter.unusedSimpArgs false
namespace Go.Proofs.Ytikipijafdcmfaa
open Go.RowKit Gm
set_option maxRecDepth 100000 in
set_option maxHeartbeats 2000000 in
theorem GfOrder_0 (x y : Nat) (hx : x < 256) (hy : y < 256) (hx0 : x = 0) (w : World) :
    Calls Try.prog 7 #[.int .u8 (x : Int), .int .u8 (y : Int)] w fun e w' => e = .returned (.bool true) ∧ Kp No w w' := by
  have hxy := xor_lt hx hy
  have f1 : gpow x 256 = x := gpow_256 hx
  have f2 : gpow (x ^^^ y) 2 = gmul x x ^^^ gmul y y := by rw [gpow_two, gmul_sq hx hy]
  have b1 := is0 hx0
  have f3 : gpow x 255 = 0 := by rw [hx0]; exact gpow_zero (by decide)
  have HX := Lib.hid hx0
  clear hx0
  go_enter Try.func7, Try.ntmps7
  go_wp2_with fail
  refine (gf_New_ex _).mono ?_
  rintro e w1 ⟨b, rfl, h1, g1, hb1⟩
  have q1 := (Kp.refl No w)
  have HB := Lib.hid (Nat.le_trans q1.size hb1)
  have H1 := Lib.hid h1
  have G1 := Lib.hid (Kp.mono (S' := On b) (Kp.then_ q1 g1) (fun _ f => f.elim))
  clear h1 g1 hb1 q1
  go_wp2_with fail
  refine (gf_Pow b x 255 hx (by omega) _ H1.out).mono ?_
  rintro e w2 ⟨rfl, h2, g2⟩
  have H2 := Lib.hid h2
  have G2 := Lib.hid (Kp.then_ G1.out g2)
  clear h2 g2
  go_wp2_with fail
  refine (gf_Pow b x 256 hx (by omega) _ H2.out).mono ?_
  rintro e w3 ⟨rfl, h3, g3⟩
  have H3 := Lib.hid h3
  have G3 := Lib.hid (Kp.then_ G2.out g3)
  clear h3 g3
  go_wp2_with fail
  refine (gf_Add x y hx hy _).mono ?_
  rintro e w' ⟨rfl, rfl⟩
  go_wp2_with fail
  refine (gf_Pow b (x ^^^ y) 2 hxy (by omega) _ H3.out).mono ?_
  rintro e w4 ⟨rfl, h4, g4⟩
  have H4 := Lib.hid h4
  have G4 := Lib.hid (Kp.then_ G3.out g4)
  clear h4 g4
  go_wp2_with fail
  refine (gf_Mul b x x hx hx _ H4.out).mono ?_
  rintro e w5 ⟨rfl, h5, g5⟩
  have H5 := Lib.hid h5
  have G5 := Lib.hid (Kp.then_ G4.out g5)
  clear h5 g5
  go_wp2_with fail
  refine (gf_Mul b y y hy hy _ H5.out).mono ?_
  rintro e w6 ⟨rfl, h6, g6⟩
  have H6 := Lib.hid h6
  have G6 := Lib.hid (Kp.then_ G5.out g6)
  clear h6 g6
  go_wp2_with fail
  refine (gf_Add (gmul x x) (gmul y y) (gmul_lt _ _) (gmul_lt _ _) _).mono ?_
  rintro e w' ⟨rfl, rfl⟩
  go_wp2_with fail
  refine (gf_Inv_no b x HX.out _).mono ?_
  rintro e w' ⟨rfl, rfl⟩
  go_wp2_with fail
  refine (gf_Inv_zero b _).mono ?_
  rintro e w' ⟨rfl, rfl⟩
  go_wp2_with fail
  refine (law01_sure _).mono ?_
  rintro e w7 ⟨rfl, g7⟩
  have H7 := Lib.hid (Tab.kept H6.out g7 (fun f => f))
  have G7 := Lib.hid (Kp.trans G6.out g7 (fun _ f => f.elim))
  clear g7
  go_wp2_with fail
  go_ret
  exact ⟨rfl, Kp.fresh G7.out (fun k hk => by have := HB.out; simp only [On] at hk; omega)⟩
set_option maxRecDepth 100000 in
set_option maxHeartbeats 2000000 in
theorem GfOrder_1 (x y : Nat) (hx : x < 256) (hy : y < 256) (hx0 : x ≠ 0) (w : World) :
    Calls Try.prog 7 #[.int .u8 (x : Int), .int .u8 (y : Int)] w fun e w' => e = .returned (.bool true) ∧ Kp No w w' := by
  have hxy := xor_lt hx hy
  have f1 : gpow x 256 = x := gpow_256 hx
  have f2 : gpow (x ^^^ y) 2 = gmul x x ^^^ gmul y y := by rw [gpow_two, gmul_sq hx hy]
  have b1 := no0 hx0
  have f3 : gpow x 255 = 1 := gpow_255 hx0
  have f4 : gdiv 1 (gdiv 1 x) = x := inv_inv hx hx0
  have f5 : gmul x (gdiv 1 x) = 1 := mul_inv hx hx0
  have hi : Hid (gdiv 1 x ≠ 0) := Lib.hid (gdiv_ne0 (by decide))
  have HX := Lib.hid hx0
  clear hx0
  go_enter Try.func7, Try.ntmps7
  go_wp2_with fail
  refine (gf_New_ex _).mono ?_
  rintro e w1 ⟨b, rfl, h1, g1, hb1⟩
  have q1 := (Kp.refl No w)
  have HB := Lib.hid (Nat.le_trans q1.size hb1)
  have H1 := Lib.hid h1
  have G1 := Lib.hid (Kp.mono (S' := On b) (Kp.then_ q1 g1) (fun _ f => f.elim))
  clear h1 g1 hb1 q1
  go_wp2_with fail
  refine (gf_Pow b x 255 hx (by omega) _ H1.out).mono ?_
  rintro e w2 ⟨rfl, h2, g2⟩
  have H2 := Lib.hid h2
  have G2 := Lib.hid (Kp.then_ G1.out g2)
  clear h2 g2
  go_wp2_with fail
  refine (gf_Pow b x 256 hx (by omega) _ H2.out).mono ?_
  rintro e w3 ⟨rfl, h3, g3⟩
  have H3 := Lib.hid h3
  have G3 := Lib.hid (Kp.then_ G2.out g3)
  clear h3 g3
  go_wp2_with fail
  refine (gf_Add x y hx hy _).mono ?_
  rintro e w' ⟨rfl, rfl⟩
  go_wp2_with fail
  refine (gf_Pow b (x ^^^ y) 2 hxy (by omega) _ H3.out).mono ?_
  rintro e w4 ⟨rfl, h4, g4⟩
  have H4 := Lib.hid h4
  have G4 := Lib.hid (Kp.then_ G3.out g4)
  clear h4 g4
  go_wp2_with fail
  refine (gf_Mul b x x hx hx _ H4.out).mono ?_
  rintro e w5 ⟨rfl, h5, g5⟩
  have H5 := Lib.hid h5
  have G5 := Lib.hid (Kp.then_ G4.out g5)
  clear h5 g5
  go_wp2_with fail
  refine (gf_Mul b y y hy hy _ H5.out).mono ?_
  rintro e w6 ⟨rfl, h6, g6⟩
  have H6 := Lib.hid h6
  have G6 := Lib.hid (Kp.then_ G5.out g6)
  clear h6 g6
  go_wp2_with fail
  refine (gf_Add (gmul x x) (gmul y y) (gmul_lt _ _) (gmul_lt _ _) _).mono ?_
  rintro e w' ⟨rfl, rfl⟩
  go_wp2_with fail
  refine (gf_Inv b x hx HX.out _ H6.out).mono ?_
  rintro e w7 ⟨rfl, h7, g7⟩
  have H7 := Lib.hid h7
  have G7 := Lib.hid (Kp.then_ G6.out g7)
  clear h7 g7
  go_wp2_with fail
  refine (gf_Inv b (gdiv 1 x) (gdiv_lt _ _) hi.out _ H7.out).mono ?_
  rintro e w8 ⟨rfl, h8, g8⟩
  have H8 := Lib.hid h8
  have G8 := Lib.hid (Kp.then_ G7.out g8)
  clear h8 g8
  go_wp2_with fail
  refine (gf_Mul b x (gdiv 1 x) hx (gdiv_lt _ _) _ H8.out).mono ?_
  rintro e w9 ⟨rfl, h9, g9⟩
  have H9 := Lib.hid h9
  have G9 := Lib.hid (Kp.then_ G8.out g9)
  clear h9 g9
  go_wp2_with fail
  refine (law01_sure _).mono ?_
  rintro e w10 ⟨rfl, g10⟩
  have H10 := Lib.hid (Tab.kept H9.out g10 (fun f => f))
  have G10 := Lib.hid (Kp.trans G9.out g10 (fun _ f => f.elim))
  clear g10
  go_wp2_with fail
  go_ret
  exact ⟨rfl, Kp.fresh G10.out (fun k hk => by have := HB.out; simp only [On] at hk; omega)⟩
set_option maxRecDepth 100000 in
set_option maxHeartbeats 2000000 in
theorem GfLogs_00 (x y m n : Nat) (hx : x < 256) (hy : y < 256) (hm : m < 65536) (hn : n < 65536) (hx0 : x = 0) (hy0 : y = 0) (w : World) :
    Calls Try.prog 6 #[.int .u8 (x : Int), .int .u8 (y : Int), .agg #[.int .u16 (m : Int), .int .u16 (n : Int)]] w fun e w' => e = .returned (.bool true) ∧ Kp No w w' := by
  have f1 : gmul (gpow x m) (gpow x n) = gpow x (m + n) := gpow_add m n hx
  have b1 := is0 hx0
  have b2 := is0 hy0
  obtain ⟨mn, hmn⟩ : ∃ mn : Nat, mn = m + n := ⟨_, rfl⟩
  rw [← hmn] at f1
  have hs : ((m : Int) + (n : Int)) = (mn : Int) := by omega
  have hmn1 : mn ≤ 9223372036854775807 := by omega
  have HMN := Lib.hid hmn
  clear hmn
  have HX := Lib.hid hx0
  have HY := Lib.hid hy0
  clear hx0 hy0
  go_enter Try.func6, Try.ntmps6
  go_wp2_with fail
  go_quiet (fail)
  go_wp2_with fail
  refine (gf_New_ex _).mono ?_
  rintro e w1 ⟨b, rfl, h1, g1, hb1⟩
  have q1 := Kp.drewN (Kp.alloc (Kp.refl No w) (.cells #[.int .u16 (m : Int), .int .u16 (n : Int)] 42)) nq
  have HB := Lib.hid (Nat.le_trans q1.size hb1)
  have H1 := Lib.hid h1
  have G1 := Lib.hid (Kp.mono (S' := On b) (Kp.then_ q1 g1) (fun _ f => f.elim))
  clear h1 g1 hb1 q1
  go_wp2_with fail
  refine (gf_Pow b x m hx (by omega) _ H1.out).mono ?_
  rintro e w2 ⟨rfl, h2, g2⟩
  have H2 := Lib.hid h2
  have G2 := Lib.hid (Kp.then_ G1.out g2)
  clear h2 g2
  go_wp2_with fail
  refine (gf_Pow b x n hx (by omega) _ H2.out).mono ?_
  rintro e w3 ⟨rfl, h3, g3⟩
  have H3 := Lib.hid h3
  have G3 := Lib.hid (Kp.then_ G2.out g3)
  clear h3 g3
  go_wp2_with fail
  refine (gf_Pow b x mn hx hmn1 _ H3.out).mono ?_
  rintro e w4 ⟨rfl, h4, g4⟩
  have H4 := Lib.hid h4
  have G4 := Lib.hid (Kp.then_ G3.out g4)
  clear h4 g4
  go_wp2_with fail
  refine (gf_Mul b (gpow x m) (gpow x n) (gpow_lt _ _) (gpow_lt _ _) _ H4.out).mono ?_
  rintro e w5 ⟨rfl, h5, g5⟩
  have H5 := Lib.hid h5
  have G5 := Lib.hid (Kp.then_ G4.out g5)
  clear h5 g5
  go_wp2_with fail
  refine (law01_sure _).mono ?_
  rintro e w6 ⟨rfl, g6⟩
  have H6 := Lib.hid (Tab.kept H5.out g6 (fun f => f))
  have G6 := Lib.hid (Kp.trans G5.out g6 (fun _ f => f.elim))
  clear g6
  go_wp2_with fail
  go_ret
  exact ⟨rfl, Kp.fresh G6.out (fun k hk => by have := HB.out; simp only [On] at hk; omega)⟩
set_option maxRecDepth 100000 in
set_option maxHeartbeats 2000000 in
theorem GfLogs_01 (x y m n : Nat) (hx : x < 256) (hy : y < 256) (hm : m < 65536) (hn : n < 65536) (hx0 : x = 0) (hy0 : y ≠ 0) (w : World) :
    Calls Try.prog 6 #[.int .u8 (x : Int), .int .u8 (y : Int), .agg #[.int .u16 (m : Int), .int .u16 (n : Int)]] w fun e w' => e = .returned (.bool true) ∧ Kp No w w' := by
  have f1 : gmul (gpow x m) (gpow x n) = gpow x (m + n) := gpow_add m n hx
  have b1 := is0 hx0
  have b2 := no0 hy0
  obtain ⟨mn, hmn⟩ : ∃ mn : Nat, mn = m + n := ⟨_, rfl⟩
  rw [← hmn] at f1
  have hs : ((m : Int) + (n : Int)) = (mn : Int) := by omega
  have hmn1 : mn ≤ 9223372036854775807 := by omega
  have HMN := Lib.hid hmn
  clear hmn
  have HX := Lib.hid hx0
  have HY := Lib.hid hy0
  clear hx0 hy0
  go_enter Try.func6, Try.ntmps6
  go_wp2_with fail
  go_quiet (fail)
  go_wp2_with fail
  refine (gf_New_ex _).mono ?_
  rintro e w1 ⟨b, rfl, h1, g1, hb1⟩
  have q1 := Kp.drewN (Kp.alloc (Kp.refl No w) (.cells #[.int .u16 (m : Int), .int .u16 (n : Int)] 42)) nq
  have HB := Lib.hid (Nat.le_trans q1.size hb1)
  have H1 := Lib.hid h1
  have G1 := Lib.hid (Kp.mono (S' := On b) (Kp.then_ q1 g1) (fun _ f => f.elim))
  clear h1 g1 hb1 q1
  go_wp2_with fail
  refine (gf_Pow b x m hx (by omega) _ H1.out).mono ?_
  rintro e w2 ⟨rfl, h2, g2⟩
  have H2 := Lib.hid h2
  have G2 := Lib.hid (Kp.then_ G1.out g2)
  clear h2 g2
  go_wp2_with fail
  refine (gf_Pow b x n hx (by omega) _ H2.out).mono ?_
  rintro e w3 ⟨rfl, h3, g3⟩
  have H3 := Lib.hid h3
  have G3 := Lib.hid (Kp.then_ G2.out g3)
  clear h3 g3
  go_wp2_with fail
  refine (gf_Pow b x mn hx hmn1 _ H3.out).mono ?_
  rintro e w4 ⟨rfl, h4, g4⟩
  have H4 := Lib.hid h4
  have G4 := Lib.hid (Kp.then_ G3.out g4)
  clear h4 g4
  go_wp2_with fail
  refine (gf_Mul b (gpow x m) (gpow x n) (gpow_lt _ _) (gpow_lt _ _) _ H4.out).mono ?_
  rintro e w5 ⟨rfl, h5, g5⟩
  have H5 := Lib.hid h5
  have G5 := Lib.hid (Kp.then_ G4.out g5)
  clear h5 g5
  go_wp2_with fail
  refine (law01_sure _).mono ?_
  rintro e w6 ⟨rfl, g6⟩
  have H6 := Lib.hid (Tab.kept H5.out g6 (fun f => f))
  have G6 := Lib.hid (Kp.trans G5.out g6 (fun _ f => f.elim))
  clear g6
  go_wp2_with fail
  go_ret
  exact ⟨rfl, Kp.fresh G6.out (fun k hk => by have := HB.out; simp only [On] at hk; omega)⟩
set_option maxRecDepth 100000 in
set_option maxHeartbeats 2000000 in
theorem GfLogs_10 (x y m n : Nat) (hx : x < 256) (hy : y < 256) (hm : m < 65536) (hn : n < 65536) (hx0 : x ≠ 0) (hy0 : y = 0) (w : World) :
    Calls Try.prog 6 #[.int .u8 (x : Int), .int .u8 (y : Int), .agg #[.int .u16 (m : Int), .int .u16 (n : Int)]] w fun e w' => e = .returned (.bool true) ∧ Kp No w w' := by
  have f1 : gmul (gpow x m) (gpow x n) = gpow x (m + n) := gpow_add m n hx
  have b1 := no0 hx0
  have b2 := is0 hy0
  obtain ⟨mn, hmn⟩ : ∃ mn : Nat, mn = m + n := ⟨_, rfl⟩
  rw [← hmn] at f1
  have hs : ((m : Int) + (n : Int)) = (mn : Int) := by omega
  have hmn1 : mn ≤ 9223372036854775807 := by omega
  have HMN := Lib.hid hmn
  clear hmn
  have HX := Lib.hid hx0
  have HY := Lib.hid hy0
  clear hx0 hy0
  go_enter Try.func6, Try.ntmps6
  go_wp2_with fail
  go_quiet (fail)
  go_wp2_with fail
  refine (gf_New_ex _).mono ?_
  rintro e w1 ⟨b, rfl, h1, g1, hb1⟩
  have q1 := Kp.drewN (Kp.alloc (Kp.refl No w) (.cells #[.int .u16 (m : Int), .int .u16 (n : Int)] 42)) nq
  have HB := Lib.hid (Nat.le_trans q1.size hb1)
  have H1 := Lib.hid h1
  have G1 := Lib.hid (Kp.mono (S' := On b) (Kp.then_ q1 g1) (fun _ f => f.elim))
  clear h1 g1 hb1 q1
  go_wp2_with fail
  refine (gf_Pow b x m hx (by omega) _ H1.out).mono ?_
  rintro e w2 ⟨rfl, h2, g2⟩
  have H2 := Lib.hid h2
  have G2 := Lib.hid (Kp.then_ G1.out g2)
  clear h2 g2
  go_wp2_with fail
  refine (gf_Pow b x n hx (by omega) _ H2.out).mono ?_
  rintro e w3 ⟨rfl, h3, g3⟩
  have H3 := Lib.hid h3
  have G3 := Lib.hid (Kp.then_ G2.out g3)
  clear h3 g3
  go_wp2_with fail
  refine (gf_Pow b x mn hx hmn1 _ H3.out).mono ?_
  rintro e w4 ⟨rfl, h4, g4⟩
  have H4 := Lib.hid h4
  have G4 := Lib.hid (Kp.then_ G3.out g4)
  clear h4 g4
  go_wp2_with fail
  refine (gf_Mul b (gpow x m) (gpow x n) (gpow_lt _ _) (gpow_lt _ _) _ H4.out).mono ?_
  rintro e w5 ⟨rfl, h5, g5⟩
  have H5 := Lib.hid h5
  have G5 := Lib.hid (Kp.then_ G4.out g5)
  clear h5 g5
  go_wp2_with fail
  refine (law01_sure _).mono ?_
  rintro e w6 ⟨rfl, g6⟩
  have H6 := Lib.hid (Tab.kept H5.out g6 (fun f => f))
  have G6 := Lib.hid (Kp.trans G5.out g6 (fun _ f => f.elim))
  clear g6
  go_wp2_with fail
  go_ret
  exact ⟨rfl, Kp.fresh G6.out (fun k hk => by have := HB.out; simp only [On] at hk; omega)⟩
set_option maxRecDepth 100000 in
set_option maxHeartbeats 2000000 in
theorem GfLogs_11 (x y m n : Nat) (hx : x < 256) (hy : y < 256) (hm : m < 65536) (hn : n < 65536) (hx0 : x ≠ 0) (hy0 : y ≠ 0) (w : World) :
    Calls Try.prog 6 #[.int .u8 (x : Int), .int .u8 (y : Int), .agg #[.int .u16 (m : Int), .int .u16 (n : Int)]] w fun e w' => e = .returned (.bool true) ∧ Kp No w w' := by
  have f1 : gmul (gpow x m) (gpow x n) = gpow x (m + n) := gpow_add m n hx
  have b1 := no0 hx0
  have b2 := no0 hy0
  obtain ⟨mn, hmn⟩ : ∃ mn : Nat, mn = m + n := ⟨_, rfl⟩
  rw [← hmn] at f1
  have hs : ((m : Int) + (n : Int)) = (mn : Int) := by omega
  have hmn1 : mn ≤ 9223372036854775807 := by omega
  have HMN := Lib.hid hmn
  clear hmn
  have f2 : glog (gmul x y) = (glog x + glog y) % 255 := log_gmul hx0 hy0
  have f3 : gpow 3 (glog x) = x := pow_log hx hx0
  have h4 : Hid (gmul x y ≠ 0) := Lib.hid (gmul_ne0 hx0 hy0)
  have lx := log_lt hx hx0
  have ly := log_lt hy hy0
  have f5 : ((((glog x + glog y) % 255 : Nat) : Int) == (((glog x : Nat) : Int) + ((glog y : Nat) : Int)) % 255) = true := by rw [beq_iff_eq]; omega
  have HX := Lib.hid hx0
  have HY := Lib.hid hy0
  clear hx0 hy0
  go_enter Try.func6, Try.ntmps6
  go_wp2_with fail
  go_quiet (fail)
  go_wp2_with fail
  refine (gf_New_ex _).mono ?_
  rintro e w1 ⟨b, rfl, h1, g1, hb1⟩
  have q1 := Kp.drewN (Kp.alloc (Kp.refl No w) (.cells #[.int .u16 (m : Int), .int .u16 (n : Int)] 42)) nq
  have HB := Lib.hid (Nat.le_trans q1.size hb1)
  have H1 := Lib.hid h1
  have G1 := Lib.hid (Kp.mono (S' := On b) (Kp.then_ q1 g1) (fun _ f => f.elim))
  clear h1 g1 hb1 q1
  go_wp2_with fail
  refine (gf_Pow b x m hx (by omega) _ H1.out).mono ?_
  rintro e w2 ⟨rfl, h2, g2⟩
  have H2 := Lib.hid h2
  have G2 := Lib.hid (Kp.then_ G1.out g2)
  clear h2 g2
  go_wp2_with fail
  refine (gf_Pow b x n hx (by omega) _ H2.out).mono ?_
  rintro e w3 ⟨rfl, h3, g3⟩
  have H3 := Lib.hid h3
  have G3 := Lib.hid (Kp.then_ G2.out g3)
  clear h3 g3
  go_wp2_with fail
  refine (gf_Pow b x mn hx hmn1 _ H3.out).mono ?_
  rintro e w4 ⟨rfl, h4, g4⟩
  have H4 := Lib.hid h4
  have G4 := Lib.hid (Kp.then_ G3.out g4)
  clear h4 g4
  go_wp2_with fail
  refine (gf_Mul b (gpow x m) (gpow x n) (gpow_lt _ _) (gpow_lt _ _) _ H4.out).mono ?_
  rintro e w5 ⟨rfl, h5, g5⟩
  have H5 := Lib.hid h5
  have G5 := Lib.hid (Kp.then_ G4.out g5)
  clear h5 g5
  go_wp2_with fail
  refine (gf_Log b x hx HX.out _ H5.out).mono ?_
  rintro e w6 ⟨rfl, h6, g6⟩
  have H6 := Lib.hid h6
  have G6 := Lib.hid (Kp.then_ G5.out g6)
  clear h6 g6
  go_wp2_with fail
  refine (gf_Log b y hy HY.out _ H6.out).mono ?_
  rintro e w7 ⟨rfl, h7, g7⟩
  have H7 := Lib.hid h7
  have G7 := Lib.hid (Kp.then_ G6.out g7)
  clear h7 g7
  go_wp2_with fail
  refine (gf_Mul b x y hx hy _ H7.out).mono ?_
  rintro e w8 ⟨rfl, h8, g8⟩
  have H8 := Lib.hid h8
  have G8 := Lib.hid (Kp.then_ G7.out g8)
  clear h8 g8
  go_wp2_with fail
  refine (gf_Log b (gmul x y) (gmul_lt _ _) h4.out _ H8.out).mono ?_
  rintro e w9 ⟨rfl, h9, g9⟩
  have H9 := Lib.hid h9
  have G9 := Lib.hid (Kp.then_ G8.out g9)
  clear h9 g9
  go_wp2_with fail
  refine (gf_Pow b 3 (glog x) (by omega) (by omega) _ H9.out).mono ?_
  rintro e w10 ⟨rfl, h10, g10⟩
  have H10 := Lib.hid h10
  have G10 := Lib.hid (Kp.then_ G9.out g10)
  clear h10 g10
  go_wp2_with fail
  refine (law01_sure _).mono ?_
  rintro e w11 ⟨rfl, g11⟩
  have H11 := Lib.hid (Tab.kept H10.out g11 (fun f => f))
  have G11 := Lib.hid (Kp.trans G10.out g11 (fun _ f => f.elim))
  clear g11
  go_wp2_with fail
  go_ret
  exact ⟨rfl, Kp.fresh G11.out (fun k hk => by have := HB.out; simp only [On] at hk; omega)⟩
theorem GfOrder_walk (a0 a1 : Int) (w : World) (w0 : (Lit.int .u8 a0).wf = true) (w1 : (Lit.int .u8 a1).wf = true) :
    Calls Try.prog 7 #[.int .u8 a0, .int .u8 a1] w fun e w' => e = .returned (.bool true) ∧ Below w.heap.size w w' := by
  obtain ⟨x, hx, rfl⟩ := byte8 w0
  obtain ⟨y, hy, rfl⟩ := byte8 w1
  by_cases hx0 : x = 0
  · exact (GfOrder_0 x y hx hy hx0 w).mono fun e w' ⟨he, k⟩ => ⟨he, k.below⟩
  · exact (GfOrder_1 x y hx hy hx0 w).mono fun e w' ⟨he, k⟩ => ⟨he, k.below⟩
theorem GfLogs_walk (a0 a1 : Int) (xs : List Int) (w : World) (w0 : (Lit.int .u8 a0).wf = true) (w1 : (Lit.int .u8 a1).wf = true) (l2 : xs.length = 2) (w2 : ∀ x ∈ xs, (Lit.int .u16 x).wf = true) :
    Calls Try.prog 6 #[.int .u8 a0, .int .u8 a1, .agg (xs.map (Value.int .u16)).toArray] w fun e w' => e = .returned (.bool true) ∧ Below w.heap.size w w' := by
  obtain ⟨m, n, rfl⟩ : ∃ m n, xs = [m, n] := by
    match xs, l2 with
    | [m, n], _ => exact ⟨m, n, rfl⟩
  have w3 := w2 n (by simp)
  replace w2 := w2 m (by simp)
  obtain ⟨x, hx, rfl⟩ := byte8 w0
  obtain ⟨y, hy, rfl⟩ := byte8 w1
  obtain ⟨m, hm, rfl⟩ := word16 w2
  obtain ⟨n, hn, rfl⟩ := word16 w3
  by_cases hx0 : x = 0 <;> by_cases hy0 : y = 0
  · exact (GfLogs_00 x y m n hx hy hm hn hx0 hy0 w).mono fun e w' ⟨he, k⟩ => ⟨he, k.below⟩
  · exact (GfLogs_01 x y m n hx hy hm hn hx0 hy0 w).mono fun e w' ⟨he, k⟩ => ⟨he, k.below⟩
  · exact (GfLogs_10 x y m n hx hy hm hn hx0 hy0 w).mono fun e w' ⟨he, k⟩ => ⟨he, k.below⟩
  · exact (GfLogs_11 x y m n hx hy hm hn hx0 hy0 w).mono fun e w' ⟨he, k⟩ => ⟨he, k.below⟩
end Go.Proofs.Ytikipijafdcmfaa
