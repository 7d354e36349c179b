/- Walks: the laws of layer 1 that ask for nothing but the table: printed by wip/gen/gen01.py. -/
import Derived.Test.YtikipijafdcmfaaGw4
import Derived.OpenShut
set_option linter.unusedVariables false
set_option linter.unusedSimpArgs false
namespace Go.Proofs.Ytikipijafdcmfaa
open Go.RowKit Gm
theorem sure_facts : gdiv 1 2 = 141 ∧ glog 3 = 1 ∧ gmul 87 131 = 193 := by decide +kernel

set_option maxRecDepth 100000 in
set_option maxHeartbeats 400000 in
theorem law01_sure  (w : World) :
    Calls Try.prog 18 #[] w fun e w' => e = .returned (.bool true) ∧ Kp No w w' := by
  have f1 : ((gdiv 1 2 : Nat) : Int) = 141 := by rw [sure_facts.1]; rfl
  have f2 : ((glog 3 : Nat) : Int) = 1 := by rw [sure_facts.2.1]; rfl
  have f3 : ((gmul 87 131 : Nat) : Int) = 193 := by rw [sure_facts.2.2]; rfl
  go_enter Try.func18, Try.ntmps18
  go_wp2_with fail
  refine (gf_New _).mono ?_
  rintro e w1 ⟨rfl, h1, g1⟩
  obtain ⟨b, hb⟩ : ∃ b, b = w.heap.size := ⟨_, rfl⟩
  rw [← hb] at h1 ⊢
  have HB := Lib.hid hb
  have H1 := Lib.hid h1
  have G1 := Lib.hid (Kp.mono (S' := On b) g1 (fun _ f => f.elim))
  clear hb h1 g1
  go_wp2_with fail
  refine (gf_Inv b 2 (by omega) (by omega) _ H1.out).mono ?_
  rintro e w2 ⟨rfl, h2, g2⟩
  have H2 := Lib.hid h2
  have G2 := Lib.hid (Kp.then_ G1.out g2)
  clear h2 g2
  go_wp2_with fail
  refine (gf_Log b 3 (by omega) (by omega) _ H2.out).mono ?_
  rintro e w3 ⟨rfl, h3, g3⟩
  have H3 := Lib.hid h3
  have G3 := Lib.hid (Kp.then_ G2.out g3)
  clear h3 g3
  go_wp2_with fail
  refine (gf_Mul b 87 131 (by omega) (by omega) _ H3.out).mono ?_
  rintro e w4 ⟨rfl, h4, g4⟩
  have H4 := Lib.hid h4
  have G4 := Lib.hid (Kp.then_ G3.out g4)
  clear h4 g4
  go_wp2_with fail
  refine (gf_Add 5 3 (by omega) (by omega) _).mono ?_
  rintro e w' ⟨rfl, rfl⟩
  go_wp2_with fail
  go_ret
  exact ⟨rfl, (Kp.fresh G4.out (fun k hk => by have := HB.out; simp only [On] at hk; omega))⟩
theorem zb {a : Nat} (h : a = 0) : (((a : Nat) : Int) == 0) = true := by subst h; rfl
theorem nzb {a : Nat} (h : a ≠ 0) : (((a : Nat) : Int) == 0) = false := beq_eq_false_iff_ne.2 (by omega)
theorem zb' {a : Nat} (h : a = 0) : (((a : Nat) : Int) != 0) = false := by subst h; rfl
theorem nzb' {a : Nat} (h : a ≠ 0) : (((a : Nat) : Int) != 0) = true := by rw [bne_iff_ne]; omega
theorem gf_Div_zero' (b x y : Nat) (hy : y = 0) (w : World) : Calls Try.prog 15 #[.pointer (some ⟨b, 0, none⟩), .int .u8 (x : Int), .int .u8 (y : Int)] w fun e w' => e = .returned (.tuple #[.int .u8 0, errV 1]) ∧ w = w' := by subst hy; exact gf_Div_zero b x w
set_option maxRecDepth 100000 in
set_option maxHeartbeats 2000000 in
theorem GfField_00 (x y z : Nat) (hx : x < 256) (hy : y < 256) (hz : z < 256) (hx0 : x = 0) (hy0 : y = 0) (w : World) :
    Calls Try.prog 5 #[.int .u8 (x : Int), .int .u8 (y : Int), .int .u8 (z : Int)] w fun e w' => e = .returned (.bool true) ∧ Kp No w w' := by
  have hxy := xor_lt hx hy
  have hyz := xor_lt hy hz
  have f4 : gmul y x = gmul x y := gmul_comm y x
  have f6 : gmul x (gmul y z) = gmul (gmul x y) z := gmul_assoc x y z
  have f10 : gmul x (y ^^^ z) = gmul x y ^^^ gmul x z := gmul_xor hy hz
  have f14 : gmul x 1 = x := gmul_one hx
  have f15 : x ^^^ x = 0 := Nat.xor_self x
  have f18 : y ^^^ x = x ^^^ y := Nat.xor_comm y x
  have f20 : x ^^^ (y ^^^ z) = (x ^^^ y) ^^^ z := (Nat.xor_assoc x y z).symm
  have b1 := zb hx0
  have b2 := zb hy0
  have b3 := zb' hy0
  have b4 := zb ((gmul_eq0 x y).2 (.inl hx0))
  have HY := Lib.hid hy0
  clear hx0 hy0
  go_enter Try.func5, Try.ntmps5
  go_wp2_with fail
  refine (gf_New _).mono ?_
  rintro e w1 ⟨rfl, h1, g1⟩
  obtain ⟨b, hb⟩ : ∃ b, b = w.heap.size := ⟨_, rfl⟩
  rw [← hb] at h1 ⊢
  have HB := Lib.hid hb
  have H1 := Lib.hid h1
  have G1 := Lib.hid (Kp.mono (S' := On b) g1 (fun _ f => f.elim))
  clear hb h1 g1
  go_wp2_with fail
  refine (gf_Div_zero' b x y HY.out _).mono ?_
  rintro e w' ⟨rfl, rfl⟩
  go_wp2_with fail
  refine (gf_Mul b x y hx hy _ H1.out).mono ?_
  rintro e w2 ⟨rfl, h2, g2⟩
  have H2 := Lib.hid h2
  have G2 := Lib.hid (Kp.then_ G1.out g2)
  clear h2 g2
  go_wp2_with fail
  refine (gf_Mul b y x hy hx _ H2.out).mono ?_
  rintro e w3 ⟨rfl, h3, g3⟩
  have H3 := Lib.hid h3
  have G3 := Lib.hid (Kp.then_ G2.out g3)
  clear h3 g3
  go_wp2_with fail
  refine (gf_Mul b y z hy hz _ H3.out).mono ?_
  rintro e w4 ⟨rfl, h4, g4⟩
  have H4 := Lib.hid h4
  have G4 := Lib.hid (Kp.then_ G3.out g4)
  clear h4 g4
  go_wp2_with fail
  refine (gf_Mul b x (gmul y z) hx (gmul_lt _ _) _ H4.out).mono ?_
  rintro e w5 ⟨rfl, h5, g5⟩
  have H5 := Lib.hid h5
  have G5 := Lib.hid (Kp.then_ G4.out g5)
  clear h5 g5
  go_wp2_with fail
  refine (gf_Mul b x y hx hy _ H5.out).mono ?_
  rintro e w6 ⟨rfl, h6, g6⟩
  have H6 := Lib.hid h6
  have G6 := Lib.hid (Kp.then_ G5.out g6)
  clear h6 g6
  go_wp2_with fail
  refine (gf_Mul b (gmul x y) z (gmul_lt _ _) hz _ H6.out).mono ?_
  rintro e w7 ⟨rfl, h7, g7⟩
  have H7 := Lib.hid h7
  have G7 := Lib.hid (Kp.then_ G6.out g7)
  clear h7 g7
  go_wp2_with fail
  refine (gf_Add y z hy hz _).mono ?_
  rintro e w' ⟨rfl, rfl⟩
  go_wp2_with fail
  refine (gf_Mul b x (y ^^^ z) hx hyz _ H7.out).mono ?_
  rintro e w8 ⟨rfl, h8, g8⟩
  have H8 := Lib.hid h8
  have G8 := Lib.hid (Kp.then_ G7.out g8)
  clear h8 g8
  go_wp2_with fail
  refine (gf_Mul b x y hx hy _ H8.out).mono ?_
  rintro e w9 ⟨rfl, h9, g9⟩
  have H9 := Lib.hid h9
  have G9 := Lib.hid (Kp.then_ G8.out g9)
  clear h9 g9
  go_wp2_with fail
  refine (gf_Mul b x z hx hz _ H9.out).mono ?_
  rintro e w10 ⟨rfl, h10, g10⟩
  have H10 := Lib.hid h10
  have G10 := Lib.hid (Kp.then_ G9.out g10)
  clear h10 g10
  go_wp2_with fail
  refine (gf_Add (gmul x y) (gmul x z) (gmul_lt _ _) (gmul_lt _ _) _).mono ?_
  rintro e w' ⟨rfl, rfl⟩
  go_wp2_with fail
  refine (gf_Mul b x 1 hx (by omega) _ H10.out).mono ?_
  rintro e w11 ⟨rfl, h11, g11⟩
  have H11 := Lib.hid h11
  have G11 := Lib.hid (Kp.then_ G10.out g11)
  clear h11 g11
  go_wp2_with fail
  refine (gf_Add x x hx hx _).mono ?_
  rintro e w' ⟨rfl, rfl⟩
  go_wp2_with fail
  refine (gf_Add x 0 hx (by omega) _).mono ?_
  rintro e w' ⟨rfl, rfl⟩
  go_wp2_with fail
  refine (gf_Add x y hx hy _).mono ?_
  rintro e w' ⟨rfl, rfl⟩
  go_wp2_with fail
  refine (gf_Add y x hy hx _).mono ?_
  rintro e w' ⟨rfl, rfl⟩
  go_wp2_with fail
  refine (gf_Add y z hy hz _).mono ?_
  rintro e w' ⟨rfl, rfl⟩
  go_wp2_with fail
  refine (gf_Add x (y ^^^ z) hx hyz _).mono ?_
  rintro e w' ⟨rfl, rfl⟩
  go_wp2_with fail
  refine (gf_Add x y hx hy _).mono ?_
  rintro e w' ⟨rfl, rfl⟩
  go_wp2_with fail
  refine (gf_Add (x ^^^ y) z hxy hz _).mono ?_
  rintro e w' ⟨rfl, rfl⟩
  go_wp2_with fail
  refine (gf_Mul b x y hx hy _ H11.out).mono ?_
  rintro e w12 ⟨rfl, h12, g12⟩
  have H12 := Lib.hid h12
  have G12 := Lib.hid (Kp.then_ G11.out g12)
  clear h12 g12
  go_wp2_with fail
  refine (law01_sure _).mono ?_
  rintro e w13 ⟨rfl, g13⟩
  have H13 := Lib.hid (Tab.kept H12.out g13 (fun f => f))
  have G13 := Lib.hid (Kp.trans G12.out g13 (fun _ f => f.elim))
  clear g13
  go_wp2_with fail
  go_ret
  exact ⟨rfl, (Kp.fresh G13.out (fun k hk => by have := HB.out; simp only [On] at hk; omega))⟩
set_option maxRecDepth 100000 in
set_option maxHeartbeats 2000000 in
theorem GfField_01 (x y z : Nat) (hx : x < 256) (hy : y < 256) (hz : z < 256) (hx0 : x = 0) (hy0 : y ≠ 0) (w : World) :
    Calls Try.prog 5 #[.int .u8 (x : Int), .int .u8 (y : Int), .int .u8 (z : Int)] w fun e w' => e = .returned (.bool true) ∧ Kp No w w' := by
  have hxy := xor_lt hx hy
  have hyz := xor_lt hy hz
  have f4 : gmul y x = gmul x y := gmul_comm y x
  have f6 : gmul x (gmul y z) = gmul (gmul x y) z := gmul_assoc x y z
  have f10 : gmul x (y ^^^ z) = gmul x y ^^^ gmul x z := gmul_xor hy hz
  have f14 : gmul x 1 = x := gmul_one hx
  have f15 : x ^^^ x = 0 := Nat.xor_self x
  have f18 : y ^^^ x = x ^^^ y := Nat.xor_comm y x
  have f20 : x ^^^ (y ^^^ z) = (x ^^^ y) ^^^ z := (Nat.xor_assoc x y z).symm
  have b1 := zb hx0
  have b2 := nzb hy0
  have b3 := nzb' hy0
  have b4 := zb ((gmul_eq0 x y).2 (.inl hx0))
  have HY := Lib.hid hy0
  have f24 : gmul (gdiv x y) y = x := gdiv_mul hx hy hy0
  clear hx0 hy0
  go_enter Try.func5, Try.ntmps5
  go_wp2_with fail
  refine (gf_New _).mono ?_
  rintro e w1 ⟨rfl, h1, g1⟩
  obtain ⟨b, hb⟩ : ∃ b, b = w.heap.size := ⟨_, rfl⟩
  rw [← hb] at h1 ⊢
  have HB := Lib.hid hb
  have H1 := Lib.hid h1
  have G1 := Lib.hid (Kp.mono (S' := On b) g1 (fun _ f => f.elim))
  clear hb h1 g1
  go_wp2_with fail
  refine (gf_Div b x y hx hy HY.out _ H1.out).mono ?_
  rintro e w2 ⟨rfl, h2, g2⟩
  have H2 := Lib.hid h2
  have G2 := Lib.hid (Kp.then_ G1.out g2)
  clear h2 g2
  go_wp2_with fail
  refine (gf_Mul b x y hx hy _ H2.out).mono ?_
  rintro e w3 ⟨rfl, h3, g3⟩
  have H3 := Lib.hid h3
  have G3 := Lib.hid (Kp.then_ G2.out g3)
  clear h3 g3
  go_wp2_with fail
  refine (gf_Mul b y x hy hx _ H3.out).mono ?_
  rintro e w4 ⟨rfl, h4, g4⟩
  have H4 := Lib.hid h4
  have G4 := Lib.hid (Kp.then_ G3.out g4)
  clear h4 g4
  go_wp2_with fail
  refine (gf_Mul b y z hy hz _ H4.out).mono ?_
  rintro e w5 ⟨rfl, h5, g5⟩
  have H5 := Lib.hid h5
  have G5 := Lib.hid (Kp.then_ G4.out g5)
  clear h5 g5
  go_wp2_with fail
  refine (gf_Mul b x (gmul y z) hx (gmul_lt _ _) _ H5.out).mono ?_
  rintro e w6 ⟨rfl, h6, g6⟩
  have H6 := Lib.hid h6
  have G6 := Lib.hid (Kp.then_ G5.out g6)
  clear h6 g6
  go_wp2_with fail
  refine (gf_Mul b x y hx hy _ H6.out).mono ?_
  rintro e w7 ⟨rfl, h7, g7⟩
  have H7 := Lib.hid h7
  have G7 := Lib.hid (Kp.then_ G6.out g7)
  clear h7 g7
  go_wp2_with fail
  refine (gf_Mul b (gmul x y) z (gmul_lt _ _) hz _ H7.out).mono ?_
  rintro e w8 ⟨rfl, h8, g8⟩
  have H8 := Lib.hid h8
  have G8 := Lib.hid (Kp.then_ G7.out g8)
  clear h8 g8
  go_wp2_with fail
  refine (gf_Add y z hy hz _).mono ?_
  rintro e w' ⟨rfl, rfl⟩
  go_wp2_with fail
  refine (gf_Mul b x (y ^^^ z) hx hyz _ H8.out).mono ?_
  rintro e w9 ⟨rfl, h9, g9⟩
  have H9 := Lib.hid h9
  have G9 := Lib.hid (Kp.then_ G8.out g9)
  clear h9 g9
  go_wp2_with fail
  refine (gf_Mul b x y hx hy _ H9.out).mono ?_
  rintro e w10 ⟨rfl, h10, g10⟩
  have H10 := Lib.hid h10
  have G10 := Lib.hid (Kp.then_ G9.out g10)
  clear h10 g10
  go_wp2_with fail
  refine (gf_Mul b x z hx hz _ H10.out).mono ?_
  rintro e w11 ⟨rfl, h11, g11⟩
  have H11 := Lib.hid h11
  have G11 := Lib.hid (Kp.then_ G10.out g11)
  clear h11 g11
  go_wp2_with fail
  refine (gf_Add (gmul x y) (gmul x z) (gmul_lt _ _) (gmul_lt _ _) _).mono ?_
  rintro e w' ⟨rfl, rfl⟩
  go_wp2_with fail
  refine (gf_Mul b x 1 hx (by omega) _ H11.out).mono ?_
  rintro e w12 ⟨rfl, h12, g12⟩
  have H12 := Lib.hid h12
  have G12 := Lib.hid (Kp.then_ G11.out g12)
  clear h12 g12
  go_wp2_with fail
  refine (gf_Add x x hx hx _).mono ?_
  rintro e w' ⟨rfl, rfl⟩
  go_wp2_with fail
  refine (gf_Add x 0 hx (by omega) _).mono ?_
  rintro e w' ⟨rfl, rfl⟩
  go_wp2_with fail
  refine (gf_Add x y hx hy _).mono ?_
  rintro e w' ⟨rfl, rfl⟩
  go_wp2_with fail
  refine (gf_Add y x hy hx _).mono ?_
  rintro e w' ⟨rfl, rfl⟩
  go_wp2_with fail
  refine (gf_Add y z hy hz _).mono ?_
  rintro e w' ⟨rfl, rfl⟩
  go_wp2_with fail
  refine (gf_Add x (y ^^^ z) hx hyz _).mono ?_
  rintro e w' ⟨rfl, rfl⟩
  go_wp2_with fail
  refine (gf_Add x y hx hy _).mono ?_
  rintro e w' ⟨rfl, rfl⟩
  go_wp2_with fail
  refine (gf_Add (x ^^^ y) z hxy hz _).mono ?_
  rintro e w' ⟨rfl, rfl⟩
  go_wp2_with fail
  refine (gf_Mul b x y hx hy _ H12.out).mono ?_
  rintro e w13 ⟨rfl, h13, g13⟩
  have H13 := Lib.hid h13
  have G13 := Lib.hid (Kp.then_ G12.out g13)
  clear h13 g13
  go_wp2_with fail
  refine (gf_Mul b (gdiv x y) y (gdiv_lt _ _) hy _ H13.out).mono ?_
  rintro e w14 ⟨rfl, h14, g14⟩
  have H14 := Lib.hid h14
  have G14 := Lib.hid (Kp.then_ G13.out g14)
  clear h14 g14
  go_wp2_with fail
  refine (law01_sure _).mono ?_
  rintro e w15 ⟨rfl, g15⟩
  have H15 := Lib.hid (Tab.kept H14.out g15 (fun f => f))
  have G15 := Lib.hid (Kp.trans G14.out g15 (fun _ f => f.elim))
  clear g15
  go_wp2_with fail
  go_ret
  exact ⟨rfl, (Kp.fresh G15.out (fun k hk => by have := HB.out; simp only [On] at hk; omega))⟩
set_option maxRecDepth 100000 in
set_option maxHeartbeats 2000000 in
theorem GfField_10 (x y z : Nat) (hx : x < 256) (hy : y < 256) (hz : z < 256) (hx0 : x ≠ 0) (hy0 : y = 0) (w : World) :
    Calls Try.prog 5 #[.int .u8 (x : Int), .int .u8 (y : Int), .int .u8 (z : Int)] w fun e w' => e = .returned (.bool true) ∧ Kp No w w' := by
  have hxy := xor_lt hx hy
  have hyz := xor_lt hy hz
  have f4 : gmul y x = gmul x y := gmul_comm y x
  have f6 : gmul x (gmul y z) = gmul (gmul x y) z := gmul_assoc x y z
  have f10 : gmul x (y ^^^ z) = gmul x y ^^^ gmul x z := gmul_xor hy hz
  have f14 : gmul x 1 = x := gmul_one hx
  have f15 : x ^^^ x = 0 := Nat.xor_self x
  have f18 : y ^^^ x = x ^^^ y := Nat.xor_comm y x
  have f20 : x ^^^ (y ^^^ z) = (x ^^^ y) ^^^ z := (Nat.xor_assoc x y z).symm
  have b1 := nzb hx0
  have b2 := zb hy0
  have b3 := zb' hy0
  have b4 := zb ((gmul_eq0 x y).2 (.inr hy0))
  have HY := Lib.hid hy0
  clear hx0 hy0
  go_enter Try.func5, Try.ntmps5
  go_wp2_with fail
  refine (gf_New _).mono ?_
  rintro e w1 ⟨rfl, h1, g1⟩
  obtain ⟨b, hb⟩ : ∃ b, b = w.heap.size := ⟨_, rfl⟩
  rw [← hb] at h1 ⊢
  have HB := Lib.hid hb
  have H1 := Lib.hid h1
  have G1 := Lib.hid (Kp.mono (S' := On b) g1 (fun _ f => f.elim))
  clear hb h1 g1
  go_wp2_with fail
  refine (gf_Div_zero' b x y HY.out _).mono ?_
  rintro e w' ⟨rfl, rfl⟩
  go_wp2_with fail
  refine (gf_Mul b x y hx hy _ H1.out).mono ?_
  rintro e w2 ⟨rfl, h2, g2⟩
  have H2 := Lib.hid h2
  have G2 := Lib.hid (Kp.then_ G1.out g2)
  clear h2 g2
  go_wp2_with fail
  refine (gf_Mul b y x hy hx _ H2.out).mono ?_
  rintro e w3 ⟨rfl, h3, g3⟩
  have H3 := Lib.hid h3
  have G3 := Lib.hid (Kp.then_ G2.out g3)
  clear h3 g3
  go_wp2_with fail
  refine (gf_Mul b y z hy hz _ H3.out).mono ?_
  rintro e w4 ⟨rfl, h4, g4⟩
  have H4 := Lib.hid h4
  have G4 := Lib.hid (Kp.then_ G3.out g4)
  clear h4 g4
  go_wp2_with fail
  refine (gf_Mul b x (gmul y z) hx (gmul_lt _ _) _ H4.out).mono ?_
  rintro e w5 ⟨rfl, h5, g5⟩
  have H5 := Lib.hid h5
  have G5 := Lib.hid (Kp.then_ G4.out g5)
  clear h5 g5
  go_wp2_with fail
  refine (gf_Mul b x y hx hy _ H5.out).mono ?_
  rintro e w6 ⟨rfl, h6, g6⟩
  have H6 := Lib.hid h6
  have G6 := Lib.hid (Kp.then_ G5.out g6)
  clear h6 g6
  go_wp2_with fail
  refine (gf_Mul b (gmul x y) z (gmul_lt _ _) hz _ H6.out).mono ?_
  rintro e w7 ⟨rfl, h7, g7⟩
  have H7 := Lib.hid h7
  have G7 := Lib.hid (Kp.then_ G6.out g7)
  clear h7 g7
  go_wp2_with fail
  refine (gf_Add y z hy hz _).mono ?_
  rintro e w' ⟨rfl, rfl⟩
  go_wp2_with fail
  refine (gf_Mul b x (y ^^^ z) hx hyz _ H7.out).mono ?_
  rintro e w8 ⟨rfl, h8, g8⟩
  have H8 := Lib.hid h8
  have G8 := Lib.hid (Kp.then_ G7.out g8)
  clear h8 g8
  go_wp2_with fail
  refine (gf_Mul b x y hx hy _ H8.out).mono ?_
  rintro e w9 ⟨rfl, h9, g9⟩
  have H9 := Lib.hid h9
  have G9 := Lib.hid (Kp.then_ G8.out g9)
  clear h9 g9
  go_wp2_with fail
  refine (gf_Mul b x z hx hz _ H9.out).mono ?_
  rintro e w10 ⟨rfl, h10, g10⟩
  have H10 := Lib.hid h10
  have G10 := Lib.hid (Kp.then_ G9.out g10)
  clear h10 g10
  go_wp2_with fail
  refine (gf_Add (gmul x y) (gmul x z) (gmul_lt _ _) (gmul_lt _ _) _).mono ?_
  rintro e w' ⟨rfl, rfl⟩
  go_wp2_with fail
  refine (gf_Mul b x 1 hx (by omega) _ H10.out).mono ?_
  rintro e w11 ⟨rfl, h11, g11⟩
  have H11 := Lib.hid h11
  have G11 := Lib.hid (Kp.then_ G10.out g11)
  clear h11 g11
  go_wp2_with fail
  refine (gf_Add x x hx hx _).mono ?_
  rintro e w' ⟨rfl, rfl⟩
  go_wp2_with fail
  refine (gf_Add x 0 hx (by omega) _).mono ?_
  rintro e w' ⟨rfl, rfl⟩
  go_wp2_with fail
  refine (gf_Add x y hx hy _).mono ?_
  rintro e w' ⟨rfl, rfl⟩
  go_wp2_with fail
  refine (gf_Add y x hy hx _).mono ?_
  rintro e w' ⟨rfl, rfl⟩
  go_wp2_with fail
  refine (gf_Add y z hy hz _).mono ?_
  rintro e w' ⟨rfl, rfl⟩
  go_wp2_with fail
  refine (gf_Add x (y ^^^ z) hx hyz _).mono ?_
  rintro e w' ⟨rfl, rfl⟩
  go_wp2_with fail
  refine (gf_Add x y hx hy _).mono ?_
  rintro e w' ⟨rfl, rfl⟩
  go_wp2_with fail
  refine (gf_Add (x ^^^ y) z hxy hz _).mono ?_
  rintro e w' ⟨rfl, rfl⟩
  go_wp2_with fail
  refine (gf_Mul b x y hx hy _ H11.out).mono ?_
  rintro e w12 ⟨rfl, h12, g12⟩
  have H12 := Lib.hid h12
  have G12 := Lib.hid (Kp.then_ G11.out g12)
  clear h12 g12
  go_wp2_with fail
  refine (law01_sure _).mono ?_
  rintro e w13 ⟨rfl, g13⟩
  have H13 := Lib.hid (Tab.kept H12.out g13 (fun f => f))
  have G13 := Lib.hid (Kp.trans G12.out g13 (fun _ f => f.elim))
  clear g13
  go_wp2_with fail
  go_ret
  exact ⟨rfl, (Kp.fresh G13.out (fun k hk => by have := HB.out; simp only [On] at hk; omega))⟩
set_option maxRecDepth 100000 in
set_option maxHeartbeats 2000000 in
theorem GfField_11 (x y z : Nat) (hx : x < 256) (hy : y < 256) (hz : z < 256) (hx0 : x ≠ 0) (hy0 : y ≠ 0) (w : World) :
    Calls Try.prog 5 #[.int .u8 (x : Int), .int .u8 (y : Int), .int .u8 (z : Int)] w fun e w' => e = .returned (.bool true) ∧ Kp No w w' := by
  have hxy := xor_lt hx hy
  have hyz := xor_lt hy hz
  have f4 : gmul y x = gmul x y := gmul_comm y x
  have f6 : gmul x (gmul y z) = gmul (gmul x y) z := gmul_assoc x y z
  have f10 : gmul x (y ^^^ z) = gmul x y ^^^ gmul x z := gmul_xor hy hz
  have f14 : gmul x 1 = x := gmul_one hx
  have f15 : x ^^^ x = 0 := Nat.xor_self x
  have f18 : y ^^^ x = x ^^^ y := Nat.xor_comm y x
  have f20 : x ^^^ (y ^^^ z) = (x ^^^ y) ^^^ z := (Nat.xor_assoc x y z).symm
  have b1 := nzb hx0
  have b2 := nzb hy0
  have b3 := nzb' hy0
  have b4 := nzb (gmul_ne0 hx0 hy0)
  have HY := Lib.hid hy0
  have f24 : gmul (gdiv x y) y = x := gdiv_mul hx hy hy0
  clear hx0 hy0
  go_enter Try.func5, Try.ntmps5
  go_wp2_with fail
  refine (gf_New _).mono ?_
  rintro e w1 ⟨rfl, h1, g1⟩
  obtain ⟨b, hb⟩ : ∃ b, b = w.heap.size := ⟨_, rfl⟩
  rw [← hb] at h1 ⊢
  have HB := Lib.hid hb
  have H1 := Lib.hid h1
  have G1 := Lib.hid (Kp.mono (S' := On b) g1 (fun _ f => f.elim))
  clear hb h1 g1
  go_wp2_with fail
  refine (gf_Div b x y hx hy HY.out _ H1.out).mono ?_
  rintro e w2 ⟨rfl, h2, g2⟩
  have H2 := Lib.hid h2
  have G2 := Lib.hid (Kp.then_ G1.out g2)
  clear h2 g2
  go_wp2_with fail
  refine (gf_Mul b x y hx hy _ H2.out).mono ?_
  rintro e w3 ⟨rfl, h3, g3⟩
  have H3 := Lib.hid h3
  have G3 := Lib.hid (Kp.then_ G2.out g3)
  clear h3 g3
  go_wp2_with fail
  refine (gf_Mul b y x hy hx _ H3.out).mono ?_
  rintro e w4 ⟨rfl, h4, g4⟩
  have H4 := Lib.hid h4
  have G4 := Lib.hid (Kp.then_ G3.out g4)
  clear h4 g4
  go_wp2_with fail
  refine (gf_Mul b y z hy hz _ H4.out).mono ?_
  rintro e w5 ⟨rfl, h5, g5⟩
  have H5 := Lib.hid h5
  have G5 := Lib.hid (Kp.then_ G4.out g5)
  clear h5 g5
  go_wp2_with fail
  refine (gf_Mul b x (gmul y z) hx (gmul_lt _ _) _ H5.out).mono ?_
  rintro e w6 ⟨rfl, h6, g6⟩
  have H6 := Lib.hid h6
  have G6 := Lib.hid (Kp.then_ G5.out g6)
  clear h6 g6
  go_wp2_with fail
  refine (gf_Mul b x y hx hy _ H6.out).mono ?_
  rintro e w7 ⟨rfl, h7, g7⟩
  have H7 := Lib.hid h7
  have G7 := Lib.hid (Kp.then_ G6.out g7)
  clear h7 g7
  go_wp2_with fail
  refine (gf_Mul b (gmul x y) z (gmul_lt _ _) hz _ H7.out).mono ?_
  rintro e w8 ⟨rfl, h8, g8⟩
  have H8 := Lib.hid h8
  have G8 := Lib.hid (Kp.then_ G7.out g8)
  clear h8 g8
  go_wp2_with fail
  refine (gf_Add y z hy hz _).mono ?_
  rintro e w' ⟨rfl, rfl⟩
  go_wp2_with fail
  refine (gf_Mul b x (y ^^^ z) hx hyz _ H8.out).mono ?_
  rintro e w9 ⟨rfl, h9, g9⟩
  have H9 := Lib.hid h9
  have G9 := Lib.hid (Kp.then_ G8.out g9)
  clear h9 g9
  go_wp2_with fail
  refine (gf_Mul b x y hx hy _ H9.out).mono ?_
  rintro e w10 ⟨rfl, h10, g10⟩
  have H10 := Lib.hid h10
  have G10 := Lib.hid (Kp.then_ G9.out g10)
  clear h10 g10
  go_wp2_with fail
  refine (gf_Mul b x z hx hz _ H10.out).mono ?_
  rintro e w11 ⟨rfl, h11, g11⟩
  have H11 := Lib.hid h11
  have G11 := Lib.hid (Kp.then_ G10.out g11)
  clear h11 g11
  go_wp2_with fail
  refine (gf_Add (gmul x y) (gmul x z) (gmul_lt _ _) (gmul_lt _ _) _).mono ?_
  rintro e w' ⟨rfl, rfl⟩
  go_wp2_with fail
  refine (gf_Mul b x 1 hx (by omega) _ H11.out).mono ?_
  rintro e w12 ⟨rfl, h12, g12⟩
  have H12 := Lib.hid h12
  have G12 := Lib.hid (Kp.then_ G11.out g12)
  clear h12 g12
  go_wp2_with fail
  refine (gf_Add x x hx hx _).mono ?_
  rintro e w' ⟨rfl, rfl⟩
  go_wp2_with fail
  refine (gf_Add x 0 hx (by omega) _).mono ?_
  rintro e w' ⟨rfl, rfl⟩
  go_wp2_with fail
  refine (gf_Add x y hx hy _).mono ?_
  rintro e w' ⟨rfl, rfl⟩
  go_wp2_with fail
  refine (gf_Add y x hy hx _).mono ?_
  rintro e w' ⟨rfl, rfl⟩
  go_wp2_with fail
  refine (gf_Add y z hy hz _).mono ?_
  rintro e w' ⟨rfl, rfl⟩
  go_wp2_with fail
  refine (gf_Add x (y ^^^ z) hx hyz _).mono ?_
  rintro e w' ⟨rfl, rfl⟩
  go_wp2_with fail
  refine (gf_Add x y hx hy _).mono ?_
  rintro e w' ⟨rfl, rfl⟩
  go_wp2_with fail
  refine (gf_Add (x ^^^ y) z hxy hz _).mono ?_
  rintro e w' ⟨rfl, rfl⟩
  go_wp2_with fail
  refine (gf_Mul b x y hx hy _ H12.out).mono ?_
  rintro e w13 ⟨rfl, h13, g13⟩
  have H13 := Lib.hid h13
  have G13 := Lib.hid (Kp.then_ G12.out g13)
  clear h13 g13
  go_wp2_with fail
  refine (gf_Mul b (gdiv x y) y (gdiv_lt _ _) hy _ H13.out).mono ?_
  rintro e w14 ⟨rfl, h14, g14⟩
  have H14 := Lib.hid h14
  have G14 := Lib.hid (Kp.then_ G13.out g14)
  clear h14 g14
  go_wp2_with fail
  refine (law01_sure _).mono ?_
  rintro e w15 ⟨rfl, g15⟩
  have H15 := Lib.hid (Tab.kept H14.out g15 (fun f => f))
  have G15 := Lib.hid (Kp.trans G14.out g15 (fun _ f => f.elim))
  clear g15
  go_wp2_with fail
  go_ret
  exact ⟨rfl, (Kp.fresh G15.out (fun k hk => by have := HB.out; simp only [On] at hk; omega))⟩
theorem wf8 {a : Int} (h : (Lit.int .u8 a).wf = true) : ∃ n : Nat, n < 256 ∧ a = (n : Int) := by
  have := bounds_u8 h
  exact ⟨a.toNat, by omega, by omega⟩
theorem GfField_walk (a0 a1 a2 : Int) (w : World) (w0 : (Lit.int .u8 a0).wf = true) (w1 : (Lit.int .u8 a1).wf = true) (w2 : (Lit.int .u8 a2).wf = true) :
    Calls Try.prog 5 #[.int .u8 a0, .int .u8 a1, .int .u8 a2] w fun e w' => e = .returned (.bool true) ∧ Below w.heap.size w w' := by
  obtain ⟨x, hx, rfl⟩ := wf8 w0
  obtain ⟨y, hy, rfl⟩ := wf8 w1
  obtain ⟨z, hz, rfl⟩ := wf8 w2
  by_cases hx0 : x = 0 <;> by_cases hy0 : y = 0
  · exact (GfField_00 x y z hx hy hz hx0 hy0 w).mono fun e w' ⟨he, k⟩ => ⟨he, k.below⟩
  · exact (GfField_01 x y z hx hy hz hx0 hy0 w).mono fun e w' ⟨he, k⟩ => ⟨he, k.below⟩
  · exact (GfField_10 x y z hx hy hz hx0 hy0 w).mono fun e w' ⟨he, k⟩ => ⟨he, k.below⟩
  · exact (GfField_11 x y z hx hy hz hx0 hy0 w).mono fun e w' ⟨he, k⟩ => ⟨he, k.below⟩
end Go.Proofs.Ytikipijafdcmfaa
