/- Walks: quotients, powers, logarithms, a new table. -/
import Derived.Test.YtikipijafdcmfaaGw3
set_option linter.unusedVariables false
set_option linter.unusedSimpArgs false
namespace Go.Proofs.Ytikipijafdcmfaa
open Go.RowKit Gm

/-- api.ErrArg, as an error. -/
abbrev errV (n : Int) : Value := .iface 65 (.int .i64 n)

/-! ### quotients -/
set_option maxHeartbeats 400000 in
theorem gf_Div_nil (x y : Nat) (w : World) :
    Calls Try.prog 15 #[.pointer none, .int .u8 (x : Int), .int .u8 (y : Int)] w fun e w' => e = .returned (.tuple #[.int .u8 0, errV 1]) ∧ w = w' := by
  go_enter Try.func15, Try.ntmps15
  go_wp2
  go_ret2
  exact ⟨rfl, rfl⟩
set_option maxHeartbeats 400000 in
theorem gf_Div_zero (b x : Nat) (w : World) :
    Calls Try.prog 15 #[.pointer (some ⟨b, 0, none⟩), .int .u8 (x : Int), .int .u8 0] w fun e w' => e = .returned (.tuple #[.int .u8 0, errV 1]) ∧ w = w' := by
  go_enter Try.func15, Try.ntmps15
  go_wp2
  go_ret2
  exact ⟨rfl, rfl⟩
theorem ret2 {a b c : Value} (h : a = b) : Ending.returned (.tuple #[a, c]) = .returned (.tuple #[b, c]) := by rw [h]

set_option maxRecDepth 100000 in
set_option maxHeartbeats 800000 in
theorem gf_Div (b x y : Nat) (hx : x < 256) (hy : y < 256) (hy0 : y ≠ 0) (w : World) (h : Tab w b) :
    Calls Try.prog 15 #[.pointer (some ⟨b, 0, none⟩), .int .u8 (x : Int), .int .u8 (y : Int)] w fun e w' => e = .returned (.tuple #[.int .u8 ((gdiv x y : Nat) : Int), .nilIface]) ∧ Tab w' b ∧ Kp (On b) w w' := by
  have H := Lib.hid h
  have hmf : ∀ (fn : Fn) (first cap : Array Value) (w : World), (Instr.makeFunc fn first cap).run Try.prog w = .ok (.func fn first cap) w := fun _ _ _ _ => rfl
  have hy1 : ((y : Int) == 0) = false := beq_eq_false_iff_ne.2 (by omega)
  clear h
  by_cases hx0 : x = 0
  · subst hx0
    have e0 : Hid (gdiv 0 y = 0) := Lib.hid (by simp [gdiv])
    clear hy0
    go_enter Try.func15, Try.ntmps15
    go_wp2
    go_ret2
    exact ⟨ret2 (valI (by rw [e0.out]; rfl)), H.out, Kp.refl _ _⟩
  have e0 : Hid (gdiv x y = gexp ((glog x + 255 - glog y) % 255)) := Lib.hid (by unfold gdiv; rw [if_neg hx0])
  have hx1 : ((x : Int) == 0) = false := beq_eq_false_iff_ne.2 (by omega)
  have lx := log_lt hx hx0
  have ly := log_lt hy hy0
  go_enter Try.func15, Try.ntmps15
  go_wp2_with (go_at_call 23; refine (once_Do b _ H.out).mono ?_; rintro e w' ⟨rfl, h2, g2⟩)
  have H2 := Lib.hid h2
  have G2 := Lib.hid g2
  have c1 := h2.log hx hx0
  have c2 := h2.log hy hy0
  clear h2 g2 hx0 hy0
  obtain ⟨m, hm⟩ : ∃ m : Nat, m = glog x + 255 - glog y := ⟨_, rfl⟩
  have hm1 : m < 100000 := by omega
  have hs1 : IntKind.i64.wrap (((glog x : Nat) : Int) + 255) = ((glog x : Nat) : Int) + 255 := IntWalk.i64_in _ (by omega)
  have hs : IntKind.i64.wrap (((glog x : Nat) : Int) + 255 - ((glog y : Nat) : Int)) = (m : Int) := by rw [IntWalk.i64_in _ (by omega)]; omega
  have hM := Lib.hid hm
  clear hm
  go_quiet ((go_at_call 25; exact quiet_same (gf_power_built b m _ hm1 H2.out)))
  go_wp2
  go_ret2
  exact ⟨ret2 (valI (by rw [e0.out, hM.out])), H2.out.tab, G2.out.drewN _⟩

set_option maxHeartbeats 400000 in
theorem gf_Inv_nil (x : Nat) (w : World) :
    Calls Try.prog 21 #[.pointer none, .int .u8 (x : Int)] w fun e w' => e = .returned (.tuple #[.int .u8 0, errV 1]) ∧ w = w' := by
  go_enter Try.func21, Try.ntmps21
  go_wp2_with (go_at_call 15; refine (gf_Div_nil 1 x _).mono ?_; rintro e w' ⟨rfl, rfl⟩)
  go_ret2
  exact ⟨rfl, rfl⟩
set_option maxHeartbeats 400000 in
theorem gf_Inv_zero (b : Nat) (w : World) :
    Calls Try.prog 21 #[.pointer (some ⟨b, 0, none⟩), .int .u8 0] w fun e w' => e = .returned (.tuple #[.int .u8 0, errV 1]) ∧ w = w' := by
  go_enter Try.func21, Try.ntmps21
  go_wp2_with (go_at_call 15; refine (gf_Div_zero b 1 _).mono ?_; rintro e w' ⟨rfl, rfl⟩)
  go_ret2
  exact ⟨rfl, rfl⟩
set_option maxHeartbeats 400000 in
theorem gf_Inv (b x : Nat) (hx : x < 256) (hx0 : x ≠ 0) (w : World) (h : Tab w b) :
    Calls Try.prog 21 #[.pointer (some ⟨b, 0, none⟩), .int .u8 (x : Int)] w fun e w' => e = .returned (.tuple #[.int .u8 ((gdiv 1 x : Nat) : Int), .nilIface]) ∧ Tab w' b ∧ Kp (On b) w w' := by
  have H := Lib.hid h
  clear h
  go_enter Try.func21, Try.ntmps21
  go_wp2_with (go_at_call 15; refine (gf_Div b 1 x (by omega) hx hx0 _ H.out).mono ?_; rintro e w' ⟨rfl, h2, g2⟩)
  go_ret2
  exact ⟨rfl, h2, g2⟩

/-! ### powers -/
set_option maxHeartbeats 400000 in
theorem gf_Pow_nil (x : Nat) (n : Int) (w : World) :
    Calls Try.prog 19 #[.pointer none, .int .u8 (x : Int), .int .i64 n] w fun e w' => e = .returned (.tuple #[.int .u8 0, errV 1]) ∧ w = w' := by
  go_enter Try.func19, Try.ntmps19
  go_wp2
  go_ret2
  exact ⟨rfl, rfl⟩
set_option maxHeartbeats 400000 in
theorem gf_Pow_neg (b x : Nat) (n : Int) (hn : n < 0) (w : World) :
    Calls Try.prog 19 #[.pointer (some ⟨b, 0, none⟩), .int .u8 (x : Int), .int .i64 n] w fun e w' => e = .returned (.tuple #[.int .u8 0, errV 1]) ∧ w = w' := by
  go_enter Try.func19, Try.ntmps19
  go_wp2
  go_ret2
  exact ⟨rfl, rfl⟩
set_option maxRecDepth 100000 in
set_option maxHeartbeats 800000 in
theorem gf_Pow (b x n : Nat) (hx : x < 256) (hn : n ≤ 9223372036854775807) (w : World) (h : Tab w b) :
    Calls Try.prog 19 #[.pointer (some ⟨b, 0, none⟩), .int .u8 (x : Int), .int .i64 (n : Int)] w fun e w' => e = .returned (.tuple #[.int .u8 ((gpow x n : Nat) : Int), .nilIface]) ∧ Tab w' b ∧ Kp (On b) w w' := by
  have H := Lib.hid h
  have hmf : ∀ (fn : Fn) (first cap : Array Value) (w : World), (Instr.makeFunc fn first cap).run Try.prog w = .ok (.func fn first cap) w := fun _ _ _ _ => rfl
  clear h
  have hd : decide ((n : Int) < 0) = false := decide_eq_false (by omega)
  by_cases hn0 : n = 0
  · subst hn0
    have e0 : Hid (gpow x 0 = 1) := Lib.hid (by simp [gpow])
    go_enter Try.func19, Try.ntmps19
    go_wp2
    go_ret2
    exact ⟨ret2 (valI (by rw [e0.out]; rfl)), H.out, Kp.refl _ _⟩
  have hn1 : ((n : Int) == 0) = false := beq_eq_false_iff_ne.2 (by omega)
  by_cases hx0 : x = 0
  · subst hx0
    have e0 : Hid (gpow 0 n = 0) := Lib.hid (by simp [gpow, hn0])
    clear hn0
    go_enter Try.func19, Try.ntmps19
    go_wp2
    go_ret2
    exact ⟨ret2 (valI (by rw [e0.out]; rfl)), H.out, Kp.refl _ _⟩
  have e0 : Hid (gpow x n = gexp (glog x * (n % 255) % 255)) := Lib.hid (by unfold gpow; rw [if_neg hn0, if_neg hx0])
  have hx1 : ((x : Int) == 0) = false := beq_eq_false_iff_ne.2 (by omega)
  have lx := log_lt hx hx0
  clear hn0
  have hp : glog x * (n % 255) ≤ 254 * 254 := Nat.mul_le_mul (by omega) (by omega)
  obtain ⟨m, hm⟩ : ∃ m : Nat, m = n % 255 := ⟨_, rfl⟩
  rw [← hm] at hp e0
  obtain ⟨q, hq⟩ : ∃ q : Nat, q = glog x * m := ⟨_, rfl⟩
  rw [← hq] at hp e0
  have hq1 : q < 100000 := by omega
  have hm2 : m < 255 := by omega
  have hs0 : (n : Int) % 255 = (m : Int) := by omega
  have hs2 : ((glog x : Nat) : Int) * (m : Int) = (q : Int) := by rw [hq, Int.natCast_mul]
  have hM := Lib.hid hm
  have hQ := Lib.hid hq
  clear hm hq
  have hy2 := Lib.hid hx0
  clear hx0
  go_enter Try.func19, Try.ntmps19
  go_wp2_with (first | (go_at_call 23; refine (once_Do b _ H.out).mono ?_; rintro e w' ⟨rfl, h2, g2⟩; have c1 := Built.log h2 hx hy2.out; have H2 := Lib.hid h2; have G2 := Lib.hid g2; clear h2 g2) | (go_at_call 25; refine (gf_power_built b q _ hq1 (Hid.out (by assumption))).mono ?_; rintro e w' ⟨rfl, rfl⟩))
  go_ret2
  exact ⟨ret2 (valI (by rw [e0.out])), Built.tab (Hid.out (by assumption)), Hid.out (by assumption)⟩

/-! ### logarithms -/
set_option maxHeartbeats 400000 in
theorem gf_Log_nil (x : Nat) (w : World) :
    Calls Try.prog 20 #[.pointer none, .int .u8 (x : Int)] w fun e w' => e = .returned (.tuple #[.int .i64 0, errV 1]) ∧ w = w' := by
  go_enter Try.func20, Try.ntmps20
  go_wp2
  go_ret2
  exact ⟨rfl, rfl⟩
set_option maxHeartbeats 400000 in
theorem gf_Log_zero (b : Nat) (w : World) :
    Calls Try.prog 20 #[.pointer (some ⟨b, 0, none⟩), .int .u8 0] w fun e w' => e = .returned (.tuple #[.int .i64 0, errV 1]) ∧ w = w' := by
  go_enter Try.func20, Try.ntmps20
  go_wp2
  go_ret2
  exact ⟨rfl, rfl⟩
set_option maxRecDepth 100000 in
set_option maxHeartbeats 800000 in
theorem gf_Log (b x : Nat) (hx : x < 256) (hx0 : x ≠ 0) (w : World) (h : Tab w b) :
    Calls Try.prog 20 #[.pointer (some ⟨b, 0, none⟩), .int .u8 (x : Int)] w fun e w' => e = .returned (.tuple #[.int .i64 ((glog x : Nat) : Int), .nilIface]) ∧ Tab w' b ∧ Kp (On b) w w' := by
  have H := Lib.hid h
  have hmf : ∀ (fn : Fn) (first cap : Array Value) (w : World), (Instr.makeFunc fn first cap).run Try.prog w = .ok (.func fn first cap) w := fun _ _ _ _ => rfl
  clear h
  have hx1 : ((x : Int) == 0) = false := beq_eq_false_iff_ne.2 (by omega)
  have lx := log_lt hx hx0
  go_enter Try.func20, Try.ntmps20
  go_wp2_with (go_at_call 23; refine (once_Do b _ H.out).mono ?_; rintro e w' ⟨rfl, h2, g2⟩; have c1 := Built.log h2 hx hx0; have H2 := Lib.hid h2; have G2 := Lib.hid g2; clear h2 g2)
  go_ret2
  exact ⟨rfl, Built.tab (Hid.out (by assumption)), Hid.out (by assumption)⟩

/-! ### a new table -/
theorem zero_tab (W : World) : (zeroValue 64).run Try.prog W = .ok (.agg (tabC 0 0 (etab 0) (ltab 0))) W := by kernel_rfl
set_option maxRecDepth 100000 in
set_option maxHeartbeats 800000 in
theorem gf_New (w : World) :
    Calls Try.prog 14 #[] w fun e w' => e = .returned (.pointer (some ⟨w.heap.size, 0, none⟩)) ∧ Tab w' w.heap.size ∧ Kp No w w' := by
  obtain ⟨Z, hZ⟩ : ∃ Z, Z = tabC 0 0 (etab 0) (ltab 0) := ⟨_, rfl⟩
  have hz : ∀ W : World, (zeroValue 64).run Try.prog W = .ok (.agg Z) W := fun W => by rw [hZ]; exact zero_tab W
  have HZ := Lib.hid hZ
  clear hZ
  go_enter Try.func14, Try.ntmps14
  go_wp2
  go_ret
  exact ⟨rfl, .inl (by rw [HZ.out]; exact new_at _ _), (Kp.refl _ _).alloc _⟩
end Go.Proofs.Ytikipijafdcmfaa
