/- Walks: ghash's halves: sums, moved by a place. -/
import Derived.Test.YtfoenaleboodpaaGreatDoorHm2
import Derived.Test.YtfoenaleboodpaaGreatDoorLb
set_option linter.unusedVariables false
set_option linter.unusedSimpArgs false
namespace Go.Proofs.YtfoenaleboodpaaGreatDoor
open Go.RowKit

/-- A number of 128 bits, in halves. -/
def hi (v : Nat) : Nat := v / 2 ^ 64
def lo (v : Nat) : Nat := v % 2 ^ 64
def hv (v : Nat) : Value := .agg #[.int .u64 ((hi v : Nat) : Int), .int .u64 ((lo v : Nat) : Int)]
theorem hv_def (v : Nat) : hv v = .agg #[.int .u64 ((hi v : Nat) : Int), .int .u64 ((lo v : Nat) : Int)] := rfl
theorem hi_lt {v : Nat} (h : v < 2 ^ 128) : hi v < 2 ^ 64 := by unfold hi; omega
theorem lo_lt (v : Nat) : lo v < 2 ^ 64 := by unfold lo; omega
theorem hv_eq {v a b : Nat} (hb : b < 2 ^ 64) (h : v = 2 ^ 64 * a + b) : hv v = .agg #[.int .u64 (a : Int), .int .u64 (b : Int)] := by
  subst h
  have h1 : (2 ^ 64 * a + b) / 2 ^ 64 = a := by omega
  have h2 : (2 ^ 64 * a + b) % 2 ^ 64 = b := by omega
  unfold hv hi lo
  rw [h1, h2]
theorem hv_ex (v : Nat) (hv' : v < 2 ^ 128) : ∃ a b, a < 2 ^ 64 ∧ b < 2 ^ 64 ∧ v = 2 ^ 64 * a + b ∧ hv v = .agg #[.int .u64 (a : Int), .int .u64 (b : Int)] :=
  ⟨v / 2 ^ 64, v % 2 ^ 64, by omega, by omega, by omega, rfl⟩

set_option maxHeartbeats 400000 in
theorem half_plus (x y : Nat) (hx : x < 2 ^ 128) (hy : y < 2 ^ 128) (w : World) :
    Calls Tryz.prog 45 #[hv x, hv y] w fun e w' => e = .returned (hv (x ^^^ y)) ∧ Kp No w w' := by
  obtain ⟨a, b, ha, hb, hab, e⟩ := hv_ex x hx
  obtain ⟨c, d, hc, hd, hcd, e'⟩ := hv_ex y hy
  have er := Lib.hid (hv_eq (v := x ^^^ y) (Nat.xor_lt_two_pow hb hd) (by rw [hab, hcd, Hm.split_xor 64 _ _ _ _ hb hd]))
  have e1 := u64_xor_nat a c ha hc
  have e2 := u64_xor_nat b d hb hd
  rw [e, e']
  clear ha hb hc hd hab hcd e e' hx hy
  go_enter Tryz.func45, Tryz.ntmps45
  go_wp2
  exact bodyPost_ret (v := .agg #[.int .u64 ((a ^^^ c : Nat) : Int), .int .u64 ((b ^^^ d : Nat) : Int)]) (by simp [results, Tryz.results45, go_sem]) rfl ⟨by rw [er.out], ((((Kp.refl No w).alloc _).alloc _).alloc _)⟩

/-- What a move by a place comes to, in the machine's own words. -/
theorem moved_odd (a b x : Nat) (ha : a < 2 ^ 64) (hb : b < 2 ^ 64) (hx : x = 2 ^ 64 * a + b) (h1 : b % 2 = 1) :
    (.agg #[.int .u64 (bits .xor .u64 ((a : Int) / 2) 16212958658533785600), .int .u64 (bits .or .u64 ((b : Int) / 2) (IntKind.u64.wrap ((a : Int) * 9223372036854775808)))] : Value) = hv (Hm.mv x) := by
  have hm := Hm.mv_halves a b hb
  rw [← hx, if_pos h1] at hm
  rw [hv_eq (by omega) hm]
  have h1 : IntKind.u64.wrap ((a : Int) * 9223372036854775808) = ((a * 2 ^ 63 % 2 ^ 64 : Nat) : Int) := by rw [IntKind.wrap_u64]; omega
  have h2 : (b : Int) / 2 = ((b / 2 : Nat) : Int) := by omega
  have h3 : (a : Int) / 2 = ((a / 2 : Nat) : Int) := by omega
  have h4 : bits .xor .u64 ((a / 2 : Nat) : Int) 16212958658533785600 = ((a / 2 ^^^ 0xe1 * 2 ^ 56 : Nat) : Int) := by
    have c : (16212958658533785600 : Int) = ((0xe1 * 2 ^ 56 : Nat) : Int) := by decide
    rw [c]
    exact u64_xor_nat (a / 2) (0xe1 * 2 ^ 56) (by omega) (by decide)
  rw [h1, h2, h3, h4, u64_or_nat _ _ (by omega) (by omega), Hm.or_halves a b hb]
theorem moved_even (a b x : Nat) (ha : a < 2 ^ 64) (hb : b < 2 ^ 64) (hx : x = 2 ^ 64 * a + b) (h1 : ¬ b % 2 = 1) :
    (.agg #[.int .u64 ((a : Int) / 2), .int .u64 (bits .or .u64 ((b : Int) / 2) (IntKind.u64.wrap ((a : Int) * 9223372036854775808)))] : Value) = hv (Hm.mv x) := by
  have hm := Hm.mv_halves a b hb
  rw [← hx, if_neg h1, Nat.xor_zero] at hm
  rw [hv_eq (by omega) hm]
  have h1 : IntKind.u64.wrap ((a : Int) * 9223372036854775808) = ((a * 2 ^ 63 % 2 ^ 64 : Nat) : Int) := by rw [IntKind.wrap_u64]; omega
  have h2 : (b : Int) / 2 = ((b / 2 : Nat) : Int) := by omega
  have h3 : (a : Int) / 2 = ((a / 2 : Nat) : Int) := by omega
  rw [h1, h2, h3, u64_or_nat _ _ (by omega) (by omega), Hm.or_halves a b hb]
theorem odd_test (b : Nat) (hb : b < 2 ^ 64) : (bits .and .u64 (b : Int) 1 != 0) = decide (b % 2 = 1) := by
  have h : bits .and .u64 (b : Int) 1 = ((b % 2 : Nat) : Int) := by
    have := u64_and_nat b 1 hb (by decide)
    rwa [nat_mask1] at this
  rw [h, Bool.eq_iff_iff, bne_iff_ne, decide_eq_true_iff]
  omega

set_option maxHeartbeats 400000 in
theorem half_moved (x : Nat) (hx : x < 2 ^ 128) (w : World) :
    Calls Tryz.prog 61 #[hv x] w fun e w' => e = .returned (hv (Hm.mv x)) ∧ Kp No w w' := by
  obtain ⟨a, b, ha, hb, hab, e⟩ := hv_ex x hx
  have ht := odd_test b hb
  rw [e]
  clear e
  by_cases h1 : b % 2 = 1
  · have er := Lib.hid (moved_odd a b x ha hb hab h1)
    have t : (bits .and .u64 (b : Int) 1 != 0) = true := by rw [ht]; exact decide_eq_true h1
    clear ha hb hab hx h1 ht
    go_enter Tryz.func61, Tryz.ntmps61
    go_wp2
    exact bodyPost_ret (v := .agg #[.int .u64 (bits .xor .u64 ((a : Int) / 2) 16212958658533785600), .int .u64 (bits .or .u64 ((b : Int) / 2) (IntKind.u64.wrap ((a : Int) * 9223372036854775808)))]) (by simp [results, Tryz.results61, go_sem]) rfl ⟨by rw [er.out], (((Kp.refl No w).alloc _).alloc _).alloc _⟩
  · have er := Lib.hid (moved_even a b x ha hb hab h1)
    have t : (bits .and .u64 (b : Int) 1 != 0) = false := by rw [ht]; exact decide_eq_false h1
    clear ha hb hab hx h1 ht
    go_enter Tryz.func61, Tryz.ntmps61
    go_wp2
    exact bodyPost_ret (v := .agg #[.int .u64 ((a : Int) / 2), .int .u64 (bits .or .u64 ((b : Int) / 2) (IntKind.u64.wrap ((a : Int) * 9223372036854775808)))]) (by simp [results, Tryz.results61, go_sem]) rfl ⟨by rw [er.out], (((Kp.refl No w).alloc _).alloc _).alloc _⟩
end Go.Proofs.YtfoenaleboodpaaGreatDoor
