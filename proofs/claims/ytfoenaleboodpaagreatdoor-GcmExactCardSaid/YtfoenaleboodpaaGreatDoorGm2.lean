/- The numbers of eight bits: powers, inverses, squares. Nothing of Go. -/
import Derived.Test.YtfoenaleboodpaaGreatDoorGm
set_option linter.unusedVariables false
set_option linter.unusedSimpArgs false
namespace Go.Proofs.YtfoenaleboodpaaGreatDoor.Gm
theorem gpow_of {a n : Nat} (ha : a ≠ 0) : gpow a n = gexp (glog a * n) := by
  unfold gpow
  by_cases hn : n = 0
  · subst hn; simp [gexp]
  rw [if_neg hn, if_neg ha, exp_mod, ← exp_mod, ← exp_mod (glog a * n)]
  congr 1
  rw [Nat.mul_mod, Nat.mod_mod, ← Nat.mul_mod]
theorem gpow_zero {n : Nat} (hn : n ≠ 0) : gpow 0 n = 0 := by unfold gpow; rw [if_neg hn, if_pos rfl]
theorem gpow_ne0 {a : Nat} (n : Nat) (ha : a ≠ 0) : gpow a n ≠ 0 := by
  rw [gpow_of ha, ← exp_mod]; exact exp_ne0 _ (by omega)
theorem log_gexp (n : Nat) : glog (gexp n) = n % 255 := by rw [← exp_mod, log_exp _ (by omega)]
theorem gpow_add {a : Nat} (m n : Nat) (h : a < 256) : gmul (gpow a m) (gpow a n) = gpow a (m + n) := by
  by_cases ha : a = 0
  · subst ha
    by_cases hm : m = 0
    · subst hm
      rw [Nat.zero_add, gmul_comm]
      exact gmul_one (gpow_lt _ _)
    · rw [gpow_zero hm, zero_gmul, gpow_zero (by omega)]
  rw [gmul_of (gpow_ne0 m ha) (gpow_ne0 n ha), gpow_of ha, gpow_of ha, gpow_of ha, log_gexp, log_gexp, ← Nat.add_mod, exp_mod, Nat.mul_add]
theorem gpow_255 {a : Nat} (ha : a ≠ 0) : gpow a 255 = 1 := by
  unfold gpow; rw [if_neg (by decide), if_neg ha]; simp [gexp]
theorem gpow_256 {a : Nat} (h : a < 256) : gpow a 256 = a := by
  by_cases ha : a = 0
  · subst ha; exact gpow_zero (by decide)
  unfold gpow
  rw [if_neg (by decide), if_neg ha, show 256 % 255 = 1 from rfl, Nat.mul_one, Nat.mod_eq_of_lt (log_lt h ha), exp_log h ha]
theorem gpow_two {a : Nat} : gpow a 2 = gmul a a := by
  by_cases ha : a = 0
  · subst ha; rw [gpow_zero (by decide), zero_gmul]
  rw [gpow_of ha, gmul_of ha ha, exp_mod, Nat.mul_two]
theorem gmul_sq {a b : Nat} (ha : a < 256) (hb : b < 256) : gmul (a ^^^ b) (a ^^^ b) = gmul a a ^^^ gmul b b := by
  rw [gmul_xor ha hb, gmul_comm _ a, gmul_comm _ b, gmul_xor ha hb, gmul_xor ha hb, gmul_comm b a, Nat.xor_assoc, ← Nat.xor_assoc (gmul a b), Nat.xor_self, Nat.zero_xor]
theorem gdiv_ne0 {a b : Nat} (ha : a ≠ 0) : gdiv a b ≠ 0 := by
  unfold gdiv; rw [if_neg ha, ← exp_mod]; exact exp_ne0 _ (by omega)
theorem gmul_cancel {a b c : Nat} (ha : a < 256) (hb : b < 256) (h0 : c ≠ 0) (h : gmul a c = gmul b c) : a = b := by
  by_cases ha0 : a = 0
  · subst ha0
    rw [zero_gmul] at h
    rcases (gmul_eq0 b c).1 h.symm with hb0 | hc0
    · exact hb0.symm
    · exact absurd hc0 h0
  by_cases hb0 : b = 0
  · subst hb0
    rw [zero_gmul] at h
    exact absurd h (gmul_ne0 ha0 h0)
  have e := congrArg glog h
  rw [log_gmul ha0 h0, log_gmul hb0 h0] at e
  have la := log_lt ha ha0
  have lb := log_lt hb hb0
  have : glog a = glog b := by omega
  rw [← exp_log ha ha0, ← exp_log hb hb0, this]
theorem inv_inv {a : Nat} (h : a < 256) (h0 : a ≠ 0) : gdiv 1 (gdiv 1 a) = a := by
  have hi : gdiv 1 a ≠ 0 := gdiv_ne0 (by decide)
  refine gmul_cancel (gdiv_lt _ _) h hi ?_
  rw [gdiv_mul (by decide) (gdiv_lt _ _) hi, gmul_comm, gdiv_mul (by decide) h h0]
theorem mul_inv {a : Nat} (h : a < 256) (h0 : a ≠ 0) : gmul a (gdiv 1 a) = 1 := by rw [gmul_comm, gdiv_mul (by decide) h h0]
theorem pow_log {a : Nat} (h : a < 256) (h0 : a ≠ 0) : gpow 3 (glog a) = a := by
  have h3 : glog 3 = 1 := by decide
  rw [gpow_of (by decide), h3, Nat.one_mul, exp_log h h0]

end Go.Proofs.YtfoenaleboodpaaGreatDoor.Gm
