/- gcm, whatever it is given; the document's blocks. -/
import Derived.Test.YtfoenaleboodpaaGreatDoorGk
import Derived.Test.YtfoenaleboodpaaGreatDoorEv
import Derived.Test.YtfoenaleboodpaaGreatDoorRa
import Derived.Test.YtfoenaleboodpaaGreatDoorRb
import Derived.Test.YtfoenaleboodpaaGreatDoorGr2
set_option linter.unusedVariables false
set_option linter.unusedSimpArgs false
namespace Go.Proofs.YtfoenaleboodpaaGreatDoor
open Go.RowKit Gm
def sealE (N M D : List Nat) : Nat := if N.length = 12 ∧ M.length ≤ 2048 ∧ D.length ≤ 2048 then 0 else 1
def openE (K N M D : List Nat) : Nat := if N.length = 12 ∧ M.length ≤ 2064 ∧ D.length ≤ 2048 then (if opensB K N M D then 0 else 11) else 1
theorem addB_xorL' {x y : List Nat} (bx : By 16 x) (b_y : By 16 y) : xorL x y = addB x y := by
  rw [addB_eq]
  conv => lhs; rw [toB_of_be bx, toB_of_be b_y]
  rw [xorL_toB]
/-- A nonce's block as the document makes it: t bytes of the number so far. -/
def ctT (N : List Nat) (n t : Nat) : List Nat := arr 16 fun j => if j < 12 then N.getD j 0 else if 15 - j < t then n / 256 ^ (15 - j) % 256 else 0
theorem ctT_by {N : List Nat} (h : By 12 N) (n t : Nat) : By 16 (ctT N n t) := arr_by fun i _ => by
  split
  · exact getD_lt h.2 i
  · split
    · exact Nat.mod_lt _ (by decide)
    · decide
theorem ctT_zero {N : List Nat} (h : N.length = 12) (n : Nat) : upto (fun i => N.getD i 0) (fun _ => 0) 12 16 = ctT N n 0 := arr_ext fun i _ => by
  by_cases hi : i < 12
  · rw [if_pos hi, if_pos hi]
  · rw [if_neg hi, if_neg hi, if_neg (by omega)]
theorem ctT_set {N : List Nat} {n t : Nat} (ht : t < 4) : (ctT N n t).set (15 - t) (n / 256 ^ t % 256) = ctT N n (t + 1) := by
  unfold ctT
  rw [arr_set]
  refine arr_ext fun i hi => ?_
  by_cases e : i = 15 - t
  · subst e
    rw [if_pos rfl, if_neg (by omega), if_pos (by omega), show 15 - (15 - t) = t by omega]
  · rw [if_neg e]
    by_cases h1 : i < 12
    · rw [if_pos h1, if_pos h1]
    · rw [if_neg h1, if_neg h1]
      by_cases h2 : 15 - i < t
      · rw [if_pos h2, if_pos (by omega)]
      · rw [if_neg h2, if_neg (by omega)]
theorem ctT_end {N : List Nat} (h : N.length = 12) (n : Nat) : ctT N n 4 = N ++ be4 n := by
  match N, h with
  | [a0, a1, a2, a3, a4, a5, a6, a7, a8, a9, a10, a11], _ =>
    show [a0, a1, a2, a3, a4, a5, a6, a7, a8, a9, a10, a11, n / 256 ^ 3 % 256, n / 256 ^ 2 % 256, n / 256 ^ 1 % 256, n / 256 ^ 0 % 256] = _
    simp [be4]
theorem div_pow (n t : Nat) : n / 256 ^ t / 256 = n / 256 ^ (t + 1) := by rw [Nat.div_div_eq_div_mul, Nat.pow_succ]
/-- The document's key: both tables and the block that sums. -/
def RKL (K : List Nat) : List Nat := CK K ++ gmH K
theorem RKL_by (K : List Nat) : By 512 (RKL K) := ⟨by unfold RKL; rw [List.length_append, (CK_by K).1, (gmH_by K).1], fun n hn => (List.mem_append.1 hn).elim ((CK_by K).2 n) ((gmH_by K).2 n)⟩
theorem RKL_c (K : List Nat) : ((RKL K).drop 0).take 496 = CK K := by unfold RKL; rw [List.drop_zero]; exact List.take_left' (CK_by K).1
theorem RKL_h (K : List Nat) : ((RKL K).drop 496).take 16 = gmH K := by unfold RKL; rw [List.drop_left' (CK_by K).1]; exact List.take_of_length_le (by rw [(gmH_by K).1]; exact Nat.le_refl _)
theorem u8s_RKL (K : List Nat) : u8s (RKL K) = u8s (CK K) ++ u8s (gmH K) := List.map_append
/-- What is ciphered of the first k bytes. -/
def cphT (K N L : List Nat) (k : Nat) : List Nat := (List.range (min k L.length)).map (cphF K N L)
theorem cphT_zero (K N L : List Nat) : cphT K N L 0 = [] := by unfold cphT; rw [Nat.zero_min]; rfl
theorem cphT_len (K N L : List Nat) (k : Nat) : (cphT K N L k).length = min k L.length := by unfold cphT; rw [List.length_map, List.length_range]
theorem cphT_all {K N L : List Nat} (hN : By 12 N) {k : Nat} (h : L.length ≤ k) : cphT K N L k = cphB K N L := by rw [cphB_eq hN]; unfold cphT; rw [Nat.min_eq_right h]
theorem cphT_end {K N L : List Nat} {a i : Nat} (hi : i ≤ 16) (h : i = 16 ∨ L.length ≤ 16 * a + i) : cphT K N L (16 * a + i) = cphT K N L (16 * (a + 1)) := by
  unfold cphT; rw [show min (16 * a + i) L.length = min (16 * (a + 1)) L.length by omega]
theorem cphT_step {K N L : List Nat} {a i x s : Nat} (hi : i < 16) (hx : L[16 * a + i]? = some x) (hs : (ctrB K N (2 + a))[i]? = some s) : cphT K N L (16 * a + i) ++ [x ^^^ s] = cphT K N L (16 * a + (i + 1)) := by
  have hl := (List.getElem?_eq_some_iff.1 hx).1
  unfold cphT
  rw [show min (16 * a + i) L.length = 16 * a + i by omega, show min (16 * a + (i + 1)) L.length = 16 * a + i + 1 by omega, List.range_succ, List.map_append]
  congr 1
  show [_] = [cphF K N L (16 * a + i)]
  unfold cphF
  rw [List.getD_eq_getElem?_getD, hx, show (16 * a + i) / 16 = a by omega, show (16 * a + i) % 16 = i by omega, List.getD_eq_getElem?_getD, hs]; rfl
end Go.Proofs.YtfoenaleboodpaaGreatDoor
