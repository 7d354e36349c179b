/- Sums and products of blocks as lists of bytes: contracts and plain laws. -/
import Derived.Test.YtfoenaleboodpaaGreatDoorHv4
import Derived.Test.YtfoenaleboodpaaGreatDoorBe
set_option linter.unusedVariables false
set_option linter.unusedSimpArgs false
namespace Go.Proofs.YtfoenaleboodpaaGreatDoor
open Go.RowKit

@[irreducible] def mulB (x y : List Nat) : List Nat := Hm.toB 16 (Hm.gm (Hm.be x) (Hm.be y))
@[irreducible] def addB (x y : List Nat) : List Nat := Hm.toB 16 (Hm.be x ^^^ Hm.be y)
theorem toB_by (n v : Nat) : By n (Hm.toB n v) := ⟨Hm.toB_length n v, Hm.toB_byte n v⟩
theorem mulB_eq (x y : List Nat) : mulB x y = Hm.toB 16 (Hm.gm (Hm.be x) (Hm.be y)) := by unfold mulB; rfl
theorem addB_eq (x y : List Nat) : addB x y = Hm.toB 16 (Hm.be x ^^^ Hm.be y) := by unfold addB; rfl
theorem be_toB16 {v : Nat} (h : v < 2 ^ 128) : Hm.be (Hm.toB 16 v) = v := by
  rw [Hm.be_toB]; exact Nat.mod_eq_of_lt (by rw [show (256 : Nat) ^ 16 = 2 ^ 128 by decide]; exact h)
theorem mulB_by (x y : List Nat) : By 16 (mulB x y) := by unfold mulB; exact toB_by _ _
theorem addB_by (x y : List Nat) : By 16 (addB x y) := by unfold addB; exact toB_by _ _
theorem by_lt {x : List Nat} (h : By 16 x) : Hm.be x < 2 ^ 128 := be_lt16 h.1 h.2
theorem mulB_be {x y : List Nat} (hx : By 16 x) (hy : By 16 y) : Hm.be (mulB x y) = Hm.gm (Hm.be x) (Hm.be y) := by
  unfold mulB; exact be_toB16 (Hm.gm_lt (by_lt hy))
theorem addB_be {x y : List Nat} (hx : By 16 x) (hy : By 16 y) : Hm.be (addB x y) = Hm.be x ^^^ Hm.be y := by
  unfold addB; exact be_toB16 (Nat.xor_lt_two_pow (by_lt hx) (by_lt hy))
theorem c_add {x y : List Nat} (hx : By 16 x) (hy : By 16 y) (w : World) :
    Calls Tryz.prog 25 #[.agg (u8s x).toArray, .agg (u8s y).toArray] w fun e w' => e = .returned (.agg (u8s (addB x y)).toArray) ∧ Kp No w w' := by
  unfold addB; exact gh_Add x y hx.1 hy.1 hx.2 hy.2 w
theorem mulB_comm {x y : List Nat} (hx : By 16 x) (hy : By 16 y) : mulB x y = mulB y x := by
  unfold mulB; rw [Hm.gm_comm (by_lt hx) (by_lt hy)]
theorem mulB_assoc {x y z : List Nat} (hx : By 16 x) (hy : By 16 y) (hz : By 16 z) : mulB x (mulB y z) = mulB (mulB x y) z := by
  have h1 := mulB_be hy hz
  have h2 := mulB_be hx hy
  rw [mulB_eq x (mulB y z), mulB_eq (mulB x y) z, h1, h2, Hm.gm_assoc (by_lt hx) (by_lt hy) (by_lt hz)]
theorem mulB_add {x y z : List Nat} (hx : By 16 x) (hy : By 16 y) (hz : By 16 z) : mulB x (addB y z) = addB (mulB x y) (mulB x z) := by
  have h1 := addB_be hy hz
  have h2 := mulB_be hx hy
  have h3 := mulB_be hx hz
  rw [mulB_eq x (addB y z), addB_eq (mulB x y) (mulB x z), h1, h2, h3, Hm.gm_xor]
def zeroB : List Nat := List.replicate 16 0
theorem zeroB_by : By 16 zeroB := ⟨by simp [zeroB], by simp [zeroB]⟩
theorem zeroB_be : Hm.be zeroB = 0 := by decide +kernel
theorem be_inj16 {x y : List Nat} (hx : By 16 x) (hy : By 16 y) (h : Hm.be x = Hm.be y) : x = y := by
  have h1 := Hm.toB_be hx.2
  have h2 := Hm.toB_be hy.2
  rw [hx.1] at h1
  rw [hy.1] at h2
  rw [← h1, ← h2, h]
theorem mulB_zero {x y : List Nat} (hx : By 16 x) (hy : By 16 y) : mulB x y = zeroB ↔ x = zeroB ∨ y = zeroB := by
  have h0 := Hm.gm_eq0 (by_lt hx) (by_lt hy)
  have h1 := mulB_be hx hy
  constructor
  · intro h
    have : Hm.gm (Hm.be x) (Hm.be y) = 0 := by rw [← h1, h, zeroB_be]
    rcases h0.1 this with h | h
    · exact .inl (be_inj16 hx zeroB_by (by rw [h, zeroB_be]))
    · exact .inr (be_inj16 hy zeroB_by (by rw [h, zeroB_be]))
  · intro h
    refine be_inj16 (mulB_by _ _) zeroB_by ?_
    rw [h1, zeroB_be]
    refine h0.2 ?_
    rcases h with h | h
    · left; rw [h, zeroB_be]
    · right; rw [h, zeroB_be]
theorem addB_self (x : List Nat) : addB x x = zeroB := by unfold addB; rw [Nat.xor_self]; decide +kernel
def oneB : List Nat := 128 :: List.replicate 15 0
def sureX : List Nat := [1, 2, 3, 0, 0, 0, 0, 0, 0, 0, 0, 0, 0, 0, 0, 0]
def sureP : List Nat := [0, 0, 0, 0, 0, 0, 0, 0, 0, 0, 0, 0, 0, 0, 0, 1]
def sureQ : List Nat := 64 :: List.replicate 15 0
def sureR : List Nat := 225 :: List.replicate 15 0
theorem sure_1 : mulB sureX oneB = sureX := by unfold mulB; decide +kernel
theorem sure_2 : mulB oneB sureX = sureX := by unfold mulB; decide +kernel
theorem sure_4 : mulB sureP sureQ = sureR := by unfold mulB; decide +kernel
theorem by_of (l : List Nat) (h : (decide (l.length = 16) && l.all (· < 256)) = true) : By 16 l := by
  simp at h; exact ⟨h.1, h.2⟩
end Go.Proofs.YtfoenaleboodpaaGreatDoor
