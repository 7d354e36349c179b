/- The S box: its tables, and the document's way to them. Nothing of Go's memory. -/
import Derived.Test.YtjbdimfpjbmggaaGreatDoorLa
import Derived.Test.YtjbdimfpjbmggaaGreatDoorTb
set_option linter.unusedVariables false
set_option linter.unusedSimpArgs false
namespace Go.Proofs.YtjbdimfpjbmggaaGreatDoor.Gm
def rotA (v : Nat) : Nat := ((((v ^^^ (v * 2 % 256 ||| v / 128)) ^^^ (v * 4 % 256 ||| v / 64)) ^^^ (v * 8 % 256 ||| v / 32)) ^^^ (v * 16 % 256 ||| v / 16)) ^^^ 99
/-- What stands for a byte. -/
def sF (x : Nat) : Nat := rotA (iv x)
def SLit : List Nat := [99, 124, 119, 123, 242, 107, 111, 197, 48, 1, 103, 43, 254, 215, 171, 118, 202, 130, 201, 125, 250, 89, 71, 240, 173, 212, 162, 175, 156, 164, 114, 192, 183, 253, 147, 38, 54, 63, 247, 204, 52, 165, 229, 241, 113, 216, 49, 21, 4, 199, 35, 195, 24, 150, 5, 154, 7, 18, 128, 226, 235, 39, 178, 117, 9, 131, 44, 26, 27, 110, 90, 160, 82, 59, 214, 179, 41, 227, 47, 132, 83, 209, 0, 237, 32, 252, 177, 91, 106, 203, 190, 57, 74, 76, 88, 207, 208, 239, 170, 251, 67, 77, 51, 133, 69, 249, 2, 127, 80, 60, 159, 168, 81, 163, 64, 143, 146, 157, 56, 245, 188, 182, 218, 33, 16, 255, 243, 210, 205, 12, 19, 236, 95, 151, 68, 23, 196, 167, 126, 61, 100, 93, 25, 115, 96, 129, 79, 220, 34, 42, 144, 136, 70, 238, 184, 20, 222, 94, 11, 219, 224, 50, 58, 10, 73, 6, 36, 92, 194, 211, 172, 98, 145, 149, 228, 121, 231, 200, 55, 109, 141, 213, 78, 169, 108, 86, 244, 234, 101, 122, 174, 8, 186, 120, 37, 46, 28, 166, 180, 198, 232, 221, 116, 31, 75, 189, 139, 138, 112, 62, 181, 102, 72, 3, 246, 14, 97, 53, 87, 185, 134, 193, 29, 158, 225, 248, 152, 17, 105, 217, 142, 148, 155, 30, 135, 233, 206, 85, 40, 223, 140, 161, 137, 13, 191, 230, 66, 104, 65, 153, 45, 15, 176, 84, 187, 22]
def BLit : List Nat := [82, 9, 106, 213, 48, 54, 165, 56, 191, 64, 163, 158, 129, 243, 215, 251, 124, 227, 57, 130, 155, 47, 255, 135, 52, 142, 67, 68, 196, 222, 233, 203, 84, 123, 148, 50, 166, 194, 35, 61, 238, 76, 149, 11, 66, 250, 195, 78, 8, 46, 161, 102, 40, 217, 36, 178, 118, 91, 162, 73, 109, 139, 209, 37, 114, 248, 246, 100, 134, 104, 152, 22, 212, 164, 92, 204, 93, 101, 182, 146, 108, 112, 72, 80, 253, 237, 185, 218, 94, 21, 70, 87, 167, 141, 157, 132, 144, 216, 171, 0, 140, 188, 211, 10, 247, 228, 88, 5, 184, 179, 69, 6, 208, 44, 30, 143, 202, 63, 15, 2, 193, 175, 189, 3, 1, 19, 138, 107, 58, 145, 17, 65, 79, 103, 220, 234, 151, 242, 207, 206, 240, 180, 230, 115, 150, 172, 116, 34, 231, 173, 53, 133, 226, 249, 55, 232, 28, 117, 223, 110, 71, 241, 26, 113, 29, 41, 197, 137, 111, 183, 98, 14, 170, 24, 190, 27, 252, 86, 62, 75, 198, 210, 121, 32, 154, 219, 192, 254, 120, 205, 90, 244, 31, 221, 168, 51, 136, 7, 199, 49, 177, 18, 16, 89, 39, 128, 236, 95, 96, 81, 127, 169, 25, 181, 74, 13, 45, 229, 122, 159, 147, 201, 156, 239, 160, 224, 59, 77, 174, 42, 245, 176, 200, 235, 187, 60, 131, 83, 153, 97, 23, 43, 4, 126, 186, 119, 214, 38, 225, 105, 20, 99, 85, 33, 12, 125]
def sBk (x : Nat) : Nat := BLit.getD x 0
def stab : Nat → List Nat
  | 0 => List.replicate 256 0
  | n + 1 => (stab n).set n (sF n)
def btab : Nat → List Nat
  | 0 => List.replicate 256 0
  | n + 1 => (btab n).set (sF n) n
theorem stab_length (n : Nat) : (stab n).length = 256 := by
  induction n with
  | zero => exact List.length_replicate
  | succ n ih => unfold stab; rw [List.length_set, ih]
theorem btab_length (n : Nat) : (btab n).length = 256 := by
  induction n with
  | zero => exact List.length_replicate
  | succ n ih => unfold btab; rw [List.length_set, ih]
theorem rotA_lt : ∀ v, v < 256 → rotA v < 256 := by decide +kernel
theorem sF_lt (x : Nat) : sF x < 256 := rotA_lt _ (iv_lt x)
theorem stab_all : stab 256 = SLit := by decide +kernel
theorem btab_all : btab 256 = BLit := by decide +kernel
theorem SLit_get : ∀ x, x < 256 → SLit[x]? = some (sF x) := by decide +kernel
theorem BLit_by : BLit.length = 256 ∧ ∀ n ∈ BLit, n < 256 := by decide +kernel
theorem BLit_get (x : Nat) (h : x < 256) : BLit[x]? = some (sBk x) := by
  unfold sBk; rw [List.getD_eq_getElem?_getD, List.getElem?_eq_getElem (by rw [BLit_by.1]; exact h)]; rfl
theorem sBk_lt (x : Nat) : sBk x < 256 := by
  unfold sBk; rw [List.getD_eq_getElem?_getD]
  rcases Nat.lt_or_ge x 256 with h | h
  · rw [List.getElem?_eq_getElem (by rw [BLit_by.1]; exact h)]; exact BLit_by.2 _ (List.getElem_mem _)
  · rw [List.getElem?_eq_none (by rw [BLit_by.1]; exact h)]; decide
theorem back_sub : ∀ x, x < 256 → sBk (sF x) = x := by decide +kernel
theorem sub_back : ∀ x, x < 256 → sF (sBk x) = x := by decide +kernel
theorem sub_ne : ∀ x, x < 256 → sF x ≠ x := by decide +kernel
theorem sub_inj {x y : Nat} (hx : x < 256) (hy : y < 256) : sF x = sF y ↔ x = y := ⟨fun h => by rw [← back_sub x hx, h, back_sub y hy], fun h => h ▸ rfl⟩
theorem sub_once {x y : Nat} (hx : x < 256) (hy : y < 256) : (decide (sF x = sF y) == decide (x = y)) = true := by
  rw [decide_eq_decide.2 (sub_inj hx hy)]; exact beq_self_eq_true _
/-- A word, byte by byte. -/
def sW (w : Nat) : Nat := ((sF (w / 16777216 % 256) * 16777216 % 4294967296 ||| sF (w / 65536 % 256) * 65536 % 4294967296) ||| sF (w / 256 % 256) * 256 % 4294967296) ||| sF (w % 256)
def wN (w : Nat) : Nat → Nat
  | 0 => 0
  | i + 1 => (256 * wN w i % 4294967296 + sF (w / 2 ^ (24 - 8 * i) % 256)) % 4294967296
theorem wN_lt (w i : Nat) : wN w i < 4294967296 := by
  cases i with
  | zero => exact (by decide : (0 : Nat) < 4294967296)
  | succ i => exact Nat.mod_lt _ (by decide)
theorem or_add {a b : Nat} (n : Nat) (hb : b < 2 ^ n) : a * 2 ^ n ||| b = a * 2 ^ n + b := by
  rw [Nat.mul_comm]; exact (Nat.two_pow_add_eq_or_of_lt hb a).symm
theorem sW_eq (w : Nat) : sW w = ((sF (w / 16777216 % 256) * 256 + sF (w / 65536 % 256)) * 256 + sF (w / 256 % 256)) * 256 + sF (w % 256) := by
  have h1 := sF_lt (w / 16777216 % 256)
  have h2 := sF_lt (w / 65536 % 256)
  have h3 := sF_lt (w / 256 % 256)
  have h4 := sF_lt (w % 256)
  unfold sW
  generalize sF (w / 16777216 % 256) = a at *
  generalize sF (w / 65536 % 256) = b at *
  generalize sF (w / 256 % 256) = c at *
  generalize sF (w % 256) = d at *
  rw [Nat.mod_eq_of_lt (by omega : a * 16777216 < 4294967296), Nat.mod_eq_of_lt (by omega : b * 65536 < 4294967296), Nat.mod_eq_of_lt (by omega : c * 256 < 4294967296)]
  rw [show a * 16777216 = a * 2 ^ 24 from rfl, or_add 24 (by omega : b * 65536 < 2 ^ 24), show a * 2 ^ 24 + b * 65536 = (a * 256 + b) * 2 ^ 16 by omega, or_add 16 (by omega : c * 256 < 2 ^ 16),
    show (a * 256 + b) * 2 ^ 16 + c * 256 = ((a * 256 + b) * 256 + c) * 2 ^ 8 by omega, or_add 8 (by omega : d < 2 ^ 8)]
theorem wN_all {w : Nat} (hw : w < 4294967296) : wN w 4 = sW w := by
  rw [sW_eq]
  have h1 := sF_lt (w / 16777216 % 256)
  have h2 := sF_lt (w / 65536 % 256)
  have h3 := sF_lt (w / 256 % 256)
  have h4 := sF_lt (w % 256)
  simp only [wN, Nat.mul_zero, Nat.sub_zero, Nat.mul_one, Nat.reduceMul, Nat.reduceSub, Nat.reducePow, Nat.div_one, Nat.zero_add]
  omega
theorem sW_lt (w : Nat) : sW w < 4294967296 := by
  rw [sW_eq]
  have h1 := sF_lt (w / 16777216 % 256)
  have h2 := sF_lt (w / 65536 % 256)
  have h3 := sF_lt (w / 256 % 256)
  have h4 := sF_lt (w % 256)
  omega
/-- The document's way: bit by bit. -/
def nI (v i : Nat) : Nat → Nat
  | 0 => 99 / 2 ^ i
  | k + 1 => (nI v i k + v / 2 ^ (if k = 0 then i else (i + 3 + k) % 8) % 2) % 256
theorem nI_lt (v i k : Nat) : nI v i k < 256 := by
  cases k with
  | zero => exact Nat.lt_of_le_of_lt (Nat.div_le_self _ _) (by decide)
  | succ k => exact Nat.mod_lt _ (by decide)
def afN (v : Nat) : Nat → Nat
  | 0 => 0
  | i + 1 => if nI v i 5 % 2 = 1 then (afN v i + 1 * 2 ^ i % 256) % 256 else afN v i
theorem afN_lt (v i : Nat) : afN v i < 256 := by
  induction i with
  | zero => exact (by decide : (0 : Nat) < 256)
  | succ i ih => unfold afN; split; exact Nat.mod_lt _ (by decide); exact ih
theorem af_yes {v i : Nat} (h : nI v i 5 % 2 = 1) : (afN v i + 1 * 2 ^ i % 256) % 256 = afN v (i + 1) := (if_pos h).symm
theorem af_no {v i : Nat} (h : ¬ nI v i 5 % 2 = 1) : afN v i = afN v (i + 1) := (if_neg h).symm
theorem nI_one {v i k : Nat} (h : k = 0) : (nI v i k + v / 2 ^ i % 2) % 256 = nI v i (k + 1) := by subst h; rfl
theorem nI_more {v i k : Nat} (h : k ≠ 0) : (nI v i k + v / 2 ^ ((i + 3 + k) % 8) % 2) % 256 = nI v i (k + 1) := by
  show _ = (nI v i k + v / 2 ^ (if k = 0 then i else (i + 3 + k) % 8) % 2) % 256; rw [if_neg h]
theorem afN_all : ∀ v, v < 256 → afN v 8 = rotA v := by decide +kernel
def qS (q : Nat) : Nat :=
  let a := q ^^^ (q * 2 % 256); let b := a ^^^ (a * 4 % 256); let c := b ^^^ (b * 16 % 256); if c ≥ 128 then c ^^^ 9 else c
def qN : Nat → Nat
  | 0 => 1
  | n + 1 => qS (qN n)
theorem qS_lt : ∀ q, q < 256 → qS q < 256 := by decide +kernel
theorem qN_lt (n : Nat) : qN n < 256 := by
  induction n with
  | zero => decide
  | succ n ih => exact qS_lt _ ih
def rtab : Nat → List Nat
  | 0 => (List.replicate 256 0).set 0 99
  | n + 1 => (rtab n).set (gexp n) (rotA (qN n))
theorem rtab_all : rtab 255 = SLit := by decide +kernel
theorem rtab_length (n : Nat) : (rtab n).length = 256 := by
  induction n with
  | zero => exact (List.length_set ..).trans List.length_replicate
  | succ n ih => unfold rtab; rw [List.length_set, ih]
theorem rtab_lt (n : Nat) : ∀ m ∈ rtab n, m < 256 := by
  induction n with
  | zero => decide +kernel
  | succ n ih =>
    intro m hm; unfold rtab at hm
    rcases List.mem_or_eq_of_mem_set hm with h | h
    · exact ih m h
    · rw [h]; exact rotA_lt _ (qN_lt n)
theorem tw_hi2 : ∀ a, a < 256 → a ≥ 128 → (a * 2 % 256) ^^^ 27 = tw a := by decide +kernel
theorem tw_lo2 : ∀ a, a < 256 → ¬ a ≥ 128 → a * 2 % 256 = tw a := by decide +kernel
end Go.Proofs.YtjbdimfpjbmggaaGreatDoor.Gm
namespace Go.Proofs.YtjbdimfpjbmggaaGreatDoor
open Go.RowKit Gm
theorem rtab_by (n : Nat) : By 256 (rtab n) := ⟨rtab_length n, rtab_lt n⟩
theorem SLit_by : By 256 SLit := rtab_all ▸ rtab_by 255
abbrev SZ : List Value := tabR (stab 0) (btab 0)
abbrev SB : List Value := tabR SLit BLit
/-- A box, built or not. -/
def Sx (w : World) (b : Nat) : Prop := Bk w b (OnceL 0 0 SZ) 184 ∨ Bk w b (OnceL 1 0 SB) 184
section
variable {w w' : World} {b : Nat} {S : Nat → Prop}
theorem Sx.kept (h : Sx w b) (k : Kp S w w') (hn : ¬ S b) : Sx w' b := h.imp (fun h => h.kept k hn) (fun h => h.kept k hn)
theorem Sx.no (h : Sx w b) (k : Kp No w w') : Sx w' b := h.kept k (fun f => f)
theorem Sx.on (h : Sx w b) {q : Nat} (k : Kp (On q) w w') (hn : b ≠ q) : Sx w' b := h.kept k hn
theorem Sx.lt (h : Sx w b) : b < w.heap.size := h.elim Bk.lt Bk.lt
theorem Sx.draw (h : Sx w b) : Sx w.drew b := h
theorem Sx.of_new (h : Bk w b (OnceL 0 0 SZ) 184) : Sx w b := .inl h
theorem Sx.built (h : Bk w b (OnceL 1 0 SB) 184) : Sx w b := .inr h
end
end Go.Proofs.YtjbdimfpjbmggaaGreatDoor
