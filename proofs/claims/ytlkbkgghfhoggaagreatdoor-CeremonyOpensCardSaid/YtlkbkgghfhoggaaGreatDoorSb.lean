/- The S box: its tables, and the document's way to them. Nothing of Go's memory. -/
import Derived.Test.YtlkbkgghfhoggaaGreatDoorOn
import Derived.Test.YtlkbkgghfhoggaaGreatDoorGm
section
set_option linter.unusedVariables false
namespace Go.Proofs.YtlkbkgghfhoggaaGreatDoor
def arr (n : Nat) (f : Nat → Nat) : List Nat := (List.range n).map f
def upto (f g : Nat → Nat) (k n : Nat) : List Nat := arr n (fun i => if i < k then f i else g i)
theorem arr_length (n : Nat) (f : Nat → Nat) : (arr n f).length = n := by simp [arr]
theorem arr_get {n : Nat} (f : Nat → Nat) {i : Nat} (h : i < n) : (arr n f)[i]? = some (f i) := by simp [arr, List.getElem?_map, List.getElem?_range h]
theorem arr_get' {n : Nat} {f : Nat → Nat} {i v : Nat} (h : (arr n f)[i]? = some v) : i < n ∧ v = f i := by
  have h1 := (List.getElem?_eq_some_iff.1 h).1
  rw [arr_length] at h1
  rw [arr_get f h1] at h
  exact ⟨h1, (Option.some.inj h).symm⟩
theorem arr_of {n : Nat} {x : List Nat} (h : x.length = n) : arr n (fun i => x.getD i 0) = x := by
  apply List.ext_getElem?
  intro i
  by_cases hi : i < n
  · rw [arr_get _ hi, List.getD_eq_getElem?_getD, List.getElem?_eq_getElem (by omega)]; rfl
  · rw [List.getElem?_eq_none (by rw [arr_length]; omega), List.getElem?_eq_none (by omega)]
theorem arr_ext {n : Nat} {f g : Nat → Nat} (h : ∀ i, i < n → f i = g i) : arr n f = arr n g := List.map_congr_left fun i hi => h i (List.mem_range.1 hi)
theorem arr_by {n : Nat} {f : Nat → Nat} (h : ∀ i, i < n → f i < 256) : By n (arr n f) := ⟨arr_length n f, fun v hv => by
  obtain ⟨i, hi, rfl⟩ := List.mem_map.1 hv; exact h i (List.mem_range.1 hi)⟩
theorem arr_set {n k v : Nat} (f : Nat → Nat) : (arr n f).set k v = arr n (fun i => if i = k then v else f i) := by
  apply List.ext_getElem?
  intro i
  by_cases hi : i < n
  · rw [arr_get _ hi, List.getElem?_set]
    by_cases e : k = i
    · subst e; simp [arr_length, hi]
    · have e' : ¬ i = k := fun h => e h.symm
      simp [e, e', arr_get f hi]
  · rw [List.getElem?_eq_none (by rw [List.length_set, arr_length]; omega), List.getElem?_eq_none (by rw [arr_length]; omega)]
theorem upto_zero (f g : Nat → Nat) (n : Nat) : upto f g 0 n = arr n g := arr_ext fun i _ => by simp
theorem upto_all (f g : Nat → Nat) {n k : Nat} (h : n ≤ k) : upto f g k n = arr n f := arr_ext fun i hi => by rw [if_pos (by omega)]
theorem upto_set {f g : Nat → Nat} {k n v : Nat} (h : v = f k) : (upto f g k n).set k v = upto f g (k + 1) n := by
  unfold upto
  rw [arr_set]
  refine arr_ext fun i hi => ?_
  by_cases e : i = k
  · subst e; rw [if_pos rfl, if_pos (by omega), h]
  · rw [if_neg e]
    by_cases e2 : i < k
    · rw [if_pos e2, if_pos (by omega)]
    · rw [if_neg e2, if_neg (by omega)]
theorem upto_get {f g : Nat → Nat} {k n i v : Nat} (h : (upto f g k n)[i]? = some v) : i < n ∧ v = if i < k then f i else g i := arr_get' h
theorem getD_lt {x : List Nat} (h : ∀ n ∈ x, n < 256) (i : Nat) : x.getD i 0 < 256 := by
  rw [List.getD_eq_getElem?_getD]
  cases hx : x[i]? with
  | none => decide
  | some v => exact h v (List.mem_of_getElem? hx)
theorem getD_some {x : List Nat} {i v : Nat} (h : x[i]? = some v) : x.getD i 0 = v := by rw [List.getD_eq_getElem?_getD, h]; rfl
theorem xor_lt8 {a b : Nat} (h : a < 256) (h' : b < 256) : a ^^^ b < 256 := Nat.xor_lt_two_pow (n := 8) h h'
theorem upto_by {f g : Nat → Nat} {k n : Nat} (hf : ∀ i, i < n → f i < 256) (hg : ∀ i, i < n → g i < 256) : By n (upto f g k n) := arr_by fun i hi => by split; exact hf i hi; exact hg i hi
end Go.Proofs.YtlkbkgghfhoggaaGreatDoor
end
section
set_option linter.unusedVariables false
set_option linter.unusedSimpArgs false
namespace Go.Proofs.YtlkbkgghfhoggaaGreatDoor
open Go.RowKit Gm

def tabR (e l : List Nat) : List Value := u8s e ++ u8s l
abbrev TZ : List Value := tabR (etab 0) (ltab 0)
abbrev TB : List Value := tabR ET Gm.LT
/-- A table, built or not. -/
def Tb (w : World) (b : Nat) : Prop := Bk w b (OnceL 0 0 TZ) 74 ∨ Bk w b (OnceL 1 0 TB) 74
section
variable {w w' : World} {b : Nat} {S : Nat → Prop}
theorem Tb.kept (h : Tb w b) (k : Kp S w w') (hn : ¬ S b) : Tb w' b := h.imp (fun h => h.kept k hn) (fun h => h.kept k hn)
theorem Tb.no (h : Tb w b) (k : Kp No w w') : Tb w' b := h.kept k (fun f => f)
theorem Tb.on (h : Tb w b) {q : Nat} (k : Kp (On q) w w') (hn : b ≠ q) : Tb w' b := h.kept k hn
theorem Tb.lt (h : Tb w b) : b < w.heap.size := h.elim Bk.lt Bk.lt
theorem Tb.draw (h : Tb w b) : Tb w.drew b := h
theorem Tb.of_new (h : Bk w b (OnceL 0 0 TZ) 74) : Tb w b := .inl h
theorem Tb.built (h : Bk w b (OnceL 1 0 TB) 74) : Tb w b := .inr h
end
theorem tabR_length {e l : List Nat} (he : e.length = 256) (hl : l.length = 256) (d s : Nat) : (OnceL d s (tabR e l)).length = 515 := by simp [tabR, u8s_length, he, hl]
theorem tab_setE {d s : Nat} {e l : List Nat} {i n : Nat} (hi : i < e.length) : (OnceL d s (tabR e l)).set (3 + i) (.int .u8 (n : Int)) = OnceL d s (tabR (e.set i n) l) := by
  rw [show 3 + i = i + 1 + 1 + 1 by omega]
  simp only [List.set_cons_succ, tabR]
  rw [List.set_append_left _ _ (by rw [u8s_length]; exact hi), u8s_set]
theorem tab_setL {d s : Nat} {e l : List Nat} {i n : Nat} (he : e.length = 256) : (OnceL d s (tabR e l)).set (259 + i) (.int .u8 (n : Int)) = OnceL d s (tabR e (l.set i n)) := by
  rw [show 259 + i = (256 + i) + 1 + 1 + 1 by omega]
  simp only [List.set_cons_succ, tabR]
  rw [List.set_append_right _ _ (by rw [u8s_length]; omega), u8s_length, he, show 256 + i - 256 = i by omega, u8s_set]
theorem tab_getE {d s : Nat} {e l : List Nat} {i n : Nat} (hi : e[i]? = some n) : (OnceL d s (tabR e l))[3 + i]? = some (.int .u8 (n : Int)) := by
  rw [show 3 + i = i + 1 + 1 + 1 by omega]
  simp only [List.getElem?_cons_succ, tabR]
  rw [List.getElem?_append_left (by rw [u8s_length]; exact (List.getElem?_eq_some_iff.1 hi).1)]
  exact u8s_get hi
theorem tab_getL {d s : Nat} {e l : List Nat} {i n : Nat} (he : e.length = 256) (hi : l[i]? = some n) : (OnceL d s (tabR e l))[259 + i]? = some (.int .u8 (n : Int)) := by
  rw [show 259 + i = (256 + i) + 1 + 1 + 1 by omega]
  simp only [List.getElem?_cons_succ, tabR]
  rw [List.getElem?_append_right (by rw [u8s_length]; omega), u8s_length, he, show 256 + i - 256 = i by omega]
  exact u8s_get hi
theorem tw_hi' : ∀ a, a < 256 → ¬ (a &&& 128 = 0) → (a * 2 % 256) ^^^ 27 = tw a := by decide +kernel
theorem tw_lo' : ∀ a, a < 256 → a &&& 128 = 0 → a * 2 % 256 = tw a := by decide +kernel
abbrev errE (n : Nat) : Value := .iface 76 (.int .i64 (n : Int))
end Go.Proofs.YtlkbkgghfhoggaaGreatDoor
end
section
set_option linter.unusedVariables false
set_option linter.unusedSimpArgs false
namespace Go.Proofs.YtlkbkgghfhoggaaGreatDoor.Gm
def rotA (v : Nat) : Nat := ((((v ^^^ (v * 2 % 256 ||| v / 128)) ^^^ (v * 4 % 256 ||| v / 64)) ^^^ (v * 8 % 256 ||| v / 32)) ^^^ (v * 16 % 256 ||| v / 16)) ^^^ 99
/-- What stands for a byte. -/
def sF (x : Nat) : Nat := rotA (iv x)
def SLit : List Nat := [99, 124, 119, 123, 242, 107, 111, 197, 48, 1, 103, 43, 254, 215, 171, 118, 202, 130, 201, 125, 250, 89, 71, 240, 173, 212, 162, 175, 156, 164, 114, 192, 183, 253, 147, 38, 54, 63, 247, 204, 52, 165, 229, 241, 113, 216, 49, 21, 4, 199, 35, 195, 24, 150, 5, 154, 7, 18, 128, 226, 235, 39, 178, 117, 9, 131, 44, 26, 27, 110, 90, 160, 82, 59, 214, 179, 41, 227, 47, 132, 83, 209, 0, 237, 32, 252, 177, 91, 106, 203, 190, 57, 74, 76, 88, 207, 208, 239, 170, 251, 67, 77, 51, 133, 69, 249, 2, 127, 80, 60, 159, 168, 81, 163, 64, 143, 146, 157, 56, 245, 188, 182, 218, 33, 16, 255, 243, 210, 205, 12, 19, 236, 95, 151, 68, 23, 196, 167, 126, 61, 100, 93, 25, 115, 96, 129, 79, 220, 34, 42, 144, 136, 70, 238, 184, 20, 222, 94, 11, 219, 224, 50, 58, 10, 73, 6, 36, 92, 194, 211, 172, 98, 145, 149, 228, 121, 231, 200, 55, 109, 141, 213, 78, 169, 108, 86, 244, 234, 101, 122, 174, 8, 186, 120, 37, 46, 28, 166, 180, 198, 232, 221, 116, 31, 75, 189, 139, 138, 112, 62, 181, 102, 72, 3, 246, 14, 97, 53, 87, 185, 134, 193, 29, 158, 225, 248, 152, 17, 105, 217, 142, 148, 155, 30, 135, 233, 206, 85, 40, 223, 140, 161, 137, 13, 191, 230, 66, 104, 65, 153, 45, 15, 176, 84, 187, 22]
def BLit : List Nat := [82, 9, 106, 213, 48, 54, 165, 56, 191, 64, 163, 158, 129, 243, 215, 251, 124, 227, 57, 130, 155, 47, 255, 135, 52, 142, 67, 68, 196, 222, 233, 203, 84, 123, 148, 50, 166, 194, 35, 61, 238, 76, 149, 11, 66, 250, 195, 78, 8, 46, 161, 102, 40, 217, 36, 178, 118, 91, 162, 73, 109, 139, 209, 37, 114, 248, 246, 100, 134, 104, 152, 22, 212, 164, 92, 204, 93, 101, 182, 146, 108, 112, 72, 80, 253, 237, 185, 218, 94, 21, 70, 87, 167, 141, 157, 132, 144, 216, 171, 0, 140, 188, 211, 10, 247, 228, 88, 5, 184, 179, 69, 6, 208, 44, 30, 143, 202, 63, 15, 2, 193, 175, 189, 3, 1, 19, 138, 107, 58, 145, 17, 65, 79, 103, 220, 234, 151, 242, 207, 206, 240, 180, 230, 115, 150, 172, 116, 34, 231, 173, 53, 133, 226, 249, 55, 232, 28, 117, 223, 110, 71, 241, 26, 113, 29, 41, 197, 137, 111, 183, 98, 14, 170, 24, 190, 27, 252, 86, 62, 75, 198, 210, 121, 32, 154, 219, 192, 254, 120, 205, 90, 244, 31, 221, 168, 51, 136, 7, 199, 49, 177, 18, 16, 89, 39, 128, 236, 95, 96, 81, 127, 169, 25, 181, 74, 13, 45, 229, 122, 159, 147, 201, 156, 239, 160, 224, 59, 77, 174, 42, 245, 176, 200, 235, 187, 60, 131, 83, 153, 97, 23, 43, 4, 126, 186, 119, 214, 38, 225, 105, 20, 99, 85, 33, 12, 125]
def stab : Nat → List Nat
  | 0 => List.replicate 256 0
  | n + 1 => (stab n).set n (sF n)
def btab : Nat → List Nat
  | 0 => List.replicate 256 0
  | n + 1 => (btab n).set (sF n) n
theorem stab_length (n : Nat) : (stab n).length = 256 := by
  induction n with
  | zero => exact List.length_replicate
  | succ n ih => unfold stab; rw [List.length_set, ih]
theorem btab_length (n : Nat) : (btab n).length = 256 := by
  induction n with
  | zero => exact List.length_replicate
  | succ n ih => unfold btab; rw [List.length_set, ih]
theorem rotA_lt : ∀ v, v < 256 → rotA v < 256 := by decide +kernel
theorem sF_lt (x : Nat) : sF x < 256 := rotA_lt _ (iv_lt x)
theorem stab_all : stab 256 = SLit := by decide +kernel
theorem btab_all : btab 256 = BLit := by decide +kernel
theorem SLit_get : ∀ x, x < 256 → SLit[x]? = some (sF x) := by decide +kernel
/-- A word, byte by byte. -/
def sW (w : Nat) : Nat := ((sF (w / 16777216 % 256) * 16777216 % 4294967296 ||| sF (w / 65536 % 256) * 65536 % 4294967296) ||| sF (w / 256 % 256) * 256 % 4294967296) ||| sF (w % 256)
theorem or_add {a b : Nat} (n : Nat) (hb : b < 2 ^ n) : a * 2 ^ n ||| b = a * 2 ^ n + b := by
  rw [Nat.mul_comm]; exact (Nat.two_pow_add_eq_or_of_lt hb a).symm
theorem sW_eq (w : Nat) : sW w = ((sF (w / 16777216 % 256) * 256 + sF (w / 65536 % 256)) * 256 + sF (w / 256 % 256)) * 256 + sF (w % 256) := by
  have h1 := sF_lt (w / 16777216 % 256)
  have h2 := sF_lt (w / 65536 % 256)
  have h3 := sF_lt (w / 256 % 256)
  have h4 := sF_lt (w % 256)
  unfold sW
  generalize sF (w / 16777216 % 256) = a at *
  generalize sF (w / 65536 % 256) = b at *
  generalize sF (w / 256 % 256) = c at *
  generalize sF (w % 256) = d at *
  rw [Nat.mod_eq_of_lt (by omega : a * 16777216 < 4294967296), Nat.mod_eq_of_lt (by omega : b * 65536 < 4294967296), Nat.mod_eq_of_lt (by omega : c * 256 < 4294967296)]
  rw [show a * 16777216 = a * 2 ^ 24 from rfl, or_add 24 (by omega : b * 65536 < 2 ^ 24), show a * 2 ^ 24 + b * 65536 = (a * 256 + b) * 2 ^ 16 by omega, or_add 16 (by omega : c * 256 < 2 ^ 16),
    show (a * 256 + b) * 2 ^ 16 + c * 256 = ((a * 256 + b) * 256 + c) * 2 ^ 8 by omega, or_add 8 (by omega : d < 2 ^ 8)]
theorem sW_lt (w : Nat) : sW w < 4294967296 := by
  rw [sW_eq]
  have h1 := sF_lt (w / 16777216 % 256)
  have h2 := sF_lt (w / 65536 % 256)
  have h3 := sF_lt (w / 256 % 256)
  have h4 := sF_lt (w % 256)
  omega
end Go.Proofs.YtlkbkgghfhoggaaGreatDoor.Gm
namespace Go.Proofs.YtlkbkgghfhoggaaGreatDoor
open Go.RowKit Gm
abbrev SZ : List Value := tabR (stab 0) (btab 0)
abbrev SB : List Value := tabR SLit BLit
/-- A box, built or not. -/
def Sx (w : World) (b : Nat) : Prop := Bk w b (OnceL 0 0 SZ) 199 ∨ Bk w b (OnceL 1 0 SB) 199
section
variable {w w' : World} {b : Nat} {S : Nat → Prop}
theorem Sx.kept (h : Sx w b) (k : Kp S w w') (hn : ¬ S b) : Sx w' b := h.imp (fun h => h.kept k hn) (fun h => h.kept k hn)
theorem Sx.no (h : Sx w b) (k : Kp No w w') : Sx w' b := h.kept k (fun f => f)
theorem Sx.on (h : Sx w b) {q : Nat} (k : Kp (On q) w w') (hn : b ≠ q) : Sx w' b := h.kept k hn
theorem Sx.lt (h : Sx w b) : b < w.heap.size := h.elim Bk.lt Bk.lt
theorem Sx.draw (h : Sx w b) : Sx w.drew b := h
theorem Sx.of_new (h : Bk w b (OnceL 0 0 SZ) 199) : Sx w b := .inl h
theorem Sx.built (h : Bk w b (OnceL 1 0 SB) 199) : Sx w b := .inr h
end
end Go.Proofs.YtlkbkgghfhoggaaGreatDoor
end
