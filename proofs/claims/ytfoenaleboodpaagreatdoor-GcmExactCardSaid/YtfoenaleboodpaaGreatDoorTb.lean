/- gf's table as a block: not built yet, or built. -/
import Derived.Test.YtfoenaleboodpaaGreatDoorOn
import Derived.Test.YtfoenaleboodpaaGreatDoorAr
import Derived.Test.YtfoenaleboodpaaGreatDoorGm
set_option linter.unusedVariables false
set_option linter.unusedSimpArgs false
namespace Go.Proofs.YtfoenaleboodpaaGreatDoor
open Go.RowKit Gm

def tabR (e l : List Nat) : List Value := u8s e ++ u8s l
abbrev TZ : List Value := tabR (etab 0) (ltab 0)
abbrev TB : List Value := tabR ET Gm.LT
/-- A table, built or not. -/
def Tb (w : World) (b : Nat) : Prop := Bk w b (OnceL 0 0 TZ) 151 ∨ Bk w b (OnceL 1 0 TB) 151
section
variable {w w' : World} {b : Nat} {S : Nat → Prop}
theorem Tb.kept (h : Tb w b) (k : Kp S w w') (hn : ¬ S b) : Tb w' b := h.imp (fun h => h.kept k hn) (fun h => h.kept k hn)
theorem Tb.no (h : Tb w b) (k : Kp No w w') : Tb w' b := h.kept k (fun f => f)
theorem Tb.on (h : Tb w b) {q : Nat} (k : Kp (On q) w w') (hn : b ≠ q) : Tb w' b := h.kept k hn
theorem Tb.lt (h : Tb w b) : b < w.heap.size := h.elim Bk.lt Bk.lt
theorem Tb.draw (h : Tb w b) : Tb w.drew b := h
theorem Tb.of_new (h : Bk w b (OnceL 0 0 TZ) 151) : Tb w b := .inl h
theorem Tb.built (h : Bk w b (OnceL 1 0 TB) 151) : Tb w b := .inr h
end
theorem tabR_length {e l : List Nat} (he : e.length = 256) (hl : l.length = 256) (d s : Nat) : (OnceL d s (tabR e l)).length = 515 := by simp [tabR, u8s_length, he, hl]
theorem tab_setE {d s : Nat} {e l : List Nat} {i n : Nat} (hi : i < e.length) : (OnceL d s (tabR e l)).set (3 + i) (.int .u8 (n : Int)) = OnceL d s (tabR (e.set i n) l) := by
  rw [show 3 + i = i + 1 + 1 + 1 by omega]
  simp only [List.set_cons_succ, tabR]
  rw [List.set_append_left _ _ (by rw [u8s_length]; exact hi), u8s_set]
theorem tab_setL {d s : Nat} {e l : List Nat} {i n : Nat} (he : e.length = 256) : (OnceL d s (tabR e l)).set (259 + i) (.int .u8 (n : Int)) = OnceL d s (tabR e (l.set i n)) := by
  rw [show 259 + i = (256 + i) + 1 + 1 + 1 by omega]
  simp only [List.set_cons_succ, tabR]
  rw [List.set_append_right _ _ (by rw [u8s_length]; omega), u8s_length, he, show 256 + i - 256 = i by omega, u8s_set]
theorem tab_getE {d s : Nat} {e l : List Nat} {i n : Nat} (hi : e[i]? = some n) : (OnceL d s (tabR e l))[3 + i]? = some (.int .u8 (n : Int)) := by
  rw [show 3 + i = i + 1 + 1 + 1 by omega]
  simp only [List.getElem?_cons_succ, tabR]
  rw [List.getElem?_append_left (by rw [u8s_length]; exact (List.getElem?_eq_some_iff.1 hi).1)]
  exact u8s_get hi
theorem tab_getL {d s : Nat} {e l : List Nat} {i n : Nat} (he : e.length = 256) (hi : l[i]? = some n) : (OnceL d s (tabR e l))[259 + i]? = some (.int .u8 (n : Int)) := by
  rw [show 259 + i = (256 + i) + 1 + 1 + 1 by omega]
  simp only [List.getElem?_cons_succ, tabR]
  rw [List.getElem?_append_right (by rw [u8s_length]; omega), u8s_length, he, show 256 + i - 256 = i by omega]
  exact u8s_get hi
theorem tab_one {d s : Nat} {e l : List Nat} : ∀ u ∈ OnceL d s (tabR e l), u.oneCell' = true := by
  intro u hu
  simp only [List.mem_cons, tabR, List.mem_append] at hu
  rcases hu with rfl | rfl | rfl | h | h
  · rfl
  · rfl
  · rfl
  · exact u8s_each _ u h
  · exact u8s_each _ u h
theorem tw_hi' : ∀ a, a < 256 → ¬ (a &&& 128 = 0) → (a * 2 % 256) ^^^ 27 = tw a := by decide +kernel
theorem tw_lo' : ∀ a, a < 256 → a &&& 128 = 0 → a * 2 % 256 = tw a := by decide +kernel
theorem gexp_succ (k : Nat) : gexp (k + 1) = gexp k ^^^ tw (gexp k) := rfl
theorem etab_succ (k : Nat) : etab (k + 1) = (etab k).set k (gexp k) := rfl
theorem ltab_succ (k : Nat) : ltab (k + 1) = (ltab k).set (gexp k) k := rfl
abbrev errE (n : Nat) : Value := .iface 48 (.int .i64 (n : Int))
end Go.Proofs.YtfoenaleboodpaaGreatDoor
