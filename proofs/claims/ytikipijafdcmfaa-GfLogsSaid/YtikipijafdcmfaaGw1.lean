/- Walks: gf's table in memory; its small functions; how it is built. -/
import Derived.Test.YtikipijafdcmfaaGm
import Derived.Test.YtikipijafdcmfaaLb
set_option linter.unusedVariables false
set_option linter.unusedSimpArgs false
namespace Go.Proofs.Ytikipijafdcmfaa
open Go.RowKit Gm

/-! ### a table's cells -/
def tabC (d s : Nat) (e l : List Nat) : Array Value := (Value.int .u32 (d : Int) :: .int .i32 (s : Int) :: .int .u32 0 :: (u8s e ++ u8s l)).toArray
def TabAt (w : World) (b d s : Nat) (e l : List Nat) : Prop := w.heap[b]? = some (.cells (tabC d s e l) 64 (0, 0))
section
variable {w : World} {b d s : Nat} {e l : List Nat}
theorem tab_done (h : TabAt w b d s e l) : w.cell? ⟨b, 0, none⟩ = some (.int .u32 (d : Int)) := cell_at h rfl
theorem tab_state (h : TabAt w b d s e l) : w.cell? ⟨b, 1, none⟩ = some (.int .i32 (s : Int)) := cell_at h rfl
theorem tab_sema (h : TabAt w b d s e l) : w.cell? ⟨b, 2, none⟩ = some (.int .u32 0) := cell_at h rfl
theorem tab_exp (h : TabAt w b d s e l) {i n : Nat} (hi : e[i]? = some n) : w.cell? ⟨b, 3 + i, none⟩ = some (.int .u8 (n : Int)) := by
  refine cell_at h ?_
  have hl : i < e.length := (List.getElem?_eq_some_iff.1 hi).1
  show (Value.int .u32 (d : Int) :: .int .i32 (s : Int) :: .int .u32 0 :: (u8s e ++ u8s l)).toArray[3 + i]? = _
  rw [List.getElem?_toArray, show 3 + i = i + 1 + 1 + 1 by omega, List.getElem?_cons_succ, List.getElem?_cons_succ, List.getElem?_cons_succ, List.getElem?_append_left (by rw [u8s_length]; exact hl)]
  exact u8s_get hi
theorem tab_log (h : TabAt w b d s e l) (he : e.length = 256) {i n : Nat} (hi : l[i]? = some n) : w.cell? ⟨b, 259 + i, none⟩ = some (.int .u8 (n : Int)) := by
  refine cell_at h ?_
  show (Value.int .u32 (d : Int) :: .int .i32 (s : Int) :: .int .u32 0 :: (u8s e ++ u8s l)).toArray[259 + i]? = _
  rw [List.getElem?_toArray, show 259 + i = (256 + i) + 1 + 1 + 1 by omega, List.getElem?_cons_succ, List.getElem?_cons_succ, List.getElem?_cons_succ, List.getElem?_append_right (by rw [u8s_length]; omega), u8s_length, he, show 256 + i - 256 = i by omega]
  exact u8s_get hi
theorem tab_setExp (h : TabAt w b d s e l) {i n : Nat} (hi : i < e.length) : TabAt (w.setCell ⟨b, 3 + i, none⟩ (.int .u8 (n : Int))) b d s (e.set i n) l := by
  unfold TabAt
  rw [set_at h]
  simp only [tabC, List.setIfInBounds_toArray, ← u8s_set, show 3 + i = i + 1 + 1 + 1 by omega, List.set_cons_succ]
  rw [List.set_append_left _ _ (by rw [u8s_length]; exact hi)]
theorem tab_setLog (h : TabAt w b d s e l) (he : e.length = 256) {i n : Nat} : TabAt (w.setCell ⟨b, 259 + i, none⟩ (.int .u8 (n : Int))) b d s e (l.set i n) := by
  unfold TabAt
  rw [set_at h]
  simp only [tabC, List.setIfInBounds_toArray, ← u8s_set, show 259 + i = (256 + i) + 1 + 1 + 1 by omega, List.set_cons_succ]
  rw [List.set_append_right _ _ (by rw [u8s_length]; omega), u8s_length, he, show 256 + i - 256 = i by omega]
theorem tab_setDone (h : TabAt w b d s e l) (n : Nat) : TabAt (w.setCell ⟨b, 0, none⟩ (.int .u32 (n : Int))) b n s e l := by
  unfold TabAt
  rw [set_at h]
  simp [tabC]
theorem tab_setState (h : TabAt w b d s e l) (n : Nat) : TabAt (w.setCell ⟨b, 1, none⟩ (.int .i32 (n : Int))) b d n e l := by
  unfold TabAt
  rw [set_at h]
  simp [tabC]
theorem tab_free (h : TabAt w b d s e l) (i : Nat) : w.frozen? ⟨b, i, none⟩ = false := free_at h i
theorem tab_lt (h : TabAt w b d s e l) : b < w.heap.size := lt_of_block h
end

/-! ### the small functions -/
set_option maxHeartbeats 400000 in
theorem gf_Add (a b : Nat) (ha : a < 256) (hb : b < 256) (w : World) :
    Calls Try.prog 17 #[.int .u8 (a : Int), .int .u8 (b : Int)] w fun e w' => e = .returned (.int .u8 ((a ^^^ b : Nat) : Int)) ∧ w = w' := by
  go_enter Try.func17, Try.ntmps17
  go_wp2
  go_ret
  exact ⟨retI (u8_xor_nat a b ha hb), rfl⟩

theorem and128 : ∀ a, a < 256 → (bits .and .u8 ((a : Nat) : Int) 128 != 0) = decide (128 ≤ a) := by decide +kernel
theorem tw_hi : ∀ a, a < 256 → 128 ≤ a → bits .xor .u8 (((a : Nat) : Int) * 2 % 256) 27 = ((tw a : Nat) : Int) := by decide +kernel
theorem tw_lo : ∀ a, a < 256 → ¬ 128 ≤ a → ((a : Nat) : Int) * 2 = ((tw a : Nat) : Int) := by decide +kernel
set_option maxHeartbeats 400000 in
theorem gf_twice (a : Nat) (ha : a < 256) (w : World) :
    Calls Try.prog 28 #[.int .u8 (a : Int)] w fun e w' => e = .returned (.int .u8 ((tw a : Nat) : Int)) ∧ w = w' := by
  by_cases h : 128 ≤ a
  · have hb : (bits .and .u8 (a : Int) 128 != 0) = true := by rw [and128 a ha]; exact decide_eq_true h
    have he := Lib.hid (tw_hi a ha h)
    clear ha
    go_enter Try.func28, Try.ntmps28
    go_wp2
    go_ret
    exact ⟨retI he.out, rfl⟩
  · have hb : (bits .and .u8 (a : Int) 128 != 0) = false := by rw [and128 a ha]; exact decide_eq_false h
    have he := Lib.hid (tw_lo a ha h)
    clear ha
    go_enter Try.func28, Try.ntmps28
    go_wp2
    go_ret
    exact ⟨retI he.out, rfl⟩

set_option maxHeartbeats 400000 in
theorem gf_power (b n r d s : Nat) (e l : List Nat) (w : World) (hn : n < 100000) (h : TabAt w b d s e l) (hr : e[n % 255]? = some r) :
    Calls Try.prog 25 #[.pointer (some ⟨b, 0, none⟩), .int .i64 (n : Int)] w fun e w' => e = .returned (.int .u8 (r : Int)) ∧ w = w' := by
  have hc := tab_exp h hr
  clear h
  go_enter Try.func25, Try.ntmps25
  go_wp2
  go_ret
  exact ⟨rfl, rfl⟩

/-! ### how it is built -/
set_option maxHeartbeats 800000 in
set_option maxRecDepth 100000 in
theorem gf_build (b d s : Nat) (w : World) (h : TabAt w b d s (etab 0) (ltab 0)) :
    Calls Try.prog 24 #[.pointer (some ⟨b, 0, none⟩)] w fun e w' => e = .returned (.tuple #[]) ∧ TabAt w' b d s ET Gm.LT ∧ Kp (On b) w w' := by
  go_enter Try.func24, Try.ntmps24
  go_wp2
  go_loopw [2, 4] (fun v i wr => ∃ k : Nat, k ≤ 255 ∧ i = .int .i64 (k : Int) ∧ v = .int .u8 ((gexp k : Nat) : Int) ∧ TabAt wr b d s (etab k) (ltab k) ∧ Kp (On b) w wr) (fun _ i _ => 255 - (intOf i).toNat)
  case atStart => exact ⟨0, by omega, rfl, rfl, h, Kp.refl _ _⟩
  case round =>
    obtain ⟨k, hk, rfl, rfl, HT, hg⟩ := hrel
    by_cases hlt : k < 255
    · have hlt' : ((k : Int) < 255) := by omega
      obtain ⟨x0, hx0⟩ : ∃ x, (etab k)[k]? = some x := ⟨_, List.getElem?_eq_getElem (by rw [etab_length]; omega)⟩
      have hgl := gexp_lt k
      obtain ⟨y0, hy0⟩ : ∃ y, (ltab k)[gexp k]? = some y := ⟨_, List.getElem?_eq_getElem (by rw [ltab_length]; exact hgl)⟩
      have c1 := tab_exp HT hx0
      have f1 := tab_free HT (3 + k)
      have HT1 := tab_setExp HT (i := k) (n := gexp k) (by rw [etab_length]; omega)
      have c2 := tab_log HT1 (by rw [List.length_set, etab_length]) hy0
      have f2 := tab_free HT1 (259 + gexp k)
      have hTT := Lib.hid (tab_setLog HT1 (by rw [List.length_set, etab_length]) (i := gexp k) (n := k))
      have hGG := Lib.hid ((hg.setOn (3 + k) (.int .u8 ((gexp k : Nat) : Int))).setOn (259 + gexp k) (.int .u8 (k : Int)))
      have hX := Lib.hid (u8_xor_nat _ _ hgl (tw_lt hgl))
      clear HT HT1 hg hx0 hy0
      go_wp2_with (go_at_call 28; refine (gf_twice (gexp k) hgl _).mono ?_; rintro e w' ⟨rfl, rfl⟩)
      go_roundw
      case rel => exact ⟨k + 1, by omega, by go_num, valI hX.out, hTT.out, hGG.out⟩
      case measure => simp [intOf]; omega
    · obtain rfl : k = 255 := by omega
      obtain ⟨x0, hx0⟩ : ∃ x, (etab 255)[255]? = some x := ⟨_, List.getElem?_eq_getElem (by rw [etab_length]; omega)⟩
      have c1 : wr.cell? ⟨b, 258, none⟩ = some (.int .u8 (x0 : Int)) := tab_exp HT hx0
      have f1 : wr.frozen? ⟨b, 258, none⟩ = false := tab_free HT 258
      have hTT := Lib.hid (tab_setExp HT (i := 255) (n := 1) (by rw [etab_length]; omega))
      have hGG := Lib.hid (hg.setOn 258 (.int .u8 1))
      clear HT hg hx0
      go_wp2
      go_end0
      exact ⟨rfl, hTT.out, hGG.out⟩
end Go.Proofs.Ytikipijafdcmfaa
