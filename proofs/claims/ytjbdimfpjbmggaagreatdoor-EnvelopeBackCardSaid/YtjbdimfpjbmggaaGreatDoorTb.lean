/- gf's table as a block: not built yet, or built. -/
import Derived.Test.YtjbdimfpjbmggaaGreatDoorLa
import Derived.Laws.LoneSync
import Derived.Defers
import Derived.RegionCalls
import Derived.Test.YtjbdimfpjbmggaaGreatDoorGm2
import Derived.Test.YtjbdimfpjbmggaaGreatDoorGm
section
set_option linter.unusedVariables false
set_option linter.unusedSimpArgs false
namespace Go.Proofs.YtjbdimfpjbmggaaGreatDoor
open Go.RowKit

theorem race_disable (w : World) : (callFunc 128 #[]).run Tryz.prog w = .ok (.value (.tuple #[])) w := run_call_mark0 Tryz.func128 (by kernel_rfl) (by kernel_rfl) (by kernel_rfl) .disable (by kernel_rfl) w
theorem race_enable (w : World) : (callFunc 130 #[]).run Tryz.prog w = .ok (.value (.tuple #[])) w := run_call_mark0 Tryz.func130 (by kernel_rfl) (by kernel_rfl) (by kernel_rfl) .enable (by kernel_rfl) w
theorem race_acquire (a : Addr) (w : World) : (callFunc 131 #[.pointer (some a)]).run Tryz.prog w = .ok (.value (.tuple #[])) w := run_call_marked Tryz.func131 (by kernel_rfl) (by kernel_rfl) (by kernel_rfl) .acquire (by kernel_rfl) a w
theorem race_releaseMerge (a : Addr) (w : World) : (callFunc 133 #[.pointer (some a)]).run Tryz.prog w = .ok (.value (.tuple #[])) w := run_call_marked Tryz.func133 (by kernel_rfl) (by kernel_rfl) (by kernel_rfl) .releaseMerge (by kernel_rfl) a w

set_option maxHeartbeats 400000 in
theorem bool_Load (a : Addr) (d : Int) (w : World) (h0 : w.cell? a = some (.int .u32 d)) :
    Calls Tryz.prog 112 #[.pointer (some a)] w fun e w' => e = .returned (.bool (d != 0)) ∧ w = w' := by
  have hl := run_call_load (P := Tryz.prog) Tryz.func117 (by kernel_rfl) (by kernel_rfl) (by kernel_rfl) .u32 (by kernel_rfl) h0
  go_enter Tryz.func112, Tryz.ntmps112
  go_wp2
  go_ret
  exact ⟨rfl, rfl⟩
set_option maxHeartbeats 400000 in
theorem store_deferred (a : Addr) (x : Value) (u : FrameMode) (w : World) (hc : w.cell? a = some x) (hz : w.frozen? a = false) :
    CallsD Tryz.prog 120 #[.pointer (some a), .bool true] u w fun e u' w' => u' = u ∧ (e = .returned (.tuple #[]) ∧ w' = w.drew.setCell a (.int .u32 1)) := by
  have hc' : w.drew.cell? a = some x := by go_simp
  have hz' : w.drew.frozen? a = false := by go_simp
  have hst := run_call_store (P := Tryz.prog) Tryz.func124 (by kernel_rfl) (by kernel_rfl) (by kernel_rfl) (by kernel_rfl) (k := .u32) (y := 1) hc' hz'
  go_enter_d Tryz.func120, Tryz.ntmps120
  go_wp2
  go_region_calls
  all_goals (go_end0; exact ⟨rfl, rfl⟩)
set_option maxRecDepth 100000 in
set_option maxHeartbeats 400000 in
theorem unlock_deferred (a : Addr) (u : FrameMode) (w : World) (hc : w.cell? a = some (.int .i32 1)) (hz : w.frozen? a = false) :
    CallsD Tryz.prog 119 #[.pointer (some a)] u w fun e u' w' => u' = u ∧ (e = .returned (.tuple #[]) ∧ w' = w.setCell a (.int .i32 0)) := by
  have hd := race_disable
  have he := race_enable
  have hr := race_releaseMerge
  have hadd := run_call_add (P := Tryz.prog) Tryz.func134 (by kernel_rfl) (by kernel_rfl) (by kernel_rfl) .i32 (by kernel_rfl) (y := -1) (s := 0) hc hz (by simp [go_sem]; rfl)
  have hcv := run_convert_to_unsafe (P := Tryz.prog) (src := 213) (dst := 99) Tryz.underlying213 Tryz.underlying99 (by kernel_rfl) hc
  go_enter_d Tryz.func119, Tryz.ntmps119
  go_wp2
  go_end0
  go_wp2
  go_end0
  exact ⟨rfl, rfl⟩
set_option maxRecDepth 100000 in
set_option maxHeartbeats 400000 in
theorem lock_free (a : Addr) (w : World) (hc : w.cell? a = some (.int .i32 0)) (hz : w.frozen? a = false) :
    Calls Tryz.prog 118 #[.pointer (some a)] w fun e w' => e = .returned (.tuple #[]) ∧ w' = w.setCell a (.int .i32 1) := by
  have hd := race_disable
  have he := race_enable
  have ha := race_acquire
  have hcas := run_call_cas_hit (P := Tryz.prog) Tryz.func129 (by kernel_rfl) (by kernel_rfl) (by kernel_rfl) .i32 (by kernel_rfl) (y := 1) hc hz
  have hc' : (w.setCell a (.int .i32 1)).cell? a = some (.int .i32 1) := World.cell?_setCell_same w a _ hc
  have hcv := run_convert_to_unsafe (P := Tryz.prog) (src := 213) (dst := 99) Tryz.underlying213 Tryz.underlying99 (by kernel_rfl) hc'
  go_enter Tryz.func118, Tryz.ntmps118
  go_wp2
  first | go_end0 | (simp only [Exit.inBlock, Exit.then]; refine bodyPost_ret (results_none rfl _ _ _) rfl ?_) | refine bodyPost_ret (results_none rfl _ _ _) rfl ?_
  go_wp2
  go_end0
  exact ⟨rfl, rfl⟩

theorem Bk.set {w : World} {p t : Nat} {L : List Value} (h : Bk w p L t) (i : Nat) (v : Value) : Bk (w.setCell ⟨p, i, none⟩ v) p (L.set i v) t := by
  have := set_at h i v
  rwa [List.setIfInBounds_toArray] at this
theorem Bk.free {w : World} {p t : Nat} {L : List Value} (h : Bk w p L t) (i : Nat) : w.frozen? ⟨p, i, none⟩ = false := free_at h i
/-- The block holds a Once (done d, state s), and R behind it. -/
abbrev OnceL (d s : Nat) (R : List Value) : List Value := .int .u32 (d : Int) :: .int .i32 (s : Int) :: .int .u32 0 :: R

set_option maxRecDepth 100000 in
set_option maxHeartbeats 1600000 in
theorem once_slow {F b t : Nat} {R R' : List Value} (w : World) (hc : callable Tryz.prog F = true) (h : Bk w b (OnceL 0 0 R) t)
    (hF : ∀ w1, Bk w1 b (OnceL 0 1 R) t → Ret Tryz.prog F #[.pointer (some ⟨b, 0, none⟩)] w1 (fun v w' => v = .tuple #[] ∧ Bk w' b (OnceL 0 1 R') t ∧ Kp (On b) w1 w')) :
    Calls Tryz.prog 113 #[.pointer (some ⟨b, 0, none⟩), .func (.func F) #[.pointer (some ⟨b, 0, none⟩)] #[]] w fun e w' => e = .returned (.tuple #[]) ∧ Bk w' b (OnceL 1 0 R') t ∧ Kp (On b) w w' := by
  have h1 : Bk (w.setCell ⟨b, 1, none⟩ (.int .i32 1)) b (OnceL 0 1 R) t := h.set 1 _
  have g1 : Kp (On b) w (w.setCell ⟨b, 1, none⟩ (.int .i32 1)) := (Kp.refl _ w).setOn 1 _
  have c1 : w.cell? ⟨b, 1, none⟩ = some (.int .i32 0) := h.cell rfl
  have f1 := h.free 1
  have hl : (w.setCell ⟨b, 1, none⟩ (.int .i32 1)).cell? ⟨b, 0, none⟩ = some (.int .u32 0) := h1.cell rfl
  have H1 := Lib.hid h1
  have G1 := Lib.hid g1
  have HF := Lib.hid hF
  have hnot : ∀ (x : Bool) (w : World), (Op.unary .not (.bool x)).run Tryz.prog w = .ok (.bool (!x)) w := fun _ _ => rfl
  have hcall : ∀ (args : Array Value) (w : World), (callFunc F args).run Tryz.prog w = .ok (.enter F args) w := fun args w => run_callFunc hc args w
  clear h h1 g1 hF hc
  go_enter_defers Tryz.func113, Tryz.ntmps113
  go_wp2_with (first | (go_at_call 118; refine (lock_free ⟨b, 1, none⟩ _ c1 f1).mono ?_; rintro e w' ⟨rfl, rfl⟩) | (go_at_call 112; refine (bool_Load ⟨b, 0, none⟩ 0 _ hl).mono ?_; rintro e w' ⟨rfl, rfl⟩))
  refine Calls.mono (HF.out _ H1.out) ?_
  rintro e w2 ⟨v, rfl, rfl, h2, g2⟩
  have H2 := Lib.hid h2
  have G2 := Lib.hid g2
  clear h2 g2
  go_wp2
  refine leaves_cons (f := 120) (args := #[.pointer (some ⟨b, 0, none⟩), .bool true]) (by simp) (by simp [go_sem]) ?_
  refine (store_deferred ⟨b, 0, none⟩ (.int .u32 0) .returning _ (H2.out.cell rfl) (H2.out.free 0)).mono ?_
  rintro e u' w'' ⟨rfl, rfl, rfl⟩
  have h3 : Bk (w2.drew.setCell ⟨b, 0, none⟩ (.int .u32 1)) b (OnceL 1 1 R') t := (H2.out.draw).set 0 _
  refine leaves_cons (f := 119) (args := #[.pointer (some ⟨b, 1, none⟩)]) (by simp [settle]) (by simp [go_sem]) ?_
  refine (unlock_deferred ⟨b, 1, none⟩ _ _ (h3.cell rfl) (h3.free 1)).mono ?_
  rintro e u' w'' ⟨rfl, rfl, rfl⟩
  have h4 := h3.set 1 (.int .i32 0)
  have g4 := ((G1.out.then_ G2.out).drew.setOn 0 (.int .u32 1)).setOn 1 (.int .i32 0)
  refine ⟨_, by simp [settle, results, Tryz.results113], rfl, h4, g4⟩

set_option maxRecDepth 100000 in
set_option maxHeartbeats 400000 in
/-- Not built yet: it is built. -/
theorem once_do {F b t : Nat} {R R' : List Value} (w : World) (hc : callable Tryz.prog F = true) (h : Bk w b (OnceL 0 0 R) t)
    (hF : ∀ w1, Bk w1 b (OnceL 0 1 R) t → Ret Tryz.prog F #[.pointer (some ⟨b, 0, none⟩)] w1 (fun v w' => v = .tuple #[] ∧ Bk w' b (OnceL 0 1 R') t ∧ Kp (On b) w1 w')) :
    Ret Tryz.prog 108 #[.pointer (some ⟨b, 0, none⟩), .func (.func F) #[.pointer (some ⟨b, 0, none⟩)] #[]] w (fun v w' => v = .tuple #[] ∧ Bk w' b (OnceL 1 0 R') t ∧ Kp (On b) w w') := by
  have hnot : ∀ (x : Bool) (w : World), (Op.unary .not (.bool x)).run Tryz.prog w = .ok (.bool (!x)) w := fun _ _ => rfl
  have c0 : w.cell? ⟨b, 0, none⟩ = some (.int .u32 0) := h.cell rfl
  have H := Lib.hid h
  have HF := Lib.hid hF
  have HC := Lib.hid hc
  clear h hF hc
  unfold Ret
  go_enter Tryz.func108, Tryz.ntmps108
  go_wp2_with (first | (go_at_call 112; refine (bool_Load ⟨b, 0, none⟩ 0 _ c0).mono ?_; rintro e w' ⟨rfl, rfl⟩) | (go_at_call 113; refine (once_slow _ HC.out H.out HF.out).mono ?_; rintro e w' ⟨rfl, h2, g2⟩))
  go_end0
  exact ⟨_, rfl, rfl, h2, g2⟩
set_option maxRecDepth 100000 in
set_option maxHeartbeats 400000 in
/-- Built: nothing happens. -/
theorem once_was {F b t : Nat} {R : List Value} (w : World) (h : Bk w b (OnceL 1 0 R) t) :
    Ret Tryz.prog 108 #[.pointer (some ⟨b, 0, none⟩), .func (.func F) #[.pointer (some ⟨b, 0, none⟩)] #[]] w (fun v w' => v = .tuple #[] ∧ Bk w' b (OnceL 1 0 R) t ∧ Kp (On b) w w') := by
  have hnot : ∀ (x : Bool) (w : World), (Op.unary .not (.bool x)).run Tryz.prog w = .ok (.bool (!x)) w := fun _ _ => rfl
  have c0 : w.cell? ⟨b, 0, none⟩ = some (.int .u32 1) := h.cell rfl
  have H := Lib.hid h
  clear h
  unfold Ret
  go_enter Tryz.func108, Tryz.ntmps108
  go_wp2_with (go_at_call 112; refine (bool_Load ⟨b, 0, none⟩ 1 _ c0).mono ?_; rintro e w' ⟨rfl, rfl⟩)
  go_end0
  exact ⟨_, rfl, rfl, H.out, Kp.refl _ _⟩
end Go.Proofs.YtjbdimfpjbmggaaGreatDoor
end
section
set_option linter.unusedVariables false
namespace Go.Proofs.YtjbdimfpjbmggaaGreatDoor
def arr (n : Nat) (f : Nat → Nat) : List Nat := (List.range n).map f
def upto (f g : Nat → Nat) (k n : Nat) : List Nat := arr n (fun i => if i < k then f i else g i)
theorem arr_length (n : Nat) (f : Nat → Nat) : (arr n f).length = n := by simp [arr]
theorem arr_get {n : Nat} (f : Nat → Nat) {i : Nat} (h : i < n) : (arr n f)[i]? = some (f i) := by simp [arr, List.getElem?_map, List.getElem?_range h]
theorem arr_get' {n : Nat} {f : Nat → Nat} {i v : Nat} (h : (arr n f)[i]? = some v) : i < n ∧ v = f i := by
  have h1 := (List.getElem?_eq_some_iff.1 h).1
  rw [arr_length] at h1
  rw [arr_get f h1] at h
  exact ⟨h1, (Option.some.inj h).symm⟩
theorem arr_of {n : Nat} {x : List Nat} (h : x.length = n) : arr n (fun i => x.getD i 0) = x := by
  apply List.ext_getElem?
  intro i
  by_cases hi : i < n
  · rw [arr_get _ hi, List.getD_eq_getElem?_getD, List.getElem?_eq_getElem (by omega)]; rfl
  · rw [List.getElem?_eq_none (by rw [arr_length]; omega), List.getElem?_eq_none (by omega)]
theorem arr_ext {n : Nat} {f g : Nat → Nat} (h : ∀ i, i < n → f i = g i) : arr n f = arr n g := List.map_congr_left fun i hi => h i (List.mem_range.1 hi)
theorem arr_by {n : Nat} {f : Nat → Nat} (h : ∀ i, i < n → f i < 256) : By n (arr n f) := ⟨arr_length n f, fun v hv => by
  obtain ⟨i, hi, rfl⟩ := List.mem_map.1 hv; exact h i (List.mem_range.1 hi)⟩
theorem arr_set {n k v : Nat} (f : Nat → Nat) : (arr n f).set k v = arr n (fun i => if i = k then v else f i) := by
  apply List.ext_getElem?
  intro i
  by_cases hi : i < n
  · rw [arr_get _ hi, List.getElem?_set]
    by_cases e : k = i
    · subst e; simp [arr_length, hi]
    · have e' : ¬ i = k := fun h => e h.symm
      simp [e, e', arr_get f hi]
  · rw [List.getElem?_eq_none (by rw [List.length_set, arr_length]; omega), List.getElem?_eq_none (by rw [arr_length]; omega)]
theorem upto_zero (f g : Nat → Nat) (n : Nat) : upto f g 0 n = arr n g := arr_ext fun i _ => by simp
theorem upto_all (f g : Nat → Nat) {n k : Nat} (h : n ≤ k) : upto f g k n = arr n f := arr_ext fun i hi => by rw [if_pos (by omega)]
theorem upto_set {f g : Nat → Nat} {k n v : Nat} (h : v = f k) : (upto f g k n).set k v = upto f g (k + 1) n := by
  unfold upto
  rw [arr_set]
  refine arr_ext fun i hi => ?_
  by_cases e : i = k
  · subst e; rw [if_pos rfl, if_pos (by omega), h]
  · rw [if_neg e]
    by_cases e2 : i < k
    · rw [if_pos e2, if_pos (by omega)]
    · rw [if_neg e2, if_neg (by omega)]
theorem upto_get {f g : Nat → Nat} {k n i v : Nat} (h : (upto f g k n)[i]? = some v) : i < n ∧ v = if i < k then f i else g i := arr_get' h
theorem getD_lt {x : List Nat} (h : ∀ n ∈ x, n < 256) (i : Nat) : x.getD i 0 < 256 := by
  rw [List.getD_eq_getElem?_getD]
  cases hx : x[i]? with
  | none => decide
  | some v => exact h v (List.mem_of_getElem? hx)
theorem getD_some {x : List Nat} {i v : Nat} (h : x[i]? = some v) : x.getD i 0 = v := by rw [List.getD_eq_getElem?_getD, h]; rfl
theorem xor_lt8 {a b : Nat} (h : a < 256) (h' : b < 256) : a ^^^ b < 256 := Nat.xor_lt_two_pow (n := 8) h h'
theorem upto_by {f g : Nat → Nat} {k n : Nat} (hf : ∀ i, i < n → f i < 256) (hg : ∀ i, i < n → g i < 256) : By n (upto f g k n) := arr_by fun i hi => by split; exact hf i hi; exact hg i hi
end Go.Proofs.YtjbdimfpjbmggaaGreatDoor
end
section
set_option linter.unusedVariables false
set_option linter.unusedSimpArgs false
namespace Go.Proofs.YtjbdimfpjbmggaaGreatDoor
open Go.RowKit Gm

def tabR (e l : List Nat) : List Value := u8s e ++ u8s l
abbrev TZ : List Value := tabR (etab 0) (ltab 0)
abbrev TB : List Value := tabR ET Gm.LT
/-- A table, built or not. -/
def Tb (w : World) (b : Nat) : Prop := Bk w b (OnceL 0 0 TZ) 207 ∨ Bk w b (OnceL 1 0 TB) 207
section
variable {w w' : World} {b : Nat} {S : Nat → Prop}
theorem Tb.kept (h : Tb w b) (k : Kp S w w') (hn : ¬ S b) : Tb w' b := h.imp (fun h => h.kept k hn) (fun h => h.kept k hn)
theorem Tb.no (h : Tb w b) (k : Kp No w w') : Tb w' b := h.kept k (fun f => f)
theorem Tb.on (h : Tb w b) {q : Nat} (k : Kp (On q) w w') (hn : b ≠ q) : Tb w' b := h.kept k hn
theorem Tb.lt (h : Tb w b) : b < w.heap.size := h.elim Bk.lt Bk.lt
theorem Tb.draw (h : Tb w b) : Tb w.drew b := h
theorem Tb.of_new (h : Bk w b (OnceL 0 0 TZ) 207) : Tb w b := .inl h
theorem Tb.built (h : Bk w b (OnceL 1 0 TB) 207) : Tb w b := .inr h
end
theorem tabR_length {e l : List Nat} (he : e.length = 256) (hl : l.length = 256) (d s : Nat) : (OnceL d s (tabR e l)).length = 515 := by simp [tabR, u8s_length, he, hl]
theorem tab_setE {d s : Nat} {e l : List Nat} {i n : Nat} (hi : i < e.length) : (OnceL d s (tabR e l)).set (3 + i) (.int .u8 (n : Int)) = OnceL d s (tabR (e.set i n) l) := by
  rw [show 3 + i = i + 1 + 1 + 1 by omega]
  simp only [List.set_cons_succ, tabR]
  rw [List.set_append_left _ _ (by rw [u8s_length]; exact hi), u8s_set]
theorem tab_setL {d s : Nat} {e l : List Nat} {i n : Nat} (he : e.length = 256) : (OnceL d s (tabR e l)).set (259 + i) (.int .u8 (n : Int)) = OnceL d s (tabR e (l.set i n)) := by
  rw [show 259 + i = (256 + i) + 1 + 1 + 1 by omega]
  simp only [List.set_cons_succ, tabR]
  rw [List.set_append_right _ _ (by rw [u8s_length]; omega), u8s_length, he, show 256 + i - 256 = i by omega, u8s_set]
theorem tab_getE {d s : Nat} {e l : List Nat} {i n : Nat} (hi : e[i]? = some n) : (OnceL d s (tabR e l))[3 + i]? = some (.int .u8 (n : Int)) := by
  rw [show 3 + i = i + 1 + 1 + 1 by omega]
  simp only [List.getElem?_cons_succ, tabR]
  rw [List.getElem?_append_left (by rw [u8s_length]; exact (List.getElem?_eq_some_iff.1 hi).1)]
  exact u8s_get hi
theorem tab_getL {d s : Nat} {e l : List Nat} {i n : Nat} (he : e.length = 256) (hi : l[i]? = some n) : (OnceL d s (tabR e l))[259 + i]? = some (.int .u8 (n : Int)) := by
  rw [show 259 + i = (256 + i) + 1 + 1 + 1 by omega]
  simp only [List.getElem?_cons_succ, tabR]
  rw [List.getElem?_append_right (by rw [u8s_length]; omega), u8s_length, he, show 256 + i - 256 = i by omega]
  exact u8s_get hi
theorem tab_one {d s : Nat} {e l : List Nat} : ∀ u ∈ OnceL d s (tabR e l), u.oneCell' = true := by
  intro u hu
  simp only [List.mem_cons, tabR, List.mem_append] at hu
  rcases hu with rfl | rfl | rfl | h | h
  · rfl
  · rfl
  · rfl
  · exact u8s_each _ u h
  · exact u8s_each _ u h
theorem tw_hi' : ∀ a, a < 256 → ¬ (a &&& 128 = 0) → (a * 2 % 256) ^^^ 27 = tw a := by decide +kernel
theorem tw_lo' : ∀ a, a < 256 → a &&& 128 = 0 → a * 2 % 256 = tw a := by decide +kernel
theorem gexp_succ (k : Nat) : gexp (k + 1) = gexp k ^^^ tw (gexp k) := rfl
theorem etab_succ (k : Nat) : etab (k + 1) = (etab k).set k (gexp k) := rfl
theorem ltab_succ (k : Nat) : ltab (k + 1) = (ltab k).set (gexp k) k := rfl
abbrev errE (n : Nat) : Value := .iface 56 (.int .i64 (n : Int))
end Go.Proofs.YtjbdimfpjbmggaaGreatDoor
end
