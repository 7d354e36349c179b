/- Walks: bytes found among others, by the program and by the document; bytes cleared. -/
import Derived.Test.YtikipijafdcmfaaSl2
set_option linter.unusedVariables false
set_option linter.unusedSimpArgs false
namespace Go.Proofs.Ytikipijafdcmfaa
open Go.RowKit

/-! ### plain -/
def findP (rows : List Row3) (b : List Nat) : Nat → Int
  | 0 => -1
  | k + 1 => if (rows.map (·.2.1)).getD k [] = b then (k : Int) else findP rows b k
def findS (rows : List Row3) (b : List Nat) : Nat → Nat
  | 0 => 0
  | k + 1 => findS rows b k + max ((rows.map (·.2.1)).getD k []).length b.length
theorem findS_le (rows : List Row3) (b : List Nat) (h : ∀ r ∈ rows, r.2.1.length ≤ 500) (hb : b.length ≤ 500) (k : Nat) : findS rows b k ≤ 500 * k := by
  induction k with
  | zero => exact Nat.le_refl _
  | succ k ih =>
    have : ((rows.map (·.2.1)).getD k []).length ≤ 500 := by
      rw [List.getD_eq_getElem?_getD, List.getElem?_map]
      cases e : rows[k]? with
      | none => simp
      | some r => have := h r (List.mem_of_getElem? e); simpa using this
    show findS rows b k + max _ _ ≤ _
    omega

theorem Rs.open {w : World} {A : Option Addr} {rows : List Row3} (h : Rs w A rows) : ∃ b o, ∀ (i : Nat) r, rows[i]? = some r → A = some ⟨b, o, none⟩ ∧ w.cell? ⟨b, o + i, none⟩ = some r.val := by
  cases rows with
  | nil => exact ⟨0, 0, by simp⟩
  | cons r0 rows =>
    obtain ⟨b, o, e, _⟩ := h.cell 0 r0 rfl
    refine ⟨b, o, fun i r hi => ⟨e, ?_⟩⟩
    obtain ⟨b', o', e', hc⟩ := h.cell i r hi
    rw [e] at e'
    injection e' with e'
    injection e' with e1 e2
    subst e1 e2
    exact hc

theorem bstr_beq {l m : List Nat} (hl : ∀ n ∈ l, n < 256) (hm : ∀ n ∈ m, n < 256) : ((bstr l).toList == (bstr m).toList) = decide (l = m) := by
  rw [Bool.eq_iff_iff, beq_iff_eq, decide_eq_true_iff, ByteArray.toList_eq, ByteArray.toList_eq, bstr_data, bstr_data]
  exact ⟨map_u8_inj hl hm, fun h => by rw [h]⟩

set_option maxRecDepth 100000 in
set_option maxHeartbeats 1000000 in
theorem ref_Equal (a c : Option Addr) (cap cap' : Nat) (l m : List Nat) (w : World) (h : Bs w a l) (h' : Bs w c m) (hl : l.length < 2 ^ 40) (hm : m.length < 2 ^ 40) :
    Calls Try.prog 10 #[.slice a l.length cap, .slice c m.length cap'] w fun e w' => e = .returned (.tuple #[.bool (decide (l = m)), .int .i64 ((max l.length m.length : Nat) : Int)]) ∧ w = w' := by
  have hl1 : l.length < 1099511627776 := hl
  have hm1 : m.length < 1099511627776 := hm
  by_cases hlt : m.length < l.length
  · have e1 : Hid (max l.length m.length = l.length) := Lib.hid (by omega)
    have e2 : Hid (decide (l = m) = false) := Lib.hid (decide_eq_false (by rintro rfl; omega))
    clear h h' hl hm
    go_enter Try.func10, Try.ntmps10
    go_wp2
    go_ret2
    exact ⟨by rw [e1.out, e2.out]; rfl, rfl⟩
  · have e1 : Hid (max l.length m.length = m.length) := Lib.hid (by omega)
    have e2 : Hid (((bstr l).toList == (bstr m).toList) = decide (l = m)) := Lib.hid (bstr_beq h.byte h'.byte)
    have c1 := bytes_string (P := Try.prog) (src := 22) (dst := 9) Try.underlying22 Try.underlying5 Try.underlying9 h cap
    have c2 := bytes_string (P := Try.prog) (src := 22) (dst := 9) Try.underlying22 Try.underlying5 Try.underlying9 h' cap'
    clear h h' hl hm
    go_enter Try.func10, Try.ntmps10
    go_wp2
    go_ret2
    exact ⟨by rw [e1.out, ← e2.out]; rfl, rfl⟩

theorem ref_Equal_at (N : Nat) (a c : Option Addr) (cap cap' : Nat) (l m : List Nat) (w : World) (h : Bs w a l) (h' : Bs w c m) (hl : l.length < 2 ^ 40) (hm : m.length < 2 ^ 40) (hN : max l.length m.length = N) :
    Calls Try.prog 10 #[.slice a l.length cap, .slice c m.length cap'] w fun e w' => e = .returned (.tuple #[.bool (decide (l = m)), .int .i64 (N : Int)]) ∧ w = w' := by
  subst hN; exact ref_Equal a c cap cap' l m w h h' hl hm

set_option maxRecDepth 100000 in
set_option maxHeartbeats 1000000 in
theorem same_Find (A c : Option Addr) (cap cap' : Nat) (rows : List Row3) (m : List Nat) (w : World) (h : Rs w A rows) (h' : Bs w c m) (hr : rows.length ≤ 30) (hl : ∀ r ∈ rows, r.2.1.length ≤ 500) (hm : m.length ≤ 500) :
    Calls Try.prog 11 #[.slice A rows.length cap, .slice c m.length cap'] w fun e w' => e = .returned (.tuple #[.int .i64 (findP rows m rows.length), .int .i64 ((findS rows m rows.length : Nat) : Int)]) ∧ w = w' := by
  obtain ⟨b, o, hopen⟩ := h.open
  have HO := Lib.hid hopen
  have HB := Lib.hid h.bytes
  have H' := Lib.hid h'
  have HL := Lib.hid hl
  have HS := Lib.hid (findS_le rows m hl hm)
  obtain ⟨n, hn⟩ : ∃ n, n = rows.length := ⟨_, rfl⟩
  rw [← hn] at hr ⊢
  have HN := Lib.hid hn
  clear hopen h h' hl hn
  go_enter Try.func11, Try.ntmps11
  go_wp2
  go_loop [6, 7, 14] (fun p s i => ∃ k : Nat, k ≤ n ∧ i = .int .i64 (k : Int) ∧ p = .int .i64 (findP rows m k) ∧ s = .int .i64 ((findS rows m k : Nat) : Int)) (fun _ _ i => n - (intOf i).toNat)
  case atStart => exact ⟨0, by omega, rfl, rfl, rfl⟩
  case round =>
    obtain ⟨k, hk, rfl, rfl, rfl⟩ := hrel
    by_cases hlt : k < n
    · have hlt' : (k : Int) < (n : Int) := by omega
      obtain ⟨⟨ra, rl, rc⟩, hrow⟩ : ∃ r, rows[k]? = some r := ⟨_, List.getElem?_eq_getElem (by rw [← HN.out]; exact hlt)⟩
      obtain ⟨rfl, hcell⟩ := HO.out k _ hrow
      have hmem := List.mem_of_getElem? hrow
      have hb : Bs w ra rl := HB.out _ hmem
      have hll : rl.length ≤ 500 := HL.out _ hmem
      have hcell' : w.cell? ⟨b, o + k, none⟩ = some (.slice ra rl.length rc) := hcell
      obtain ⟨N, hN⟩ : ∃ N, max rl.length m.length = N := ⟨_, rfl⟩
      have hE := Lib.hid (same_Equal_at N ra c rc cap' rl m w hb H'.out (by omega) (by omega) hN)
      have hrl : (rows.map (·.2.1)).getD k [] = rl := by rw [List.getD_eq_getElem?_getD, List.getElem?_map, hrow]; rfl
      have hS1 : Hid (findS rows m (k + 1) = findS rows m k + N) := Lib.hid (by show findS rows m k + max _ _ = _; rw [hrl, hN])
      have hP1 : Hid (findP rows m (k + 1) = if rl = m then (k : Int) else findP rows m k) := Lib.hid (by show (if _ then _ else _) = _; rw [hrl])
      have hS2 := HS.out k
      have hN2 : N ≤ 500 := by omega
      have hS3 : findS rows m k ≤ 15000 := by omega
      clear hN hrl hmem hb hcell hrow hS2 hll
      obtain ⟨S, hS⟩ : ∃ S, S = findS rows m k := ⟨_, rfl⟩
      rw [← hS] at hS1 hS3 ⊢
      clear hS
      by_cases hEq : rl = m
      · have hd : Hid (decide (rl = m) = true) := Lib.hid (decide_eq_true hEq)
        have hP2 : Hid (findP rows m (k + 1) = (k : Int)) := Lib.hid (by rw [hP1.out, if_pos hEq])
        clear hEq hP1
        go_wp2_with fail
        refine hE.out.mono ?_
        rintro e w' ⟨rfl, rfl⟩
        rw [hd.out]
        go_wp2_with fail
        go_round
        case rel => exact ⟨k + 1, by omega, by go_num, by rw [hP2.out], by rw [hS1.out]; go_num⟩
        case measure => simp [intOf]; omega
      · have hd : Hid (decide (rl = m) = false) := Lib.hid (decide_eq_false hEq)
        have hP2 : Hid (findP rows m (k + 1) = findP rows m k) := Lib.hid (by rw [hP1.out, if_neg hEq])
        clear hEq hP1
        go_wp2_with fail
        refine hE.out.mono ?_
        rintro e w' ⟨rfl, rfl⟩
        rw [hd.out]
        go_wp2_with fail
        go_round
        case rel => exact ⟨k + 1, by omega, by go_num, by rw [hP2.out], by rw [hS1.out]; go_num⟩
        case measure => simp [intOf]; omega
    · obtain rfl : k = n := by omega
      go_wp2
      go_ret2
      exact ⟨rfl, rfl⟩

set_option maxRecDepth 100000 in
set_option maxHeartbeats 1000000 in
theorem ref_Find (A c : Option Addr) (cap cap' : Nat) (rows : List Row3) (m : List Nat) (w : World) (h : Rs w A rows) (h' : Bs w c m) (hr : rows.length ≤ 30) (hl : ∀ r ∈ rows, r.2.1.length ≤ 500) (hm : m.length ≤ 500) :
    Calls Try.prog 12 #[.slice A rows.length cap, .slice c m.length cap'] w fun e w' => e = .returned (.tuple #[.int .i64 (findP rows m rows.length), .int .i64 ((findS rows m rows.length : Nat) : Int)]) ∧ w = w' := by
  obtain ⟨b, o, hopen⟩ := h.open
  have HO := Lib.hid hopen
  have HB := Lib.hid h.bytes
  have H' := Lib.hid h'
  have HL := Lib.hid hl
  have HS := Lib.hid (findS_le rows m hl hm)
  obtain ⟨n, hn⟩ : ∃ n, n = rows.length := ⟨_, rfl⟩
  rw [← hn] at hr ⊢
  have HN := Lib.hid hn
  clear hopen h h' hl hn
  go_enter Try.func12, Try.ntmps12
  go_wp2
  go_loop [6, 7, 8] (fun p s i => ∃ k : Nat, k ≤ n ∧ i = .int .i64 (k : Int) ∧ p = .int .i64 (findP rows m k) ∧ s = .int .i64 ((findS rows m k : Nat) : Int)) (fun _ _ i => n - (intOf i).toNat)
  case atStart => exact ⟨0, by omega, rfl, rfl, rfl⟩
  case round =>
    obtain ⟨k, hk, rfl, rfl, rfl⟩ := hrel
    by_cases hlt : k < n
    · have hlt' : (k : Int) < (n : Int) := by omega
      obtain ⟨⟨ra, rl, rc⟩, hrow⟩ : ∃ r, rows[k]? = some r := ⟨_, List.getElem?_eq_getElem (by rw [← HN.out]; exact hlt)⟩
      obtain ⟨rfl, hcell⟩ := HO.out k _ hrow
      have hmem := List.mem_of_getElem? hrow
      have hb : Bs w ra rl := HB.out _ hmem
      have hll : rl.length ≤ 500 := HL.out _ hmem
      have hcell' : w.cell? ⟨b, o + k, none⟩ = some (.slice ra rl.length rc) := hcell
      obtain ⟨N, hN⟩ : ∃ N, max rl.length m.length = N := ⟨_, rfl⟩
      have hE := Lib.hid (ref_Equal_at N ra c rc cap' rl m w hb H'.out (by omega) (by omega) hN)
      have hrl : (rows.map (·.2.1)).getD k [] = rl := by rw [List.getD_eq_getElem?_getD, List.getElem?_map, hrow]; rfl
      have hS1 : Hid (findS rows m (k + 1) = findS rows m k + N) := Lib.hid (by show findS rows m k + max _ _ = _; rw [hrl, hN])
      have hP1 : Hid (findP rows m (k + 1) = if rl = m then (k : Int) else findP rows m k) := Lib.hid (by show (if _ then _ else _) = _; rw [hrl])
      have hS2 := HS.out k
      have hN2 : N ≤ 500 := by omega
      have hS3 : findS rows m k ≤ 15000 := by omega
      clear hN hrl hmem hb hcell hrow hS2 hll
      obtain ⟨S, hS⟩ : ∃ S, S = findS rows m k := ⟨_, rfl⟩
      rw [← hS] at hS1 hS3 ⊢
      clear hS
      by_cases hEq : rl = m
      · have hd : Hid (decide (rl = m) = true) := Lib.hid (decide_eq_true hEq)
        have hP2 : Hid (findP rows m (k + 1) = (k : Int)) := Lib.hid (by rw [hP1.out, if_pos hEq])
        clear hEq hP1
        go_wp2_with fail
        refine hE.out.mono ?_
        rintro e w' ⟨rfl, rfl⟩
        rw [hd.out]
        go_wp2_with fail
        go_round
        case rel => exact ⟨k + 1, by omega, by go_num, by rw [hP2.out], by rw [hS1.out]; go_num⟩
        case measure => simp [intOf]; omega
      · have hd : Hid (decide (rl = m) = false) := Lib.hid (decide_eq_false hEq)
        have hP2 : Hid (findP rows m (k + 1) = findP rows m k) := Lib.hid (by rw [hP1.out, if_neg hEq])
        clear hEq hP1
        go_wp2_with fail
        refine hE.out.mono ?_
        rintro e w' ⟨rfl, rfl⟩
        rw [hd.out]
        go_wp2_with fail
        go_round
        case rel => exact ⟨k + 1, by omega, by go_num, by rw [hP2.out], by rw [hS1.out]; go_num⟩
        case measure => simp [intOf]; omega
    · obtain rfl : k = n := by omega
      go_wp2
      go_ret2
      exact ⟨rfl, rfl⟩
end Go.Proofs.Ytikipijafdcmfaa
