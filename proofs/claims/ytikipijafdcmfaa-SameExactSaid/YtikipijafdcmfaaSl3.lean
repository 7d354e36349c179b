/- Walks: SameExact. -/
import Derived.Test.YtikipijafdcmfaaSw2
import Derived.Test.YtikipijafdcmfaaSw3
import Derived.Deep.RegionWith
import Derived.Deep.RegionHeld3
import Derived.Deep.OwnRows
set_option linter.unusedVariables false
set_option linter.unusedSimpArgs false
namespace Go.Proofs.Ytikipijafdcmfaa
open Go.RowKit

set_option maxRecDepth 100000 in
set_option maxHeartbeats 1000000 in
theorem SameExact_sure (A a c : Option Addr) (cA ca cc : Nat) (rows : List Row3) (l m : List Nat) (w : World)
    (hg : 30 < rows.length ∨ ¬ 30 < rows.length ∧ (500 < l.length ∨ ¬ 500 < l.length ∧ 500 < m.length)) :
    Calls Try.prog 4 #[.slice A rows.length cA, .slice a l.length ca, .slice c m.length cc] w fun e w' => e = .returned (.bool true) ∧ Kp No w w' := by
  rcases hg with h1 | ⟨h1, h2 | ⟨h2, h3⟩⟩
  all_goals
    go_enter Try.func4, Try.ntmps4
    go_wp2_with fail
    refine (law12_sure _).mono ?_
    rintro e w' ⟨rfl, g⟩
    go_wp2_with fail
    go_ret
    exact ⟨rfl, g⟩

theorem made_u8s (n : Nat) : madeCells #[Value.int .u8 0] n = (u8s (List.replicate n 0)).toArray := by
  apply Array.ext
  · simp [madeCells, u8s]
  · intro i h1 h2
    simp [madeCells, u8s, Nat.mod_one]
theorem conv_zeros {w : World} {A : Option Addr} {n : Nat} (h : Bs w A (List.replicate n 0)) (c : Nat) : (convert 22 9 (.slice A n c)).run Try.prog w = .ok (.string (bstr (List.replicate n 0))) w := by
  have := bytes_string (P := Try.prog) (src := 22) (dst := 9) Try.underlying22 Try.underlying5 Try.underlying9 h c
  rwa [List.length_replicate] at this
theorem same_Find' (P S : Int) (A c : Option Addr) (cap cap' : Nat) (rows : List Row3) (m : List Nat) (w : World) (h : Rs w A rows) (h' : Bs w c m) (hr : rows.length ≤ 30) (hl : ∀ r ∈ rows, r.2.1.length ≤ 500) (hm : m.length ≤ 500)
    (hP : findP rows m rows.length = P) (hS : ((findS rows m rows.length : Nat) : Int) = S) :
    Calls Try.prog 11 #[.slice A rows.length cap, .slice c m.length cap'] w fun e w' => e = .returned (.tuple #[.int .i64 P, .int .i64 S]) ∧ w = w' := by
  subst hP hS; exact same_Find A c cap cap' rows m w h h' hr hl hm
theorem ref_Find' (P S : Int) (A c : Option Addr) (cap cap' : Nat) (rows : List Row3) (m : List Nat) (w : World) (h : Rs w A rows) (h' : Bs w c m) (hr : rows.length ≤ 30) (hl : ∀ r ∈ rows, r.2.1.length ≤ 500) (hm : m.length ≤ 500)
    (hP : findP rows m rows.length = P) (hS : ((findS rows m rows.length : Nat) : Int) = S) :
    Calls Try.prog 12 #[.slice A rows.length cap, .slice c m.length cap'] w fun e w' => e = .returned (.tuple #[.int .i64 P, .int .i64 S]) ∧ w = w' := by
  subst hP hS; exact ref_Find A c cap cap' rows m w h h' hr hl hm

set_option maxRecDepth 100000 in
set_option maxHeartbeats 2000000 in
theorem SameExact_go (A a c : Option Addr) (cA ca cc : Nat) (rows : List Row3) (l m : List Nat) (w : World) (h : Rs w A rows) (ha : Bs w a l) (hc : Bs w c m)
    (hr : rows.length ≤ 30) (hl : l.length ≤ 500) (hm : m.length ≤ 500) :
    Calls Try.prog 4 #[.slice A rows.length cA, .slice a l.length ca, .slice c m.length cc] w fun e w' => e = .returned (.bool true) ∧ Kp No w w' := by
  obtain ⟨b, o, hopen⟩ := h.open
  have HO := Lib.hid hopen
  have HR := Lib.hid h
  have HA := Lib.hid ha
  have HC := Lib.hid hc
  obtain ⟨N, hN⟩ : ∃ N, max l.length m.length = N := ⟨_, rfl⟩
  obtain ⟨P, hP⟩ : ∃ P, findP rows l rows.length = P := ⟨_, rfl⟩
  obtain ⟨S, hS⟩ : ∃ S, ((findS rows l rows.length : Nat) : Int) = S := ⟨_, rfl⟩
  have HN := Lib.hid hN
  have HP := Lib.hid hP
  have HS := Lib.hid hS
  clear hopen h ha hc hN hP hS
  go_enter Try.func4, Try.ntmps4
  go_wp2
  go_loop [7] (fun i => ∃ k : Nat, k ≤ rows.length ∧ i = .int .i64 (k : Int) ∧ ∀ (j : Nat) r, j < k → rows[j]? = some r → r.2.1.length ≤ 500) (fun i => rows.length - (intOf i).toNat)
  case atStart => exact ⟨0, by omega, rfl, fun j r hj => by omega⟩
  case round =>
    obtain ⟨k, hk, rfl, hall⟩ := hrel
    have HALL := Lib.hid hall
    clear hall
    by_cases hlt : k < rows.length
    · obtain ⟨⟨ra, rl, rc⟩, hrow⟩ : ∃ r, rows[k]? = some r := ⟨_, List.getElem?_eq_getElem hlt⟩
      obtain ⟨rfl, hcell⟩ := HO.out k _ hrow
      have hcell' : w.cell? ⟨b, o + k, none⟩ = some (.slice ra rl.length rc) := hcell
      clear hcell
      by_cases hlen : 500 < rl.length
      · clear hrow
        go_wp2_with fail
        refine (law12_sure _).mono ?_
        rintro e w' ⟨rfl, g⟩
        go_wp2_with fail
        go_ret
        exact ⟨rfl, g⟩
      · have hnext : Hid (∀ (j : Nat) r, j < k + 1 → rows[j]? = some r → r.2.1.length ≤ 500) := Lib.hid (fun j r hj hjr => by
          by_cases e : j = k
          · subst e
            rw [hrow] at hjr
            injection hjr with hjr
            subst hjr
            show rl.length ≤ 500
            omega
          · exact HALL.out j r (by omega) hjr)
        clear hrow
        go_wp2_with fail
        go_round
        case rel => exact ⟨k + 1, by omega, by go_num, hnext.out⟩
        case measure => simp [intOf]; omega
    · obtain rfl : k = rows.length := by omega
      have hrl : Hid (∀ r ∈ rows, r.2.1.length ≤ 500) := Lib.hid (fun r hr => by
        obtain ⟨j, hj⟩ := List.mem_iff_getElem?.1 hr
        exact HALL.out j r (List.getElem?_eq_some_iff.1 hj).1 hj)
      go_wp2_with fail
      refine (same_Equal_at N a c ca cc l m _ HA.out HC.out (by omega) (by omega) HN.out).mono ?_
      rintro e w' ⟨rfl, rfl⟩
      go_wp2_with fail
      refine (ref_Equal_at N a c ca cc l m _ HA.out HC.out (by omega) (by omega) HN.out).mono ?_
      rintro e w' ⟨rfl, rfl⟩
      go_wp2_with fail
      refine (same_Find' P S A a cA ca rows l _ HR.out HA.out hr hrl.out hl HP.out HS.out).mono ?_
      rintro e w' ⟨rfl, rfl⟩
      go_wp2_with fail
      refine (ref_Find' P S A a cA ca rows l _ HR.out HA.out hr hrl.out hl HP.out HS.out).mono ?_
      rintro e w' ⟨rfl, rfl⟩
      have hv0 : Ob (w.alloc (.cells #[] 5)) w.heap.size (.slice (some ⟨w.heap.size, 0, none⟩) 0 0) [] := Ob.of_block (cs := []) (k := 0) (new_at w _) (Nat.le_refl _) rfl (by decide) (by simp) (Nat.le_refl _)
      have hcc : Bs (w.alloc (.cells #[] 5)) c m := HC.out.keptNo ((Kp.refl No w).alloc _)
      have HV0 := Lib.hid hv0
      have HCC := Lib.hid hcc
      clear hv0 hcc
      go_wp2_with (at_builtin; refine wpList_app rfl _ _ rfl w.heap.size _ [] m rfl HV0.out c cc rfl HCC.out (by simp; omega) (by simp) ?_; intro v1 w1 hv1 hg1 hat1; have HV1 := Lib.hid hv1; have HG1 := Lib.hid hg1; have HT1 := Lib.hid hat1; clear hv1 hg1 hat1)
      refine (same_Clear v1 w.heap.size ([] ++ m) _ HV1.out).mono ?_
      rintro e w2 ⟨rfl, ⟨A1, c1, hv, hB⟩, hK⟩
      have hown1 : ∀ x, v1.ownBlock = some x → w.heap.size ≤ x := fun x hx => (HV1.out.lt x hx).1
      have k1 : Kp No w w1 := ((Kp.refl No w).alloc _).grown HG1.out (fun k hk => .inr (by injection hk with hk; subst hk; exact Nat.le_refl _))
      have k2 : Kp No w w2 := k1.trans hK (fun i hi => .inr (hown1 i hi))
      have K2 := Lib.hid k2
      simp only [List.nil_append] at hB hv
      rw [hv]
      have hmk := run_make_row' (P := Try.prog) 22 5 (.int .u8 0) 1 u8_under u8_info rfl .i64 .i64 m.length (by omega) (by omega)
      clear hK k1 k2 hown1
      have hz : ∀ n ∈ List.replicate m.length 0, n < 256 := fun n hn => by have := (List.mem_replicate.1 hn).2; omega
      have hM := Bs.of_block (w := (w2.alloc (.cells (madeCells #[.int .u8 0] m.length) 5)).drew) (b := w2.heap.size) (l := List.replicate m.length 0) (by rw [made_u8s]; exact new_at w2 _) hz
      have s2 := conv_zeros hM m.length
      have HB1 := Lib.hid hB.drew
      have HB2 := Lib.hid (hB.keptNo (((Kp.refl No w2).alloc (.cells (madeCells #[.int .u8 0] m.length) 5)).drew))
      clear hM hz hB
      go_wp2_with fail
      refine wp_region_held_drew (S := (fun W => (convert 22 9 (.slice A1 m.length c1)).run Try.prog W = .ok (.string (bstr (List.replicate m.length 0))) W)) (by kernel_rfl) (conv_zeros HB1.out c1) (fun hHeld => ?_)
      refine wpAnyH_take (i := 0) (oi := _) (v := ?v0) rfl (by kernel_rfl) (by kernel_rfl) (by kernel_rfl) (fun _ _ _ h => h) (Or.inl ⟨by rfl, ?hy0⟩) (by assumption) ?hz0
      case hy0 => (intro w hSw; (try dsimp only at hSw); go_simp; try with_reducible rfl)
      try simp only [List.getElem_toArray, List.getElem_cons_zero, List.getElem_cons_succ, Act.put, List.setIfInBounds_toArray, List.set_cons_zero, List.set_cons_succ]
      refine wpAnyH_take (i := 1) (oi := _) (v := ?v1) rfl (by kernel_rfl) (by kernel_rfl) (by kernel_rfl) (fun _ _ _ h => h) (Or.inl ⟨by rfl, ?hy1⟩) (by assumption) ?hz1
      case hy1 => (intro w hSw; (try dsimp only at hSw); go_simp; try with_reducible rfl)
      try simp only [List.getElem_toArray, List.getElem_cons_zero, List.getElem_cons_succ, Act.put, List.setIfInBounds_toArray, List.set_cons_zero, List.set_cons_succ]
      refine wpAnyH_take (i := 2) (oi := _) (v := ?v2) rfl (by kernel_rfl) (by kernel_rfl) (by kernel_rfl) (fun _ _ _ h => h) (Or.inl ⟨by rfl, ?hy2⟩) (by assumption) ?hz2
      case hy2 => (intro w hSw; (try dsimp only at hSw); go_simp; try with_reducible rfl)
      try simp only [List.getElem_toArray, List.getElem_cons_zero, List.getElem_cons_succ, Act.put, List.setIfInBounds_toArray, List.set_cons_zero, List.set_cons_succ]
      refine wpAnyH_take (i := 3) (oi := _) (v := ?v3) rfl (by kernel_rfl) (by kernel_rfl) (by kernel_rfl) (fun _ _ _ h => h) (Or.inl ⟨by rfl, ?hy3⟩) (by assumption) ?hz3
      case hy3 => (intro w hSw; (try dsimp only at hSw); go_simp; try with_reducible rfl)
      try simp only [List.getElem_toArray, List.getElem_cons_zero, List.getElem_cons_succ, Act.put, List.setIfInBounds_toArray, List.set_cons_zero, List.set_cons_succ]
      refine wpAnyH_take (i := 4) (oi := _) (v := ?v4) rfl (by kernel_rfl) (by kernel_rfl) (by kernel_rfl) (fun _ _ _ h => h) (Or.inl ⟨by rfl, ?hy4⟩) (by assumption) ?hz4
      case hy4 => (intro w hSw; (try dsimp only at hSw); go_simp; try with_reducible rfl)
      try simp only [List.getElem_toArray, List.getElem_cons_zero, List.getElem_cons_succ, Act.put, List.setIfInBounds_toArray, List.set_cons_zero, List.set_cons_succ]
      refine wpAnyH_take (i := 5) (oi := _) (v := ?v5) rfl (by kernel_rfl) (by kernel_rfl) (by kernel_rfl) (fun _ _ _ h => h) (Or.inl ⟨by rfl, ?hy5⟩) (by assumption) ?hz5
      case hy5 => (intro w hSw; (try dsimp only at hSw); go_simp; try with_reducible rfl)
      try simp only [List.getElem_toArray, List.getElem_cons_zero, List.getElem_cons_succ, Act.put, List.setIfInBounds_toArray, List.set_cons_zero, List.set_cons_succ]
      refine wpAnyH_take (i := 6) (oi := _) (v := ?v6) rfl (by kernel_rfl) (by kernel_rfl) (by kernel_rfl) (fun _ _ _ h => h) (Or.inl ⟨by rfl, ?hy6⟩) (by assumption) ?hz6
      case hy6 => (intro w hSw; (try dsimp only at hSw); go_simp; try with_reducible rfl)
      try simp only [List.getElem_toArray, List.getElem_cons_zero, List.getElem_cons_succ, Act.put, List.setIfInBounds_toArray, List.set_cons_zero, List.set_cons_succ]
      refine wpAnyH_take (i := 7) (oi := _) (v := ?v7) rfl (by kernel_rfl) (by kernel_rfl) (by kernel_rfl) (fun _ _ _ h => h) (Or.inl ⟨by rfl, ?hy7⟩) (by assumption) ?hz7
      case hy7 => (intro w hSw; (try dsimp only at hSw); go_simp; try with_reducible rfl)
      try simp only [List.getElem_toArray, List.getElem_cons_zero, List.getElem_cons_succ, Act.put, List.setIfInBounds_toArray, List.set_cons_zero, List.set_cons_succ]
      refine wpAnyH_take (i := 8) (oi := _) (v := ?v8) rfl (by kernel_rfl) (by kernel_rfl) (by kernel_rfl) (fun _ _ _ h => h) (Or.inl ⟨by rfl, ?hy8⟩) (by assumption) ?hz8
      case hy8 => (intro w hSw; (try dsimp only at hSw); go_simp; try with_reducible rfl)
      try simp only [List.getElem_toArray, List.getElem_cons_zero, List.getElem_cons_succ, Act.put, List.setIfInBounds_toArray, List.set_cons_zero, List.set_cons_succ]
      refine wpAnyH_take (i := 9) (oi := _) (v := ?v9) rfl (by kernel_rfl) (by kernel_rfl) (by kernel_rfl) (fun _ _ _ h => h) (Or.inl ⟨by rfl, ?hy9⟩) (by assumption) ?hz9
      case hy9 => (intro w hSw; (try dsimp only at hSw); go_simp; try with_reducible rfl)
      try simp only [List.getElem_toArray, List.getElem_cons_zero, List.getElem_cons_succ, Act.put, List.setIfInBounds_toArray, List.set_cons_zero, List.set_cons_succ]
      refine wpAnyH_take (i := 10) (oi := _) (v := ?v10) rfl (by kernel_rfl) (by kernel_rfl) (by kernel_rfl) (fun _ _ _ h => h) (Or.inl ⟨by rfl, ?hy10⟩) (by assumption) ?hz10
      case hy10 => (intro w hSw; (try dsimp only at hSw); go_simp; try with_reducible rfl)
      try simp only [List.getElem_toArray, List.getElem_cons_zero, List.getElem_cons_succ, Act.put, List.setIfInBounds_toArray, List.set_cons_zero, List.set_cons_succ]
      refine wpAnyH_take (i := 11) (oi := _) (v := ?v11) rfl (by kernel_rfl) (by kernel_rfl) (by kernel_rfl) (fun _ _ _ h => h) (Or.inl ⟨by rfl, ?hy11⟩) (by assumption) ?hz11
      case hy11 => (intro w hSw; (try dsimp only at hSw); go_simp; try with_reducible rfl)
      try simp only [List.getElem_toArray, List.getElem_cons_zero, List.getElem_cons_succ, Act.put, List.setIfInBounds_toArray, List.set_cons_zero, List.set_cons_succ]
      refine wpAnyH_take (i := 12) (oi := _) (v := ?v12) rfl (by kernel_rfl) (by kernel_rfl) (by kernel_rfl) (fun _ _ _ h => h) (Or.inl ⟨by rfl, ?hy12⟩) (by assumption) ?hz12
      case hy12 => (intro w hSw; (try dsimp only at hSw); go_simp; try with_reducible rfl)
      try simp only [List.getElem_toArray, List.getElem_cons_zero, List.getElem_cons_succ, Act.put, List.setIfInBounds_toArray, List.set_cons_zero, List.set_cons_succ]
      refine wpAnyH_take (i := 13) (oi := _) (v := ?v13) rfl (by kernel_rfl) (by kernel_rfl) (by kernel_rfl) (fun _ _ _ h => h) (Or.inl ⟨by rfl, ?hy13⟩) (by assumption) ?hz13
      case hy13 => (intro w hSw; (try dsimp only at hSw); go_simp; try with_reducible rfl)
      try simp only [List.getElem_toArray, List.getElem_cons_zero, List.getElem_cons_succ, Act.put, List.setIfInBounds_toArray, List.set_cons_zero, List.set_cons_succ]
      refine wpAnyH_take (i := 14) (oi := _) (v := ?v14) rfl (by kernel_rfl) (by kernel_rfl) (by kernel_rfl) (fun _ _ _ h => h) (Or.inl ⟨by rfl, ?hy14⟩) (by assumption) ?hz14
      case hy14 => (intro w hSw; (try dsimp only at hSw); go_simp; try with_reducible rfl)
      try simp only [List.getElem_toArray, List.getElem_cons_zero, List.getElem_cons_succ, Act.put, List.setIfInBounds_toArray, List.set_cons_zero, List.set_cons_succ]
      refine wpAnyH_take (i := 15) (oi := _) (v := ?v15) rfl (by kernel_rfl) (by kernel_rfl) (by kernel_rfl) (fun _ _ _ h => h) (Or.inl ⟨by rfl, ?hy15⟩) (by assumption) ?hz15
      case hy15 => (intro w hSw; (try dsimp only at hSw); go_simp; try with_reducible rfl)
      try simp only [List.getElem_toArray, List.getElem_cons_zero, List.getElem_cons_succ, Act.put, List.setIfInBounds_toArray, List.set_cons_zero, List.set_cons_succ]
      refine wpAnyH_take (i := 16) (oi := _) (v := ?v16) rfl (by kernel_rfl) (by kernel_rfl) (by kernel_rfl) (fun _ _ _ h => h) (Or.inl ⟨by rfl, ?hy16⟩) (by assumption) ?hz16
      case hy16 => (intro w hSw; (try dsimp only at hSw); go_simp; try with_reducible rfl)
      try simp only [List.getElem_toArray, List.getElem_cons_zero, List.getElem_cons_succ, Act.put, List.setIfInBounds_toArray, List.set_cons_zero, List.set_cons_succ]
      refine wpAnyH_take (i := 17) (oi := _) (v := ?v17) rfl (by kernel_rfl) (by kernel_rfl) (by kernel_rfl) (fun _ _ _ h => h) (Or.inl ⟨by rfl, ?hy17⟩) (by assumption) ?hz17
      case hy17 => (intro w hSw; (try dsimp only at hSw); go_simp; try with_reducible rfl)
      try simp only [List.getElem_toArray, List.getElem_cons_zero, List.getElem_cons_succ, Act.put, List.setIfInBounds_toArray, List.set_cons_zero, List.set_cons_succ]
      refine wpAnyH_take (i := 18) (oi := _) (v := ?v18) rfl (by kernel_rfl) (by kernel_rfl) (by kernel_rfl) (fun _ _ _ h => h) (Or.inl ⟨by rfl, ?hy18⟩) (by assumption) ?hz18
      case hy18 => (intro w hSw; (try dsimp only at hSw); go_simp; try with_reducible rfl)
      try simp only [List.getElem_toArray, List.getElem_cons_zero, List.getElem_cons_succ, Act.put, List.setIfInBounds_toArray, List.set_cons_zero, List.set_cons_succ]
      refine wpAnyH_take (i := 19) (oi := _) (v := ?v19) rfl (by kernel_rfl) (by kernel_rfl) (by kernel_rfl) (fun _ _ _ h => h) (Or.inl ⟨by rfl, ?hy19⟩) (by assumption) ?hz19
      case hy19 => (intro w hSw; (try dsimp only at hSw); go_simp; try with_reducible rfl)
      try simp only [List.getElem_toArray, List.getElem_cons_zero, List.getElem_cons_succ, Act.put, List.setIfInBounds_toArray, List.set_cons_zero, List.set_cons_succ]
      refine wpAnyH_take (i := 20) (oi := _) (v := ?v20) rfl (by kernel_rfl) (by kernel_rfl) (by kernel_rfl) (fun _ _ _ h => h) (Or.inl ⟨by rfl, ?hy20⟩) (by assumption) ?hz20
      case hy20 => (intro w hSw; (try dsimp only at hSw); go_simp; try with_reducible rfl)
      try simp only [List.getElem_toArray, List.getElem_cons_zero, List.getElem_cons_succ, Act.put, List.setIfInBounds_toArray, List.set_cons_zero, List.set_cons_succ]
      refine wpAnyH_take (i := 21) (oi := _) (v := ?v21) rfl (by kernel_rfl) (by kernel_rfl) (by kernel_rfl) (fun _ _ _ h => h) (Or.inl ⟨by rfl, ?hy21⟩) (by assumption) ?hz21
      case hy21 => (intro w hSw; (try dsimp only at hSw); go_simp; try with_reducible rfl)
      try simp only [List.getElem_toArray, List.getElem_cons_zero, List.getElem_cons_succ, Act.put, List.setIfInBounds_toArray, List.set_cons_zero, List.set_cons_succ]
      refine wpAnyH_take (i := 22) (oi := _) (v := ?v22) rfl (by kernel_rfl) (by kernel_rfl) (by kernel_rfl) (fun _ _ _ h => h) (Or.inl ⟨by rfl, ?hy22⟩) (by assumption) ?hz22
      case hy22 => (intro w hSw; (try dsimp only at hSw); go_simp; try with_reducible rfl)
      try simp only [List.getElem_toArray, List.getElem_cons_zero, List.getElem_cons_succ, Act.put, List.setIfInBounds_toArray, List.set_cons_zero, List.set_cons_succ]
      refine wpAnyH_ready (rs := [23]) (by kernel_rfl) (by simp) ?_
      refine AllReadyH.cons (i := 23) (o := _) rfl (fun K hK => ?_) AllReadyH.nil
      go_simp
      refine hK.out _ _ (conv_zeros HB2.out c1) (fun hHeld => ?_)
      clear hK K
      try simp only [List.getElem_toArray, List.getElem_cons_zero, List.getElem_cons_succ, Act.put, List.setIfInBounds_toArray, List.set_cons_zero, List.set_cons_succ]
      refine wpAnyH_ready (rs := [24]) (by kernel_rfl) (by simp) ?_
      refine AllReadyH.cons (i := 24) (o := _) rfl (fun K hK => ?_) AllReadyH.nil
      go_simp
      refine hK.out _ _ (conv_zeros HB2.out c1) (fun hHeld => ?_)
      clear hK K
      try simp only [List.getElem_toArray, List.getElem_cons_zero, List.getElem_cons_succ, Act.put, List.setIfInBounds_toArray, List.set_cons_zero, List.set_cons_succ]
      refine wpAnyH_take (i := 25) (oi := _) (v := ?v25) rfl (by kernel_rfl) (by kernel_rfl) (by kernel_rfl) (fun _ _ _ h => h) (Or.inl ⟨by rfl, ?hy25⟩) (by assumption) ?hz25
      case hy25 => (intro w hSw; (try dsimp only at hSw); go_simp; try with_reducible rfl)
      try simp only [List.getElem_toArray, List.getElem_cons_zero, List.getElem_cons_succ, Act.put, List.setIfInBounds_toArray, List.set_cons_zero, List.set_cons_succ]
      refine wpAnyH_take (i := 26) (oi := _) (v := ?v26) rfl (by kernel_rfl) (by kernel_rfl) (by kernel_rfl) (fun _ _ _ h => h) (Or.inl ⟨by rfl, ?hy26⟩) (by assumption) ?hz26
      case hy26 => (intro w hSw; (try dsimp only at hSw); go_simp; try with_reducible rfl)
      try simp only [List.getElem_toArray, List.getElem_cons_zero, List.getElem_cons_succ, Act.put, List.setIfInBounds_toArray, List.set_cons_zero, List.set_cons_succ]
      refine wpAnyH_take (i := 27) (oi := _) (v := ?v27) rfl (by kernel_rfl) (by kernel_rfl) (by kernel_rfl) (fun _ _ _ h => h) (Or.inl ⟨by rfl, ?hy27⟩) (by assumption) ?hz27
      case hy27 => (intro w hSw; (try dsimp only at hSw); go_simp; try with_reducible rfl)
      try simp only [List.getElem_toArray, List.getElem_cons_zero, List.getElem_cons_succ, Act.put, List.setIfInBounds_toArray, List.set_cons_zero, List.set_cons_succ]
      refine wpAnyH_ready (rs := [28]) (by kernel_rfl) (by simp) ?_
      refine AllReadyH.cons (i := 28) (o := _) rfl (fun K hK => ?_) AllReadyH.nil
      go_wp2_with (go_at_call 8; refine (law12_sure _).mono ?_; rintro e w3 ⟨rfl, g⟩)
      refine hK.out _ _ (conv_zeros (HB2.out.keptNo g) c1) (fun hHeld => ?_)
      clear hK K
      try simp only [List.getElem_toArray, List.getElem_cons_zero, List.getElem_cons_succ, Act.put, List.setIfInBounds_toArray, List.set_cons_zero, List.set_cons_succ]
      refine wpAnyH_take (i := 29) (oi := _) (v := ?v29) rfl (by kernel_rfl) (by kernel_rfl) (by kernel_rfl) (fun _ _ _ h => h) (Or.inl ⟨by rfl, ?hy29⟩) (by assumption) ?hz29
      case hy29 => (intro w hSw; (try dsimp only at hSw); go_simp; try with_reducible rfl)
      try simp only [List.getElem_toArray, List.getElem_cons_zero, List.getElem_cons_succ, Act.put, List.setIfInBounds_toArray, List.set_cons_zero, List.set_cons_succ]
      refine wpAnyH_take (i := 30) (oi := _) (v := ?v30) rfl (by kernel_rfl) (by kernel_rfl) (by kernel_rfl) (fun _ _ _ h => h) (Or.inl ⟨by rfl, ?hy30⟩) (by assumption) ?hz30
      case hy30 => (intro w hSw; (try dsimp only at hSw); go_simp; try with_reducible rfl)
      try simp only [List.getElem_toArray, List.getElem_cons_zero, List.getElem_cons_succ, Act.put, List.setIfInBounds_toArray, List.set_cons_zero, List.set_cons_succ]
      refine wpAnyH_done (by kernel_rfl) ?_ _
      go_wp2_with fail
      go_ret
      exact ⟨rfl, ((K2.out.alloc _).drew).then_ g⟩

theorem SameExact_walk (A : Option Addr) (rows : List Row3) (cA : Nat) (a1 : Option Addr) (l1 : List Nat) (c1 : Nat) (a2 : Option Addr) (l2 : List Nat) (c2 : Nat) (w : World) (h0 : Rs w A rows) (n0 : rows.length ≤ cA ∧ cA ≤ maxLen) (m0 : ∀ x ∈ rows, x.2.1.length ≤ x.2.2 ∧ x.2.2 ≤ maxLen)
    (h1 : Bs w a1 l1) (n1 : l1.length ≤ c1 ∧ c1 ≤ maxLen) (h2 : Bs w a2 l2) (n2 : l2.length ≤ c2 ∧ c2 ≤ maxLen) :
    Calls Try.prog 4 #[.slice A rows.length cA, .slice a1 l1.length c1, .slice a2 l2.length c2] w fun e w' => e = .returned (.bool true) ∧ Below w.heap.size w w' := by
  by_cases g0 : 30 < rows.length
  · exact (SameExact_sure A a1 a2 cA c1 c2 rows l1 l2 w (.inl g0)).mono fun e w' ⟨he, k⟩ => ⟨he, k.below⟩
  by_cases g1 : 500 < l1.length
  · exact (SameExact_sure A a1 a2 cA c1 c2 rows l1 l2 w (.inr ⟨g0, .inl g1⟩)).mono fun e w' ⟨he, k⟩ => ⟨he, k.below⟩
  by_cases g2 : 500 < l2.length
  · exact (SameExact_sure A a1 a2 cA c1 c2 rows l1 l2 w (.inr ⟨g0, .inr ⟨g1, g2⟩⟩)).mono fun e w' ⟨he, k⟩ => ⟨he, k.below⟩
  exact (SameExact_go A a1 a2 cA c1 c2 rows l1 l2 w h0 h1 h2 (by omega) (by omega) (by omega)).mono fun e w' ⟨he, k⟩ => ⟨he, k.below⟩
end Go.Proofs.Ytikipijafdcmfaa
