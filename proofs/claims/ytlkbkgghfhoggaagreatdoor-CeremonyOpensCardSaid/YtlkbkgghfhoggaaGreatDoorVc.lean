/- Walks of shamir.places, through, Combine: parts of another generation. -/
import Derived.Test.YtlkbkgghfhoggaaGreatDoorCe
section
set_option linter.unusedVariables false
set_option linter.unusedSimpArgs false
namespace Go.Proofs.YtlkbkgghfhoggaaGreatDoor
open Go.RowKit Gm
/-- What is asked of parts, but for their generation. -/
structure ShOk (M : List Shr) : Prop where
  ix0 : ∀ s ∈ M, s.ix ≠ 0
  len : ∀ s ∈ M, ∀ t, M[0]? = some t → s.X.length = t.X.length
  siz : ∀ s ∈ M, 1 ≤ s.X.length ∧ s.X.length ≤ 64
  di : Di (ixs M)
def Sk (M : List Shr) (i : Nat) : Prop :=
  (∀ k s, k < i → M[k]? = some s → s.ix ≠ 0 ∧ (∀ t, M[0]? = some t → s.X.length = t.X.length) ∧ (1 ≤ s.X.length ∧ s.X.length ≤ 64)) ∧ (∀ a b, a < b → b < i → (ixs M).getD a 0 ≠ (ixs M).getD b 0)
theorem Sk.zero (M : List Shr) : Sk M 0 := ⟨fun _ _ h => absurd h (Nat.not_lt_zero _), fun _ _ _ h => absurd h (Nat.not_lt_zero _)⟩
theorem Sk.step {M : List Shr} {i : Nat} {s t : Shr} (h : Sk M i) (e : M[i]? = some s) (h0 : M[0]? = some t) (hz : s.ix ≠ 0) (hl : s.X.length = t.X.length) (hs : 1 ≤ s.X.length ∧ s.X.length ≤ 64) (hd : ∀ a, a < i → (ixs M).getD a 0 ≠ s.ix) : Sk M (i + 1) := by
  refine ⟨fun k u hk hu => ?_, fun a b hab hb => ?_⟩
  · rcases Nat.lt_or_ge k i with h1 | h1
    · exact h.1 k u h1 hu
    · obtain rfl : k = i := by omega
      rw [e] at hu; cases hu
      exact ⟨hz, fun t' ht' => by rw [h0] at ht'; cases ht'; exact hl, hs⟩
  · rcases Nat.lt_or_ge b i with h1 | h1
    · exact h.2 a b hab h1
    · obtain rfl : b = i := by omega
      rw [getD_some (ixs_get e)]; exact hd a hab
theorem Sk.ok {M : List Shr} {i : Nat} (h : Sk M i) (hi : M.length ≤ i) : ShOk M := by
  have at_ : ∀ s ∈ M, ∃ k, k < i ∧ M[k]? = some s := fun s hs => by
    obtain ⟨k, hk, e⟩ := List.getElem_of_mem hs
    exact ⟨k, by omega, List.getElem?_eq_some_iff.2 ⟨hk, e⟩⟩
  refine ⟨fun s hs => ?_, fun s hs => ?_, fun s hs => ?_, fun a b hab hb => ?_⟩
  · obtain ⟨k, hk, e⟩ := at_ s hs; exact (h.1 k s hk e).1
  · obtain ⟨k, hk, e⟩ := at_ s hs; exact (h.1 k s hk e).2.1
  · obtain ⟨k, hk, e⟩ := at_ s hs; exact (h.1 k s hk e).2.2
  · rw [ixs_length] at hb; exact h.2 a b hab (by omega)
theorem gens_step {M : List Shr} {ge i : Nat} {s : Shr} (h : ∀ s ∈ M.take i, s.gen = ge) (e : M[i]? = some s) (hg : s.gen = ge) : ∀ s ∈ M.take (i + 1), s.gen = ge := fun u hu => by
  rw [List.take_add_one, e] at hu
  rcases List.mem_append.1 hu with h1 | h1
  · exact h u h1
  · obtain rfl : u = s := by simpa using h1
    exact hg
theorem gens_end {M : List Shr} {ge i : Nat} (h : ∀ s ∈ M.take i, s.gen = ge) (hi : M.length ≤ i) : ∀ s ∈ M, s.gen = ge := by rwa [List.take_of_length_le hi] at h
section
variable {P : Program} {l : List (Nat × Value)} {w : World} {x y : Operand} {t e : TypeId} {k : IntKind} {A : Option Addr} {L : List Shr} {m : Nat} {s : Shr}
end
/-! ### parts handed on: the row alone is the call's own -/
structure Sp (T : TypeId) (w : World) (base : Nat) (v : Value) (L : List Shr) : Prop where
  own : w.ownsRow base T 3 v L.length (shsC L)
section
variable {T TS : TypeId} {n : Nat} {l : List (Nat × Value)} {w w' : World} {d? : Option Tmp} {ty : TypeId} {pos : String} {af : Array Edge} {g? : Option (Nat × Bool)} {x y : Operand} {v : Value} {A B : Option Addr} {L M : List Shr} {c c' k k' base : Nat}
theorem Sp.nil (T : TypeId) (w : World) (base : Nat) : Sp T w base (.slice none 0 0) [] := ⟨World.ownsRow_nil w base T 3⟩
theorem Sp.keptNo (h : Sp T w base v L) (kk : Kp No w w') : Sp T w' base v L := ⟨ownsRow_kp h.own kk (fun _ _ f => f)⟩
theorem Sp.onN {w0 : World} {p : Nat} (h : Sp T w base v L) (kk : Kp (On p) w w') (h0 : Sp T w0 base v L) (hp : w0.heap.size ≤ p) : Sp T w' base v L := ⟨ownsRow_kp h.own kk (fun b hb hc => by have := (h0.own.lt b hb).2; have : b = p := hc; omega)⟩
theorem Sp.top (h : Sp T w base v L) : ∀ b, v.ownBlock = some b → b < w.heap.size := fun b hb => (h.own.lt b hb).2
theorem Sp.le (h : Sp T w base (.slice A k c) L) : L.length = k ∧ L.length ≤ c := by
  rcases h.own.2 with ⟨e, hn⟩ | ⟨g, cap, cur, e, _, _, hn, _⟩
  · injection e with e1 e2 e3; omega
  · injection e with e1 e2 e3; subst e2 e3; exact ⟨rfl, hn⟩
theorem Sp.ss (h : Sp T w base (.slice A k c) L) (hok : ∀ s ∈ L, s.ok w) : Ss w A L := by
  refine ⟨hok, fun hl => ?_⟩
  rcases h.own.2 with ⟨e, hn⟩ | ⟨g, cap, cur, e, hb, hh, hn, _, hcs, ht⟩
  · exact absurd (List.eq_nil_of_length_eq_zero hn) hl
  · injection e with e1 e2 e3
    refine ⟨g, 0, e1, fun j u hu => ?_⟩
    have hc : cur[j]? = some u := by
      rw [← ht, List.getElem?_take] at hu
      split at hu
      · simpa using hu
      · cases hu
    rw [Nat.zero_add]
    simp [World.cell?, hh, hc]
structure Apq (T : TypeId) (w : World) (base : Nat) (L : List Shr) (A : Option Addr) (c : Nat) (w' : World) : Prop where
  ob : Sp T w' base (.slice A L.length c) L
  kp : Kp (fun i => base ≤ i) w w'
theorem Aws.handed {w0 : World} {b : Nat} {A0 : Option Addr} (h : ∀ x, A = some x → w0.heap.size ≤ x.block) (hb : b < w0.heap.size) (h0 : Aws (On b) A0 L) : Aws (On b) A L :=
  ⟨fun _ x hx hc => by have := h x hx; have : x.block = b := hc; omega, h0.dat⟩
end
/-! ### the document's way to what goes through parts -/
end Go.Proofs.YtlkbkgghfhoggaaGreatDoor
end
section
set_option linter.unusedVariables false
set_option linter.unusedSimpArgs false
set_option maxHeartbeats 2000000
set_option maxRecDepth 100000
namespace Go.Proofs.YtlkbkgghfhoggaaGreatDoor
open Go.RowKit Gm
theorem shamir_places_gen (A : Option Addr) (M : List Shr) (c q nn ge : Nat) (w : World) (HS : Ss w A M) (hm : (1 ≤ M.length ∧ M.length ≤ 255 ∧ M.length ≤ c) ∧ ge < 4294967296 ∧ ¬ (∀ s ∈ M, s.gen = ge)) : Ret Tryz.prog 59 #[.slice A (M.length) (c), .agg ([.int .i64 ((q + 1 : Nat) : Int), .int .i64 ((nn : Nat) : Int), .int .u32 ((ge : Nat) : Int)] : List Value).toArray] w (fun v w' => v = .tuple #[.slice none 0 0, errE 14] ∧ Kp No w w') := by
 obtain ⟨⟨hm1, hm2, hm3⟩, hge, hng⟩ := hm
 have kk0 := Kp.refl No w
 refine enter (n := 68) [.slice A (M.length) (c), .agg ([.int .i64 ((q + 1 : Nat) : Int), .int .i64 ((nn : Nat) : Int), .int .u32 ((ge : Nat) : Int)] : List Value).toArray] Tryz.func59 rfl rfl rfl ?_
 show Cw _ _ _ _ [(0, .slice A (M.length) (c)), (1, .agg ([.int .i64 ((q + 1 : Nat) : Int), .int .i64 ((nn : Nat) : Int), .int .u32 ((ge : Nat) : Int)] : List Value).toArray)] _
 refine C_seq fun K1 hK1 => C_region <| R_lo (lo_box (L := [.int .i64 ((q + 1 : Nat) : Int), .int .i64 ((nn : Nat) : Int), .int .u32 ((ge : Nat) : Int)]) rfl rfl) rfl ?_
 rintro _ w1 ⟨p0_0, rfl, N1⟩
 have k1 := N1.kp
 have kk1 := kk0.then_ k1
 have f_p0_0_1 := N1.bk
 refine Rp (pu_assign rfl) <| Rp (pu_assign rfl) <| R_nil <| X_then hK1 <| C_seq fun K2 hK2 => C_seq fun K3 hK3 => C_region <| Rp (pu_move rfl) <| Rp (pu_len Tryz.underlying37 rfl) <| Rp (pu_move rfl) <| R_nil <| X_then hK3 <| C_block <| C_loop (fun m_ l_ wr => ∃ i : Nat, (m_ = M.length - i) ∧ (l_ = [(0, .slice A (M.length) (c)), (3, .pointer (some ⟨p0_0, 0, none⟩)), (12, .slice A (M.length) (c)), (13, .int .i64 ((M.length : Nat) : Int)), (14, .int .i64 ((i : Nat) : Int))]) ∧ (i ≤ M.length) ∧ (∀ s ∈ M.take i, s.gen = ge) ∧ (Kp No w wr) ∧ (Bk wr p0_0 ([.int .i64 ((q + 1 : Nat) : Int), .int .i64 ((nn : Nat) : Int), .int .u32 ((ge : Nat) : Int)]) 34)) (M.length - 0) [(0, .slice A (M.length) (c)), (3, .pointer (some ⟨p0_0, 0, none⟩)), (12, .slice A (M.length) (c)), (13, .int .i64 ((M.length : Nat) : Int)), (14, .int .i64 0)] (Sub.cons rfl (Sub.cons rfl (Sub.cons rfl (Sub.cons rfl (Sub.cons rfl (Sub.nil _)))))) ⟨0, rfl, rfl, by omega, (by simp), kk1, f_p0_0_1⟩ ?_
 rintro _ _ w2 ⟨i, rfl, rfl, hi, hg, kk2, f_p0_0_2⟩
 refine C_seq fun K4 hK4 => C_region <| Rp (pu_lss (p := i < M.length) rfl rfl (by omega)) <| R_nil <| X_then hK4 <| C_seq fun K5 hK5 => C_dec rfl (fun h15 => ?_) (fun h15 => ?_)
 ·
  refine C_skip <| X_then hK5 <| C_seq fun K6 hK6 => C_block <| C_seq fun K7 hK7 => C_region ?_
  obtain ⟨s1, e_s1⟩ : ∃ q_, (M)[i]? = some q_ := ⟨_, List.getElem?_eq_getElem (by first | omega | (simp; done) | (simp; omega))⟩
  have ok_s1 := HS.get e_s1
  have okb_s1 := ok_s1.bs
  have bi_s1 : s1.ix < 256 := ok_s1.ix
  refine Rp (pu_indexAddrH (HS.keptNo kk2) Tryz.underlying37 (by kernel_rfl) rfl rfl rfl rfl e_s1) <| Rp (pu_loadHr (HS.keptNo kk2) e_s1 (by kernel_rfl) (by kernel_rfl) rfl) <| R_lo (lo_alloc (L := [.int .u8 0, .int .u32 0, .slice none (0) (0)]) (by kernel_rfl)) rfl ?_
  rintro _ w3 ⟨a1, rfl, N3⟩
  have k3 := N3.kp
  have kk3 := kk2.then_ k3
  have ne_a1_p0_0 := Nat.ne_of_gt (Nat.lt_of_lt_of_le f_p0_0_2.lt N3.le)
  have f_a1_3 := N3.bk
  refine R_lo0 (lo_storeRow (C := [.int .u8 ((s1.ix : Nat) : Int), .int .u32 ((s1.gen : Nat) : Int), .slice s1.A (s1.X.length) (s1.c)]) f_a1_3 (by kernel_rfl) rfl rfl (by intro u hu; simp at hu; rcases hu with rfl | rfl | rfl <;> rfl) rfl) ?_
  rintro _ w4 kf4
  obtain ⟨k4, f_a1_4⟩ := kf4
  replace f_a1_4 : Bk w4 a1 ([.int .u8 ((s1.ix : Nat) : Int), .int .u32 ((s1.gen : Nat) : Int), .slice s1.A (s1.X.length) (s1.c)]) 51 := f_a1_4
  have kk4 := kk3.trans k4 (fun i hi => .inr (hi ▸ (Nat.le_trans kk2.size N3.le)))
  refine R_nil <| X_then hK7 <| C_seq fun K8 hK8 => C_region <| Rp (pu_fieldAddr (off := 1) (o' := 1) (by kernel_rfl) rfl rfl) <| Rp (pu_loadK f_a1_4 (by kernel_rfl) rfl rfl) <| Rp (pu_fieldAddr (off := 2) (o' := 2) (by kernel_rfl) rfl rfl) ?_
  have f9 := ((f_p0_0_2.no k3).on k4 (Ne.symm ne_a1_p0_0))
  refine Rp (pu_loadK f9 (by kernel_rfl) rfl rfl) <| Rp (pu_neq (p := s1.gen = ge) rfl rfl (by omega)) <| R_nil <| X_then hK8 <| C_dec rfl (fun h22 => ?_) (fun h22 => ?_)
  ·
   refine C_seq fun K10 hK10 => C_region <| Rp (pu_makeInterface Tryz.underlying76 rfl rfl) <| Rp (pu_assign rfl) <| Rp (pu_assign rfl) <| R_nil <| X_then hK10 <| C_ret <| X_in_ret (X_then_ret (X_then_ret (X_in_ret (X_then_ret ?_))))
   exact X_ret2 (.inl rfl) rfl rfl rfl ⟨rfl, kk4⟩
  ·
   refine C_skip <| X_in_normal <| X_then hK6 <| C_region <| Rp (pu_add (z := ((i + 1 : Nat) : Int)) rfl rfl (by rw [IntKind.wrap_i64]; omega)) <| Rp (pu_move rfl) <| R_nil <| X_round (M.length - (i + 1)) [(0, .slice A (M.length) (c)), (3, .pointer (some ⟨p0_0, 0, none⟩)), (12, .slice A (M.length) (c)), (13, .int .i64 ((M.length : Nat) : Int)), (14, .int .i64 (((i + 1) : Nat) : Int))] (by omega) (Sub.cons rfl (Sub.cons rfl (Sub.cons rfl (Sub.cons rfl (Sub.cons rfl (Sub.nil _)))))) ⟨i + 1, rfl, rfl, by omega, (gens_step hg e_s1 (by omega)), kk4, f9⟩
 ·
  refine C_exit <| X_then_exit (X_then_exit (X_in_eq ?_))
  exact X_then hK2 <| C_seq fun K11 hK11 => absurd (gens_end hg (by omega)) hng
theorem shamir_through_gen (b : Nat) (A : Option Addr) (L : List Shr) (c q nn ge : Nat) (x : Nat) (w : World) (HS : Ss w A L) (hm : (2 ≤ q + 1 ∧ q + 1 ≤ nn ∧ nn ≤ 255) ∧ (q + 1 ≤ L.length ∧ L.length ≤ c ∧ L.length < 9223372036854775808) ∧ ge < 4294967296 ∧ ¬ (∀ s ∈ L.take (q + 1), s.gen = ge)) : Ret Tryz.prog 38 #[.pointer (some ⟨b, 0, none⟩), .slice A (L.length) (c), .agg ([.int .i64 ((q + 1 : Nat) : Int), .int .i64 ((nn : Nat) : Int), .int .u32 ((ge : Nat) : Int)] : List Value).toArray, .int .u8 ((x : Nat) : Int)] w (fun v w' => v = .tuple #[.slice none 0 0, errE 14] ∧ Kp No w w') := by
 obtain ⟨hP, ⟨hl1, hl2, hl3⟩, hge, hx1⟩ := hm
 have kk0 := Kp.refl No w
 refine enter (n := 92) [.pointer (some ⟨b, 0, none⟩), .slice A (L.length) (c), .agg ([.int .i64 ((q + 1 : Nat) : Int), .int .i64 ((nn : Nat) : Int), .int .u32 ((ge : Nat) : Int)] : List Value).toArray, .int .u8 ((x : Nat) : Int)] Tryz.func38 rfl rfl rfl ?_
 show Cw _ _ _ _ [(0, .pointer (some ⟨b, 0, none⟩)), (1, .slice A (L.length) (c)), (2, .agg ([.int .i64 ((q + 1 : Nat) : Int), .int .i64 ((nn : Nat) : Int), .int .u32 ((ge : Nat) : Int)] : List Value).toArray), (3, .int .u8 ((x : Nat) : Int))] _
 refine C_seq fun K1 hK1 => C_region <| R_lo (lo_box (L := [.int .i64 ((q + 1 : Nat) : Int), .int .i64 ((nn : Nat) : Int), .int .u32 ((ge : Nat) : Int)]) rfl rfl) rfl ?_
 rintro _ w1 ⟨p0_0, rfl, N1⟩
 have k1 := N1.kp
 have kk1 := kk0.then_ k1
 have f_p0_0_1 := N1.bk
 refine Rp (pu_assign rfl) <| Rp (pu_assign rfl) <| R_nil <| X_then hK1 <| C_seq fun K2 hK2 => C_block <| C_seq fun K3 hK3 => C_region <| Rp (pu_move rfl) <| Rp (pu_eqlpn (by kernel_rfl) rfl rfl) <| Rp (pu_move rfl) <| Rg (pu_loadRow (len := 3) f_p0_0_1 (by kernel_rfl) (by kernel_rfl) rfl rfl) <| R_glo rfl rfl (lo_call (by kernel_rfl) rfl (shamir_check_yes q nn ge _ hP)) rfl ?_
 rintro _ w2 ⟨rfl, k2⟩
 have kk2 := kk1.then_ k2
 refine Rg (pu_neqnn (by kernel_rfl) rfl) <| Rp (pu_pickf rfl rfl) <| Rp (pu_assign rfl) <| R_nil <| X_then hK3 <| C_false rfl <| C_seq fun K4 hK4 => C_region <| Rp (pu_move rfl) <| Rp (pu_len Tryz.underlying37 rfl) <| Rp (pu_fieldAddr (off := 0) (o' := 0) (by kernel_rfl) rfl rfl) ?_
 have f5 := (f_p0_0_1.no k2)
 refine Rp (pu_loadK f5 (by kernel_rfl) rfl rfl) <| Rp (pu_false (pu_lss (p := L.length < (q + 1)) rfl rfl (by omega)) (by omega)) <| Rp (pu_assign rfl) <| R_nil <| X_then hK4 <| C_false rfl <| C_skip <| X_in_normal <| X_then hK2 <| C_seq fun K6 hK6 => C_region <| Rp (pu_move rfl) <| Rp (pu_fieldAddr (off := 0) (o' := 0) (by kernel_rfl) rfl rfl) <| Rp (pu_loadK f5 (by kernel_rfl) rfl rfl) ?_
 have HSt7 := HS.take (q + 1)
 have ln_HSt7 : (L.take (q + 1)).length = q + 1 := by rw [List.length_take]; omega
 refine Rp (pu_sliceHi (hi := q + 1) (s := 3) Tryz.underlying37 (by kernel_rfl) rfl rfl rfl (by omega)) <| Rp (pu_assign rfl) <| R_nil <| X_then hK6 <| C_seq (fun K8 hK8 => ?_)
 obtain ⟨M, hM⟩ : ∃ M, M = L.take (q + 1) := ⟨_, rfl⟩
 have hML : M.length = q + 1 := by rw [hM, List.length_take]; omega
 have HSM : Ss w A M := by rw [hM]; exact HS.take _
 rw [← hM] at hx1
 refine C_region <| Rp (pu_move rfl) <| Rp (pu_loadRow (len := 3) f5 (by kernel_rfl) (by kernel_rfl) rfl rfl) <| R_lo (lo_callE (by kernel_rfl) rfl (by rw [hML] <;> rfl) (shamir_places_gen A M c q nn ge _ (HSM.keptNo kk2) ⟨⟨by omega, by omega, by omega⟩, hge, hx1⟩)) rfl ?_
 rintro _ w3 ⟨rfl, k3⟩
 have kk3 := kk2.then_ k3
 exact Rp (pu_move rfl) <| Rp (pu_extract rfl rfl) <| Rp (pu_extract rfl rfl) <| Rp (pu_assign rfl) <| Rp (pu_assign rfl) <| R_nil <| X_then hK8 <| C_seq fun K9 hK9 => C_seq fun K10 hK10 => C_region <| Rp (pu_move rfl) <| Rp (pu_neqin (by kernel_rfl) rfl rfl) <| R_nil <| X_then hK10 <| C_true rfl <| C_seq fun K11 hK11 => C_region <| Rp (pu_move rfl) <| Rp (pu_assign rfl) <| Rp (pu_assign rfl) <| R_nil <| X_then hK11 <| C_ret <| X_then_ret <| X_ret2 (.inl rfl) rfl rfl rfl ⟨rfl, kk3⟩
theorem shamir_combine_gen (b : Nat) (A : Option Addr) (L : List Shr) (c q nn ge : Nat) (w : World) (HS : Ss w A L) (hm : (2 ≤ q + 1 ∧ q + 1 ≤ nn ∧ nn ≤ 255) ∧ (q + 1 ≤ L.length ∧ L.length ≤ c ∧ L.length < 9223372036854775808) ∧ ge < 4294967296 ∧ ¬ (∀ s ∈ L.take (q + 1), s.gen = ge)) : Ret Tryz.prog 21 #[.pointer (some ⟨b, 0, none⟩), .slice A (L.length) (c), .agg ([.int .i64 ((q + 1 : Nat) : Int), .int .i64 ((nn : Nat) : Int), .int .u32 ((ge : Nat) : Int)] : List Value).toArray] w (fun v w' => v = .tuple #[.slice none 0 0, errE 14] ∧ Kp No w w') := by
 have kk0 := Kp.refl No w
 refine enter (n := 14) [.pointer (some ⟨b, 0, none⟩), .slice A (L.length) (c), .agg ([.int .i64 ((q + 1 : Nat) : Int), .int .i64 ((nn : Nat) : Int), .int .u32 ((ge : Nat) : Int)] : List Value).toArray] Tryz.func21 rfl rfl rfl ?_
 show Cw _ _ _ _ [(0, .pointer (some ⟨b, 0, none⟩)), (1, .slice A (L.length) (c)), (2, .agg ([.int .i64 ((q + 1 : Nat) : Int), .int .i64 ((nn : Nat) : Int), .int .u32 ((ge : Nat) : Int)] : List Value).toArray)] _
 refine C_seq fun K1 hK1 => C_region <| R_lo (lo_box (L := [.int .i64 ((q + 1 : Nat) : Int), .int .i64 ((nn : Nat) : Int), .int .u32 ((ge : Nat) : Int)]) rfl rfl) rfl ?_
 rintro _ w1 ⟨p0_0, rfl, N1⟩
 have k1 := N1.kp
 have kk1 := kk0.then_ k1
 have f_p0_0_1 := N1.bk
 refine Rp (pu_assign rfl) <| Rp (pu_assign rfl) <| R_nil <| X_then hK1 <| C_seq fun K2 hK2 => C_region <| Rp (pu_move rfl) <| Rp (pu_move rfl) <| Rp (pu_loadRow (len := 3) f_p0_0_1 (by kernel_rfl) (by kernel_rfl) rfl rfl) <| R_lo (lo_call (by kernel_rfl) rfl (shamir_through_gen b A L c q nn ge 0 _ (HS.keptNo kk1) hm)) rfl ?_
 rintro _ w2 ⟨rfl, k2⟩
 have kk2 := kk1.then_ k2
 exact Rp (pu_extract rfl rfl) <| Rp (pu_extract rfl rfl) <| Rp (pu_assign rfl) <| Rp (pu_assign rfl) <| R_nil <| X_then hK2 <| C_ret <| X_ret2 (.inl rfl) rfl rfl rfl ⟨rfl, kk2⟩
end Go.Proofs.YtlkbkgghfhoggaaGreatDoor
end
