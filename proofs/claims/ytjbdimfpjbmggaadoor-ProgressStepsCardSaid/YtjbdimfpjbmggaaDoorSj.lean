/- Parts that do not go together; parts handed on. -/
import Derived.Test.YtjbdimfpjbmggaaDoorSi
set_option linter.unusedVariables false
set_option linter.unusedSimpArgs false
namespace Go.Proofs.YtjbdimfpjbmggaaDoor
open Go.RowKit Gm
/-- What is asked of parts, but for their generation. -/
structure ShOk (M : List Shr) : Prop where
  ix0 : ∀ s ∈ M, s.ix ≠ 0
  len : ∀ s ∈ M, ∀ t, M[0]? = some t → s.X.length = t.X.length
  siz : ∀ s ∈ M, 1 ≤ s.X.length ∧ s.X.length ≤ 64
  di : Di (ixs M)
def Sk (M : List Shr) (i : Nat) : Prop :=
  (∀ k s, k < i → M[k]? = some s → s.ix ≠ 0 ∧ (∀ t, M[0]? = some t → s.X.length = t.X.length) ∧ (1 ≤ s.X.length ∧ s.X.length ≤ 64)) ∧ (∀ a b, a < b → b < i → (ixs M).getD a 0 ≠ (ixs M).getD b 0)
theorem Sk.zero (M : List Shr) : Sk M 0 := ⟨fun _ _ h => absurd h (Nat.not_lt_zero _), fun _ _ _ h => absurd h (Nat.not_lt_zero _)⟩
theorem Sk.step {M : List Shr} {i : Nat} {s t : Shr} (h : Sk M i) (e : M[i]? = some s) (h0 : M[0]? = some t) (hz : s.ix ≠ 0) (hl : s.X.length = t.X.length) (hs : 1 ≤ s.X.length ∧ s.X.length ≤ 64) (hd : ∀ a, a < i → (ixs M).getD a 0 ≠ s.ix) : Sk M (i + 1) := by
  refine ⟨fun k u hk hu => ?_, fun a b hab hb => ?_⟩
  · rcases Nat.lt_or_ge k i with h1 | h1
    · exact h.1 k u h1 hu
    · obtain rfl : k = i := by omega
      rw [e] at hu; cases hu
      exact ⟨hz, fun t' ht' => by rw [h0] at ht'; cases ht'; exact hl, hs⟩
  · rcases Nat.lt_or_ge b i with h1 | h1
    · exact h.2 a b hab h1
    · obtain rfl : b = i := by omega
      rw [getD_some (ixs_get e)]; exact hd a hab
theorem Sk.ok {M : List Shr} {i : Nat} (h : Sk M i) (hi : M.length ≤ i) : ShOk M := by
  have at_ : ∀ s ∈ M, ∃ k, k < i ∧ M[k]? = some s := fun s hs => by
    obtain ⟨k, hk, e⟩ := List.getElem_of_mem hs
    exact ⟨k, by omega, List.getElem?_eq_some_iff.2 ⟨hk, e⟩⟩
  refine ⟨fun s hs => ?_, fun s hs => ?_, fun s hs => ?_, fun a b hab hb => ?_⟩
  · obtain ⟨k, hk, e⟩ := at_ s hs; exact (h.1 k s hk e).1
  · obtain ⟨k, hk, e⟩ := at_ s hs; exact (h.1 k s hk e).2.1
  · obtain ⟨k, hk, e⟩ := at_ s hs; exact (h.1 k s hk e).2.2
  · rw [ixs_length] at hb; exact h.2 a b hab (by omega)
theorem seen0_false {l : List Nat} {i n : Nat} (hi : i ≤ l.length) (h : seen0 l i n = false) : n ≠ 0 ∧ ∀ a, a < i → l.getD a 0 ≠ n := by
  unfold seen0 at h
  rw [Bool.or_eq_false_iff] at h
  refine ⟨of_decide_eq_false h.1, fun a ha e => ?_⟩
  refine of_decide_eq_false h.2 ?_
  rw [← e, List.getD_eq_getElem?_getD, List.getElem?_eq_getElem (by omega : a < l.length)]
  exact List.mem_take_iff_getElem.2 ⟨a, by omega, rfl⟩
theorem good_ok {M : List Shr} {ge : Nat} {t : Shr} (hg : ∀ s ∈ M, s.gen = ge) (h : ShOk M) (h0 : M[0]? = some t) : Good M ge t.X.length :=
  ⟨hg, h.ix0, fun s hs => h.len s hs t h0, h.di, (h.siz t (List.mem_of_getElem? h0)).1, (h.siz t (List.mem_of_getElem? h0)).2⟩
theorem ok_good {M : List Shr} {ge N : Nat} (h : Good M ge N) : ShOk M := ⟨h.ix0, fun s hs t ht => (h.len s hs).trans (h.leni ht).symm, fun s hs => by rw [h.len s hs]; exact ⟨h.n1, h.n2⟩, h.di⟩
theorem gens_step {M : List Shr} {ge i : Nat} {s : Shr} (h : ∀ s ∈ M.take i, s.gen = ge) (e : M[i]? = some s) (hg : s.gen = ge) : ∀ s ∈ M.take (i + 1), s.gen = ge := fun u hu => by
  rw [List.take_add_one, e] at hu
  rcases List.mem_append.1 hu with h1 | h1
  · exact h u h1
  · obtain rfl : u = s := by simpa using h1
    exact hg
theorem gens_end {M : List Shr} {ge i : Nat} (h : ∀ s ∈ M.take i, s.gen = ge) (hi : M.length ≤ i) : ∀ s ∈ M, s.gen = ge := by rwa [List.take_of_length_le hi] at h
section
variable {P : Program} {l : List (Nat × Value)} {w : World} {x y : Operand} {t e : TypeId} {k : IntKind} {A : Option Addr} {L : List Shr} {m : Nat} {s : Shr}
theorem pu_indexAddrL {len c : Nat} {i : Int} (hS : Ss w A L) (hu : P.underlying t = some (.slice e)) (hs : sizeB P e 3 = true) (hx : lk l x = some (.slice A len c)) (hl : L.length ≤ len) (hy : lk l y = some (.int k i)) (hi : i = (m : Int)) (hm : L[m]? = some s) :
    Pu P (.indexAddr t x y) l w (.pointer (some ((adr A).add (m * 3)))) := by
  have h0 := (hS.adr hm).1
  have hlt := (List.getElem?_eq_some_iff.1 hm).1
  exact pu_indexAddrS (w := w) (q := adr A) (c := c) hu hs (by rw [← h0]; exact hx) hy hi (by omega)
end
/-! ### parts handed on: the row alone is the call's own -/
structure Sp (T : TypeId) (w : World) (base : Nat) (v : Value) (L : List Shr) : Prop where
  own : w.ownsRow base T 3 v L.length (shsC L)
section
variable {T TS : TypeId} {n : Nat} {l : List (Nat × Value)} {w w' : World} {d? : Option Tmp} {ty : TypeId} {pos : String} {af : Array Edge} {g? : Option (Nat × Bool)} {x y : Operand} {v : Value} {A B : Option Addr} {L M : List Shr} {c c' k k' base : Nat}
theorem Sp.nil (T : TypeId) (w : World) (base : Nat) : Sp T w base (.slice none 0 0) [] := ⟨World.ownsRow_nil w base T 3⟩
theorem Sp.keptNo (h : Sp T w base v L) (kk : Kp No w w') : Sp T w' base v L := ⟨ownsRow_kp h.own kk (fun _ _ f => f)⟩
theorem Sp.onN {w0 : World} {p : Nat} (h : Sp T w base v L) (kk : Kp (On p) w w') (h0 : Sp T w0 base v L) (hp : w0.heap.size ≤ p) : Sp T w' base v L := ⟨ownsRow_kp h.own kk (fun b hb hc => by have := (h0.own.lt b hb).2; have : b = p := hc; omega)⟩
theorem Sp.top (h : Sp T w base v L) : ∀ b, v.ownBlock = some b → b < w.heap.size := fun b hb => (h.own.lt b hb).2
theorem Sp.le (h : Sp T w base (.slice A k c) L) : L.length = k ∧ L.length ≤ c := by
  rcases h.own.2 with ⟨e, hn⟩ | ⟨g, cap, cur, e, _, _, hn, _⟩
  · injection e with e1 e2 e3; omega
  · injection e with e1 e2 e3; subst e2 e3; exact ⟨rfl, hn⟩
theorem Sp.ss (h : Sp T w base (.slice A k c) L) (hok : ∀ s ∈ L, s.ok w) : Ss w A L := by
  refine ⟨hok, fun hl => ?_⟩
  rcases h.own.2 with ⟨e, hn⟩ | ⟨g, cap, cur, e, hb, hh, hn, _, hcs, ht⟩
  · exact absurd (List.eq_nil_of_length_eq_zero hn) hl
  · injection e with e1 e2 e3
    refine ⟨g, 0, e1, fun j u hu => ?_⟩
    have hc : cur[j]? = some u := by
      rw [← ht, List.getElem?_take] at hu
      split at hu
      · simpa using hu
      · cases hu
    rw [Nat.zero_add]
    simp [World.cell?, hh, hc]
structure Apq (T : TypeId) (w : World) (base : Nat) (L : List Shr) (A : Option Addr) (c : Nat) (w' : World) : Prop where
  ob : Sp T w' base (.slice A L.length c) L
  kp : Kp (fun i => base ≤ i) w w'
theorem lo_appq {p : Nat} (hu : Tryd.prog.underlying TS = some (.slice T)) (hinfo : (Tryd.prog.info? T).map (fun i => (i.zero, i.size, i.bytes)) = some (some zShr, 3, 32)) (h : Sp T w base (.slice A k c) L) (hk : L.length = k) (hx : lk l x = some (.slice A k c)) (hy : lk l y = some (.slice (some ⟨p, 0, none⟩) k' c')) (hk' : M.length = k')
    (hB : Bk w p (shsC M) T) (hlen : L.length + M.length ≤ 1000000) (hbase : base ≤ w.heap.size) :
    Lo Tryd.prog ⟨d?, .call ⟨.builtin .append, #[x, y], #[TS, TS]⟩, ty, pos, af, g?⟩ n l w (fun v w' => ∃ A' c', v = .slice A' (L ++ M).length c' ∧ Apq T w base (L ++ M) A' c' w') := by
  subst hk hk'
  obtain ⟨i, hi, hzz⟩ := Option.map_eq_some_iff.1 hinfo
  simp only [Prod.mk.injEq] at hzz
  obtain ⟨v', w', r, r1, r2, r3, r4⟩ := run_append_own_at (P := Tryd.prog) w base TS ty T i zShr 3 32 hu hi hzz.1 hzz.2.1 hzz.2.2 rfl (by decide) (.slice A L.length c) L.length (shsC L) h.own ⟨p, 0, none⟩ M.length c' (shsC M) (shsC_length M)
    (fun j u hu => by rw [add_at, Nat.zero_add]; exact hB.cell hu) (shsC_one M) (by unfold maxLen; omega) (by omega) hbase
  have hkp : Kp (fun i => (Value.slice A L.length c).ownBlock = some i) w w' := (Kp.refl _ w).grown r2 (fun b hb => .inl hb)
  obtain ⟨A', c2, rfl⟩ : ∃ A' c2, v' = .slice A' (L ++ M).length c2 := by
    rcases r1.2 with ⟨e, e0⟩ | ⟨g, cap, cur, e, _⟩
    · exact ⟨none, 0, by rw [e, List.length_append, e0]⟩
    · exact ⟨_, _, by rw [e, List.length_append]⟩
  refine lo_run (v := .slice A' (L ++ M).length c2) (w' := w') (fun a ha => ?_) ⟨A', c2, rfl, ⟨by rw [shsC_append]; rw [List.length_append] at r1 ⊢; exact r1⟩, hkp.mono (fun i hi => (h.own.lt i hi).1)⟩
  unfold execOp
  simp only [resolve, invoke, builtin, Sem.run_bind, Sem.run_pure, Result.andThen_ok, List.map_toArray, List.map_cons, List.map_nil, ha.eval hx, ha.eval hy, r]
theorem Aws.handed {w0 : World} {b : Nat} {A0 : Option Addr} (h : ∀ x, A = some x → w0.heap.size ≤ x.block) (hb : b < w0.heap.size) (h0 : Aws (On b) A0 L) : Aws (On b) A L :=
  ⟨fun _ x hx hc => by have := h x hx; have : x.block = b := hc; omega, h0.dat⟩
end
theorem Sp.lowx {T : TypeId} {w : World} {base k c : Nat} {A : Option Addr} {L : List Shr} (h : Sp T w base (.slice A k c) L) : ∀ x, A = some x → base ≤ x.block := fun x hx => (h.own.lt x.block (by rw [hx]; rfl)).1
theorem takeS {L : List Shr} {i : Nat} {s : Shr} (e : L[i]? = some s) : L.take i ++ [s] = L.take (i + 1) := by rw [List.take_add_one, e]; rfl
theorem hI_step {M : List Shr} {k i : Nat} {s2 s3 s4 : Shr} (hI : ∀ a, a < k → (ixs M).getD a 0 ≠ s2.ix) (e2 : M[i]? = some s2) (e3 : M[k]? = some s3) (e4 : M[i]? = some s4) (h : ¬ s3.ix = s4.ix) : ∀ a, a < k + 1 → (ixs M).getD a 0 ≠ s2.ix := fun a ha => by
  rcases Nat.lt_or_ge a k with h1 | h1
  · exact hI a h1
  · rw [show a = k by omega, getD_some (ixs_get e3)]
    rw [e2] at e4; cases e4; exact h
/-! ### the document's way to what goes through parts -/
theorem hE_two {y x : Nat} (hy : y < 256) : hE [0, y] x = gmul y x := by
  rw [hE_cons, hE_cons]
  show gmul (gmul 0 x ^^^ y) x ^^^ 0 = gmul y x
  rw [zero_gmul, Nat.zero_xor, Nat.xor_zero]
theorem ipN_step {xs ys : List Nat} {x i y w : Nat} (hy : ys[i]? = some y) (hw : w = wt xs x i) (hy2 : y < 256) : ipN xs ys x i ^^^ hE [0, y] w = ipN xs ys x (i + 1) := by
  rw [hE_two hy2, hw, gmul_comm, ← getD_some hy]; rfl
def thT (M : List Shr) (x j : Nat) : List Nat := arr j (thv M x)
theorem thT_length (M : List Shr) (x j : Nat) : (thT M x j).length = j := arr_length _ _
theorem thT_snoc (M : List Shr) (x j : Nat) : thT M x j ++ [thv M x j] = thT M x (j + 1) := by unfold thT arr; rw [List.range_succ, List.map_append]; rfl
theorem thT_end {M : List Shr} {N x j : Nat} (h : j = N) : thT M x j = thX M N x := by subst h; rfl
end Go.Proofs.YtjbdimfpjbmggaaDoor
