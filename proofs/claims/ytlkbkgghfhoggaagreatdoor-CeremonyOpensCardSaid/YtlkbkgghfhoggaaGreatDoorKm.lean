/- Keys out of keys, and nonces: what they are. -/
import Derived.Test.YtlkbkgghfhoggaaGreatDoorKd
import Derived.Test.YtlkbkgghfhoggaaGreatDoorFt
import Derived.Test.YtlkbkgghfhoggaaGreatDoorAe
import Derived.Test.YtlkbkgghfhoggaaGreatDoorHv8
import Derived.Test.YtlkbkgghfhoggaaGreatDoorKj
import Derived.Test.YtlkbkgghfhoggaaGreatDoorHw1
section
set_option linter.unusedVariables false
set_option linter.unusedSimpArgs false
namespace Go.Proofs.YtlkbkgghfhoggaaGreatDoor
open Go.RowKit
/-! ### worlds -/
theorem Sx.cells {w : World} {b : Nat} (h : Sx w b) : ∃ o : Obj, w.heap[b]? = some o ∧ o.isCells = true := h.elim Bk.cells Bk.cells
theorem Sx.bw {A B : World} {B0 b : Nat} (h : Sx A b) (k : Bw B0 A B) : Sx B b := h.imp (fun h => h.bw k) (fun h => h.bw k)
theorem Aw.two {d b : Nat} {A : Option Addr} {X : List Nat} (h : Aw (On d) A X) (h2 : Aw (On b) A X) : Aw (Ons [d, b]) A X := fun hx x e hs => by
  rcases List.mem_cons.1 hs with h' | h'
  · exact h hx x e h'
  · exact h2 hx x e (List.mem_singleton.1 h')
theorem Aw.snd {d b : Nat} {A : Option Addr} {X : List Nat} (h : Aw (Ons [d, b]) A X) : Aw (On b) A X := fun hx x e hs => h hx x e (List.mem_cons_of_mem _ (List.mem_singleton.2 hs))
theorem Ob.cellsF {w : World} {base p k c : Nat} {X : List Nat} (h : Ob w base (.slice (some ⟨p, 0, none⟩) k c) X) : ∃ o : Obj, w.heap[p]? = some o ∧ o.isCells = true := by
  rcases h.own.2 with ⟨e, _⟩ | ⟨g, cap, cur, e, _, hh, _⟩
  · cases e
  · cases e; exact ⟨_, hh, rfl⟩
/-! ### a key -/
def gkL (b : Nat) (H : List Nat) : List Value := .pointer (some ⟨b, 0, none⟩) :: u8s H
theorem gk_mid {b : Nat} {H : List Nat} (h : H.length = 16) : ((gkL b H).drop 1).take 16 = u8s H := List.take_of_length_le (by rw [show (gkL b H).drop 1 = u8s H from rfl, u8s_length, h]; exact Nat.le_refl _)
set_option maxRecDepth 100000 in
theorem gk_built {b : Nat} : ∀ {H : List Nat}, H.length = 16 → (Tryz.prog.built 164 [(0, .pointer (some ⟨b, 0, none⟩)), (1, .agg (u8s H).toArray)]).map Array.toList = some (gkL b H)
  | [a0, a1, a2, a3, a4, a5, a6, a7, a8, a9, a10, a11, a12, a13, a14, a15], _ => by kernel_rfl
/-! ### values -/
def gmH (K : List Nat) : List Nat := encB (KW K) (List.replicate 16 0)
theorem gmH_by (K : List Nat) : By 16 (gmH K) := encB_by _ ⟨List.length_replicate .., fun n hn => by rw [(List.mem_replicate.1 hn).2]; decide⟩
def be4 (n : Nat) : List Nat := [n / 16777216 % 256, n / 65536 % 256, n / 256 % 256, n % 256]
def ctrB (K N : List Nat) (n : Nat) : List Nat := encB (KW K) (N ++ be4 n)
theorem nb_by {N : List Nat} (h : By 12 N) (n : Nat) : By 16 (N ++ be4 n) := ⟨by rw [List.length_append, h.1]; rfl, fun v hv => by
  rcases List.mem_append.1 hv with h1 | h1
  · exact h.2 v h1
  · unfold be4 at h1
    simp only [List.mem_cons, List.not_mem_nil, or_false] at h1
    rcases h1 with rfl | rfl | rfl | rfl <;> exact Nat.mod_lt _ (by decide)⟩
theorem ctrB_by (K : List Nat) {N : List Nat} (h : By 12 N) (n : Nat) : By 16 (ctrB K N n) := encB_by _ (nb_by h n)
theorem ctr_cpy {N : List Nat} (h : N.length = 12) : (List.replicate 16 0).take 0 ++ N.take 12 ++ (List.replicate 16 0).drop (0 + 12) = N ++ List.replicate 4 0 := by
  rw [List.take_zero, List.nil_append, List.take_of_length_le (by omega)]; rfl
theorem n4_by {N : List Nat} (h : By 12 N) : By 16 (N ++ List.replicate 4 0) := ⟨by rw [List.length_append, h.1]; rfl, fun v hv => by
  rcases List.mem_append.1 hv with h1 | h1
  · exact h.2 v h1
  · rw [(List.mem_replicate.1 h1).2]; decide⟩
theorem ctr_set {N : List Nat} (h : N.length = 12) (a b c d : Nat) : ((((N ++ List.replicate 4 0).set 12 a).set 13 b).set 14 c).set 15 d = N ++ [a, b, c, d] := by
  rw [List.set_append_right _ _ (by omega), List.set_append_right _ _ (by omega), List.set_append_right _ _ (by omega), List.set_append_right _ _ (by omega), h]; rfl
def zc (l m : List Nat) : List Nat := List.zipWith (· ^^^ ·) l m
theorem zc_len {l m : List Nat} (h : l.length ≤ m.length) : (zc l m).length = l.length := by unfold zc; rw [List.length_zipWith]; omega
theorem zc_step {l m : List Nat} {i a b : Nat} (ha : l[i]? = some a) (hb : m[i]? = some b) : (zc l m).take i ++ [a ^^^ b] = (zc l m).take (i + 1) := by
  rw [List.take_add_one]
  unfold zc
  rw [List.getElem?_zipWith, ha, hb]; rfl
/-- The pieces js of L, ciphered one after the other. -/
def outN (K N L : List Nat) (js : List Nat) : List Nat := (js.zipIdx).flatMap fun p => zc (chX L p.1) (ctrB K N (2 + p.2))
theorem outN_snoc (K N L : List Nat) (js : List Nat) (j : Nat) : outN K N L (js ++ [j]) = outN K N L js ++ zc (chX L j) (ctrB K N (2 + js.length)) := by
  unfold outN
  rw [List.zipIdx_append, List.flatMap_append]
  simp
theorem outN_len {K N L : List Nat} (hN : By 12 N) : ∀ js : List Nat, (outN K N L js).length ≤ 16 * js.length := fun js => by
  suffices h : ∀ n (js : List Nat), js.length = n → (outN K N L js).length ≤ 16 * n by exact h _ js rfl
  intro n
  induction n with
  | zero => intro js h; rw [List.eq_nil_of_length_eq_zero h]; exact Nat.le_refl _
  | succ n ih =>
    intro js h
    obtain ⟨js', j, rfl⟩ : ∃ js' j, js = js' ++ [j] := ⟨js.dropLast, js.getLast (by intro e; subst e; simp at h), (List.dropLast_concat_getLast _).symm⟩
    have hl : js'.length = n := by simpa using h
    rw [outN_snoc, List.length_append, zc_len (by rw [chX_length, (ctrB_by K hN _).1]; unfold chN; omega), chX_length]
    have := ih js' hl
    unfold chN; omega
def cphB (K N L : List Nat) : List Nat := outN K N L (List.range (nCh L))
def cphF (K N L : List Nat) (i : Nat) : Nat := L.getD i 0 ^^^ (ctrB K N (2 + i / 16)).getD (i % 16) 0
theorem chX_get {L : List Nat} {j i : Nat} (hi : i < 16) : (chX L j)[i]? = L[16 * j + i]? := by unfold chX; rw [List.getElem?_take_of_lt hi, List.getElem?_drop]
theorem outN_range {K N L : List Nat} (hN : By 12 N) : ∀ m, m ≤ nCh L → outN K N L (List.range m) = (List.range (min (16 * m) L.length)).map (cphF K N L)
  | 0, _ => by simp [outN]
  | m + 1, hm => by
    have hn : nCh L = (L.length + 15) / 16 := rfl
    rw [List.range_succ, outN_snoc, outN_range hN m (by omega), List.length_range]
    have e1 : min (16 * m) L.length = 16 * m := by omega
    rw [e1]
    have hc : (chX L m).length = min 16 (L.length - 16 * m) := chX_length L m
    have e2 : min (16 * (m + 1)) L.length = 16 * m + (chX L m).length := by omega
    rw [e2, List.range_add, List.map_append]
    congr 1
    have h16 := (ctrB_by K hN (2 + m)).1
    apply List.ext_getElem?
    intro i
    by_cases hi : i < (chX L m).length
    · have hi16 : i < 16 := by omega
      obtain ⟨a, ha⟩ : ∃ a, (chX L m)[i]? = some a := ⟨_, List.getElem?_eq_getElem hi⟩
      obtain ⟨b, hb⟩ : ∃ b, (ctrB K N (2 + m))[i]? = some b := ⟨_, List.getElem?_eq_getElem (by omega)⟩
      have ha' : L[16 * m + i]? = some a := by rw [← chX_get hi16]; exact ha
      unfold zc
      rw [List.getElem?_zipWith, ha, hb, List.map_map, List.getElem?_map, List.getElem?_range hi]
      show some (a ^^^ b) = some (cphF K N L (16 * m + i))
      unfold cphF
      rw [List.getD_eq_getElem?_getD, ha', show (16 * m + i) / 16 = m by omega, show (16 * m + i) % 16 = i by omega, List.getD_eq_getElem?_getD, hb]; rfl
    · rw [List.getElem?_eq_none (by rw [zc_len (by omega)]; omega), List.getElem?_eq_none (by rw [List.length_map, List.length_map, List.length_range]; omega)]
theorem cphB_eq {K N L : List Nat} (hN : By 12 N) : cphB K N L = (List.range L.length).map (cphF K N L) := by
  have hn : nCh L = (L.length + 15) / 16 := rfl
  unfold cphB
  rw [outN_range hN _ (Nat.le_refl _), show min (16 * nCh L) L.length = L.length by omega]
theorem cphB_length {K N L : List Nat} (hN : By 12 N) : (cphB K N L).length = L.length := by rw [cphB_eq hN, List.length_map, List.length_range]
theorem cphB_get {K N L : List Nat} (hN : By 12 N) {i a : Nat} (h : L[i]? = some a) : (cphB K N L)[i]? = some (a ^^^ (ctrB K N (2 + i / 16)).getD (i % 16) 0) := by
  have hi := (List.getElem?_eq_some_iff.1 h).1
  rw [cphB_eq hN, List.getElem?_map, List.getElem?_range hi]
  show some (cphF K N L i) = _
  unfold cphF; rw [List.getD_eq_getElem?_getD, h]; rfl
/-- Ciphered twice it is what it was. -/
theorem cphB_twice {K N L : List Nat} (hN : By 12 N) : cphB K N (cphB K N L) = L := by
  apply List.ext_getElem?
  intro i
  by_cases hi : i < L.length
  · obtain ⟨a, ha⟩ : ∃ a, L[i]? = some a := ⟨_, List.getElem?_eq_getElem hi⟩
    rw [cphB_get hN (cphB_get hN ha), ha, Nat.xor_assoc, Nat.xor_self, Nat.xor_zero]
  · rw [List.getElem?_eq_none (by rw [cphB_length hN, cphB_length hN]; omega), List.getElem?_eq_none (by omega)]
def tagB (K N C D : List Nat) : List Nat := addB (hashB (gmH K) D C) (ctrB K N 1)
theorem tagB_by (K N C D : List Nat) : By 16 (tagB K N C D) := addB_by _ _
def sealB (K N L D : List Nat) : List Nat := cphB K N L ++ tagB K N (cphB K N L) D
/-- Whether a box is opened. -/
abbrev opensB (K N X D : List Nat) : Prop := 16 ≤ X.length ∧ X.drop (X.length - 16) = tagB K N (X.take (X.length - 16)) D
theorem or_zero {a b : Nat} : a ||| b = 0 ↔ a = 0 ∧ b = 0 := ⟨fun h => by
  have h1 : a ≤ a ||| b := Nat.left_le_or
  have h2 : b ≤ a ||| b := Nat.right_le_or
  omega, fun h => by rw [h.1, h.2]; rfl⟩
theorem off_step {T G : List Nat} {i a t off : Nat} (h : off = 0 ↔ T.take i = G.take i) (ea : T[i]? = some a) (et : G[i]? = some t) : off ||| (a ^^^ t) = 0 ↔ T.take (i + 1) = G.take (i + 1) := by
  have hi := (List.getElem?_eq_some_iff.1 ea).1
  have hj := (List.getElem?_eq_some_iff.1 et).1
  rw [or_zero, h, List.take_add_one, List.take_add_one, ea, et]
  constructor
  · rintro ⟨h1, h2⟩
    rw [h1, xor_zero_iff h2]
  · intro h1
    have := List.append_inj h1 (by rw [List.length_take, List.length_take]; omega)
    exact ⟨this.1, by have h2 : [a] = [t] := this.2; injection h2 with h2; rw [h2, Nat.xor_self]⟩
theorem off_lt {off a t : Nat} (h : off < 256) (ha : a < 256) (ht : t < 256) : off ||| (a ^^^ t) < 256 := Nat.or_lt_two_pow (n := 8) h (xor_lt8 ha ht)
theorem sealB_len {K N L D : List Nat} (hN : By 12 N) : (sealB K N L D).length = L.length + 16 := by unfold sealB; rw [List.length_append, cphB_length hN, (tagB_by _ _ _ _).1]
theorem sealB_cut {K N L D : List Nat} (hN : By 12 N) : (sealB K N L D).take ((sealB K N L D).length - 16) = cphB K N L ∧ (sealB K N L D).drop ((sealB K N L D).length - 16) = tagB K N (cphB K N L) D := by
  have h := cphB_length (K := K) (L := L) hN
  rw [sealB_len hN, Nat.add_sub_cancel, ← h]
  unfold sealB
  exact ⟨List.take_left' rfl, List.drop_left' rfl⟩
theorem seal_opens {K N L D : List Nat} (hN : By 12 N) : opensB K N (sealB K N L D) D := ⟨by rw [sealB_len hN]; omega, by rw [(sealB_cut hN).1, (sealB_cut hN).2]⟩
theorem seal_open {K N L D : List Nat} (hN : By 12 N) : cphB K N ((sealB K N L D).take ((sealB K N L D).length - 16)) = L := by rw [(sealB_cut hN).1, cphB_twice hN]
theorem r_add {x y : List Nat} (bx : By 16 x) (b_y : By 16 y) (w : World) : Ret Tryz.prog 73 #[.agg (u8s x).toArray, .agg (u8s y).toArray] w (fun v w' => v = .agg (u8s (addB x y)).toArray ∧ Kp No w w') :=
  Ret.of_calls (c_add bx b_y w) fun _ _ h => ⟨_, h.1, rfl, h.2⟩
theorem r_hash (x : List Nat) (bx : By 16 x) (a1 a2 : Option Addr) (l1 l2 : List Nat) (c1 c2 : Nat) (w : World) (B1 : Bs w a1 l1) (h1 : l1.length ≤ c1) (B2 : Bs w a2 l2) (h2 : l2.length ≤ c2) (s1 : l1.length < 2 ^ 60) (s2 : l2.length < 2 ^ 60) :
    Ret Tryz.prog 74 #[.agg (u8s x).toArray, .slice a1 l1.length c1, .slice a2 l2.length c2] w (fun v w' => v = .agg (u8s (hashB x l1 l2)).toArray ∧ Kp No w w') :=
  Ret.of_calls (gh_hash x bx a1 a2 l1 l2 c1 c2 w B1 h1 B2 h2 s1 s2) fun _ _ h => ⟨_, h.1, rfl, h.2⟩
end Go.Proofs.YtlkbkgghfhoggaaGreatDoor
end
section
set_option linter.unusedVariables false
set_option linter.unusedSimpArgs false
namespace Go.Proofs.YtlkbkgghfhoggaaGreatDoor
open Go.RowKit Gm
def hO (r : Nat) (T : List Nat) : List Nat := if r = 0 then [] else T
theorem hO_len {r : Nat} {T : List Nat} (hT : T.length = 32) (hr : r ≤ 1) : (hO r T).length = 32 * r := by
  unfold hO
  split
  · subst_vars; rfl
  · rw [hT]; omega
theorem hO_one (T : List Nat) : hO 0 T ++ T = hO 1 T := rfl
theorem hO_end (T : List Nat) : hO 1 T = T := rfl
/-- A key of 32 bytes out of another one, for a use. -/
def hkB (K U : List Nat) (n : Nat) : List Nat := macB K ((U ++ [0, n / 16777216 % 256, n / 65536 % 256, n / 256 % 256, n % 256]) ++ [1])
theorem hkB_by (K U : List Nat) (n : Nat) : By 32 (hkB K U n) := macB_by _ _
def nonB (t n : Nat) : List Nat := be4 t ++ be8 n
theorem be4_by (n : Nat) : By 4 (be4 n) := ⟨rfl, fun v hv => by
  unfold be4 at hv
  simp only [List.mem_cons, List.not_mem_nil, or_false] at hv
  rcases hv with rfl | rfl | rfl | rfl <;> exact Nat.mod_lt _ (by decide)⟩
theorem be8_by (n : Nat) : By 8 (be8 n) := ⟨be8_len n, fun v hv => by
  obtain ⟨i, _, rfl⟩ := List.mem_map.1 hv; exact Nat.mod_lt _ (by decide)⟩
theorem be8_st {n i : Nat} (hi : i < 8) : (be8 n).take i ++ [n / 2 ^ (56 - 8 * i) % 256] = (be8 n).take (i + 1) := be8_step hi (by rw [show 56 - 8 * i = 8 * (7 - i) by omega])
theorem nonB_by (t n : Nat) : By 12 (nonB t n) := ⟨by unfold nonB; rw [List.length_append, (be4_by t).1, (be8_by n).1], fun v hv => (List.mem_append.1 hv).elim ((be4_by t).2 v) ((be8_by n).2 v)⟩
theorem bstr_ne0 {U : List Nat} (h : 1 ≤ U.length) (e : bstr U = { data := #[] }) : False := by
  have := congrArg ByteArray.size e
  rw [bstr_size] at this
  have h0 : (ByteArray.mk #[]).size = 0 := rfl
  rw [h0] at this; omega
theorem Od.onE {w w' : World} {base q : Nat} {v : Value} {X : List Nat} (h : Od w base v X) (k : Kp (On q) w w') (hn : ∀ b, v.ownBlock = some b → b ≠ q) : Od w' base v X := h.kept k hn
section
variable {P : Program} {l : List (Nat × Value)} {w : World} {x y z : Operand} {t e len : Nat}
theorem pu_sliceHM {A : Option Addr} {c hi mx s : Nat} {k k' : IntKind} {i j : Int} (hu : P.underlying t = some (.slice e)) (hs : sizeB P e s = true) (hx : lk l x = some (.slice A len c)) (hh : lk l y = some (.int k i)) (hi' : i = (hi : Int)) (hm : lk l z = some (.int k' j)) (hj : j = (mx : Int))
    (h1 : hi ≤ mx) (h2 : mx ≤ c) : Pu P (.slice t x none (some y) (some z)) l w (.slice A hi mx) := fun n B ha d ty pos af g => by
  subst hi' hj
  unfold execOp
  simp only [Option.map_some, Option.map_none, ha.eval hx, ha.eval hh, ha.eval hm]
  have e2 : (0 : Int) ≤ (hi : Int) ∧ (hi : Int) ≤ (mx : Int) := by omega
  have e3 : A.map (·.add (0 * s)) = A := by cases A <;> simp [Addr.add]
  simp only [Instr.sliceAt, Instr.slice, run_underlying hu, Instr.sliceBounds, Instr.sliceBound, asIntOf, Sem.run_bind, Sem.run_pure, Result.andThen_ok]
  simp [run_underlying hu, h1, h2, sizeB_run hs, Addr.add]
end
end Go.Proofs.YtlkbkgghfhoggaaGreatDoor
end
