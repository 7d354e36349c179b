/- Walks: ghash's halves: sums, moved by a place. -/
import Derived.Test.YtlkbkgghfhoggaaGreatDoorFt
import Derived.Laws.IdiomStrings
import Derived.Test.YtlkbkgghfhoggaaGreatDoorHm
import Derived.Test.YtlkbkgghfhoggaaGreatDoorRk2
section
set_option linter.unusedVariables false
set_option linter.unusedSimpArgs false
namespace Go.Proofs.YtlkbkgghfhoggaaGreatDoor
open Go.RowKit
/-- A slice of bytes that lies at base or behind. -/
structure Od (w : World) (base : Nat) (v : Value) (X : List Nat) : Prop where
  rd : ∃ A c, v = .slice A X.length c ∧ Bs w A X ∧ X.length ≤ c ∧ ∀ x, A = some x → base ≤ x.block ∧ x.block < w.heap.size
section
variable {w w' w0 : World} {base p : Nat} {v : Value} {X : List Nat} {S : Nat → Prop}
theorem Od.draw (h : Od w base v X) : Od w.drew base v X := by
  obtain ⟨A, c, rfl, h2, h3, h4⟩ := h.rd
  exact ⟨A, c, rfl, h2.drew, h3, h4⟩
theorem Od.lt (h : Od w base v X) : ∀ b, v.ownBlock = some b → base ≤ b ∧ b < w.heap.size := fun b hb => by
  obtain ⟨A, c, rfl, _, _, h4⟩ := h.rd
  cases A with
  | none => cases hb
  | some a => exact (Option.some.inj hb) ▸ h4 a rfl
theorem Od.kept (h : Od w base v X) (k : Kp S w w') (hn : ∀ b, v.ownBlock = some b → ¬ S b) : Od w' base v X := by
  obtain ⟨A, c, rfl, h2, h3, h4⟩ := h.rd
  exact ⟨A, c, rfl, h2.keptS k (fun _ x hx => hn x.block (by rw [hx]; rfl)), h3, fun x hx => ⟨(h4 x hx).1, Nat.lt_of_lt_of_le (h4 x hx).2 k.size⟩⟩
theorem Od.keptNo (h : Od w base v X) (k : Kp No w w') : Od w' base v X := h.kept k (fun _ _ f => f)
theorem Od.on (h : Od w base v X) (k : Kp (On p) w w') (hp : p < base) : Od w' base v X := h.kept k (fun b hb hc => by have := (h.lt b hb).1; have : b = p := hc; omega)
theorem Od.onN (h : Od w base v X) (k : Kp (On p) w w') (h0 : Od w0 base v X) (hp : w0.heap.size ≤ p) : Od w' base v X := h.kept k (fun b hb hc => by have := (h0.lt b hb).2; have : b = p := hc; omega)
theorem Od.top (h : Od w base v X) : ∀ b, v.ownBlock = some b → b < w.heap.size := fun b hb => (h.lt b hb).2
theorem Od.onT {lim : Nat} (h : Od w base v X) (k : Kp (On p) w w') (hl : ∀ b, v.ownBlock = some b → b < lim) (hp : lim ≤ p) : Od w' base v X := h.kept k (fun b hb hc => by have := hl b hb; have : b = p := hc; omega)
theorem Ob.onT {lim : Nat} (h : Ob w base v X) (k : Kp (On p) w w') (hl : ∀ b, v.ownBlock = some b → b < lim) (hp : lim ≤ p) : Ob w' base v X := h.kept k (fun b hb hc => by have := hl b hb; have : b = p := hc; omega)
theorem Od.bs {A : Option Addr} {n c : Nat} (h : Od w base (.slice A n c) X) : Bs w A X := by
  obtain ⟨A', c', e, h2, _⟩ := h.rd
  injection e with e1 e2 e3; rw [e1]; exact h2
theorem Od.le {A : Option Addr} {n c : Nat} (h : Od w base (.slice A n c) X) : X.length = n ∧ X.length ≤ c := by
  obtain ⟨A', c', e, _, h3, _⟩ := h.rd
  injection e with e1 e2 e3; exact ⟨e2.symm, by rw [e3]; exact h3⟩
end
theorem Od.aw {w : World} {base n c p : Nat} {A : Option Addr} {X : List Nat} (h : Od w base (.slice A n c) X) (hp : p < base) : Aw (On p) A X := fun _ x hx hc => by
  have := (h.lt x.block (by rw [hx]; rfl)).1
  have : x.block = p := hc
  omega
theorem Od.ofBk {w : World} {p n t : Nat} {X : List Nat} (h : Bk w p (u8s X) t) (b : By n X) : Od w 0 (.slice (some ⟨p, 0, none⟩) X.length n) X :=
  ⟨_, _, rfl, Bs.ofBk h b, Nat.le_of_eq b.1, fun x e => by cases e; exact ⟨Nat.zero_le _, h.lt⟩⟩
theorem Ob.cap {w : World} {base n c : Nat} {A : Option Addr} {X : List Nat} (h : Ob w base (.slice A n c) X) : c ≤ maxLen := by
  rcases h.own.2 with ⟨e, _⟩ | ⟨g, cap, cur, e, _, _, _, hm, _⟩
  · injection e with e1 e2 e3; rw [e3]; exact Nat.zero_le _
  · injection e with e1 e2 e3; rw [e3]; exact hm
theorem Od.low {w : World} {base b2 : Nat} {v : Value} {X : List Nat} (h : Od w base v X) (hb : b2 ≤ base) : Od w b2 v X := by
  obtain ⟨A, c, rfl, h2, h3, h4⟩ := h.rd
  exact ⟨A, c, rfl, h2, h3, fun x hx => ⟨Nat.le_trans hb (h4 x hx).1, (h4 x hx).2⟩⟩
theorem Od.ofOb {w : World} {base n c c' : Nat} {A : Option Addr} {X : List Nat} (h : Ob w base (.slice A n c) X) (hc : X.length ≤ c') : Od w base (.slice A X.length c') X :=
  ⟨A, c', rfl, h.bs, hc, fun x hx => h.lt x.block (by rw [hx]; rfl)⟩
theorem bstr_size (U : List Nat) : (bstr U).size = U.length := by
  have := congrArg List.length (bstr_data U)
  rw [List.length_map] at this
  rw [← this]; rfl
section
variable {P : Program} {n : Nat} {l : List (Nat × Value)} {w : World} {d? : Option Tmp} {ty : TypeId} {pos : String} {af : Array Edge} {g? : Option (Nat × Bool)} {x : Operand} {s t e : TypeId}
theorem bytesRow_get {U : List Nat} (hU : ∀ n ∈ U, n < 256) (c : Nat) {i v : Nat} (h : U[i]? = some v) : (bytesRow (bstr U) c)[i]? = some (.int .u8 (v : Int)) := by
  have hi := (List.getElem?_eq_some_iff.1 h).1
  have hd : (bstr U).data.toList = U.map UInt8.ofNat := bstr_data U
  have hs : (bstr U).data.size = U.length := by rw [← Array.length_toList, hd, List.length_map]
  unfold bytesRow
  rw [Array.getElem?_append_left (by simpa [hs] using hi), Array.getElem?_map, ← Array.getElem?_toList, hd, List.getElem?_map, h]
  show some (Value.int .u8 (((UInt8.ofNat v).toNat : Nat) : Int)) = _
  rw [UInt8.toNat_ofNat_of_lt' (hU v (List.mem_of_getElem? h))]
/-- The bytes of a string, anew. -/
theorem lo_strbytes {U : List Nat} (hU : ∀ n ∈ U, n < 256) (hs : P.underlying s = some .string) (ht : P.underlying t = some (.slice e)) (he : P.underlying e = some (.int .u8)) (hx : lk l x = some (.string (bstr U))) :
    Lo P ⟨d?, .convert s t x, ty, pos, af, g?⟩ n l w (fun v w' => ∃ A c, v = .slice A U.length c ∧ Od w' w.heap.size (.slice A U.length c) U ∧ Kp No w w') := by
  have r := run_bytes_of_string w s t e (bstr U) hs ht he
  have hG := grownCap_ge w (bstr U).size 0 e
  rw [bstr_size] at r hG
  generalize grownCap w U.length 0 e = G at r hG
  have hb : ∀ O : Obj, (w.drew.alloc O).heap[w.heap.size]? = some O := fun O => by
    show (w.heap.push O)[w.heap.size]? = _
    simp
  have hz : ∀ O : Obj, w.heap.size < (w.drew.alloc O).heap.size := fun O => by
    show w.heap.size < (w.heap.push O).size
    simp
  have hc := fun i v => bytesRow_get hU G (i := i) (v := v)
  generalize bytesRow (bstr U) G = R at r hc
  refine lo_run (v := .slice (some ⟨w.heap.size, 0, none⟩) U.length G) (w' := w.drew.alloc (.cells R e (R.size, R.size + 1))) (fun a ha => ?_) ⟨some ⟨w.heap.size, 0, none⟩, G, rfl, ⟨_, _, rfl, ⟨hU, fun _ => ⟨w.heap.size, 0, rfl, fun i v hi => ?_⟩⟩, hG, fun x hx => ?_⟩, (Kp.refl No w).drew.alloc _⟩
  · unfold execOp
    simp only [ha.eval hx, Sem.run_bind, r, Result.andThen_ok, Sem.run_pure]
  · rw [Nat.zero_add]
    simp only [World.cell?, hb, hc i v hi]; rfl
  · cases hx
    exact ⟨Nat.le_refl _, hz _⟩
/-- A slice of bytes of its own type again: its block is marked, its cells stay. -/
theorem lo_mark {p m c : Nat} {X : List Nat} {t' : TypeId} (hB : Bk w p (u8s X) t') (hX : ∀ n ∈ X, n < 256) (ht : P.underlying t = some (.slice e)) (he : P.underlying e = some (.int .u8)) (hx : lk l x = some (.slice (some ⟨p, 0, none⟩) m c)) (hm : X.length = m) (hc : m ≤ c) :
    Lo P ⟨d?, .convert t t x, ty, pos, af, g?⟩ n l w (fun v w' => v = .slice (some ⟨p, 0, none⟩) m c ∧ Od w' 0 (.slice (some ⟨p, 0, none⟩) m c) X ∧ Kp (On p) w w') := by
  subst hm
  have hB' := hB
  unfold Bk at hB'
  have hsh : w.shape? p = some (t', X.length) := by unfold World.shape?; rw [hB']; simp [u8s]
  have hw : w.freeze ⟨p, X.length, none⟩ 1 = { w with heap := w.heap.modify p fun
      | .cells c elem (lo, hi) => .cells c elem (if lo == hi then (X.length, X.length + 1) else (min lo X.length, max hi (X.length + 1)))
      | o => o } := by unfold World.freeze; rw [if_neg (by decide)]; rfl
  have r : (convert t t (.slice (some ⟨p, 0, none⟩) X.length c)).run P w = .ok (.slice (some ⟨p, 0, none⟩) X.length c) (w.freeze ⟨p, X.length, none⟩ 1) := by
    simp [convert, run_underlying ht, run_underlying he, markStringish, hsh]
  have hk : (w.freeze ⟨p, X.length, none⟩ 1).heap[p]? = some (.cells (u8s X).toArray t' (X.length, X.length + 1)) := by
    rw [hw]; show (w.heap.modify p _)[p]? = _
    rw [Array.getElem?_modify, if_pos rfl, hB']; rfl
  have hkp : Kp (On p) w (w.freeze ⟨p, X.length, none⟩ 1) := by
    rw [hw]
    refine ⟨rfl, rfl, rfl, by simp, fun i _ hn => ?_⟩
    show (w.heap.modify p _)[i]? = _
    rw [Array.getElem?_modify, if_neg (fun e => hn e.symm)]
  refine lo_run (v := .slice (some ⟨p, 0, none⟩) X.length c) (w' := w.freeze ⟨p, X.length, none⟩ 1) (fun a ha => ?_) ⟨rfl, ⟨_, _, rfl, ⟨hX, fun _ => ⟨p, 0, rfl, fun i v hi => ?_⟩⟩, hc, fun x hx => ?_⟩, hkp⟩
  · unfold execOp
    simp only [ha.eval hx, Sem.run_bind, r, Result.andThen_ok, Sem.run_pure]
  · rw [Nat.zero_add]
    have hg : (u8s X).toArray[i]? = some (.int .u8 (v : Int)) := by simpa using u8s_get hi
    simp only [World.cell?, hk, hg]; rfl
  · cases hx
    exact ⟨Nat.zero_le _, Nat.lt_of_lt_of_le hB.lt hkp.size⟩
end
section
variable {P : Program} {l : List (Nat × Value)} {w : World} {n : Nat} {e : Exit} {fn : Func} {Φ : Value → World → Prop} {t u r p len : Nat} {ty t' : TypeId} {L : List Value} {v v' : Value}
theorem X_retCT (he : e = .ret ∨ e = .normal) (hf : fn.results = #[.cell t ty, .tmp u]) (hv : lkN l t = some (.pointer (some ⟨p, 0, none⟩))) (hB : Bk w p L t') (hr : isRowB P ty = true) (hs : sizeB P ty len = true) (hl : L.length = len) (hu : lkN l u = some v) (h : Φ (.tuple #[.agg L.toArray, v]) w) :
    Xw (bodyPost P fn (RetR Φ)) e n l w := X_end he _ (fun a ha => by
  obtain ⟨d, hd, hdd⟩ := rowB_desc hr
  have hi := sizeB_info hs
  have h1 : a.tmps[t]?.getD undef = .pointer (some ⟨p, 0, none⟩) := by have := ha.tmp hv; simpa using this
  have h2 : a.tmps[u]?.getD undef = v := by have := ha.tmp hu; simpa using this
  simp [results, hf, h1, h2, asAddr, run_loadVar_row w p t' ty L.toArray (0, 0) d hB hd (by cases d <;> simp_all) (by rw [hi, List.size_toArray, hl])]) h
theorem X_retTCT (he : e = .ret ∨ e = .normal) (hf : fn.results = #[.tmp r, .cell t ty, .tmp u]) (h0 : lkN l r = some v') (hv : lkN l t = some (.pointer (some ⟨p, 0, none⟩))) (hB : Bk w p L t') (hr : isRowB P ty = true) (hs : sizeB P ty len = true) (hl : L.length = len) (hu : lkN l u = some v) (h : Φ (.tuple #[v', .agg L.toArray, v]) w) :
    Xw (bodyPost P fn (RetR Φ)) e n l w := X_end he _ (fun a ha => by
  obtain ⟨d, hd, hdd⟩ := rowB_desc hr
  have hi := sizeB_info hs
  have h1 : a.tmps[t]?.getD undef = .pointer (some ⟨p, 0, none⟩) := by have := ha.tmp hv; simpa using this
  have h2 : a.tmps[u]?.getD undef = v := by have := ha.tmp hu; simpa using this
  have h3 : a.tmps[r]?.getD undef = v' := by have := ha.tmp h0; simpa using this
  simp [results, hf, h1, h2, h3, asAddr, run_loadVar_row w p t' ty L.toArray (0, 0) d hB hd (by cases d <;> simp_all) (by rw [hi, List.size_toArray, hl])]) h
end
end Go.Proofs.YtlkbkgghfhoggaaGreatDoor
end
section
set_option linter.unusedVariables false
set_option linter.unusedSimpArgs false
namespace Go.Proofs.YtlkbkgghfhoggaaGreatDoor.Hm

theorem split_xor (k a a' b b' : Nat) (hb : b < 2 ^ k) (hb' : b' < 2 ^ k) : (2 ^ k * a + b) ^^^ (2 ^ k * a' + b') = 2 ^ k * (a ^^^ a') + (b ^^^ b') := by
  apply Nat.eq_of_testBit_eq
  intro i
  rw [Nat.testBit_xor, Nat.testBit_two_pow_mul_add _ hb, Nat.testBit_two_pow_mul_add _ hb', Nat.testBit_two_pow_mul_add _ (Nat.xor_lt_two_pow hb hb')]
  split <;> simp [Nat.testBit_xor]
theorem or_halves (a b : Nat) (hb : b < 2 ^ 64) : b / 2 ||| (a * 2 ^ 63 % 2 ^ 64) = a % 2 * 2 ^ 63 + b / 2 := by
  have h1 : a * 2 ^ 63 % 2 ^ 64 = 2 ^ 63 * (a % 2) := by omega
  rw [h1, Nat.or_comm, ← Nat.two_pow_add_eq_or_of_lt (by omega), Nat.mul_comm]
theorem mv_halves (a b : Nat) (hb : b < 2 ^ 64) : mv (2 ^ 64 * a + b) = 2 ^ 64 * (a / 2 ^^^ (if b % 2 = 1 then 0xe1 * 2 ^ 56 else 0)) + (a % 2 * 2 ^ 63 + b / 2) := by
  unfold mv
  have h1 : (2 ^ 64 * a + b) / 2 = 2 ^ 64 * (a / 2) + (a % 2 * 2 ^ 63 + b / 2) := by omega
  have h2 : (2 ^ 64 * a + b) % 2 = b % 2 := by omega
  have h3 : (if b % 2 = 1 then R else 0) = 2 ^ 64 * (if b % 2 = 1 then 0xe1 * 2 ^ 56 else 0) + 0 := by
    split
    · decide
    · rfl
  rw [h1, h2, h3, split_xor 64 _ _ _ _ (by omega) (by decide), Nat.xor_zero]

/-! ### bytes, the first one uppermost -/
def be (l : List Nat) : Nat := l.foldl (fun a b => 256 * a + b) 0
theorem be_snoc (l : List Nat) (b : Nat) : be (l ++ [b]) = 256 * be l + b := by simp [be]
theorem foldl_be (l : List Nat) (a : Nat) : l.foldl (fun a b => 256 * a + b) a = 256 ^ l.length * a + be l := by
  induction l generalizing a with
  | nil => simp [be]
  | cons b l ih =>
    show l.foldl _ (256 * a + b) = _
    rw [ih]
    show _ = 256 ^ (l.length + 1) * a + l.foldl _ (256 * 0 + b)
    rw [ih (256 * 0 + b), Nat.pow_succ]
    rw [Nat.mul_zero, Nat.zero_add, Nat.mul_add, ← Nat.add_assoc, Nat.mul_assoc]
theorem be_append (l m : List Nat) : be (l ++ m) = 256 ^ m.length * be l + be m := by
  show (l ++ m).foldl _ 0 = _
  rw [List.foldl_append]
  exact foldl_be m (be l)
theorem be_lt {l : List Nat} (h : ∀ n ∈ l, n < 256) : be l < 256 ^ l.length := by
  induction l with
  | nil => decide
  | cons b l ih =>
    have h1 := ih (fun n hn => h n (by simp [hn]))
    have h2 := h b (by simp)
    show l.foldl _ (256 * 0 + b) < _
    rw [foldl_be, List.length_cons, Nat.pow_succ, Nat.mul_zero, Nat.zero_add]
    have : 256 ^ l.length * b ≤ 256 ^ l.length * 255 := Nat.mul_le_mul_left _ (by omega)
    omega
/-- A number's bytes. -/
def toB : Nat → Nat → List Nat
  | 0, _ => []
  | n + 1, v => toB n (v / 256) ++ [v % 256]
theorem toB_length (n v : Nat) : (toB n v).length = n := by
  induction n generalizing v with
  | zero => rfl
  | succ n ih => show (_ ++ [_]).length = _; rw [List.length_append, ih]; rfl
theorem toB_byte (n v : Nat) : ∀ b ∈ toB n v, b < 256 := by
  induction n generalizing v with
  | zero => simp [toB]
  | succ n ih =>
    intro b hb
    rcases List.mem_append.1 hb with h | h
    · exact ih _ b h
    · have : b = v % 256 := by simpa using h
      omega
theorem toB_get (n v i : Nat) (hi : i < n) : (toB n v)[i]? = some (v / 256 ^ (n - 1 - i) % 256) := by
  induction n generalizing v with
  | zero => omega
  | succ n ih =>
    show (toB n (v / 256) ++ [v % 256])[i]? = _
    by_cases h : i = n
    · subst h
      rw [List.getElem?_append_right (by rw [toB_length]; omega), toB_length]
      simp
    · rw [List.getElem?_append_left (by rw [toB_length]; omega), ih _ (by omega), Nat.div_div_eq_div_mul]
      have : n + 1 - 1 - i = (n - 1 - i) + 1 := by omega
      rw [this, Nat.pow_succ, Nat.mul_comm 256]
end Go.Proofs.YtlkbkgghfhoggaaGreatDoor.Hm
end
section
set_option linter.unusedVariables false
set_option linter.unusedSimpArgs false
namespace Go.Proofs.YtlkbkgghfhoggaaGreatDoor
open Go.RowKit

/-- A number of 128 bits, in halves. -/
def hi (v : Nat) : Nat := v / 2 ^ 64
def lo (v : Nat) : Nat := v % 2 ^ 64
def hv (v : Nat) : Value := .agg #[.int .u64 ((hi v : Nat) : Int), .int .u64 ((lo v : Nat) : Int)]
theorem hv_def (v : Nat) : hv v = .agg #[.int .u64 ((hi v : Nat) : Int), .int .u64 ((lo v : Nat) : Int)] := rfl
theorem hi_lt {v : Nat} (h : v < 2 ^ 128) : hi v < 2 ^ 64 := by unfold hi; omega
theorem lo_lt (v : Nat) : lo v < 2 ^ 64 := by unfold lo; omega
theorem hv_eq {v a b : Nat} (hb : b < 2 ^ 64) (h : v = 2 ^ 64 * a + b) : hv v = .agg #[.int .u64 (a : Int), .int .u64 (b : Int)] := by
  subst h
  have h1 : (2 ^ 64 * a + b) / 2 ^ 64 = a := by omega
  have h2 : (2 ^ 64 * a + b) % 2 ^ 64 = b := by omega
  unfold hv hi lo
  rw [h1, h2]
theorem hv_ex (v : Nat) (hv' : v < 2 ^ 128) : ∃ a b, a < 2 ^ 64 ∧ b < 2 ^ 64 ∧ v = 2 ^ 64 * a + b ∧ hv v = .agg #[.int .u64 (a : Int), .int .u64 (b : Int)] :=
  ⟨v / 2 ^ 64, v % 2 ^ 64, by omega, by omega, by omega, rfl⟩

set_option maxHeartbeats 400000 in
theorem half_plus (x y : Nat) (hx : x < 2 ^ 128) (hy : y < 2 ^ 128) (w : World) :
    Calls Tryz.prog 91 #[hv x, hv y] w fun e w' => e = .returned (hv (x ^^^ y)) ∧ Kp No w w' := by
  obtain ⟨a, b, ha, hb, hab, e⟩ := hv_ex x hx
  obtain ⟨c, d, hc, hd, hcd, e'⟩ := hv_ex y hy
  have er := Lib.hid (hv_eq (v := x ^^^ y) (Nat.xor_lt_two_pow hb hd) (by rw [hab, hcd, Hm.split_xor 64 _ _ _ _ hb hd]))
  have e1 := u64_xor_nat a c ha hc
  have e2 := u64_xor_nat b d hb hd
  rw [e, e']
  clear ha hb hc hd hab hcd e e' hx hy
  go_enter Tryz.func91, Tryz.ntmps91
  go_wp2
  exact bodyPost_ret (v := .agg #[.int .u64 ((a ^^^ c : Nat) : Int), .int .u64 ((b ^^^ d : Nat) : Int)]) (by simp [results, Tryz.results91, go_sem]) rfl ⟨by rw [er.out], ((((Kp.refl No w).alloc _).alloc _).alloc _)⟩

/-- What a move by a place comes to, in the machine's own words. -/
theorem moved_odd (a b x : Nat) (ha : a < 2 ^ 64) (hb : b < 2 ^ 64) (hx : x = 2 ^ 64 * a + b) (h1 : b % 2 = 1) :
    (.agg #[.int .u64 (bits .xor .u64 ((a : Int) / 2) 16212958658533785600), .int .u64 (bits .or .u64 ((b : Int) / 2) (IntKind.u64.wrap ((a : Int) * 9223372036854775808)))] : Value) = hv (Hm.mv x) := by
  have hm := Hm.mv_halves a b hb
  rw [← hx, if_pos h1] at hm
  rw [hv_eq (by omega) hm]
  have h1 : IntKind.u64.wrap ((a : Int) * 9223372036854775808) = ((a * 2 ^ 63 % 2 ^ 64 : Nat) : Int) := by rw [IntKind.wrap_u64]; omega
  have h2 : (b : Int) / 2 = ((b / 2 : Nat) : Int) := by omega
  have h3 : (a : Int) / 2 = ((a / 2 : Nat) : Int) := by omega
  have h4 : bits .xor .u64 ((a / 2 : Nat) : Int) 16212958658533785600 = ((a / 2 ^^^ 0xe1 * 2 ^ 56 : Nat) : Int) := by
    have c : (16212958658533785600 : Int) = ((0xe1 * 2 ^ 56 : Nat) : Int) := by decide
    rw [c]
    exact u64_xor_nat (a / 2) (0xe1 * 2 ^ 56) (by omega) (by decide)
  rw [h1, h2, h3, h4, u64_or_nat _ _ (by omega) (by omega), Hm.or_halves a b hb]
theorem moved_even (a b x : Nat) (ha : a < 2 ^ 64) (hb : b < 2 ^ 64) (hx : x = 2 ^ 64 * a + b) (h1 : ¬ b % 2 = 1) :
    (.agg #[.int .u64 ((a : Int) / 2), .int .u64 (bits .or .u64 ((b : Int) / 2) (IntKind.u64.wrap ((a : Int) * 9223372036854775808)))] : Value) = hv (Hm.mv x) := by
  have hm := Hm.mv_halves a b hb
  rw [← hx, if_neg h1, Nat.xor_zero] at hm
  rw [hv_eq (by omega) hm]
  have h1 : IntKind.u64.wrap ((a : Int) * 9223372036854775808) = ((a * 2 ^ 63 % 2 ^ 64 : Nat) : Int) := by rw [IntKind.wrap_u64]; omega
  have h2 : (b : Int) / 2 = ((b / 2 : Nat) : Int) := by omega
  have h3 : (a : Int) / 2 = ((a / 2 : Nat) : Int) := by omega
  rw [h1, h2, h3, u64_or_nat _ _ (by omega) (by omega), Hm.or_halves a b hb]
theorem odd_test (b : Nat) (hb : b < 2 ^ 64) : (bits .and .u64 (b : Int) 1 != 0) = decide (b % 2 = 1) := by
  have h : bits .and .u64 (b : Int) 1 = ((b % 2 : Nat) : Int) := by
    have := u64_and_nat b 1 hb (by decide)
    rwa [nat_mask1] at this
  rw [h, Bool.eq_iff_iff, bne_iff_ne, decide_eq_true_iff]
  omega

set_option maxHeartbeats 400000 in
theorem half_moved (x : Nat) (hx : x < 2 ^ 128) (w : World) :
    Calls Tryz.prog 107 #[hv x] w fun e w' => e = .returned (hv (Hm.mv x)) ∧ Kp No w w' := by
  obtain ⟨a, b, ha, hb, hab, e⟩ := hv_ex x hx
  have ht := odd_test b hb
  rw [e]
  clear e
  by_cases h1 : b % 2 = 1
  · have er := Lib.hid (moved_odd a b x ha hb hab h1)
    have t : (bits .and .u64 (b : Int) 1 != 0) = true := by rw [ht]; exact decide_eq_true h1
    clear ha hb hab hx h1 ht
    go_enter Tryz.func107, Tryz.ntmps107
    go_wp2
    exact bodyPost_ret (v := .agg #[.int .u64 (bits .xor .u64 ((a : Int) / 2) 16212958658533785600), .int .u64 (bits .or .u64 ((b : Int) / 2) (IntKind.u64.wrap ((a : Int) * 9223372036854775808)))]) (by simp [results, Tryz.results107, go_sem]) rfl ⟨by rw [er.out], (((Kp.refl No w).alloc _).alloc _).alloc _⟩
  · have er := Lib.hid (moved_even a b x ha hb hab h1)
    have t : (bits .and .u64 (b : Int) 1 != 0) = false := by rw [ht]; exact decide_eq_false h1
    clear ha hb hab hx h1 ht
    go_enter Tryz.func107, Tryz.ntmps107
    go_wp2
    exact bodyPost_ret (v := .agg #[.int .u64 ((a : Int) / 2), .int .u64 (bits .or .u64 ((b : Int) / 2) (IntKind.u64.wrap ((a : Int) * 9223372036854775808)))]) (by simp [results, Tryz.results107, go_sem]) rfl ⟨by rw [er.out], (((Kp.refl No w).alloc _).alloc _).alloc _⟩
end Go.Proofs.YtlkbkgghfhoggaaGreatDoor
end
