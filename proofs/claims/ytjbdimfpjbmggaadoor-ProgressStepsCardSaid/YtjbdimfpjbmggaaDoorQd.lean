/- What the functions of progress and of bursaryref23 answer, whatever they are given. -/
import Derived.Test.YtjbdimfpjbmggaaDoorPy
import Derived.Test.YtjbdimfpjbmggaaDoorPs
import Derived.Test.YtjbdimfpjbmggaaDoorPu
import Derived.Test.YtjbdimfpjbmggaaDoorQa
set_option linter.unusedVariables false
set_option linter.unusedSimpArgs false
namespace Go.Proofs.YtjbdimfpjbmggaaDoor
open Go.RowKit Gm
theorem num_errv (n : Nat) (ev : Value) (w : World) (h : ErrV n ev) (hG : Gt w) : Ret Tryd.prog 38 #[ev] w (fun v w' => v = .int .i64 ((n : Nat) : Int) ∧ Kp No w w') := by
  rcases h with ⟨h1, h2⟩ | ⟨h1, h2⟩
  · subst h1 h2; exact num23_nil w
  · subst h2; exact num23_err (n : Int) w hG
theorem submit_all (ka nn : Int) (ge : Nat) (mk : ByteArray) (A : Option Addr) (L : List Shr) (c : Nat) (mk2 : ByteArray) (ix gn : Nat) (A1 : Option Addr) (X1 : List Nat) (c1 : Nat) (E : Nat) (w : World) (HS : Ss w A L) (HB : Bs w A1 X1) (hc1 : X1.length ≤ c1) (hb : (L.length ≤ c ∧ L.length < 9223372036854775808) ∧ ix < 256 ∧ X1.length < 9223372036854775808 ∧ ge < 4294967296) (hE : E = subE ka nn ge mk L mk2 ix gn X1.length) :
    Ret Tryd.prog 30 #[.agg ([.int .i64 (ka), .int .i64 (nn), .int .u32 ((ge : Nat) : Int), .string mk, .slice A (L.length) (c)] : List Value).toArray, .string mk2, .agg ([.int .u8 ((ix : Nat) : Int), .int .u32 ((gn : Nat) : Int), .slice A1 (X1.length) (c1)] : List Value).toArray] w (fun v w' => ∃ A' c' LN ev, v = .tuple #[.agg ([.int .i64 (subI E ka 0), .int .i64 (subI E nn 0), .int .u32 ((subI E ge 0 : Nat) : Int), .string (subI E mk ByteArray.empty), .slice A' (LN : List Shr).length c'] : List Value).toArray, .bool (subI E (decide ((L.length : Int) + 1 = ka)) false), ev] ∧ ErrV E ev ∧ Sw 50 w.heap.size w' w.heap.size (.slice A' (LN : List Shr).length c') LN ∧ LN.map Shr.key = subI E (L.map Shr.key ++ [(ix, gn, X1)]) [] ∧ Kp No w w') := by
  by_cases h : MayP ka nn ge mk L
  · obtain ⟨q, rfl⟩ : ∃ q : Nat, ka = ((q + 1 : Nat) : Int) := ⟨(ka - 1).toNat, by have := h.1; omega⟩
    obtain ⟨n, rfl⟩ : ∃ n : Nat, nn = (n : Int) := ⟨nn.toNat, by have := h.1; omega⟩
    have h0 : (2 ≤ q + 1 ∧ q + 1 ≤ n ∧ n ≤ 255) ∧ mk.size ≤ 16 ∧ L.length ≤ q + 1 ∧ L.length ≤ c := ⟨by have := h.1; omega, h.2.1, by have := h.2.2.1; omega, hb.1.1⟩
    have hC : Came n ge L := h.2.2.2
    by_cases h2 : ¬ mk2 = mk ∨ (L.length : Int) = ((q + 1 : Nat) : Int)
    · obtain rfl : E = 15 := hE.trans (subE_state h h2)
      exact (submit_state q n ge mk A L c mk2 ix gn A1 X1 c1 w HS ⟨⟨h0, hC⟩, h2.imp id (fun e => by omega), hb.2.2.2⟩).mono fun v w' hv => ⟨none, 0, [], errE 15, hv.1, .inr ⟨by decide, rfl⟩, Sw.nil 50 _ _ _, rfl, hv.2⟩
    · obtain ⟨hm, hl⟩ := not_or.1 h2
      have hm := Classical.not_not.1 hm
      have hlt : L.length < q + 1 := by have := h0.2.2.1; omega
      by_cases h3 : gn = ge
      · by_cases h4 : Fit n L ix X1.length
        · obtain rfl : E = 0 := hE.trans (subE_ok h h2 h3 h4)
          subst hm
          refine (submit_ok q n ge mk2 A L c ix gn A1 X1 c1 w HS HB hc1 ⟨⟨h0, hC⟩, ⟨hlt, h3, h4⟩, hb.2.1, hb.2.2.2⟩).mono fun v w' hv => ?_
          obtain ⟨A', c', LN, rfl, h5, h6, h7⟩ := hv
          exact ⟨A', c', LN, .nilIface, by rw [show decide (L.length + 1 = q + 1) = decide ((L.length : Int) + 1 = ((q + 1 : Nat) : Int)) from decide_eq_decide.2 (by omega)]; rfl, .inl ⟨rfl, rfl⟩, h5, h6, h7⟩
        · obtain rfl : E = 12 := hE.trans (subE_share h h2 h3 h4)
          exact (submit_share q n ge mk A L c mk2 ix gn A1 X1 c1 w HS ⟨⟨h0, hC⟩, hm, ⟨hlt, h3, h4⟩, hb.2.1, hb.2.2.1, hb.2.2.2⟩).mono fun v w' hv => ⟨none, 0, [], errE 12, hv.1, .inr ⟨by decide, rfl⟩, Sw.nil 50 _ _ _, rfl, hv.2⟩
      · obtain rfl : E = 14 := hE.trans (subE_gen h h2 h3)
        exact (submit_gen q n ge mk A L c mk2 ix gn A1 X1 c1 w HS ⟨⟨h0, hC⟩, hm, ⟨hlt, h3⟩, hb.2.1, hb.2.2.1, hb.2.2.2⟩).mono fun v w' hv => ⟨none, 0, [], errE 14, hv.1, .inr ⟨by decide, rfl⟩, Sw.nil 50 _ _ _, rfl, hv.2⟩
  · obtain rfl : E = 1 := hE.trans (subE_arg h)
    exact (submit_arg ka nn ge mk A L c mk2 ix gn A1 X1 c1 w HS ⟨hb.1, h⟩).mono fun v w' hv => ⟨none, 0, [], errE 1, hv.1, .inr ⟨by decide, rfl⟩, Sw.nil 50 _ _ _, rfl, hv.2⟩
theorem rsub_all (ka nn : Int) (ge : Nat) (mk : ByteArray) (A : Option Addr) (L : List Shr) (c : Nat) (mk2 : ByteArray) (ix gn : Nat) (A1 : Option Addr) (X1 : List Nat) (c1 : Nat) (E : Nat) (w : World) (HS : Ss w A L) (hb : (L.length ≤ c ∧ L.length < 9223372036854775808) ∧ ix < 256 ∧ X1.length < 9223372036854775808) (hE : E = subE ka nn ge mk L mk2 ix gn X1.length) :
    Ret Tryd.prog 31 #[.agg ([.int .i64 (ka), .int .i64 (nn), .int .u32 ((ge : Nat) : Int), .string mk, .slice A (L.length) (c)] : List Value).toArray, .string mk2, .agg ([.int .u8 ((ix : Nat) : Int), .int .u32 ((gn : Nat) : Int), .slice A1 (X1.length) (c1)] : List Value).toArray] w (fun v w' => ∃ A' c', v = .tuple #[.agg ([.int .i64 (subI E ka 0), .int .i64 (subI E nn 0), .int .u32 ((subI E ge 0 : Nat) : Int), .string (subI E mk ByteArray.empty), .slice A' (subI E (L ++ [(⟨ix, gn, A1, X1, c1⟩ : Shr)]) []).length c'] : List Value).toArray, .bool (subI E (decide ((L.length : Int) + 1 = ka)) false), .int .i64 ((E : Nat) : Int)] ∧ Sp 56 w' w.heap.size (.slice A' (subI E (L ++ [(⟨ix, gn, A1, X1, c1⟩ : Shr)]) []).length c') (subI E (L ++ [(⟨ix, gn, A1, X1, c1⟩ : Shr)]) []) ∧ Kp No w w') := by
  by_cases h : MayP ka nn ge mk L
  · obtain ⟨q, rfl⟩ : ∃ q : Nat, ka = ((q + 1 : Nat) : Int) := ⟨(ka - 1).toNat, by have := h.1; omega⟩
    obtain ⟨n, rfl⟩ : ∃ n : Nat, nn = (n : Int) := ⟨nn.toNat, by have := h.1; omega⟩
    have h0 : (2 ≤ q + 1 ∧ q + 1 ≤ n ∧ n ≤ 255) ∧ mk.size ≤ 16 ∧ L.length ≤ q + 1 ∧ L.length ≤ c := ⟨by have := h.1; omega, h.2.1, by have := h.2.2.1; omega, hb.1.1⟩
    have hC : Came n ge L := h.2.2.2
    by_cases h2 : ¬ mk2 = mk ∨ (L.length : Int) = ((q + 1 : Nat) : Int)
    · obtain rfl : E = 15 := hE.trans (subE_state h h2)
      exact (rsub_state q n ge mk A L c mk2 ix gn A1 X1 c1 w HS ⟨⟨h0, hC⟩, h2.imp id (fun e => by omega)⟩).mono fun v w' hv => ⟨none, 0, hv.1, Sp.nil 56 _ _, hv.2⟩
    · obtain ⟨hm, hl⟩ := not_or.1 h2
      have hm := Classical.not_not.1 hm
      have hlt : L.length < q + 1 := by have := h0.2.2.1; omega
      by_cases h3 : gn = ge
      · by_cases h4 : Fit n L ix X1.length
        · obtain rfl : E = 0 := hE.trans (subE_ok h h2 h3 h4)
          subst hm
          refine (rsub_ok q n ge mk2 A L c ix gn A1 X1 c1 w HS ⟨⟨h0, hC⟩, ⟨hlt, h3, h4⟩, hb.2.1⟩).mono fun v w' hv => ?_
          obtain ⟨A', c', rfl, h5, h7⟩ := hv
          exact ⟨A', c', by rw [show decide (L.length + 1 = q + 1) = decide ((L.length : Int) + 1 = ((q + 1 : Nat) : Int)) from decide_eq_decide.2 (by omega)]; rfl, h5, h7⟩
        · obtain rfl : E = 12 := hE.trans (subE_share h h2 h3 h4)
          exact (rsub_share q n ge mk A L c mk2 ix gn A1 X1 c1 w HS ⟨⟨h0, hC⟩, hm, ⟨hlt, h3, h4⟩, hb.2.1, hb.2.2⟩).mono fun v w' hv => ⟨none, 0, hv.1, Sp.nil 56 _ _, hv.2⟩
      · obtain rfl : E = 14 := hE.trans (subE_gen h h2 h3)
        exact (rsub_gen q n ge mk A L c mk2 ix gn A1 X1 c1 w HS ⟨⟨h0, hC⟩, hm, ⟨hlt, h3⟩, hb.2.1, hb.2.2⟩).mono fun v w' hv => ⟨none, 0, hv.1, Sp.nil 56 _ _, hv.2⟩
  · obtain rfl : E = 1 := hE.trans (subE_arg h)
    exact (rsub_arg ka nn ge mk A L c mk2 ix gn A1 X1 c1 w HS ⟨hb.1, h⟩).mono fun v w' hv => ⟨none, 0, hv.1, Sp.nil 56 _ _, hv.2⟩
theorem secret_all (b : Nat) (ka nn : Int) (ge : Nat) (mk : ByteArray) (A : Option Addr) (L : List Shr) (c : Nat) (E : Nat) (w : World) (HS : Ss w A L) (hb : (L.length ≤ c ∧ L.length < 9223372036854775808) ∧ ge < 4294967296) (hE : E = secE ka nn ge mk L) (aw_HS : Aws (On b) A L) (hT : Tb w b) :
    Ret Tryd.prog 32 #[.pointer (some ⟨b, 0, none⟩), .agg ([.int .i64 (ka), .int .i64 (nn), .int .u32 ((ge : Nat) : Int), .string mk, .slice A (L.length) (c)] : List Value).toArray] w (fun v w' => ∃ A' c' ev, v = .tuple #[.slice A' (subI E (thX (L.take ka.toNat) 32 0) []).length c', ev] ∧ ErrV E ev ∧ Ob w' w.heap.size (.slice A' (subI E (thX (L.take ka.toNat) 32 0) []).length c') (subI E (thX (L.take ka.toNat) 32 0) []) ∧ Tb w' b ∧ Kp (On b) w w') := by
  by_cases h : MayP ka nn ge mk L
  · obtain ⟨q, rfl⟩ : ∃ q : Nat, ka = ((q + 1 : Nat) : Int) := ⟨(ka - 1).toNat, by have := h.1; omega⟩
    obtain ⟨n, rfl⟩ : ∃ n : Nat, nn = (n : Int) := ⟨nn.toNat, by have := h.1; omega⟩
    have h0 : (2 ≤ q + 1 ∧ q + 1 ≤ n ∧ n ≤ 255) ∧ mk.size ≤ 16 ∧ L.length ≤ q + 1 ∧ L.length ≤ c := ⟨by have := h.1; omega, h.2.1, by have := h.2.2.1; omega, hb.1.1⟩
    have hC : Came n ge L := h.2.2.2
    by_cases h2 : (L.length : Int) < ((q + 1 : Nat) : Int)
    · obtain rfl : E = 2 := hE.trans (secE_short h h2)
      exact (secret_short b q n ge mk A L c w HS ⟨⟨h0, hC⟩, by omega⟩).mono fun v w' hv => ⟨none, 0, errE 2, hv.1, .inr ⟨by decide, rfl⟩, Ob.nil _ _, hT.no hv.2, hv.2.mono (fun _ h => h.elim)⟩
    · obtain rfl : E = 0 := hE.trans (secE_ok h h2)
      refine (secret_ok b q n ge mk A L c w HS ⟨⟨h0, hC⟩, by have := h0.2.2.1; omega, hb.2⟩ aw_HS hT).mono fun v w' hv => ?_
      obtain ⟨A', c', rfl, h3, h4, h5⟩ := hv
      exact ⟨A', c', .nilIface, rfl, .inl ⟨rfl, rfl⟩, h3, h4, h5⟩
  · obtain rfl : E = 1 := hE.trans (secE_arg h)
    exact (secret_arg b ka nn ge mk A L c w HS ⟨hb.1, h⟩).mono fun v w' hv => ⟨none, 0, errE 1, hv.1, .inr ⟨by decide, rfl⟩, Ob.nil _ _, hT.no hv.2, hv.2.mono (fun _ h => h.elim)⟩
theorem rsec_all (ka nn : Int) (ge : Nat) (mk : ByteArray) (A : Option Addr) (L : List Shr) (c : Nat) (E : Nat) (w : World) (HS : Ss w A L) (hb : (L.length ≤ c ∧ L.length < 9223372036854775808) ∧ ge < 4294967296) (hE : E = secE ka nn ge mk L) :
    Ret Tryd.prog 33 #[.agg ([.int .i64 (ka), .int .i64 (nn), .int .u32 ((ge : Nat) : Int), .string mk, .slice A (L.length) (c)] : List Value).toArray] w (fun v w' => ∃ A' c', v = .tuple #[.slice A' (subI E (thX (L.take ka.toNat) 32 0) []).length c', .int .i64 ((E : Nat) : Int)] ∧ Ob w' w.heap.size (.slice A' (subI E (thX (L.take ka.toNat) 32 0) []).length c') (subI E (thX (L.take ka.toNat) 32 0) []) ∧ Kp No w w') := by
  by_cases h : MayP ka nn ge mk L
  · obtain ⟨q, rfl⟩ : ∃ q : Nat, ka = ((q + 1 : Nat) : Int) := ⟨(ka - 1).toNat, by have := h.1; omega⟩
    obtain ⟨n, rfl⟩ : ∃ n : Nat, nn = (n : Int) := ⟨nn.toNat, by have := h.1; omega⟩
    have h0 : (2 ≤ q + 1 ∧ q + 1 ≤ n ∧ n ≤ 255) ∧ mk.size ≤ 16 ∧ L.length ≤ q + 1 ∧ L.length ≤ c := ⟨by have := h.1; omega, h.2.1, by have := h.2.2.1; omega, hb.1.1⟩
    have hC : Came n ge L := h.2.2.2
    by_cases h2 : (L.length : Int) < ((q + 1 : Nat) : Int)
    · obtain rfl : E = 2 := hE.trans (secE_short h h2)
      exact (rsec_short q n ge mk A L c w HS ⟨⟨h0, hC⟩, by omega⟩).mono fun v w' hv => ⟨none, 0, hv.1, Ob.nil _ _, hv.2⟩
    · obtain rfl : E = 0 := hE.trans (secE_ok h h2)
      refine (rsec_ok q n ge mk A L c w HS ⟨⟨h0, hC⟩, by have := h0.2.2.1; omega, hb.2⟩).mono fun v w' hv => ?_
      obtain ⟨A', c', rfl, h3, h5⟩ := hv
      exact ⟨A', c', rfl, h3, h5⟩
  · obtain rfl : E = 1 := hE.trans (secE_arg h)
    exact (rsec_arg ka nn ge mk A L c w HS ⟨hb.1, h⟩).mono fun v w' hv => ⟨none, 0, hv.1, Ob.nil _ _, hv.2⟩
theorem check_all (ka nn : Int) (ge : Nat) (mk : ByteArray) (A : Option Addr) (L : List Shr) (c : Nat) (w : World) (HS : Ss w A L) (hb : (L.length ≤ c ∧ L.length < 9223372036854775808) ∧ True) : Ret Tryd.prog 39 #[.agg ([.int .i64 (ka), .int .i64 (nn), .int .u32 ((ge : Nat) : Int), .string mk, .slice A (L.length) (c)] : List Value).toArray] w (fun v w' => ∃ ev, v = ev ∧ ErrV (chkE (mayB ka nn ge mk L)) ev ∧ Kp No w w') := by
  by_cases h : MayP ka nn ge mk L
  · rw [mayB_t h]
    revert h
    intro h
    obtain ⟨q, rfl⟩ : ∃ q : Nat, ka = ((q + 1 : Nat) : Int) := ⟨(ka - 1).toNat, by have := h.1; omega⟩
    obtain ⟨n, rfl⟩ : ∃ n : Nat, nn = (n : Int) := ⟨nn.toNat, by have := h.1; omega⟩
    exact (check_ok q n ge mk A L c w HS ⟨⟨by have := h.1; omega, h.2.1, by have := h.2.2.1; omega, hb.1.1⟩, h.2.2.2⟩).mono fun v w' hv => ⟨v, rfl, .inl ⟨rfl, hv.1⟩, hv.2⟩
  · rw [mayB_f h]
    exact (check_arg ka nn ge mk A L c w HS ⟨hb.1, h⟩).mono fun v w' hv => ⟨v, rfl, .inr ⟨by decide, hv.1⟩, hv.2⟩
theorem rmay_all (ka nn : Int) (ge : Nat) (mk : ByteArray) (A : Option Addr) (L : List Shr) (c : Nat) (w : World) (HS : Ss w A L) (hb : (L.length ≤ c ∧ L.length < 9223372036854775808) ∧ True) : Ret Tryd.prog 35 #[.agg ([.int .i64 (ka), .int .i64 (nn), .int .u32 ((ge : Nat) : Int), .string mk, .slice A (L.length) (c)] : List Value).toArray] w (fun v w' => v = .bool (mayB ka nn ge mk L) ∧ Kp No w w') := by
  by_cases h : MayP ka nn ge mk L
  · rw [mayB_t h]
    obtain ⟨q, rfl⟩ : ∃ q : Nat, ka = ((q + 1 : Nat) : Int) := ⟨(ka - 1).toNat, by have := h.1; omega⟩
    obtain ⟨n, rfl⟩ : ∃ n : Nat, nn = (n : Int) := ⟨nn.toNat, by have := h.1; omega⟩
    exact rmay_t q n ge mk A L c w HS ⟨⟨by have := h.1; omega, h.2.1, by have := h.2.2.1; omega, hb.1.1⟩, h.2.2.2⟩
  · rw [mayB_f h]
    exact rmay_f ka nn ge mk A L c w HS ⟨hb.1, h⟩
theorem start_all (ka nn : Int) (ge : Nat) (mk : ByteArray) (w : World) : Ret Tryd.prog 34 #[.agg ([.int .i64 (ka), .int .i64 (nn), .int .u32 ((ge : Nat) : Int)] : List Value).toArray, .string mk] w (fun v w' => ∃ ev, v = .tuple #[.agg ([.int .i64 (subI (chkE (mayB ka nn ge mk [])) ka 0), .int .i64 (subI (chkE (mayB ka nn ge mk [])) nn 0), .int .u32 ((subI (chkE (mayB ka nn ge mk [])) ge 0 : Nat) : Int), .string (subI (chkE (mayB ka nn ge mk [])) mk ByteArray.empty), .slice none 0 0] : List Value).toArray, ev] ∧ ErrV (chkE (mayB ka nn ge mk [])) ev ∧ Kp No w w') := by
  by_cases h : MayP ka nn ge mk []
  · rw [mayB_t h]
    obtain ⟨q, rfl⟩ : ∃ q : Nat, ka = ((q + 1 : Nat) : Int) := ⟨(ka - 1).toNat, by have := h.1; omega⟩
    obtain ⟨n, rfl⟩ : ∃ n : Nat, nn = (n : Int) := ⟨nn.toNat, by have := h.1; omega⟩
    exact (start_ok q n ge mk w ⟨by have := h.1; omega, h.2.1⟩).mono fun v w' hv => ⟨.nilIface, hv.1, .inl ⟨rfl, rfl⟩, hv.2⟩
  · rw [mayB_f h]
    exact (start_arg ka nn ge mk w h).mono fun v w' hv => ⟨errE 1, hv.1, .inr ⟨by decide, rfl⟩, hv.2⟩
end Go.Proofs.YtjbdimfpjbmggaaDoor
