/- The numbers of eight bits, as plain naturals below 256: sums, powers of 3, logarithms, products; the laws of a field. Nothing of Go. -/
namespace Go.Proofs.YtlkbkgghfhoggaaGreatDoor.Gm

/-- A number times x. -/
def tw (a : Nat) : Nat := if a < 128 then 2 * a else (2 * a - 256) ^^^ 27
/-- A number times 3. -/
def m3 (a : Nat) : Nat := a ^^^ tw a
/-- 3 to a power. -/
def gexp : Nat → Nat
  | 0 => 1
  | n + 1 => m3 (gexp n)
/-- To what power is 3 a number: looked for from n on, the power there being v. -/
def look (a : Nat) : Nat → Nat → Nat → Nat
  | 0, n, _ => n
  | f + 1, n, v => if v = a then n else look a f (n + 1) (m3 v)
def glog (a : Nat) : Nat := look a 255 0 1
def gmul (a b : Nat) : Nat := if a = 0 ∨ b = 0 then 0 else gexp ((glog a + glog b) % 255)
def gdiv (a b : Nat) : Nat := if a = 0 then 0 else gexp ((glog a + 255 - glog b) % 255)

theorem xor_lt {a b : Nat} (ha : a < 256) (hb : b < 256) : a ^^^ b < 256 := Nat.xor_lt_two_pow (n := 8) ha hb
theorem tw_lt {a : Nat} (h : a < 256) : tw a < 256 := by
  unfold tw; split
  · omega
  · exact xor_lt (by omega) (by omega)
theorem m3_lt {a : Nat} (h : a < 256) : m3 a < 256 := xor_lt h (tw_lt h)
theorem gexp_lt (n : Nat) : gexp n < 256 := by
  induction n with
  | zero => decide
  | succ n ih => exact m3_lt ih

theorem log_exp : ∀ n, n < 255 → glog (gexp n) = n := by decide +kernel
theorem exp_log0 : ∀ a, a < 256 → a ≠ 0 → gexp (glog a) = a ∧ glog a < 255 := by decide +kernel
theorem exp_ne0 : ∀ n, n < 255 → gexp n ≠ 0 := by decide +kernel
theorem exp_log {a : Nat} (h : a < 256) (h0 : a ≠ 0) : gexp (glog a) = a := (exp_log0 a h h0).1
theorem log_lt {a : Nat} (h : a < 256) (h0 : a ≠ 0) : glog a < 255 := (exp_log0 a h h0).2
theorem exp_inj {i j : Nat} (hi : i < 255) (hj : j < 255) (h : gexp i = gexp j) : i = j := by
  have := congrArg glog h
  rwa [log_exp i hi, log_exp j hj] at this
theorem exp_255 : gexp 255 = 1 := by decide +kernel
theorem exp_mod (n : Nat) : gexp (n % 255) = gexp n := by
  have h : ∀ q r, gexp (255 * q + r) = gexp r := by
    intro q
    induction q with
    | zero => intro r; simp
    | succ q ih =>
      intro r
      have h1 : ∀ r, gexp (255 + r) = gexp r := by
        intro r
        induction r with
        | zero => exact exp_255
        | succ r ihr => show m3 (gexp (255 + r)) = m3 (gexp r); rw [ihr]
      rw [show 255 * (q + 1) + r = 255 + (255 * q + r) by omega, h1, ih]
  rw [← h (n / 255) (n % 255), Nat.div_add_mod]

theorem gmul_lt (a b : Nat) : gmul a b < 256 := by
  unfold gmul; split
  · omega
  · exact gexp_lt _
theorem gdiv_lt (a b : Nat) : gdiv a b < 256 := by
  unfold gdiv; split
  · omega
  · exact gexp_lt _
theorem gmul_zero (a : Nat) : gmul a 0 = 0 := by simp [gmul]
theorem zero_gmul (a : Nat) : gmul 0 a = 0 := by simp [gmul]
theorem gmul_of {a b : Nat} (ha : a ≠ 0) (hb : b ≠ 0) : gmul a b = gexp ((glog a + glog b) % 255) := by
  unfold gmul; rw [if_neg (by simp [ha, hb])]
theorem gmul_ne0 {a b : Nat} (ha : a ≠ 0) (hb : b ≠ 0) : gmul a b ≠ 0 := by
  rw [gmul_of ha hb]; exact exp_ne0 _ (by omega)
theorem gmul_eq0 (a b : Nat) : gmul a b = 0 ↔ a = 0 ∨ b = 0 := by
  constructor
  · intro h
    by_cases ha : a = 0
    · exact .inl ha
    · by_cases hb : b = 0
      · exact .inr hb
      · exact absurd h (gmul_ne0 ha hb)
  · intro h; unfold gmul; rw [if_pos h]
theorem gmul_comm (a b : Nat) : gmul a b = gmul b a := by
  unfold gmul; rw [Nat.add_comm]; simp only [Or.comm]
theorem log_gmul {a b : Nat} (ha : a ≠ 0) (hb : b ≠ 0) : glog (gmul a b) = (glog a + glog b) % 255 := by
  rw [gmul_of ha hb, log_exp _ (by omega)]
theorem gmul_assoc (a b c : Nat) : gmul a (gmul b c) = gmul (gmul a b) c := by
  by_cases ha : a = 0
  · subst ha; simp [zero_gmul]
  by_cases hb : b = 0
  · subst hb; simp [zero_gmul, gmul_zero]
  by_cases hc : c = 0
  · subst hc; simp [gmul_zero]
  rw [gmul_of ha (gmul_ne0 hb hc), gmul_of (gmul_ne0 ha hb) hc, log_gmul hb hc, log_gmul ha hb]
  congr 1; omega
theorem gmul_one {a : Nat} (h : a < 256) : gmul a 1 = a := by
  by_cases ha : a = 0
  · subst ha; simp [zero_gmul]
  have h1 : glog 1 = 0 := by decide
  rw [gmul_of ha (by decide), h1, Nat.add_zero, Nat.mod_eq_of_lt (log_lt h ha), exp_log h ha]

/-! ### products through sums -/
theorem tw_xor {a b : Nat} (ha : a < 256) (hb : b < 256) : tw (a ^^^ b) = tw a ^^^ tw b := by
  have key : ∀ a : BitVec 8, ∀ b : BitVec 8, tw (a.toNat ^^^ b.toNat) = tw a.toNat ^^^ tw b.toNat := by
    have step : ∀ a : BitVec 8, tw a.toNat = ((a <<< 1) ^^^ (if a.msb then 27#8 else 0#8)).toNat := by decide +kernel
    intro a b
    rw [← BitVec.toNat_xor, step, step, step, ← BitVec.toNat_xor]
    congr 1
    have : (a ^^^ b).msb = (a.msb ^^ b.msb) := BitVec.msb_xor
    rw [this]
    have lc : ∀ x y z : BitVec 8, x ^^^ (y ^^^ z) = y ^^^ (x ^^^ z) := fun x y z => by rw [← BitVec.xor_assoc, BitVec.xor_comm x y, BitVec.xor_assoc]
    have sx : (a ^^^ b) <<< 1 = a <<< 1 ^^^ b <<< 1 := BitVec.shiftLeft_xor_distrib ..
    rw [sx]
    have e27 : (27#8 ^^^ 27#8 : BitVec 8) = 0#8 := by decide
    cases a.msb <;> cases b.msb <;> simp only [Bool.xor_true, Bool.xor_false, Bool.not_true, Bool.not_false, if_true, Bool.false_eq_true, if_false, BitVec.xor_zero, BitVec.xor_assoc]
    · rw [BitVec.xor_comm (b <<< 1)]
    · rw [lc (27#8), e27, BitVec.xor_zero]
  have := key (BitVec.ofNat 8 a) (BitVec.ofNat 8 b)
  simpa [BitVec.toNat_ofNat, Nat.mod_eq_of_lt ha, Nat.mod_eq_of_lt hb] using this
theorem m3_xor {a b : Nat} (ha : a < 256) (hb : b < 256) : m3 (a ^^^ b) = m3 a ^^^ m3 b := by
  unfold m3; rw [tw_xor ha hb]
  rw [Nat.xor_assoc, Nat.xor_assoc, ← Nat.xor_assoc b (tw a), Nat.xor_comm b (tw a), Nat.xor_assoc]
def it : Nat → Nat → Nat
  | 0, b => b
  | n + 1, b => m3 (it n b)
theorem it_lt {b : Nat} (n : Nat) (hb : b < 256) : it n b < 256 := by
  induction n with
  | zero => exact hb
  | succ n ih => exact m3_lt ih
theorem it_xor {a b : Nat} (n : Nat) (ha : a < 256) (hb : b < 256) : it n (a ^^^ b) = it n a ^^^ it n b := by
  induction n with
  | zero => rfl
  | succ n ih => show m3 _ = m3 _ ^^^ m3 _; rw [ih, m3_xor (it_lt n ha) (it_lt n hb)]
theorem it_exp (n m : Nat) : it n (gexp m) = gexp (n + m) := by
  induction n with
  | zero => rw [Nat.zero_add]; rfl
  | succ n ih => rw [show n + 1 + m = (n + m) + 1 by omega]; show m3 _ = m3 _; rw [ih]
theorem it_zero (n : Nat) : it n 0 = 0 := by
  induction n with
  | zero => rfl
  | succ n ih => show m3 (it n 0) = 0; rw [ih]; rfl
theorem gmul_it {a b : Nat} (ha : a ≠ 0) (hb : b < 256) : gmul a b = it (glog a) b := by
  by_cases h : b = 0
  · subst h; rw [gmul_zero, it_zero]
  · rw [gmul_of ha h]
    have e := exp_log hb h
    conv => rhs; rw [← e]
    rw [it_exp, exp_mod]
theorem gmul_xor {a b c : Nat} (hb : b < 256) (hc : c < 256) : gmul a (b ^^^ c) = gmul a b ^^^ gmul a c := by
  by_cases ha : a = 0
  · subst ha; simp [zero_gmul]
  rw [gmul_it ha (xor_lt hb hc), gmul_it ha hb, gmul_it ha hc, it_xor _ hb hc]
theorem xor_gmul {a b c : Nat} (hb : b < 256) (hc : c < 256) : gmul (b ^^^ c) a = gmul b a ^^^ gmul c a := by
  rw [gmul_comm, gmul_xor hb hc, gmul_comm a b, gmul_comm a c]

/-! ### quotients and powers -/
theorem gdiv_mul {a b : Nat} (ha : a < 256) (hb : b < 256) (h : b ≠ 0) : gmul (gdiv a b) b = a := by
  by_cases h0 : a = 0
  · subst h0; simp [gdiv, zero_gmul]
  have hl := log_lt hb h
  unfold gdiv; rw [if_neg h0, gmul_of (exp_ne0 _ (by omega)) h, log_exp _ (by omega)]
  have : ((glog a + 255 - glog b) % 255 + glog b) % 255 = glog a % 255 := by omega
  rw [this, exp_mod, exp_log ha h0]

/-! ### the table, as it is built: lists of 256 numbers -/
def etab : Nat → List Nat
  | 0 => List.replicate 256 0
  | n + 1 => (etab n).set n (gexp n)
def ltab : Nat → List Nat
  | 0 => List.replicate 256 0
  | n + 1 => (ltab n).set (gexp n) n
theorem etab_length (n : Nat) : (etab n).length = 256 := by
  induction n with
  | zero => exact List.length_replicate
  | succ n ih => show ((etab n).set n (gexp n)).length = 256; rw [List.length_set]; exact ih
theorem ltab_length (n : Nat) : (ltab n).length = 256 := by
  induction n with
  | zero => exact List.length_replicate
  | succ n ih => show ((ltab n).set (gexp n) n).length = 256; rw [List.length_set]; exact ih
theorem etab_get {n i : Nat} (hn : n ≤ 256) (hi : i < n) : (etab n)[i]? = some (gexp i) := by
  induction n with
  | zero => omega
  | succ n ih =>
    show ((etab n).set n (gexp n))[i]? = _
    by_cases h : i = n
    · subst h; rw [List.getElem?_set_self (by rw [etab_length]; omega)]
    · rw [List.getElem?_set_ne (by omega)]; exact ih (by omega) (by omega)
theorem ltab_get {n i : Nat} (hn : n ≤ 255) (hi : i < n) : (ltab n)[gexp i]? = some i := by
  induction n with
  | zero => omega
  | succ n ih =>
    show ((ltab n).set (gexp n) n)[gexp i]? = _
    by_cases h : i = n
    · subst h; rw [List.getElem?_set_self (by rw [ltab_length]; exact gexp_lt _)]
    · rw [List.getElem?_set_ne (fun e => h (exp_inj (by omega) (by omega) e.symm))]; exact ih (by omega) (by omega)
/-- What is built. -/
def ET : List Nat := (etab 255).set 255 1
def LT : List Nat := ltab 255
theorem ET_length : ET.length = 256 := by unfold ET; rw [List.length_set]; exact etab_length _
theorem ET_get {i : Nat} (hi : i < 255) : ET[i]? = some (gexp i) := by
  unfold ET; rw [List.getElem?_set_ne (by omega)]; exact etab_get (by omega) hi
theorem LT_get {a : Nat} (ha : a < 256) (h0 : a ≠ 0) : LT[a]? = some (glog a) := by
  have := ltab_get (n := 255) (by omega) (log_lt ha h0)
  rwa [exp_log ha h0] at this
end Go.Proofs.YtlkbkgghfhoggaaGreatDoor.Gm
