/- SHA-256 by numbers: words, rounds, blocks; what was absorbed; sums. -/
import Derived.Test.YtlkbkgghfhoggaaGreatDoorAe
set_option linter.unusedVariables false
set_option linter.unusedSimpArgs false
namespace Go.Proofs.YtlkbkgghfhoggaaGreatDoor
open Go.RowKit
def Wd (n : Nat) (W : List Nat) : Prop := W.length = n ∧ ∀ v ∈ W, v < 4294967296
theorem wd_getD {W : List Nat} (h : ∀ v ∈ W, v < 4294967296) (i : Nat) : W.getD i 0 < 4294967296 := by
  rw [List.getD_eq_getElem?_getD]
  cases hx : W[i]? with
  | none => decide
  | some v => exact h v (List.mem_of_getElem? hx)
theorem Wd.lt {n : Nat} {W : List Nat} (h : Wd n W) (i : Nat) : W.getD i 0 < 4294967296 := wd_getD h.2 i
theorem Wd.get {n : Nat} {W : List Nat} (h : Wd n W) {i : Nat} (hi : i < n) : W[i]? = some (W.getD i 0) := getD_get (by rw [h.1]; exact hi)
theorem Wd.set {n i v : Nat} {W : List Nat} (h : Wd n W) (hv : v < 4294967296) : Wd n (W.set i v) := ⟨by rw [List.length_set]; exact h.1, fun x hx => by
  rcases List.mem_or_eq_of_mem_set hx with hx | rfl
  · exact h.2 x hx
  · exact hv⟩
theorem wd_rep (n : Nat) : Wd n (List.replicate n 0) := ⟨List.length_replicate .., fun x hx => by rw [(List.mem_replicate.1 hx).2]; decide⟩
theorem wd_arr {n : Nat} {f : Nat → Nat} (h : ∀ i, i < n → f i < 4294967296) : Wd n (arr n f) := ⟨arr_length n f, fun v hv => by
  obtain ⟨i, hi, rfl⟩ := List.mem_map.1 hv; exact h i (List.mem_range.1 hi)⟩
theorem wd_upto {f g : Nat → Nat} {k n : Nat} (hf : ∀ i, i < n → f i < 4294967296) (hg : ∀ i, i < n → g i < 4294967296) : Wd n (upto f g k n) := wd_arr fun i hi => by split; exact hf i hi; exact hg i hi
theorem upto_at {f g : Nat → Nat} {k n i : Nat} (h : k ≤ i) (hn : i < n) : (upto f g k n)[i]? = some (g i) := by
  unfold upto; rw [arr_get _ hn, if_neg (by omega)]
theorem wd_lit {n : Nat} (l : List Nat) (h : (decide (l.length = n) && l.all (· < 4294967296)) = true) : Wd n l := by simp at h; exact ⟨h.1, h.2⟩
theorem u32s_get {W : List Nat} {i v : Nat} (h : W[i]? = some v) : (u32s W)[i]? = some (.int .u32 (v : Int)) := by simp [u32s, h]
theorem u32s_each (l : List Nat) : ∀ u ∈ u32s l, u.oneCell' = true := by
  intro u hu
  obtain ⟨n, _, rfl⟩ := List.mem_map.1 hu
  rfl
/-! ### words -/
def rolL (m x : Nat) : Nat := x * 2 ^ m % 4294967296 ||| x / 2 ^ (32 - m)
theorem rolL_lt {m x : Nat} (h : x < 4294967296) : rolL m x < 4294967296 := Nat.or_lt_two_pow (n := 32) (Nat.mod_lt _ (by decide)) (Nat.lt_of_le_of_lt (Nat.div_le_self _ _) h)
def bs0 (x : Nat) : Nat := (rolL 25 x ^^^ rolL 14 x) ^^^ x / 8
def bs1 (x : Nat) : Nat := (rolL 15 x ^^^ rolL 13 x) ^^^ x / 1024
def bS1 (x : Nat) : Nat := (rolL 26 x ^^^ rolL 21 x) ^^^ rolL 7 x
def bS0 (x : Nat) : Nat := (rolL 30 x ^^^ rolL 19 x) ^^^ rolL 10 x
/-! ### the words of a block -/
def nxs (l : List Nat) (n : Nat) : Nat := (((bs1 (l.getD (n - 2) 0) + l.getD (n - 7) 0) % 4294967296 + bs0 (l.getD (n - 15) 0)) % 4294967296 + l.getD (n - 16) 0) % 4294967296
def sws (b : List Nat) : Nat → List Nat
  | 0 => []
  | n + 1 => sws b n ++ [if n < 16 then kb b n else nxs (sws b n) n]
def sF (b : List Nat) (j : Nat) : Nat := (sws b (j + 1)).getD j 0
theorem sws_length (b : List Nat) (n : Nat) : (sws b n).length = n := by
  induction n with
  | zero => rfl
  | succ n ih => unfold sws; simp [ih]
theorem sws_last (b : List Nat) (n : Nat) : sF b n = if n < 16 then kb b n else nxs (sws b n) n := by
  unfold sF
  rw [show sws b (n + 1) = sws b n ++ [if n < 16 then kb b n else nxs (sws b n) n] from rfl, List.getD_eq_getElem?_getD, List.getElem?_append_right (by rw [sws_length]; exact Nat.le_refl _), sws_length, Nat.sub_self]; rfl
theorem sws_get (b : List Nat) {j n : Nat} (h : j < n) : (sws b n).getD j 0 = sF b j := by
  induction n with
  | zero => omega
  | succ n ih =>
    rcases Nat.lt_or_ge j n with hj | hj
    · rw [← ih hj, show sws b (n + 1) = sws b n ++ [if n < 16 then kb b n else nxs (sws b n) n] from rfl, List.getD_eq_getElem?_getD, List.getElem?_append_left (by rw [sws_length]; exact hj), List.getD_eq_getElem?_getD]
    · obtain rfl : j = n := by omega
      rfl
theorem sF_lo (b : List Nat) {j : Nat} (h : j < 16) : sF b j = kb b j := by rw [sws_last, if_pos h]
theorem sF_nx (b : List Nat) {j : Nat} (h : 16 ≤ j) : sF b j = (((bs1 (sF b (j - 2)) + sF b (j - 7)) % 4294967296 + bs0 (sF b (j - 15))) % 4294967296 + sF b (j - 16)) % 4294967296 := by
  rw [sws_last, if_neg (by omega)]; unfold nxs; rw [sws_get b (by omega), sws_get b (by omega), sws_get b (by omega), sws_get b (by omega)]
theorem sF_lt {b : List Nat} (h : ∀ n ∈ b, n < 256) (j : Nat) : sF b j < 4294967296 := by
  rcases Nat.lt_or_ge j 16 with h1 | h1
  · rw [sF_lo b h1]; exact kb_lt h j
  · rw [sF_nx b h1]; exact Nat.mod_lt _ (by decide)
theorem upto_sF (b : List Nat) : upto (kb b) (fun _ => 0) 16 64 = upto (sF b) (fun _ => 0) 16 64 := arr_ext fun i _ => by
  by_cases h : i < 16
  · rw [if_pos h, if_pos h, sF_lo b h]
  · rw [if_neg h, if_neg h]
/-! ### rounds -/
def rt1 (v : List Nat) (k s : Nat) : Nat := ((((v.getD 7 0 + bS1 (v.getD 4 0)) % 4294967296 + ((v.getD 4 0 &&& v.getD 5 0) ^^^ ((4294967295 - v.getD 4 0) &&& v.getD 6 0))) % 4294967296 + k) % 4294967296 + s) % 4294967296
def rt2 (v : List Nat) : Nat := (bS0 (v.getD 0 0) + (((v.getD 0 0 &&& v.getD 1 0) ^^^ (v.getD 0 0 &&& v.getD 2 0)) ^^^ (v.getD 1 0 &&& v.getD 2 0))) % 4294967296
def rdB (v : List Nat) (k s : Nat) : List Nat := [(rt1 v k s + rt2 v) % 4294967296, v.getD 0 0, v.getD 1 0, v.getD 2 0, (v.getD 3 0 + rt1 v k s) % 4294967296, v.getD 4 0, v.getD 5 0, v.getD 6 0]
theorem rdB_wd {v : List Nat} (h : Wd 8 v) (k s : Nat) : Wd 8 (rdB v k s) := ⟨rfl, by
  intro x hx
  unfold rdB at hx
  simp only [List.mem_cons, List.not_mem_nil, or_false] at hx
  rcases hx with rfl | rfl | rfl | rfl | rfl | rfl | rfl | rfl <;> first | exact h.lt _ | exact Nat.mod_lt _ (by decide)⟩
def shf (v : List Nat) : List Nat := v.take 1 ++ v.take 7
theorem shf_wd {v : List Nat} (h : Wd 8 v) : Wd 8 (shf v) := ⟨by unfold shf; rw [List.length_append, List.length_take, List.length_take, h.1]; rfl, fun x hx => by
  rcases List.mem_append.1 hx with h1 | h1 <;> exact h.2 x (List.mem_of_mem_take h1)⟩
theorem rdB_shf {v : List Nat} (h : Wd 8 v) (k s : Nat) : ((shf v).set 4 (((shf v).getD 4 0 + rt1 v k s) % 4294967296)).set 0 ((rt1 v k s + rt2 v) % 4294967296) = rdB v k s := by
  obtain ⟨h1, _⟩ := h
  generalize hx : (rt1 v k s + rt2 v) % 4294967296 = x
  unfold rdB
  rw [hx]
  generalize rt1 v k s = y
  match v, h1 with
  | [a0, a1, a2, a3, a4, a5, a6, a7], _ => rfl
def k256 : List Nat := [1116352408, 1899447441, 3049323471, 3921009573, 961987163, 1508970993, 2453635748, 2870763221, 3624381080, 310598401, 607225278, 1426881987, 1925078388, 2162078206, 2614888103, 3248222580, 3835390401, 4022224774, 264347078, 604807628, 770255983, 1249150122, 1555081692, 1996064986, 2554220882, 2821834349, 2952996808, 3210313671, 3336571891, 3584528711, 113926993, 338241895, 666307205, 773529912, 1294757372, 1396182291, 1695183700, 1986661051, 2177026350, 2456956037, 2730485921, 2820302411, 3259730800, 3345764771, 3516065817, 3600352804, 4094571909, 275423344, 430227734, 506948616, 659060556, 883997877, 958139571, 1322822218, 1537002063, 1747873779, 1955562222, 2024104815, 2227730452, 2361852424, 2428436474, 2756734187, 3204031479, 3329325298]
theorem k256_wd : Wd 64 k256 := wd_lit _ (by decide)
def iv : List Nat := [1779033703, 3144134277, 1013904242, 2773480762, 1359893119, 2600822924, 528734635, 1541459225]
theorem iv_wd : Wd 8 iv := wd_lit _ (by decide)
def mxN (H b : List Nat) : Nat → List Nat
  | 0 => H
  | n + 1 => rdB (mxN H b n) (k256.getD n 0) (sF b n)
theorem mxN_wd {H : List Nat} (h : Wd 8 H) (b : List Nat) : ∀ n, Wd 8 (mxN H b n)
  | 0 => h
  | n + 1 => rdB_wd (mxN_wd h b n) _ _
def mixB (H b : List Nat) : List Nat := arr 8 fun j => (H.getD j 0 + (mxN H b 64).getD j 0) % 4294967296
theorem mixB_wd (H b : List Nat) : Wd 8 (mixB H b) := wd_arr fun _ _ => Nat.mod_lt _ (by decide)
/-! ### whatever was written -/
def hN (M : List Nat) : Nat → List Nat
  | 0 => iv
  | k + 1 => mixB (hN M k) ((M.drop (64 * k)).take 64)
def HB (M : List Nat) : List Nat := hN M (M.length / 64)
def RB (M : List Nat) : List Nat := M.drop (64 * (M.length / 64))
theorem hN_wd (M : List Nat) : ∀ k, Wd 8 (hN M k)
  | 0 => iv_wd
  | _ + 1 => mixB_wd _ _
theorem HB_wd (M : List Nat) : Wd 8 (HB M) := hN_wd M _
theorem RB_len (M : List Nat) : (RB M).length = M.length % 64 := by unfold RB; rw [List.length_drop]; omega
theorem hN_app (M B : List Nat) : ∀ k, 64 * k ≤ M.length → hN (M ++ B) k = hN M k
  | 0, _ => rfl
  | k + 1, h => by
    unfold hN
    rw [hN_app M B k (by omega), List.drop_append_of_le_length (by omega), List.take_append_of_le_length (by rw [List.length_drop]; omega)]
theorem hb_small {M B : List Nat} (h : (RB M).length + B.length < 64) : HB (M ++ B) = HB M ∧ RB (M ++ B) = RB M ++ B := by
  rw [RB_len] at h
  have e : (M ++ B).length / 64 = M.length / 64 := by rw [List.length_append]; omega
  unfold HB RB
  rw [e]
  exact ⟨hN_app M B _ (by omega), List.drop_append_of_le_length (by omega)⟩
theorem hb_full {M B : List Nat} (h : (RB M).length + B.length = 64) (hB : 0 < B.length) : HB (M ++ B) = mixB (HB M) (RB M ++ B) ∧ RB (M ++ B) = [] := by
  rw [RB_len] at h
  have e : (M ++ B).length / 64 = M.length / 64 + 1 := by rw [List.length_append]; omega
  unfold HB RB
  rw [e]
  refine ⟨?_, List.drop_eq_nil_of_le (by rw [List.length_append]; omega)⟩
  show mixB (hN (M ++ B) _) _ = _
  rw [hN_app M B _ (by omega), List.drop_append_of_le_length (by omega), List.take_of_length_le (by rw [List.length_append, List.length_drop]; omega)]
/-! ### sums -/
def be8 (n : Nat) : List Nat := (List.range 8).map fun i => n / 2 ^ (8 * (7 - i)) % 256
def padL (n : Nat) : List Nat := (128 :: List.replicate ((119 - n % 64) % 64) 0) ++ be8 (8 * n)
theorem be8_len (n : Nat) : (be8 n).length = 8 := by unfold be8; rw [List.length_map, List.length_range]
theorem padL_len (n : Nat) : (n + (padL n).length) % 64 = 0 ∧ (padL n).length ≤ 72 := by
  unfold padL; rw [List.length_append, List.length_cons, List.length_replicate, be8_len]; omega
def wby (H : List Nat) (i : Nat) : Nat := H.getD (i / 4) 0 / 2 ^ (24 - 8 * (i % 4)) % 256
def shaB (M : List Nat) : List Nat := arr 32 (wby (HB (M ++ padL M.length)))
theorem shaB_by (M : List Nat) : By 32 (shaB M) := arr_by fun _ _ => Nat.mod_lt _ (by decide)
theorem be8_step {n i v : Nat} (hi : i < 8) (h : v = n / 2 ^ (8 * (7 - i)) % 256) : (be8 n).take i ++ [v] = (be8 n).take (i + 1) := by
  rw [List.take_add_one, show (be8 n)[i]? = some (n / 2 ^ (8 * (7 - i)) % 256) from arr_get (n := 8) _ hi, h]; rfl
theorem kb_get {b : List Nat} {j a0 a1 a2 a3 : Nat} (h0 : b[4 * j]? = some a0) (h1 : b[4 * j + 1]? = some a1) (h2 : b[4 * j + 2]? = some a2) (h3 : b[4 * j + 3]? = some a3) :
    ((a0 * 16777216 % 4294967296 ||| a1 * 65536 % 4294967296) ||| a2 * 256 % 4294967296) ||| a3 = kb b j := by
  unfold kb; rw [getD_some h0, getD_some h1, getD_some h2, getD_some h3]
theorem upto_wby {H : List Nat} {c : Nat} (h : Wd 8 H) {a b d e : Nat} (h1 : a = H.getD c 0 / 16777216 % 256) (h2 : b = H.getD c 0 / 65536 % 256) (h3 : d = H.getD c 0 / 256 % 256) (h4 : e = H.getD c 0 % 256) :
    ((((upto (wby H) (fun _ => 0) (4 * c) 32).set (4 * c) a).set (4 * c + 1) b).set (4 * c + 2) d).set (4 * c + 3) e = upto (wby H) (fun _ => 0) (4 * (c + 1)) 32 := by
  have w : ∀ k, k < 4 → wby H (4 * c + k) = H.getD c 0 / 2 ^ (24 - 8 * k) % 256 := fun k hk => by unfold wby; rw [show (4 * c + k) / 4 = c by omega, show (4 * c + k) % 4 = k by omega]
  rw [upto_set (by rw [h1]; exact (w 0 (by decide)).symm), upto_set (by rw [h2]; exact (w 1 (by decide)).symm), upto_set (by rw [h3]; exact (w 2 (by decide)).symm), upto_set (by rw [h4]; have := w 3 (by decide); rw [this]; simp), show 4 * c + 3 + 1 = 4 * (c + 1) by omega]
end Go.Proofs.YtlkbkgghfhoggaaGreatDoor
