/- The first key, sealed; rings, sealed: what they are. -/
import Derived.Test.YtlkbkgghfhoggaaGreatDoorKq
import Derived.Test.YtlkbkgghfhoggaaGreatDoorGc
set_option linter.unusedVariables false
set_option linter.unusedSimpArgs false
namespace Go.Proofs.YtlkbkgghfhoggaaGreatDoor
open Go.RowKit Gm
def useE : List Nat := [101, 110, 118, 101, 108, 111, 112, 101]
def useR : List Nat := [114, 105, 110, 103]
def useN : List Nat := [114, 105, 110, 103, 45, 110, 111, 110, 99, 101]
def nameE : List Nat := [99, 111, 114, 101, 47, 101, 110, 118, 101, 108, 111, 112, 101]
def nameR : List Nat := [99, 111, 114, 101, 47, 114, 105, 110, 103]
def kE (K : List Nat) (g : Nat) : List Nat := hkB K useE g
def kR (K : List Nat) : List Nat := hkB K useR 0
theorem kE_by (K : List Nat) (g : Nat) : By 32 (kE K g) := hkB_by _ _ _
theorem kR_by (K : List Nat) : By 32 (kR K) := hkB_by _ _ _
def boxE (K M : List Nat) (g : Nat) : List Nat := sealB (kE K g) (nonB g 0) M nameE
def atR (K B : List Nat) : List Nat := (macB (hkB K useN 0) B).take 12
theorem atR_by (K B : List Nat) : By 12 (atR K B) := ⟨by unfold atR; rw [List.length_take, (macB_by _ _).1]; rfl, fun n hn => (macB_by _ _).2 n (List.mem_of_mem_take hn)⟩
def boxR (K B : List Nat) : List Nat := atR K B ++ sealB (kR K) (atR K B) B nameR
theorem boxE_len (K M : List Nat) (g : Nat) : (boxE K M g).length = M.length + 16 := sealB_len (nonB_by g 0)
theorem boxR_len (K B : List Nat) : (boxR K B).length = B.length + 28 := by unfold boxR; rw [List.length_append, (atR_by K B).1, sealB_len (atR_by K B)]; omega
theorem boxR_take (K B : List Nat) : (boxR K B).take 12 = atR K B := List.take_left' (atR_by K B).1
theorem boxR_drop (K B : List Nat) : (boxR K B).drop 12 = sealB (kR K) (atR K B) B nameR := List.drop_left' (atR_by K B).1
/-- What a box of a ring holds. -/
abbrev opR (K X : List Nat) : Prop := opensB (kR K) (X.take 12) (X.drop 12) nameR
def inR (K X : List Nat) : List Nat := cphB (kR K) (X.take 12) ((X.drop 12).take ((X.drop 12).length - 16))
abbrev opE (K X : List Nat) (g : Nat) : Prop := opensB (kE K g) (nonB g 0) X nameE
def inE (K X : List Nat) (g : Nat) : List Nat := cphB (kE K g) (nonB g 0) (X.take (X.length - 16))
theorem opE_box (K M : List Nat) (g : Nat) : opE K (boxE K M g) g := seal_opens (nonB_by g 0)
theorem inE_box (K M : List Nat) (g : Nat) : inE K (boxE K M g) g = M := seal_open (nonB_by g 0)
theorem opR_box (K B : List Nat) : opR K (boxR K B) := by unfold opR; rw [boxR_take, boxR_drop]; exact seal_opens (atR_by K B)
theorem inR_box (K B : List Nat) : inR K (boxR K B) = B := by unfold inR; rw [boxR_take, boxR_drop]; exact seal_open (atR_by K B)
theorem take_by {n m : Nat} {X : List Nat} (hb : ∀ v ∈ X, v < 256) (h : m ≤ X.length) (e : n = m) : By n (X.take m) := ⟨by rw [List.length_take, e]; omega, fun v hv => hb v (List.mem_of_mem_take hv)⟩
/-! ### rings come back -/
theorem encR_frame {L : List Tm} (hM : mayR L) (hok : ∀ t ∈ L, okT t) : frameD (encR L) := by
  have h2 := hM.2.1
  have e : L.length % 256 = L.length := Nat.mod_eq_of_lt (by omega)
  refine ⟨by unfold encR; simp, rfl, ?_⟩
  show (encR L).length = 3 + 32 * (L.length % 256)
  unfold encR
  rw [List.length_append, keys_len hok, e]; rfl
theorem encR_may {L : List Tm} (hM : mayR L) (hok : ∀ t ∈ L, okT t) : mayD (encR L) := by
  have h2 := hM.2.1
  have e : L.length % 256 = L.length := Nat.mod_eq_of_lt (by omega)
  refine ⟨encR_frame hM hok, ?_⟩
  show 1 ≤ L.length % 256 ∧ L.length % 256 ≤ 16
  rw [e]; exact ⟨hM.1, hM.2.1⟩
theorem keys_cut {L : List Tm} (hok : ∀ t ∈ L, okT t) {i : Nat} {t : Tm} (h : L[i]? = some t) : ((keysR L).drop (32 * i)).take 32 = t.2 := by
  have hi := (List.getElem?_eq_some_iff.1 h).1
  have e : keysR L = keysR (L.take i) ++ (t.2 ++ keysR (L.drop (i + 1))) := by
    unfold keysR
    conv => lhs; rw [← List.take_append_drop i L, List.flatMap_append, List.drop_eq_getElem_cons hi, List.flatMap_cons]
    rw [List.getElem?_eq_getElem hi] at h; cases h; rfl
  have hl : (keysR (L.take i)).length = 32 * i := by rw [keys_len (fun t ht => hok t (List.mem_of_mem_take ht)), List.length_take]; omega
  rw [e, List.drop_left' hl, List.take_left' (hok t (List.mem_of_getElem? h)).2.1]
theorem dec_enc {L : List Tm} (hM : mayR L) (hok : ∀ t ∈ L, okT t) : decR (encR L) = L := by
  have h2 := hM.2.1
  have e : (encR L).getD 2 0 = L.length := Nat.mod_eq_of_lt (by omega)
  apply List.ext_getElem?
  intro i
  by_cases hi : i < L.length
  · obtain ⟨t, ht⟩ : ∃ t, L[i]? = some t := ⟨_, List.getElem?_eq_getElem hi⟩
    obtain ⟨u, hu⟩ : ∃ u, (decR (encR L))[i]? = some u := ⟨_, List.getElem?_eq_getElem (by rw [decR_len, e]; exact hi)⟩
    rw [hu, ht, (decR_get hu).2]
    have h1 := hM.2.2 i t ht
    have h3 : chX2 ((encR L).drop 3) i = t.2 := keys_cut hok ht
    rw [h3, ← h1]
  · rw [List.getElem?_eq_none (by rw [decR_len, e]; omega), List.getElem?_eq_none (by omega)]
theorem may_one {X : List Nat} : mayR [(1, X)] := ⟨Nat.le_refl _, Nat.le_of_ble_eq_true rfl, fun i t h => by
  cases i with
  | zero => cases h; rfl
  | succ i => simp at h⟩
theorem ok_one {X : List Nat} (h : By 32 X) : ∀ t ∈ [((1, X) : Tm)], okT t := fun t ht => by rw [List.mem_singleton.1 ht]; exact ⟨(by decide : 1 < 4294967296), h⟩
end Go.Proofs.YtlkbkgghfhoggaaGreatDoor
