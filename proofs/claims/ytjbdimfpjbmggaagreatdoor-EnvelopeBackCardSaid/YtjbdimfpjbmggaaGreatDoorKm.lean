/- Keys out of keys, and nonces: what they are. -/
import Derived.Test.YtjbdimfpjbmggaaGreatDoorKj
import Derived.Test.YtjbdimfpjbmggaaGreatDoorOd
import Derived.Test.YtjbdimfpjbmggaaGreatDoorGk
set_option linter.unusedVariables false
set_option linter.unusedSimpArgs false
namespace Go.Proofs.YtjbdimfpjbmggaaGreatDoor
open Go.RowKit Gm
def hO (r : Nat) (T : List Nat) : List Nat := if r = 0 then [] else T
theorem hO_len {r : Nat} {T : List Nat} (hT : T.length = 32) (hr : r ≤ 1) : (hO r T).length = 32 * r := by
  unfold hO
  split
  · subst_vars; rfl
  · rw [hT]; omega
theorem hO_one (T : List Nat) : hO 0 T ++ T = hO 1 T := rfl
theorem hO_end (T : List Nat) : hO 1 T = T := rfl
/-- A key of 32 bytes out of another one, for a use. -/
def hkB (K U : List Nat) (n : Nat) : List Nat := macB K ((U ++ [0, n / 16777216 % 256, n / 65536 % 256, n / 256 % 256, n % 256]) ++ [1])
theorem hkB_by (K U : List Nat) (n : Nat) : By 32 (hkB K U n) := macB_by _ _
def nonB (t n : Nat) : List Nat := be4 t ++ be8 n
theorem be4_by (n : Nat) : By 4 (be4 n) := ⟨rfl, fun v hv => by
  unfold be4 at hv
  simp only [List.mem_cons, List.not_mem_nil, or_false] at hv
  rcases hv with rfl | rfl | rfl | rfl <;> exact Nat.mod_lt _ (by decide)⟩
theorem be8_by (n : Nat) : By 8 (be8 n) := ⟨be8_len n, fun v hv => by
  obtain ⟨i, _, rfl⟩ := List.mem_map.1 hv; exact Nat.mod_lt _ (by decide)⟩
theorem be8_st {n i : Nat} (hi : i < 8) : (be8 n).take i ++ [n / 2 ^ (56 - 8 * i) % 256] = (be8 n).take (i + 1) := be8_step hi (by rw [show 56 - 8 * i = 8 * (7 - i) by omega])
theorem nonB_by (t n : Nat) : By 12 (nonB t n) := ⟨by unfold nonB; rw [List.length_append, (be4_by t).1, (be8_by n).1], fun v hv => (List.mem_append.1 hv).elim ((be4_by t).2 v) ((be8_by n).2 v)⟩
theorem bstr_ne0 {U : List Nat} (h : 1 ≤ U.length) (e : bstr U = { data := #[] }) : False := by
  have := congrArg ByteArray.size e
  rw [bstr_size] at this
  have h0 : (ByteArray.mk #[]).size = 0 := rfl
  rw [h0] at this; omega
theorem Od.onE {w w' : World} {base q : Nat} {v : Value} {X : List Nat} (h : Od w base v X) (k : Kp (On q) w w') (hn : ∀ b, v.ownBlock = some b → b ≠ q) : Od w' base v X := h.kept k hn
section
variable {P : Program} {l : List (Nat × Value)} {w : World} {x y z : Operand} {t e len : Nat}
theorem pu_sliceHM {A : Option Addr} {c hi mx s : Nat} {k k' : IntKind} {i j : Int} (hu : P.underlying t = some (.slice e)) (hs : sizeB P e s = true) (hx : lk l x = some (.slice A len c)) (hh : lk l y = some (.int k i)) (hi' : i = (hi : Int)) (hm : lk l z = some (.int k' j)) (hj : j = (mx : Int))
    (h1 : hi ≤ mx) (h2 : mx ≤ c) : Pu P (.slice t x none (some y) (some z)) l w (.slice A hi mx) := fun n B ha d ty pos af g => by
  subst hi' hj
  unfold execOp
  simp only [Option.map_some, Option.map_none, ha.eval hx, ha.eval hh, ha.eval hm]
  have e2 : (0 : Int) ≤ (hi : Int) ∧ (hi : Int) ≤ (mx : Int) := by omega
  have e3 : A.map (·.add (0 * s)) = A := by cases A <;> simp [Addr.add]
  simp only [Instr.sliceAt, Instr.slice, run_underlying hu, Instr.sliceBounds, Instr.sliceBound, asIntOf, Sem.run_bind, Sem.run_pure, Result.andThen_ok]
  simp [run_underlying hu, h1, h2, sizeB_run hs, Addr.add]
end
end Go.Proofs.YtjbdimfpjbmggaaGreatDoor
