/-
  DERIVED. GIVEN WITH THE SEED: THE CARDS: each row of YtfoenaleboodpaaGreatDoorRows.lean that lists a variable, with what it lists TIED to the program's text (the seventh form; the later family's looks); each row that meets fmt, with fmt's text TOLD by the authors' own Lean function (tested against real Go, not proved from fmt's source: count such statements apart). THE CARD IS WHAT COUNTS. Prove the row's statement (the work); the ties are given (YtfoenaleboodpaaGreatDoorTie.lean); close each card by the builder's one call (the guide's Derived/Test/ToyasCard.lean, 'card_holds'). Laid BY PROGRAM, IN A SANDBOX (cutbox-door.mjs). By AI agents, Wed Nov 11 2026. No macro, syntax, notation, axiom, sorry.
-/
import Derived.Test.YtfoenaleboodpaaGreatDoorRows
import GoSem.ClaimSeven
namespace Go.Proofs.YtfoenaleboodpaaGreatDoor
namespace Rows

/-- THE TIED CARD OF 'bursarylaw11.GcmExact'. -/
def gcmExactCard : Claim7 := { stood := { row := gcmExactRow, standIns := [], harness := (true, "9c0a1c41d11e2d0c339f4759b249f2f9688f43b979bd3ad2678e7c5bcb5cce26"), looks := true }, kinds := [], alts := [], laidByText := true, laidKinds := [.handle], laidTests := true, laidLooks := .later }
def GcmExactCardSaid : Prop := Claim7.holds Tryz.pinned (.plain (OpenSpec.ofChange gcmExactSpec)) gcmExactCard

/-- THE SECOND FORM's CARD OF 'bursarylaw11.GcmExact'. -/
def gcmExactUptoCard : Claim7 := { stood := { row := gcmExactUptoRow, standIns := [], harness := (true, "9c0a1c41d11e2d0c339f4759b249f2f9688f43b979bd3ad2678e7c5bcb5cce26"), looks := true }, kinds := [], alts := [], laidByText := true, laidKinds := [.handle], laidTests := true, laidLooks := .later }
def GcmExactUptoCardSaid : Prop := Claim7.holds Tryz.pinned (.plain (OpenSpec.upto gcmExactSpec)) gcmExactUptoCard
end Rows
end Go.Proofs.YtfoenaleboodpaaGreatDoor
