/-
  DERIVED. GIVEN WITH THE SEED: THE CARDS: each row of YtlkbkgghfhoggaaGreatDoorRows.lean that lists a variable, with what it lists TIED to the program's text (the seventh form; the later family's looks); each row that meets fmt, with fmt's text TOLD by the authors' own Lean function (tested against real Go, not proved from fmt's source: count such statements apart). THE CARD IS WHAT COUNTS. Prove the row's statement (the work); the ties are given (YtlkbkgghfhoggaaGreatDoorTie.lean); close each card by the builder's one call (the guide's Derived/Test/ToyasCard.lean, 'card_holds'). Laid BY PROGRAM, IN A SANDBOX (cutbox-door.mjs). By AI agents, Wed Nov 11 2026. No macro, syntax, notation, axiom, sorry.
-/
import Derived.Test.YtlkbkgghfhoggaaGreatDoorRows
import GoSem.ClaimSeven
namespace Go.Proofs.YtlkbkgghfhoggaaGreatDoor
namespace Rows

/-- THE TIED CARD OF 'bursarylaw36.CeremonyFresh'. -/
def ceremonyFreshCard : Claim7 := { stood := { row := ceremonyFreshRow, standIns := [], harness := (true, "bd615e4b08a23897d1dd787a644fa7fb08bf27a2eebeeb89c1a2c5141ac94589"), looks := true }, kinds := [], alts := [], laidByText := true, laidKinds := [.handle], laidTests := true, laidLooks := .later }
def CeremonyFreshCardSaid : Prop := Claim7.holds Tryz.pinned (.plain (OpenSpec.ofChange ceremonyFreshSpec)) ceremonyFreshCard

/-- THE TIED CARD OF 'bursarylaw36.CeremonyOpens'. -/
def ceremonyOpensCard : Claim7 := { stood := { row := ceremonyOpensRow, standIns := [], harness := (true, "bd615e4b08a23897d1dd787a644fa7fb08bf27a2eebeeb89c1a2c5141ac94589"), looks := true }, kinds := [], alts := [], laidByText := true, laidKinds := [.handle], laidTests := true, laidLooks := .later }
def CeremonyOpensCardSaid : Prop := Claim7.holds Tryz.pinned (.plain (OpenSpec.ofChange ceremonyOpensSpec)) ceremonyOpensCard

/-- THE SECOND FORM's CARD OF 'bursarylaw36.CeremonyFresh'. -/
def ceremonyFreshUptoCard : Claim7 := { stood := { row := ceremonyFreshUptoRow, standIns := [], harness := (true, "bd615e4b08a23897d1dd787a644fa7fb08bf27a2eebeeb89c1a2c5141ac94589"), looks := true }, kinds := [], alts := [], laidByText := true, laidKinds := [.handle], laidTests := true, laidLooks := .later }
def CeremonyFreshUptoCardSaid : Prop := Claim7.holds Tryz.pinned (.plain (OpenSpec.upto ceremonyFreshSpec)) ceremonyFreshUptoCard

/-- THE SECOND FORM's CARD OF 'bursarylaw36.CeremonyOpens'. -/
def ceremonyOpensUptoCard : Claim7 := { stood := { row := ceremonyOpensUptoRow, standIns := [], harness := (true, "bd615e4b08a23897d1dd787a644fa7fb08bf27a2eebeeb89c1a2c5141ac94589"), looks := true }, kinds := [], alts := [], laidByText := true, laidKinds := [.handle], laidTests := true, laidLooks := .later }
def CeremonyOpensUptoCardSaid : Prop := Claim7.holds Tryz.pinned (.plain (OpenSpec.upto ceremonyOpensSpec)) ceremonyOpensUptoCard
end Rows
end Go.Proofs.YtlkbkgghfhoggaaGreatDoor
