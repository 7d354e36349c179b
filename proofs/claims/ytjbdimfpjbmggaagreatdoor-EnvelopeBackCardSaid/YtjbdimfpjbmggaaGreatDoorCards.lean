/-
  DERIVED. GIVEN WITH THE SEED: THE CARDS: each row of YtjbdimfpjbmggaaGreatDoorRows.lean that lists a variable, with what it lists TIED to the program's text (the seventh form; the later family's looks); each row that meets fmt, with fmt's text TOLD by the authors' own Lean function (tested against real Go, not proved from fmt's source: count such statements apart). THE CARD IS WHAT COUNTS. Prove the row's statement (the work); the ties are given (YtjbdimfpjbmggaaGreatDoorTie.lean); close each card by the builder's one call (the guide's Derived/Test/ToyasCard.lean, 'card_holds'). Laid BY PROGRAM, IN A SANDBOX (cutbox-door.mjs). By AI agents, Wed Nov 11 2026. No macro, syntax, notation, axiom, sorry.
-/
import Derived.Test.YtjbdimfpjbmggaaGreatDoorRows
import GoSem.ClaimSeven
namespace Go.Proofs.YtjbdimfpjbmggaaGreatDoor
namespace Rows

/-- THE TIED CARD OF 'bursarylaw22.EnvelopeExact'. -/
def envelopeExactCard : Claim7 := { stood := { row := envelopeExactRow, standIns := [], harness := (true, "847b29be9f82dfea86e638ce881edbcb3a3ed1de79ef4fc830ce74a54fded0e2"), looks := true }, kinds := [], alts := [], laidByText := true, laidKinds := [.handle], laidTests := true, laidLooks := .later }
def EnvelopeExactCardSaid : Prop := Claim7.holds Tryz.pinned (.plain (OpenSpec.ofChange envelopeExactSpec)) envelopeExactCard

/-- THE TIED CARD OF 'bursarylaw22.EnvelopeBack'. -/
def envelopeBackCard : Claim7 := { stood := { row := envelopeBackRow, standIns := [], harness := (true, "847b29be9f82dfea86e638ce881edbcb3a3ed1de79ef4fc830ce74a54fded0e2"), looks := true }, kinds := [], alts := [], laidByText := true, laidKinds := [.handle], laidTests := true, laidLooks := .later }
def EnvelopeBackCardSaid : Prop := Claim7.holds Tryz.pinned (.plain (OpenSpec.ofChange envelopeBackSpec)) envelopeBackCard

/-- THE SECOND FORM's CARD OF 'bursarylaw22.EnvelopeExact'. -/
def envelopeExactUptoCard : Claim7 := { stood := { row := envelopeExactUptoRow, standIns := [], harness := (true, "847b29be9f82dfea86e638ce881edbcb3a3ed1de79ef4fc830ce74a54fded0e2"), looks := true }, kinds := [], alts := [], laidByText := true, laidKinds := [.handle], laidTests := true, laidLooks := .later }
def EnvelopeExactUptoCardSaid : Prop := Claim7.holds Tryz.pinned (.plain (OpenSpec.upto envelopeExactSpec)) envelopeExactUptoCard

/-- THE SECOND FORM's CARD OF 'bursarylaw22.EnvelopeBack'. -/
def envelopeBackUptoCard : Claim7 := { stood := { row := envelopeBackUptoRow, standIns := [], harness := (true, "847b29be9f82dfea86e638ce881edbcb3a3ed1de79ef4fc830ce74a54fded0e2"), looks := true }, kinds := [], alts := [], laidByText := true, laidKinds := [.handle], laidTests := true, laidLooks := .later }
def EnvelopeBackUptoCardSaid : Prop := Claim7.holds Tryz.pinned (.plain (OpenSpec.upto envelopeBackSpec)) envelopeBackUptoCard
end Rows
end Go.Proofs.YtjbdimfpjbmggaaGreatDoor
