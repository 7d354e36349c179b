/-
  DERIVED. GIVEN WITH THE SEED: THE CARDS: each row of YtfoenaleboodpaaDoorRows.lean that lists a variable, with what it lists TIED to the program's text (the seventh form; the later family's looks); each row that meets fmt, with fmt's text TOLD by the authors' own Lean function (tested against real Go, not proved from fmt's source: count such statements apart). THE CARD IS WHAT COUNTS. Prove the row's statement (the work); the ties are given (YtfoenaleboodpaaDoorTie.lean); close each card by the builder's one call (the guide's Derived/Test/ToyasCard.lean, 'card_holds'). Laid BY PROGRAM, IN A SANDBOX (cutbox-door.mjs). By AI agents, Wed Nov 11 2026. No macro, syntax, notation, axiom, sorry.
-/
import Derived.Test.YtfoenaleboodpaaDoorRows
import GoSem.ClaimSeven
namespace Go.Proofs.YtfoenaleboodpaaDoor
namespace Rows

/-- THE TIED CARD OF 'bursarylaw09.AesExact'. -/
def aesExactCard : Claim7 := { stood := { row := aesExactRow, standIns := [], harness := (true, "edc0ed3452540793785597af1f28041cbd191083da350786757dedd98ef25e18"), looks := true }, kinds := [], alts := [], laidByText := true, laidKinds := [.handle], laidTests := true, laidLooks := .later }
def AesExactCardSaid : Prop := Claim7.holds Tryd.pinned (.plain (OpenSpec.ofChange aesExactSpec)) aesExactCard

/-- THE TIED CARD OF 'bursarylaw11.GcmStreams'. -/
def gcmStreamsCard : Claim7 := { stood := { row := gcmStreamsRow, standIns := [], harness := (true, "edc0ed3452540793785597af1f28041cbd191083da350786757dedd98ef25e18"), looks := true }, kinds := [], alts := [], laidByText := true, laidKinds := [.handle], laidTests := true, laidLooks := .later }
def GcmStreamsCardSaid : Prop := Claim7.holds Tryd.pinned (.plain (OpenSpec.ofChange gcmStreamsSpec)) gcmStreamsCard

/-- THE TIED CARD OF 'bursarylaw11.GcmBack'. -/
def gcmBackCard : Claim7 := { stood := { row := gcmBackRow, standIns := [], harness := (true, "edc0ed3452540793785597af1f28041cbd191083da350786757dedd98ef25e18"), looks := true }, kinds := [], alts := [], laidByText := true, laidKinds := [.handle], laidTests := true, laidLooks := .later }
def GcmBackCardSaid : Prop := Claim7.holds Tryd.pinned (.plain (OpenSpec.ofChange gcmBackSpec)) gcmBackCard

/-- THE TIED CARD OF 'bursarylaw11.GcmFlips'. -/
def gcmFlipsCard : Claim7 := { stood := { row := gcmFlipsRow, standIns := [], harness := (true, "edc0ed3452540793785597af1f28041cbd191083da350786757dedd98ef25e18"), looks := true }, kinds := [], alts := [], laidByText := true, laidKinds := [.handle], laidTests := true, laidLooks := .later }
def GcmFlipsCardSaid : Prop := Claim7.holds Tryd.pinned (.plain (OpenSpec.ofChange gcmFlipsSpec)) gcmFlipsCard

/-- THE SECOND FORM's CARD OF 'bursarylaw09.AesExact'. -/
def aesExactUptoCard : Claim7 := { stood := { row := aesExactUptoRow, standIns := [], harness := (true, "edc0ed3452540793785597af1f28041cbd191083da350786757dedd98ef25e18"), looks := true }, kinds := [], alts := [], laidByText := true, laidKinds := [.handle], laidTests := true, laidLooks := .later }
def AesExactUptoCardSaid : Prop := Claim7.holds Tryd.pinned (.plain (OpenSpec.upto aesExactSpec)) aesExactUptoCard

/-- THE SECOND FORM's CARD OF 'bursarylaw11.GcmStreams'. -/
def gcmStreamsUptoCard : Claim7 := { stood := { row := gcmStreamsUptoRow, standIns := [], harness := (true, "edc0ed3452540793785597af1f28041cbd191083da350786757dedd98ef25e18"), looks := true }, kinds := [], alts := [], laidByText := true, laidKinds := [.handle], laidTests := true, laidLooks := .later }
def GcmStreamsUptoCardSaid : Prop := Claim7.holds Tryd.pinned (.plain (OpenSpec.upto gcmStreamsSpec)) gcmStreamsUptoCard

/-- THE SECOND FORM's CARD OF 'bursarylaw11.GcmBack'. -/
def gcmBackUptoCard : Claim7 := { stood := { row := gcmBackUptoRow, standIns := [], harness := (true, "edc0ed3452540793785597af1f28041cbd191083da350786757dedd98ef25e18"), looks := true }, kinds := [], alts := [], laidByText := true, laidKinds := [.handle], laidTests := true, laidLooks := .later }
def GcmBackUptoCardSaid : Prop := Claim7.holds Tryd.pinned (.plain (OpenSpec.upto gcmBackSpec)) gcmBackUptoCard

/-- THE SECOND FORM's CARD OF 'bursarylaw11.GcmFlips'. -/
def gcmFlipsUptoCard : Claim7 := { stood := { row := gcmFlipsUptoRow, standIns := [], harness := (true, "edc0ed3452540793785597af1f28041cbd191083da350786757dedd98ef25e18"), looks := true }, kinds := [], alts := [], laidByText := true, laidKinds := [.handle], laidTests := true, laidLooks := .later }
def GcmFlipsUptoCardSaid : Prop := Claim7.holds Tryd.pinned (.plain (OpenSpec.upto gcmFlipsSpec)) gcmFlipsUptoCard
end Rows
end Go.Proofs.YtfoenaleboodpaaDoor
