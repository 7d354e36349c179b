/-
  DERIVED. GIVEN WITH THE SEED: THE CARDS: each row of YtjbdimfpjbmggaaDoorRows.lean that lists a variable, with what it lists TIED to the program's text (the seventh form; the later family's looks); each row that meets fmt, with fmt's text TOLD by the authors' own Lean function (tested against real Go, not proved from fmt's source: count such statements apart). THE CARD IS WHAT COUNTS. Prove the row's statement (the work); the ties are given (YtjbdimfpjbmggaaDoorTie.lean); close each card by the builder's one call (the guide's Derived/Test/ToyasCard.lean, 'card_holds'). Laid BY PROGRAM, IN A SANDBOX (cutbox-door.mjs). By AI agents, Wed Nov 11 2026. No macro, syntax, notation, axiom, sorry.
-/
import Derived.Test.YtjbdimfpjbmggaaDoorRows
import GoSem.ClaimSeven
namespace Go.Proofs.YtjbdimfpjbmggaaDoor
namespace Rows

/-- THE TIED CARD OF 'bursarylaw03.ShamirSplits'. -/
def shamirSplitsCard : Claim7 := { stood := { row := shamirSplitsRow, standIns := [], harness := (true, "4a3d3c939af1d994e4c6fc6c4a0bc3f9bec36ae3e3e36d3cfb374c8158010a1e"), looks := true }, kinds := [], alts := [], laidByText := true, laidKinds := [.handle], laidTests := true, laidLooks := .later }
def ShamirSplitsCardSaid : Prop := Claim7.holds Tryd.pinned (.plain (OpenSpec.ofChange shamirSplitsSpec)) shamirSplitsCard

/-- THE TIED CARD OF 'bursarylaw03.ShamirHides'. -/
def shamirHidesCard : Claim7 := { stood := { row := shamirHidesRow, standIns := [], harness := (true, "4a3d3c939af1d994e4c6fc6c4a0bc3f9bec36ae3e3e36d3cfb374c8158010a1e"), looks := true }, kinds := [], alts := [], laidByText := true, laidKinds := [.handle], laidTests := true, laidLooks := .later }
def ShamirHidesCardSaid : Prop := Claim7.holds Tryd.pinned (.plain (OpenSpec.ofChange shamirHidesSpec)) shamirHidesCard

/-- THE TIED CARD OF 'bursarylaw03.ShamirSums'. -/
def shamirSumsCard : Claim7 := { stood := { row := shamirSumsRow, standIns := [], harness := (true, "4a3d3c939af1d994e4c6fc6c4a0bc3f9bec36ae3e3e36d3cfb374c8158010a1e"), looks := true }, kinds := [], alts := [], laidByText := true, laidKinds := [.handle], laidTests := true, laidLooks := .later }
def ShamirSumsCardSaid : Prop := Claim7.holds Tryd.pinned (.plain (OpenSpec.ofChange shamirSumsSpec)) shamirSumsCard

/-- THE TIED CARD OF 'bursarylaw03.ShamirJoins'. -/
def shamirJoinsCard : Claim7 := { stood := { row := shamirJoinsRow, standIns := [], harness := (true, "4a3d3c939af1d994e4c6fc6c4a0bc3f9bec36ae3e3e36d3cfb374c8158010a1e"), looks := true }, kinds := [], alts := [], laidByText := true, laidKinds := [.handle], laidTests := true, laidLooks := .later }
def ShamirJoinsCardSaid : Prop := Claim7.holds Tryd.pinned (.plain (OpenSpec.ofChange shamirJoinsSpec)) shamirJoinsCard

/-- THE TIED CARD OF 'bursarylaw03.ShamirAny'. -/
def shamirAnyCard : Claim7 := { stood := { row := shamirAnyRow, standIns := [], harness := (true, "4a3d3c939af1d994e4c6fc6c4a0bc3f9bec36ae3e3e36d3cfb374c8158010a1e"), looks := true }, kinds := [], alts := [], laidByText := true, laidKinds := [.handle], laidTests := true, laidLooks := .later }
def ShamirAnyCardSaid : Prop := Claim7.holds Tryd.pinned (.plain (OpenSpec.ofChange shamirAnySpec)) shamirAnyCard

/-- THE TIED CARD OF 'bursarylaw23.ProgressSteps'. -/
def progressStepsCard : Claim7 := { stood := { row := progressStepsRow, standIns := [], harness := (true, "4a3d3c939af1d994e4c6fc6c4a0bc3f9bec36ae3e3e36d3cfb374c8158010a1e"), looks := true }, kinds := [], alts := [], laidByText := true, laidKinds := [.handle], laidTests := true, laidLooks := .later }
def ProgressStepsCardSaid : Prop := Claim7.holds Tryd.pinned (.plain (OpenSpec.ofChange progressStepsSpec)) progressStepsCard

/-- THE TIED CARD OF 'bursarylaw23.ProgressOrder'. -/
def progressOrderCard : Claim7 := { stood := { row := progressOrderRow, standIns := [], harness := (true, "4a3d3c939af1d994e4c6fc6c4a0bc3f9bec36ae3e3e36d3cfb374c8158010a1e"), looks := true }, kinds := [], alts := [], laidByText := true, laidKinds := [.handle], laidTests := true, laidLooks := .later }
def ProgressOrderCardSaid : Prop := Claim7.holds Tryd.pinned (.plain (OpenSpec.ofChange progressOrderSpec)) progressOrderCard

/-- THE TIED CARD OF 'bursarylaw23.ProgressWrong'. -/
def progressWrongCard : Claim7 := { stood := { row := progressWrongRow, standIns := [], harness := (true, "4a3d3c939af1d994e4c6fc6c4a0bc3f9bec36ae3e3e36d3cfb374c8158010a1e"), looks := true }, kinds := [], alts := [], laidByText := true, laidKinds := [.handle], laidTests := true, laidLooks := .later }
def ProgressWrongCardSaid : Prop := Claim7.holds Tryd.pinned (.plain (OpenSpec.ofChange progressWrongSpec)) progressWrongCard

/-- THE SECOND FORM's CARD OF 'bursarylaw03.ShamirSplits'. -/
def shamirSplitsUptoCard : Claim7 := { stood := { row := shamirSplitsUptoRow, standIns := [], harness := (true, "4a3d3c939af1d994e4c6fc6c4a0bc3f9bec36ae3e3e36d3cfb374c8158010a1e"), looks := true }, kinds := [], alts := [], laidByText := true, laidKinds := [.handle], laidTests := true, laidLooks := .later }
def ShamirSplitsUptoCardSaid : Prop := Claim7.holds Tryd.pinned (.plain (OpenSpec.upto shamirSplitsSpec)) shamirSplitsUptoCard

/-- THE SECOND FORM's CARD OF 'bursarylaw03.ShamirHides'. -/
def shamirHidesUptoCard : Claim7 := { stood := { row := shamirHidesUptoRow, standIns := [], harness := (true, "4a3d3c939af1d994e4c6fc6c4a0bc3f9bec36ae3e3e36d3cfb374c8158010a1e"), looks := true }, kinds := [], alts := [], laidByText := true, laidKinds := [.handle], laidTests := true, laidLooks := .later }
def ShamirHidesUptoCardSaid : Prop := Claim7.holds Tryd.pinned (.plain (OpenSpec.upto shamirHidesSpec)) shamirHidesUptoCard

/-- THE SECOND FORM's CARD OF 'bursarylaw03.ShamirSums'. -/
def shamirSumsUptoCard : Claim7 := { stood := { row := shamirSumsUptoRow, standIns := [], harness := (true, "4a3d3c939af1d994e4c6fc6c4a0bc3f9bec36ae3e3e36d3cfb374c8158010a1e"), looks := true }, kinds := [], alts := [], laidByText := true, laidKinds := [.handle], laidTests := true, laidLooks := .later }
def ShamirSumsUptoCardSaid : Prop := Claim7.holds Tryd.pinned (.plain (OpenSpec.upto shamirSumsSpec)) shamirSumsUptoCard

/-- THE SECOND FORM's CARD OF 'bursarylaw03.ShamirJoins'. -/
def shamirJoinsUptoCard : Claim7 := { stood := { row := shamirJoinsUptoRow, standIns := [], harness := (true, "4a3d3c939af1d994e4c6fc6c4a0bc3f9bec36ae3e3e36d3cfb374c8158010a1e"), looks := true }, kinds := [], alts := [], laidByText := true, laidKinds := [.handle], laidTests := true, laidLooks := .later }
def ShamirJoinsUptoCardSaid : Prop := Claim7.holds Tryd.pinned (.plain (OpenSpec.upto shamirJoinsSpec)) shamirJoinsUptoCard

/-- THE SECOND FORM's CARD OF 'bursarylaw03.ShamirAny'. -/
def shamirAnyUptoCard : Claim7 := { stood := { row := shamirAnyUptoRow, standIns := [], harness := (true, "4a3d3c939af1d994e4c6fc6c4a0bc3f9bec36ae3e3e36d3cfb374c8158010a1e"), looks := true }, kinds := [], alts := [], laidByText := true, laidKinds := [.handle], laidTests := true, laidLooks := .later }
def ShamirAnyUptoCardSaid : Prop := Claim7.holds Tryd.pinned (.plain (OpenSpec.upto shamirAnySpec)) shamirAnyUptoCard

/-- THE SECOND FORM's CARD OF 'bursarylaw23.ProgressSteps'. -/
def progressStepsUptoCard : Claim7 := { stood := { row := progressStepsUptoRow, standIns := [], harness := (true, "4a3d3c939af1d994e4c6fc6c4a0bc3f9bec36ae3e3e36d3cfb374c8158010a1e"), looks := true }, kinds := [], alts := [], laidByText := true, laidKinds := [.handle], laidTests := true, laidLooks := .later }
def ProgressStepsUptoCardSaid : Prop := Claim7.holds Tryd.pinned (.plain (OpenSpec.upto progressStepsSpec)) progressStepsUptoCard

/-- THE SECOND FORM's CARD OF 'bursarylaw23.ProgressOrder'. -/
def progressOrderUptoCard : Claim7 := { stood := { row := progressOrderUptoRow, standIns := [], harness := (true, "4a3d3c939af1d994e4c6fc6c4a0bc3f9bec36ae3e3e36d3cfb374c8158010a1e"), looks := true }, kinds := [], alts := [], laidByText := true, laidKinds := [.handle], laidTests := true, laidLooks := .later }
def ProgressOrderUptoCardSaid : Prop := Claim7.holds Tryd.pinned (.plain (OpenSpec.upto progressOrderSpec)) progressOrderUptoCard

/-- THE SECOND FORM's CARD OF 'bursarylaw23.ProgressWrong'. -/
def progressWrongUptoCard : Claim7 := { stood := { row := progressWrongUptoRow, standIns := [], harness := (true, "4a3d3c939af1d994e4c6fc6c4a0bc3f9bec36ae3e3e36d3cfb374c8158010a1e"), looks := true }, kinds := [], alts := [], laidByText := true, laidKinds := [.handle], laidTests := true, laidLooks := .later }
def ProgressWrongUptoCardSaid : Prop := Claim7.holds Tryd.pinned (.plain (OpenSpec.upto progressWrongSpec)) progressWrongUptoCard
end Rows
end Go.Proofs.YtjbdimfpjbmggaaDoor
