/-
  DERIVED. GIVEN WITH THE SEED: THE CARDS: each row of YtikipijafdcmfaaDoorRows.lean that lists a variable, with what it lists TIED to the program's text (the seventh form; the later family's looks); each row that meets fmt, with fmt's text TOLD by the authors' own Lean function (tested against real Go, not proved from fmt's source: count such statements apart). THE CARD IS WHAT COUNTS. Prove the row's statement (the work); the ties are given (YtikipijafdcmfaaDoorTie.lean); close each card by the builder's one call (the guide's Derived/Test/ToyasCard.lean, 'card_holds'). Laid BY PROGRAM, IN A SANDBOX (cutbox-door.mjs). By AI agents, Wed Nov 11 2026. No macro, syntax, notation, axiom, sorry.
-/
import Derived.Test.YtikipijafdcmfaaDoorRows
import GoSem.ClaimSeven
namespace Go.Proofs.YtikipijafdcmfaaDoor
namespace Rows

/-- THE TIED CARD OF 'bursarylaw01.GfExact'. -/
def gfExactCard : Claim7 := { stood := { row := gfExactRow, standIns := [], harness := (true, "f63de41bed5ed61acad4af1752b8dfb75566374f99d39aa75b24f4d835e51e0e"), looks := true }, kinds := [], alts := [], laidByText := true, laidKinds := [.handle], laidTests := true, laidLooks := .later }
def GfExactCardSaid : Prop := Claim7.holds Tryd.pinned (.plain (OpenSpec.ofChange gfExactSpec)) gfExactCard

/-- THE TIED CARD OF 'bursarylaw01.GfPowers'. -/
def gfPowersCard : Claim7 := { stood := { row := gfPowersRow, standIns := [], harness := (true, "f63de41bed5ed61acad4af1752b8dfb75566374f99d39aa75b24f4d835e51e0e"), looks := true }, kinds := [], alts := [], laidByText := true, laidKinds := [.handle], laidTests := true, laidLooks := .later }
def GfPowersCardSaid : Prop := Claim7.holds Tryd.pinned (.plain (OpenSpec.ofChange gfPowersSpec)) gfPowersCard

/-- THE TIED CARD OF 'bursarylaw02.PolyEvals'. -/
def polyEvalsCard : Claim7 := { stood := { row := polyEvalsRow, standIns := [], harness := (true, "f63de41bed5ed61acad4af1752b8dfb75566374f99d39aa75b24f4d835e51e0e"), looks := true }, kinds := [], alts := [], laidByText := true, laidKinds := [.handle], laidTests := true, laidLooks := .later }
def PolyEvalsCardSaid : Prop := Claim7.holds Tryd.pinned (.plain (OpenSpec.ofChange polyEvalsSpec)) polyEvalsCard

/-- THE TIED CARD OF 'bursarylaw02.PolyPlaces'. -/
def polyPlacesCard : Claim7 := { stood := { row := polyPlacesRow, standIns := [], harness := (true, "f63de41bed5ed61acad4af1752b8dfb75566374f99d39aa75b24f4d835e51e0e"), looks := true }, kinds := [], alts := [], laidByText := true, laidKinds := [.handle], laidTests := true, laidLooks := .later }
def PolyPlacesCardSaid : Prop := Claim7.holds Tryd.pinned (.plain (OpenSpec.ofChange polyPlacesSpec)) polyPlacesCard

/-- THE TIED CARD OF 'bursarylaw02.PolyAlone'. -/
def polyAloneCard : Claim7 := { stood := { row := polyAloneRow, standIns := [], harness := (true, "f63de41bed5ed61acad4af1752b8dfb75566374f99d39aa75b24f4d835e51e0e"), looks := true }, kinds := [], alts := [], laidByText := true, laidKinds := [.handle], laidTests := true, laidLooks := .later }
def PolyAloneCardSaid : Prop := Claim7.holds Tryd.pinned (.plain (OpenSpec.ofChange polyAloneSpec)) polyAloneCard

/-- THE TIED CARD OF 'bursarylaw02.PolyProducts'. -/
def polyProductsCard : Claim7 := { stood := { row := polyProductsRow, standIns := [], harness := (true, "f63de41bed5ed61acad4af1752b8dfb75566374f99d39aa75b24f4d835e51e0e"), looks := true }, kinds := [], alts := [], laidByText := true, laidKinds := [.handle], laidTests := true, laidLooks := .later }
def PolyProductsCardSaid : Prop := Claim7.holds Tryd.pinned (.plain (OpenSpec.ofChange polyProductsSpec)) polyProductsCard

/-- THE SECOND FORM's CARD OF 'bursarylaw01.GfExact'. -/
def gfExactUptoCard : Claim7 := { stood := { row := gfExactUptoRow, standIns := [], harness := (true, "f63de41bed5ed61acad4af1752b8dfb75566374f99d39aa75b24f4d835e51e0e"), looks := true }, kinds := [], alts := [], laidByText := true, laidKinds := [.handle], laidTests := true, laidLooks := .later }
def GfExactUptoCardSaid : Prop := Claim7.holds Tryd.pinned (.plain (OpenSpec.upto gfExactSpec)) gfExactUptoCard

/-- THE SECOND FORM's CARD OF 'bursarylaw01.GfPowers'. -/
def gfPowersUptoCard : Claim7 := { stood := { row := gfPowersUptoRow, standIns := [], harness := (true, "f63de41bed5ed61acad4af1752b8dfb75566374f99d39aa75b24f4d835e51e0e"), looks := true }, kinds := [], alts := [], laidByText := true, laidKinds := [.handle], laidTests := true, laidLooks := .later }
def GfPowersUptoCardSaid : Prop := Claim7.holds Tryd.pinned (.plain (OpenSpec.upto gfPowersSpec)) gfPowersUptoCard

/-- THE SECOND FORM's CARD OF 'bursarylaw02.PolyEvals'. -/
def polyEvalsUptoCard : Claim7 := { stood := { row := polyEvalsUptoRow, standIns := [], harness := (true, "f63de41bed5ed61acad4af1752b8dfb75566374f99d39aa75b24f4d835e51e0e"), looks := true }, kinds := [], alts := [], laidByText := true, laidKinds := [.handle], laidTests := true, laidLooks := .later }
def PolyEvalsUptoCardSaid : Prop := Claim7.holds Tryd.pinned (.plain (OpenSpec.upto polyEvalsSpec)) polyEvalsUptoCard

/-- THE SECOND FORM's CARD OF 'bursarylaw02.PolyPlaces'. -/
def polyPlacesUptoCard : Claim7 := { stood := { row := polyPlacesUptoRow, standIns := [], harness := (true, "f63de41bed5ed61acad4af1752b8dfb75566374f99d39aa75b24f4d835e51e0e"), looks := true }, kinds := [], alts := [], laidByText := true, laidKinds := [.handle], laidTests := true, laidLooks := .later }
def PolyPlacesUptoCardSaid : Prop := Claim7.holds Tryd.pinned (.plain (OpenSpec.upto polyPlacesSpec)) polyPlacesUptoCard

/-- THE SECOND FORM's CARD OF 'bursarylaw02.PolyAlone'. -/
def polyAloneUptoCard : Claim7 := { stood := { row := polyAloneUptoRow, standIns := [], harness := (true, "f63de41bed5ed61acad4af1752b8dfb75566374f99d39aa75b24f4d835e51e0e"), looks := true }, kinds := [], alts := [], laidByText := true, laidKinds := [.handle], laidTests := true, laidLooks := .later }
def PolyAloneUptoCardSaid : Prop := Claim7.holds Tryd.pinned (.plain (OpenSpec.upto polyAloneSpec)) polyAloneUptoCard

/-- THE SECOND FORM's CARD OF 'bursarylaw02.PolyProducts'. -/
def polyProductsUptoCard : Claim7 := { stood := { row := polyProductsUptoRow, standIns := [], harness := (true, "f63de41bed5ed61acad4af1752b8dfb75566374f99d39aa75b24f4d835e51e0e"), looks := true }, kinds := [], alts := [], laidByText := true, laidKinds := [.handle], laidTests := true, laidLooks := .later }
def PolyProductsUptoCardSaid : Prop := Claim7.holds Tryd.pinned (.plain (OpenSpec.upto polyProductsSpec)) polyProductsUptoCard
end Rows
end Go.Proofs.YtikipijafdcmfaaDoor
