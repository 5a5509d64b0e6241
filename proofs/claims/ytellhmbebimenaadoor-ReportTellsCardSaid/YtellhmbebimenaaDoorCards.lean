/-
  DERIVED. GIVEN WITH THE SEED: THE CARDS: each row of YtellhmbebimenaaDoorRows.lean that lists a variable, with what it lists TIED to the program's text (the seventh form; the later family's looks); each row that meets fmt, with fmt's text TOLD by the authors' own Lean function (tested against real Go, not proved from fmt's source: count such statements apart). THE CARD IS WHAT COUNTS. Prove the row's statement (the work); the ties are given (YtellhmbebimenaaDoorTie.lean); close each card by the builder's one call (the guide's Derived/Test/ToyasCard.lean, 'card_holds'). Laid BY PROGRAM, IN A SANDBOX (cutbox-door.mjs). By AI agents, Wed Nov 11 2026. No macro, syntax, notation, axiom, sorry.
-/
import Derived.Test.YtellhmbebimenaaDoorRows
import GoSem.ClaimSeven
namespace Go.Proofs.YtellhmbebimenaaDoor
namespace Rows

/-- THE TIED CARD OF 'couponlaw20.LetterMakes'. -/
def letterMakesCard : Claim7 := { stood := { row := letterMakesRow, standIns := [], harness := (true, "b26a97c23fc3df15a72b9f3a8bce4b411267d854f5760aff292da07b77d2521f"), looks := false }, kinds := [], alts := [], laidByText := true, laidKinds := [.data, .data, .data], laidTests := true, laidLooks := .later }
def LetterMakesCardSaid : Prop := Claim7.holds Tryd.pinned (.plain (OpenSpec.ofChange letterMakesSpec)) letterMakesCard

/-- THE TIED CARD OF 'couponlaw20.LetterApart'. -/
def letterApartCard : Claim7 := { stood := { row := letterApartRow, standIns := [], harness := (true, "b26a97c23fc3df15a72b9f3a8bce4b411267d854f5760aff292da07b77d2521f"), looks := false }, kinds := [], alts := [], laidByText := true, laidKinds := [.data, .data, .data], laidTests := true, laidLooks := .later }
def LetterApartCardSaid : Prop := Claim7.holds Tryd.pinned (.plain (OpenSpec.ofChange letterApartSpec)) letterApartCard

/-- THE TIED CARD OF 'couponlaw20.LetterBytes'. -/
def letterBytesCard : Claim7 := { stood := { row := letterBytesRow, standIns := [], harness := (true, "b26a97c23fc3df15a72b9f3a8bce4b411267d854f5760aff292da07b77d2521f"), looks := false }, kinds := [], alts := [], laidByText := true, laidKinds := [.data, .data, .data], laidTests := true, laidLooks := .later }
def LetterBytesCardSaid : Prop := Claim7.holds Tryd.pinned (.plain (OpenSpec.ofChange letterBytesSpec)) letterBytesCard

/-- THE TIED CARD OF 'couponlaw20.LetterReads'. -/
def letterReadsCard : Claim7 := { stood := { row := letterReadsRow, standIns := [], harness := (true, "b26a97c23fc3df15a72b9f3a8bce4b411267d854f5760aff292da07b77d2521f"), looks := false }, kinds := [], alts := [], laidByText := true, laidKinds := [.data, .data, .data], laidTests := true, laidLooks := .later }
def LetterReadsCardSaid : Prop := Claim7.holds Tryd.pinned (.plain (OpenSpec.ofChange letterReadsSpec)) letterReadsCard

/-- THE TIED CARD OF 'couponlaw14.PostingBytes'. -/
def postingBytesCard : Claim7 := { stood := { row := postingBytesRow, standIns := [], harness := (true, "b26a97c23fc3df15a72b9f3a8bce4b411267d854f5760aff292da07b77d2521f"), looks := false }, kinds := [], alts := [], laidByText := true, laidKinds := [.data, .data, .data], laidTests := true, laidLooks := .later }
def PostingBytesCardSaid : Prop := Claim7.holds Tryd.pinned (.plain (OpenSpec.ofChange postingBytesSpec)) postingBytesCard

/-- THE TIED CARD OF 'couponlaw17.ReportTells'. -/
def reportTellsCard : Claim7 := { stood := { row := reportTellsRow, standIns := [], harness := (true, "b26a97c23fc3df15a72b9f3a8bce4b411267d854f5760aff292da07b77d2521f"), looks := false }, kinds := [], alts := [], laidByText := true, laidKinds := [.data, .data, .data], laidTests := true, laidLooks := .later }
def ReportTellsCardSaid : Prop := Claim7.holds Tryd.pinned (.plain (OpenSpec.ofChange reportTellsSpec)) reportTellsCard

/-- THE SECOND FORM's CARD OF 'couponlaw20.LetterMakes'. -/
def letterMakesUptoCard : Claim7 := { stood := { row := letterMakesUptoRow, standIns := [], harness := (true, "b26a97c23fc3df15a72b9f3a8bce4b411267d854f5760aff292da07b77d2521f"), looks := false }, kinds := [], alts := [], laidByText := true, laidKinds := [.data, .data, .data], laidTests := true, laidLooks := .later }
def LetterMakesUptoCardSaid : Prop := Claim7.holds Tryd.pinned (.plain (OpenSpec.upto letterMakesSpec)) letterMakesUptoCard

/-- THE SECOND FORM's CARD OF 'couponlaw20.LetterApart'. -/
def letterApartUptoCard : Claim7 := { stood := { row := letterApartUptoRow, standIns := [], harness := (true, "b26a97c23fc3df15a72b9f3a8bce4b411267d854f5760aff292da07b77d2521f"), looks := false }, kinds := [], alts := [], laidByText := true, laidKinds := [.data, .data, .data], laidTests := true, laidLooks := .later }
def LetterApartUptoCardSaid : Prop := Claim7.holds Tryd.pinned (.plain (OpenSpec.upto letterApartSpec)) letterApartUptoCard

/-- THE SECOND FORM's CARD OF 'couponlaw20.LetterBytes'. -/
def letterBytesUptoCard : Claim7 := { stood := { row := letterBytesUptoRow, standIns := [], harness := (true, "b26a97c23fc3df15a72b9f3a8bce4b411267d854f5760aff292da07b77d2521f"), looks := false }, kinds := [], alts := [], laidByText := true, laidKinds := [.data, .data, .data], laidTests := true, laidLooks := .later }
def LetterBytesUptoCardSaid : Prop := Claim7.holds Tryd.pinned (.plain (OpenSpec.upto letterBytesSpec)) letterBytesUptoCard

/-- THE SECOND FORM's CARD OF 'couponlaw20.LetterReads'. -/
def letterReadsUptoCard : Claim7 := { stood := { row := letterReadsUptoRow, standIns := [], harness := (true, "b26a97c23fc3df15a72b9f3a8bce4b411267d854f5760aff292da07b77d2521f"), looks := false }, kinds := [], alts := [], laidByText := true, laidKinds := [.data, .data, .data], laidTests := true, laidLooks := .later }
def LetterReadsUptoCardSaid : Prop := Claim7.holds Tryd.pinned (.plain (OpenSpec.upto letterReadsSpec)) letterReadsUptoCard

/-- THE SECOND FORM's CARD OF 'couponlaw14.PostingBytes'. -/
def postingBytesUptoCard : Claim7 := { stood := { row := postingBytesUptoRow, standIns := [], harness := (true, "b26a97c23fc3df15a72b9f3a8bce4b411267d854f5760aff292da07b77d2521f"), looks := false }, kinds := [], alts := [], laidByText := true, laidKinds := [.data, .data, .data], laidTests := true, laidLooks := .later }
def PostingBytesUptoCardSaid : Prop := Claim7.holds Tryd.pinned (.plain (OpenSpec.upto postingBytesSpec)) postingBytesUptoCard

/-- THE SECOND FORM's CARD OF 'couponlaw17.ReportTells'. -/
def reportTellsUptoCard : Claim7 := { stood := { row := reportTellsUptoRow, standIns := [], harness := (true, "b26a97c23fc3df15a72b9f3a8bce4b411267d854f5760aff292da07b77d2521f"), looks := false }, kinds := [], alts := [], laidByText := true, laidKinds := [.data, .data, .data], laidTests := true, laidLooks := .later }
def ReportTellsUptoCardSaid : Prop := Claim7.holds Tryd.pinned (.plain (OpenSpec.upto reportTellsSpec)) reportTellsUptoCard
end Rows
end Go.Proofs.YtellhmbebimenaaDoor
