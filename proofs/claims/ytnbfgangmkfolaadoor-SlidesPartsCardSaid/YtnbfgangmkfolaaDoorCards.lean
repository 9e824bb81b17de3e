/-
  DERIVED. GIVEN WITH THE SEED: THE CARDS: each row of YtnbfgangmkfolaaDoorRows.lean that lists a variable, with what it lists TIED to the program's text (the seventh form; the later family's looks); each row that meets fmt, with fmt's text TOLD by the authors' own Lean function (tested against real Go, not proved from fmt's source: count such statements apart). THE CARD IS WHAT COUNTS. Prove the row's statement (the work); the ties are given (YtnbfgangmkfolaaDoorTie.lean); close each card by the builder's one call (the guide's Derived/Test/ToyasCard.lean, 'card_holds'). Laid BY PROGRAM, IN A SANDBOX (cutbox-door.mjs). By AI agents, Wed Nov 11 2026. No macro, syntax, notation, axiom, sorry.
-/
import Derived.Test.YtnbfgangmkfolaaDoorRows
import GoSem.ClaimSeven
namespace Go.Proofs.YtnbfgangmkfolaaDoor
namespace Rows

/-- THE TIED CARD OF 'kibitzerlaw04.SlidesDir'. -/
def slidesDirCard : Claim7 := { stood := { row := slidesDirRow, standIns := [], harness := (true, "a09b3c00f8449aba0479786cd10055632ba4ad1b3c746b4e5511e0173f340a34"), looks := false }, kinds := [], alts := [], laidByText := true, laidKinds := [.data], laidTests := true, laidLooks := .later }
def SlidesDirCardSaid : Prop := Claim7.holds Tryd.pinned (.plain (OpenSpec.ofChange slidesDirSpec)) slidesDirCard

/-- THE TIED CARD OF 'kibitzerlaw04.SlidesPieces'. -/
def slidesPiecesCard : Claim7 := { stood := { row := slidesPiecesRow, standIns := [], harness := (true, "a09b3c00f8449aba0479786cd10055632ba4ad1b3c746b4e5511e0173f340a34"), looks := false }, kinds := [], alts := [], laidByText := true, laidKinds := [.data], laidTests := true, laidLooks := .later }
def SlidesPiecesCardSaid : Prop := Claim7.holds Tryd.pinned (.plain (OpenSpec.ofChange slidesPiecesSpec)) slidesPiecesCard

/-- THE TIED CARD OF 'kibitzerlaw04.SlidesEnd'. -/
def slidesEndCard : Claim7 := { stood := { row := slidesEndRow, standIns := [], harness := (true, "a09b3c00f8449aba0479786cd10055632ba4ad1b3c746b4e5511e0173f340a34"), looks := false }, kinds := [], alts := [], laidByText := true, laidKinds := [.data], laidTests := true, laidLooks := .later }
def SlidesEndCardSaid : Prop := Claim7.holds Tryd.pinned (.plain (OpenSpec.ofChange slidesEndSpec)) slidesEndCard

/-- THE TIED CARD OF 'kibitzerlaw04.SlidesRays'. -/
def slidesRaysCard : Claim7 := { stood := { row := slidesRaysRow, standIns := [], harness := (true, "a09b3c00f8449aba0479786cd10055632ba4ad1b3c746b4e5511e0173f340a34"), looks := false }, kinds := [], alts := [], laidByText := true, laidKinds := [.data], laidTests := true, laidLooks := .later }
def SlidesRaysCardSaid : Prop := Claim7.holds Tryd.pinned (.plain (OpenSpec.ofChange slidesRaysSpec)) slidesRaysCard

/-- THE TIED CARD OF 'kibitzerlaw04.SlidesFlipped'. -/
def slidesFlippedCard : Claim7 := { stood := { row := slidesFlippedRow, standIns := [], harness := (true, "a09b3c00f8449aba0479786cd10055632ba4ad1b3c746b4e5511e0173f340a34"), looks := false }, kinds := [], alts := [], laidByText := true, laidKinds := [.data], laidTests := true, laidLooks := .later }
def SlidesFlippedCardSaid : Prop := Claim7.holds Tryd.pinned (.plain (OpenSpec.ofChange slidesFlippedSpec)) slidesFlippedCard

/-- THE TIED CARD OF 'kibitzerlaw04.SlidesLess'. -/
def slidesLessCard : Claim7 := { stood := { row := slidesLessRow, standIns := [], harness := (true, "a09b3c00f8449aba0479786cd10055632ba4ad1b3c746b4e5511e0173f340a34"), looks := false }, kinds := [], alts := [], laidByText := true, laidKinds := [.data], laidTests := true, laidLooks := .later }
def SlidesLessCardSaid : Prop := Claim7.holds Tryd.pinned (.plain (OpenSpec.ofChange slidesLessSpec)) slidesLessCard

/-- THE TIED CARD OF 'kibitzerlaw04.SlidesParts'. -/
def slidesPartsCard : Claim7 := { stood := { row := slidesPartsRow, standIns := [], harness := (true, "a09b3c00f8449aba0479786cd10055632ba4ad1b3c746b4e5511e0173f340a34"), looks := false }, kinds := [], alts := [], laidByText := true, laidKinds := [.data], laidTests := true, laidLooks := .later }
def SlidesPartsCardSaid : Prop := Claim7.holds Tryd.pinned (.plain (OpenSpec.ofChange slidesPartsSpec)) slidesPartsCard

/-- THE TIED CARD OF 'kibitzerlaw04.SlidesBack'. -/
def slidesBackCard : Claim7 := { stood := { row := slidesBackRow, standIns := [], harness := (true, "a09b3c00f8449aba0479786cd10055632ba4ad1b3c746b4e5511e0173f340a34"), looks := false }, kinds := [], alts := [], laidByText := true, laidKinds := [.data], laidTests := true, laidLooks := .later }
def SlidesBackCardSaid : Prop := Claim7.holds Tryd.pinned (.plain (OpenSpec.ofChange slidesBackSpec)) slidesBackCard

/-- THE SECOND FORM's CARD OF 'kibitzerlaw04.SlidesDir'. -/
def slidesDirUptoCard : Claim7 := { stood := { row := slidesDirUptoRow, standIns := [], harness := (true, "a09b3c00f8449aba0479786cd10055632ba4ad1b3c746b4e5511e0173f340a34"), looks := false }, kinds := [], alts := [], laidByText := true, laidKinds := [.data], laidTests := true, laidLooks := .later }
def SlidesDirUptoCardSaid : Prop := Claim7.holds Tryd.pinned (.plain (OpenSpec.upto slidesDirSpec)) slidesDirUptoCard

/-- THE SECOND FORM's CARD OF 'kibitzerlaw04.SlidesPieces'. -/
def slidesPiecesUptoCard : Claim7 := { stood := { row := slidesPiecesUptoRow, standIns := [], harness := (true, "a09b3c00f8449aba0479786cd10055632ba4ad1b3c746b4e5511e0173f340a34"), looks := false }, kinds := [], alts := [], laidByText := true, laidKinds := [.data], laidTests := true, laidLooks := .later }
def SlidesPiecesUptoCardSaid : Prop := Claim7.holds Tryd.pinned (.plain (OpenSpec.upto slidesPiecesSpec)) slidesPiecesUptoCard

/-- THE SECOND FORM's CARD OF 'kibitzerlaw04.SlidesEnd'. -/
def slidesEndUptoCard : Claim7 := { stood := { row := slidesEndUptoRow, standIns := [], harness := (true, "a09b3c00f8449aba0479786cd10055632ba4ad1b3c746b4e5511e0173f340a34"), looks := false }, kinds := [], alts := [], laidByText := true, laidKinds := [.data], laidTests := true, laidLooks := .later }
def SlidesEndUptoCardSaid : Prop := Claim7.holds Tryd.pinned (.plain (OpenSpec.upto slidesEndSpec)) slidesEndUptoCard

/-- THE SECOND FORM's CARD OF 'kibitzerlaw04.SlidesRays'. -/
def slidesRaysUptoCard : Claim7 := { stood := { row := slidesRaysUptoRow, standIns := [], harness := (true, "a09b3c00f8449aba0479786cd10055632ba4ad1b3c746b4e5511e0173f340a34"), looks := false }, kinds := [], alts := [], laidByText := true, laidKinds := [.data], laidTests := true, laidLooks := .later }
def SlidesRaysUptoCardSaid : Prop := Claim7.holds Tryd.pinned (.plain (OpenSpec.upto slidesRaysSpec)) slidesRaysUptoCard

/-- THE SECOND FORM's CARD OF 'kibitzerlaw04.SlidesFlipped'. -/
def slidesFlippedUptoCard : Claim7 := { stood := { row := slidesFlippedUptoRow, standIns := [], harness := (true, "a09b3c00f8449aba0479786cd10055632ba4ad1b3c746b4e5511e0173f340a34"), looks := false }, kinds := [], alts := [], laidByText := true, laidKinds := [.data], laidTests := true, laidLooks := .later }
def SlidesFlippedUptoCardSaid : Prop := Claim7.holds Tryd.pinned (.plain (OpenSpec.upto slidesFlippedSpec)) slidesFlippedUptoCard

/-- THE SECOND FORM's CARD OF 'kibitzerlaw04.SlidesLess'. -/
def slidesLessUptoCard : Claim7 := { stood := { row := slidesLessUptoRow, standIns := [], harness := (true, "a09b3c00f8449aba0479786cd10055632ba4ad1b3c746b4e5511e0173f340a34"), looks := false }, kinds := [], alts := [], laidByText := true, laidKinds := [.data], laidTests := true, laidLooks := .later }
def SlidesLessUptoCardSaid : Prop := Claim7.holds Tryd.pinned (.plain (OpenSpec.upto slidesLessSpec)) slidesLessUptoCard

/-- THE SECOND FORM's CARD OF 'kibitzerlaw04.SlidesParts'. -/
def slidesPartsUptoCard : Claim7 := { stood := { row := slidesPartsUptoRow, standIns := [], harness := (true, "a09b3c00f8449aba0479786cd10055632ba4ad1b3c746b4e5511e0173f340a34"), looks := false }, kinds := [], alts := [], laidByText := true, laidKinds := [.data], laidTests := true, laidLooks := .later }
def SlidesPartsUptoCardSaid : Prop := Claim7.holds Tryd.pinned (.plain (OpenSpec.upto slidesPartsSpec)) slidesPartsUptoCard

/-- THE SECOND FORM's CARD OF 'kibitzerlaw04.SlidesBack'. -/
def slidesBackUptoCard : Claim7 := { stood := { row := slidesBackUptoRow, standIns := [], harness := (true, "a09b3c00f8449aba0479786cd10055632ba4ad1b3c746b4e5511e0173f340a34"), looks := false }, kinds := [], alts := [], laidByText := true, laidKinds := [.data], laidTests := true, laidLooks := .later }
def SlidesBackUptoCardSaid : Prop := Claim7.holds Tryd.pinned (.plain (OpenSpec.upto slidesBackSpec)) slidesBackUptoCard
end Rows
end Go.Proofs.YtnbfgangmkfolaaDoor
