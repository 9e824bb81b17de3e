/-
  DERIVED. GIVEN WITH THE SEED: THE CARDS: each row of YtccdelpiflcipaaDoorRows.lean that lists a variable, with what it lists TIED to the program's text (the seventh form; the later family's looks); each row that meets fmt, with fmt's text TOLD by the authors' own Lean function (tested against real Go, not proved from fmt's source: count such statements apart). THE CARD IS WHAT COUNTS. Prove the row's statement (the work); the ties are given (YtccdelpiflcipaaDoorTie.lean); close each card by the builder's one call (the guide's Derived/Test/ToyasCard.lean, 'card_holds'). Laid BY PROGRAM, IN A SANDBOX (cutbox-door.mjs). By AI agents, Wed Nov 11 2026. No macro, syntax, notation, axiom, sorry.
-/
import Derived.Test.YtccdelpiflcipaaDoorRows
import GoSem.ClaimSeven
namespace Go.Proofs.YtccdelpiflcipaaDoor
namespace Rows

/-- THE TIED CARD OF 'kibitzerlaw24.EvalParts'. -/
def evalPartsCard : Claim7 := { stood := { row := evalPartsRow, standIns := [], harness := (true, "db5abcc5aa2489d3f2708f070e03537e5cef2a9be25c4e7615b44fcabe81567c"), looks := false }, kinds := [], alts := [], laidByText := true, laidKinds := [.data], laidTests := true, laidLooks := .later }
def EvalPartsCardSaid : Prop := Claim7.holds Tryd.pinned (.plain (OpenSpec.ofChange evalPartsSpec)) evalPartsCard

/-- THE TIED CARD OF 'kibitzerlaw24.EvalOf'. -/
def evalOfCard : Claim7 := { stood := { row := evalOfRow, standIns := [], harness := (true, "db5abcc5aa2489d3f2708f070e03537e5cef2a9be25c4e7615b44fcabe81567c"), looks := false }, kinds := [], alts := [], laidByText := true, laidKinds := [.data], laidTests := true, laidLooks := .later }
def EvalOfCardSaid : Prop := Claim7.holds Tryd.pinned (.plain (OpenSpec.ofChange evalOfSpec)) evalOfCard

/-- THE TIED CARD OF 'kibitzerlaw24.EvalHeld'. -/
def evalHeldCard : Claim7 := { stood := { row := evalHeldRow, standIns := [], harness := (true, "db5abcc5aa2489d3f2708f070e03537e5cef2a9be25c4e7615b44fcabe81567c"), looks := false }, kinds := [], alts := [], laidByText := true, laidKinds := [.data], laidTests := true, laidLooks := .later }
def EvalHeldCardSaid : Prop := Claim7.holds Tryd.pinned (.plain (OpenSpec.ofChange evalHeldSpec)) evalHeldCard

/-- THE TIED CARD OF 'kibitzerlaw24.EvalNothing'. -/
def evalNothingCard : Claim7 := { stood := { row := evalNothingRow, standIns := [], harness := (true, "db5abcc5aa2489d3f2708f070e03537e5cef2a9be25c4e7615b44fcabe81567c"), looks := false }, kinds := [], alts := [], laidByText := true, laidKinds := [.data], laidTests := true, laidLooks := .later }
def EvalNothingCardSaid : Prop := Claim7.holds Tryd.pinned (.plain (OpenSpec.ofChange evalNothingSpec)) evalNothingCard

/-- THE TIED CARD OF 'kibitzerlaw24.EvalSquares'. -/
def evalSquaresCard : Claim7 := { stood := { row := evalSquaresRow, standIns := [], harness := (true, "db5abcc5aa2489d3f2708f070e03537e5cef2a9be25c4e7615b44fcabe81567c"), looks := false }, kinds := [], alts := [], laidByText := true, laidKinds := [.data], laidTests := true, laidLooks := .later }
def EvalSquaresCardSaid : Prop := Claim7.holds Tryd.pinned (.plain (OpenSpec.ofChange evalSquaresSpec)) evalSquaresCard

/-- THE TIED CARD OF 'kibitzerlaw24.EvalMore'. -/
def evalMoreCard : Claim7 := { stood := { row := evalMoreRow, standIns := [], harness := (true, "db5abcc5aa2489d3f2708f070e03537e5cef2a9be25c4e7615b44fcabe81567c"), looks := false }, kinds := [], alts := [], laidByText := true, laidKinds := [.data], laidTests := true, laidLooks := .later }
def EvalMoreCardSaid : Prop := Claim7.holds Tryd.pinned (.plain (OpenSpec.ofChange evalMoreSpec)) evalMoreCard

/-- THE SECOND FORM's CARD OF 'kibitzerlaw24.EvalParts'. -/
def evalPartsUptoCard : Claim7 := { stood := { row := evalPartsUptoRow, standIns := [], harness := (true, "db5abcc5aa2489d3f2708f070e03537e5cef2a9be25c4e7615b44fcabe81567c"), looks := false }, kinds := [], alts := [], laidByText := true, laidKinds := [.data], laidTests := true, laidLooks := .later }
def EvalPartsUptoCardSaid : Prop := Claim7.holds Tryd.pinned (.plain (OpenSpec.upto evalPartsSpec)) evalPartsUptoCard

/-- THE SECOND FORM's CARD OF 'kibitzerlaw24.EvalOf'. -/
def evalOfUptoCard : Claim7 := { stood := { row := evalOfUptoRow, standIns := [], harness := (true, "db5abcc5aa2489d3f2708f070e03537e5cef2a9be25c4e7615b44fcabe81567c"), looks := false }, kinds := [], alts := [], laidByText := true, laidKinds := [.data], laidTests := true, laidLooks := .later }
def EvalOfUptoCardSaid : Prop := Claim7.holds Tryd.pinned (.plain (OpenSpec.upto evalOfSpec)) evalOfUptoCard

/-- THE SECOND FORM's CARD OF 'kibitzerlaw24.EvalHeld'. -/
def evalHeldUptoCard : Claim7 := { stood := { row := evalHeldUptoRow, standIns := [], harness := (true, "db5abcc5aa2489d3f2708f070e03537e5cef2a9be25c4e7615b44fcabe81567c"), looks := false }, kinds := [], alts := [], laidByText := true, laidKinds := [.data], laidTests := true, laidLooks := .later }
def EvalHeldUptoCardSaid : Prop := Claim7.holds Tryd.pinned (.plain (OpenSpec.upto evalHeldSpec)) evalHeldUptoCard

/-- THE SECOND FORM's CARD OF 'kibitzerlaw24.EvalNothing'. -/
def evalNothingUptoCard : Claim7 := { stood := { row := evalNothingUptoRow, standIns := [], harness := (true, "db5abcc5aa2489d3f2708f070e03537e5cef2a9be25c4e7615b44fcabe81567c"), looks := false }, kinds := [], alts := [], laidByText := true, laidKinds := [.data], laidTests := true, laidLooks := .later }
def EvalNothingUptoCardSaid : Prop := Claim7.holds Tryd.pinned (.plain (OpenSpec.upto evalNothingSpec)) evalNothingUptoCard

/-- THE SECOND FORM's CARD OF 'kibitzerlaw24.EvalSquares'. -/
def evalSquaresUptoCard : Claim7 := { stood := { row := evalSquaresUptoRow, standIns := [], harness := (true, "db5abcc5aa2489d3f2708f070e03537e5cef2a9be25c4e7615b44fcabe81567c"), looks := false }, kinds := [], alts := [], laidByText := true, laidKinds := [.data], laidTests := true, laidLooks := .later }
def EvalSquaresUptoCardSaid : Prop := Claim7.holds Tryd.pinned (.plain (OpenSpec.upto evalSquaresSpec)) evalSquaresUptoCard

/-- THE SECOND FORM's CARD OF 'kibitzerlaw24.EvalMore'. -/
def evalMoreUptoCard : Claim7 := { stood := { row := evalMoreUptoRow, standIns := [], harness := (true, "db5abcc5aa2489d3f2708f070e03537e5cef2a9be25c4e7615b44fcabe81567c"), looks := false }, kinds := [], alts := [], laidByText := true, laidKinds := [.data], laidTests := true, laidLooks := .later }
def EvalMoreUptoCardSaid : Prop := Claim7.holds Tryd.pinned (.plain (OpenSpec.upto evalMoreSpec)) evalMoreUptoCard
end Rows
end Go.Proofs.YtccdelpiflcipaaDoor
