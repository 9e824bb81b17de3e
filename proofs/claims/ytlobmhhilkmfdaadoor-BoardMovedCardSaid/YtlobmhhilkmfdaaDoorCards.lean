/-
  DERIVED. GIVEN WITH THE SEED: THE CARDS: each row of YtlobmhhilkmfdaaDoorRows.lean that lists a variable, with what it lists TIED to the program's text (the seventh form; the later family's looks); each row that meets fmt, with fmt's text TOLD by the authors' own Lean function (tested against real Go, not proved from fmt's source: count such statements apart). THE CARD IS WHAT COUNTS. Prove the row's statement (the work); the ties are given (YtlobmhhilkmfdaaDoorTie.lean); close each card by the builder's one call (the guide's Derived/Test/ToyasCard.lean, 'card_holds'). Laid BY PROGRAM, IN A SANDBOX (cutbox-door.mjs). By AI agents, Wed Nov 11 2026. No macro, syntax, notation, axiom, sorry.
-/
import Derived.Test.YtlobmhhilkmfdaaDoorRows
import GoSem.ClaimSeven
namespace Go.Proofs.YtlobmhhilkmfdaaDoor
namespace Rows

/-- THE TIED CARD OF 'kibitzerlaw06.BoardSets'. -/
def boardSetsCard : Claim7 := { stood := { row := boardSetsRow, standIns := [], harness := (true, "547d0bdfa8c98635a42a6ab570ef6441a79b95145bc8221562b1fc2b18920291"), looks := false }, kinds := [], alts := [], laidByText := true, laidKinds := [.data], laidTests := true, laidLooks := .later }
def BoardSetsCardSaid : Prop := Claim7.holds Tryd.pinned (.plain (OpenSpec.ofChange boardSetsSpec)) boardSetsCard

/-- THE TIED CARD OF 'kibitzerlaw06.BoardParts'. -/
def boardPartsCard : Claim7 := { stood := { row := boardPartsRow, standIns := [], harness := (true, "547d0bdfa8c98635a42a6ab570ef6441a79b95145bc8221562b1fc2b18920291"), looks := false }, kinds := [], alts := [], laidByText := true, laidKinds := [.data], laidTests := true, laidLooks := .later }
def BoardPartsCardSaid : Prop := Claim7.holds Tryd.pinned (.plain (OpenSpec.ofChange boardPartsSpec)) boardPartsCard

/-- THE TIED CARD OF 'kibitzerlaw06.BoardTurned'. -/
def boardTurnedCard : Claim7 := { stood := { row := boardTurnedRow, standIns := [], harness := (true, "547d0bdfa8c98635a42a6ab570ef6441a79b95145bc8221562b1fc2b18920291"), looks := false }, kinds := [], alts := [], laidByText := true, laidKinds := [.data], laidTests := true, laidLooks := .later }
def BoardTurnedCardSaid : Prop := Claim7.holds Tryd.pinned (.plain (OpenSpec.ofChange boardTurnedSpec)) boardTurnedCard

/-- THE TIED CARD OF 'kibitzerlaw06.BoardAt'. -/
def boardAtCard : Claim7 := { stood := { row := boardAtRow, standIns := [], harness := (true, "547d0bdfa8c98635a42a6ab570ef6441a79b95145bc8221562b1fc2b18920291"), looks := false }, kinds := [], alts := [], laidByText := true, laidKinds := [.data], laidTests := true, laidLooks := .later }
def BoardAtCardSaid : Prop := Claim7.holds Tryd.pinned (.plain (OpenSpec.ofChange boardAtSpec)) boardAtCard

/-- THE TIED CARD OF 'kibitzerlaw06.BoardPut'. -/
def boardPutCard : Claim7 := { stood := { row := boardPutRow, standIns := [], harness := (true, "547d0bdfa8c98635a42a6ab570ef6441a79b95145bc8221562b1fc2b18920291"), looks := false }, kinds := [], alts := [], laidByText := true, laidKinds := [.data], laidTests := true, laidLooks := .later }
def BoardPutCardSaid : Prop := Claim7.holds Tryd.pinned (.plain (OpenSpec.ofChange boardPutSpec)) boardPutCard

/-- THE TIED CARD OF 'kibitzerlaw06.BoardMoved'. -/
def boardMovedCard : Claim7 := { stood := { row := boardMovedRow, standIns := [], harness := (true, "547d0bdfa8c98635a42a6ab570ef6441a79b95145bc8221562b1fc2b18920291"), looks := false }, kinds := [], alts := [], laidByText := true, laidKinds := [.data], laidTests := true, laidLooks := .later }
def BoardMovedCardSaid : Prop := Claim7.holds Tryd.pinned (.plain (OpenSpec.ofChange boardMovedSpec)) boardMovedCard

/-- THE SECOND FORM's CARD OF 'kibitzerlaw06.BoardSets'. -/
def boardSetsUptoCard : Claim7 := { stood := { row := boardSetsUptoRow, standIns := [], harness := (true, "547d0bdfa8c98635a42a6ab570ef6441a79b95145bc8221562b1fc2b18920291"), looks := false }, kinds := [], alts := [], laidByText := true, laidKinds := [.data], laidTests := true, laidLooks := .later }
def BoardSetsUptoCardSaid : Prop := Claim7.holds Tryd.pinned (.plain (OpenSpec.upto boardSetsSpec)) boardSetsUptoCard

/-- THE SECOND FORM's CARD OF 'kibitzerlaw06.BoardParts'. -/
def boardPartsUptoCard : Claim7 := { stood := { row := boardPartsUptoRow, standIns := [], harness := (true, "547d0bdfa8c98635a42a6ab570ef6441a79b95145bc8221562b1fc2b18920291"), looks := false }, kinds := [], alts := [], laidByText := true, laidKinds := [.data], laidTests := true, laidLooks := .later }
def BoardPartsUptoCardSaid : Prop := Claim7.holds Tryd.pinned (.plain (OpenSpec.upto boardPartsSpec)) boardPartsUptoCard

/-- THE SECOND FORM's CARD OF 'kibitzerlaw06.BoardTurned'. -/
def boardTurnedUptoCard : Claim7 := { stood := { row := boardTurnedUptoRow, standIns := [], harness := (true, "547d0bdfa8c98635a42a6ab570ef6441a79b95145bc8221562b1fc2b18920291"), looks := false }, kinds := [], alts := [], laidByText := true, laidKinds := [.data], laidTests := true, laidLooks := .later }
def BoardTurnedUptoCardSaid : Prop := Claim7.holds Tryd.pinned (.plain (OpenSpec.upto boardTurnedSpec)) boardTurnedUptoCard

/-- THE SECOND FORM's CARD OF 'kibitzerlaw06.BoardAt'. -/
def boardAtUptoCard : Claim7 := { stood := { row := boardAtUptoRow, standIns := [], harness := (true, "547d0bdfa8c98635a42a6ab570ef6441a79b95145bc8221562b1fc2b18920291"), looks := false }, kinds := [], alts := [], laidByText := true, laidKinds := [.data], laidTests := true, laidLooks := .later }
def BoardAtUptoCardSaid : Prop := Claim7.holds Tryd.pinned (.plain (OpenSpec.upto boardAtSpec)) boardAtUptoCard

/-- THE SECOND FORM's CARD OF 'kibitzerlaw06.BoardPut'. -/
def boardPutUptoCard : Claim7 := { stood := { row := boardPutUptoRow, standIns := [], harness := (true, "547d0bdfa8c98635a42a6ab570ef6441a79b95145bc8221562b1fc2b18920291"), looks := false }, kinds := [], alts := [], laidByText := true, laidKinds := [.data], laidTests := true, laidLooks := .later }
def BoardPutUptoCardSaid : Prop := Claim7.holds Tryd.pinned (.plain (OpenSpec.upto boardPutSpec)) boardPutUptoCard

/-- THE SECOND FORM's CARD OF 'kibitzerlaw06.BoardMoved'. -/
def boardMovedUptoCard : Claim7 := { stood := { row := boardMovedUptoRow, standIns := [], harness := (true, "547d0bdfa8c98635a42a6ab570ef6441a79b95145bc8221562b1fc2b18920291"), looks := false }, kinds := [], alts := [], laidByText := true, laidKinds := [.data], laidTests := true, laidLooks := .later }
def BoardMovedUptoCardSaid : Prop := Claim7.holds Tryd.pinned (.plain (OpenSpec.upto boardMovedSpec)) boardMovedUptoCard
end Rows
end Go.Proofs.YtlobmhhilkmfdaaDoor
