/-
  DERIVED. GIVEN WITH THE SEED: THE CARDS: each row of YteocjaihaegmoaaGreatDoorRows.lean that lists a variable, with what it lists TIED to the program's text (the seventh form; the later family's looks); each row that meets fmt, with fmt's text TOLD by the authors' own Lean function (tested against real Go, not proved from fmt's source: count such statements apart). THE CARD IS WHAT COUNTS. Prove the row's statement (the work); the ties are given (YteocjaihaegmoaaGreatDoorTie.lean); close each card by the builder's one call (the guide's Derived/Test/ToyasCard.lean, 'card_holds'). Laid BY PROGRAM, IN A SANDBOX (cutbox-door.mjs). By AI agents, Wed Nov 11 2026. No macro, syntax, notation, axiom, sorry.
-/
import Derived.Test.YteocjaihaegmoaaGreatDoorRows
import GoSem.ClaimSeven
namespace Go.Proofs.YteocjaihaegmoaaGreatDoor
namespace Rows

/-- THE TIED CARD OF 'kibitzertop.TopEnds'. -/
def topEndsCard : Claim7 := { stood := { row := topEndsRow, standIns := [], harness := (true, "a818ec0b5a59c7faa12d3b90d6147c1b8d908d1ed0b4e4d0ebc8f829badf2013"), looks := true }, kinds := [], alts := [], laidByText := true, laidKinds := [.data], laidTests := true, laidLooks := .later }
def TopEndsCardSaid : Prop := Claim7.holds Tryz.pinned (.plain (OpenSpec.ofChange topEndsSpec)) topEndsCard

/-- THE TIED CARD OF 'kibitzertop.TopMoves'. -/
def topMovesCard : Claim7 := { stood := { row := topMovesRow, standIns := [], harness := (true, "a818ec0b5a59c7faa12d3b90d6147c1b8d908d1ed0b4e4d0ebc8f829badf2013"), looks := true }, kinds := [], alts := [], laidByText := true, laidKinds := [.data], laidTests := true, laidLooks := .later }
def TopMovesCardSaid : Prop := Claim7.holds Tryz.pinned (.plain (OpenSpec.ofChange topMovesSpec)) topMovesCard

/-- THE SECOND FORM's CARD OF 'kibitzertop.TopEnds'. -/
def topEndsUptoCard : Claim7 := { stood := { row := topEndsUptoRow, standIns := [], harness := (true, "a818ec0b5a59c7faa12d3b90d6147c1b8d908d1ed0b4e4d0ebc8f829badf2013"), looks := true }, kinds := [], alts := [], laidByText := true, laidKinds := [.data], laidTests := true, laidLooks := .later }
def TopEndsUptoCardSaid : Prop := Claim7.holds Tryz.pinned (.plain (OpenSpec.upto topEndsSpec)) topEndsUptoCard

/-- THE SECOND FORM's CARD OF 'kibitzertop.TopMoves'. -/
def topMovesUptoCard : Claim7 := { stood := { row := topMovesUptoRow, standIns := [], harness := (true, "a818ec0b5a59c7faa12d3b90d6147c1b8d908d1ed0b4e4d0ebc8f829badf2013"), looks := true }, kinds := [], alts := [], laidByText := true, laidKinds := [.data], laidTests := true, laidLooks := .later }
def TopMovesUptoCardSaid : Prop := Claim7.holds Tryz.pinned (.plain (OpenSpec.upto topMovesSpec)) topMovesUptoCard
end Rows
end Go.Proofs.YteocjaihaegmoaaGreatDoor
