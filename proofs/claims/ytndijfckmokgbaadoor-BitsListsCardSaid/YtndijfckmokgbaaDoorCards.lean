/-
  DERIVED. GIVEN WITH THE SEED: THE CARDS: each row of YtndijfckmokgbaaDoorRows.lean that lists a variable, with what it lists TIED to the program's text (the seventh form; the later family's looks); each row that meets fmt, with fmt's text TOLD by the authors' own Lean function (tested against real Go, not proved from fmt's source: count such statements apart). THE CARD IS WHAT COUNTS. Prove the row's statement (the work); the ties are given (YtndijfckmokgbaaDoorTie.lean); close each card by the builder's one call (the guide's Derived/Test/ToyasCard.lean, 'card_holds'). Laid BY PROGRAM, IN A SANDBOX (cutbox-door.mjs). By AI agents, Wed Nov 11 2026. No macro, syntax, notation, axiom, sorry.
-/
import Derived.Test.YtndijfckmokgbaaDoorRows
import GoSem.ClaimSeven
namespace Go.Proofs.YtndijfckmokgbaaDoor
namespace Rows

/-- THE TIED CARD OF 'kibitzerlaw01.BitsLists'. -/
def bitsListsCard : Claim7 := { stood := { row := bitsListsRow, standIns := [], harness := (true, "b28620194d4ffe46eda4819eb10fb2fd6a07f314c005d8466464c0f95cf836c4"), looks := false }, kinds := [], alts := [], laidByText := true, laidKinds := [.data], laidTests := true, laidLooks := .later }
def BitsListsCardSaid : Prop := Claim7.holds Tryd.pinned (.plain (OpenSpec.ofChange bitsListsSpec)) bitsListsCard

/-- THE TIED CARD OF 'kibitzerlaw01.BitsAll'. -/
def bitsAllCard : Claim7 := { stood := { row := bitsAllRow, standIns := [], harness := (true, "b28620194d4ffe46eda4819eb10fb2fd6a07f314c005d8466464c0f95cf836c4"), looks := false }, kinds := [], alts := [], laidByText := true, laidKinds := [.data], laidTests := true, laidLooks := .later }
def BitsAllCardSaid : Prop := Claim7.holds Tryd.pinned (.plain (OpenSpec.ofChange bitsAllSpec)) bitsAllCard

/-- THE TIED CARD OF 'kibitzerlaw01.BitsBack'. -/
def bitsBackCard : Claim7 := { stood := { row := bitsBackRow, standIns := [], harness := (true, "b28620194d4ffe46eda4819eb10fb2fd6a07f314c005d8466464c0f95cf836c4"), looks := false }, kinds := [], alts := [], laidByText := true, laidKinds := [.data], laidTests := true, laidLooks := .later }
def BitsBackCardSaid : Prop := Claim7.holds Tryd.pinned (.plain (OpenSpec.ofChange bitsBackSpec)) bitsBackCard

/-- THE TIED CARD OF 'kibitzerlaw01.BitsBoth'. -/
def bitsBothCard : Claim7 := { stood := { row := bitsBothRow, standIns := [], harness := (true, "b28620194d4ffe46eda4819eb10fb2fd6a07f314c005d8466464c0f95cf836c4"), looks := false }, kinds := [], alts := [], laidByText := true, laidKinds := [.data], laidTests := true, laidLooks := .later }
def BitsBothCardSaid : Prop := Claim7.holds Tryd.pinned (.plain (OpenSpec.ofChange bitsBothSpec)) bitsBothCard

/-- THE TIED CARD OF 'kibitzerlaw01.BitsFlipped'. -/
def bitsFlippedCard : Claim7 := { stood := { row := bitsFlippedRow, standIns := [], harness := (true, "b28620194d4ffe46eda4819eb10fb2fd6a07f314c005d8466464c0f95cf836c4"), looks := false }, kinds := [], alts := [], laidByText := true, laidKinds := [.data], laidTests := true, laidLooks := .later }
def BitsFlippedCardSaid : Prop := Claim7.holds Tryd.pinned (.plain (OpenSpec.ofChange bitsFlippedSpec)) bitsFlippedCard

/-- THE TIED CARD OF 'kibitzerlaw01.BitsOne'. -/
def bitsOneCard : Claim7 := { stood := { row := bitsOneRow, standIns := [], harness := (true, "b28620194d4ffe46eda4819eb10fb2fd6a07f314c005d8466464c0f95cf836c4"), looks := false }, kinds := [], alts := [], laidByText := true, laidKinds := [.data], laidTests := true, laidLooks := .later }
def BitsOneCardSaid : Prop := Claim7.holds Tryd.pinned (.plain (OpenSpec.ofChange bitsOneSpec)) bitsOneCard

/-- THE SECOND FORM's CARD OF 'kibitzerlaw01.BitsLists'. -/
def bitsListsUptoCard : Claim7 := { stood := { row := bitsListsUptoRow, standIns := [], harness := (true, "b28620194d4ffe46eda4819eb10fb2fd6a07f314c005d8466464c0f95cf836c4"), looks := false }, kinds := [], alts := [], laidByText := true, laidKinds := [.data], laidTests := true, laidLooks := .later }
def BitsListsUptoCardSaid : Prop := Claim7.holds Tryd.pinned (.plain (OpenSpec.upto bitsListsSpec)) bitsListsUptoCard

/-- THE SECOND FORM's CARD OF 'kibitzerlaw01.BitsAll'. -/
def bitsAllUptoCard : Claim7 := { stood := { row := bitsAllUptoRow, standIns := [], harness := (true, "b28620194d4ffe46eda4819eb10fb2fd6a07f314c005d8466464c0f95cf836c4"), looks := false }, kinds := [], alts := [], laidByText := true, laidKinds := [.data], laidTests := true, laidLooks := .later }
def BitsAllUptoCardSaid : Prop := Claim7.holds Tryd.pinned (.plain (OpenSpec.upto bitsAllSpec)) bitsAllUptoCard

/-- THE SECOND FORM's CARD OF 'kibitzerlaw01.BitsBack'. -/
def bitsBackUptoCard : Claim7 := { stood := { row := bitsBackUptoRow, standIns := [], harness := (true, "b28620194d4ffe46eda4819eb10fb2fd6a07f314c005d8466464c0f95cf836c4"), looks := false }, kinds := [], alts := [], laidByText := true, laidKinds := [.data], laidTests := true, laidLooks := .later }
def BitsBackUptoCardSaid : Prop := Claim7.holds Tryd.pinned (.plain (OpenSpec.upto bitsBackSpec)) bitsBackUptoCard

/-- THE SECOND FORM's CARD OF 'kibitzerlaw01.BitsBoth'. -/
def bitsBothUptoCard : Claim7 := { stood := { row := bitsBothUptoRow, standIns := [], harness := (true, "b28620194d4ffe46eda4819eb10fb2fd6a07f314c005d8466464c0f95cf836c4"), looks := false }, kinds := [], alts := [], laidByText := true, laidKinds := [.data], laidTests := true, laidLooks := .later }
def BitsBothUptoCardSaid : Prop := Claim7.holds Tryd.pinned (.plain (OpenSpec.upto bitsBothSpec)) bitsBothUptoCard

/-- THE SECOND FORM's CARD OF 'kibitzerlaw01.BitsFlipped'. -/
def bitsFlippedUptoCard : Claim7 := { stood := { row := bitsFlippedUptoRow, standIns := [], harness := (true, "b28620194d4ffe46eda4819eb10fb2fd6a07f314c005d8466464c0f95cf836c4"), looks := false }, kinds := [], alts := [], laidByText := true, laidKinds := [.data], laidTests := true, laidLooks := .later }
def BitsFlippedUptoCardSaid : Prop := Claim7.holds Tryd.pinned (.plain (OpenSpec.upto bitsFlippedSpec)) bitsFlippedUptoCard

/-- THE SECOND FORM's CARD OF 'kibitzerlaw01.BitsOne'. -/
def bitsOneUptoCard : Claim7 := { stood := { row := bitsOneUptoRow, standIns := [], harness := (true, "b28620194d4ffe46eda4819eb10fb2fd6a07f314c005d8466464c0f95cf836c4"), looks := false }, kinds := [], alts := [], laidByText := true, laidKinds := [.data], laidTests := true, laidLooks := .later }
def BitsOneUptoCardSaid : Prop := Claim7.holds Tryd.pinned (.plain (OpenSpec.upto bitsOneSpec)) bitsOneUptoCard
end Rows
end Go.Proofs.YtndijfckmokgbaaDoor
