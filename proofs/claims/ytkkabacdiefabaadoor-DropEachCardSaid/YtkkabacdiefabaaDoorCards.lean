/-
  DERIVED. GIVEN WITH THE SEED: THE CARDS: each row of YtkkabacdiefabaaDoorRows.lean that lists a variable, with what it lists TIED to the program's text (the seventh form; the later family's looks); each row that meets fmt, with fmt's text TOLD by the authors' own Lean function (tested against real Go, not proved from fmt's source: count such statements apart). THE CARD IS WHAT COUNTS. Prove the row's statement (the work); the ties are given (YtkkabacdiefabaaDoorTie.lean); close each card by the builder's one call (the guide's Derived/Test/ToyasCard.lean, 'card_holds'). Laid BY PROGRAM, IN A SANDBOX (cutbox-door.mjs). By AI agents, Wed Nov 11 2026. No macro, syntax, notation, axiom, sorry.
-/
import Derived.Test.YtkkabacdiefabaaDoorRows
import GoSem.ClaimSeven
namespace Go.Proofs.YtkkabacdiefabaaDoor
namespace Rows

/-- THE TIED CARD OF 'kibitzerlaw15.DropList'. -/
def dropListCard : Claim7 := { stood := { row := dropListRow, standIns := [], harness := (true, "8caa857af1b9ecae83a51836a85c2d1d5b1aa8f38f0b5fd31d2e5c58c1826726"), looks := false }, kinds := [], alts := [], laidByText := true, laidKinds := [.data], laidTests := true, laidLooks := .later }
def DropListCardSaid : Prop := Claim7.holds Tryd.pinned (.plain (OpenSpec.ofChange dropListSpec)) dropListCard

/-- THE TIED CARD OF 'kibitzerlaw15.DropCounts'. -/
def dropCountsCard : Claim7 := { stood := { row := dropCountsRow, standIns := [], harness := (true, "8caa857af1b9ecae83a51836a85c2d1d5b1aa8f38f0b5fd31d2e5c58c1826726"), looks := false }, kinds := [], alts := [], laidByText := true, laidKinds := [.data], laidTests := true, laidLooks := .later }
def DropCountsCardSaid : Prop := Claim7.holds Tryd.pinned (.plain (OpenSpec.ofChange dropCountsSpec)) dropCountsCard

/-- THE TIED CARD OF 'kibitzerlaw15.DropPockets'. -/
def dropPocketsCard : Claim7 := { stood := { row := dropPocketsRow, standIns := [], harness := (true, "8caa857af1b9ecae83a51836a85c2d1d5b1aa8f38f0b5fd31d2e5c58c1826726"), looks := false }, kinds := [], alts := [], laidByText := true, laidKinds := [.data], laidTests := true, laidLooks := .later }
def DropPocketsCardSaid : Prop := Claim7.holds Tryd.pinned (.plain (OpenSpec.ofChange dropPocketsSpec)) dropPocketsCard

/-- THE TIED CARD OF 'kibitzerlaw15.DropEach'. -/
def dropEachCard : Claim7 := { stood := { row := dropEachRow, standIns := [], harness := (true, "8caa857af1b9ecae83a51836a85c2d1d5b1aa8f38f0b5fd31d2e5c58c1826726"), looks := false }, kinds := [], alts := [], laidByText := true, laidKinds := [.data], laidTests := true, laidLooks := .later }
def DropEachCardSaid : Prop := Claim7.holds Tryd.pinned (.plain (OpenSpec.ofChange dropEachSpec)) dropEachCard

/-- THE TIED CARD OF 'kibitzerlaw15.DropBack'. -/
def dropBackCard : Claim7 := { stood := { row := dropBackRow, standIns := [], harness := (true, "8caa857af1b9ecae83a51836a85c2d1d5b1aa8f38f0b5fd31d2e5c58c1826726"), looks := false }, kinds := [], alts := [], laidByText := true, laidKinds := [.data], laidTests := true, laidLooks := .later }
def DropBackCardSaid : Prop := Claim7.holds Tryd.pinned (.plain (OpenSpec.ofChange dropBackSpec)) dropBackCard

/-- THE TIED CARD OF 'kibitzerlaw15.DropTurn'. -/
def dropTurnCard : Claim7 := { stood := { row := dropTurnRow, standIns := [], harness := (true, "8caa857af1b9ecae83a51836a85c2d1d5b1aa8f38f0b5fd31d2e5c58c1826726"), looks := false }, kinds := [], alts := [], laidByText := true, laidKinds := [.data], laidTests := true, laidLooks := .later }
def DropTurnCardSaid : Prop := Claim7.holds Tryd.pinned (.plain (OpenSpec.ofChange dropTurnSpec)) dropTurnCard

/-- THE SECOND FORM's CARD OF 'kibitzerlaw15.DropList'. -/
def dropListUptoCard : Claim7 := { stood := { row := dropListUptoRow, standIns := [], harness := (true, "8caa857af1b9ecae83a51836a85c2d1d5b1aa8f38f0b5fd31d2e5c58c1826726"), looks := false }, kinds := [], alts := [], laidByText := true, laidKinds := [.data], laidTests := true, laidLooks := .later }
def DropListUptoCardSaid : Prop := Claim7.holds Tryd.pinned (.plain (OpenSpec.upto dropListSpec)) dropListUptoCard

/-- THE SECOND FORM's CARD OF 'kibitzerlaw15.DropCounts'. -/
def dropCountsUptoCard : Claim7 := { stood := { row := dropCountsUptoRow, standIns := [], harness := (true, "8caa857af1b9ecae83a51836a85c2d1d5b1aa8f38f0b5fd31d2e5c58c1826726"), looks := false }, kinds := [], alts := [], laidByText := true, laidKinds := [.data], laidTests := true, laidLooks := .later }
def DropCountsUptoCardSaid : Prop := Claim7.holds Tryd.pinned (.plain (OpenSpec.upto dropCountsSpec)) dropCountsUptoCard

/-- THE SECOND FORM's CARD OF 'kibitzerlaw15.DropPockets'. -/
def dropPocketsUptoCard : Claim7 := { stood := { row := dropPocketsUptoRow, standIns := [], harness := (true, "8caa857af1b9ecae83a51836a85c2d1d5b1aa8f38f0b5fd31d2e5c58c1826726"), looks := false }, kinds := [], alts := [], laidByText := true, laidKinds := [.data], laidTests := true, laidLooks := .later }
def DropPocketsUptoCardSaid : Prop := Claim7.holds Tryd.pinned (.plain (OpenSpec.upto dropPocketsSpec)) dropPocketsUptoCard

/-- THE SECOND FORM's CARD OF 'kibitzerlaw15.DropEach'. -/
def dropEachUptoCard : Claim7 := { stood := { row := dropEachUptoRow, standIns := [], harness := (true, "8caa857af1b9ecae83a51836a85c2d1d5b1aa8f38f0b5fd31d2e5c58c1826726"), looks := false }, kinds := [], alts := [], laidByText := true, laidKinds := [.data], laidTests := true, laidLooks := .later }
def DropEachUptoCardSaid : Prop := Claim7.holds Tryd.pinned (.plain (OpenSpec.upto dropEachSpec)) dropEachUptoCard

/-- THE SECOND FORM's CARD OF 'kibitzerlaw15.DropBack'. -/
def dropBackUptoCard : Claim7 := { stood := { row := dropBackUptoRow, standIns := [], harness := (true, "8caa857af1b9ecae83a51836a85c2d1d5b1aa8f38f0b5fd31d2e5c58c1826726"), looks := false }, kinds := [], alts := [], laidByText := true, laidKinds := [.data], laidTests := true, laidLooks := .later }
def DropBackUptoCardSaid : Prop := Claim7.holds Tryd.pinned (.plain (OpenSpec.upto dropBackSpec)) dropBackUptoCard

/-- THE SECOND FORM's CARD OF 'kibitzerlaw15.DropTurn'. -/
def dropTurnUptoCard : Claim7 := { stood := { row := dropTurnUptoRow, standIns := [], harness := (true, "8caa857af1b9ecae83a51836a85c2d1d5b1aa8f38f0b5fd31d2e5c58c1826726"), looks := false }, kinds := [], alts := [], laidByText := true, laidKinds := [.data], laidTests := true, laidLooks := .later }
def DropTurnUptoCardSaid : Prop := Claim7.holds Tryd.pinned (.plain (OpenSpec.upto dropTurnSpec)) dropTurnUptoCard
end Rows
end Go.Proofs.YtkkabacdiefabaaDoor
