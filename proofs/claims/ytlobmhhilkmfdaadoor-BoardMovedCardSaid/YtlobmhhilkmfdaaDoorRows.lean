/-
  NARROWER THAN 'FOR EVERY INPUT', by the rows' own cells (each row's printed sentence says how): BoardSets: laid · BoardParts: laid · BoardTurned: laid · BoardAt: laid · BoardPut: laid · BoardMoved: laid.
  DERIVED. THE GIVEN ROWS OF THIS SEAT. 6 by the template 'for every input the law returns true; each argument reads behind the call as it read before'; 0 by the template 'total and deterministic' (their statements: YtlobmhhilkmfdaaDoorTotals.lean).
  GIVEN WITH THE SEED: the statements are not yours to turn. If you find one false, say at which input.
  Laid BY PROGRAM, IN A SANDBOX (cutbox-rows.mjs): the forced cells as the released guide's own fill.sh prints them over the translation 916f7b04c8aa5be4… (all of the seat's roots in one cut). By AI agents, Wed Nov 11 2026. No macro, syntax, notation, axiom, sorry.
-/
import Derived.Test.YtlobmhhilkmfdaaDoorChecked
import GoSem.Claim
import GoSem.ClaimJoined
import GoSem.ClaimMapViews
import Derived.JoinedTies
import Derived.KernelRfl
namespace Go.Proofs.YtlobmhhilkmfdaaDoor
/- THE CELL 'sum', in the pinned program and in every row, IS THE sha256 OF THE DUMP (.gsa) THAT YtlobmhhilkmfdaaDoorProg.lean LOADS. Nothing in Lean hashes anything: it is a label: what it is worth is what the hold of that sum in a sandbox is worth. -/
noncomputable def Tryd.pinned : Pinned := { name := "ytlobmhhilkmfdaadoor", sum := "916f7b04c8aa5be4c0aa5e7387a0db2739dabf8e1b2064ed76e190d581060d4a", checked := Tryd.checked }
namespace Rows
def none {H : Type} : Left H := { results := [], args := [] }

/- WHAT THE LISTED PACKAGE-LEVEL VARIABLES READ AS WHEN THE CALL BEGINS. Each datum BY PROGRAM (the guide's laid-datum.mjs) off the statement by which the dump's own 'gosem.cut.vars' lays the variable. In a bare row this is a premise. The card (YtlobmhhilkmfdaaDoorCards.lean) ties it to the program's text. -/
def laid_math_bits_deBruijn64tab {H : Type} : DataW H := .agg [.lit (.int .u8 0), .lit (.int .u8 1), .lit (.int .u8 56), .lit (.int .u8 2), .lit (.int .u8 57), .lit (.int .u8 49), .lit (.int .u8 28), .lit (.int .u8 3), .lit (.int .u8 61), .lit (.int .u8 58), .lit (.int .u8 42), .lit (.int .u8 50), .lit (.int .u8 38), .lit (.int .u8 29), .lit (.int .u8 17), .lit (.int .u8 4), .lit (.int .u8 62), .lit (.int .u8 47), .lit (.int .u8 59), .lit (.int .u8 36), .lit (.int .u8 45), .lit (.int .u8 43), .lit (.int .u8 51), .lit (.int .u8 22), .lit (.int .u8 53), .lit (.int .u8 39), .lit (.int .u8 33), .lit (.int .u8 30), .lit (.int .u8 24), .lit (.int .u8 18), .lit (.int .u8 12), .lit (.int .u8 5), .lit (.int .u8 63), .lit (.int .u8 55), .lit (.int .u8 48), .lit (.int .u8 27), .lit (.int .u8 60), .lit (.int .u8 41), .lit (.int .u8 37), .lit (.int .u8 16), .lit (.int .u8 46), .lit (.int .u8 35), .lit (.int .u8 44), .lit (.int .u8 21), .lit (.int .u8 52), .lit (.int .u8 32), .lit (.int .u8 23), .lit (.int .u8 11), .lit (.int .u8 54), .lit (.int .u8 26), .lit (.int .u8 40), .lit (.int .u8 15), .lit (.int .u8 34), .lit (.int .u8 20), .lit (.int .u8 31), .lit (.int .u8 10), .lit (.int .u8 25), .lit (.int .u8 14), .lit (.int .u8 19), .lit (.int .u8 9), .lit (.int .u8 13), .lit (.int .u8 8), .lit (.int .u8 7), .lit (.int .u8 6)]

/-- 'kibitzerlaw06.BoardSets': WHATEVER THE INPUT: true; the input reads as it did. -/
def boardSetsSpec : ChangeSpec := { name := "boardSets", fn := fun _ => fun
  | [d1, d2, d3, d4] => { results := [.lit (.bool true)], args := [d1, d2, d3, d4] }
  | _ => none }
def boardSetsRow : OpenClaim := { program := "ytlobmhhilkmfdaadoor", sum := "916f7b04c8aa5be4c0aa5e7387a0db2739dabf8e1b2064ed76e190d581060d4a", func := "kibitzer/kibitzerlaw06.BoardSets", spec := "boardSets", unfollowed := true, recurses := true, named := ["math/bits.deBruijn64tab"], apart := false, laid := [("math/bits.deBruijn64tab", laid_math_bits_deBruijn64tab)] }
def BoardSetsSaid : Prop := boardSetsRow.holds Tryd.pinned (OpenSpec.ofChange boardSetsSpec)

/-- ITS FALSE NEIGHBOUR: 'it returns false'. Refute it at one input. -/
def boardSetsWrong : ChangeSpec := { name := "boardSets", fn := fun _ => fun
  | [d1, d2, d3, d4] => { results := [.lit (.bool false)], args := [d1, d2, d3, d4] }
  | _ => none }
def BoardSetsWrongFalsely : Prop := boardSetsRow.holds Tryd.pinned (OpenSpec.ofChange boardSetsWrong)

/-- 'kibitzerlaw06.BoardParts': WHATEVER THE INPUT: true; the input reads as it did. -/
def boardPartsSpec : ChangeSpec := { name := "boardParts", fn := fun _ => fun
  | [d] => { results := [.lit (.bool true)], args := [d] }
  | _ => none }
def boardPartsRow : OpenClaim := { program := "ytlobmhhilkmfdaadoor", sum := "916f7b04c8aa5be4c0aa5e7387a0db2739dabf8e1b2064ed76e190d581060d4a", func := "kibitzer/kibitzerlaw06.BoardParts", spec := "boardParts", unfollowed := true, recurses := true, named := ["math/bits.deBruijn64tab"], apart := false, laid := [("math/bits.deBruijn64tab", laid_math_bits_deBruijn64tab)] }
def BoardPartsSaid : Prop := boardPartsRow.holds Tryd.pinned (OpenSpec.ofChange boardPartsSpec)

/-- ITS FALSE NEIGHBOUR: 'it returns false'. Refute it at one input. -/
def boardPartsWrong : ChangeSpec := { name := "boardParts", fn := fun _ => fun
  | [d] => { results := [.lit (.bool false)], args := [d] }
  | _ => none }
def BoardPartsWrongFalsely : Prop := boardPartsRow.holds Tryd.pinned (OpenSpec.ofChange boardPartsWrong)

/-- 'kibitzerlaw06.BoardTurned': WHATEVER THE INPUT: true; the input reads as it did. -/
def boardTurnedSpec : ChangeSpec := { name := "boardTurned", fn := fun _ => fun
  | [d1, d2] => { results := [.lit (.bool true)], args := [d1, d2] }
  | _ => none }
def boardTurnedRow : OpenClaim := { program := "ytlobmhhilkmfdaadoor", sum := "916f7b04c8aa5be4c0aa5e7387a0db2739dabf8e1b2064ed76e190d581060d4a", func := "kibitzer/kibitzerlaw06.BoardTurned", spec := "boardTurned", unfollowed := true, recurses := true, named := ["math/bits.deBruijn64tab"], apart := false, laid := [("math/bits.deBruijn64tab", laid_math_bits_deBruijn64tab)] }
def BoardTurnedSaid : Prop := boardTurnedRow.holds Tryd.pinned (OpenSpec.ofChange boardTurnedSpec)

/-- ITS FALSE NEIGHBOUR: 'it returns false'. Refute it at one input. -/
def boardTurnedWrong : ChangeSpec := { name := "boardTurned", fn := fun _ => fun
  | [d1, d2] => { results := [.lit (.bool false)], args := [d1, d2] }
  | _ => none }
def BoardTurnedWrongFalsely : Prop := boardTurnedRow.holds Tryd.pinned (OpenSpec.ofChange boardTurnedWrong)

/-- 'kibitzerlaw06.BoardAt': WHATEVER THE INPUT: true; the input reads as it did. -/
def boardAtSpec : ChangeSpec := { name := "boardAt", fn := fun _ => fun
  | [d1, d2] => { results := [.lit (.bool true)], args := [d1, d2] }
  | _ => none }
def boardAtRow : OpenClaim := { program := "ytlobmhhilkmfdaadoor", sum := "916f7b04c8aa5be4c0aa5e7387a0db2739dabf8e1b2064ed76e190d581060d4a", func := "kibitzer/kibitzerlaw06.BoardAt", spec := "boardAt", unfollowed := true, recurses := true, named := ["math/bits.deBruijn64tab"], apart := false, laid := [("math/bits.deBruijn64tab", laid_math_bits_deBruijn64tab)] }
def BoardAtSaid : Prop := boardAtRow.holds Tryd.pinned (OpenSpec.ofChange boardAtSpec)

/-- ITS FALSE NEIGHBOUR: 'it returns false'. Refute it at one input. -/
def boardAtWrong : ChangeSpec := { name := "boardAt", fn := fun _ => fun
  | [d1, d2] => { results := [.lit (.bool false)], args := [d1, d2] }
  | _ => none }
def BoardAtWrongFalsely : Prop := boardAtRow.holds Tryd.pinned (OpenSpec.ofChange boardAtWrong)

/-- 'kibitzerlaw06.BoardPut': WHATEVER THE INPUT: true; the input reads as it did. -/
def boardPutSpec : ChangeSpec := { name := "boardPut", fn := fun _ => fun
  | [d1, d2, d3, d4] => { results := [.lit (.bool true)], args := [d1, d2, d3, d4] }
  | _ => none }
def boardPutRow : OpenClaim := { program := "ytlobmhhilkmfdaadoor", sum := "916f7b04c8aa5be4c0aa5e7387a0db2739dabf8e1b2064ed76e190d581060d4a", func := "kibitzer/kibitzerlaw06.BoardPut", spec := "boardPut", unfollowed := true, recurses := true, named := ["math/bits.deBruijn64tab"], apart := false, laid := [("math/bits.deBruijn64tab", laid_math_bits_deBruijn64tab)] }
def BoardPutSaid : Prop := boardPutRow.holds Tryd.pinned (OpenSpec.ofChange boardPutSpec)

/-- ITS FALSE NEIGHBOUR: 'it returns false'. Refute it at one input. -/
def boardPutWrong : ChangeSpec := { name := "boardPut", fn := fun _ => fun
  | [d1, d2, d3, d4] => { results := [.lit (.bool false)], args := [d1, d2, d3, d4] }
  | _ => none }
def BoardPutWrongFalsely : Prop := boardPutRow.holds Tryd.pinned (OpenSpec.ofChange boardPutWrong)

/-- 'kibitzerlaw06.BoardMoved': WHATEVER THE INPUT: true; the input reads as it did. -/
def boardMovedSpec : ChangeSpec := { name := "boardMoved", fn := fun _ => fun
  | [d1, d2, d3] => { results := [.lit (.bool true)], args := [d1, d2, d3] }
  | _ => none }
def boardMovedRow : OpenClaim := { program := "ytlobmhhilkmfdaadoor", sum := "916f7b04c8aa5be4c0aa5e7387a0db2739dabf8e1b2064ed76e190d581060d4a", func := "kibitzer/kibitzerlaw06.BoardMoved", spec := "boardMoved", unfollowed := true, recurses := true, named := ["math/bits.deBruijn64tab"], apart := false, laid := [("math/bits.deBruijn64tab", laid_math_bits_deBruijn64tab)] }
def BoardMovedSaid : Prop := boardMovedRow.holds Tryd.pinned (OpenSpec.ofChange boardMovedSpec)

/-- ITS FALSE NEIGHBOUR: 'it returns false'. Refute it at one input. -/
def boardMovedWrong : ChangeSpec := { name := "boardMoved", fn := fun _ => fun
  | [d1, d2, d3] => { results := [.lit (.bool false)], args := [d1, d2, d3] }
  | _ => none }
def BoardMovedWrongFalsely : Prop := boardMovedRow.holds Tryd.pinned (OpenSpec.ofChange boardMovedWrong)

/- THE SECOND FORM. 'bulk': how many values and letters a reading holds, each counted each time it is reached (what is shared counts as often as it is met; a slice's spare places count too). A statement '..UptoSaid' is the law's where the arguments, and the package variables that the reading takes, are together of bulk at most 1048576: NARROWER than '..Said'. Prove '..Said' where nothing that the law and all that it calls make is longer than what came in: it says more and counts as full. Else prove '..UptoSaid'. A law counts once. -/
mutual
def uptoBulk {H : Type} : DataW H → Nat
  | .lit (.string bytes) => bytes.length + 1
  | .lit _ => 1
  | .nil => 1
  | .ptr d => uptoBulk d + 1
  | .slice elems spare => uptoBulkAll elems + uptoBulkAll spare + 1
  | .agg parts => uptoBulkAll parts + 1
  | .iface _ d => uptoBulk d + 1
  | .map entries => uptoBulkEntries entries + 1
  | .held _ => 1
def uptoBulkAll {H : Type} : List (DataW H) → Nat
  | [] => 0
  | d :: r => uptoBulk d + uptoBulkAll r
def uptoBulkEntries {H : Type} : List (Lit × DataW H) → Nat
  | [] => 0
  | x :: r => uptoBulkEntry x + uptoBulkEntries r
def uptoBulkEntry {H : Type} : Lit × DataW H → Nat
  | (.string bytes, d) => bytes.length + uptoBulk d + 1
  | (_, d) => uptoBulk d + 1
 end
def uptoSmall : (H : Type) → List (DataW H) → Bool := fun _ ds => decide (uptoBulkAll ds ≤ 1048576)
def OpenSpec.upto (s : _root_.Go.ChangeSpec) : _root_.Go.OpenSpec := { _root_.Go.OpenSpec.ofChange s with cond := some uptoSmall }

/-- 'kibitzerlaw06.BoardSets', WHERE WHAT IT READS IS OF BULK AT MOST 1048576: true; the input reads as it did. -/
def boardSetsUptoRow : OpenClaim := { program := "ytlobmhhilkmfdaadoor", sum := "916f7b04c8aa5be4c0aa5e7387a0db2739dabf8e1b2064ed76e190d581060d4a", func := "kibitzer/kibitzerlaw06.BoardSets", spec := "boardSets", unfollowed := true, recurses := true, named := ["math/bits.deBruijn64tab"], apart := false, laid := [("math/bits.deBruijn64tab", laid_math_bits_deBruijn64tab)], narrowed := true }
def BoardSetsUptoSaid : Prop := boardSetsUptoRow.holds Tryd.pinned (OpenSpec.upto boardSetsSpec)

/-- 'kibitzerlaw06.BoardParts', WHERE WHAT IT READS IS OF BULK AT MOST 1048576: true; the input reads as it did. -/
def boardPartsUptoRow : OpenClaim := { program := "ytlobmhhilkmfdaadoor", sum := "916f7b04c8aa5be4c0aa5e7387a0db2739dabf8e1b2064ed76e190d581060d4a", func := "kibitzer/kibitzerlaw06.BoardParts", spec := "boardParts", unfollowed := true, recurses := true, named := ["math/bits.deBruijn64tab"], apart := false, laid := [("math/bits.deBruijn64tab", laid_math_bits_deBruijn64tab)], narrowed := true }
def BoardPartsUptoSaid : Prop := boardPartsUptoRow.holds Tryd.pinned (OpenSpec.upto boardPartsSpec)

/-- 'kibitzerlaw06.BoardTurned', WHERE WHAT IT READS IS OF BULK AT MOST 1048576: true; the input reads as it did. -/
def boardTurnedUptoRow : OpenClaim := { program := "ytlobmhhilkmfdaadoor", sum := "916f7b04c8aa5be4c0aa5e7387a0db2739dabf8e1b2064ed76e190d581060d4a", func := "kibitzer/kibitzerlaw06.BoardTurned", spec := "boardTurned", unfollowed := true, recurses := true, named := ["math/bits.deBruijn64tab"], apart := false, laid := [("math/bits.deBruijn64tab", laid_math_bits_deBruijn64tab)], narrowed := true }
def BoardTurnedUptoSaid : Prop := boardTurnedUptoRow.holds Tryd.pinned (OpenSpec.upto boardTurnedSpec)

/-- 'kibitzerlaw06.BoardAt', WHERE WHAT IT READS IS OF BULK AT MOST 1048576: true; the input reads as it did. -/
def boardAtUptoRow : OpenClaim := { program := "ytlobmhhilkmfdaadoor", sum := "916f7b04c8aa5be4c0aa5e7387a0db2739dabf8e1b2064ed76e190d581060d4a", func := "kibitzer/kibitzerlaw06.BoardAt", spec := "boardAt", unfollowed := true, recurses := true, named := ["math/bits.deBruijn64tab"], apart := false, laid := [("math/bits.deBruijn64tab", laid_math_bits_deBruijn64tab)], narrowed := true }
def BoardAtUptoSaid : Prop := boardAtUptoRow.holds Tryd.pinned (OpenSpec.upto boardAtSpec)

/-- 'kibitzerlaw06.BoardPut', WHERE WHAT IT READS IS OF BULK AT MOST 1048576: true; the input reads as it did. -/
def boardPutUptoRow : OpenClaim := { program := "ytlobmhhilkmfdaadoor", sum := "916f7b04c8aa5be4c0aa5e7387a0db2739dabf8e1b2064ed76e190d581060d4a", func := "kibitzer/kibitzerlaw06.BoardPut", spec := "boardPut", unfollowed := true, recurses := true, named := ["math/bits.deBruijn64tab"], apart := false, laid := [("math/bits.deBruijn64tab", laid_math_bits_deBruijn64tab)], narrowed := true }
def BoardPutUptoSaid : Prop := boardPutUptoRow.holds Tryd.pinned (OpenSpec.upto boardPutSpec)

/-- 'kibitzerlaw06.BoardMoved', WHERE WHAT IT READS IS OF BULK AT MOST 1048576: true; the input reads as it did. -/
def boardMovedUptoRow : OpenClaim := { program := "ytlobmhhilkmfdaadoor", sum := "916f7b04c8aa5be4c0aa5e7387a0db2739dabf8e1b2064ed76e190d581060d4a", func := "kibitzer/kibitzerlaw06.BoardMoved", spec := "boardMoved", unfollowed := true, recurses := true, named := ["math/bits.deBruijn64tab"], apart := false, laid := [("math/bits.deBruijn64tab", laid_math_bits_deBruijn64tab)], narrowed := true }
def BoardMovedUptoSaid : Prop := boardMovedUptoRow.holds Tryd.pinned (OpenSpec.upto boardMovedSpec)

end Rows
end Go.Proofs.YtlobmhhilkmfdaaDoor
