/-
  NARROWER THAN 'FOR EVERY INPUT', by the rows' own cells (each row's printed sentence says how): DropList: laid · DropCounts: laid · DropPockets: laid · DropEach: laid · DropBack: laid · DropTurn: laid.
  DERIVED. THE GIVEN ROWS OF THIS SEAT. 6 by the template 'for every input the law returns true; each argument reads behind the call as it read before'; 0 by the template 'total and deterministic' (their statements: YtkkabacdiefabaaDoorTotals.lean).
  GIVEN WITH THE SEED: the statements are not yours to turn. If you find one false, say at which input.
  Laid BY PROGRAM, IN A SANDBOX (cutbox-rows.mjs): the forced cells as the released guide's own fill.sh prints them over the translation f5a4146b321efcc0… (all of the seat's roots in one cut). By AI agents, Wed Nov 11 2026. No macro, syntax, notation, axiom, sorry.
-/
import Derived.Test.YtkkabacdiefabaaDoorChecked
import GoSem.Claim
import GoSem.ClaimJoined
import GoSem.ClaimMapViews
import Derived.JoinedTies
import Derived.KernelRfl
namespace Go.Proofs.YtkkabacdiefabaaDoor
/- THE CELL 'sum', in the pinned program and in every row, IS THE sha256 OF THE DUMP (.gsa) THAT YtkkabacdiefabaaDoorProg.lean LOADS. Nothing in Lean hashes anything: it is a label: what it is worth is what the hold of that sum in a sandbox is worth. -/
noncomputable def Tryd.pinned : Pinned := { name := "ytkkabacdiefabaadoor", sum := "f5a4146b321efcc089486a3af8408755cc6ce355cca0bf1c422f6265f360f850", checked := Tryd.checked }
namespace Rows
def none {H : Type} : Left H := { results := [], args := [] }

/- WHAT THE LISTED PACKAGE-LEVEL VARIABLES READ AS WHEN THE CALL BEGINS. Each datum BY PROGRAM (the guide's laid-datum.mjs) off the statement by which the dump's own 'gosem.cut.vars' lays the variable. In a bare row this is a premise. The card (YtkkabacdiefabaaDoorCards.lean) ties it to the program's text. -/
def laid_math_bits_deBruijn64tab {H : Type} : DataW H := .agg [.lit (.int .u8 0), .lit (.int .u8 1), .lit (.int .u8 56), .lit (.int .u8 2), .lit (.int .u8 57), .lit (.int .u8 49), .lit (.int .u8 28), .lit (.int .u8 3), .lit (.int .u8 61), .lit (.int .u8 58), .lit (.int .u8 42), .lit (.int .u8 50), .lit (.int .u8 38), .lit (.int .u8 29), .lit (.int .u8 17), .lit (.int .u8 4), .lit (.int .u8 62), .lit (.int .u8 47), .lit (.int .u8 59), .lit (.int .u8 36), .lit (.int .u8 45), .lit (.int .u8 43), .lit (.int .u8 51), .lit (.int .u8 22), .lit (.int .u8 53), .lit (.int .u8 39), .lit (.int .u8 33), .lit (.int .u8 30), .lit (.int .u8 24), .lit (.int .u8 18), .lit (.int .u8 12), .lit (.int .u8 5), .lit (.int .u8 63), .lit (.int .u8 55), .lit (.int .u8 48), .lit (.int .u8 27), .lit (.int .u8 60), .lit (.int .u8 41), .lit (.int .u8 37), .lit (.int .u8 16), .lit (.int .u8 46), .lit (.int .u8 35), .lit (.int .u8 44), .lit (.int .u8 21), .lit (.int .u8 52), .lit (.int .u8 32), .lit (.int .u8 23), .lit (.int .u8 11), .lit (.int .u8 54), .lit (.int .u8 26), .lit (.int .u8 40), .lit (.int .u8 15), .lit (.int .u8 34), .lit (.int .u8 20), .lit (.int .u8 31), .lit (.int .u8 10), .lit (.int .u8 25), .lit (.int .u8 14), .lit (.int .u8 19), .lit (.int .u8 9), .lit (.int .u8 13), .lit (.int .u8 8), .lit (.int .u8 7), .lit (.int .u8 6)]

/-- 'kibitzerlaw15.DropList': WHATEVER THE INPUT: true; the input reads as it did. -/
def dropListSpec : ChangeSpec := { name := "dropList", fn := fun _ => fun
  | [d] => { results := [.lit (.bool true)], args := [d] }
  | _ => none }
def dropListRow : OpenClaim := { program := "ytkkabacdiefabaadoor", sum := "f5a4146b321efcc089486a3af8408755cc6ce355cca0bf1c422f6265f360f850", func := "kibitzer/kibitzerlaw15.DropList", spec := "dropList", unfollowed := true, recurses := true, named := ["math/bits.deBruijn64tab"], apart := false, laid := [("math/bits.deBruijn64tab", laid_math_bits_deBruijn64tab)] }
def DropListSaid : Prop := dropListRow.holds Tryd.pinned (OpenSpec.ofChange dropListSpec)

/-- ITS FALSE NEIGHBOUR: 'it returns false'. Refute it at one input. -/
def dropListWrong : ChangeSpec := { name := "dropList", fn := fun _ => fun
  | [d] => { results := [.lit (.bool false)], args := [d] }
  | _ => none }
def DropListWrongFalsely : Prop := dropListRow.holds Tryd.pinned (OpenSpec.ofChange dropListWrong)

/-- 'kibitzerlaw15.DropCounts': WHATEVER THE INPUT: true; the input reads as it did. -/
def dropCountsSpec : ChangeSpec := { name := "dropCounts", fn := fun _ => fun
  | [d1, d2] => { results := [.lit (.bool true)], args := [d1, d2] }
  | _ => none }
def dropCountsRow : OpenClaim := { program := "ytkkabacdiefabaadoor", sum := "f5a4146b321efcc089486a3af8408755cc6ce355cca0bf1c422f6265f360f850", func := "kibitzer/kibitzerlaw15.DropCounts", spec := "dropCounts", unfollowed := true, recurses := true, named := ["math/bits.deBruijn64tab"], apart := false, laid := [("math/bits.deBruijn64tab", laid_math_bits_deBruijn64tab)] }
def DropCountsSaid : Prop := dropCountsRow.holds Tryd.pinned (OpenSpec.ofChange dropCountsSpec)

/-- ITS FALSE NEIGHBOUR: 'it returns false'. Refute it at one input. -/
def dropCountsWrong : ChangeSpec := { name := "dropCounts", fn := fun _ => fun
  | [d1, d2] => { results := [.lit (.bool false)], args := [d1, d2] }
  | _ => none }
def DropCountsWrongFalsely : Prop := dropCountsRow.holds Tryd.pinned (OpenSpec.ofChange dropCountsWrong)

/-- 'kibitzerlaw15.DropPockets': WHATEVER THE INPUT: true; the input reads as it did. -/
def dropPocketsSpec : ChangeSpec := { name := "dropPockets", fn := fun _ => fun
  | [d1, d2, d3] => { results := [.lit (.bool true)], args := [d1, d2, d3] }
  | _ => none }
def dropPocketsRow : OpenClaim := { program := "ytkkabacdiefabaadoor", sum := "f5a4146b321efcc089486a3af8408755cc6ce355cca0bf1c422f6265f360f850", func := "kibitzer/kibitzerlaw15.DropPockets", spec := "dropPockets", unfollowed := true, recurses := true, named := ["math/bits.deBruijn64tab"], apart := false, laid := [("math/bits.deBruijn64tab", laid_math_bits_deBruijn64tab)] }
def DropPocketsSaid : Prop := dropPocketsRow.holds Tryd.pinned (OpenSpec.ofChange dropPocketsSpec)

/-- ITS FALSE NEIGHBOUR: 'it returns false'. Refute it at one input. -/
def dropPocketsWrong : ChangeSpec := { name := "dropPockets", fn := fun _ => fun
  | [d1, d2, d3] => { results := [.lit (.bool false)], args := [d1, d2, d3] }
  | _ => none }
def DropPocketsWrongFalsely : Prop := dropPocketsRow.holds Tryd.pinned (OpenSpec.ofChange dropPocketsWrong)

/-- 'kibitzerlaw15.DropEach': WHATEVER THE INPUT: true; the input reads as it did. -/
def dropEachSpec : ChangeSpec := { name := "dropEach", fn := fun _ => fun
  | [d] => { results := [.lit (.bool true)], args := [d] }
  | _ => none }
def dropEachRow : OpenClaim := { program := "ytkkabacdiefabaadoor", sum := "f5a4146b321efcc089486a3af8408755cc6ce355cca0bf1c422f6265f360f850", func := "kibitzer/kibitzerlaw15.DropEach", spec := "dropEach", unfollowed := true, recurses := true, named := ["math/bits.deBruijn64tab"], apart := false, laid := [("math/bits.deBruijn64tab", laid_math_bits_deBruijn64tab)] }
def DropEachSaid : Prop := dropEachRow.holds Tryd.pinned (OpenSpec.ofChange dropEachSpec)

/-- ITS FALSE NEIGHBOUR: 'it returns false'. Refute it at one input. -/
def dropEachWrong : ChangeSpec := { name := "dropEach", fn := fun _ => fun
  | [d] => { results := [.lit (.bool false)], args := [d] }
  | _ => none }
def DropEachWrongFalsely : Prop := dropEachRow.holds Tryd.pinned (OpenSpec.ofChange dropEachWrong)

/-- 'kibitzerlaw15.DropBack': WHATEVER THE INPUT: true; the input reads as it did. -/
def dropBackSpec : ChangeSpec := { name := "dropBack", fn := fun _ => fun
  | [d1, d2, d3] => { results := [.lit (.bool true)], args := [d1, d2, d3] }
  | _ => none }
def dropBackRow : OpenClaim := { program := "ytkkabacdiefabaadoor", sum := "f5a4146b321efcc089486a3af8408755cc6ce355cca0bf1c422f6265f360f850", func := "kibitzer/kibitzerlaw15.DropBack", spec := "dropBack", unfollowed := true, recurses := true, named := ["math/bits.deBruijn64tab"], apart := false, laid := [("math/bits.deBruijn64tab", laid_math_bits_deBruijn64tab)] }
def DropBackSaid : Prop := dropBackRow.holds Tryd.pinned (OpenSpec.ofChange dropBackSpec)

/-- ITS FALSE NEIGHBOUR: 'it returns false'. Refute it at one input. -/
def dropBackWrong : ChangeSpec := { name := "dropBack", fn := fun _ => fun
  | [d1, d2, d3] => { results := [.lit (.bool false)], args := [d1, d2, d3] }
  | _ => none }
def DropBackWrongFalsely : Prop := dropBackRow.holds Tryd.pinned (OpenSpec.ofChange dropBackWrong)

/-- 'kibitzerlaw15.DropTurn': WHATEVER THE INPUT: true; the input reads as it did. -/
def dropTurnSpec : ChangeSpec := { name := "dropTurn", fn := fun _ => fun
  | [d1, d2, d3] => { results := [.lit (.bool true)], args := [d1, d2, d3] }
  | _ => none }
def dropTurnRow : OpenClaim := { program := "ytkkabacdiefabaadoor", sum := "f5a4146b321efcc089486a3af8408755cc6ce355cca0bf1c422f6265f360f850", func := "kibitzer/kibitzerlaw15.DropTurn", spec := "dropTurn", unfollowed := true, recurses := true, named := ["math/bits.deBruijn64tab"], apart := false, laid := [("math/bits.deBruijn64tab", laid_math_bits_deBruijn64tab)] }
def DropTurnSaid : Prop := dropTurnRow.holds Tryd.pinned (OpenSpec.ofChange dropTurnSpec)

/-- ITS FALSE NEIGHBOUR: 'it returns false'. Refute it at one input. -/
def dropTurnWrong : ChangeSpec := { name := "dropTurn", fn := fun _ => fun
  | [d1, d2, d3] => { results := [.lit (.bool false)], args := [d1, d2, d3] }
  | _ => none }
def DropTurnWrongFalsely : Prop := dropTurnRow.holds Tryd.pinned (OpenSpec.ofChange dropTurnWrong)

/- THE SECOND FORM. 'bulk': how many values and letters a reading holds, each counted each time it is reached (what is shared counts as often as it is met; a slice's spare places count too). A statement '..UptoSaid' is the law's where the arguments, and the package variables that the reading takes, are together of bulk at most 1048576: NARROWER than '..Said'. Prove '..Said' where nothing that the law and all that it calls make is longer than what came in: it says more and counts as full. Else prove '..UptoSaid'. A law counts once. -/
mutual
def uptoBulk {H : Type} : DataW H → Nat
  | .lit (.string bytes) => bytes.length + 1
  | .lit _ => 1
  | .nil => 1
  | .ptr d => uptoBulk d + 1
  | .slice elems spare => uptoBulkAll elems + uptoBulkAll spare + 1
  | .agg parts => uptoBulkAll parts + 1
  | .iface _ d => uptoBulk d + 1
  | .map entries => uptoBulkEntries entries + 1
  | .held _ => 1
def uptoBulkAll {H : Type} : List (DataW H) → Nat
  | [] => 0
  | d :: r => uptoBulk d + uptoBulkAll r
def uptoBulkEntries {H : Type} : List (Lit × DataW H) → Nat
  | [] => 0
  | x :: r => uptoBulkEntry x + uptoBulkEntries r
def uptoBulkEntry {H : Type} : Lit × DataW H → Nat
  | (.string bytes, d) => bytes.length + uptoBulk d + 1
  | (_, d) => uptoBulk d + 1
 end
def uptoSmall : (H : Type) → List (DataW H) → Bool := fun _ ds => decide (uptoBulkAll ds ≤ 1048576)
def OpenSpec.upto (s : _root_.Go.ChangeSpec) : _root_.Go.OpenSpec := { _root_.Go.OpenSpec.ofChange s with cond := some uptoSmall }

/-- 'kibitzerlaw15.DropList', WHERE WHAT IT READS IS OF BULK AT MOST 1048576: true; the input reads as it did. -/
def dropListUptoRow : OpenClaim := { program := "ytkkabacdiefabaadoor", sum := "f5a4146b321efcc089486a3af8408755cc6ce355cca0bf1c422f6265f360f850", func := "kibitzer/kibitzerlaw15.DropList", spec := "dropList", unfollowed := true, recurses := true, named := ["math/bits.deBruijn64tab"], apart := false, laid := [("math/bits.deBruijn64tab", laid_math_bits_deBruijn64tab)], narrowed := true }
def DropListUptoSaid : Prop := dropListUptoRow.holds Tryd.pinned (OpenSpec.upto dropListSpec)

/-- 'kibitzerlaw15.DropCounts', WHERE WHAT IT READS IS OF BULK AT MOST 1048576: true; the input reads as it did. -/
def dropCountsUptoRow : OpenClaim := { program := "ytkkabacdiefabaadoor", sum := "f5a4146b321efcc089486a3af8408755cc6ce355cca0bf1c422f6265f360f850", func := "kibitzer/kibitzerlaw15.DropCounts", spec := "dropCounts", unfollowed := true, recurses := true, named := ["math/bits.deBruijn64tab"], apart := false, laid := [("math/bits.deBruijn64tab", laid_math_bits_deBruijn64tab)], narrowed := true }
def DropCountsUptoSaid : Prop := dropCountsUptoRow.holds Tryd.pinned (OpenSpec.upto dropCountsSpec)

/-- 'kibitzerlaw15.DropPockets', WHERE WHAT IT READS IS OF BULK AT MOST 1048576: true; the input reads as it did. -/
def dropPocketsUptoRow : OpenClaim := { program := "ytkkabacdiefabaadoor", sum := "f5a4146b321efcc089486a3af8408755cc6ce355cca0bf1c422f6265f360f850", func := "kibitzer/kibitzerlaw15.DropPockets", spec := "dropPockets", unfollowed := true, recurses := true, named := ["math/bits.deBruijn64tab"], apart := false, laid := [("math/bits.deBruijn64tab", laid_math_bits_deBruijn64tab)], narrowed := true }
def DropPocketsUptoSaid : Prop := dropPocketsUptoRow.holds Tryd.pinned (OpenSpec.upto dropPocketsSpec)

/-- 'kibitzerlaw15.DropEach', WHERE WHAT IT READS IS OF BULK AT MOST 1048576: true; the input reads as it did. -/
def dropEachUptoRow : OpenClaim := { program := "ytkkabacdiefabaadoor", sum := "f5a4146b321efcc089486a3af8408755cc6ce355cca0bf1c422f6265f360f850", func := "kibitzer/kibitzerlaw15.DropEach", spec := "dropEach", unfollowed := true, recurses := true, named := ["math/bits.deBruijn64tab"], apart := false, laid := [("math/bits.deBruijn64tab", laid_math_bits_deBruijn64tab)], narrowed := true }
def DropEachUptoSaid : Prop := dropEachUptoRow.holds Tryd.pinned (OpenSpec.upto dropEachSpec)

/-- 'kibitzerlaw15.DropBack', WHERE WHAT IT READS IS OF BULK AT MOST 1048576: true; the input reads as it did. -/
def dropBackUptoRow : OpenClaim := { program := "ytkkabacdiefabaadoor", sum := "f5a4146b321efcc089486a3af8408755cc6ce355cca0bf1c422f6265f360f850", func := "kibitzer/kibitzerlaw15.DropBack", spec := "dropBack", unfollowed := true, recurses := true, named := ["math/bits.deBruijn64tab"], apart := false, laid := [("math/bits.deBruijn64tab", laid_math_bits_deBruijn64tab)], narrowed := true }
def DropBackUptoSaid : Prop := dropBackUptoRow.holds Tryd.pinned (OpenSpec.upto dropBackSpec)

/-- 'kibitzerlaw15.DropTurn', WHERE WHAT IT READS IS OF BULK AT MOST 1048576: true; the input reads as it did. -/
def dropTurnUptoRow : OpenClaim := { program := "ytkkabacdiefabaadoor", sum := "f5a4146b321efcc089486a3af8408755cc6ce355cca0bf1c422f6265f360f850", func := "kibitzer/kibitzerlaw15.DropTurn", spec := "dropTurn", unfollowed := true, recurses := true, named := ["math/bits.deBruijn64tab"], apart := false, laid := [("math/bits.deBruijn64tab", laid_math_bits_deBruijn64tab)], narrowed := true }
def DropTurnUptoSaid : Prop := dropTurnUptoRow.holds Tryd.pinned (OpenSpec.upto dropTurnSpec)

end Rows
end Go.Proofs.YtkkabacdiefabaaDoor
