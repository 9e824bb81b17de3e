/-
  NARROWER THAN 'FOR EVERY INPUT', by the rows' own cells (each row's printed sentence says how): SlidesDir: laid · SlidesPieces: laid · SlidesEnd: laid · SlidesRays: laid · SlidesFlipped: laid · SlidesLess: laid · SlidesParts: laid · SlidesBack: laid.
  DERIVED. THE GIVEN ROWS OF THIS SEAT. 8 by the template 'for every input the law returns true; each argument reads behind the call as it read before'; 0 by the template 'total and deterministic' (their statements: YtnbfgangmkfolaaDoorTotals.lean).
  GIVEN WITH THE SEED: the statements are not yours to turn. If you find one false, say at which input.
  Laid BY PROGRAM, IN A SANDBOX (cutbox-rows.mjs): the forced cells as the released guide's own fill.sh prints them over the translation 3031a74b7781b508… (all of the seat's roots in one cut). By AI agents, Wed Nov 11 2026. No macro, syntax, notation, axiom, sorry.
-/
import Derived.Test.YtnbfgangmkfolaaDoorChecked
import GoSem.Claim
import GoSem.ClaimJoined
import GoSem.ClaimMapViews
import Derived.JoinedTies
import Derived.KernelRfl
namespace Go.Proofs.YtnbfgangmkfolaaDoor
/- THE CELL 'sum', in the pinned program and in every row, IS THE sha256 OF THE DUMP (.gsa) THAT YtnbfgangmkfolaaDoorProg.lean LOADS. Nothing in Lean hashes anything: it is a label: what it is worth is what the hold of that sum in a sandbox is worth. -/
noncomputable def Tryd.pinned : Pinned := { name := "ytnbfgangmkfolaadoor", sum := "3031a74b7781b508cc52bdb7fe890be031163f24c7017ad786c8abcee2c5c425", checked := Tryd.checked }
namespace Rows
def none {H : Type} : Left H := { results := [], args := [] }

/- WHAT THE LISTED PACKAGE-LEVEL VARIABLES READ AS WHEN THE CALL BEGINS. Each datum BY PROGRAM (the guide's laid-datum.mjs) off the statement by which the dump's own 'gosem.cut.vars' lays the variable. In a bare row this is a premise. The card (YtnbfgangmkfolaaDoorCards.lean) ties it to the program's text. -/
def laid_math_bits_deBruijn64tab {H : Type} : DataW H := .agg [.lit (.int .u8 0), .lit (.int .u8 1), .lit (.int .u8 56), .lit (.int .u8 2), .lit (.int .u8 57), .lit (.int .u8 49), .lit (.int .u8 28), .lit (.int .u8 3), .lit (.int .u8 61), .lit (.int .u8 58), .lit (.int .u8 42), .lit (.int .u8 50), .lit (.int .u8 38), .lit (.int .u8 29), .lit (.int .u8 17), .lit (.int .u8 4), .lit (.int .u8 62), .lit (.int .u8 47), .lit (.int .u8 59), .lit (.int .u8 36), .lit (.int .u8 45), .lit (.int .u8 43), .lit (.int .u8 51), .lit (.int .u8 22), .lit (.int .u8 53), .lit (.int .u8 39), .lit (.int .u8 33), .lit (.int .u8 30), .lit (.int .u8 24), .lit (.int .u8 18), .lit (.int .u8 12), .lit (.int .u8 5), .lit (.int .u8 63), .lit (.int .u8 55), .lit (.int .u8 48), .lit (.int .u8 27), .lit (.int .u8 60), .lit (.int .u8 41), .lit (.int .u8 37), .lit (.int .u8 16), .lit (.int .u8 46), .lit (.int .u8 35), .lit (.int .u8 44), .lit (.int .u8 21), .lit (.int .u8 52), .lit (.int .u8 32), .lit (.int .u8 23), .lit (.int .u8 11), .lit (.int .u8 54), .lit (.int .u8 26), .lit (.int .u8 40), .lit (.int .u8 15), .lit (.int .u8 34), .lit (.int .u8 20), .lit (.int .u8 31), .lit (.int .u8 10), .lit (.int .u8 25), .lit (.int .u8 14), .lit (.int .u8 19), .lit (.int .u8 9), .lit (.int .u8 13), .lit (.int .u8 8), .lit (.int .u8 7), .lit (.int .u8 6)]

/-- 'kibitzerlaw04.SlidesDir': WHATEVER THE INPUT: true; the input reads as it did. -/
def slidesDirSpec : ChangeSpec := { name := "slidesDir", fn := fun _ => fun
  | [d1, d2, d3] => { results := [.lit (.bool true)], args := [d1, d2, d3] }
  | _ => none }
def slidesDirRow : OpenClaim := { program := "ytnbfgangmkfolaadoor", sum := "3031a74b7781b508cc52bdb7fe890be031163f24c7017ad786c8abcee2c5c425", func := "kibitzer/kibitzerlaw04.SlidesDir", spec := "slidesDir", unfollowed := true, recurses := true, named := ["math/bits.deBruijn64tab"], apart := false, laid := [("math/bits.deBruijn64tab", laid_math_bits_deBruijn64tab)] }
def SlidesDirSaid : Prop := slidesDirRow.holds Tryd.pinned (OpenSpec.ofChange slidesDirSpec)

/-- ITS FALSE NEIGHBOUR: 'it returns false'. Refute it at one input. -/
def slidesDirWrong : ChangeSpec := { name := "slidesDir", fn := fun _ => fun
  | [d1, d2, d3] => { results := [.lit (.bool false)], args := [d1, d2, d3] }
  | _ => none }
def SlidesDirWrongFalsely : Prop := slidesDirRow.holds Tryd.pinned (OpenSpec.ofChange slidesDirWrong)

/-- 'kibitzerlaw04.SlidesPieces': WHATEVER THE INPUT: true; the input reads as it did. -/
def slidesPiecesSpec : ChangeSpec := { name := "slidesPieces", fn := fun _ => fun
  | [d1, d2] => { results := [.lit (.bool true)], args := [d1, d2] }
  | _ => none }
def slidesPiecesRow : OpenClaim := { program := "ytnbfgangmkfolaadoor", sum := "3031a74b7781b508cc52bdb7fe890be031163f24c7017ad786c8abcee2c5c425", func := "kibitzer/kibitzerlaw04.SlidesPieces", spec := "slidesPieces", unfollowed := true, recurses := true, named := ["math/bits.deBruijn64tab"], apart := false, laid := [("math/bits.deBruijn64tab", laid_math_bits_deBruijn64tab)] }
def SlidesPiecesSaid : Prop := slidesPiecesRow.holds Tryd.pinned (OpenSpec.ofChange slidesPiecesSpec)

/-- ITS FALSE NEIGHBOUR: 'it returns false'. Refute it at one input. -/
def slidesPiecesWrong : ChangeSpec := { name := "slidesPieces", fn := fun _ => fun
  | [d1, d2] => { results := [.lit (.bool false)], args := [d1, d2] }
  | _ => none }
def SlidesPiecesWrongFalsely : Prop := slidesPiecesRow.holds Tryd.pinned (OpenSpec.ofChange slidesPiecesWrong)

/-- 'kibitzerlaw04.SlidesEnd': WHATEVER THE INPUT: true; the input reads as it did. -/
def slidesEndSpec : ChangeSpec := { name := "slidesEnd", fn := fun _ => fun
  | [d1, d2, d3] => { results := [.lit (.bool true)], args := [d1, d2, d3] }
  | _ => none }
def slidesEndRow : OpenClaim := { program := "ytnbfgangmkfolaadoor", sum := "3031a74b7781b508cc52bdb7fe890be031163f24c7017ad786c8abcee2c5c425", func := "kibitzer/kibitzerlaw04.SlidesEnd", spec := "slidesEnd", unfollowed := true, recurses := true, named := ["math/bits.deBruijn64tab"], apart := false, laid := [("math/bits.deBruijn64tab", laid_math_bits_deBruijn64tab)] }
def SlidesEndSaid : Prop := slidesEndRow.holds Tryd.pinned (OpenSpec.ofChange slidesEndSpec)

/-- ITS FALSE NEIGHBOUR: 'it returns false'. Refute it at one input. -/
def slidesEndWrong : ChangeSpec := { name := "slidesEnd", fn := fun _ => fun
  | [d1, d2, d3] => { results := [.lit (.bool false)], args := [d1, d2, d3] }
  | _ => none }
def SlidesEndWrongFalsely : Prop := slidesEndRow.holds Tryd.pinned (OpenSpec.ofChange slidesEndWrong)

/-- 'kibitzerlaw04.SlidesRays': WHATEVER THE INPUT: true; the input reads as it did. -/
def slidesRaysSpec : ChangeSpec := { name := "slidesRays", fn := fun _ => fun
  | [d1, d2, d3] => { results := [.lit (.bool true)], args := [d1, d2, d3] }
  | _ => none }
def slidesRaysRow : OpenClaim := { program := "ytnbfgangmkfolaadoor", sum := "3031a74b7781b508cc52bdb7fe890be031163f24c7017ad786c8abcee2c5c425", func := "kibitzer/kibitzerlaw04.SlidesRays", spec := "slidesRays", unfollowed := true, recurses := true, named := ["math/bits.deBruijn64tab"], apart := false, laid := [("math/bits.deBruijn64tab", laid_math_bits_deBruijn64tab)] }
def SlidesRaysSaid : Prop := slidesRaysRow.holds Tryd.pinned (OpenSpec.ofChange slidesRaysSpec)

/-- ITS FALSE NEIGHBOUR: 'it returns false'. Refute it at one input. -/
def slidesRaysWrong : ChangeSpec := { name := "slidesRays", fn := fun _ => fun
  | [d1, d2, d3] => { results := [.lit (.bool false)], args := [d1, d2, d3] }
  | _ => none }
def SlidesRaysWrongFalsely : Prop := slidesRaysRow.holds Tryd.pinned (OpenSpec.ofChange slidesRaysWrong)

/-- 'kibitzerlaw04.SlidesFlipped': WHATEVER THE INPUT: true; the input reads as it did. -/
def slidesFlippedSpec : ChangeSpec := { name := "slidesFlipped", fn := fun _ => fun
  | [d1, d2] => { results := [.lit (.bool true)], args := [d1, d2] }
  | _ => none }
def slidesFlippedRow : OpenClaim := { program := "ytnbfgangmkfolaadoor", sum := "3031a74b7781b508cc52bdb7fe890be031163f24c7017ad786c8abcee2c5c425", func := "kibitzer/kibitzerlaw04.SlidesFlipped", spec := "slidesFlipped", unfollowed := true, recurses := true, named := ["math/bits.deBruijn64tab"], apart := false, laid := [("math/bits.deBruijn64tab", laid_math_bits_deBruijn64tab)] }
def SlidesFlippedSaid : Prop := slidesFlippedRow.holds Tryd.pinned (OpenSpec.ofChange slidesFlippedSpec)

/-- ITS FALSE NEIGHBOUR: 'it returns false'. Refute it at one input. -/
def slidesFlippedWrong : ChangeSpec := { name := "slidesFlipped", fn := fun _ => fun
  | [d1, d2] => { results := [.lit (.bool false)], args := [d1, d2] }
  | _ => none }
def SlidesFlippedWrongFalsely : Prop := slidesFlippedRow.holds Tryd.pinned (OpenSpec.ofChange slidesFlippedWrong)

/-- 'kibitzerlaw04.SlidesLess': WHATEVER THE INPUT: true; the input reads as it did. -/
def slidesLessSpec : ChangeSpec := { name := "slidesLess", fn := fun _ => fun
  | [d1, d2, d3] => { results := [.lit (.bool true)], args := [d1, d2, d3] }
  | _ => none }
def slidesLessRow : OpenClaim := { program := "ytnbfgangmkfolaadoor", sum := "3031a74b7781b508cc52bdb7fe890be031163f24c7017ad786c8abcee2c5c425", func := "kibitzer/kibitzerlaw04.SlidesLess", spec := "slidesLess", unfollowed := true, recurses := true, named := ["math/bits.deBruijn64tab"], apart := false, laid := [("math/bits.deBruijn64tab", laid_math_bits_deBruijn64tab)] }
def SlidesLessSaid : Prop := slidesLessRow.holds Tryd.pinned (OpenSpec.ofChange slidesLessSpec)

/-- ITS FALSE NEIGHBOUR: 'it returns false'. Refute it at one input. -/
def slidesLessWrong : ChangeSpec := { name := "slidesLess", fn := fun _ => fun
  | [d1, d2, d3] => { results := [.lit (.bool false)], args := [d1, d2, d3] }
  | _ => none }
def SlidesLessWrongFalsely : Prop := slidesLessRow.holds Tryd.pinned (OpenSpec.ofChange slidesLessWrong)

/-- 'kibitzerlaw04.SlidesParts': WHATEVER THE INPUT: true; the input reads as it did. -/
def slidesPartsSpec : ChangeSpec := { name := "slidesParts", fn := fun _ => fun
  | [d1, d2] => { results := [.lit (.bool true)], args := [d1, d2] }
  | _ => none }
def slidesPartsRow : OpenClaim := { program := "ytnbfgangmkfolaadoor", sum := "3031a74b7781b508cc52bdb7fe890be031163f24c7017ad786c8abcee2c5c425", func := "kibitzer/kibitzerlaw04.SlidesParts", spec := "slidesParts", unfollowed := true, recurses := true, named := ["math/bits.deBruijn64tab"], apart := false, laid := [("math/bits.deBruijn64tab", laid_math_bits_deBruijn64tab)] }
def SlidesPartsSaid : Prop := slidesPartsRow.holds Tryd.pinned (OpenSpec.ofChange slidesPartsSpec)

/-- ITS FALSE NEIGHBOUR: 'it returns false'. Refute it at one input. -/
def slidesPartsWrong : ChangeSpec := { name := "slidesParts", fn := fun _ => fun
  | [d1, d2] => { results := [.lit (.bool false)], args := [d1, d2] }
  | _ => none }
def SlidesPartsWrongFalsely : Prop := slidesPartsRow.holds Tryd.pinned (OpenSpec.ofChange slidesPartsWrong)

/-- 'kibitzerlaw04.SlidesBack': WHATEVER THE INPUT: true; the input reads as it did. -/
def slidesBackSpec : ChangeSpec := { name := "slidesBack", fn := fun _ => fun
  | [d1, d2, d3] => { results := [.lit (.bool true)], args := [d1, d2, d3] }
  | _ => none }
def slidesBackRow : OpenClaim := { program := "ytnbfgangmkfolaadoor", sum := "3031a74b7781b508cc52bdb7fe890be031163f24c7017ad786c8abcee2c5c425", func := "kibitzer/kibitzerlaw04.SlidesBack", spec := "slidesBack", unfollowed := true, recurses := true, named := ["math/bits.deBruijn64tab"], apart := false, laid := [("math/bits.deBruijn64tab", laid_math_bits_deBruijn64tab)] }
def SlidesBackSaid : Prop := slidesBackRow.holds Tryd.pinned (OpenSpec.ofChange slidesBackSpec)

/-- ITS FALSE NEIGHBOUR: 'it returns false'. Refute it at one input. -/
def slidesBackWrong : ChangeSpec := { name := "slidesBack", fn := fun _ => fun
  | [d1, d2, d3] => { results := [.lit (.bool false)], args := [d1, d2, d3] }
  | _ => none }
def SlidesBackWrongFalsely : Prop := slidesBackRow.holds Tryd.pinned (OpenSpec.ofChange slidesBackWrong)

/- THE SECOND FORM. 'bulk': how many values and letters a reading holds, each counted each time it is reached (what is shared counts as often as it is met; a slice's spare places count too). A statement '..UptoSaid' is the law's where the arguments, and the package variables that the reading takes, are together of bulk at most 1048576: NARROWER than '..Said'. Prove '..Said' where nothing that the law and all that it calls make is longer than what came in: it says more and counts as full. Else prove '..UptoSaid'. A law counts once. -/
mutual
def uptoBulk {H : Type} : DataW H → Nat
  | .lit (.string bytes) => bytes.length + 1
  | .lit _ => 1
  | .nil => 1
  | .ptr d => uptoBulk d + 1
  | .slice elems spare => uptoBulkAll elems + uptoBulkAll spare + 1
  | .agg parts => uptoBulkAll parts + 1
  | .iface _ d => uptoBulk d + 1
  | .map entries => uptoBulkEntries entries + 1
  | .held _ => 1
def uptoBulkAll {H : Type} : List (DataW H) → Nat
  | [] => 0
  | d :: r => uptoBulk d + uptoBulkAll r
def uptoBulkEntries {H : Type} : List (Lit × DataW H) → Nat
  | [] => 0
  | x :: r => uptoBulkEntry x + uptoBulkEntries r
def uptoBulkEntry {H : Type} : Lit × DataW H → Nat
  | (.string bytes, d) => bytes.length + uptoBulk d + 1
  | (_, d) => uptoBulk d + 1
 end
def uptoSmall : (H : Type) → List (DataW H) → Bool := fun _ ds => decide (uptoBulkAll ds ≤ 1048576)
def OpenSpec.upto (s : _root_.Go.ChangeSpec) : _root_.Go.OpenSpec := { _root_.Go.OpenSpec.ofChange s with cond := some uptoSmall }

/-- 'kibitzerlaw04.SlidesDir', WHERE WHAT IT READS IS OF BULK AT MOST 1048576: true; the input reads as it did. -/
def slidesDirUptoRow : OpenClaim := { program := "ytnbfgangmkfolaadoor", sum := "3031a74b7781b508cc52bdb7fe890be031163f24c7017ad786c8abcee2c5c425", func := "kibitzer/kibitzerlaw04.SlidesDir", spec := "slidesDir", unfollowed := true, recurses := true, named := ["math/bits.deBruijn64tab"], apart := false, laid := [("math/bits.deBruijn64tab", laid_math_bits_deBruijn64tab)], narrowed := true }
def SlidesDirUptoSaid : Prop := slidesDirUptoRow.holds Tryd.pinned (OpenSpec.upto slidesDirSpec)

/-- 'kibitzerlaw04.SlidesPieces', WHERE WHAT IT READS IS OF BULK AT MOST 1048576: true; the input reads as it did. -/
def slidesPiecesUptoRow : OpenClaim := { program := "ytnbfgangmkfolaadoor", sum := "3031a74b7781b508cc52bdb7fe890be031163f24c7017ad786c8abcee2c5c425", func := "kibitzer/kibitzerlaw04.SlidesPieces", spec := "slidesPieces", unfollowed := true, recurses := true, named := ["math/bits.deBruijn64tab"], apart := false, laid := [("math/bits.deBruijn64tab", laid_math_bits_deBruijn64tab)], narrowed := true }
def SlidesPiecesUptoSaid : Prop := slidesPiecesUptoRow.holds Tryd.pinned (OpenSpec.upto slidesPiecesSpec)

/-- 'kibitzerlaw04.SlidesEnd', WHERE WHAT IT READS IS OF BULK AT MOST 1048576: true; the input reads as it did. -/
def slidesEndUptoRow : OpenClaim := { program := "ytnbfgangmkfolaadoor", sum := "3031a74b7781b508cc52bdb7fe890be031163f24c7017ad786c8abcee2c5c425", func := "kibitzer/kibitzerlaw04.SlidesEnd", spec := "slidesEnd", unfollowed := true, recurses := true, named := ["math/bits.deBruijn64tab"], apart := false, laid := [("math/bits.deBruijn64tab", laid_math_bits_deBruijn64tab)], narrowed := true }
def SlidesEndUptoSaid : Prop := slidesEndUptoRow.holds Tryd.pinned (OpenSpec.upto slidesEndSpec)

/-- 'kibitzerlaw04.SlidesRays', WHERE WHAT IT READS IS OF BULK AT MOST 1048576: true; the input reads as it did. -/
def slidesRaysUptoRow : OpenClaim := { program := "ytnbfgangmkfolaadoor", sum := "3031a74b7781b508cc52bdb7fe890be031163f24c7017ad786c8abcee2c5c425", func := "kibitzer/kibitzerlaw04.SlidesRays", spec := "slidesRays", unfollowed := true, recurses := true, named := ["math/bits.deBruijn64tab"], apart := false, laid := [("math/bits.deBruijn64tab", laid_math_bits_deBruijn64tab)], narrowed := true }
def SlidesRaysUptoSaid : Prop := slidesRaysUptoRow.holds Tryd.pinned (OpenSpec.upto slidesRaysSpec)

/-- 'kibitzerlaw04.SlidesFlipped', WHERE WHAT IT READS IS OF BULK AT MOST 1048576: true; the input reads as it did. -/
def slidesFlippedUptoRow : OpenClaim := { program := "ytnbfgangmkfolaadoor", sum := "3031a74b7781b508cc52bdb7fe890be031163f24c7017ad786c8abcee2c5c425", func := "kibitzer/kibitzerlaw04.SlidesFlipped", spec := "slidesFlipped", unfollowed := true, recurses := true, named := ["math/bits.deBruijn64tab"], apart := false, laid := [("math/bits.deBruijn64tab", laid_math_bits_deBruijn64tab)], narrowed := true }
def SlidesFlippedUptoSaid : Prop := slidesFlippedUptoRow.holds Tryd.pinned (OpenSpec.upto slidesFlippedSpec)

/-- 'kibitzerlaw04.SlidesLess', WHERE WHAT IT READS IS OF BULK AT MOST 1048576: true; the input reads as it did. -/
def slidesLessUptoRow : OpenClaim := { program := "ytnbfgangmkfolaadoor", sum := "3031a74b7781b508cc52bdb7fe890be031163f24c7017ad786c8abcee2c5c425", func := "kibitzer/kibitzerlaw04.SlidesLess", spec := "slidesLess", unfollowed := true, recurses := true, named := ["math/bits.deBruijn64tab"], apart := false, laid := [("math/bits.deBruijn64tab", laid_math_bits_deBruijn64tab)], narrowed := true }
def SlidesLessUptoSaid : Prop := slidesLessUptoRow.holds Tryd.pinned (OpenSpec.upto slidesLessSpec)

/-- 'kibitzerlaw04.SlidesParts', WHERE WHAT IT READS IS OF BULK AT MOST 1048576: true; the input reads as it did. -/
def slidesPartsUptoRow : OpenClaim := { program := "ytnbfgangmkfolaadoor", sum := "3031a74b7781b508cc52bdb7fe890be031163f24c7017ad786c8abcee2c5c425", func := "kibitzer/kibitzerlaw04.SlidesParts", spec := "slidesParts", unfollowed := true, recurses := true, named := ["math/bits.deBruijn64tab"], apart := false, laid := [("math/bits.deBruijn64tab", laid_math_bits_deBruijn64tab)], narrowed := true }
def SlidesPartsUptoSaid : Prop := slidesPartsUptoRow.holds Tryd.pinned (OpenSpec.upto slidesPartsSpec)

/-- 'kibitzerlaw04.SlidesBack', WHERE WHAT IT READS IS OF BULK AT MOST 1048576: true; the input reads as it did. -/
def slidesBackUptoRow : OpenClaim := { program := "ytnbfgangmkfolaadoor", sum := "3031a74b7781b508cc52bdb7fe890be031163f24c7017ad786c8abcee2c5c425", func := "kibitzer/kibitzerlaw04.SlidesBack", spec := "slidesBack", unfollowed := true, recurses := true, named := ["math/bits.deBruijn64tab"], apart := false, laid := [("math/bits.deBruijn64tab", laid_math_bits_deBruijn64tab)], narrowed := true }
def SlidesBackUptoSaid : Prop := slidesBackUptoRow.holds Tryd.pinned (OpenSpec.upto slidesBackSpec)

end Rows
end Go.Proofs.YtnbfgangmkfolaaDoor
