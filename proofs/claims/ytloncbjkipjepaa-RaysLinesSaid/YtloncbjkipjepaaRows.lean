/-
  No cell of these rows narrows 'for every input' (looked for: loops, veiled, ifaces, maps, wideKeys, modest, calm, conditions, laid).
  DERIVED. THE GIVEN ROWS OF THIS SEAT. 8 by the template 'for every input the law returns true; each argument reads behind the call as it read before'; 0 by the template 'total and deterministic' (their statements: YtloncbjkipjepaaTotals.lean).
  GIVEN WITH THE SEED: the statements are not yours to turn. If you find one false, say at which input.
  Laid BY PROGRAM, IN A SANDBOX (cutbox-rows.mjs): the forced cells as the released guide's own fill.sh prints them over the translation 867578559dc09c23… (all of the seat's roots in one cut). By AI agents, Wed Nov 11 2026. No macro, syntax, notation, axiom, sorry.
-/
import Derived.Test.YtloncbjkipjepaaChecked
import GoSem.Claim
import GoSem.ClaimJoined
import GoSem.ClaimMapViews
import Derived.JoinedTies
import Derived.KernelRfl
namespace Go.Proofs.Ytloncbjkipjepaa
/- THE CELL 'sum', in the pinned program and in every row, IS THE sha256 OF THE DUMP (.gsa) THAT YtloncbjkipjepaaProg.lean LOADS. Nothing in Lean hashes anything: it is a label: what it is worth is what the hold of that sum in a sandbox is worth. -/
noncomputable def Try.pinned : Pinned := { name := "ytloncbjkipjepaa", sum := "867578559dc09c233e90acc6efd579a1e55e5af6118758ee01aaf4fbcc9c59a1", checked := Try.checked }
namespace Rows
def none {H : Type} : Left H := { results := [], args := [] }

/-- 'kibitzerlaw03.RaysRays': WHATEVER THE INPUT: true; the input reads as it did. -/
def raysRaysSpec : ChangeSpec := { name := "raysRays", fn := fun _ => fun
  | [d1, d2] => { results := [.lit (.bool true)], args := [d1, d2] }
  | _ => none }
def raysRaysRow : OpenClaim := { program := "ytloncbjkipjepaa", sum := "867578559dc09c233e90acc6efd579a1e55e5af6118758ee01aaf4fbcc9c59a1", func := "kibitzer/kibitzerlaw03.RaysRays", spec := "raysRays", apart := false }
def RaysRaysSaid : Prop := raysRaysRow.holds Try.pinned (OpenSpec.ofChange raysRaysSpec)

/-- ITS FALSE NEIGHBOUR: 'it returns false'. Refute it at one input. -/
def raysRaysWrong : ChangeSpec := { name := "raysRays", fn := fun _ => fun
  | [d1, d2] => { results := [.lit (.bool false)], args := [d1, d2] }
  | _ => none }
def RaysRaysWrongFalsely : Prop := raysRaysRow.holds Try.pinned (OpenSpec.ofChange raysRaysWrong)

/-- 'kibitzerlaw03.RaysSteps': WHATEVER THE INPUT: true; the input reads as it did. -/
def raysStepsSpec : ChangeSpec := { name := "raysSteps", fn := fun _ => fun
  | [d1, d2] => { results := [.lit (.bool true)], args := [d1, d2] }
  | _ => none }
def raysStepsRow : OpenClaim := { program := "ytloncbjkipjepaa", sum := "867578559dc09c233e90acc6efd579a1e55e5af6118758ee01aaf4fbcc9c59a1", func := "kibitzer/kibitzerlaw03.RaysSteps", spec := "raysSteps", unfollowed := true, recurses := true, apart := false }
def RaysStepsSaid : Prop := raysStepsRow.holds Try.pinned (OpenSpec.ofChange raysStepsSpec)

/-- ITS FALSE NEIGHBOUR: 'it returns false'. Refute it at one input. -/
def raysStepsWrong : ChangeSpec := { name := "raysSteps", fn := fun _ => fun
  | [d1, d2] => { results := [.lit (.bool false)], args := [d1, d2] }
  | _ => none }
def RaysStepsWrongFalsely : Prop := raysStepsRow.holds Try.pinned (OpenSpec.ofChange raysStepsWrong)

/-- 'kibitzerlaw03.RaysLines': WHATEVER THE INPUT: true; the input reads as it did. -/
def raysLinesSpec : ChangeSpec := { name := "raysLines", fn := fun _ => fun
  | [d1, d2] => { results := [.lit (.bool true)], args := [d1, d2] }
  | _ => none }
def raysLinesRow : OpenClaim := { program := "ytloncbjkipjepaa", sum := "867578559dc09c233e90acc6efd579a1e55e5af6118758ee01aaf4fbcc9c59a1", func := "kibitzer/kibitzerlaw03.RaysLines", spec := "raysLines", apart := false }
def RaysLinesSaid : Prop := raysLinesRow.holds Try.pinned (OpenSpec.ofChange raysLinesSpec)

/-- ITS FALSE NEIGHBOUR: 'it returns false'. Refute it at one input. -/
def raysLinesWrong : ChangeSpec := { name := "raysLines", fn := fun _ => fun
  | [d1, d2] => { results := [.lit (.bool false)], args := [d1, d2] }
  | _ => none }
def RaysLinesWrongFalsely : Prop := raysLinesRow.holds Try.pinned (OpenSpec.ofChange raysLinesWrong)

/-- 'kibitzerlaw03.RaysTurned': WHATEVER THE INPUT: true; the input reads as it did. -/
def raysTurnedSpec : ChangeSpec := { name := "raysTurned", fn := fun _ => fun
  | [d1, d2] => { results := [.lit (.bool true)], args := [d1, d2] }
  | _ => none }
def raysTurnedRow : OpenClaim := { program := "ytloncbjkipjepaa", sum := "867578559dc09c233e90acc6efd579a1e55e5af6118758ee01aaf4fbcc9c59a1", func := "kibitzer/kibitzerlaw03.RaysTurned", spec := "raysTurned", unfollowed := true, recurses := true, apart := false }
def RaysTurnedSaid : Prop := raysTurnedRow.holds Try.pinned (OpenSpec.ofChange raysTurnedSpec)

/-- ITS FALSE NEIGHBOUR: 'it returns false'. Refute it at one input. -/
def raysTurnedWrong : ChangeSpec := { name := "raysTurned", fn := fun _ => fun
  | [d1, d2] => { results := [.lit (.bool false)], args := [d1, d2] }
  | _ => none }
def RaysTurnedWrongFalsely : Prop := raysTurnedRow.holds Try.pinned (OpenSpec.ofChange raysTurnedWrong)

/-- 'kibitzerlaw03.RaysParts': WHATEVER THE INPUT: true; the input reads as it did. -/
def raysPartsSpec : ChangeSpec := { name := "raysParts", fn := fun _ => fun
  | [d1, d2] => { results := [.lit (.bool true)], args := [d1, d2] }
  | _ => none }
def raysPartsRow : OpenClaim := { program := "ytloncbjkipjepaa", sum := "867578559dc09c233e90acc6efd579a1e55e5af6118758ee01aaf4fbcc9c59a1", func := "kibitzer/kibitzerlaw03.RaysParts", spec := "raysParts", unfollowed := true, recurses := true, apart := false }
def RaysPartsSaid : Prop := raysPartsRow.holds Try.pinned (OpenSpec.ofChange raysPartsSpec)

/-- ITS FALSE NEIGHBOUR: 'it returns false'. Refute it at one input. -/
def raysPartsWrong : ChangeSpec := { name := "raysParts", fn := fun _ => fun
  | [d1, d2] => { results := [.lit (.bool false)], args := [d1, d2] }
  | _ => none }
def RaysPartsWrongFalsely : Prop := raysPartsRow.holds Try.pinned (OpenSpec.ofChange raysPartsWrong)

/-- 'kibitzerlaw03.RaysNone': WHATEVER THE INPUT: true; the input reads as it did. -/
def raysNoneSpec : ChangeSpec := { name := "raysNone", fn := fun _ => fun
  | [d1, d2, d3] => { results := [.lit (.bool true)], args := [d1, d2, d3] }
  | _ => none }
def raysNoneRow : OpenClaim := { program := "ytloncbjkipjepaa", sum := "867578559dc09c233e90acc6efd579a1e55e5af6118758ee01aaf4fbcc9c59a1", func := "kibitzer/kibitzerlaw03.RaysNone", spec := "raysNone", unfollowed := true, recurses := true, apart := false }
def RaysNoneSaid : Prop := raysNoneRow.holds Try.pinned (OpenSpec.ofChange raysNoneSpec)

/-- ITS FALSE NEIGHBOUR: 'it returns false'. Refute it at one input. -/
def raysNoneWrong : ChangeSpec := { name := "raysNone", fn := fun _ => fun
  | [d1, d2, d3] => { results := [.lit (.bool false)], args := [d1, d2, d3] }
  | _ => none }
def RaysNoneWrongFalsely : Prop := raysNoneRow.holds Try.pinned (OpenSpec.ofChange raysNoneWrong)

/-- 'kibitzerlaw03.RaysOneLine': WHATEVER THE INPUT: true; the input reads as it did. -/
def raysOneLineSpec : ChangeSpec := { name := "raysOneLine", fn := fun _ => fun
  | [d1, d2, d3] => { results := [.lit (.bool true)], args := [d1, d2, d3] }
  | _ => none }
def raysOneLineRow : OpenClaim := { program := "ytloncbjkipjepaa", sum := "867578559dc09c233e90acc6efd579a1e55e5af6118758ee01aaf4fbcc9c59a1", func := "kibitzer/kibitzerlaw03.RaysOneLine", spec := "raysOneLine", unfollowed := true, recurses := true, apart := false }
def RaysOneLineSaid : Prop := raysOneLineRow.holds Try.pinned (OpenSpec.ofChange raysOneLineSpec)

/-- ITS FALSE NEIGHBOUR: 'it returns false'. Refute it at one input. -/
def raysOneLineWrong : ChangeSpec := { name := "raysOneLine", fn := fun _ => fun
  | [d1, d2, d3] => { results := [.lit (.bool false)], args := [d1, d2, d3] }
  | _ => none }
def RaysOneLineWrongFalsely : Prop := raysOneLineRow.holds Try.pinned (OpenSpec.ofChange raysOneLineWrong)

/-- 'kibitzerlaw03.RaysFlipped': WHATEVER THE INPUT: true; the input reads as it did. -/
def raysFlippedSpec : ChangeSpec := { name := "raysFlipped", fn := fun _ => fun
  | [d1, d2, d3] => { results := [.lit (.bool true)], args := [d1, d2, d3] }
  | _ => none }
def raysFlippedRow : OpenClaim := { program := "ytloncbjkipjepaa", sum := "867578559dc09c233e90acc6efd579a1e55e5af6118758ee01aaf4fbcc9c59a1", func := "kibitzer/kibitzerlaw03.RaysFlipped", spec := "raysFlipped", unfollowed := true, recurses := true, apart := false }
def RaysFlippedSaid : Prop := raysFlippedRow.holds Try.pinned (OpenSpec.ofChange raysFlippedSpec)

/-- ITS FALSE NEIGHBOUR: 'it returns false'. Refute it at one input. -/
def raysFlippedWrong : ChangeSpec := { name := "raysFlipped", fn := fun _ => fun
  | [d1, d2, d3] => { results := [.lit (.bool false)], args := [d1, d2, d3] }
  | _ => none }
def RaysFlippedWrongFalsely : Prop := raysFlippedRow.holds Try.pinned (OpenSpec.ofChange raysFlippedWrong)

/- THE SECOND FORM. 'bulk': how many values and letters a reading holds, each counted each time it is reached (what is shared counts as often as it is met; a slice's spare places count too). A statement '..UptoSaid' is the law's where the arguments, and the package variables that the reading takes, are together of bulk at most 1048576: NARROWER than '..Said'. Prove '..Said' where nothing that the law and all that it calls make is longer than what came in: it says more and counts as full. Else prove '..UptoSaid'. A law counts once. -/
mutual
def uptoBulk {H : Type} : DataW H → Nat
  | .lit (.string bytes) => bytes.length + 1
  | .lit _ => 1
  | .nil => 1
  | .ptr d => uptoBulk d + 1
  | .slice elems spare => uptoBulkAll elems + uptoBulkAll spare + 1
  | .agg parts => uptoBulkAll parts + 1
  | .iface _ d => uptoBulk d + 1
  | .map entries => uptoBulkEntries entries + 1
  | .held _ => 1
def uptoBulkAll {H : Type} : List (DataW H) → Nat
  | [] => 0
  | d :: r => uptoBulk d + uptoBulkAll r
def uptoBulkEntries {H : Type} : List (Lit × DataW H) → Nat
  | [] => 0
  | x :: r => uptoBulkEntry x + uptoBulkEntries r
def uptoBulkEntry {H : Type} : Lit × DataW H → Nat
  | (.string bytes, d) => bytes.length + uptoBulk d + 1
  | (_, d) => uptoBulk d + 1
 end
def uptoSmall : (H : Type) → List (DataW H) → Bool := fun _ ds => decide (uptoBulkAll ds ≤ 1048576)
def OpenSpec.upto (s : _root_.Go.ChangeSpec) : _root_.Go.OpenSpec := { _root_.Go.OpenSpec.ofChange s with cond := some uptoSmall }

/-- 'kibitzerlaw03.RaysRays', WHERE WHAT IT READS IS OF BULK AT MOST 1048576: true; the input reads as it did. -/
def raysRaysUptoRow : OpenClaim := { program := "ytloncbjkipjepaa", sum := "867578559dc09c233e90acc6efd579a1e55e5af6118758ee01aaf4fbcc9c59a1", func := "kibitzer/kibitzerlaw03.RaysRays", spec := "raysRays", apart := false, narrowed := true }
def RaysRaysUptoSaid : Prop := raysRaysUptoRow.holds Try.pinned (OpenSpec.upto raysRaysSpec)

/-- 'kibitzerlaw03.RaysSteps', WHERE WHAT IT READS IS OF BULK AT MOST 1048576: true; the input reads as it did. -/
def raysStepsUptoRow : OpenClaim := { program := "ytloncbjkipjepaa", sum := "867578559dc09c233e90acc6efd579a1e55e5af6118758ee01aaf4fbcc9c59a1", func := "kibitzer/kibitzerlaw03.RaysSteps", spec := "raysSteps", unfollowed := true, recurses := true, apart := false, narrowed := true }
def RaysStepsUptoSaid : Prop := raysStepsUptoRow.holds Try.pinned (OpenSpec.upto raysStepsSpec)

/-- 'kibitzerlaw03.RaysLines', WHERE WHAT IT READS IS OF BULK AT MOST 1048576: true; the input reads as it did. -/
def raysLinesUptoRow : OpenClaim := { program := "ytloncbjkipjepaa", sum := "867578559dc09c233e90acc6efd579a1e55e5af6118758ee01aaf4fbcc9c59a1", func := "kibitzer/kibitzerlaw03.RaysLines", spec := "raysLines", apart := false, narrowed := true }
def RaysLinesUptoSaid : Prop := raysLinesUptoRow.holds Try.pinned (OpenSpec.upto raysLinesSpec)

/-- 'kibitzerlaw03.RaysTurned', WHERE WHAT IT READS IS OF BULK AT MOST 1048576: true; the input reads as it did. -/
def raysTurnedUptoRow : OpenClaim := { program := "ytloncbjkipjepaa", sum := "867578559dc09c233e90acc6efd579a1e55e5af6118758ee01aaf4fbcc9c59a1", func := "kibitzer/kibitzerlaw03.RaysTurned", spec := "raysTurned", unfollowed := true, recurses := true, apart := false, narrowed := true }
def RaysTurnedUptoSaid : Prop := raysTurnedUptoRow.holds Try.pinned (OpenSpec.upto raysTurnedSpec)

/-- 'kibitzerlaw03.RaysParts', WHERE WHAT IT READS IS OF BULK AT MOST 1048576: true; the input reads as it did. -/
def raysPartsUptoRow : OpenClaim := { program := "ytloncbjkipjepaa", sum := "867578559dc09c233e90acc6efd579a1e55e5af6118758ee01aaf4fbcc9c59a1", func := "kibitzer/kibitzerlaw03.RaysParts", spec := "raysParts", unfollowed := true, recurses := true, apart := false, narrowed := true }
def RaysPartsUptoSaid : Prop := raysPartsUptoRow.holds Try.pinned (OpenSpec.upto raysPartsSpec)

/-- 'kibitzerlaw03.RaysNone', WHERE WHAT IT READS IS OF BULK AT MOST 1048576: true; the input reads as it did. -/
def raysNoneUptoRow : OpenClaim := { program := "ytloncbjkipjepaa", sum := "867578559dc09c233e90acc6efd579a1e55e5af6118758ee01aaf4fbcc9c59a1", func := "kibitzer/kibitzerlaw03.RaysNone", spec := "raysNone", unfollowed := true, recurses := true, apart := false, narrowed := true }
def RaysNoneUptoSaid : Prop := raysNoneUptoRow.holds Try.pinned (OpenSpec.upto raysNoneSpec)

/-- 'kibitzerlaw03.RaysOneLine', WHERE WHAT IT READS IS OF BULK AT MOST 1048576: true; the input reads as it did. -/
def raysOneLineUptoRow : OpenClaim := { program := "ytloncbjkipjepaa", sum := "867578559dc09c233e90acc6efd579a1e55e5af6118758ee01aaf4fbcc9c59a1", func := "kibitzer/kibitzerlaw03.RaysOneLine", spec := "raysOneLine", unfollowed := true, recurses := true, apart := false, narrowed := true }
def RaysOneLineUptoSaid : Prop := raysOneLineUptoRow.holds Try.pinned (OpenSpec.upto raysOneLineSpec)

/-- 'kibitzerlaw03.RaysFlipped', WHERE WHAT IT READS IS OF BULK AT MOST 1048576: true; the input reads as it did. -/
def raysFlippedUptoRow : OpenClaim := { program := "ytloncbjkipjepaa", sum := "867578559dc09c233e90acc6efd579a1e55e5af6118758ee01aaf4fbcc9c59a1", func := "kibitzer/kibitzerlaw03.RaysFlipped", spec := "raysFlipped", unfollowed := true, recurses := true, apart := false, narrowed := true }
def RaysFlippedUptoSaid : Prop := raysFlippedUptoRow.holds Try.pinned (OpenSpec.upto raysFlippedSpec)

end Rows
end Go.Proofs.Ytloncbjkipjepaa
