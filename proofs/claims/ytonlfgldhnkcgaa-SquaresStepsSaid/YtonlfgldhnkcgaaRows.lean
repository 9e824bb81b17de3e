/-
  No cell of these rows narrows 'for every input' (looked for: loops, veiled, ifaces, maps, wideKeys, modest, calm, conditions, laid).
  DERIVED. THE GIVEN ROWS OF THIS SEAT. 7 by the template 'for every input the law returns true; each argument reads behind the call as it read before'; 0 by the template 'total and deterministic' (their statements: YtonlfgldhnkcgaaTotals.lean).
  GIVEN WITH THE SEED: the statements are not yours to turn. If you find one false, say at which input.
  Laid BY PROGRAM, IN A SANDBOX (cutbox-rows.mjs): the forced cells as the released guide's own fill.sh prints them over the translation cbe123800f77c60f… (all of the seat's roots in one cut). By AI agents, Wed Nov 11 2026. No macro, syntax, notation, axiom, sorry.
-/
import Derived.Test.YtonlfgldhnkcgaaChecked
import GoSem.Claim
import GoSem.ClaimJoined
import GoSem.ClaimMapViews
import Derived.JoinedTies
import Derived.KernelRfl
namespace Go.Proofs.Ytonlfgldhnkcgaa
/- THE CELL 'sum', in the pinned program and in every row, IS THE sha256 OF THE DUMP (.gsa) THAT YtonlfgldhnkcgaaProg.lean LOADS. Nothing in Lean hashes anything: it is a label: what it is worth is what the hold of that sum in a sandbox is worth. -/
noncomputable def Try.pinned : Pinned := { name := "ytonlfgldhnkcgaa", sum := "cbe123800f77c60fd85eef3ef70c0d863d86286127e623454da48aaaa993448c", checked := Try.checked }
namespace Rows
def none {H : Type} : Left H := { results := [], args := [] }

/-- 'kibitzerlaw02.SquaresFiles': WHATEVER THE INPUT: true; the input reads as it did. -/
def squaresFilesSpec : ChangeSpec := { name := "squaresFiles", fn := fun _ => fun
  | [d1, d2, d3] => { results := [.lit (.bool true)], args := [d1, d2, d3] }
  | _ => none }
def squaresFilesRow : OpenClaim := { program := "ytonlfgldhnkcgaa", sum := "cbe123800f77c60fd85eef3ef70c0d863d86286127e623454da48aaaa993448c", func := "kibitzer/kibitzerlaw02.SquaresFiles", spec := "squaresFiles", apart := false }
def SquaresFilesSaid : Prop := squaresFilesRow.holds Try.pinned (OpenSpec.ofChange squaresFilesSpec)

/-- ITS FALSE NEIGHBOUR: 'it returns false'. Refute it at one input. -/
def squaresFilesWrong : ChangeSpec := { name := "squaresFiles", fn := fun _ => fun
  | [d1, d2, d3] => { results := [.lit (.bool false)], args := [d1, d2, d3] }
  | _ => none }
def SquaresFilesWrongFalsely : Prop := squaresFilesRow.holds Try.pinned (OpenSpec.ofChange squaresFilesWrong)

/-- 'kibitzerlaw02.SquaresApart': WHATEVER THE INPUT: true; the input reads as it did. -/
def squaresApartSpec : ChangeSpec := { name := "squaresApart", fn := fun _ => fun
  | [d1, d2] => { results := [.lit (.bool true)], args := [d1, d2] }
  | _ => none }
def squaresApartRow : OpenClaim := { program := "ytonlfgldhnkcgaa", sum := "cbe123800f77c60fd85eef3ef70c0d863d86286127e623454da48aaaa993448c", func := "kibitzer/kibitzerlaw02.SquaresApart", spec := "squaresApart", apart := false }
def SquaresApartSaid : Prop := squaresApartRow.holds Try.pinned (OpenSpec.ofChange squaresApartSpec)

/-- ITS FALSE NEIGHBOUR: 'it returns false'. Refute it at one input. -/
def squaresApartWrong : ChangeSpec := { name := "squaresApart", fn := fun _ => fun
  | [d1, d2] => { results := [.lit (.bool false)], args := [d1, d2] }
  | _ => none }
def SquaresApartWrongFalsely : Prop := squaresApartRow.holds Try.pinned (OpenSpec.ofChange squaresApartWrong)

/-- 'kibitzerlaw02.SquaresTexts': WHATEVER THE INPUT: true; the input reads as it did. -/
def squaresTextsSpec : ChangeSpec := { name := "squaresTexts", fn := fun _ => fun
  | [d1, d2] => { results := [.lit (.bool true)], args := [d1, d2] }
  | _ => none }
def squaresTextsRow : OpenClaim := { program := "ytonlfgldhnkcgaa", sum := "cbe123800f77c60fd85eef3ef70c0d863d86286127e623454da48aaaa993448c", func := "kibitzer/kibitzerlaw02.SquaresTexts", spec := "squaresTexts", apart := false }
def SquaresTextsSaid : Prop := squaresTextsRow.holds Try.pinned (OpenSpec.ofChange squaresTextsSpec)

/-- ITS FALSE NEIGHBOUR: 'it returns false'. Refute it at one input. -/
def squaresTextsWrong : ChangeSpec := { name := "squaresTexts", fn := fun _ => fun
  | [d1, d2] => { results := [.lit (.bool false)], args := [d1, d2] }
  | _ => none }
def SquaresTextsWrongFalsely : Prop := squaresTextsRow.holds Try.pinned (OpenSpec.ofChange squaresTextsWrong)

/-- 'kibitzerlaw02.SquaresBack': WHATEVER THE INPUT: true; the input reads as it did. -/
def squaresBackSpec : ChangeSpec := { name := "squaresBack", fn := fun _ => fun
  | [d] => { results := [.lit (.bool true)], args := [d] }
  | _ => none }
def squaresBackRow : OpenClaim := { program := "ytonlfgldhnkcgaa", sum := "cbe123800f77c60fd85eef3ef70c0d863d86286127e623454da48aaaa993448c", func := "kibitzer/kibitzerlaw02.SquaresBack", spec := "squaresBack", apart := false }
def SquaresBackSaid : Prop := squaresBackRow.holds Try.pinned (OpenSpec.ofChange squaresBackSpec)

/-- ITS FALSE NEIGHBOUR: 'it returns false'. Refute it at one input. -/
def squaresBackWrong : ChangeSpec := { name := "squaresBack", fn := fun _ => fun
  | [d] => { results := [.lit (.bool false)], args := [d] }
  | _ => none }
def SquaresBackWrongFalsely : Prop := squaresBackRow.holds Try.pinned (OpenSpec.ofChange squaresBackWrong)

/-- 'kibitzerlaw02.SquaresRead': WHATEVER THE INPUT: true; the input reads as it did. -/
def squaresReadSpec : ChangeSpec := { name := "squaresRead", fn := fun _ => fun
  | [d1, d2, d3] => { results := [.lit (.bool true)], args := [d1, d2, d3] }
  | _ => none }
def squaresReadRow : OpenClaim := { program := "ytonlfgldhnkcgaa", sum := "cbe123800f77c60fd85eef3ef70c0d863d86286127e623454da48aaaa993448c", func := "kibitzer/kibitzerlaw02.SquaresRead", spec := "squaresRead", apart := false }
def SquaresReadSaid : Prop := squaresReadRow.holds Try.pinned (OpenSpec.ofChange squaresReadSpec)

/-- ITS FALSE NEIGHBOUR: 'it returns false'. Refute it at one input. -/
def squaresReadWrong : ChangeSpec := { name := "squaresRead", fn := fun _ => fun
  | [d1, d2, d3] => { results := [.lit (.bool false)], args := [d1, d2, d3] }
  | _ => none }
def SquaresReadWrongFalsely : Prop := squaresReadRow.holds Try.pinned (OpenSpec.ofChange squaresReadWrong)

/-- 'kibitzerlaw02.SquaresWay': WHATEVER THE INPUT: true; the input reads as it did. -/
def squaresWaySpec : ChangeSpec := { name := "squaresWay", fn := fun _ => fun
  | [d1, d2, d3] => { results := [.lit (.bool true)], args := [d1, d2, d3] }
  | _ => none }
def squaresWayRow : OpenClaim := { program := "ytonlfgldhnkcgaa", sum := "cbe123800f77c60fd85eef3ef70c0d863d86286127e623454da48aaaa993448c", func := "kibitzer/kibitzerlaw02.SquaresWay", spec := "squaresWay", apart := false }
def SquaresWaySaid : Prop := squaresWayRow.holds Try.pinned (OpenSpec.ofChange squaresWaySpec)

/-- ITS FALSE NEIGHBOUR: 'it returns false'. Refute it at one input. -/
def squaresWayWrong : ChangeSpec := { name := "squaresWay", fn := fun _ => fun
  | [d1, d2, d3] => { results := [.lit (.bool false)], args := [d1, d2, d3] }
  | _ => none }
def SquaresWayWrongFalsely : Prop := squaresWayRow.holds Try.pinned (OpenSpec.ofChange squaresWayWrong)

/-- 'kibitzerlaw02.SquaresSteps': WHATEVER THE INPUT: true; the input reads as it did. -/
def squaresStepsSpec : ChangeSpec := { name := "squaresSteps", fn := fun _ => fun
  | [d1, d2, d3] => { results := [.lit (.bool true)], args := [d1, d2, d3] }
  | _ => none }
def squaresStepsRow : OpenClaim := { program := "ytonlfgldhnkcgaa", sum := "cbe123800f77c60fd85eef3ef70c0d863d86286127e623454da48aaaa993448c", func := "kibitzer/kibitzerlaw02.SquaresSteps", spec := "squaresSteps", apart := false }
def SquaresStepsSaid : Prop := squaresStepsRow.holds Try.pinned (OpenSpec.ofChange squaresStepsSpec)

/-- ITS FALSE NEIGHBOUR: 'it returns false'. Refute it at one input. -/
def squaresStepsWrong : ChangeSpec := { name := "squaresSteps", fn := fun _ => fun
  | [d1, d2, d3] => { results := [.lit (.bool false)], args := [d1, d2, d3] }
  | _ => none }
def SquaresStepsWrongFalsely : Prop := squaresStepsRow.holds Try.pinned (OpenSpec.ofChange squaresStepsWrong)

/- THE SECOND FORM. 'bulk': how many values and letters a reading holds, each counted each time it is reached (what is shared counts as often as it is met; a slice's spare places count too). A statement '..UptoSaid' is the law's where the arguments, and the package variables that the reading takes, are together of bulk at most 1048576: NARROWER than '..Said'. Prove '..Said' where nothing that the law and all that it calls make is longer than what came in: it says more and counts as full. Else prove '..UptoSaid'. A law counts once. -/
mutual
def uptoBulk {H : Type} : DataW H → Nat
  | .lit (.string bytes) => bytes.length + 1
  | .lit _ => 1
  | .nil => 1
  | .ptr d => uptoBulk d + 1
  | .slice elems spare => uptoBulkAll elems + uptoBulkAll spare + 1
  | .agg parts => uptoBulkAll parts + 1
  | .iface _ d => uptoBulk d + 1
  | .map entries => uptoBulkEntries entries + 1
  | .held _ => 1
def uptoBulkAll {H : Type} : List (DataW H) → Nat
  | [] => 0
  | d :: r => uptoBulk d + uptoBulkAll r
def uptoBulkEntries {H : Type} : List (Lit × DataW H) → Nat
  | [] => 0
  | x :: r => uptoBulkEntry x + uptoBulkEntries r
def uptoBulkEntry {H : Type} : Lit × DataW H → Nat
  | (.string bytes, d) => bytes.length + uptoBulk d + 1
  | (_, d) => uptoBulk d + 1
 end
def uptoSmall : (H : Type) → List (DataW H) → Bool := fun _ ds => decide (uptoBulkAll ds ≤ 1048576)
def OpenSpec.upto (s : _root_.Go.ChangeSpec) : _root_.Go.OpenSpec := { _root_.Go.OpenSpec.ofChange s with cond := some uptoSmall }

/-- 'kibitzerlaw02.SquaresFiles', WHERE WHAT IT READS IS OF BULK AT MOST 1048576: true; the input reads as it did. -/
def squaresFilesUptoRow : OpenClaim := { program := "ytonlfgldhnkcgaa", sum := "cbe123800f77c60fd85eef3ef70c0d863d86286127e623454da48aaaa993448c", func := "kibitzer/kibitzerlaw02.SquaresFiles", spec := "squaresFiles", apart := false, narrowed := true }
def SquaresFilesUptoSaid : Prop := squaresFilesUptoRow.holds Try.pinned (OpenSpec.upto squaresFilesSpec)

/-- 'kibitzerlaw02.SquaresApart', WHERE WHAT IT READS IS OF BULK AT MOST 1048576: true; the input reads as it did. -/
def squaresApartUptoRow : OpenClaim := { program := "ytonlfgldhnkcgaa", sum := "cbe123800f77c60fd85eef3ef70c0d863d86286127e623454da48aaaa993448c", func := "kibitzer/kibitzerlaw02.SquaresApart", spec := "squaresApart", apart := false, narrowed := true }
def SquaresApartUptoSaid : Prop := squaresApartUptoRow.holds Try.pinned (OpenSpec.upto squaresApartSpec)

/-- 'kibitzerlaw02.SquaresTexts', WHERE WHAT IT READS IS OF BULK AT MOST 1048576: true; the input reads as it did. -/
def squaresTextsUptoRow : OpenClaim := { program := "ytonlfgldhnkcgaa", sum := "cbe123800f77c60fd85eef3ef70c0d863d86286127e623454da48aaaa993448c", func := "kibitzer/kibitzerlaw02.SquaresTexts", spec := "squaresTexts", apart := false, narrowed := true }
def SquaresTextsUptoSaid : Prop := squaresTextsUptoRow.holds Try.pinned (OpenSpec.upto squaresTextsSpec)

/-- 'kibitzerlaw02.SquaresBack', WHERE WHAT IT READS IS OF BULK AT MOST 1048576: true; the input reads as it did. -/
def squaresBackUptoRow : OpenClaim := { program := "ytonlfgldhnkcgaa", sum := "cbe123800f77c60fd85eef3ef70c0d863d86286127e623454da48aaaa993448c", func := "kibitzer/kibitzerlaw02.SquaresBack", spec := "squaresBack", apart := false, narrowed := true }
def SquaresBackUptoSaid : Prop := squaresBackUptoRow.holds Try.pinned (OpenSpec.upto squaresBackSpec)

/-- 'kibitzerlaw02.SquaresRead', WHERE WHAT IT READS IS OF BULK AT MOST 1048576: true; the input reads as it did. -/
def squaresReadUptoRow : OpenClaim := { program := "ytonlfgldhnkcgaa", sum := "cbe123800f77c60fd85eef3ef70c0d863d86286127e623454da48aaaa993448c", func := "kibitzer/kibitzerlaw02.SquaresRead", spec := "squaresRead", apart := false, narrowed := true }
def SquaresReadUptoSaid : Prop := squaresReadUptoRow.holds Try.pinned (OpenSpec.upto squaresReadSpec)

/-- 'kibitzerlaw02.SquaresWay', WHERE WHAT IT READS IS OF BULK AT MOST 1048576: true; the input reads as it did. -/
def squaresWayUptoRow : OpenClaim := { program := "ytonlfgldhnkcgaa", sum := "cbe123800f77c60fd85eef3ef70c0d863d86286127e623454da48aaaa993448c", func := "kibitzer/kibitzerlaw02.SquaresWay", spec := "squaresWay", apart := false, narrowed := true }
def SquaresWayUptoSaid : Prop := squaresWayUptoRow.holds Try.pinned (OpenSpec.upto squaresWaySpec)

/-- 'kibitzerlaw02.SquaresSteps', WHERE WHAT IT READS IS OF BULK AT MOST 1048576: true; the input reads as it did. -/
def squaresStepsUptoRow : OpenClaim := { program := "ytonlfgldhnkcgaa", sum := "cbe123800f77c60fd85eef3ef70c0d863d86286127e623454da48aaaa993448c", func := "kibitzer/kibitzerlaw02.SquaresSteps", spec := "squaresSteps", apart := false, narrowed := true }
def SquaresStepsUptoSaid : Prop := squaresStepsUptoRow.holds Try.pinned (OpenSpec.upto squaresStepsSpec)

end Rows
end Go.Proofs.Ytonlfgldhnkcgaa
