/-
  No cell of these rows narrows 'for every input' (looked for: loops, veiled, ifaces, maps, wideKeys, modest, calm, conditions, laid).
  DERIVED. THE GIVEN ROWS OF THIS SEAT. 6 by the template 'for every input the law returns true; each argument reads behind the call as it read before'; 0 by the template 'total and deterministic' (their statements: YtpheapolijhgjaaTotals.lean).
  GIVEN WITH THE SEED: the statements are not yours to turn. If you find one false, say at which input.
  Laid BY PROGRAM, IN A SANDBOX (cutbox-rows.mjs): the forced cells as the released guide's own fill.sh prints them over the translation 23e877b47a60b519… (all of the seat's roots in one cut). By AI agents, Wed Nov 11 2026. No macro, syntax, notation, axiom, sorry.
-/
import Derived.Test.YtpheapolijhgjaaChecked
import GoSem.Claim
import GoSem.ClaimJoined
import GoSem.ClaimMapViews
import Derived.JoinedTies
import Derived.KernelRfl
namespace Go.Proofs.Ytpheapolijhgjaa
/- THE CELL 'sum', in the pinned program and in every row, IS THE sha256 OF THE DUMP (.gsa) THAT YtpheapolijhgjaaProg.lean LOADS. Nothing in Lean hashes anything: it is a label: what it is worth is what the hold of that sum in a sandbox is worth. -/
noncomputable def Try.pinned : Pinned := { name := "ytpheapolijhgjaa", sum := "23e877b47a60b519095c778e1a1369e303082f37f3b2c71bcaf296aabfb653b4", checked := Try.checked }
namespace Rows
def none {H : Type} : Left H := { results := [], args := [] }

/-- 'kibitzerlaw07.RulesHave': WHATEVER THE INPUT: true; the input reads as it did. -/
def rulesHaveSpec : ChangeSpec := { name := "rulesHave", fn := fun _ => fun
  | [d1, d2] => { results := [.lit (.bool true)], args := [d1, d2] }
  | _ => none }
def rulesHaveRow : OpenClaim := { program := "ytpheapolijhgjaa", sum := "23e877b47a60b519095c778e1a1369e303082f37f3b2c71bcaf296aabfb653b4", func := "kibitzer/kibitzerlaw07.RulesHave", spec := "rulesHave", apart := false }
def RulesHaveSaid : Prop := rulesHaveRow.holds Try.pinned (OpenSpec.ofChange rulesHaveSpec)

/-- ITS FALSE NEIGHBOUR: 'it returns false'. Refute it at one input. -/
def rulesHaveWrong : ChangeSpec := { name := "rulesHave", fn := fun _ => fun
  | [d1, d2] => { results := [.lit (.bool false)], args := [d1, d2] }
  | _ => none }
def RulesHaveWrongFalsely : Prop := rulesHaveRow.holds Try.pinned (OpenSpec.ofChange rulesHaveWrong)

/-- 'kibitzerlaw07.RulesNames': WHATEVER THE INPUT: true; the input reads as it did. -/
def rulesNamesSpec : ChangeSpec := { name := "rulesNames", fn := fun _ => fun
  | [d1, d2, d3] => { results := [.lit (.bool true)], args := [d1, d2, d3] }
  | _ => none }
def rulesNamesRow : OpenClaim := { program := "ytpheapolijhgjaa", sum := "23e877b47a60b519095c778e1a1369e303082f37f3b2c71bcaf296aabfb653b4", func := "kibitzer/kibitzerlaw07.RulesNames", spec := "rulesNames", apart := false }
def RulesNamesSaid : Prop := rulesNamesRow.holds Try.pinned (OpenSpec.ofChange rulesNamesSpec)

/-- ITS FALSE NEIGHBOUR: 'it returns false'. Refute it at one input. -/
def rulesNamesWrong : ChangeSpec := { name := "rulesNames", fn := fun _ => fun
  | [d1, d2, d3] => { results := [.lit (.bool false)], args := [d1, d2, d3] }
  | _ => none }
def RulesNamesWrongFalsely : Prop := rulesNamesRow.holds Try.pinned (OpenSpec.ofChange rulesNamesWrong)

/-- 'kibitzerlaw07.RulesRoundTrip': WHATEVER THE INPUT: true; the input reads as it did. -/
def rulesRoundTripSpec : ChangeSpec := { name := "rulesRoundTrip", fn := fun _ => fun
  | [d1, d2] => { results := [.lit (.bool true)], args := [d1, d2] }
  | _ => none }
def rulesRoundTripRow : OpenClaim := { program := "ytpheapolijhgjaa", sum := "23e877b47a60b519095c778e1a1369e303082f37f3b2c71bcaf296aabfb653b4", func := "kibitzer/kibitzerlaw07.RulesRoundTrip", spec := "rulesRoundTrip", apart := false }
def RulesRoundTripSaid : Prop := rulesRoundTripRow.holds Try.pinned (OpenSpec.ofChange rulesRoundTripSpec)

/-- ITS FALSE NEIGHBOUR: 'it returns false'. Refute it at one input. -/
def rulesRoundTripWrong : ChangeSpec := { name := "rulesRoundTrip", fn := fun _ => fun
  | [d1, d2] => { results := [.lit (.bool false)], args := [d1, d2] }
  | _ => none }
def RulesRoundTripWrongFalsely : Prop := rulesRoundTripRow.holds Try.pinned (OpenSpec.ofChange rulesRoundTripWrong)

/-- 'kibitzerlaw07.RulesStart': WHATEVER THE INPUT: true; the input reads as it did. -/
def rulesStartSpec : ChangeSpec := { name := "rulesStart", fn := fun _ => fun
  | [d1, d2] => { results := [.lit (.bool true)], args := [d1, d2] }
  | _ => none }
def rulesStartRow : OpenClaim := { program := "ytpheapolijhgjaa", sum := "23e877b47a60b519095c778e1a1369e303082f37f3b2c71bcaf296aabfb653b4", func := "kibitzer/kibitzerlaw07.RulesStart", spec := "rulesStart", apart := false }
def RulesStartSaid : Prop := rulesStartRow.holds Try.pinned (OpenSpec.ofChange rulesStartSpec)

/-- ITS FALSE NEIGHBOUR: 'it returns false'. Refute it at one input. -/
def rulesStartWrong : ChangeSpec := { name := "rulesStart", fn := fun _ => fun
  | [d1, d2] => { results := [.lit (.bool false)], args := [d1, d2] }
  | _ => none }
def RulesStartWrongFalsely : Prop := rulesStartRow.holds Try.pinned (OpenSpec.ofChange rulesStartWrong)

/-- 'kibitzerlaw07.Rules960': WHATEVER THE INPUT: true; the input reads as it did. -/
def rules960Spec : ChangeSpec := { name := "rules960", fn := fun _ => fun
  | [d1, d2] => { results := [.lit (.bool true)], args := [d1, d2] }
  | _ => none }
def rules960Row : OpenClaim := { program := "ytpheapolijhgjaa", sum := "23e877b47a60b519095c778e1a1369e303082f37f3b2c71bcaf296aabfb653b4", func := "kibitzer/kibitzerlaw07.Rules960", spec := "rules960", apart := false }
def Rules960Said : Prop := rules960Row.holds Try.pinned (OpenSpec.ofChange rules960Spec)

/-- ITS FALSE NEIGHBOUR: 'it returns false'. Refute it at one input. -/
def rules960Wrong : ChangeSpec := { name := "rules960", fn := fun _ => fun
  | [d1, d2] => { results := [.lit (.bool false)], args := [d1, d2] }
  | _ => none }
def Rules960WrongFalsely : Prop := rules960Row.holds Try.pinned (OpenSpec.ofChange rules960Wrong)

/-- 'kibitzerlaw07.RulesCounts': WHATEVER THE INPUT: true; the input reads as it did. -/
def rulesCountsSpec : ChangeSpec := { name := "rulesCounts", fn := fun _ => fun
  | [d] => { results := [.lit (.bool true)], args := [d] }
  | _ => none }
def rulesCountsRow : OpenClaim := { program := "ytpheapolijhgjaa", sum := "23e877b47a60b519095c778e1a1369e303082f37f3b2c71bcaf296aabfb653b4", func := "kibitzer/kibitzerlaw07.RulesCounts", spec := "rulesCounts", apart := false }
def RulesCountsSaid : Prop := rulesCountsRow.holds Try.pinned (OpenSpec.ofChange rulesCountsSpec)

/-- ITS FALSE NEIGHBOUR: 'it returns false'. Refute it at one input. -/
def rulesCountsWrong : ChangeSpec := { name := "rulesCounts", fn := fun _ => fun
  | [d] => { results := [.lit (.bool false)], args := [d] }
  | _ => none }
def RulesCountsWrongFalsely : Prop := rulesCountsRow.holds Try.pinned (OpenSpec.ofChange rulesCountsWrong)

/- THE SECOND FORM. 'bulk': how many values and letters a reading holds, each counted each time it is reached (what is shared counts as often as it is met; a slice's spare places count too). A statement '..UptoSaid' is the law's where the arguments, and the package variables that the reading takes, are together of bulk at most 1048576: NARROWER than '..Said'. Prove '..Said' where nothing that the law and all that it calls make is longer than what came in: it says more and counts as full. Else prove '..UptoSaid'. A law counts once. -/
mutual
def uptoBulk {H : Type} : DataW H → Nat
  | .lit (.string bytes) => bytes.length + 1
  | .lit _ => 1
  | .nil => 1
  | .ptr d => uptoBulk d + 1
  | .slice elems spare => uptoBulkAll elems + uptoBulkAll spare + 1
  | .agg parts => uptoBulkAll parts + 1
  | .iface _ d => uptoBulk d + 1
  | .map entries => uptoBulkEntries entries + 1
  | .held _ => 1
def uptoBulkAll {H : Type} : List (DataW H) → Nat
  | [] => 0
  | d :: r => uptoBulk d + uptoBulkAll r
def uptoBulkEntries {H : Type} : List (Lit × DataW H) → Nat
  | [] => 0
  | x :: r => uptoBulkEntry x + uptoBulkEntries r
def uptoBulkEntry {H : Type} : Lit × DataW H → Nat
  | (.string bytes, d) => bytes.length + uptoBulk d + 1
  | (_, d) => uptoBulk d + 1
 end
def uptoSmall : (H : Type) → List (DataW H) → Bool := fun _ ds => decide (uptoBulkAll ds ≤ 1048576)
def OpenSpec.upto (s : _root_.Go.ChangeSpec) : _root_.Go.OpenSpec := { _root_.Go.OpenSpec.ofChange s with cond := some uptoSmall }

/-- 'kibitzerlaw07.RulesHave', WHERE WHAT IT READS IS OF BULK AT MOST 1048576: true; the input reads as it did. -/
def rulesHaveUptoRow : OpenClaim := { program := "ytpheapolijhgjaa", sum := "23e877b47a60b519095c778e1a1369e303082f37f3b2c71bcaf296aabfb653b4", func := "kibitzer/kibitzerlaw07.RulesHave", spec := "rulesHave", apart := false, narrowed := true }
def RulesHaveUptoSaid : Prop := rulesHaveUptoRow.holds Try.pinned (OpenSpec.upto rulesHaveSpec)

/-- 'kibitzerlaw07.RulesNames', WHERE WHAT IT READS IS OF BULK AT MOST 1048576: true; the input reads as it did. -/
def rulesNamesUptoRow : OpenClaim := { program := "ytpheapolijhgjaa", sum := "23e877b47a60b519095c778e1a1369e303082f37f3b2c71bcaf296aabfb653b4", func := "kibitzer/kibitzerlaw07.RulesNames", spec := "rulesNames", apart := false, narrowed := true }
def RulesNamesUptoSaid : Prop := rulesNamesUptoRow.holds Try.pinned (OpenSpec.upto rulesNamesSpec)

/-- 'kibitzerlaw07.RulesRoundTrip', WHERE WHAT IT READS IS OF BULK AT MOST 1048576: true; the input reads as it did. -/
def rulesRoundTripUptoRow : OpenClaim := { program := "ytpheapolijhgjaa", sum := "23e877b47a60b519095c778e1a1369e303082f37f3b2c71bcaf296aabfb653b4", func := "kibitzer/kibitzerlaw07.RulesRoundTrip", spec := "rulesRoundTrip", apart := false, narrowed := true }
def RulesRoundTripUptoSaid : Prop := rulesRoundTripUptoRow.holds Try.pinned (OpenSpec.upto rulesRoundTripSpec)

/-- 'kibitzerlaw07.RulesStart', WHERE WHAT IT READS IS OF BULK AT MOST 1048576: true; the input reads as it did. -/
def rulesStartUptoRow : OpenClaim := { program := "ytpheapolijhgjaa", sum := "23e877b47a60b519095c778e1a1369e303082f37f3b2c71bcaf296aabfb653b4", func := "kibitzer/kibitzerlaw07.RulesStart", spec := "rulesStart", apart := false, narrowed := true }
def RulesStartUptoSaid : Prop := rulesStartUptoRow.holds Try.pinned (OpenSpec.upto rulesStartSpec)

/-- 'kibitzerlaw07.Rules960', WHERE WHAT IT READS IS OF BULK AT MOST 1048576: true; the input reads as it did. -/
def rules960UptoRow : OpenClaim := { program := "ytpheapolijhgjaa", sum := "23e877b47a60b519095c778e1a1369e303082f37f3b2c71bcaf296aabfb653b4", func := "kibitzer/kibitzerlaw07.Rules960", spec := "rules960", apart := false, narrowed := true }
def Rules960UptoSaid : Prop := rules960UptoRow.holds Try.pinned (OpenSpec.upto rules960Spec)

/-- 'kibitzerlaw07.RulesCounts', WHERE WHAT IT READS IS OF BULK AT MOST 1048576: true; the input reads as it did. -/
def rulesCountsUptoRow : OpenClaim := { program := "ytpheapolijhgjaa", sum := "23e877b47a60b519095c778e1a1369e303082f37f3b2c71bcaf296aabfb653b4", func := "kibitzer/kibitzerlaw07.RulesCounts", spec := "rulesCounts", apart := false, narrowed := true }
def RulesCountsUptoSaid : Prop := rulesCountsUptoRow.holds Try.pinned (OpenSpec.upto rulesCountsSpec)

end Rows
end Go.Proofs.Ytpheapolijhgjaa
