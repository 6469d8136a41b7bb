/-
  NARROWER THAN 'FOR EVERY INPUT', by the rows' own cells (each row's printed sentence says how): FnExactRelevantVars: loops · FnExactLabelGraph: loops · FnExactProjectState: loops · FnExactSliceSystem: loops · FnExactApplyStep: loops.
  DERIVED. THE GIVEN ROWS OF THIS SEAT. 8 by the template 'for every input the law returns true; each argument reads behind the call as it read before'; 0 by the template 'total and deterministic' (their statements: YthgimpheeemooaaTotals.lean).
  GIVEN WITH THE SEED: the statements are not yours to turn. If you find one false, say at which input.
  Laid BY PROGRAM, IN A SANDBOX (cutbox-rows.mjs): the forced cells as the released guide's own fill.sh prints them over the translation 9119102a245640c6… (all of the seat's roots in one cut). By AI agents, Wed Nov 11 2026. No macro, syntax, notation, axiom, sorry.
-/
import Derived.Test.YthgimpheeemooaaChecked
import GoSem.Claim
import GoSem.ClaimJoined
import GoSem.ClaimMapViews
import Derived.JoinedTies
import Derived.KernelRfl
namespace Go.Proofs.Ythgimpheeemooaa
/- THE CELL 'sum', in the pinned program and in every row, IS THE sha256 OF THE DUMP (.gsa) THAT YthgimpheeemooaaProg.lean LOADS. Nothing in Lean hashes anything: it is a label: what it is worth is what the hold of that sum in a sandbox is worth. -/
noncomputable def Try.pinned : Pinned := { name := "ythgimpheeemooaa", sum := "9119102a245640c6942dba07cb65e07b29560f24c4dc044bc1f08d3b0932cce0", checked := Try.checked }
namespace Rows
def none {H : Type} : Left H := { results := [], args := [] }

/-- 'laws.FnExactRelevantVars': WHATEVER THE INPUT: true; the input reads as it did. -/
def fnExactRelevantVarsSpec : ChangeSpec := { name := "fnExactRelevantVars", fn := fun _ => fun
  | [d1, d2] => { results := [.lit (.bool true)], args := [d1, d2] }
  | _ => none }
def fnExactRelevantVarsRow : OpenClaim := { program := "ythgimpheeemooaa", sum := "9119102a245640c6942dba07cb65e07b29560f24c4dc044bc1f08d3b0932cce0", func := "loop.example/ltlcheck/laws.FnExactRelevantVars", spec := "fnExactRelevantVars", unfollowed := true, recurses := true, loops := true, apart := false }
def FnExactRelevantVarsSaid : Prop := fnExactRelevantVarsRow.holds Try.pinned (OpenSpec.ofChange fnExactRelevantVarsSpec)

/-- ITS FALSE NEIGHBOUR: 'it returns false'. Refute it at one input. -/
def fnExactRelevantVarsWrong : ChangeSpec := { name := "fnExactRelevantVars", fn := fun _ => fun
  | [d1, d2] => { results := [.lit (.bool false)], args := [d1, d2] }
  | _ => none }
def FnExactRelevantVarsWrongFalsely : Prop := fnExactRelevantVarsRow.holds Try.pinned (OpenSpec.ofChange fnExactRelevantVarsWrong)

/-- 'laws.FnExactLabelGraph': WHATEVER THE INPUT: true; the input reads as it did. -/
def fnExactLabelGraphSpec : ChangeSpec := { name := "fnExactLabelGraph", fn := fun _ => fun
  | [d1, d2] => { results := [.lit (.bool true)], args := [d1, d2] }
  | _ => none }
def fnExactLabelGraphRow : OpenClaim := { program := "ythgimpheeemooaa", sum := "9119102a245640c6942dba07cb65e07b29560f24c4dc044bc1f08d3b0932cce0", func := "loop.example/ltlcheck/laws.FnExactLabelGraph", spec := "fnExactLabelGraph", unfollowed := true, recurses := true, loops := true, apart := false }
def FnExactLabelGraphSaid : Prop := fnExactLabelGraphRow.holds Try.pinned (OpenSpec.ofChange fnExactLabelGraphSpec)

/-- ITS FALSE NEIGHBOUR: 'it returns false'. Refute it at one input. -/
def fnExactLabelGraphWrong : ChangeSpec := { name := "fnExactLabelGraph", fn := fun _ => fun
  | [d1, d2] => { results := [.lit (.bool false)], args := [d1, d2] }
  | _ => none }
def FnExactLabelGraphWrongFalsely : Prop := fnExactLabelGraphRow.holds Try.pinned (OpenSpec.ofChange fnExactLabelGraphWrong)

/-- 'laws.FnExactProjectState': WHATEVER THE INPUT: true; the input reads as it did. -/
def fnExactProjectStateSpec : ChangeSpec := { name := "fnExactProjectState", fn := fun _ => fun
  | [d1, d2, d3] => { results := [.lit (.bool true)], args := [d1, d2, d3] }
  | _ => none }
def fnExactProjectStateRow : OpenClaim := { program := "ythgimpheeemooaa", sum := "9119102a245640c6942dba07cb65e07b29560f24c4dc044bc1f08d3b0932cce0", func := "loop.example/ltlcheck/laws.FnExactProjectState", spec := "fnExactProjectState", unfollowed := true, recurses := true, loops := true, apart := false }
def FnExactProjectStateSaid : Prop := fnExactProjectStateRow.holds Try.pinned (OpenSpec.ofChange fnExactProjectStateSpec)

/-- ITS FALSE NEIGHBOUR: 'it returns false'. Refute it at one input. -/
def fnExactProjectStateWrong : ChangeSpec := { name := "fnExactProjectState", fn := fun _ => fun
  | [d1, d2, d3] => { results := [.lit (.bool false)], args := [d1, d2, d3] }
  | _ => none }
def FnExactProjectStateWrongFalsely : Prop := fnExactProjectStateRow.holds Try.pinned (OpenSpec.ofChange fnExactProjectStateWrong)

/-- 'laws.FnExactSliceSystem': WHATEVER THE INPUT: true; the input reads as it did. -/
def fnExactSliceSystemSpec : ChangeSpec := { name := "fnExactSliceSystem", fn := fun _ => fun
  | [d1, d2] => { results := [.lit (.bool true)], args := [d1, d2] }
  | _ => none }
def fnExactSliceSystemRow : OpenClaim := { program := "ythgimpheeemooaa", sum := "9119102a245640c6942dba07cb65e07b29560f24c4dc044bc1f08d3b0932cce0", func := "loop.example/ltlcheck/laws.FnExactSliceSystem", spec := "fnExactSliceSystem", unfollowed := true, recurses := true, loops := true, apart := false }
def FnExactSliceSystemSaid : Prop := fnExactSliceSystemRow.holds Try.pinned (OpenSpec.ofChange fnExactSliceSystemSpec)

/-- ITS FALSE NEIGHBOUR: 'it returns false'. Refute it at one input. -/
def fnExactSliceSystemWrong : ChangeSpec := { name := "fnExactSliceSystem", fn := fun _ => fun
  | [d1, d2] => { results := [.lit (.bool false)], args := [d1, d2] }
  | _ => none }
def FnExactSliceSystemWrongFalsely : Prop := fnExactSliceSystemRow.holds Try.pinned (OpenSpec.ofChange fnExactSliceSystemWrong)

/-- 'laws.FnExactApplyStep': WHATEVER THE INPUT: true; the input reads as it did. -/
def fnExactApplyStepSpec : ChangeSpec := { name := "fnExactApplyStep", fn := fun _ => fun
  | [d1, d2, d3] => { results := [.lit (.bool true)], args := [d1, d2, d3] }
  | _ => none }
def fnExactApplyStepRow : OpenClaim := { program := "ythgimpheeemooaa", sum := "9119102a245640c6942dba07cb65e07b29560f24c4dc044bc1f08d3b0932cce0", func := "loop.example/ltlcheck/laws.FnExactApplyStep", spec := "fnExactApplyStep", unfollowed := true, recurses := true, loops := true, apart := false }
def FnExactApplyStepSaid : Prop := fnExactApplyStepRow.holds Try.pinned (OpenSpec.ofChange fnExactApplyStepSpec)

/-- ITS FALSE NEIGHBOUR: 'it returns false'. Refute it at one input. -/
def fnExactApplyStepWrong : ChangeSpec := { name := "fnExactApplyStep", fn := fun _ => fun
  | [d1, d2, d3] => { results := [.lit (.bool false)], args := [d1, d2, d3] }
  | _ => none }
def FnExactApplyStepWrongFalsely : Prop := fnExactApplyStepRow.holds Try.pinned (OpenSpec.ofChange fnExactApplyStepWrong)

/-- 'laws.FnRelevantVars': WHATEVER THE INPUT: true; the input reads as it did. -/
def fnRelevantVarsSpec : ChangeSpec := { name := "fnRelevantVars", fn := fun _ => fun
  | [d] => { results := [.lit (.bool true)], args := [d] }
  | _ => none }
def fnRelevantVarsRow : OpenClaim := { program := "ythgimpheeemooaa", sum := "9119102a245640c6942dba07cb65e07b29560f24c4dc044bc1f08d3b0932cce0", func := "loop.example/ltlcheck/laws.FnRelevantVars", spec := "fnRelevantVars", unfollowed := true, recurses := true, apart := false }
def FnRelevantVarsSaid : Prop := fnRelevantVarsRow.holds Try.pinned (OpenSpec.ofChange fnRelevantVarsSpec)

/-- ITS FALSE NEIGHBOUR: 'it returns false'. Refute it at one input. -/
def fnRelevantVarsWrong : ChangeSpec := { name := "fnRelevantVars", fn := fun _ => fun
  | [d] => { results := [.lit (.bool false)], args := [d] }
  | _ => none }
def FnRelevantVarsWrongFalsely : Prop := fnRelevantVarsRow.holds Try.pinned (OpenSpec.ofChange fnRelevantVarsWrong)

/-- 'laws.FnSliceTwice': WHATEVER THE INPUT: true; the input reads as it did. -/
def fnSliceTwiceSpec : ChangeSpec := { name := "fnSliceTwice", fn := fun _ => fun
  | [d] => { results := [.lit (.bool true)], args := [d] }
  | _ => none }
def fnSliceTwiceRow : OpenClaim := { program := "ythgimpheeemooaa", sum := "9119102a245640c6942dba07cb65e07b29560f24c4dc044bc1f08d3b0932cce0", func := "loop.example/ltlcheck/laws.FnSliceTwice", spec := "fnSliceTwice", unfollowed := true, recurses := true, apart := false }
def FnSliceTwiceSaid : Prop := fnSliceTwiceRow.holds Try.pinned (OpenSpec.ofChange fnSliceTwiceSpec)

/-- ITS FALSE NEIGHBOUR: 'it returns false'. Refute it at one input. -/
def fnSliceTwiceWrong : ChangeSpec := { name := "fnSliceTwice", fn := fun _ => fun
  | [d] => { results := [.lit (.bool false)], args := [d] }
  | _ => none }
def FnSliceTwiceWrongFalsely : Prop := fnSliceTwiceRow.holds Try.pinned (OpenSpec.ofChange fnSliceTwiceWrong)

/-- 'laws.FnApplyStep': WHATEVER THE INPUT: true; the input reads as it did. -/
def fnApplyStepSpec : ChangeSpec := { name := "fnApplyStep", fn := fun _ => fun
  | [d] => { results := [.lit (.bool true)], args := [d] }
  | _ => none }
def fnApplyStepRow : OpenClaim := { program := "ythgimpheeemooaa", sum := "9119102a245640c6942dba07cb65e07b29560f24c4dc044bc1f08d3b0932cce0", func := "loop.example/ltlcheck/laws.FnApplyStep", spec := "fnApplyStep", unfollowed := true, recurses := true, apart := false }
def FnApplyStepSaid : Prop := fnApplyStepRow.holds Try.pinned (OpenSpec.ofChange fnApplyStepSpec)

/-- ITS FALSE NEIGHBOUR: 'it returns false'. Refute it at one input. -/
def fnApplyStepWrong : ChangeSpec := { name := "fnApplyStep", fn := fun _ => fun
  | [d] => { results := [.lit (.bool false)], args := [d] }
  | _ => none }
def FnApplyStepWrongFalsely : Prop := fnApplyStepRow.holds Try.pinned (OpenSpec.ofChange fnApplyStepWrong)

/- THE SECOND FORM. 'bulk': how many values and letters a reading holds, each counted each time it is reached (what is shared counts as often as it is met; a slice's spare places count too). A statement '..UptoSaid' is the law's where the arguments, and the package variables that the reading takes, are together of bulk at most 1048576: NARROWER than '..Said'. Prove '..Said' where nothing that the law and all that it calls make is longer than what came in: it says more and counts as full. Else prove '..UptoSaid'. A law counts once. -/
mutual
def uptoBulk {H : Type} : DataW H → Nat
  | .lit (.string bytes) => bytes.length + 1
  | .lit _ => 1
  | .nil => 1
  | .ptr d => uptoBulk d + 1
  | .slice elems spare => uptoBulkAll elems + uptoBulkAll spare + 1
  | .agg parts => uptoBulkAll parts + 1
  | .iface _ d => uptoBulk d + 1
  | .map entries => uptoBulkEntries entries + 1
  | .held _ => 1
def uptoBulkAll {H : Type} : List (DataW H) → Nat
  | [] => 0
  | d :: r => uptoBulk d + uptoBulkAll r
def uptoBulkEntries {H : Type} : List (Lit × DataW H) → Nat
  | [] => 0
  | x :: r => uptoBulkEntry x + uptoBulkEntries r
def uptoBulkEntry {H : Type} : Lit × DataW H → Nat
  | (.string bytes, d) => bytes.length + uptoBulk d + 1
  | (_, d) => uptoBulk d + 1
 end
def uptoSmall : (H : Type) → List (DataW H) → Bool := fun _ ds => decide (uptoBulkAll ds ≤ 1048576)
def OpenSpec.upto (s : _root_.Go.ChangeSpec) : _root_.Go.OpenSpec := { _root_.Go.OpenSpec.ofChange s with cond := some uptoSmall }

/-- 'laws.FnExactRelevantVars', WHERE WHAT IT READS IS OF BULK AT MOST 1048576: true; the input reads as it did. -/
def fnExactRelevantVarsUptoRow : OpenClaim := { program := "ythgimpheeemooaa", sum := "9119102a245640c6942dba07cb65e07b29560f24c4dc044bc1f08d3b0932cce0", func := "loop.example/ltlcheck/laws.FnExactRelevantVars", spec := "fnExactRelevantVars", unfollowed := true, recurses := true, loops := true, apart := false, narrowed := true }
def FnExactRelevantVarsUptoSaid : Prop := fnExactRelevantVarsUptoRow.holds Try.pinned (OpenSpec.upto fnExactRelevantVarsSpec)

/-- 'laws.FnExactLabelGraph', WHERE WHAT IT READS IS OF BULK AT MOST 1048576: true; the input reads as it did. -/
def fnExactLabelGraphUptoRow : OpenClaim := { program := "ythgimpheeemooaa", sum := "9119102a245640c6942dba07cb65e07b29560f24c4dc044bc1f08d3b0932cce0", func := "loop.example/ltlcheck/laws.FnExactLabelGraph", spec := "fnExactLabelGraph", unfollowed := true, recurses := true, loops := true, apart := false, narrowed := true }
def FnExactLabelGraphUptoSaid : Prop := fnExactLabelGraphUptoRow.holds Try.pinned (OpenSpec.upto fnExactLabelGraphSpec)

/-- 'laws.FnExactProjectState', WHERE WHAT IT READS IS OF BULK AT MOST 1048576: true; the input reads as it did. -/
def fnExactProjectStateUptoRow : OpenClaim := { program := "ythgimpheeemooaa", sum := "9119102a245640c6942dba07cb65e07b29560f24c4dc044bc1f08d3b0932cce0", func := "loop.example/ltlcheck/laws.FnExactProjectState", spec := "fnExactProjectState", unfollowed := true, recurses := true, loops := true, apart := false, narrowed := true }
def FnExactProjectStateUptoSaid : Prop := fnExactProjectStateUptoRow.holds Try.pinned (OpenSpec.upto fnExactProjectStateSpec)

/-- 'laws.FnExactSliceSystem', WHERE WHAT IT READS IS OF BULK AT MOST 1048576: true; the input reads as it did. -/
def fnExactSliceSystemUptoRow : OpenClaim := { program := "ythgimpheeemooaa", sum := "9119102a245640c6942dba07cb65e07b29560f24c4dc044bc1f08d3b0932cce0", func := "loop.example/ltlcheck/laws.FnExactSliceSystem", spec := "fnExactSliceSystem", unfollowed := true, recurses := true, loops := true, apart := false, narrowed := true }
def FnExactSliceSystemUptoSaid : Prop := fnExactSliceSystemUptoRow.holds Try.pinned (OpenSpec.upto fnExactSliceSystemSpec)

/-- 'laws.FnExactApplyStep', WHERE WHAT IT READS IS OF BULK AT MOST 1048576: true; the input reads as it did. -/
def fnExactApplyStepUptoRow : OpenClaim := { program := "ythgimpheeemooaa", sum := "9119102a245640c6942dba07cb65e07b29560f24c4dc044bc1f08d3b0932cce0", func := "loop.example/ltlcheck/laws.FnExactApplyStep", spec := "fnExactApplyStep", unfollowed := true, recurses := true, loops := true, apart := false, narrowed := true }
def FnExactApplyStepUptoSaid : Prop := fnExactApplyStepUptoRow.holds Try.pinned (OpenSpec.upto fnExactApplyStepSpec)

/-- 'laws.FnRelevantVars', WHERE WHAT IT READS IS OF BULK AT MOST 1048576: true; the input reads as it did. -/
def fnRelevantVarsUptoRow : OpenClaim := { program := "ythgimpheeemooaa", sum := "9119102a245640c6942dba07cb65e07b29560f24c4dc044bc1f08d3b0932cce0", func := "loop.example/ltlcheck/laws.FnRelevantVars", spec := "fnRelevantVars", unfollowed := true, recurses := true, apart := false, narrowed := true }
def FnRelevantVarsUptoSaid : Prop := fnRelevantVarsUptoRow.holds Try.pinned (OpenSpec.upto fnRelevantVarsSpec)

/-- 'laws.FnSliceTwice', WHERE WHAT IT READS IS OF BULK AT MOST 1048576: true; the input reads as it did. -/
def fnSliceTwiceUptoRow : OpenClaim := { program := "ythgimpheeemooaa", sum := "9119102a245640c6942dba07cb65e07b29560f24c4dc044bc1f08d3b0932cce0", func := "loop.example/ltlcheck/laws.FnSliceTwice", spec := "fnSliceTwice", unfollowed := true, recurses := true, apart := false, narrowed := true }
def FnSliceTwiceUptoSaid : Prop := fnSliceTwiceUptoRow.holds Try.pinned (OpenSpec.upto fnSliceTwiceSpec)

/-- 'laws.FnApplyStep', WHERE WHAT IT READS IS OF BULK AT MOST 1048576: true; the input reads as it did. -/
def fnApplyStepUptoRow : OpenClaim := { program := "ythgimpheeemooaa", sum := "9119102a245640c6942dba07cb65e07b29560f24c4dc044bc1f08d3b0932cce0", func := "loop.example/ltlcheck/laws.FnApplyStep", spec := "fnApplyStep", unfollowed := true, recurses := true, apart := false, narrowed := true }
def FnApplyStepUptoSaid : Prop := fnApplyStepUptoRow.holds Try.pinned (OpenSpec.upto fnApplyStepSpec)

end Rows
end Go.Proofs.Ythgimpheeemooaa
