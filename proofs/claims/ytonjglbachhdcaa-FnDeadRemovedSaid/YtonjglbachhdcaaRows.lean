/-
  No cell of these rows narrows 'for every input' (looked for: loops, veiled, ifaces, maps, wideKeys, modest, calm, conditions, laid).
  DERIVED. THE GIVEN ROWS OF THIS SEAT. 5 by the template 'for every input the law returns true; each argument reads behind the call as it read before'; 0 by the template 'total and deterministic' (their statements: YtonjglbachhdcaaTotals.lean).
  GIVEN WITH THE SEED: the statements are not yours to turn. If you find one false, say at which input.
  Laid BY PROGRAM, IN A SANDBOX (cutbox-rows.mjs): the forced cells as the released guide's own fill.sh prints them over the translation 86228be3bb41bc36… (all of the seat's roots in one cut). By AI agents, Wed Nov 11 2026. No macro, syntax, notation, axiom, sorry.
-/
import Derived.Test.YtonjglbachhdcaaChecked
import GoSem.Claim
import GoSem.ClaimJoined
import GoSem.ClaimMapViews
import Derived.JoinedTies
import Derived.KernelRfl
namespace Go.Proofs.Ytonjglbachhdcaa
/- THE CELL 'sum', in the pinned program and in every row, IS THE sha256 OF THE DUMP (.gsa) THAT YtonjglbachhdcaaProg.lean LOADS. Nothing in Lean hashes anything: it is a label: what it is worth is what the hold of that sum in a sandbox is worth. -/
noncomputable def Try.pinned : Pinned := { name := "ytonjglbachhdcaa", sum := "86228be3bb41bc36d6ebc13b56a3fd24b463bc40a40f1d952ec041399e473396", checked := Try.checked }
namespace Rows
def none {H : Type} : Left H := { results := [], args := [] }

/-- 'laws.FnStepsCommute': WHATEVER THE INPUT: true; the input reads as it did. -/
def fnStepsCommuteSpec : ChangeSpec := { name := "fnStepsCommute", fn := fun _ => fun
  | [d] => { results := [.lit (.bool true)], args := [d] }
  | _ => none }
def fnStepsCommuteRow : OpenClaim := { program := "ytonjglbachhdcaa", sum := "86228be3bb41bc36d6ebc13b56a3fd24b463bc40a40f1d952ec041399e473396", func := "loop.example/ltlcheck/laws.FnStepsCommute", spec := "fnStepsCommute", unfollowed := true, recurses := true, apart := false }
def FnStepsCommuteSaid : Prop := fnStepsCommuteRow.holds Try.pinned (OpenSpec.ofChange fnStepsCommuteSpec)

/-- ITS FALSE NEIGHBOUR: 'it returns false'. Refute it at one input. -/
def fnStepsCommuteWrong : ChangeSpec := { name := "fnStepsCommute", fn := fun _ => fun
  | [d] => { results := [.lit (.bool false)], args := [d] }
  | _ => none }
def FnStepsCommuteWrongFalsely : Prop := fnStepsCommuteRow.holds Try.pinned (OpenSpec.ofChange fnStepsCommuteWrong)

/-- 'laws.FnDeadRemoved': WHATEVER THE INPUT: true; the input reads as it did. -/
def fnDeadRemovedSpec : ChangeSpec := { name := "fnDeadRemoved", fn := fun _ => fun
  | [d] => { results := [.lit (.bool true)], args := [d] }
  | _ => none }
def fnDeadRemovedRow : OpenClaim := { program := "ytonjglbachhdcaa", sum := "86228be3bb41bc36d6ebc13b56a3fd24b463bc40a40f1d952ec041399e473396", func := "loop.example/ltlcheck/laws.FnDeadRemoved", spec := "fnDeadRemoved", unfollowed := true, recurses := true, apart := false }
def FnDeadRemovedSaid : Prop := fnDeadRemovedRow.holds Try.pinned (OpenSpec.ofChange fnDeadRemovedSpec)

/-- ITS FALSE NEIGHBOUR: 'it returns false'. Refute it at one input. -/
def fnDeadRemovedWrong : ChangeSpec := { name := "fnDeadRemoved", fn := fun _ => fun
  | [d] => { results := [.lit (.bool false)], args := [d] }
  | _ => none }
def FnDeadRemovedWrongFalsely : Prop := fnDeadRemovedRow.holds Try.pinned (OpenSpec.ofChange fnDeadRemovedWrong)

/-- 'laws.FnProjectState': WHATEVER THE INPUT: true; the input reads as it did. -/
def fnProjectStateSpec : ChangeSpec := { name := "fnProjectState", fn := fun _ => fun
  | [d] => { results := [.lit (.bool true)], args := [d] }
  | _ => none }
def fnProjectStateRow : OpenClaim := { program := "ytonjglbachhdcaa", sum := "86228be3bb41bc36d6ebc13b56a3fd24b463bc40a40f1d952ec041399e473396", func := "loop.example/ltlcheck/laws.FnProjectState", spec := "fnProjectState", unfollowed := true, recurses := true, apart := false }
def FnProjectStateSaid : Prop := fnProjectStateRow.holds Try.pinned (OpenSpec.ofChange fnProjectStateSpec)

/-- ITS FALSE NEIGHBOUR: 'it returns false'. Refute it at one input. -/
def fnProjectStateWrong : ChangeSpec := { name := "fnProjectState", fn := fun _ => fun
  | [d] => { results := [.lit (.bool false)], args := [d] }
  | _ => none }
def FnProjectStateWrongFalsely : Prop := fnProjectStateRow.holds Try.pinned (OpenSpec.ofChange fnProjectStateWrong)

/-- 'laws.FnProjectStep': WHATEVER THE INPUT: true; the input reads as it did. -/
def fnProjectStepSpec : ChangeSpec := { name := "fnProjectStep", fn := fun _ => fun
  | [d] => { results := [.lit (.bool true)], args := [d] }
  | _ => none }
def fnProjectStepRow : OpenClaim := { program := "ytonjglbachhdcaa", sum := "86228be3bb41bc36d6ebc13b56a3fd24b463bc40a40f1d952ec041399e473396", func := "loop.example/ltlcheck/laws.FnProjectStep", spec := "fnProjectStep", unfollowed := true, recurses := true, apart := false }
def FnProjectStepSaid : Prop := fnProjectStepRow.holds Try.pinned (OpenSpec.ofChange fnProjectStepSpec)

/-- ITS FALSE NEIGHBOUR: 'it returns false'. Refute it at one input. -/
def fnProjectStepWrong : ChangeSpec := { name := "fnProjectStep", fn := fun _ => fun
  | [d] => { results := [.lit (.bool false)], args := [d] }
  | _ => none }
def FnProjectStepWrongFalsely : Prop := fnProjectStepRow.holds Try.pinned (OpenSpec.ofChange fnProjectStepWrong)

/-- 'laws.FnSliceStates': WHATEVER THE INPUT: true; the input reads as it did. -/
def fnSliceStatesSpec : ChangeSpec := { name := "fnSliceStates", fn := fun _ => fun
  | [d] => { results := [.lit (.bool true)], args := [d] }
  | _ => none }
def fnSliceStatesRow : OpenClaim := { program := "ytonjglbachhdcaa", sum := "86228be3bb41bc36d6ebc13b56a3fd24b463bc40a40f1d952ec041399e473396", func := "loop.example/ltlcheck/laws.FnSliceStates", spec := "fnSliceStates", unfollowed := true, recurses := true, apart := false }
def FnSliceStatesSaid : Prop := fnSliceStatesRow.holds Try.pinned (OpenSpec.ofChange fnSliceStatesSpec)

/-- ITS FALSE NEIGHBOUR: 'it returns false'. Refute it at one input. -/
def fnSliceStatesWrong : ChangeSpec := { name := "fnSliceStates", fn := fun _ => fun
  | [d] => { results := [.lit (.bool false)], args := [d] }
  | _ => none }
def FnSliceStatesWrongFalsely : Prop := fnSliceStatesRow.holds Try.pinned (OpenSpec.ofChange fnSliceStatesWrong)

/- THE SECOND FORM. 'bulk': how many values and letters a reading holds, each counted each time it is reached (what is shared counts as often as it is met; a slice's spare places count too). A statement '..UptoSaid' is the law's where the arguments, and the package variables that the reading takes, are together of bulk at most 1048576: NARROWER than '..Said'. Prove '..Said' where nothing that the law and all that it calls make is longer than what came in: it says more and counts as full. Else prove '..UptoSaid'. A law counts once. -/
mutual
def uptoBulk {H : Type} : DataW H → Nat
  | .lit (.string bytes) => bytes.length + 1
  | .lit _ => 1
  | .nil => 1
  | .ptr d => uptoBulk d + 1
  | .slice elems spare => uptoBulkAll elems + uptoBulkAll spare + 1
  | .agg parts => uptoBulkAll parts + 1
  | .iface _ d => uptoBulk d + 1
  | .map entries => uptoBulkEntries entries + 1
  | .held _ => 1
def uptoBulkAll {H : Type} : List (DataW H) → Nat
  | [] => 0
  | d :: r => uptoBulk d + uptoBulkAll r
def uptoBulkEntries {H : Type} : List (Lit × DataW H) → Nat
  | [] => 0
  | x :: r => uptoBulkEntry x + uptoBulkEntries r
def uptoBulkEntry {H : Type} : Lit × DataW H → Nat
  | (.string bytes, d) => bytes.length + uptoBulk d + 1
  | (_, d) => uptoBulk d + 1
 end
def uptoSmall : (H : Type) → List (DataW H) → Bool := fun _ ds => decide (uptoBulkAll ds ≤ 1048576)
def OpenSpec.upto (s : _root_.Go.ChangeSpec) : _root_.Go.OpenSpec := { _root_.Go.OpenSpec.ofChange s with cond := some uptoSmall }

/-- 'laws.FnStepsCommute', WHERE WHAT IT READS IS OF BULK AT MOST 1048576: true; the input reads as it did. -/
def fnStepsCommuteUptoRow : OpenClaim := { program := "ytonjglbachhdcaa", sum := "86228be3bb41bc36d6ebc13b56a3fd24b463bc40a40f1d952ec041399e473396", func := "loop.example/ltlcheck/laws.FnStepsCommute", spec := "fnStepsCommute", unfollowed := true, recurses := true, apart := false, narrowed := true }
def FnStepsCommuteUptoSaid : Prop := fnStepsCommuteUptoRow.holds Try.pinned (OpenSpec.upto fnStepsCommuteSpec)

/-- 'laws.FnDeadRemoved', WHERE WHAT IT READS IS OF BULK AT MOST 1048576: true; the input reads as it did. -/
def fnDeadRemovedUptoRow : OpenClaim := { program := "ytonjglbachhdcaa", sum := "86228be3bb41bc36d6ebc13b56a3fd24b463bc40a40f1d952ec041399e473396", func := "loop.example/ltlcheck/laws.FnDeadRemoved", spec := "fnDeadRemoved", unfollowed := true, recurses := true, apart := false, narrowed := true }
def FnDeadRemovedUptoSaid : Prop := fnDeadRemovedUptoRow.holds Try.pinned (OpenSpec.upto fnDeadRemovedSpec)

/-- 'laws.FnProjectState', WHERE WHAT IT READS IS OF BULK AT MOST 1048576: true; the input reads as it did. -/
def fnProjectStateUptoRow : OpenClaim := { program := "ytonjglbachhdcaa", sum := "86228be3bb41bc36d6ebc13b56a3fd24b463bc40a40f1d952ec041399e473396", func := "loop.example/ltlcheck/laws.FnProjectState", spec := "fnProjectState", unfollowed := true, recurses := true, apart := false, narrowed := true }
def FnProjectStateUptoSaid : Prop := fnProjectStateUptoRow.holds Try.pinned (OpenSpec.upto fnProjectStateSpec)

/-- 'laws.FnProjectStep', WHERE WHAT IT READS IS OF BULK AT MOST 1048576: true; the input reads as it did. -/
def fnProjectStepUptoRow : OpenClaim := { program := "ytonjglbachhdcaa", sum := "86228be3bb41bc36d6ebc13b56a3fd24b463bc40a40f1d952ec041399e473396", func := "loop.example/ltlcheck/laws.FnProjectStep", spec := "fnProjectStep", unfollowed := true, recurses := true, apart := false, narrowed := true }
def FnProjectStepUptoSaid : Prop := fnProjectStepUptoRow.holds Try.pinned (OpenSpec.upto fnProjectStepSpec)

/-- 'laws.FnSliceStates', WHERE WHAT IT READS IS OF BULK AT MOST 1048576: true; the input reads as it did. -/
def fnSliceStatesUptoRow : OpenClaim := { program := "ytonjglbachhdcaa", sum := "86228be3bb41bc36d6ebc13b56a3fd24b463bc40a40f1d952ec041399e473396", func := "loop.example/ltlcheck/laws.FnSliceStates", spec := "fnSliceStates", unfollowed := true, recurses := true, apart := false, narrowed := true }
def FnSliceStatesUptoSaid : Prop := fnSliceStatesUptoRow.holds Try.pinned (OpenSpec.upto fnSliceStatesSpec)

end Rows
end Go.Proofs.Ytonjglbachhdcaa
