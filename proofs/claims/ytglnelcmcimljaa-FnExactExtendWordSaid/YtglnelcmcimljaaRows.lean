/-
  No cell of these rows narrows 'for every input' (looked for: loops, veiled, ifaces, maps, wideKeys, modest, calm, conditions, laid).
  DERIVED. THE GIVEN ROWS OF THIS SEAT. 8 by the template 'for every input the law returns true; each argument reads behind the call as it read before'; 0 by the template 'total and deterministic' (their statements: YtglnelcmcimljaaTotals.lean).
  GIVEN WITH THE SEED: the statements are not yours to turn. If you find one false, say at which input.
  Laid BY PROGRAM, IN A SANDBOX (cutbox-rows.mjs): the forced cells as the released guide's own fill.sh prints them over the translation e36043867723a36b… (all of the seat's roots in one cut). By AI agents, Wed Nov 11 2026. No macro, syntax, notation, axiom, sorry.
-/
import Derived.Test.YtglnelcmcimljaaChecked
import GoSem.Claim
import GoSem.ClaimJoined
import GoSem.ClaimMapViews
import Derived.JoinedTies
import Derived.KernelRfl
namespace Go.Proofs.Ytglnelcmcimljaa
/- THE CELL 'sum', in the pinned program and in every row, IS THE sha256 OF THE DUMP (.gsa) THAT YtglnelcmcimljaaProg.lean LOADS. Nothing in Lean hashes anything: it is a label: what it is worth is what the hold of that sum in a sandbox is worth. -/
noncomputable def Try.pinned : Pinned := { name := "ytglnelcmcimljaa", sum := "e36043867723a36b6464c5b29f1f99c189f70b6baf7a3be126402a4e4f7eea66", checked := Try.checked }
namespace Rows
def none {H : Type} : Left H := { results := [], args := [] }

/-- 'laws.FnSimulationStep': WHATEVER THE INPUT: true; the input reads as it did. -/
def fnSimulationStepSpec : ChangeSpec := { name := "fnSimulationStep", fn := fun _ => fun
  | [d1, d2] => { results := [.lit (.bool true)], args := [d1, d2] }
  | _ => none }
def fnSimulationStepRow : OpenClaim := { program := "ytglnelcmcimljaa", sum := "e36043867723a36b6464c5b29f1f99c189f70b6baf7a3be126402a4e4f7eea66", func := "loop.example/ltlcheck/laws.FnSimulationStep", spec := "fnSimulationStep", unfollowed := true, recurses := true, plainKeys := false, apart := false }
def FnSimulationStepSaid : Prop := fnSimulationStepRow.holds Try.pinned (OpenSpec.ofChange fnSimulationStepSpec)

/-- ITS FALSE NEIGHBOUR: 'it returns false'. Refute it at one input. -/
def fnSimulationStepWrong : ChangeSpec := { name := "fnSimulationStep", fn := fun _ => fun
  | [d1, d2] => { results := [.lit (.bool false)], args := [d1, d2] }
  | _ => none }
def FnSimulationStepWrongFalsely : Prop := fnSimulationStepRow.holds Try.pinned (OpenSpec.ofChange fnSimulationStepWrong)

/-- 'laws.FnSimulationRelation': WHATEVER THE INPUT: true; the input reads as it did. -/
def fnSimulationRelationSpec : ChangeSpec := { name := "fnSimulationRelation", fn := fun _ => fun
  | [d] => { results := [.lit (.bool true)], args := [d] }
  | _ => none }
def fnSimulationRelationRow : OpenClaim := { program := "ytglnelcmcimljaa", sum := "e36043867723a36b6464c5b29f1f99c189f70b6baf7a3be126402a4e4f7eea66", func := "loop.example/ltlcheck/laws.FnSimulationRelation", spec := "fnSimulationRelation", unfollowed := true, recurses := true, plainKeys := false, apart := false }
def FnSimulationRelationSaid : Prop := fnSimulationRelationRow.holds Try.pinned (OpenSpec.ofChange fnSimulationRelationSpec)

/-- ITS FALSE NEIGHBOUR: 'it returns false'. Refute it at one input. -/
def fnSimulationRelationWrong : ChangeSpec := { name := "fnSimulationRelation", fn := fun _ => fun
  | [d] => { results := [.lit (.bool false)], args := [d] }
  | _ => none }
def FnSimulationRelationWrongFalsely : Prop := fnSimulationRelationRow.holds Try.pinned (OpenSpec.ofChange fnSimulationRelationWrong)

/-- 'laws.FnPrefixStep': WHATEVER THE INPUT: true; the input reads as it did. -/
def fnPrefixStepSpec : ChangeSpec := { name := "fnPrefixStep", fn := fun _ => fun
  | [d1, d2] => { results := [.lit (.bool true)], args := [d1, d2] }
  | _ => none }
def fnPrefixStepRow : OpenClaim := { program := "ytglnelcmcimljaa", sum := "e36043867723a36b6464c5b29f1f99c189f70b6baf7a3be126402a4e4f7eea66", func := "loop.example/ltlcheck/laws.FnPrefixStep", spec := "fnPrefixStep", unfollowed := true, recurses := true, plainKeys := false, apart := false }
def FnPrefixStepSaid : Prop := fnPrefixStepRow.holds Try.pinned (OpenSpec.ofChange fnPrefixStepSpec)

/-- ITS FALSE NEIGHBOUR: 'it returns false'. Refute it at one input. -/
def fnPrefixStepWrong : ChangeSpec := { name := "fnPrefixStep", fn := fun _ => fun
  | [d1, d2] => { results := [.lit (.bool false)], args := [d1, d2] }
  | _ => none }
def FnPrefixStepWrongFalsely : Prop := fnPrefixStepRow.holds Try.pinned (OpenSpec.ofChange fnPrefixStepWrong)

/-- 'laws.FnMergeTwice': WHATEVER THE INPUT: true; the input reads as it did. -/
def fnMergeTwiceSpec : ChangeSpec := { name := "fnMergeTwice", fn := fun _ => fun
  | [d] => { results := [.lit (.bool true)], args := [d] }
  | _ => none }
def fnMergeTwiceRow : OpenClaim := { program := "ytglnelcmcimljaa", sum := "e36043867723a36b6464c5b29f1f99c189f70b6baf7a3be126402a4e4f7eea66", func := "loop.example/ltlcheck/laws.FnMergeTwice", spec := "fnMergeTwice", unfollowed := true, recurses := true, plainKeys := false, apart := false }
def FnMergeTwiceSaid : Prop := fnMergeTwiceRow.holds Try.pinned (OpenSpec.ofChange fnMergeTwiceSpec)

/-- ITS FALSE NEIGHBOUR: 'it returns false'. Refute it at one input. -/
def fnMergeTwiceWrong : ChangeSpec := { name := "fnMergeTwice", fn := fun _ => fun
  | [d] => { results := [.lit (.bool false)], args := [d] }
  | _ => none }
def FnMergeTwiceWrongFalsely : Prop := fnMergeTwiceRow.holds Try.pinned (OpenSpec.ofChange fnMergeTwiceWrong)

/-- 'laws.FnExactExtendWord': WHATEVER THE INPUT: true; the input reads as it did. -/
def fnExactExtendWordSpec : ChangeSpec := { name := "fnExactExtendWord", fn := fun _ => fun
  | [d1, d2] => { results := [.lit (.bool true)], args := [d1, d2] }
  | _ => none }
def fnExactExtendWordRow : OpenClaim := { program := "ytglnelcmcimljaa", sum := "e36043867723a36b6464c5b29f1f99c189f70b6baf7a3be126402a4e4f7eea66", func := "loop.example/ltlcheck/laws.FnExactExtendWord", spec := "fnExactExtendWord", unfollowed := true, recurses := true, plainKeys := false, apart := false }
def FnExactExtendWordSaid : Prop := fnExactExtendWordRow.holds Try.pinned (OpenSpec.ofChange fnExactExtendWordSpec)

/-- ITS FALSE NEIGHBOUR: 'it returns false'. Refute it at one input. -/
def fnExactExtendWordWrong : ChangeSpec := { name := "fnExactExtendWord", fn := fun _ => fun
  | [d1, d2] => { results := [.lit (.bool false)], args := [d1, d2] }
  | _ => none }
def FnExactExtendWordWrongFalsely : Prop := fnExactExtendWordRow.holds Try.pinned (OpenSpec.ofChange fnExactExtendWordWrong)

/-- 'laws.FnSimulationWord': WHATEVER THE INPUT: true; the input reads as it did. -/
def fnSimulationWordSpec : ChangeSpec := { name := "fnSimulationWord", fn := fun _ => fun
  | [d1, d2] => { results := [.lit (.bool true)], args := [d1, d2] }
  | _ => none }
def fnSimulationWordRow : OpenClaim := { program := "ytglnelcmcimljaa", sum := "e36043867723a36b6464c5b29f1f99c189f70b6baf7a3be126402a4e4f7eea66", func := "loop.example/ltlcheck/laws.FnSimulationWord", spec := "fnSimulationWord", unfollowed := true, recurses := true, plainKeys := false, apart := false }
def FnSimulationWordSaid : Prop := fnSimulationWordRow.holds Try.pinned (OpenSpec.ofChange fnSimulationWordSpec)

/-- ITS FALSE NEIGHBOUR: 'it returns false'. Refute it at one input. -/
def fnSimulationWordWrong : ChangeSpec := { name := "fnSimulationWord", fn := fun _ => fun
  | [d1, d2] => { results := [.lit (.bool false)], args := [d1, d2] }
  | _ => none }
def FnSimulationWordWrongFalsely : Prop := fnSimulationWordRow.holds Try.pinned (OpenSpec.ofChange fnSimulationWordWrong)

/-- 'laws.FnIncludesAutomaton': WHATEVER THE INPUT: true; the input reads as it did. -/
def fnIncludesAutomatonSpec : ChangeSpec := { name := "fnIncludesAutomaton", fn := fun _ => fun
  | [d1, d2] => { results := [.lit (.bool true)], args := [d1, d2] }
  | _ => none }
def fnIncludesAutomatonRow : OpenClaim := { program := "ytglnelcmcimljaa", sum := "e36043867723a36b6464c5b29f1f99c189f70b6baf7a3be126402a4e4f7eea66", func := "loop.example/ltlcheck/laws.FnIncludesAutomaton", spec := "fnIncludesAutomaton", unfollowed := true, recurses := true, plainKeys := false, apart := false }
def FnIncludesAutomatonSaid : Prop := fnIncludesAutomatonRow.holds Try.pinned (OpenSpec.ofChange fnIncludesAutomatonSpec)

/-- ITS FALSE NEIGHBOUR: 'it returns false'. Refute it at one input. -/
def fnIncludesAutomatonWrong : ChangeSpec := { name := "fnIncludesAutomaton", fn := fun _ => fun
  | [d1, d2] => { results := [.lit (.bool false)], args := [d1, d2] }
  | _ => none }
def FnIncludesAutomatonWrongFalsely : Prop := fnIncludesAutomatonRow.holds Try.pinned (OpenSpec.ofChange fnIncludesAutomatonWrong)

/-- 'laws.FnTrimAutomaton': WHATEVER THE INPUT: true; the input reads as it did. -/
def fnTrimAutomatonSpec : ChangeSpec := { name := "fnTrimAutomaton", fn := fun _ => fun
  | [d1, d2] => { results := [.lit (.bool true)], args := [d1, d2] }
  | _ => none }
def fnTrimAutomatonRow : OpenClaim := { program := "ytglnelcmcimljaa", sum := "e36043867723a36b6464c5b29f1f99c189f70b6baf7a3be126402a4e4f7eea66", func := "loop.example/ltlcheck/laws.FnTrimAutomaton", spec := "fnTrimAutomaton", unfollowed := true, recurses := true, plainKeys := false, apart := false }
def FnTrimAutomatonSaid : Prop := fnTrimAutomatonRow.holds Try.pinned (OpenSpec.ofChange fnTrimAutomatonSpec)

/-- ITS FALSE NEIGHBOUR: 'it returns false'. Refute it at one input. -/
def fnTrimAutomatonWrong : ChangeSpec := { name := "fnTrimAutomaton", fn := fun _ => fun
  | [d1, d2] => { results := [.lit (.bool false)], args := [d1, d2] }
  | _ => none }
def FnTrimAutomatonWrongFalsely : Prop := fnTrimAutomatonRow.holds Try.pinned (OpenSpec.ofChange fnTrimAutomatonWrong)

/- THE SECOND FORM. 'bulk': how many values and letters a reading holds, each counted each time it is reached (what is shared counts as often as it is met; a slice's spare places count too). A statement '..UptoSaid' is the law's where the arguments, and the package variables that the reading takes, are together of bulk at most 1048576: NARROWER than '..Said'. Prove '..Said' where nothing that the law and all that it calls make is longer than what came in: it says more and counts as full. Else prove '..UptoSaid'. A law counts once. -/
mutual
def uptoBulk {H : Type} : DataW H → Nat
  | .lit (.string bytes) => bytes.length + 1
  | .lit _ => 1
  | .nil => 1
  | .ptr d => uptoBulk d + 1
  | .slice elems spare => uptoBulkAll elems + uptoBulkAll spare + 1
  | .agg parts => uptoBulkAll parts + 1
  | .iface _ d => uptoBulk d + 1
  | .map entries => uptoBulkEntries entries + 1
  | .held _ => 1
def uptoBulkAll {H : Type} : List (DataW H) → Nat
  | [] => 0
  | d :: r => uptoBulk d + uptoBulkAll r
def uptoBulkEntries {H : Type} : List (Lit × DataW H) → Nat
  | [] => 0
  | x :: r => uptoBulkEntry x + uptoBulkEntries r
def uptoBulkEntry {H : Type} : Lit × DataW H → Nat
  | (.string bytes, d) => bytes.length + uptoBulk d + 1
  | (_, d) => uptoBulk d + 1
 end
def uptoSmall : (H : Type) → List (DataW H) → Bool := fun _ ds => decide (uptoBulkAll ds ≤ 1048576)
def OpenSpec.upto (s : _root_.Go.ChangeSpec) : _root_.Go.OpenSpec := { _root_.Go.OpenSpec.ofChange s with cond := some uptoSmall }

/-- 'laws.FnSimulationStep', WHERE WHAT IT READS IS OF BULK AT MOST 1048576: true; the input reads as it did. -/
def fnSimulationStepUptoRow : OpenClaim := { program := "ytglnelcmcimljaa", sum := "e36043867723a36b6464c5b29f1f99c189f70b6baf7a3be126402a4e4f7eea66", func := "loop.example/ltlcheck/laws.FnSimulationStep", spec := "fnSimulationStep", unfollowed := true, recurses := true, plainKeys := false, apart := false, narrowed := true }
def FnSimulationStepUptoSaid : Prop := fnSimulationStepUptoRow.holds Try.pinned (OpenSpec.upto fnSimulationStepSpec)

/-- 'laws.FnSimulationRelation', WHERE WHAT IT READS IS OF BULK AT MOST 1048576: true; the input reads as it did. -/
def fnSimulationRelationUptoRow : OpenClaim := { program := "ytglnelcmcimljaa", sum := "e36043867723a36b6464c5b29f1f99c189f70b6baf7a3be126402a4e4f7eea66", func := "loop.example/ltlcheck/laws.FnSimulationRelation", spec := "fnSimulationRelation", unfollowed := true, recurses := true, plainKeys := false, apart := false, narrowed := true }
def FnSimulationRelationUptoSaid : Prop := fnSimulationRelationUptoRow.holds Try.pinned (OpenSpec.upto fnSimulationRelationSpec)

/-- 'laws.FnPrefixStep', WHERE WHAT IT READS IS OF BULK AT MOST 1048576: true; the input reads as it did. -/
def fnPrefixStepUptoRow : OpenClaim := { program := "ytglnelcmcimljaa", sum := "e36043867723a36b6464c5b29f1f99c189f70b6baf7a3be126402a4e4f7eea66", func := "loop.example/ltlcheck/laws.FnPrefixStep", spec := "fnPrefixStep", unfollowed := true, recurses := true, plainKeys := false, apart := false, narrowed := true }
def FnPrefixStepUptoSaid : Prop := fnPrefixStepUptoRow.holds Try.pinned (OpenSpec.upto fnPrefixStepSpec)

/-- 'laws.FnMergeTwice', WHERE WHAT IT READS IS OF BULK AT MOST 1048576: true; the input reads as it did. -/
def fnMergeTwiceUptoRow : OpenClaim := { program := "ytglnelcmcimljaa", sum := "e36043867723a36b6464c5b29f1f99c189f70b6baf7a3be126402a4e4f7eea66", func := "loop.example/ltlcheck/laws.FnMergeTwice", spec := "fnMergeTwice", unfollowed := true, recurses := true, plainKeys := false, apart := false, narrowed := true }
def FnMergeTwiceUptoSaid : Prop := fnMergeTwiceUptoRow.holds Try.pinned (OpenSpec.upto fnMergeTwiceSpec)

/-- 'laws.FnExactExtendWord', WHERE WHAT IT READS IS OF BULK AT MOST 1048576: true; the input reads as it did. -/
def fnExactExtendWordUptoRow : OpenClaim := { program := "ytglnelcmcimljaa", sum := "e36043867723a36b6464c5b29f1f99c189f70b6baf7a3be126402a4e4f7eea66", func := "loop.example/ltlcheck/laws.FnExactExtendWord", spec := "fnExactExtendWord", unfollowed := true, recurses := true, plainKeys := false, apart := false, narrowed := true }
def FnExactExtendWordUptoSaid : Prop := fnExactExtendWordUptoRow.holds Try.pinned (OpenSpec.upto fnExactExtendWordSpec)

/-- 'laws.FnSimulationWord', WHERE WHAT IT READS IS OF BULK AT MOST 1048576: true; the input reads as it did. -/
def fnSimulationWordUptoRow : OpenClaim := { program := "ytglnelcmcimljaa", sum := "e36043867723a36b6464c5b29f1f99c189f70b6baf7a3be126402a4e4f7eea66", func := "loop.example/ltlcheck/laws.FnSimulationWord", spec := "fnSimulationWord", unfollowed := true, recurses := true, plainKeys := false, apart := false, narrowed := true }
def FnSimulationWordUptoSaid : Prop := fnSimulationWordUptoRow.holds Try.pinned (OpenSpec.upto fnSimulationWordSpec)

/-- 'laws.FnIncludesAutomaton', WHERE WHAT IT READS IS OF BULK AT MOST 1048576: true; the input reads as it did. -/
def fnIncludesAutomatonUptoRow : OpenClaim := { program := "ytglnelcmcimljaa", sum := "e36043867723a36b6464c5b29f1f99c189f70b6baf7a3be126402a4e4f7eea66", func := "loop.example/ltlcheck/laws.FnIncludesAutomaton", spec := "fnIncludesAutomaton", unfollowed := true, recurses := true, plainKeys := false, apart := false, narrowed := true }
def FnIncludesAutomatonUptoSaid : Prop := fnIncludesAutomatonUptoRow.holds Try.pinned (OpenSpec.upto fnIncludesAutomatonSpec)

/-- 'laws.FnTrimAutomaton', WHERE WHAT IT READS IS OF BULK AT MOST 1048576: true; the input reads as it did. -/
def fnTrimAutomatonUptoRow : OpenClaim := { program := "ytglnelcmcimljaa", sum := "e36043867723a36b6464c5b29f1f99c189f70b6baf7a3be126402a4e4f7eea66", func := "loop.example/ltlcheck/laws.FnTrimAutomaton", spec := "fnTrimAutomaton", unfollowed := true, recurses := true, plainKeys := false, apart := false, narrowed := true }
def FnTrimAutomatonUptoSaid : Prop := fnTrimAutomatonUptoRow.holds Try.pinned (OpenSpec.upto fnTrimAutomatonSpec)

end Rows
end Go.Proofs.Ytglnelcmcimljaa
