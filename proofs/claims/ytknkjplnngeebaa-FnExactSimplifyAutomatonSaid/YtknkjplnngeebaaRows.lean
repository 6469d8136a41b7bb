/-
  No cell of these rows narrows 'for every input' (looked for: loops, veiled, ifaces, maps, wideKeys, modest, calm, conditions, laid).
  DERIVED. THE GIVEN ROWS OF THIS SEAT. 5 by the template 'for every input the law returns true; each argument reads behind the call as it read before'; 0 by the template 'total and deterministic' (their statements: YtknkjplnngeebaaTotals.lean).
  GIVEN WITH THE SEED: the statements are not yours to turn. If you find one false, say at which input.
  Laid BY PROGRAM, IN A SANDBOX (cutbox-rows.mjs): the forced cells as the released guide's own fill.sh prints them over the translation 85271ebfcfb675fc… (all of the seat's roots in one cut). By AI agents, Wed Nov 11 2026. No macro, syntax, notation, axiom, sorry.
-/
import Derived.Test.YtknkjplnngeebaaChecked
import GoSem.Claim
import GoSem.ClaimJoined
import GoSem.ClaimMapViews
import Derived.JoinedTies
import Derived.KernelRfl
namespace Go.Proofs.Ytknkjplnngeebaa
/- THE CELL 'sum', in the pinned program and in every row, IS THE sha256 OF THE DUMP (.gsa) THAT YtknkjplnngeebaaProg.lean LOADS. Nothing in Lean hashes anything: it is a label: what it is worth is what the hold of that sum in a sandbox is worth. -/
noncomputable def Try.pinned : Pinned := { name := "ytknkjplnngeebaa", sum := "85271ebfcfb675fc647d6e51554302714d15ffaff2f8f78ae70e92c69871dcb8", checked := Try.checked }
namespace Rows
def none {H : Type} : Left H := { results := [], args := [] }

/-- 'laws.FnExactTrimAutomaton': WHATEVER THE INPUT: true; the input reads as it did. -/
def fnExactTrimAutomatonSpec : ChangeSpec := { name := "fnExactTrimAutomaton", fn := fun _ => fun
  | [d] => { results := [.lit (.bool true)], args := [d] }
  | _ => none }
def fnExactTrimAutomatonRow : OpenClaim := { program := "ytknkjplnngeebaa", sum := "85271ebfcfb675fc647d6e51554302714d15ffaff2f8f78ae70e92c69871dcb8", func := "loop.example/ltlcheck/laws.FnExactTrimAutomaton", spec := "fnExactTrimAutomaton", unfollowed := true, recurses := true, plainKeys := false, apart := false }
def FnExactTrimAutomatonSaid : Prop := fnExactTrimAutomatonRow.holds Try.pinned (OpenSpec.ofChange fnExactTrimAutomatonSpec)

/-- ITS FALSE NEIGHBOUR: 'it returns false'. Refute it at one input. -/
def fnExactTrimAutomatonWrong : ChangeSpec := { name := "fnExactTrimAutomaton", fn := fun _ => fun
  | [d] => { results := [.lit (.bool false)], args := [d] }
  | _ => none }
def FnExactTrimAutomatonWrongFalsely : Prop := fnExactTrimAutomatonRow.holds Try.pinned (OpenSpec.ofChange fnExactTrimAutomatonWrong)

/-- 'laws.FnExactPrefixStates': WHATEVER THE INPUT: true; the input reads as it did. -/
def fnExactPrefixStatesSpec : ChangeSpec := { name := "fnExactPrefixStates", fn := fun _ => fun
  | [d1, d2] => { results := [.lit (.bool true)], args := [d1, d2] }
  | _ => none }
def fnExactPrefixStatesRow : OpenClaim := { program := "ytknkjplnngeebaa", sum := "85271ebfcfb675fc647d6e51554302714d15ffaff2f8f78ae70e92c69871dcb8", func := "loop.example/ltlcheck/laws.FnExactPrefixStates", spec := "fnExactPrefixStates", unfollowed := true, recurses := true, plainKeys := false, apart := false }
def FnExactPrefixStatesSaid : Prop := fnExactPrefixStatesRow.holds Try.pinned (OpenSpec.ofChange fnExactPrefixStatesSpec)

/-- ITS FALSE NEIGHBOUR: 'it returns false'. Refute it at one input. -/
def fnExactPrefixStatesWrong : ChangeSpec := { name := "fnExactPrefixStates", fn := fun _ => fun
  | [d1, d2] => { results := [.lit (.bool false)], args := [d1, d2] }
  | _ => none }
def FnExactPrefixStatesWrongFalsely : Prop := fnExactPrefixStatesRow.holds Try.pinned (OpenSpec.ofChange fnExactPrefixStatesWrong)

/-- 'laws.FnExactMergeStates': WHATEVER THE INPUT: true; the input reads as it did. -/
def fnExactMergeStatesSpec : ChangeSpec := { name := "fnExactMergeStates", fn := fun _ => fun
  | [d] => { results := [.lit (.bool true)], args := [d] }
  | _ => none }
def fnExactMergeStatesRow : OpenClaim := { program := "ytknkjplnngeebaa", sum := "85271ebfcfb675fc647d6e51554302714d15ffaff2f8f78ae70e92c69871dcb8", func := "loop.example/ltlcheck/laws.FnExactMergeStates", spec := "fnExactMergeStates", unfollowed := true, recurses := true, plainKeys := false, apart := false }
def FnExactMergeStatesSaid : Prop := fnExactMergeStatesRow.holds Try.pinned (OpenSpec.ofChange fnExactMergeStatesSpec)

/-- ITS FALSE NEIGHBOUR: 'it returns false'. Refute it at one input. -/
def fnExactMergeStatesWrong : ChangeSpec := { name := "fnExactMergeStates", fn := fun _ => fun
  | [d] => { results := [.lit (.bool false)], args := [d] }
  | _ => none }
def FnExactMergeStatesWrongFalsely : Prop := fnExactMergeStatesRow.holds Try.pinned (OpenSpec.ofChange fnExactMergeStatesWrong)

/-- 'laws.FnExactSimplifyAutomaton': WHATEVER THE INPUT: true; the input reads as it did. -/
def fnExactSimplifyAutomatonSpec : ChangeSpec := { name := "fnExactSimplifyAutomaton", fn := fun _ => fun
  | [d] => { results := [.lit (.bool true)], args := [d] }
  | _ => none }
def fnExactSimplifyAutomatonRow : OpenClaim := { program := "ytknkjplnngeebaa", sum := "85271ebfcfb675fc647d6e51554302714d15ffaff2f8f78ae70e92c69871dcb8", func := "loop.example/ltlcheck/laws.FnExactSimplifyAutomaton", spec := "fnExactSimplifyAutomaton", unfollowed := true, recurses := true, plainKeys := false, apart := false }
def FnExactSimplifyAutomatonSaid : Prop := fnExactSimplifyAutomatonRow.holds Try.pinned (OpenSpec.ofChange fnExactSimplifyAutomatonSpec)

/-- ITS FALSE NEIGHBOUR: 'it returns false'. Refute it at one input. -/
def fnExactSimplifyAutomatonWrong : ChangeSpec := { name := "fnExactSimplifyAutomaton", fn := fun _ => fun
  | [d] => { results := [.lit (.bool false)], args := [d] }
  | _ => none }
def FnExactSimplifyAutomatonWrongFalsely : Prop := fnExactSimplifyAutomatonRow.holds Try.pinned (OpenSpec.ofChange fnExactSimplifyAutomatonWrong)

/-- 'laws.FnExactExtendWord': WHATEVER THE INPUT: true; the input reads as it did. -/
def fnExactExtendWordSpec : ChangeSpec := { name := "fnExactExtendWord", fn := fun _ => fun
  | [d1, d2] => { results := [.lit (.bool true)], args := [d1, d2] }
  | _ => none }
def fnExactExtendWordRow : OpenClaim := { program := "ytknkjplnngeebaa", sum := "85271ebfcfb675fc647d6e51554302714d15ffaff2f8f78ae70e92c69871dcb8", func := "loop.example/ltlcheck/laws.FnExactExtendWord", spec := "fnExactExtendWord", unfollowed := true, recurses := true, plainKeys := false, apart := false }
def FnExactExtendWordSaid : Prop := fnExactExtendWordRow.holds Try.pinned (OpenSpec.ofChange fnExactExtendWordSpec)

/-- ITS FALSE NEIGHBOUR: 'it returns false'. Refute it at one input. -/
def fnExactExtendWordWrong : ChangeSpec := { name := "fnExactExtendWord", fn := fun _ => fun
  | [d1, d2] => { results := [.lit (.bool false)], args := [d1, d2] }
  | _ => none }
def FnExactExtendWordWrongFalsely : Prop := fnExactExtendWordRow.holds Try.pinned (OpenSpec.ofChange fnExactExtendWordWrong)

/- THE SECOND FORM. 'bulk': how many values and letters a reading holds, each counted each time it is reached (what is shared counts as often as it is met; a slice's spare places count too). A statement '..UptoSaid' is the law's where the arguments, and the package variables that the reading takes, are together of bulk at most 1048576: NARROWER than '..Said'. Prove '..Said' where nothing that the law and all that it calls make is longer than what came in: it says more and counts as full. Else prove '..UptoSaid'. A law counts once. -/
mutual
def uptoBulk {H : Type} : DataW H → Nat
  | .lit (.string bytes) => bytes.length + 1
  | .lit _ => 1
  | .nil => 1
  | .ptr d => uptoBulk d + 1
  | .slice elems spare => uptoBulkAll elems + uptoBulkAll spare + 1
  | .agg parts => uptoBulkAll parts + 1
  | .iface _ d => uptoBulk d + 1
  | .map entries => uptoBulkEntries entries + 1
  | .held _ => 1
def uptoBulkAll {H : Type} : List (DataW H) → Nat
  | [] => 0
  | d :: r => uptoBulk d + uptoBulkAll r
def uptoBulkEntries {H : Type} : List (Lit × DataW H) → Nat
  | [] => 0
  | x :: r => uptoBulkEntry x + uptoBulkEntries r
def uptoBulkEntry {H : Type} : Lit × DataW H → Nat
  | (.string bytes, d) => bytes.length + uptoBulk d + 1
  | (_, d) => uptoBulk d + 1
 end
def uptoSmall : (H : Type) → List (DataW H) → Bool := fun _ ds => decide (uptoBulkAll ds ≤ 1048576)
def OpenSpec.upto (s : _root_.Go.ChangeSpec) : _root_.Go.OpenSpec := { _root_.Go.OpenSpec.ofChange s with cond := some uptoSmall }

/-- 'laws.FnExactTrimAutomaton', WHERE WHAT IT READS IS OF BULK AT MOST 1048576: true; the input reads as it did. -/
def fnExactTrimAutomatonUptoRow : OpenClaim := { program := "ytknkjplnngeebaa", sum := "85271ebfcfb675fc647d6e51554302714d15ffaff2f8f78ae70e92c69871dcb8", func := "loop.example/ltlcheck/laws.FnExactTrimAutomaton", spec := "fnExactTrimAutomaton", unfollowed := true, recurses := true, plainKeys := false, apart := false, narrowed := true }
def FnExactTrimAutomatonUptoSaid : Prop := fnExactTrimAutomatonUptoRow.holds Try.pinned (OpenSpec.upto fnExactTrimAutomatonSpec)

/-- 'laws.FnExactPrefixStates', WHERE WHAT IT READS IS OF BULK AT MOST 1048576: true; the input reads as it did. -/
def fnExactPrefixStatesUptoRow : OpenClaim := { program := "ytknkjplnngeebaa", sum := "85271ebfcfb675fc647d6e51554302714d15ffaff2f8f78ae70e92c69871dcb8", func := "loop.example/ltlcheck/laws.FnExactPrefixStates", spec := "fnExactPrefixStates", unfollowed := true, recurses := true, plainKeys := false, apart := false, narrowed := true }
def FnExactPrefixStatesUptoSaid : Prop := fnExactPrefixStatesUptoRow.holds Try.pinned (OpenSpec.upto fnExactPrefixStatesSpec)

/-- 'laws.FnExactMergeStates', WHERE WHAT IT READS IS OF BULK AT MOST 1048576: true; the input reads as it did. -/
def fnExactMergeStatesUptoRow : OpenClaim := { program := "ytknkjplnngeebaa", sum := "85271ebfcfb675fc647d6e51554302714d15ffaff2f8f78ae70e92c69871dcb8", func := "loop.example/ltlcheck/laws.FnExactMergeStates", spec := "fnExactMergeStates", unfollowed := true, recurses := true, plainKeys := false, apart := false, narrowed := true }
def FnExactMergeStatesUptoSaid : Prop := fnExactMergeStatesUptoRow.holds Try.pinned (OpenSpec.upto fnExactMergeStatesSpec)

/-- 'laws.FnExactSimplifyAutomaton', WHERE WHAT IT READS IS OF BULK AT MOST 1048576: true; the input reads as it did. -/
def fnExactSimplifyAutomatonUptoRow : OpenClaim := { program := "ytknkjplnngeebaa", sum := "85271ebfcfb675fc647d6e51554302714d15ffaff2f8f78ae70e92c69871dcb8", func := "loop.example/ltlcheck/laws.FnExactSimplifyAutomaton", spec := "fnExactSimplifyAutomaton", unfollowed := true, recurses := true, plainKeys := false, apart := false, narrowed := true }
def FnExactSimplifyAutomatonUptoSaid : Prop := fnExactSimplifyAutomatonUptoRow.holds Try.pinned (OpenSpec.upto fnExactSimplifyAutomatonSpec)

/-- 'laws.FnExactExtendWord', WHERE WHAT IT READS IS OF BULK AT MOST 1048576: true; the input reads as it did. -/
def fnExactExtendWordUptoRow : OpenClaim := { program := "ytknkjplnngeebaa", sum := "85271ebfcfb675fc647d6e51554302714d15ffaff2f8f78ae70e92c69871dcb8", func := "loop.example/ltlcheck/laws.FnExactExtendWord", spec := "fnExactExtendWord", unfollowed := true, recurses := true, plainKeys := false, apart := false, narrowed := true }
def FnExactExtendWordUptoSaid : Prop := fnExactExtendWordUptoRow.holds Try.pinned (OpenSpec.upto fnExactExtendWordSpec)

end Rows
end Go.Proofs.Ytknkjplnngeebaa
