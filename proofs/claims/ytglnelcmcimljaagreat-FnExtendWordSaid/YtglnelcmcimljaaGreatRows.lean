/-
  No cell of these rows narrows 'for every input' (looked for: loops, veiled, ifaces, maps, wideKeys, modest, calm, conditions, laid).
  DERIVED. THE GIVEN ROWS OF THIS SEAT. 4 by the template 'for every input the law returns true; each argument reads behind the call as it read before'; 0 by the template 'total and deterministic' (their statements: YtglnelcmcimljaaGreatTotals.lean).
  GIVEN WITH THE SEED: the statements are not yours to turn. If you find one false, say at which input.
  Laid BY PROGRAM, IN A SANDBOX (cutbox-rows.mjs): the forced cells as the released guide's own fill.sh prints them over the translation 36a8c3512b9f440f… (all of the seat's roots in one cut). By AI agents, Wed Nov 11 2026. No macro, syntax, notation, axiom, sorry.
-/
import Derived.Test.YtglnelcmcimljaaGreatChecked
import GoSem.Claim
import GoSem.ClaimJoined
import GoSem.ClaimMapViews
import Derived.JoinedTies
import Derived.KernelRfl
namespace Go.Proofs.YtglnelcmcimljaaGreat
/- THE CELL 'sum', in the pinned program and in every row, IS THE sha256 OF THE DUMP (.gsa) THAT YtglnelcmcimljaaGreatProg.lean LOADS. Nothing in Lean hashes anything: it is a label: what it is worth is what the hold of that sum in a sandbox is worth. -/
noncomputable def Tryz.pinned : Pinned := { name := "ytglnelcmcimljaagreat", sum := "36a8c3512b9f440f47e0f1de94bbe93c28019287b8e4b4915d8e9f081bf95ce6", checked := Tryz.checked }
namespace Rows
def none {H : Type} : Left H := { results := [], args := [] }

/-- 'laws.FnPrefixStates': WHATEVER THE INPUT: true; the input reads as it did. -/
def fnPrefixStatesSpec : ChangeSpec := { name := "fnPrefixStates", fn := fun _ => fun
  | [d] => { results := [.lit (.bool true)], args := [d] }
  | _ => none }
def fnPrefixStatesRow : OpenClaim := { program := "ytglnelcmcimljaagreat", sum := "36a8c3512b9f440f47e0f1de94bbe93c28019287b8e4b4915d8e9f081bf95ce6", func := "loop.example/ltlcheck/laws.FnPrefixStates", spec := "fnPrefixStates", unfollowed := true, recurses := true, plainKeys := false, apart := false }
def FnPrefixStatesSaid : Prop := fnPrefixStatesRow.holds Tryz.pinned (OpenSpec.ofChange fnPrefixStatesSpec)

/-- ITS FALSE NEIGHBOUR: 'it returns false'. Refute it at one input. -/
def fnPrefixStatesWrong : ChangeSpec := { name := "fnPrefixStates", fn := fun _ => fun
  | [d] => { results := [.lit (.bool false)], args := [d] }
  | _ => none }
def FnPrefixStatesWrongFalsely : Prop := fnPrefixStatesRow.holds Tryz.pinned (OpenSpec.ofChange fnPrefixStatesWrong)

/-- 'laws.FnMergeStates': WHATEVER THE INPUT: true; the input reads as it did. -/
def fnMergeStatesSpec : ChangeSpec := { name := "fnMergeStates", fn := fun _ => fun
  | [d1, d2] => { results := [.lit (.bool true)], args := [d1, d2] }
  | _ => none }
def fnMergeStatesRow : OpenClaim := { program := "ytglnelcmcimljaagreat", sum := "36a8c3512b9f440f47e0f1de94bbe93c28019287b8e4b4915d8e9f081bf95ce6", func := "loop.example/ltlcheck/laws.FnMergeStates", spec := "fnMergeStates", unfollowed := true, recurses := true, plainKeys := false, apart := false }
def FnMergeStatesSaid : Prop := fnMergeStatesRow.holds Tryz.pinned (OpenSpec.ofChange fnMergeStatesSpec)

/-- ITS FALSE NEIGHBOUR: 'it returns false'. Refute it at one input. -/
def fnMergeStatesWrong : ChangeSpec := { name := "fnMergeStates", fn := fun _ => fun
  | [d1, d2] => { results := [.lit (.bool false)], args := [d1, d2] }
  | _ => none }
def FnMergeStatesWrongFalsely : Prop := fnMergeStatesRow.holds Tryz.pinned (OpenSpec.ofChange fnMergeStatesWrong)

/-- 'laws.FnSimplifyAutomaton': WHATEVER THE INPUT: true; the input reads as it did. -/
def fnSimplifyAutomatonSpec : ChangeSpec := { name := "fnSimplifyAutomaton", fn := fun _ => fun
  | [d1, d2] => { results := [.lit (.bool true)], args := [d1, d2] }
  | _ => none }
def fnSimplifyAutomatonRow : OpenClaim := { program := "ytglnelcmcimljaagreat", sum := "36a8c3512b9f440f47e0f1de94bbe93c28019287b8e4b4915d8e9f081bf95ce6", func := "loop.example/ltlcheck/laws.FnSimplifyAutomaton", spec := "fnSimplifyAutomaton", unfollowed := true, recurses := true, plainKeys := false, apart := false }
def FnSimplifyAutomatonSaid : Prop := fnSimplifyAutomatonRow.holds Tryz.pinned (OpenSpec.ofChange fnSimplifyAutomatonSpec)

/-- ITS FALSE NEIGHBOUR: 'it returns false'. Refute it at one input. -/
def fnSimplifyAutomatonWrong : ChangeSpec := { name := "fnSimplifyAutomaton", fn := fun _ => fun
  | [d1, d2] => { results := [.lit (.bool false)], args := [d1, d2] }
  | _ => none }
def FnSimplifyAutomatonWrongFalsely : Prop := fnSimplifyAutomatonRow.holds Tryz.pinned (OpenSpec.ofChange fnSimplifyAutomatonWrong)

/-- 'laws.FnExtendWord': WHATEVER THE INPUT: true; the input reads as it did. -/
def fnExtendWordSpec : ChangeSpec := { name := "fnExtendWord", fn := fun _ => fun
  | [d] => { results := [.lit (.bool true)], args := [d] }
  | _ => none }
def fnExtendWordRow : OpenClaim := { program := "ytglnelcmcimljaagreat", sum := "36a8c3512b9f440f47e0f1de94bbe93c28019287b8e4b4915d8e9f081bf95ce6", func := "loop.example/ltlcheck/laws.FnExtendWord", spec := "fnExtendWord", unfollowed := true, recurses := true, plainKeys := false, apart := false }
def FnExtendWordSaid : Prop := fnExtendWordRow.holds Tryz.pinned (OpenSpec.ofChange fnExtendWordSpec)

/-- ITS FALSE NEIGHBOUR: 'it returns false'. Refute it at one input. -/
def fnExtendWordWrong : ChangeSpec := { name := "fnExtendWord", fn := fun _ => fun
  | [d] => { results := [.lit (.bool false)], args := [d] }
  | _ => none }
def FnExtendWordWrongFalsely : Prop := fnExtendWordRow.holds Tryz.pinned (OpenSpec.ofChange fnExtendWordWrong)

/- THE SECOND FORM. 'bulk': how many values and letters a reading holds, each counted each time it is reached (what is shared counts as often as it is met; a slice's spare places count too). A statement '..UptoSaid' is the law's where the arguments, and the package variables that the reading takes, are together of bulk at most 1048576: NARROWER than '..Said'. Prove '..Said' where nothing that the law and all that it calls make is longer than what came in: it says more and counts as full. Else prove '..UptoSaid'. A law counts once. -/
mutual
def uptoBulk {H : Type} : DataW H → Nat
  | .lit (.string bytes) => bytes.length + 1
  | .lit _ => 1
  | .nil => 1
  | .ptr d => uptoBulk d + 1
  | .slice elems spare => uptoBulkAll elems + uptoBulkAll spare + 1
  | .agg parts => uptoBulkAll parts + 1
  | .iface _ d => uptoBulk d + 1
  | .map entries => uptoBulkEntries entries + 1
  | .held _ => 1
def uptoBulkAll {H : Type} : List (DataW H) → Nat
  | [] => 0
  | d :: r => uptoBulk d + uptoBulkAll r
def uptoBulkEntries {H : Type} : List (Lit × DataW H) → Nat
  | [] => 0
  | x :: r => uptoBulkEntry x + uptoBulkEntries r
def uptoBulkEntry {H : Type} : Lit × DataW H → Nat
  | (.string bytes, d) => bytes.length + uptoBulk d + 1
  | (_, d) => uptoBulk d + 1
 end
def uptoSmall : (H : Type) → List (DataW H) → Bool := fun _ ds => decide (uptoBulkAll ds ≤ 1048576)
def OpenSpec.upto (s : _root_.Go.ChangeSpec) : _root_.Go.OpenSpec := { _root_.Go.OpenSpec.ofChange s with cond := some uptoSmall }

/-- 'laws.FnPrefixStates', WHERE WHAT IT READS IS OF BULK AT MOST 1048576: true; the input reads as it did. -/
def fnPrefixStatesUptoRow : OpenClaim := { program := "ytglnelcmcimljaagreat", sum := "36a8c3512b9f440f47e0f1de94bbe93c28019287b8e4b4915d8e9f081bf95ce6", func := "loop.example/ltlcheck/laws.FnPrefixStates", spec := "fnPrefixStates", unfollowed := true, recurses := true, plainKeys := false, apart := false, narrowed := true }
def FnPrefixStatesUptoSaid : Prop := fnPrefixStatesUptoRow.holds Tryz.pinned (OpenSpec.upto fnPrefixStatesSpec)

/-- 'laws.FnMergeStates', WHERE WHAT IT READS IS OF BULK AT MOST 1048576: true; the input reads as it did. -/
def fnMergeStatesUptoRow : OpenClaim := { program := "ytglnelcmcimljaagreat", sum := "36a8c3512b9f440f47e0f1de94bbe93c28019287b8e4b4915d8e9f081bf95ce6", func := "loop.example/ltlcheck/laws.FnMergeStates", spec := "fnMergeStates", unfollowed := true, recurses := true, plainKeys := false, apart := false, narrowed := true }
def FnMergeStatesUptoSaid : Prop := fnMergeStatesUptoRow.holds Tryz.pinned (OpenSpec.upto fnMergeStatesSpec)

/-- 'laws.FnSimplifyAutomaton', WHERE WHAT IT READS IS OF BULK AT MOST 1048576: true; the input reads as it did. -/
def fnSimplifyAutomatonUptoRow : OpenClaim := { program := "ytglnelcmcimljaagreat", sum := "36a8c3512b9f440f47e0f1de94bbe93c28019287b8e4b4915d8e9f081bf95ce6", func := "loop.example/ltlcheck/laws.FnSimplifyAutomaton", spec := "fnSimplifyAutomaton", unfollowed := true, recurses := true, plainKeys := false, apart := false, narrowed := true }
def FnSimplifyAutomatonUptoSaid : Prop := fnSimplifyAutomatonUptoRow.holds Tryz.pinned (OpenSpec.upto fnSimplifyAutomatonSpec)

/-- 'laws.FnExtendWord', WHERE WHAT IT READS IS OF BULK AT MOST 1048576: true; the input reads as it did. -/
def fnExtendWordUptoRow : OpenClaim := { program := "ytglnelcmcimljaagreat", sum := "36a8c3512b9f440f47e0f1de94bbe93c28019287b8e4b4915d8e9f081bf95ce6", func := "loop.example/ltlcheck/laws.FnExtendWord", spec := "fnExtendWord", unfollowed := true, recurses := true, plainKeys := false, apart := false, narrowed := true }
def FnExtendWordUptoSaid : Prop := fnExtendWordUptoRow.holds Tryz.pinned (OpenSpec.upto fnExtendWordSpec)

end Rows
end Go.Proofs.YtglnelcmcimljaaGreat
