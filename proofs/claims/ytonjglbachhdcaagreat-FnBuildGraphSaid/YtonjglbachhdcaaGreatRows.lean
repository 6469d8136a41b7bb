/-
  No cell of these rows narrows 'for every input' (looked for: loops, veiled, ifaces, maps, wideKeys, modest, calm, conditions, laid).
  DERIVED. THE GIVEN ROWS OF THIS SEAT. 3 by the template 'for every input the law returns true; each argument reads behind the call as it read before'; 0 by the template 'total and deterministic' (their statements: YtonjglbachhdcaaGreatTotals.lean).
  GIVEN WITH THE SEED: the statements are not yours to turn. If you find one false, say at which input.
  Laid BY PROGRAM, IN A SANDBOX (cutbox-rows.mjs): the forced cells as the released guide's own fill.sh prints them over the translation 8555a09a5d692682… (all of the seat's roots in one cut). By AI agents, Wed Nov 11 2026. No macro, syntax, notation, axiom, sorry.
-/
import Derived.Test.YtonjglbachhdcaaGreatChecked
import GoSem.Claim
import GoSem.ClaimJoined
import GoSem.ClaimMapViews
import Derived.JoinedTies
import Derived.KernelRfl
namespace Go.Proofs.YtonjglbachhdcaaGreat
/- THE CELL 'sum', in the pinned program and in every row, IS THE sha256 OF THE DUMP (.gsa) THAT YtonjglbachhdcaaGreatProg.lean LOADS. Nothing in Lean hashes anything: it is a label: what it is worth is what the hold of that sum in a sandbox is worth. -/
noncomputable def Tryz.pinned : Pinned := { name := "ytonjglbachhdcaagreat", sum := "8555a09a5d692682fce899babe3005fbeedc4ca1566754e43717ce99ed958207", checked := Tryz.checked }
namespace Rows
def none {H : Type} : Left H := { results := [], args := [] }

/-- 'laws.FnCheckDeadlock': WHATEVER THE INPUT: true; the input reads as it did. -/
def fnCheckDeadlockSpec : ChangeSpec := { name := "fnCheckDeadlock", fn := fun _ => fun
  | [d] => { results := [.lit (.bool true)], args := [d] }
  | _ => none }
def fnCheckDeadlockRow : OpenClaim := { program := "ytonjglbachhdcaagreat", sum := "8555a09a5d692682fce899babe3005fbeedc4ca1566754e43717ce99ed958207", func := "loop.example/ltlcheck/laws.FnCheckDeadlock", spec := "fnCheckDeadlock", unfollowed := true, recurses := true, apart := false }
def FnCheckDeadlockSaid : Prop := fnCheckDeadlockRow.holds Tryz.pinned (OpenSpec.ofChange fnCheckDeadlockSpec)

/-- ITS FALSE NEIGHBOUR: 'it returns false'. Refute it at one input. -/
def fnCheckDeadlockWrong : ChangeSpec := { name := "fnCheckDeadlock", fn := fun _ => fun
  | [d] => { results := [.lit (.bool false)], args := [d] }
  | _ => none }
def FnCheckDeadlockWrongFalsely : Prop := fnCheckDeadlockRow.holds Tryz.pinned (OpenSpec.ofChange fnCheckDeadlockWrong)

/-- 'laws.FnBuildGraph': WHATEVER THE INPUT: true; the input reads as it did. -/
def fnBuildGraphSpec : ChangeSpec := { name := "fnBuildGraph", fn := fun _ => fun
  | [d] => { results := [.lit (.bool true)], args := [d] }
  | _ => none }
def fnBuildGraphRow : OpenClaim := { program := "ytonjglbachhdcaagreat", sum := "8555a09a5d692682fce899babe3005fbeedc4ca1566754e43717ce99ed958207", func := "loop.example/ltlcheck/laws.FnBuildGraph", spec := "fnBuildGraph", unfollowed := true, recurses := true, apart := false }
def FnBuildGraphSaid : Prop := fnBuildGraphRow.holds Tryz.pinned (OpenSpec.ofChange fnBuildGraphSpec)

/-- ITS FALSE NEIGHBOUR: 'it returns false'. Refute it at one input. -/
def fnBuildGraphWrong : ChangeSpec := { name := "fnBuildGraph", fn := fun _ => fun
  | [d] => { results := [.lit (.bool false)], args := [d] }
  | _ => none }
def FnBuildGraphWrongFalsely : Prop := fnBuildGraphRow.holds Tryz.pinned (OpenSpec.ofChange fnBuildGraphWrong)

/-- 'laws.FnCheckInvariant': WHATEVER THE INPUT: true; the input reads as it did. -/
def fnCheckInvariantSpec : ChangeSpec := { name := "fnCheckInvariant", fn := fun _ => fun
  | [d] => { results := [.lit (.bool true)], args := [d] }
  | _ => none }
def fnCheckInvariantRow : OpenClaim := { program := "ytonjglbachhdcaagreat", sum := "8555a09a5d692682fce899babe3005fbeedc4ca1566754e43717ce99ed958207", func := "loop.example/ltlcheck/laws.FnCheckInvariant", spec := "fnCheckInvariant", unfollowed := true, recurses := true, apart := false }
def FnCheckInvariantSaid : Prop := fnCheckInvariantRow.holds Tryz.pinned (OpenSpec.ofChange fnCheckInvariantSpec)

/-- ITS FALSE NEIGHBOUR: 'it returns false'. Refute it at one input. -/
def fnCheckInvariantWrong : ChangeSpec := { name := "fnCheckInvariant", fn := fun _ => fun
  | [d] => { results := [.lit (.bool false)], args := [d] }
  | _ => none }
def FnCheckInvariantWrongFalsely : Prop := fnCheckInvariantRow.holds Tryz.pinned (OpenSpec.ofChange fnCheckInvariantWrong)

/- THE SECOND FORM. 'bulk': how many values and letters a reading holds, each counted each time it is reached (what is shared counts as often as it is met; a slice's spare places count too). A statement '..UptoSaid' is the law's where the arguments, and the package variables that the reading takes, are together of bulk at most 1048576: NARROWER than '..Said'. Prove '..Said' where nothing that the law and all that it calls make is longer than what came in: it says more and counts as full. Else prove '..UptoSaid'. A law counts once. -/
mutual
def uptoBulk {H : Type} : DataW H → Nat
  | .lit (.string bytes) => bytes.length + 1
  | .lit _ => 1
  | .nil => 1
  | .ptr d => uptoBulk d + 1
  | .slice elems spare => uptoBulkAll elems + uptoBulkAll spare + 1
  | .agg parts => uptoBulkAll parts + 1
  | .iface _ d => uptoBulk d + 1
  | .map entries => uptoBulkEntries entries + 1
  | .held _ => 1
def uptoBulkAll {H : Type} : List (DataW H) → Nat
  | [] => 0
  | d :: r => uptoBulk d + uptoBulkAll r
def uptoBulkEntries {H : Type} : List (Lit × DataW H) → Nat
  | [] => 0
  | x :: r => uptoBulkEntry x + uptoBulkEntries r
def uptoBulkEntry {H : Type} : Lit × DataW H → Nat
  | (.string bytes, d) => bytes.length + uptoBulk d + 1
  | (_, d) => uptoBulk d + 1
 end
def uptoSmall : (H : Type) → List (DataW H) → Bool := fun _ ds => decide (uptoBulkAll ds ≤ 1048576)
def OpenSpec.upto (s : _root_.Go.ChangeSpec) : _root_.Go.OpenSpec := { _root_.Go.OpenSpec.ofChange s with cond := some uptoSmall }

/-- 'laws.FnCheckDeadlock', WHERE WHAT IT READS IS OF BULK AT MOST 1048576: true; the input reads as it did. -/
def fnCheckDeadlockUptoRow : OpenClaim := { program := "ytonjglbachhdcaagreat", sum := "8555a09a5d692682fce899babe3005fbeedc4ca1566754e43717ce99ed958207", func := "loop.example/ltlcheck/laws.FnCheckDeadlock", spec := "fnCheckDeadlock", unfollowed := true, recurses := true, apart := false, narrowed := true }
def FnCheckDeadlockUptoSaid : Prop := fnCheckDeadlockUptoRow.holds Tryz.pinned (OpenSpec.upto fnCheckDeadlockSpec)

/-- 'laws.FnBuildGraph', WHERE WHAT IT READS IS OF BULK AT MOST 1048576: true; the input reads as it did. -/
def fnBuildGraphUptoRow : OpenClaim := { program := "ytonjglbachhdcaagreat", sum := "8555a09a5d692682fce899babe3005fbeedc4ca1566754e43717ce99ed958207", func := "loop.example/ltlcheck/laws.FnBuildGraph", spec := "fnBuildGraph", unfollowed := true, recurses := true, apart := false, narrowed := true }
def FnBuildGraphUptoSaid : Prop := fnBuildGraphUptoRow.holds Tryz.pinned (OpenSpec.upto fnBuildGraphSpec)

/-- 'laws.FnCheckInvariant', WHERE WHAT IT READS IS OF BULK AT MOST 1048576: true; the input reads as it did. -/
def fnCheckInvariantUptoRow : OpenClaim := { program := "ytonjglbachhdcaagreat", sum := "8555a09a5d692682fce899babe3005fbeedc4ca1566754e43717ce99ed958207", func := "loop.example/ltlcheck/laws.FnCheckInvariant", spec := "fnCheckInvariant", unfollowed := true, recurses := true, apart := false, narrowed := true }
def FnCheckInvariantUptoSaid : Prop := fnCheckInvariantUptoRow.holds Tryz.pinned (OpenSpec.upto fnCheckInvariantSpec)

end Rows
end Go.Proofs.YtonjglbachhdcaaGreat
