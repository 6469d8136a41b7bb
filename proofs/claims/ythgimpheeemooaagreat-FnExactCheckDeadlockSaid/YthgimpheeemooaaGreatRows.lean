/-
  NARROWER THAN 'FOR EVERY INPUT', by the rows' own cells (each row's printed sentence says how): FnExactDeadEdges: loops · FnExactBuildGraph: loops · FnExactCheckInvariant: loops · FnExactCheckDeadlock: loops.
  DERIVED. THE GIVEN ROWS OF THIS SEAT. 4 by the template 'for every input the law returns true; each argument reads behind the call as it read before'; 0 by the template 'total and deterministic' (their statements: YthgimpheeemooaaGreatTotals.lean).
  GIVEN WITH THE SEED: the statements are not yours to turn. If you find one false, say at which input.
  Laid BY PROGRAM, IN A SANDBOX (cutbox-rows.mjs): the forced cells as the released guide's own fill.sh prints them over the translation dac2f6a2103e677a… (all of the seat's roots in one cut). By AI agents, Wed Nov 11 2026. No macro, syntax, notation, axiom, sorry.
-/
import Derived.Test.YthgimpheeemooaaGreatChecked
import GoSem.Claim
import GoSem.ClaimJoined
import GoSem.ClaimMapViews
import Derived.JoinedTies
import Derived.KernelRfl
namespace Go.Proofs.YthgimpheeemooaaGreat
/- THE CELL 'sum', in the pinned program and in every row, IS THE sha256 OF THE DUMP (.gsa) THAT YthgimpheeemooaaGreatProg.lean LOADS. Nothing in Lean hashes anything: it is a label: what it is worth is what the hold of that sum in a sandbox is worth. -/
noncomputable def Tryz.pinned : Pinned := { name := "ythgimpheeemooaagreat", sum := "dac2f6a2103e677ab8c20ec9e38a05988060b87babb90c76e1ce59f3b0f7594b", checked := Tryz.checked }
namespace Rows
def none {H : Type} : Left H := { results := [], args := [] }

/-- 'laws.FnExactDeadEdges': WHATEVER THE INPUT: true; the input reads as it did. -/
def fnExactDeadEdgesSpec : ChangeSpec := { name := "fnExactDeadEdges", fn := fun _ => fun
  | [d1, d2] => { results := [.lit (.bool true)], args := [d1, d2] }
  | _ => none }
def fnExactDeadEdgesRow : OpenClaim := { program := "ythgimpheeemooaagreat", sum := "dac2f6a2103e677ab8c20ec9e38a05988060b87babb90c76e1ce59f3b0f7594b", func := "loop.example/ltlcheck/laws.FnExactDeadEdges", spec := "fnExactDeadEdges", unfollowed := true, recurses := true, loops := true, apart := false }
def FnExactDeadEdgesSaid : Prop := fnExactDeadEdgesRow.holds Tryz.pinned (OpenSpec.ofChange fnExactDeadEdgesSpec)

/-- ITS FALSE NEIGHBOUR: 'it returns false'. Refute it at one input. -/
def fnExactDeadEdgesWrong : ChangeSpec := { name := "fnExactDeadEdges", fn := fun _ => fun
  | [d1, d2] => { results := [.lit (.bool false)], args := [d1, d2] }
  | _ => none }
def FnExactDeadEdgesWrongFalsely : Prop := fnExactDeadEdgesRow.holds Tryz.pinned (OpenSpec.ofChange fnExactDeadEdgesWrong)

/-- 'laws.FnExactBuildGraph': WHATEVER THE INPUT: true; the input reads as it did. -/
def fnExactBuildGraphSpec : ChangeSpec := { name := "fnExactBuildGraph", fn := fun _ => fun
  | [d] => { results := [.lit (.bool true)], args := [d] }
  | _ => none }
def fnExactBuildGraphRow : OpenClaim := { program := "ythgimpheeemooaagreat", sum := "dac2f6a2103e677ab8c20ec9e38a05988060b87babb90c76e1ce59f3b0f7594b", func := "loop.example/ltlcheck/laws.FnExactBuildGraph", spec := "fnExactBuildGraph", unfollowed := true, recurses := true, loops := true, apart := false }
def FnExactBuildGraphSaid : Prop := fnExactBuildGraphRow.holds Tryz.pinned (OpenSpec.ofChange fnExactBuildGraphSpec)

/-- ITS FALSE NEIGHBOUR: 'it returns false'. Refute it at one input. -/
def fnExactBuildGraphWrong : ChangeSpec := { name := "fnExactBuildGraph", fn := fun _ => fun
  | [d] => { results := [.lit (.bool false)], args := [d] }
  | _ => none }
def FnExactBuildGraphWrongFalsely : Prop := fnExactBuildGraphRow.holds Tryz.pinned (OpenSpec.ofChange fnExactBuildGraphWrong)

/-- 'laws.FnExactCheckInvariant': WHATEVER THE INPUT: true; the input reads as it did. -/
def fnExactCheckInvariantSpec : ChangeSpec := { name := "fnExactCheckInvariant", fn := fun _ => fun
  | [d1, d2] => { results := [.lit (.bool true)], args := [d1, d2] }
  | _ => none }
def fnExactCheckInvariantRow : OpenClaim := { program := "ythgimpheeemooaagreat", sum := "dac2f6a2103e677ab8c20ec9e38a05988060b87babb90c76e1ce59f3b0f7594b", func := "loop.example/ltlcheck/laws.FnExactCheckInvariant", spec := "fnExactCheckInvariant", unfollowed := true, recurses := true, loops := true, apart := false }
def FnExactCheckInvariantSaid : Prop := fnExactCheckInvariantRow.holds Tryz.pinned (OpenSpec.ofChange fnExactCheckInvariantSpec)

/-- ITS FALSE NEIGHBOUR: 'it returns false'. Refute it at one input. -/
def fnExactCheckInvariantWrong : ChangeSpec := { name := "fnExactCheckInvariant", fn := fun _ => fun
  | [d1, d2] => { results := [.lit (.bool false)], args := [d1, d2] }
  | _ => none }
def FnExactCheckInvariantWrongFalsely : Prop := fnExactCheckInvariantRow.holds Tryz.pinned (OpenSpec.ofChange fnExactCheckInvariantWrong)

/-- 'laws.FnExactCheckDeadlock': WHATEVER THE INPUT: true; the input reads as it did. -/
def fnExactCheckDeadlockSpec : ChangeSpec := { name := "fnExactCheckDeadlock", fn := fun _ => fun
  | [d] => { results := [.lit (.bool true)], args := [d] }
  | _ => none }
def fnExactCheckDeadlockRow : OpenClaim := { program := "ythgimpheeemooaagreat", sum := "dac2f6a2103e677ab8c20ec9e38a05988060b87babb90c76e1ce59f3b0f7594b", func := "loop.example/ltlcheck/laws.FnExactCheckDeadlock", spec := "fnExactCheckDeadlock", unfollowed := true, recurses := true, loops := true, apart := false }
def FnExactCheckDeadlockSaid : Prop := fnExactCheckDeadlockRow.holds Tryz.pinned (OpenSpec.ofChange fnExactCheckDeadlockSpec)

/-- ITS FALSE NEIGHBOUR: 'it returns false'. Refute it at one input. -/
def fnExactCheckDeadlockWrong : ChangeSpec := { name := "fnExactCheckDeadlock", fn := fun _ => fun
  | [d] => { results := [.lit (.bool false)], args := [d] }
  | _ => none }
def FnExactCheckDeadlockWrongFalsely : Prop := fnExactCheckDeadlockRow.holds Tryz.pinned (OpenSpec.ofChange fnExactCheckDeadlockWrong)

/- THE SECOND FORM. 'bulk': how many values and letters a reading holds, each counted each time it is reached (what is shared counts as often as it is met; a slice's spare places count too). A statement '..UptoSaid' is the law's where the arguments, and the package variables that the reading takes, are together of bulk at most 1048576: NARROWER than '..Said'. Prove '..Said' where nothing that the law and all that it calls make is longer than what came in: it says more and counts as full. Else prove '..UptoSaid'. A law counts once. -/
mutual
def uptoBulk {H : Type} : DataW H → Nat
  | .lit (.string bytes) => bytes.length + 1
  | .lit _ => 1
  | .nil => 1
  | .ptr d => uptoBulk d + 1
  | .slice elems spare => uptoBulkAll elems + uptoBulkAll spare + 1
  | .agg parts => uptoBulkAll parts + 1
  | .iface _ d => uptoBulk d + 1
  | .map entries => uptoBulkEntries entries + 1
  | .held _ => 1
def uptoBulkAll {H : Type} : List (DataW H) → Nat
  | [] => 0
  | d :: r => uptoBulk d + uptoBulkAll r
def uptoBulkEntries {H : Type} : List (Lit × DataW H) → Nat
  | [] => 0
  | x :: r => uptoBulkEntry x + uptoBulkEntries r
def uptoBulkEntry {H : Type} : Lit × DataW H → Nat
  | (.string bytes, d) => bytes.length + uptoBulk d + 1
  | (_, d) => uptoBulk d + 1
 end
def uptoSmall : (H : Type) → List (DataW H) → Bool := fun _ ds => decide (uptoBulkAll ds ≤ 1048576)
def OpenSpec.upto (s : _root_.Go.ChangeSpec) : _root_.Go.OpenSpec := { _root_.Go.OpenSpec.ofChange s with cond := some uptoSmall }

/-- 'laws.FnExactDeadEdges', WHERE WHAT IT READS IS OF BULK AT MOST 1048576: true; the input reads as it did. -/
def fnExactDeadEdgesUptoRow : OpenClaim := { program := "ythgimpheeemooaagreat", sum := "dac2f6a2103e677ab8c20ec9e38a05988060b87babb90c76e1ce59f3b0f7594b", func := "loop.example/ltlcheck/laws.FnExactDeadEdges", spec := "fnExactDeadEdges", unfollowed := true, recurses := true, loops := true, apart := false, narrowed := true }
def FnExactDeadEdgesUptoSaid : Prop := fnExactDeadEdgesUptoRow.holds Tryz.pinned (OpenSpec.upto fnExactDeadEdgesSpec)

/-- 'laws.FnExactBuildGraph', WHERE WHAT IT READS IS OF BULK AT MOST 1048576: true; the input reads as it did. -/
def fnExactBuildGraphUptoRow : OpenClaim := { program := "ythgimpheeemooaagreat", sum := "dac2f6a2103e677ab8c20ec9e38a05988060b87babb90c76e1ce59f3b0f7594b", func := "loop.example/ltlcheck/laws.FnExactBuildGraph", spec := "fnExactBuildGraph", unfollowed := true, recurses := true, loops := true, apart := false, narrowed := true }
def FnExactBuildGraphUptoSaid : Prop := fnExactBuildGraphUptoRow.holds Tryz.pinned (OpenSpec.upto fnExactBuildGraphSpec)

/-- 'laws.FnExactCheckInvariant', WHERE WHAT IT READS IS OF BULK AT MOST 1048576: true; the input reads as it did. -/
def fnExactCheckInvariantUptoRow : OpenClaim := { program := "ythgimpheeemooaagreat", sum := "dac2f6a2103e677ab8c20ec9e38a05988060b87babb90c76e1ce59f3b0f7594b", func := "loop.example/ltlcheck/laws.FnExactCheckInvariant", spec := "fnExactCheckInvariant", unfollowed := true, recurses := true, loops := true, apart := false, narrowed := true }
def FnExactCheckInvariantUptoSaid : Prop := fnExactCheckInvariantUptoRow.holds Tryz.pinned (OpenSpec.upto fnExactCheckInvariantSpec)

/-- 'laws.FnExactCheckDeadlock', WHERE WHAT IT READS IS OF BULK AT MOST 1048576: true; the input reads as it did. -/
def fnExactCheckDeadlockUptoRow : OpenClaim := { program := "ythgimpheeemooaagreat", sum := "dac2f6a2103e677ab8c20ec9e38a05988060b87babb90c76e1ce59f3b0f7594b", func := "loop.example/ltlcheck/laws.FnExactCheckDeadlock", spec := "fnExactCheckDeadlock", unfollowed := true, recurses := true, loops := true, apart := false, narrowed := true }
def FnExactCheckDeadlockUptoSaid : Prop := fnExactCheckDeadlockUptoRow.holds Tryz.pinned (OpenSpec.upto fnExactCheckDeadlockSpec)

end Rows
end Go.Proofs.YthgimpheeemooaaGreat
