/-
  No cell of these rows narrows 'for every input' (looked for: loops, veiled, ifaces, maps, wideKeys, modest, calm, conditions, laid).
  DERIVED. THE GIVEN ROWS OF THIS SEAT. 4 by the template 'for every input the law returns true; each argument reads behind the call as it read before'; 0 by the template 'total and deterministic' (their statements: YtedbaenahnfhfaaGreatTotals.lean).
  GIVEN WITH THE SEED: the statements are not yours to turn. If you find one false, say at which input.
  Laid BY PROGRAM, IN A SANDBOX (cutbox-rows.mjs): the forced cells as the released guide's own fill.sh prints them over the translation 5c11d8d5e21bacde… (all of the seat's roots in one cut). By AI agents, Wed Nov 11 2026. No macro, syntax, notation, axiom, sorry.
-/
import Derived.Test.YtedbaenahnfhfaaGreatChecked
import GoSem.Claim
import GoSem.ClaimJoined
import GoSem.ClaimMapViews
import Derived.JoinedTies
import Derived.KernelRfl
namespace Go.Proofs.YtedbaenahnfhfaaGreat
/- THE CELL 'sum', in the pinned program and in every row, IS THE sha256 OF THE DUMP (.gsa) THAT YtedbaenahnfhfaaGreatProg.lean LOADS. Nothing in Lean hashes anything: it is a label: what it is worth is what the hold of that sum in a sandbox is worth. -/
noncomputable def Tryz.pinned : Pinned := { name := "ytedbaenahnfhfaagreat", sum := "5c11d8d5e21bacde8ec61878965e32046136fadd6771de658d0e88a58777f7cb", checked := Tryz.checked }
namespace Rows
def none {H : Type} : Left H := { results := [], args := [] }

/-- 'laws.FnMonitorRun': WHATEVER THE INPUT: true; the input reads as it did. -/
def fnMonitorRunSpec : ChangeSpec := { name := "fnMonitorRun", fn := fun _ => fun
  | [d] => { results := [.lit (.bool true)], args := [d] }
  | _ => none }
def fnMonitorRunRow : OpenClaim := { program := "ytedbaenahnfhfaagreat", sum := "5c11d8d5e21bacde8ec61878965e32046136fadd6771de658d0e88a58777f7cb", func := "loop.example/ltlcheck/laws.FnMonitorRun", spec := "fnMonitorRun", unfollowed := true, recurses := true, plainKeys := false, apart := false }
def FnMonitorRunSaid : Prop := fnMonitorRunRow.holds Tryz.pinned (OpenSpec.ofChange fnMonitorRunSpec)

/-- ITS FALSE NEIGHBOUR: 'it returns false'. Refute it at one input. -/
def fnMonitorRunWrong : ChangeSpec := { name := "fnMonitorRun", fn := fun _ => fun
  | [d] => { results := [.lit (.bool false)], args := [d] }
  | _ => none }
def FnMonitorRunWrongFalsely : Prop := fnMonitorRunRow.holds Tryz.pinned (OpenSpec.ofChange fnMonitorRunWrong)

/-- 'laws.FnMonitorFormula': WHATEVER THE INPUT: true; the input reads as it did. -/
def fnMonitorFormulaSpec : ChangeSpec := { name := "fnMonitorFormula", fn := fun _ => fun
  | [d1, d2] => { results := [.lit (.bool true)], args := [d1, d2] }
  | _ => none }
def fnMonitorFormulaRow : OpenClaim := { program := "ytedbaenahnfhfaagreat", sum := "5c11d8d5e21bacde8ec61878965e32046136fadd6771de658d0e88a58777f7cb", func := "loop.example/ltlcheck/laws.FnMonitorFormula", spec := "fnMonitorFormula", unfollowed := true, recurses := true, plainKeys := false, apart := false }
def FnMonitorFormulaSaid : Prop := fnMonitorFormulaRow.holds Tryz.pinned (OpenSpec.ofChange fnMonitorFormulaSpec)

/-- ITS FALSE NEIGHBOUR: 'it returns false'. Refute it at one input. -/
def fnMonitorFormulaWrong : ChangeSpec := { name := "fnMonitorFormula", fn := fun _ => fun
  | [d1, d2] => { results := [.lit (.bool false)], args := [d1, d2] }
  | _ => none }
def FnMonitorFormulaWrongFalsely : Prop := fnMonitorFormulaRow.holds Tryz.pinned (OpenSpec.ofChange fnMonitorFormulaWrong)

/-- 'laws.FnMonitorWeaker': WHATEVER THE INPUT: true; the input reads as it did. -/
def fnMonitorWeakerSpec : ChangeSpec := { name := "fnMonitorWeaker", fn := fun _ => fun
  | [d1, d2] => { results := [.lit (.bool true)], args := [d1, d2] }
  | _ => none }
def fnMonitorWeakerRow : OpenClaim := { program := "ytedbaenahnfhfaagreat", sum := "5c11d8d5e21bacde8ec61878965e32046136fadd6771de658d0e88a58777f7cb", func := "loop.example/ltlcheck/laws.FnMonitorWeaker", spec := "fnMonitorWeaker", unfollowed := true, recurses := true, plainKeys := false, apart := false }
def FnMonitorWeakerSaid : Prop := fnMonitorWeakerRow.holds Tryz.pinned (OpenSpec.ofChange fnMonitorWeakerSpec)

/-- ITS FALSE NEIGHBOUR: 'it returns false'. Refute it at one input. -/
def fnMonitorWeakerWrong : ChangeSpec := { name := "fnMonitorWeaker", fn := fun _ => fun
  | [d1, d2] => { results := [.lit (.bool false)], args := [d1, d2] }
  | _ => none }
def FnMonitorWeakerWrongFalsely : Prop := fnMonitorWeakerRow.holds Tryz.pinned (OpenSpec.ofChange fnMonitorWeakerWrong)

/-- 'laws.FnMonitorOpen': WHATEVER THE INPUT: true; the input reads as it did. -/
def fnMonitorOpenSpec : ChangeSpec := { name := "fnMonitorOpen", fn := fun _ => fun
  | [d] => { results := [.lit (.bool true)], args := [d] }
  | _ => none }
def fnMonitorOpenRow : OpenClaim := { program := "ytedbaenahnfhfaagreat", sum := "5c11d8d5e21bacde8ec61878965e32046136fadd6771de658d0e88a58777f7cb", func := "loop.example/ltlcheck/laws.FnMonitorOpen", spec := "fnMonitorOpen", unfollowed := true, recurses := true, plainKeys := false, apart := false }
def FnMonitorOpenSaid : Prop := fnMonitorOpenRow.holds Tryz.pinned (OpenSpec.ofChange fnMonitorOpenSpec)

/-- ITS FALSE NEIGHBOUR: 'it returns false'. Refute it at one input. -/
def fnMonitorOpenWrong : ChangeSpec := { name := "fnMonitorOpen", fn := fun _ => fun
  | [d] => { results := [.lit (.bool false)], args := [d] }
  | _ => none }
def FnMonitorOpenWrongFalsely : Prop := fnMonitorOpenRow.holds Tryz.pinned (OpenSpec.ofChange fnMonitorOpenWrong)

/- THE SECOND FORM. 'bulk': how many values and letters a reading holds, each counted each time it is reached (what is shared counts as often as it is met; a slice's spare places count too). A statement '..UptoSaid' is the law's where the arguments, and the package variables that the reading takes, are together of bulk at most 1048576: NARROWER than '..Said'. Prove '..Said' where nothing that the law and all that it calls make is longer than what came in: it says more and counts as full. Else prove '..UptoSaid'. A law counts once. -/
mutual
def uptoBulk {H : Type} : DataW H → Nat
  | .lit (.string bytes) => bytes.length + 1
  | .lit _ => 1
  | .nil => 1
  | .ptr d => uptoBulk d + 1
  | .slice elems spare => uptoBulkAll elems + uptoBulkAll spare + 1
  | .agg parts => uptoBulkAll parts + 1
  | .iface _ d => uptoBulk d + 1
  | .map entries => uptoBulkEntries entries + 1
  | .held _ => 1
def uptoBulkAll {H : Type} : List (DataW H) → Nat
  | [] => 0
  | d :: r => uptoBulk d + uptoBulkAll r
def uptoBulkEntries {H : Type} : List (Lit × DataW H) → Nat
  | [] => 0
  | x :: r => uptoBulkEntry x + uptoBulkEntries r
def uptoBulkEntry {H : Type} : Lit × DataW H → Nat
  | (.string bytes, d) => bytes.length + uptoBulk d + 1
  | (_, d) => uptoBulk d + 1
 end
def uptoSmall : (H : Type) → List (DataW H) → Bool := fun _ ds => decide (uptoBulkAll ds ≤ 1048576)
def OpenSpec.upto (s : _root_.Go.ChangeSpec) : _root_.Go.OpenSpec := { _root_.Go.OpenSpec.ofChange s with cond := some uptoSmall }

/-- 'laws.FnMonitorRun', WHERE WHAT IT READS IS OF BULK AT MOST 1048576: true; the input reads as it did. -/
def fnMonitorRunUptoRow : OpenClaim := { program := "ytedbaenahnfhfaagreat", sum := "5c11d8d5e21bacde8ec61878965e32046136fadd6771de658d0e88a58777f7cb", func := "loop.example/ltlcheck/laws.FnMonitorRun", spec := "fnMonitorRun", unfollowed := true, recurses := true, plainKeys := false, apart := false, narrowed := true }
def FnMonitorRunUptoSaid : Prop := fnMonitorRunUptoRow.holds Tryz.pinned (OpenSpec.upto fnMonitorRunSpec)

/-- 'laws.FnMonitorFormula', WHERE WHAT IT READS IS OF BULK AT MOST 1048576: true; the input reads as it did. -/
def fnMonitorFormulaUptoRow : OpenClaim := { program := "ytedbaenahnfhfaagreat", sum := "5c11d8d5e21bacde8ec61878965e32046136fadd6771de658d0e88a58777f7cb", func := "loop.example/ltlcheck/laws.FnMonitorFormula", spec := "fnMonitorFormula", unfollowed := true, recurses := true, plainKeys := false, apart := false, narrowed := true }
def FnMonitorFormulaUptoSaid : Prop := fnMonitorFormulaUptoRow.holds Tryz.pinned (OpenSpec.upto fnMonitorFormulaSpec)

/-- 'laws.FnMonitorWeaker', WHERE WHAT IT READS IS OF BULK AT MOST 1048576: true; the input reads as it did. -/
def fnMonitorWeakerUptoRow : OpenClaim := { program := "ytedbaenahnfhfaagreat", sum := "5c11d8d5e21bacde8ec61878965e32046136fadd6771de658d0e88a58777f7cb", func := "loop.example/ltlcheck/laws.FnMonitorWeaker", spec := "fnMonitorWeaker", unfollowed := true, recurses := true, plainKeys := false, apart := false, narrowed := true }
def FnMonitorWeakerUptoSaid : Prop := fnMonitorWeakerUptoRow.holds Tryz.pinned (OpenSpec.upto fnMonitorWeakerSpec)

/-- 'laws.FnMonitorOpen', WHERE WHAT IT READS IS OF BULK AT MOST 1048576: true; the input reads as it did. -/
def fnMonitorOpenUptoRow : OpenClaim := { program := "ytedbaenahnfhfaagreat", sum := "5c11d8d5e21bacde8ec61878965e32046136fadd6771de658d0e88a58777f7cb", func := "loop.example/ltlcheck/laws.FnMonitorOpen", spec := "fnMonitorOpen", unfollowed := true, recurses := true, plainKeys := false, apart := false, narrowed := true }
def FnMonitorOpenUptoSaid : Prop := fnMonitorOpenUptoRow.holds Tryz.pinned (OpenSpec.upto fnMonitorOpenSpec)

end Rows
end Go.Proofs.YtedbaenahnfhfaaGreat
