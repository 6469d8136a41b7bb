/-
  NARROWER THAN 'FOR EVERY INPUT', by the rows' own cells (each row's printed sentence says how): FnExactShortestBad: loops · FnExactMonitorFormula: loops · FnExactMonitorRun: loops.
  DERIVED. THE GIVEN ROWS OF THIS SEAT. 11 by the template 'for every input the law returns true; each argument reads behind the call as it read before'; 0 by the template 'total and deterministic' (their statements: YtbanccfdojgocaaGreatTotals.lean).
  GIVEN WITH THE SEED: the statements are not yours to turn. If you find one false, say at which input.
  Laid BY PROGRAM, IN A SANDBOX (cutbox-rows.mjs): the forced cells as the released guide's own fill.sh prints them over the translation 3558de84cbc6cb1b… (all of the seat's roots in one cut). By AI agents, Wed Nov 11 2026. No macro, syntax, notation, axiom, sorry.
-/
import Derived.Test.YtbanccfdojgocaaGreatChecked
import GoSem.Claim
import GoSem.ClaimJoined
import GoSem.ClaimMapViews
import Derived.JoinedTies
import Derived.KernelRfl
namespace Go.Proofs.YtbanccfdojgocaaGreat
/- THE CELL 'sum', in the pinned program and in every row, IS THE sha256 OF THE DUMP (.gsa) THAT YtbanccfdojgocaaGreatProg.lean LOADS. Nothing in Lean hashes anything: it is a label: what it is worth is what the hold of that sum in a sandbox is worth. -/
noncomputable def Tryz.pinned : Pinned := { name := "ytbanccfdojgocaagreat", sum := "3558de84cbc6cb1b5b04b914ea6bf845e6526e8d92404ebeb0b4e92865918efc", checked := Tryz.checked }
namespace Rows
def none {H : Type} : Left H := { results := [], args := [] }

/-- 'laws.FnTranslateFormula': WHATEVER THE INPUT: true; the input reads as it did. -/
def fnTranslateFormulaSpec : ChangeSpec := { name := "fnTranslateFormula", fn := fun _ => fun
  | [d1, d2] => { results := [.lit (.bool true)], args := [d1, d2] }
  | _ => none }
def fnTranslateFormulaRow : OpenClaim := { program := "ytbanccfdojgocaagreat", sum := "3558de84cbc6cb1b5b04b914ea6bf845e6526e8d92404ebeb0b4e92865918efc", func := "loop.example/ltlcheck/laws.FnTranslateFormula", spec := "fnTranslateFormula", unfollowed := true, recurses := true, plainKeys := false, apart := false }
def FnTranslateFormulaSaid : Prop := fnTranslateFormulaRow.holds Tryz.pinned (OpenSpec.ofChange fnTranslateFormulaSpec)

/-- ITS FALSE NEIGHBOUR: 'it returns false'. Refute it at one input. -/
def fnTranslateFormulaWrong : ChangeSpec := { name := "fnTranslateFormula", fn := fun _ => fun
  | [d1, d2] => { results := [.lit (.bool false)], args := [d1, d2] }
  | _ => none }
def FnTranslateFormulaWrongFalsely : Prop := fnTranslateFormulaRow.holds Tryz.pinned (OpenSpec.ofChange fnTranslateFormulaWrong)

/-- 'laws.FnTranslateEquivalent': WHATEVER THE INPUT: true; the input reads as it did. -/
def fnTranslateEquivalentSpec : ChangeSpec := { name := "fnTranslateEquivalent", fn := fun _ => fun
  | [d1, d2] => { results := [.lit (.bool true)], args := [d1, d2] }
  | _ => none }
def fnTranslateEquivalentRow : OpenClaim := { program := "ytbanccfdojgocaagreat", sum := "3558de84cbc6cb1b5b04b914ea6bf845e6526e8d92404ebeb0b4e92865918efc", func := "loop.example/ltlcheck/laws.FnTranslateEquivalent", spec := "fnTranslateEquivalent", unfollowed := true, recurses := true, plainKeys := false, apart := false }
def FnTranslateEquivalentSaid : Prop := fnTranslateEquivalentRow.holds Tryz.pinned (OpenSpec.ofChange fnTranslateEquivalentSpec)

/-- ITS FALSE NEIGHBOUR: 'it returns false'. Refute it at one input. -/
def fnTranslateEquivalentWrong : ChangeSpec := { name := "fnTranslateEquivalent", fn := fun _ => fun
  | [d1, d2] => { results := [.lit (.bool false)], args := [d1, d2] }
  | _ => none }
def FnTranslateEquivalentWrongFalsely : Prop := fnTranslateEquivalentRow.holds Tryz.pinned (OpenSpec.ofChange fnTranslateEquivalentWrong)

/-- 'laws.FnTranslateNext': WHATEVER THE INPUT: true; the input reads as it did. -/
def fnTranslateNextSpec : ChangeSpec := { name := "fnTranslateNext", fn := fun _ => fun
  | [d1, d2] => { results := [.lit (.bool true)], args := [d1, d2] }
  | _ => none }
def fnTranslateNextRow : OpenClaim := { program := "ytbanccfdojgocaagreat", sum := "3558de84cbc6cb1b5b04b914ea6bf845e6526e8d92404ebeb0b4e92865918efc", func := "loop.example/ltlcheck/laws.FnTranslateNext", spec := "fnTranslateNext", unfollowed := true, recurses := true, plainKeys := false, apart := false }
def FnTranslateNextSaid : Prop := fnTranslateNextRow.holds Tryz.pinned (OpenSpec.ofChange fnTranslateNextSpec)

/-- ITS FALSE NEIGHBOUR: 'it returns false'. Refute it at one input. -/
def fnTranslateNextWrong : ChangeSpec := { name := "fnTranslateNext", fn := fun _ => fun
  | [d1, d2] => { results := [.lit (.bool false)], args := [d1, d2] }
  | _ => none }
def FnTranslateNextWrongFalsely : Prop := fnTranslateNextRow.holds Tryz.pinned (OpenSpec.ofChange fnTranslateNextWrong)

/-- 'laws.FnUnionDistributes': WHATEVER THE INPUT: true; the input reads as it did. -/
def fnUnionDistributesSpec : ChangeSpec := { name := "fnUnionDistributes", fn := fun _ => fun
  | [d1, d2] => { results := [.lit (.bool true)], args := [d1, d2] }
  | _ => none }
def fnUnionDistributesRow : OpenClaim := { program := "ytbanccfdojgocaagreat", sum := "3558de84cbc6cb1b5b04b914ea6bf845e6526e8d92404ebeb0b4e92865918efc", func := "loop.example/ltlcheck/laws.FnUnionDistributes", spec := "fnUnionDistributes", unfollowed := true, recurses := true, plainKeys := false, apart := false }
def FnUnionDistributesSaid : Prop := fnUnionDistributesRow.holds Tryz.pinned (OpenSpec.ofChange fnUnionDistributesSpec)

/-- ITS FALSE NEIGHBOUR: 'it returns false'. Refute it at one input. -/
def fnUnionDistributesWrong : ChangeSpec := { name := "fnUnionDistributes", fn := fun _ => fun
  | [d1, d2] => { results := [.lit (.bool false)], args := [d1, d2] }
  | _ => none }
def FnUnionDistributesWrongFalsely : Prop := fnUnionDistributesRow.holds Tryz.pinned (OpenSpec.ofChange fnUnionDistributesWrong)

/-- 'laws.FnIntersectConjunction': WHATEVER THE INPUT: true; the input reads as it did. -/
def fnIntersectConjunctionSpec : ChangeSpec := { name := "fnIntersectConjunction", fn := fun _ => fun
  | [d1, d2] => { results := [.lit (.bool true)], args := [d1, d2] }
  | _ => none }
def fnIntersectConjunctionRow : OpenClaim := { program := "ytbanccfdojgocaagreat", sum := "3558de84cbc6cb1b5b04b914ea6bf845e6526e8d92404ebeb0b4e92865918efc", func := "loop.example/ltlcheck/laws.FnIntersectConjunction", spec := "fnIntersectConjunction", unfollowed := true, recurses := true, plainKeys := false, apart := false }
def FnIntersectConjunctionSaid : Prop := fnIntersectConjunctionRow.holds Tryz.pinned (OpenSpec.ofChange fnIntersectConjunctionSpec)

/-- ITS FALSE NEIGHBOUR: 'it returns false'. Refute it at one input. -/
def fnIntersectConjunctionWrong : ChangeSpec := { name := "fnIntersectConjunction", fn := fun _ => fun
  | [d1, d2] => { results := [.lit (.bool false)], args := [d1, d2] }
  | _ => none }
def FnIntersectConjunctionWrongFalsely : Prop := fnIntersectConjunctionRow.holds Tryz.pinned (OpenSpec.ofChange fnIntersectConjunctionWrong)

/-- 'laws.FnTranslateNegation': WHATEVER THE INPUT: true; the input reads as it did. -/
def fnTranslateNegationSpec : ChangeSpec := { name := "fnTranslateNegation", fn := fun _ => fun
  | [d1, d2] => { results := [.lit (.bool true)], args := [d1, d2] }
  | _ => none }
def fnTranslateNegationRow : OpenClaim := { program := "ytbanccfdojgocaagreat", sum := "3558de84cbc6cb1b5b04b914ea6bf845e6526e8d92404ebeb0b4e92865918efc", func := "loop.example/ltlcheck/laws.FnTranslateNegation", spec := "fnTranslateNegation", unfollowed := true, recurses := true, plainKeys := false, apart := false }
def FnTranslateNegationSaid : Prop := fnTranslateNegationRow.holds Tryz.pinned (OpenSpec.ofChange fnTranslateNegationSpec)

/-- ITS FALSE NEIGHBOUR: 'it returns false'. Refute it at one input. -/
def fnTranslateNegationWrong : ChangeSpec := { name := "fnTranslateNegation", fn := fun _ => fun
  | [d1, d2] => { results := [.lit (.bool false)], args := [d1, d2] }
  | _ => none }
def FnTranslateNegationWrongFalsely : Prop := fnTranslateNegationRow.holds Tryz.pinned (OpenSpec.ofChange fnTranslateNegationWrong)

/-- 'laws.FnExactShortestBad': WHATEVER THE INPUT: true; the input reads as it did. -/
def fnExactShortestBadSpec : ChangeSpec := { name := "fnExactShortestBad", fn := fun _ => fun
  | [d1, d2] => { results := [.lit (.bool true)], args := [d1, d2] }
  | _ => none }
def fnExactShortestBadRow : OpenClaim := { program := "ytbanccfdojgocaagreat", sum := "3558de84cbc6cb1b5b04b914ea6bf845e6526e8d92404ebeb0b4e92865918efc", func := "loop.example/ltlcheck/laws.FnExactShortestBad", spec := "fnExactShortestBad", unfollowed := true, recurses := true, loops := true, plainKeys := false, apart := false }
def FnExactShortestBadSaid : Prop := fnExactShortestBadRow.holds Tryz.pinned (OpenSpec.ofChange fnExactShortestBadSpec)

/-- ITS FALSE NEIGHBOUR: 'it returns false'. Refute it at one input. -/
def fnExactShortestBadWrong : ChangeSpec := { name := "fnExactShortestBad", fn := fun _ => fun
  | [d1, d2] => { results := [.lit (.bool false)], args := [d1, d2] }
  | _ => none }
def FnExactShortestBadWrongFalsely : Prop := fnExactShortestBadRow.holds Tryz.pinned (OpenSpec.ofChange fnExactShortestBadWrong)

/-- 'laws.FnExactMonitorFormula': WHATEVER THE INPUT: true; the input reads as it did. -/
def fnExactMonitorFormulaSpec : ChangeSpec := { name := "fnExactMonitorFormula", fn := fun _ => fun
  | [d1, d2] => { results := [.lit (.bool true)], args := [d1, d2] }
  | _ => none }
def fnExactMonitorFormulaRow : OpenClaim := { program := "ytbanccfdojgocaagreat", sum := "3558de84cbc6cb1b5b04b914ea6bf845e6526e8d92404ebeb0b4e92865918efc", func := "loop.example/ltlcheck/laws.FnExactMonitorFormula", spec := "fnExactMonitorFormula", unfollowed := true, recurses := true, loops := true, plainKeys := false, apart := false }
def FnExactMonitorFormulaSaid : Prop := fnExactMonitorFormulaRow.holds Tryz.pinned (OpenSpec.ofChange fnExactMonitorFormulaSpec)

/-- ITS FALSE NEIGHBOUR: 'it returns false'. Refute it at one input. -/
def fnExactMonitorFormulaWrong : ChangeSpec := { name := "fnExactMonitorFormula", fn := fun _ => fun
  | [d1, d2] => { results := [.lit (.bool false)], args := [d1, d2] }
  | _ => none }
def FnExactMonitorFormulaWrongFalsely : Prop := fnExactMonitorFormulaRow.holds Tryz.pinned (OpenSpec.ofChange fnExactMonitorFormulaWrong)

/-- 'laws.FnExactMonitorRun': WHATEVER THE INPUT: true; the input reads as it did. -/
def fnExactMonitorRunSpec : ChangeSpec := { name := "fnExactMonitorRun", fn := fun _ => fun
  | [d1, d2] => { results := [.lit (.bool true)], args := [d1, d2] }
  | _ => none }
def fnExactMonitorRunRow : OpenClaim := { program := "ytbanccfdojgocaagreat", sum := "3558de84cbc6cb1b5b04b914ea6bf845e6526e8d92404ebeb0b4e92865918efc", func := "loop.example/ltlcheck/laws.FnExactMonitorRun", spec := "fnExactMonitorRun", unfollowed := true, recurses := true, loops := true, plainKeys := false, apart := false }
def FnExactMonitorRunSaid : Prop := fnExactMonitorRunRow.holds Tryz.pinned (OpenSpec.ofChange fnExactMonitorRunSpec)

/-- ITS FALSE NEIGHBOUR: 'it returns false'. Refute it at one input. -/
def fnExactMonitorRunWrong : ChangeSpec := { name := "fnExactMonitorRun", fn := fun _ => fun
  | [d1, d2] => { results := [.lit (.bool false)], args := [d1, d2] }
  | _ => none }
def FnExactMonitorRunWrongFalsely : Prop := fnExactMonitorRunRow.holds Tryz.pinned (OpenSpec.ofChange fnExactMonitorRunWrong)

/-- 'laws.FnMonitorNegation': WHATEVER THE INPUT: true; the input reads as it did. -/
def fnMonitorNegationSpec : ChangeSpec := { name := "fnMonitorNegation", fn := fun _ => fun
  | [d] => { results := [.lit (.bool true)], args := [d] }
  | _ => none }
def fnMonitorNegationRow : OpenClaim := { program := "ytbanccfdojgocaagreat", sum := "3558de84cbc6cb1b5b04b914ea6bf845e6526e8d92404ebeb0b4e92865918efc", func := "loop.example/ltlcheck/laws.FnMonitorNegation", spec := "fnMonitorNegation", unfollowed := true, recurses := true, plainKeys := false, apart := false }
def FnMonitorNegationSaid : Prop := fnMonitorNegationRow.holds Tryz.pinned (OpenSpec.ofChange fnMonitorNegationSpec)

/-- ITS FALSE NEIGHBOUR: 'it returns false'. Refute it at one input. -/
def fnMonitorNegationWrong : ChangeSpec := { name := "fnMonitorNegation", fn := fun _ => fun
  | [d] => { results := [.lit (.bool false)], args := [d] }
  | _ => none }
def FnMonitorNegationWrongFalsely : Prop := fnMonitorNegationRow.holds Tryz.pinned (OpenSpec.ofChange fnMonitorNegationWrong)

/-- 'laws.FnMonitorSafety': WHATEVER THE INPUT: true; the input reads as it did. -/
def fnMonitorSafetySpec : ChangeSpec := { name := "fnMonitorSafety", fn := fun _ => fun
  | [d] => { results := [.lit (.bool true)], args := [d] }
  | _ => none }
def fnMonitorSafetyRow : OpenClaim := { program := "ytbanccfdojgocaagreat", sum := "3558de84cbc6cb1b5b04b914ea6bf845e6526e8d92404ebeb0b4e92865918efc", func := "loop.example/ltlcheck/laws.FnMonitorSafety", spec := "fnMonitorSafety", unfollowed := true, recurses := true, plainKeys := false, apart := false }
def FnMonitorSafetySaid : Prop := fnMonitorSafetyRow.holds Tryz.pinned (OpenSpec.ofChange fnMonitorSafetySpec)

/-- ITS FALSE NEIGHBOUR: 'it returns false'. Refute it at one input. -/
def fnMonitorSafetyWrong : ChangeSpec := { name := "fnMonitorSafety", fn := fun _ => fun
  | [d] => { results := [.lit (.bool false)], args := [d] }
  | _ => none }
def FnMonitorSafetyWrongFalsely : Prop := fnMonitorSafetyRow.holds Tryz.pinned (OpenSpec.ofChange fnMonitorSafetyWrong)

/- THE SECOND FORM. 'bulk': how many values and letters a reading holds, each counted each time it is reached (what is shared counts as often as it is met; a slice's spare places count too). A statement '..UptoSaid' is the law's where the arguments, and the package variables that the reading takes, are together of bulk at most 1048576: NARROWER than '..Said'. Prove '..Said' where nothing that the law and all that it calls make is longer than what came in: it says more and counts as full. Else prove '..UptoSaid'. A law counts once. -/
mutual
def uptoBulk {H : Type} : DataW H → Nat
  | .lit (.string bytes) => bytes.length + 1
  | .lit _ => 1
  | .nil => 1
  | .ptr d => uptoBulk d + 1
  | .slice elems spare => uptoBulkAll elems + uptoBulkAll spare + 1
  | .agg parts => uptoBulkAll parts + 1
  | .iface _ d => uptoBulk d + 1
  | .map entries => uptoBulkEntries entries + 1
  | .held _ => 1
def uptoBulkAll {H : Type} : List (DataW H) → Nat
  | [] => 0
  | d :: r => uptoBulk d + uptoBulkAll r
def uptoBulkEntries {H : Type} : List (Lit × DataW H) → Nat
  | [] => 0
  | x :: r => uptoBulkEntry x + uptoBulkEntries r
def uptoBulkEntry {H : Type} : Lit × DataW H → Nat
  | (.string bytes, d) => bytes.length + uptoBulk d + 1
  | (_, d) => uptoBulk d + 1
 end
def uptoSmall : (H : Type) → List (DataW H) → Bool := fun _ ds => decide (uptoBulkAll ds ≤ 1048576)
def OpenSpec.upto (s : _root_.Go.ChangeSpec) : _root_.Go.OpenSpec := { _root_.Go.OpenSpec.ofChange s with cond := some uptoSmall }

/-- 'laws.FnTranslateFormula', WHERE WHAT IT READS IS OF BULK AT MOST 1048576: true; the input reads as it did. -/
def fnTranslateFormulaUptoRow : OpenClaim := { program := "ytbanccfdojgocaagreat", sum := "3558de84cbc6cb1b5b04b914ea6bf845e6526e8d92404ebeb0b4e92865918efc", func := "loop.example/ltlcheck/laws.FnTranslateFormula", spec := "fnTranslateFormula", unfollowed := true, recurses := true, plainKeys := false, apart := false, narrowed := true }
def FnTranslateFormulaUptoSaid : Prop := fnTranslateFormulaUptoRow.holds Tryz.pinned (OpenSpec.upto fnTranslateFormulaSpec)

/-- 'laws.FnTranslateEquivalent', WHERE WHAT IT READS IS OF BULK AT MOST 1048576: true; the input reads as it did. -/
def fnTranslateEquivalentUptoRow : OpenClaim := { program := "ytbanccfdojgocaagreat", sum := "3558de84cbc6cb1b5b04b914ea6bf845e6526e8d92404ebeb0b4e92865918efc", func := "loop.example/ltlcheck/laws.FnTranslateEquivalent", spec := "fnTranslateEquivalent", unfollowed := true, recurses := true, plainKeys := false, apart := false, narrowed := true }
def FnTranslateEquivalentUptoSaid : Prop := fnTranslateEquivalentUptoRow.holds Tryz.pinned (OpenSpec.upto fnTranslateEquivalentSpec)

/-- 'laws.FnTranslateNext', WHERE WHAT IT READS IS OF BULK AT MOST 1048576: true; the input reads as it did. -/
def fnTranslateNextUptoRow : OpenClaim := { program := "ytbanccfdojgocaagreat", sum := "3558de84cbc6cb1b5b04b914ea6bf845e6526e8d92404ebeb0b4e92865918efc", func := "loop.example/ltlcheck/laws.FnTranslateNext", spec := "fnTranslateNext", unfollowed := true, recurses := true, plainKeys := false, apart := false, narrowed := true }
def FnTranslateNextUptoSaid : Prop := fnTranslateNextUptoRow.holds Tryz.pinned (OpenSpec.upto fnTranslateNextSpec)

/-- 'laws.FnUnionDistributes', WHERE WHAT IT READS IS OF BULK AT MOST 1048576: true; the input reads as it did. -/
def fnUnionDistributesUptoRow : OpenClaim := { program := "ytbanccfdojgocaagreat", sum := "3558de84cbc6cb1b5b04b914ea6bf845e6526e8d92404ebeb0b4e92865918efc", func := "loop.example/ltlcheck/laws.FnUnionDistributes", spec := "fnUnionDistributes", unfollowed := true, recurses := true, plainKeys := false, apart := false, narrowed := true }
def FnUnionDistributesUptoSaid : Prop := fnUnionDistributesUptoRow.holds Tryz.pinned (OpenSpec.upto fnUnionDistributesSpec)

/-- 'laws.FnIntersectConjunction', WHERE WHAT IT READS IS OF BULK AT MOST 1048576: true; the input reads as it did. -/
def fnIntersectConjunctionUptoRow : OpenClaim := { program := "ytbanccfdojgocaagreat", sum := "3558de84cbc6cb1b5b04b914ea6bf845e6526e8d92404ebeb0b4e92865918efc", func := "loop.example/ltlcheck/laws.FnIntersectConjunction", spec := "fnIntersectConjunction", unfollowed := true, recurses := true, plainKeys := false, apart := false, narrowed := true }
def FnIntersectConjunctionUptoSaid : Prop := fnIntersectConjunctionUptoRow.holds Tryz.pinned (OpenSpec.upto fnIntersectConjunctionSpec)

/-- 'laws.FnTranslateNegation', WHERE WHAT IT READS IS OF BULK AT MOST 1048576: true; the input reads as it did. -/
def fnTranslateNegationUptoRow : OpenClaim := { program := "ytbanccfdojgocaagreat", sum := "3558de84cbc6cb1b5b04b914ea6bf845e6526e8d92404ebeb0b4e92865918efc", func := "loop.example/ltlcheck/laws.FnTranslateNegation", spec := "fnTranslateNegation", unfollowed := true, recurses := true, plainKeys := false, apart := false, narrowed := true }
def FnTranslateNegationUptoSaid : Prop := fnTranslateNegationUptoRow.holds Tryz.pinned (OpenSpec.upto fnTranslateNegationSpec)

/-- 'laws.FnExactShortestBad', WHERE WHAT IT READS IS OF BULK AT MOST 1048576: true; the input reads as it did. -/
def fnExactShortestBadUptoRow : OpenClaim := { program := "ytbanccfdojgocaagreat", sum := "3558de84cbc6cb1b5b04b914ea6bf845e6526e8d92404ebeb0b4e92865918efc", func := "loop.example/ltlcheck/laws.FnExactShortestBad", spec := "fnExactShortestBad", unfollowed := true, recurses := true, loops := true, plainKeys := false, apart := false, narrowed := true }
def FnExactShortestBadUptoSaid : Prop := fnExactShortestBadUptoRow.holds Tryz.pinned (OpenSpec.upto fnExactShortestBadSpec)

/-- 'laws.FnExactMonitorFormula', WHERE WHAT IT READS IS OF BULK AT MOST 1048576: true; the input reads as it did. -/
def fnExactMonitorFormulaUptoRow : OpenClaim := { program := "ytbanccfdojgocaagreat", sum := "3558de84cbc6cb1b5b04b914ea6bf845e6526e8d92404ebeb0b4e92865918efc", func := "loop.example/ltlcheck/laws.FnExactMonitorFormula", spec := "fnExactMonitorFormula", unfollowed := true, recurses := true, loops := true, plainKeys := false, apart := false, narrowed := true }
def FnExactMonitorFormulaUptoSaid : Prop := fnExactMonitorFormulaUptoRow.holds Tryz.pinned (OpenSpec.upto fnExactMonitorFormulaSpec)

/-- 'laws.FnExactMonitorRun', WHERE WHAT IT READS IS OF BULK AT MOST 1048576: true; the input reads as it did. -/
def fnExactMonitorRunUptoRow : OpenClaim := { program := "ytbanccfdojgocaagreat", sum := "3558de84cbc6cb1b5b04b914ea6bf845e6526e8d92404ebeb0b4e92865918efc", func := "loop.example/ltlcheck/laws.FnExactMonitorRun", spec := "fnExactMonitorRun", unfollowed := true, recurses := true, loops := true, plainKeys := false, apart := false, narrowed := true }
def FnExactMonitorRunUptoSaid : Prop := fnExactMonitorRunUptoRow.holds Tryz.pinned (OpenSpec.upto fnExactMonitorRunSpec)

/-- 'laws.FnMonitorNegation', WHERE WHAT IT READS IS OF BULK AT MOST 1048576: true; the input reads as it did. -/
def fnMonitorNegationUptoRow : OpenClaim := { program := "ytbanccfdojgocaagreat", sum := "3558de84cbc6cb1b5b04b914ea6bf845e6526e8d92404ebeb0b4e92865918efc", func := "loop.example/ltlcheck/laws.FnMonitorNegation", spec := "fnMonitorNegation", unfollowed := true, recurses := true, plainKeys := false, apart := false, narrowed := true }
def FnMonitorNegationUptoSaid : Prop := fnMonitorNegationUptoRow.holds Tryz.pinned (OpenSpec.upto fnMonitorNegationSpec)

/-- 'laws.FnMonitorSafety', WHERE WHAT IT READS IS OF BULK AT MOST 1048576: true; the input reads as it did. -/
def fnMonitorSafetyUptoRow : OpenClaim := { program := "ytbanccfdojgocaagreat", sum := "3558de84cbc6cb1b5b04b914ea6bf845e6526e8d92404ebeb0b4e92865918efc", func := "loop.example/ltlcheck/laws.FnMonitorSafety", spec := "fnMonitorSafety", unfollowed := true, recurses := true, plainKeys := false, apart := false, narrowed := true }
def FnMonitorSafetyUptoSaid : Prop := fnMonitorSafetyUptoRow.holds Tryz.pinned (OpenSpec.upto fnMonitorSafetySpec)

end Rows
end Go.Proofs.YtbanccfdojgocaaGreat
