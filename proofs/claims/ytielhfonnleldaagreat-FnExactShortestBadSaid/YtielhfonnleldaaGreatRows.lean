/-
  NARROWER THAN 'FOR EVERY INPUT', by the rows' own cells (each row's printed sentence says how): FnExactShortestBad: loops.
  DERIVED. THE GIVEN ROWS OF THIS SEAT. 4 by the template 'for every input the law returns true; each argument reads behind the call as it read before'; 0 by the template 'total and deterministic' (their statements: YtielhfonnleldaaGreatTotals.lean).
  GIVEN WITH THE SEED: the statements are not yours to turn. If you find one false, say at which input.
  Laid BY PROGRAM, IN A SANDBOX (cutbox-rows.mjs): the forced cells as the released guide's own fill.sh prints them over the translation fff2c2570053f6ed… (all of the seat's roots in one cut). By AI agents, Wed Nov 11 2026. No macro, syntax, notation, axiom, sorry.
-/
import Derived.Test.YtielhfonnleldaaGreatChecked
import GoSem.Claim
import GoSem.ClaimJoined
import GoSem.ClaimMapViews
import Derived.JoinedTies
import Derived.KernelRfl
namespace Go.Proofs.YtielhfonnleldaaGreat
/- THE CELL 'sum', in the pinned program and in every row, IS THE sha256 OF THE DUMP (.gsa) THAT YtielhfonnleldaaGreatProg.lean LOADS. Nothing in Lean hashes anything: it is a label: what it is worth is what the hold of that sum in a sandbox is worth. -/
noncomputable def Tryz.pinned : Pinned := { name := "ytielhfonnleldaagreat", sum := "fff2c2570053f6edcf2d0bc9a333427b6b41364ad4896e7ea08488ba6c4c8b0d", checked := Tryz.checked }
namespace Rows
def none {H : Type} : Left H := { results := [], args := [] }

/-- 'laws.FnTranslateNegation': WHATEVER THE INPUT: true; the input reads as it did. -/
def fnTranslateNegationSpec : ChangeSpec := { name := "fnTranslateNegation", fn := fun _ => fun
  | [d1, d2] => { results := [.lit (.bool true)], args := [d1, d2] }
  | _ => none }
def fnTranslateNegationRow : OpenClaim := { program := "ytielhfonnleldaagreat", sum := "fff2c2570053f6edcf2d0bc9a333427b6b41364ad4896e7ea08488ba6c4c8b0d", func := "loop.example/ltlcheck/laws.FnTranslateNegation", spec := "fnTranslateNegation", unfollowed := true, recurses := true, plainKeys := false, apart := false }
def FnTranslateNegationSaid : Prop := fnTranslateNegationRow.holds Tryz.pinned (OpenSpec.ofChange fnTranslateNegationSpec)

/-- ITS FALSE NEIGHBOUR: 'it returns false'. Refute it at one input. -/
def fnTranslateNegationWrong : ChangeSpec := { name := "fnTranslateNegation", fn := fun _ => fun
  | [d1, d2] => { results := [.lit (.bool false)], args := [d1, d2] }
  | _ => none }
def FnTranslateNegationWrongFalsely : Prop := fnTranslateNegationRow.holds Tryz.pinned (OpenSpec.ofChange fnTranslateNegationWrong)

/-- 'laws.FnExactShortestBad': WHATEVER THE INPUT: true; the input reads as it did. -/
def fnExactShortestBadSpec : ChangeSpec := { name := "fnExactShortestBad", fn := fun _ => fun
  | [d1, d2] => { results := [.lit (.bool true)], args := [d1, d2] }
  | _ => none }
def fnExactShortestBadRow : OpenClaim := { program := "ytielhfonnleldaagreat", sum := "fff2c2570053f6edcf2d0bc9a333427b6b41364ad4896e7ea08488ba6c4c8b0d", func := "loop.example/ltlcheck/laws.FnExactShortestBad", spec := "fnExactShortestBad", unfollowed := true, recurses := true, loops := true, plainKeys := false, apart := false }
def FnExactShortestBadSaid : Prop := fnExactShortestBadRow.holds Tryz.pinned (OpenSpec.ofChange fnExactShortestBadSpec)

/-- ITS FALSE NEIGHBOUR: 'it returns false'. Refute it at one input. -/
def fnExactShortestBadWrong : ChangeSpec := { name := "fnExactShortestBad", fn := fun _ => fun
  | [d1, d2] => { results := [.lit (.bool false)], args := [d1, d2] }
  | _ => none }
def FnExactShortestBadWrongFalsely : Prop := fnExactShortestBadRow.holds Tryz.pinned (OpenSpec.ofChange fnExactShortestBadWrong)

/-- 'laws.FnShortestBad': WHATEVER THE INPUT: true; the input reads as it did. -/
def fnShortestBadSpec : ChangeSpec := { name := "fnShortestBad", fn := fun _ => fun
  | [d] => { results := [.lit (.bool true)], args := [d] }
  | _ => none }
def fnShortestBadRow : OpenClaim := { program := "ytielhfonnleldaagreat", sum := "fff2c2570053f6edcf2d0bc9a333427b6b41364ad4896e7ea08488ba6c4c8b0d", func := "loop.example/ltlcheck/laws.FnShortestBad", spec := "fnShortestBad", unfollowed := true, recurses := true, plainKeys := false, apart := false }
def FnShortestBadSaid : Prop := fnShortestBadRow.holds Tryz.pinned (OpenSpec.ofChange fnShortestBadSpec)

/-- ITS FALSE NEIGHBOUR: 'it returns false'. Refute it at one input. -/
def fnShortestBadWrong : ChangeSpec := { name := "fnShortestBad", fn := fun _ => fun
  | [d] => { results := [.lit (.bool false)], args := [d] }
  | _ => none }
def FnShortestBadWrongFalsely : Prop := fnShortestBadRow.holds Tryz.pinned (OpenSpec.ofChange fnShortestBadWrong)

/-- 'laws.FnShortestBadLeast': WHATEVER THE INPUT: true; the input reads as it did. -/
def fnShortestBadLeastSpec : ChangeSpec := { name := "fnShortestBadLeast", fn := fun _ => fun
  | [d1, d2] => { results := [.lit (.bool true)], args := [d1, d2] }
  | _ => none }
def fnShortestBadLeastRow : OpenClaim := { program := "ytielhfonnleldaagreat", sum := "fff2c2570053f6edcf2d0bc9a333427b6b41364ad4896e7ea08488ba6c4c8b0d", func := "loop.example/ltlcheck/laws.FnShortestBadLeast", spec := "fnShortestBadLeast", unfollowed := true, recurses := true, plainKeys := false, apart := false }
def FnShortestBadLeastSaid : Prop := fnShortestBadLeastRow.holds Tryz.pinned (OpenSpec.ofChange fnShortestBadLeastSpec)

/-- ITS FALSE NEIGHBOUR: 'it returns false'. Refute it at one input. -/
def fnShortestBadLeastWrong : ChangeSpec := { name := "fnShortestBadLeast", fn := fun _ => fun
  | [d1, d2] => { results := [.lit (.bool false)], args := [d1, d2] }
  | _ => none }
def FnShortestBadLeastWrongFalsely : Prop := fnShortestBadLeastRow.holds Tryz.pinned (OpenSpec.ofChange fnShortestBadLeastWrong)

/- THE SECOND FORM. 'bulk': how many values and letters a reading holds, each counted each time it is reached (what is shared counts as often as it is met; a slice's spare places count too). A statement '..UptoSaid' is the law's where the arguments, and the package variables that the reading takes, are together of bulk at most 1048576: NARROWER than '..Said'. Prove '..Said' where nothing that the law and all that it calls make is longer than what came in: it says more and counts as full. Else prove '..UptoSaid'. A law counts once. -/
mutual
def uptoBulk {H : Type} : DataW H → Nat
  | .lit (.string bytes) => bytes.length + 1
  | .lit _ => 1
  | .nil => 1
  | .ptr d => uptoBulk d + 1
  | .slice elems spare => uptoBulkAll elems + uptoBulkAll spare + 1
  | .agg parts => uptoBulkAll parts + 1
  | .iface _ d => uptoBulk d + 1
  | .map entries => uptoBulkEntries entries + 1
  | .held _ => 1
def uptoBulkAll {H : Type} : List (DataW H) → Nat
  | [] => 0
  | d :: r => uptoBulk d + uptoBulkAll r
def uptoBulkEntries {H : Type} : List (Lit × DataW H) → Nat
  | [] => 0
  | x :: r => uptoBulkEntry x + uptoBulkEntries r
def uptoBulkEntry {H : Type} : Lit × DataW H → Nat
  | (.string bytes, d) => bytes.length + uptoBulk d + 1
  | (_, d) => uptoBulk d + 1
 end
def uptoSmall : (H : Type) → List (DataW H) → Bool := fun _ ds => decide (uptoBulkAll ds ≤ 1048576)
def OpenSpec.upto (s : _root_.Go.ChangeSpec) : _root_.Go.OpenSpec := { _root_.Go.OpenSpec.ofChange s with cond := some uptoSmall }

/-- 'laws.FnTranslateNegation', WHERE WHAT IT READS IS OF BULK AT MOST 1048576: true; the input reads as it did. -/
def fnTranslateNegationUptoRow : OpenClaim := { program := "ytielhfonnleldaagreat", sum := "fff2c2570053f6edcf2d0bc9a333427b6b41364ad4896e7ea08488ba6c4c8b0d", func := "loop.example/ltlcheck/laws.FnTranslateNegation", spec := "fnTranslateNegation", unfollowed := true, recurses := true, plainKeys := false, apart := false, narrowed := true }
def FnTranslateNegationUptoSaid : Prop := fnTranslateNegationUptoRow.holds Tryz.pinned (OpenSpec.upto fnTranslateNegationSpec)

/-- 'laws.FnExactShortestBad', WHERE WHAT IT READS IS OF BULK AT MOST 1048576: true; the input reads as it did. -/
def fnExactShortestBadUptoRow : OpenClaim := { program := "ytielhfonnleldaagreat", sum := "fff2c2570053f6edcf2d0bc9a333427b6b41364ad4896e7ea08488ba6c4c8b0d", func := "loop.example/ltlcheck/laws.FnExactShortestBad", spec := "fnExactShortestBad", unfollowed := true, recurses := true, loops := true, plainKeys := false, apart := false, narrowed := true }
def FnExactShortestBadUptoSaid : Prop := fnExactShortestBadUptoRow.holds Tryz.pinned (OpenSpec.upto fnExactShortestBadSpec)

/-- 'laws.FnShortestBad', WHERE WHAT IT READS IS OF BULK AT MOST 1048576: true; the input reads as it did. -/
def fnShortestBadUptoRow : OpenClaim := { program := "ytielhfonnleldaagreat", sum := "fff2c2570053f6edcf2d0bc9a333427b6b41364ad4896e7ea08488ba6c4c8b0d", func := "loop.example/ltlcheck/laws.FnShortestBad", spec := "fnShortestBad", unfollowed := true, recurses := true, plainKeys := false, apart := false, narrowed := true }
def FnShortestBadUptoSaid : Prop := fnShortestBadUptoRow.holds Tryz.pinned (OpenSpec.upto fnShortestBadSpec)

/-- 'laws.FnShortestBadLeast', WHERE WHAT IT READS IS OF BULK AT MOST 1048576: true; the input reads as it did. -/
def fnShortestBadLeastUptoRow : OpenClaim := { program := "ytielhfonnleldaagreat", sum := "fff2c2570053f6edcf2d0bc9a333427b6b41364ad4896e7ea08488ba6c4c8b0d", func := "loop.example/ltlcheck/laws.FnShortestBadLeast", spec := "fnShortestBadLeast", unfollowed := true, recurses := true, plainKeys := false, apart := false, narrowed := true }
def FnShortestBadLeastUptoSaid : Prop := fnShortestBadLeastUptoRow.holds Tryz.pinned (OpenSpec.upto fnShortestBadLeastSpec)

end Rows
end Go.Proofs.YtielhfonnleldaaGreat
