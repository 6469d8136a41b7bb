/-
  NARROWER THAN 'FOR EVERY INPUT', by the rows' own cells (each row's printed sentence says how): FnExactParseState: loops.
  DERIVED. THE GIVEN ROWS OF THIS SEAT. 2 by the template 'for every input the law returns true; each argument reads behind the call as it read before'; 0 by the template 'total and deterministic' (their statements: YtjbjnicobdpdhaaTotals.lean).
  GIVEN WITH THE SEED: the statements are not yours to turn. If you find one false, say at which input.
  Laid BY PROGRAM, IN A SANDBOX (cutbox-rows.mjs): the forced cells as the released guide's own fill.sh prints them over the translation e7d2ae9f89e8ea53… (all of the seat's roots in one cut). By AI agents, Wed Nov 11 2026. No macro, syntax, notation, axiom, sorry.
-/
import Derived.Test.YtjbjnicobdpdhaaChecked
import GoSem.Claim
import GoSem.ClaimJoined
import GoSem.ClaimMapViews
import Derived.JoinedTies
import Derived.KernelRfl
namespace Go.Proofs.Ytjbjnicobdpdhaa
/- THE CELL 'sum', in the pinned program and in every row, IS THE sha256 OF THE DUMP (.gsa) THAT YtjbjnicobdpdhaaProg.lean LOADS. Nothing in Lean hashes anything: it is a label: what it is worth is what the hold of that sum in a sandbox is worth. -/
noncomputable def Try.pinned : Pinned := { name := "ytjbjnicobdpdhaa", sum := "e7d2ae9f89e8ea5357010ca5b3c7705656f9fa14ae698c6ae2d010bcf2d9b145", checked := Try.checked }
namespace Rows
def none {H : Type} : Left H := { results := [], args := [] }

/-- 'laws.FnExactParseState': WHATEVER THE INPUT: true; the input reads as it did. -/
def fnExactParseStateSpec : ChangeSpec := { name := "fnExactParseState", fn := fun _ => fun
  | [d1, d2] => { results := [.lit (.bool true)], args := [d1, d2] }
  | _ => none }
def fnExactParseStateRow : OpenClaim := { program := "ytjbjnicobdpdhaa", sum := "e7d2ae9f89e8ea5357010ca5b3c7705656f9fa14ae698c6ae2d010bcf2d9b145", func := "loop.example/ltlcheck/laws.FnExactParseState", spec := "fnExactParseState", inPlace := ["internal/bytealg.IndexByteString", "internal/bytealg.IndexString", "internal/abi.NoEscape"], unfollowed := true, recurses := true, named := ["internal/bytealg.MaxLen"], loops := true, apart := false }
def FnExactParseStateSaid : Prop := fnExactParseStateRow.holds Try.pinned (OpenSpec.ofChange fnExactParseStateSpec)

/-- ITS FALSE NEIGHBOUR: 'it returns false'. Refute it at one input. -/
def fnExactParseStateWrong : ChangeSpec := { name := "fnExactParseState", fn := fun _ => fun
  | [d1, d2] => { results := [.lit (.bool false)], args := [d1, d2] }
  | _ => none }
def FnExactParseStateWrongFalsely : Prop := fnExactParseStateRow.holds Try.pinned (OpenSpec.ofChange fnExactParseStateWrong)

/-- 'laws.FnStateText': WHATEVER THE INPUT: true; the input reads as it did. -/
def fnStateTextSpec : ChangeSpec := { name := "fnStateText", fn := fun _ => fun
  | [d1, d2] => { results := [.lit (.bool true)], args := [d1, d2] }
  | _ => none }
def fnStateTextRow : OpenClaim := { program := "ytjbjnicobdpdhaa", sum := "e7d2ae9f89e8ea5357010ca5b3c7705656f9fa14ae698c6ae2d010bcf2d9b145", func := "loop.example/ltlcheck/laws.FnStateText", spec := "fnStateText", inPlace := ["internal/abi.NoEscape", "internal/bytealg.IndexByteString", "internal/bytealg.IndexString"], unfollowed := true, recurses := true, named := ["internal/bytealg.MaxLen"], apart := false }
def FnStateTextSaid : Prop := fnStateTextRow.holds Try.pinned (OpenSpec.ofChange fnStateTextSpec)

/-- ITS FALSE NEIGHBOUR: 'it returns false'. Refute it at one input. -/
def fnStateTextWrong : ChangeSpec := { name := "fnStateText", fn := fun _ => fun
  | [d1, d2] => { results := [.lit (.bool false)], args := [d1, d2] }
  | _ => none }
def FnStateTextWrongFalsely : Prop := fnStateTextRow.holds Try.pinned (OpenSpec.ofChange fnStateTextWrong)

/- THE SECOND FORM. 'bulk': how many values and letters a reading holds, each counted each time it is reached (what is shared counts as often as it is met; a slice's spare places count too). A statement '..UptoSaid' is the law's where the arguments, and the package variables that the reading takes, are together of bulk at most 1048576: NARROWER than '..Said'. Prove '..Said' where nothing that the law and all that it calls make is longer than what came in: it says more and counts as full. Else prove '..UptoSaid'. A law counts once. -/
mutual
def uptoBulk {H : Type} : DataW H → Nat
  | .lit (.string bytes) => bytes.length + 1
  | .lit _ => 1
  | .nil => 1
  | .ptr d => uptoBulk d + 1
  | .slice elems spare => uptoBulkAll elems + uptoBulkAll spare + 1
  | .agg parts => uptoBulkAll parts + 1
  | .iface _ d => uptoBulk d + 1
  | .map entries => uptoBulkEntries entries + 1
  | .held _ => 1
def uptoBulkAll {H : Type} : List (DataW H) → Nat
  | [] => 0
  | d :: r => uptoBulk d + uptoBulkAll r
def uptoBulkEntries {H : Type} : List (Lit × DataW H) → Nat
  | [] => 0
  | x :: r => uptoBulkEntry x + uptoBulkEntries r
def uptoBulkEntry {H : Type} : Lit × DataW H → Nat
  | (.string bytes, d) => bytes.length + uptoBulk d + 1
  | (_, d) => uptoBulk d + 1
 end
def uptoSmall : (H : Type) → List (DataW H) → Bool := fun _ ds => decide (uptoBulkAll ds ≤ 1048576)
def OpenSpec.upto (s : _root_.Go.ChangeSpec) : _root_.Go.OpenSpec := { _root_.Go.OpenSpec.ofChange s with cond := some uptoSmall }

/-- 'laws.FnExactParseState', WHERE WHAT IT READS IS OF BULK AT MOST 1048576: true; the input reads as it did. -/
def fnExactParseStateUptoRow : OpenClaim := { program := "ytjbjnicobdpdhaa", sum := "e7d2ae9f89e8ea5357010ca5b3c7705656f9fa14ae698c6ae2d010bcf2d9b145", func := "loop.example/ltlcheck/laws.FnExactParseState", spec := "fnExactParseState", inPlace := ["internal/bytealg.IndexByteString", "internal/bytealg.IndexString", "internal/abi.NoEscape"], unfollowed := true, recurses := true, named := ["internal/bytealg.MaxLen"], loops := true, apart := false, narrowed := true }
def FnExactParseStateUptoSaid : Prop := fnExactParseStateUptoRow.holds Try.pinned (OpenSpec.upto fnExactParseStateSpec)

/-- 'laws.FnStateText', WHERE WHAT IT READS IS OF BULK AT MOST 1048576: true; the input reads as it did. -/
def fnStateTextUptoRow : OpenClaim := { program := "ytjbjnicobdpdhaa", sum := "e7d2ae9f89e8ea5357010ca5b3c7705656f9fa14ae698c6ae2d010bcf2d9b145", func := "loop.example/ltlcheck/laws.FnStateText", spec := "fnStateText", inPlace := ["internal/abi.NoEscape", "internal/bytealg.IndexByteString", "internal/bytealg.IndexString"], unfollowed := true, recurses := true, named := ["internal/bytealg.MaxLen"], apart := false, narrowed := true }
def FnStateTextUptoSaid : Prop := fnStateTextUptoRow.holds Try.pinned (OpenSpec.upto fnStateTextSpec)

end Rows
end Go.Proofs.Ytjbjnicobdpdhaa
