/-
  DERIVED. GIVEN WITH THE SEED: THE CARDS: each row of YtjbjnicobdpdhaaGreatDoorRows.lean that lists a variable, with what it lists TIED to the program's text (the seventh form; the later family's looks); each row that meets fmt, with fmt's text TOLD by the authors' own Lean function (tested against real Go, not proved from fmt's source: count such statements apart). THE CARD IS WHAT COUNTS. Prove the row's statement (the work); the ties are given (YtjbjnicobdpdhaaGreatDoorTie.lean); close each card by the builder's one call (the guide's Derived/Test/ToyasCard.lean, 'card_holds'). Laid BY PROGRAM, IN A SANDBOX (cutbox-door.mjs). By AI agents, Wed Nov 11 2026. No macro, syntax, notation, axiom, sorry.
-/
import Derived.Test.YtjbjnicobdpdhaaGreatDoorRows
import GoSem.ClaimSeven
namespace Go.Proofs.YtjbjnicobdpdhaaGreatDoor
namespace Rows

/-- THE TIED CARD OF 'laws.FnExactParseSystem'. -/
def fnExactParseSystemCard : Claim7 := { stood := { row := fnExactParseSystemRow, standIns := [], harness := (true, "cbaab5a0d97884eef2e7ca2e0d8efb57ea1c3a48af7509e03d78d6e2aff1175d"), looks := false }, kinds := [], alts := [], laidByText := true, laidKinds := [.data, .data, .data, .data, .data, .pinned], laidTests := true, laidLooks := .later }
def FnExactParseSystemCardSaid : Prop := Claim7.holds Tryz.pinned (.plain (OpenSpec.ofChange fnExactParseSystemSpec)) fnExactParseSystemCard

/-- THE TIED CARD OF 'laws.FnSystemText'. -/
def fnSystemTextCard : Claim7 := { stood := { row := fnSystemTextRow, standIns := [], harness := (true, "cbaab5a0d97884eef2e7ca2e0d8efb57ea1c3a48af7509e03d78d6e2aff1175d"), looks := false }, kinds := [], alts := [], laidByText := true, laidKinds := [.data, .data, .data, .data, .data, .pinned], laidTests := true, laidLooks := .later }
def FnSystemTextCardSaid : Prop := Claim7.holds Tryz.pinned (.plain (OpenSpec.ofChange fnSystemTextSpec)) fnSystemTextCard

/-- THE SECOND FORM's CARD OF 'laws.FnExactParseSystem'. -/
def fnExactParseSystemUptoCard : Claim7 := { stood := { row := fnExactParseSystemUptoRow, standIns := [], harness := (true, "cbaab5a0d97884eef2e7ca2e0d8efb57ea1c3a48af7509e03d78d6e2aff1175d"), looks := false }, kinds := [], alts := [], laidByText := true, laidKinds := [.data, .data, .data, .data, .data, .pinned], laidTests := true, laidLooks := .later }
def FnExactParseSystemUptoCardSaid : Prop := Claim7.holds Tryz.pinned (.plain (OpenSpec.upto fnExactParseSystemSpec)) fnExactParseSystemUptoCard

/-- THE SECOND FORM's CARD OF 'laws.FnSystemText'. -/
def fnSystemTextUptoCard : Claim7 := { stood := { row := fnSystemTextUptoRow, standIns := [], harness := (true, "cbaab5a0d97884eef2e7ca2e0d8efb57ea1c3a48af7509e03d78d6e2aff1175d"), looks := false }, kinds := [], alts := [], laidByText := true, laidKinds := [.data, .data, .data, .data, .data, .pinned], laidTests := true, laidLooks := .later }
def FnSystemTextUptoCardSaid : Prop := Claim7.holds Tryz.pinned (.plain (OpenSpec.upto fnSystemTextSpec)) fnSystemTextUptoCard
end Rows
end Go.Proofs.YtjbjnicobdpdhaaGreatDoor
