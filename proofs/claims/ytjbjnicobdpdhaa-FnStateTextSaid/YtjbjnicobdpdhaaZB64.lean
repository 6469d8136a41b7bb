/-
  The statements of laws, out of the laws as calls. Printed by a program.
-/
import Derived.Test.YtjbjnicobdpdhaaRows
import Derived.Test.YtjbjnicobdpdhaaYDZB642
namespace Go.Proofs.Ytjbjnicobdpdhaa
open Go Go.RowKit Go.ChangeShapes
set_option linter.all false
set_option linter.unusedVariables false
set_option linter.unusedSimpArgs false
set_option linter.defProp false
set_option maxRecDepth 1000000


namespace fnStateText
theorem contract (H : Type) (enc : TypeId × Value → H) (W : World) (base : Nat) (args : Array Value) (ds gs : List (DataW H)) (before : List MemPlace)
    (hval : ∀ (j : Nat) t v, Try.f4.params[j]? = some t → args[j]? = some v → Value.okWide Try.prog W .any base t v)
    (hW : DataW.Whole enc Try.prog Try.f4.params.toList Rows.fnStateTextSpec.vars false W args.toList ds gs before)
    (hwt : (DataW.weightsEach Try.prog (Try.f4.params.toList ++ Rows.fnStateTextSpec.plain.varTypes Try.prog) (ds ++ gs)).all (· ≤ reachBytes) = true) :
    Calls Try.prog 4 args W fun e W' => ∃ v, e = .returned v ∧ Rows.fnStateTextSpec.post enc Try.prog Try.f4 false true false false W args v W' := by
  have hW' := hW
  obtain ⟨p, q, hA, hV, rfl, hfz, hnd⟩ := hW
  rw [Try.params4] at hA hval
  have hw := wOk_each (P := Try.prog) (ts := Try.f4.params.toList ++ Rows.fnStateTextSpec.plain.varTypes Try.prog) (l := ds ++ gs) (fun n hn => by simpa using List.all_eq_true.1 hwt n hn)
  rw [Try.params4] at hw
  obtain ⟨rfl, rfl⟩ := trodVars_none hV
  obtain ⟨v0, vs0, d0, ds0, p0, q0, hargs, rfl, rfl, h0, r0⟩ := trodAll_cons hA
  obtain ⟨v1, vs1, d1, ds1, p1, q1, rfl, rfl, rfl, h1, r1⟩ := trodAll_cons r0
  obtain ⟨rfl, rfl, rfl⟩ := trodAll_nil r1
  obtain rfl : args = #[v0, v1] := by cases args; simp_all
  have R0 : ∃ y : List (BitVec 8), Rep (whole W) v0 y := by
    obtain ⟨fuel, hf⟩ := h0
    obtain ⟨y, hy⟩ := (rd_list (α := BitVec 8) Try.underlying40 (by kernel_rfl) (by decide) (by rw [show Try.prog.bytesOf 5 = 1 from by kernel_rfl]; decide) (rd_u8 Try.underlying5)) enc W _ fuel _ _ hf (hw 0 40 _ rfl rfl)
    have hok := hval 0 40 v0 rfl rfl
    obtain ⟨a0, len, cap, rfl⟩ := okWide_slice Try.underlying40 hok
    exact ⟨y, _, by rfl, hy⟩
  obtain ⟨y0, R0⟩ := R0
  have R1 : ∃ y : List (BitVec 8), Rep (whole W) v1 y := by
    obtain ⟨fuel, hf⟩ := h1
    obtain ⟨y, hy⟩ := (rd_list (α := BitVec 8) Try.underlying40 (by kernel_rfl) (by decide) (by rw [show Try.prog.bytesOf 5 = 1 from by kernel_rfl]; decide) (rd_u8 Try.underlying5)) enc W _ fuel _ _ hf (hw 1 40 _ rfl rfl)
    have hok := hval 1 40 v1 rfl rfl
    obtain ⟨a0, len, cap, rfl⟩ := okWide_slice Try.underlying40 hok
    exact ⟨y, _, by rfl, hy⟩
  obtain ⟨y1, R1⟩ := R1
  refine (calls_law (args := [v0, v1]) Try.func4 (by kernel_rfl) (by kernel_rfl) (c_FnStateText R0 R1)).mono fun e W' ⟨he, hb⟩ => ?_
  exact ⟨_, he, post_law laid rfl (by rw [Try.params4]; decide +kernel) ⟨4, by kernel_rfl, Try.underlying4⟩ ⟨rfl, rfl, rfl⟩ hW' hb⟩

theorem lifted (os : Os) (started : os.Started) (H : Type) (enc : TypeId × Value → H) :
    ReturnsInHanded {} Try.checked os 4 .any (Rows.fnStateTextSpec.pre6 enc Try.prog Try.f4 Rows.fnStateTextRow.domain false) (Rows.fnStateTextSpec.post enc Try.prog Try.f4 false true false false) := by
  refine returnsInHanded_of_change_sized (C := Try.checked) (s := Rows.fnStateTextSpec) own0 started (by kernel_rfl) Try.func4
    (ChangeSpec.witness6 (enc := enc) (C := Try.checked) false ⟨#[], #[.slice none 0 0, .slice none 0 0], []⟩ 8 (by kernel_rfl) (by kernel_rfl) (by kernel_rfl) (by kernel_rfl)) ?_
  intro W base args ds gs before hval hW _ hwt _
  exact contract H enc W base args ds gs before hval hW hwt

theorem over : Rows.fnStateTextRow.holds Try.pinned (OpenSpec.ofChange Rows.fnStateTextSpec) :=
  OpenClaim.holds_of_wide 4 Try.f4 rfl rfl rfl rfl rfl rfl rfl ⟨rfl, rfl, rfl, rfl, rfl⟩ rfl rfl rfl rfl rfl (by kernel_rfl) Try.func4 (by kernel_rfl)
    (of_decide_eq_true (by kernel_rfl)) (by unfold Func.isWrapper; first | (rw [if_pos (by decide +kernel)]; kernel_rfl) | (rw [if_neg (by decide +kernel)]; exact ⟨rfl, rfl⟩))
    (fun os started H enc _ => lifted os started H enc)
end fnStateText

/-- THE STATEMENT -/
theorem holds_FnStateText : Rows.FnStateTextSaid := fnStateText.over

end Go.Proofs.Ytjbjnicobdpdhaa
