/-
  The statements of laws, out of the laws as calls. Printed by a program.
-/
import Derived.Test.YtknkjplnngeebaaBS
import Derived.Test.YtknkjplnngeebaaX4
namespace Go.Proofs.Ytknkjplnngeebaa
open Go Go.RowKit Go.ChangeShapes
set_option linter.all false
set_option linter.unusedVariables false
set_option linter.unusedSimpArgs false
set_option linter.defProp false
set_option maxRecDepth 1000000


namespace fnExactSimplifyAutomaton
theorem contract (H : Type) (enc : TypeId × Value → H) (W : World) (base : Nat) (args : Array Value) (ds gs : List (DataW H)) (before : List MemPlace)
    (hval : ∀ (j : Nat) t v, Try.f6.params[j]? = some t → args[j]? = some v → Value.okWide Try.prog W .any base t v)
    (hW : DataW.Whole enc Try.prog Try.f6.params.toList Rows.fnExactSimplifyAutomatonSpec.vars false W args.toList ds gs before)
    (hwt : (DataW.weightsEach Try.prog (Try.f6.params.toList ++ Rows.fnExactSimplifyAutomatonSpec.plain.varTypes Try.prog) (ds ++ gs)).all (· ≤ reachBytes) = true) :
    Calls Try.prog 6 args W fun e W' => ∃ v, e = .returned v ∧ Rows.fnExactSimplifyAutomatonSpec.post enc Try.prog Try.f6 false true false false W args v W' := by
  have hW' := hW
  obtain ⟨p, q, hA, hV, rfl, hfz, hnd⟩ := hW
  rw [Try.params6] at hA hval
  have hw := wOk_each (P := Try.prog) (ts := Try.f6.params.toList ++ Rows.fnExactSimplifyAutomatonSpec.plain.varTypes Try.prog) (l := ds ++ gs) (fun n hn => by simpa using List.all_eq_true.1 hwt n hn)
  rw [Try.params6] at hw
  obtain ⟨rfl, rfl⟩ := trodVars_none hV
  obtain ⟨v0, vs0, d0, ds0, p0, q0, hargs, rfl, rfl, h0, r0⟩ := trodAll_cons hA
  obtain ⟨rfl, rfl, rfl⟩ := trodAll_nil r0
  obtain rfl : args = #[v0] := by cases args; simp_all
  have R0 : ∃ y : Aut, Rep (whole W) v0 y := by
    obtain ⟨fuel, hf⟩ := h0
    obtain ⟨y, hy⟩ := rd_Aut enc W _ fuel _ _ hf (hw 0 26 _ rfl rfl)
    have hok := hval 0 26 v0 rfl rfl
    simp only [Value.okWide, Try.underlying26] at hok
    obtain ⟨cs, rfl, _⟩ := hok
    exact ⟨y, cs.toList, rfl, hy⟩
  obtain ⟨y0, R0⟩ := R0
  refine (calls_law (args := [v0]) Try.func6 (by kernel_rfl) (by kernel_rfl) (c_FnExactSimplifyAutomaton R0)).mono fun e W' ⟨he, hb⟩ => ?_
  exact ⟨_, he, post_law laid rfl (by rw [Try.params6]; decide +kernel) ⟨4, by kernel_rfl, Try.underlying4⟩ ⟨rfl, rfl, rfl⟩ hW' hb⟩

theorem lifted (os : Os) (started : os.Started) (H : Type) (enc : TypeId × Value → H) :
    ReturnsInHanded {} Try.checked os 6 .any (Rows.fnExactSimplifyAutomatonSpec.pre6 enc Try.prog Try.f6 Rows.fnExactSimplifyAutomatonRow.domain false) (Rows.fnExactSimplifyAutomatonSpec.post enc Try.prog Try.f6 false true false false) := by
  refine returnsInHanded_of_change_sized (C := Try.checked) (s := Rows.fnExactSimplifyAutomatonSpec) own0 started (by kernel_rfl) Try.func6
    (ChangeSpec.witness6 (enc := enc) (C := Try.checked) false ⟨#[], #[.agg #[.slice none 0 0, .slice none 0 0, .slice none 0 0]], []⟩ 8 (by kernel_rfl) (by kernel_rfl) (by kernel_rfl) (by kernel_rfl)) ?_
  intro W base args ds gs before hval hW _ hwt _
  exact contract H enc W base args ds gs before hval hW hwt

theorem over : Rows.fnExactSimplifyAutomatonRow.holds Try.pinned (OpenSpec.ofChange Rows.fnExactSimplifyAutomatonSpec) :=
  OpenClaim.holds_of_wide 6 Try.f6 rfl rfl rfl rfl rfl rfl rfl ⟨rfl, rfl, rfl, rfl, rfl⟩ rfl rfl rfl rfl rfl (by kernel_rfl) Try.func6 (by kernel_rfl)
    (of_decide_eq_true (by kernel_rfl)) (by unfold Func.isWrapper; first | (rw [if_pos (by decide +kernel)]; kernel_rfl) | (rw [if_neg (by decide +kernel)]; exact ⟨rfl, rfl⟩))
    (fun os started H enc _ => lifted os started H enc)
end fnExactSimplifyAutomaton

/-- THE STATEMENT -/
theorem holds_FnExactSimplifyAutomaton : Rows.FnExactSimplifyAutomatonSaid := fnExactSimplifyAutomaton.over

end Go.Proofs.Ytknkjplnngeebaa
