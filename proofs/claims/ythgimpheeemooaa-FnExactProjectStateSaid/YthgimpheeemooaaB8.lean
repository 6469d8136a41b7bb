/-
  The statements of laws, out of the laws as calls. Printed by a program.
-/
import Derived.Test.YthgimpheeemooaaBSg
import Derived.Test.YthgimpheeemooaaY3
namespace Go.Proofs.Ythgimpheeemooaa
open Go Go.RowKit Go.ChangeShapes
set_option linter.all false
set_option linter.unusedVariables false
set_option linter.unusedSimpArgs false
set_option linter.defProp false
set_option maxRecDepth 1000000


namespace fnExactProjectState
theorem contract (H : Type) (enc : TypeId × Value → H) (W : World) (base : Nat) (args : Array Value) (ds gs : List (DataW H)) (before : List MemPlace)
    (hval : ∀ (j : Nat) t v, Try.f5.params[j]? = some t → args[j]? = some v → Value.okWide Try.prog W .any base t v)
    (hW : DataW.Whole enc Try.prog Try.f5.params.toList Rows.fnExactProjectStateSpec.vars false W args.toList ds gs before)
    (hwt : (DataW.weightsEach Try.prog (Try.f5.params.toList ++ Rows.fnExactProjectStateSpec.plain.varTypes Try.prog) (ds ++ gs)).all (· ≤ reachBytes) = true) :
    Calls Try.prog 5 args W fun e W' => ∃ v, e = .returned v ∧ Rows.fnExactProjectStateSpec.post enc Try.prog Try.f5 false true false false W args v W' := by
  have hW' := hW
  obtain ⟨p, q, hA, hV, rfl, hfz, hnd⟩ := hW
  rw [Try.params5] at hA hval
  have hw := wOk_each (P := Try.prog) (ts := Try.f5.params.toList ++ Rows.fnExactProjectStateSpec.plain.varTypes Try.prog) (l := ds ++ gs) (fun n hn => by simpa using List.all_eq_true.1 hwt n hn)
  rw [Try.params5] at hw
  obtain ⟨rfl, rfl⟩ := trodVars_none hV
  obtain ⟨v0, vs0, d0, ds0, p0, q0, hargs, rfl, rfl, h0, r0⟩ := trodAll_cons hA
  obtain ⟨v1, vs1, d1, ds1, p1, q1, rfl, rfl, rfl, h1, r1⟩ := trodAll_cons r0
  obtain ⟨v2, vs2, d2, ds2, p2, q2, rfl, rfl, rfl, h2, r2⟩ := trodAll_cons r1
  obtain ⟨rfl, rfl, rfl⟩ := trodAll_nil r2
  obtain rfl : args = #[v0, v1, v2] := by cases args; simp_all
  have R0 : ∃ y : Sy, Rep (whole W) v0 y := by
    obtain ⟨fuel, hf⟩ := h0
    obtain ⟨y, hy⟩ := rd_Sy enc W _ fuel _ _ hf (hw 0 25 _ rfl rfl)
    have hok := hval 0 25 v0 rfl rfl
    simp only [Value.okWide, Try.underlying25] at hok
    obtain ⟨cs, rfl, _⟩ := hok
    exact ⟨y, cs.toList, rfl, hy⟩
  obtain ⟨y0, R0⟩ := R0
  have R1 : ∃ y : List (Exq), Rep (whole W) v1 y := by
    obtain ⟨fuel, hf⟩ := h1
    obtain ⟨y, hy⟩ := (rd_list (α := Exq) Try.underlying26 (by kernel_rfl) (by decide) (by rw [show Try.prog.bytesOf 101 = 40 from by kernel_rfl]; decide) (rd_Exq)) enc W _ fuel _ _ hf (hw 1 26 _ rfl rfl)
    have hok := hval 1 26 v1 rfl rfl
    obtain ⟨a0, len, cap, rfl⟩ := okWide_slice Try.underlying26 hok
    exact ⟨y, _, by rfl, hy⟩
  obtain ⟨y1, R1⟩ := R1
  have R2 : ∃ y : Sta, Rep (whole W) v2 y := by
    obtain ⟨fuel, hf⟩ := h2
    obtain ⟨y, hy⟩ := rd_Sta enc W _ fuel _ _ hf (hw 2 62 _ rfl rfl)
    have hok := hval 2 62 v2 rfl rfl
    simp only [Value.okWide, Try.underlying62] at hok
    obtain ⟨cs, rfl, _⟩ := hok
    exact ⟨y, cs.toList, rfl, hy⟩
  obtain ⟨y2, R2⟩ := R2
  refine (calls_law (args := [v0, v1, v2]) Try.func5 (by kernel_rfl) (by kernel_rfl) (c_FnExactProjectState R0 R1 R2)).mono fun e W' ⟨he, hb⟩ => ?_
  exact ⟨_, he, post_law laid rfl (by rw [Try.params5]; decide +kernel) ⟨4, by kernel_rfl, Try.underlying4⟩ ⟨rfl, rfl, rfl⟩ hW' hb⟩

theorem lifted (os : Os) (started : os.Started) (H : Type) (enc : TypeId × Value → H) :
    ReturnsInHanded {} Try.checked os 5 .any (Rows.fnExactProjectStateSpec.pre6 enc Try.prog Try.f5 Rows.fnExactProjectStateRow.domain false) (Rows.fnExactProjectStateSpec.post enc Try.prog Try.f5 false true false false) := by
  refine returnsInHanded_of_change_sized (C := Try.checked) (s := Rows.fnExactProjectStateSpec) own0 started (by kernel_rfl) Try.func5
    (ChangeSpec.witness6 (enc := enc) (C := Try.checked) false ⟨#[], #[.agg #[.slice none 0 0, .slice none 0 0], .slice none 0 0, .agg #[.slice none 0 0, .slice none 0 0]], []⟩ 8 (by kernel_rfl) (by kernel_rfl) (by kernel_rfl) (by kernel_rfl)) ?_
  intro W base args ds gs before hval hW _ hwt _
  exact contract H enc W base args ds gs before hval hW hwt

theorem over : Rows.fnExactProjectStateRow.holds Try.pinned (OpenSpec.ofChange Rows.fnExactProjectStateSpec) :=
  OpenClaim.holds_of_wide 5 Try.f5 rfl rfl rfl rfl rfl rfl rfl ⟨rfl, rfl, rfl, rfl, rfl⟩ rfl rfl rfl rfl rfl (by kernel_rfl) Try.func5 (by kernel_rfl)
    (of_decide_eq_true (by kernel_rfl)) (by unfold Func.isWrapper; first | (rw [if_pos (by decide +kernel)]; kernel_rfl) | (rw [if_neg (by decide +kernel)]; exact ⟨rfl, rfl⟩))
    (fun os started H enc _ => lifted os started H enc)
end fnExactProjectState

/-- THE STATEMENT -/
theorem holds_FnExactProjectState : Rows.FnExactProjectStateSaid := fnExactProjectState.over

end Go.Proofs.Ythgimpheeemooaa
