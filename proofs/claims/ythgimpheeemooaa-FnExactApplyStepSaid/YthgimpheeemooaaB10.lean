/-
  The statements of laws, out of the laws as calls. Printed by a program.
-/
import Derived.Test.YthgimpheeemooaaBSg
import Derived.Test.YthgimpheeemooaaY5
namespace Go.Proofs.Ythgimpheeemooaa
open Go Go.RowKit Go.ChangeShapes
set_option linter.all false
set_option linter.unusedVariables false
set_option linter.unusedSimpArgs false
set_option linter.defProp false
set_option maxRecDepth 1000000


theorem rd_Stp : RdT Try.prog 74 Stp := by
  intro H enc W sp fuel cs x h hwt
  obtain ⟨xs, n, rfl, rfl, hlen, hxs, hf⟩ := DataW.trod_struct Try.underlying74 h
  rw [show Try.prog.cellsOf 74 = 4 from by kernel_rfl] at hlen
  simp only [wOk, DataW.weights, Try.underlying74] at hwt
  have hw := wOk_each hwt
  have hxs : xs.length = 4 := hxs
  have F0 : ∃ y : Int, Ty.rep (whole W) ((cs.drop 0).take 1) y := by
    have h1 := hf 0 _ rfl
    rw [show Try.prog.cellsOf _ = 1 from by kernel_rfl, List.getElem?_eq_getElem (by omega : 0 < xs.length)] at h1
    exact rd_int Try.underlying3 enc W sp n _ _ h1 (hw 0 _ _ rfl (by simp [hxs]))
  have F1 : ∃ y : Int, Ty.rep (whole W) ((cs.drop 1).take 1) y := by
    have h1 := hf 1 _ rfl
    rw [show Try.prog.cellsOf _ = 1 from by kernel_rfl, List.getElem?_eq_getElem (by omega : 1 < xs.length)] at h1
    exact rd_int Try.underlying3 enc W sp n _ _ h1 (hw 1 _ _ rfl (by simp [hxs]))
  have F2 : ∃ y : Int, Ty.rep (whole W) ((cs.drop 2).take 1) y := by
    have h1 := hf 2 _ rfl
    rw [show Try.prog.cellsOf _ = 1 from by kernel_rfl, List.getElem?_eq_getElem (by omega : 2 < xs.length)] at h1
    exact rd_int Try.underlying3 enc W sp n _ _ h1 (hw 2 _ _ rfl (by simp [hxs]))
  have F3 : ∃ y : Int, Ty.rep (whole W) ((cs.drop 3).take 1) y := by
    have h1 := hf 3 _ rfl
    rw [show Try.prog.cellsOf _ = 1 from by kernel_rfl, List.getElem?_eq_getElem (by omega : 3 < xs.length)] at h1
    exact rd_int Try.underlying3 enc W sp n _ _ h1 (hw 3 _ _ rfl (by simp [hxs]))
  have G3 : ∃ y : Int, Ty.rep (whole W) (cs.drop 3) y := by
    rw [List.take_of_length_le (by simp; omega)] at F3
    exact F3
  have G2 : ∃ y : Int × Int, Ty.rep (whole W) (cs.drop 2) y := rd_two F2 (by rw [List.drop_drop]; exact G3)
  have G1 : ∃ y : Int × Int × Int, Ty.rep (whole W) (cs.drop 1) y := rd_two F1 (by rw [List.drop_drop]; exact G2)
  have G0 : ∃ y : Int × Int × Int × Int, Ty.rep (whole W) (cs.drop 0) y := rd_two F0 (by rw [List.drop_drop]; exact G1)
  obtain ⟨z, hz⟩ := G0
  exact ⟨⟨z.1, z.2.1, z.2.2.1, z.2.2.2⟩, hz⟩

namespace fnExactApplyStep
theorem contract (H : Type) (enc : TypeId × Value → H) (W : World) (base : Nat) (args : Array Value) (ds gs : List (DataW H)) (before : List MemPlace)
    (hval : ∀ (j : Nat) t v, Try.f7.params[j]? = some t → args[j]? = some v → Value.okWide Try.prog W .any base t v)
    (hW : DataW.Whole enc Try.prog Try.f7.params.toList Rows.fnExactApplyStepSpec.vars false W args.toList ds gs before)
    (hwt : (DataW.weightsEach Try.prog (Try.f7.params.toList ++ Rows.fnExactApplyStepSpec.plain.varTypes Try.prog) (ds ++ gs)).all (· ≤ reachBytes) = true) :
    Calls Try.prog 7 args W fun e W' => ∃ v, e = .returned v ∧ Rows.fnExactApplyStepSpec.post enc Try.prog Try.f7 false true false false W args v W' := by
  have hW' := hW
  obtain ⟨p, q, hA, hV, rfl, hfz, hnd⟩ := hW
  rw [Try.params7] at hA hval
  have hw := wOk_each (P := Try.prog) (ts := Try.f7.params.toList ++ Rows.fnExactApplyStepSpec.plain.varTypes Try.prog) (l := ds ++ gs) (fun n hn => by simpa using List.all_eq_true.1 hwt n hn)
  rw [Try.params7] at hw
  obtain ⟨rfl, rfl⟩ := trodVars_none hV
  obtain ⟨v0, vs0, d0, ds0, p0, q0, hargs, rfl, rfl, h0, r0⟩ := trodAll_cons hA
  obtain ⟨v1, vs1, d1, ds1, p1, q1, rfl, rfl, rfl, h1, r1⟩ := trodAll_cons r0
  obtain ⟨v2, vs2, d2, ds2, p2, q2, rfl, rfl, rfl, h2, r2⟩ := trodAll_cons r1
  obtain ⟨rfl, rfl, rfl⟩ := trodAll_nil r2
  obtain rfl : args = #[v0, v1, v2] := by cases args; simp_all
  have R0 : ∃ y : Sy, Rep (whole W) v0 y := by
    obtain ⟨fuel, hf⟩ := h0
    obtain ⟨y, hy⟩ := rd_Sy enc W _ fuel _ _ hf (hw 0 25 _ rfl rfl)
    have hok := hval 0 25 v0 rfl rfl
    simp only [Value.okWide, Try.underlying25] at hok
    obtain ⟨cs, rfl, _⟩ := hok
    exact ⟨y, cs.toList, rfl, hy⟩
  obtain ⟨y0, R0⟩ := R0
  have R1 : ∃ y : Sta, Rep (whole W) v1 y := by
    obtain ⟨fuel, hf⟩ := h1
    obtain ⟨y, hy⟩ := rd_Sta enc W _ fuel _ _ hf (hw 1 62 _ rfl rfl)
    have hok := hval 1 62 v1 rfl rfl
    simp only [Value.okWide, Try.underlying62] at hok
    obtain ⟨cs, rfl, _⟩ := hok
    exact ⟨y, cs.toList, rfl, hy⟩
  obtain ⟨y1, R1⟩ := R1
  have R2 : ∃ y : Stp, Rep (whole W) v2 y := by
    obtain ⟨fuel, hf⟩ := h2
    obtain ⟨y, hy⟩ := rd_Stp enc W _ fuel _ _ hf (hw 2 74 _ rfl rfl)
    have hok := hval 2 74 v2 rfl rfl
    simp only [Value.okWide, Try.underlying74] at hok
    obtain ⟨cs, rfl, _⟩ := hok
    exact ⟨y, cs.toList, rfl, hy⟩
  obtain ⟨y2, R2⟩ := R2
  obtain ⟨rfl, K2⟩ := Rep_Stp.1 R2
  refine (calls_law (args := [v0, v1, y2.v]) Try.func7 (by kernel_rfl) (by kernel_rfl) (c_FnExactApplyStep R0 R1 K2)).mono fun e W' ⟨he, hb⟩ => ?_
  exact ⟨_, he, post_law laid rfl (by rw [Try.params7]; decide +kernel) ⟨4, by kernel_rfl, Try.underlying4⟩ ⟨rfl, rfl, rfl⟩ hW' hb⟩

theorem lifted (os : Os) (started : os.Started) (H : Type) (enc : TypeId × Value → H) :
    ReturnsInHanded {} Try.checked os 7 .any (Rows.fnExactApplyStepSpec.pre6 enc Try.prog Try.f7 Rows.fnExactApplyStepRow.domain false) (Rows.fnExactApplyStepSpec.post enc Try.prog Try.f7 false true false false) := by
  refine returnsInHanded_of_change_sized (C := Try.checked) (s := Rows.fnExactApplyStepSpec) own0 started (by kernel_rfl) Try.func7
    (ChangeSpec.witness6 (enc := enc) (C := Try.checked) false ⟨#[], #[.agg #[.slice none 0 0, .slice none 0 0], .agg #[.slice none 0 0, .slice none 0 0], .agg #[.int .i64 0, .int .i64 0, .int .i64 0, .int .i64 0]], []⟩ 8 (by kernel_rfl) (by kernel_rfl) (by kernel_rfl) (by kernel_rfl)) ?_
  intro W base args ds gs before hval hW _ hwt _
  exact contract H enc W base args ds gs before hval hW hwt

theorem over : Rows.fnExactApplyStepRow.holds Try.pinned (OpenSpec.ofChange Rows.fnExactApplyStepSpec) :=
  OpenClaim.holds_of_wide 7 Try.f7 rfl rfl rfl rfl rfl rfl rfl ⟨rfl, rfl, rfl, rfl, rfl⟩ rfl rfl rfl rfl rfl (by kernel_rfl) Try.func7 (by kernel_rfl)
    (of_decide_eq_true (by kernel_rfl)) (by unfold Func.isWrapper; first | (rw [if_pos (by decide +kernel)]; kernel_rfl) | (rw [if_neg (by decide +kernel)]; exact ⟨rfl, rfl⟩))
    (fun os started H enc _ => lifted os started H enc)
end fnExactApplyStep

/-- THE STATEMENT -/
theorem holds_FnExactApplyStep : Rows.FnExactApplyStepSaid := fnExactApplyStep.over

end Go.Proofs.Ythgimpheeemooaa
