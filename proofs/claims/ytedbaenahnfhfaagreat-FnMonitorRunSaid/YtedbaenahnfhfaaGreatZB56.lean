/-
  The statements of laws, out of the laws as calls. Printed by a program.
-/
import Derived.Test.YtedbaenahnfhfaaGreatRows
import Derived.Test.YtedbaenahnfhfaaGreatYDZB561
namespace Go.Proofs.YtedbaenahnfhfaaGreat
open Go Go.RowKit Go.ChangeShapes
set_option linter.all false
set_option linter.unusedVariables false
set_option linter.unusedSimpArgs false
set_option linter.defProp false
set_option maxRecDepth 1000000

theorem laid : laidOutB Tryz.prog = true := by kernel_rfl
theorem own0 : ownKnob Tryz.prog.godebug = none := by kernel_rfl

namespace fnMonitorRun
theorem contract (H : Type) (enc : TypeId × Value → H) (W : World) (base : Nat) (args : Array Value) (ds gs : List (DataW H)) (before : List MemPlace)
    (hval : ∀ (j : Nat) t v, Tryz.f3.params[j]? = some t → args[j]? = some v → Value.okWide Tryz.prog W .any base t v)
    (hW : DataW.Whole enc Tryz.prog Tryz.f3.params.toList Rows.fnMonitorRunSpec.vars false W args.toList ds gs before)
    (hwt : (DataW.weightsEach Tryz.prog (Tryz.f3.params.toList ++ Rows.fnMonitorRunSpec.plain.varTypes Tryz.prog) (ds ++ gs)).all (· ≤ reachBytes) = true) :
    Calls Tryz.prog 3 args W fun e W' => ∃ v, e = .returned v ∧ Rows.fnMonitorRunSpec.post enc Tryz.prog Tryz.f3 false true false false W args v W' := by
  have hW' := hW
  obtain ⟨p, q, hA, hV, rfl, hfz, hnd⟩ := hW
  rw [Tryz.params3] at hA hval
  have hw := wOk_each (P := Tryz.prog) (ts := Tryz.f3.params.toList ++ Rows.fnMonitorRunSpec.plain.varTypes Tryz.prog) (l := ds ++ gs) (fun n hn => by simpa using List.all_eq_true.1 hwt n hn)
  rw [Tryz.params3] at hw
  obtain ⟨rfl, rfl⟩ := trodVars_none hV
  obtain ⟨v0, vs0, d0, ds0, p0, q0, hargs, rfl, rfl, h0, r0⟩ := trodAll_cons hA
  obtain ⟨rfl, rfl, rfl⟩ := trodAll_nil r0
  obtain rfl : args = #[v0] := by cases args; simp_all
  have R0 : ∃ y : List (BitVec 8), Rep (whole W) v0 y := by
    obtain ⟨fuel, hf⟩ := h0
    obtain ⟨y, hy⟩ := (rd_list (α := BitVec 8) Tryz.underlying22 (by kernel_rfl) (by decide) (by rw [show Tryz.prog.bytesOf 5 = 1 from by kernel_rfl]; decide) (rd_u8 Tryz.underlying5)) enc W _ fuel _ _ hf (hw 0 22 _ rfl rfl)
    have hok := hval 0 22 v0 rfl rfl
    obtain ⟨a0, len, cap, rfl⟩ := okWide_slice Tryz.underlying22 hok
    exact ⟨y, _, by rfl, hy⟩
  obtain ⟨y0, R0⟩ := R0
  refine (calls_law (args := [v0]) Tryz.func3 (by kernel_rfl) (by kernel_rfl) (c_FnMonitorRun R0)).mono fun e W' ⟨he, hb⟩ => ?_
  exact ⟨_, he, post_law laid rfl (by rw [Tryz.params3]; decide +kernel) ⟨4, by kernel_rfl, Tryz.underlying4⟩ ⟨rfl, rfl, rfl⟩ hW' hb⟩

theorem lifted (os : Os) (started : os.Started) (H : Type) (enc : TypeId × Value → H) :
    ReturnsInHanded {} Tryz.checked os 3 .any (Rows.fnMonitorRunSpec.pre6 enc Tryz.prog Tryz.f3 Rows.fnMonitorRunRow.domain false) (Rows.fnMonitorRunSpec.post enc Tryz.prog Tryz.f3 false true false false) := by
  refine returnsInHanded_of_change_sized (C := Tryz.checked) (s := Rows.fnMonitorRunSpec) own0 started (by kernel_rfl) Tryz.func3
    (ChangeSpec.witness6 (enc := enc) (C := Tryz.checked) false ⟨#[], #[.slice none 0 0], []⟩ 8 (by kernel_rfl) (by kernel_rfl) (by kernel_rfl) (by kernel_rfl)) ?_
  intro W base args ds gs before hval hW _ hwt _
  exact contract H enc W base args ds gs before hval hW hwt

theorem over : Rows.fnMonitorRunRow.holds Tryz.pinned (OpenSpec.ofChange Rows.fnMonitorRunSpec) :=
  OpenClaim.holds_of_wide 3 Tryz.f3 rfl rfl rfl rfl rfl rfl rfl ⟨rfl, rfl, rfl, rfl, rfl⟩ rfl rfl rfl rfl rfl (by kernel_rfl) Tryz.func3 (by kernel_rfl)
    (of_decide_eq_true (by kernel_rfl)) (by unfold Func.isWrapper; first | (rw [if_pos (by decide +kernel)]; kernel_rfl) | (rw [if_neg (by decide +kernel)]; exact ⟨rfl, rfl⟩))
    (fun os started H enc _ => lifted os started H enc)
end fnMonitorRun

/-- THE STATEMENT -/
theorem holds_FnMonitorRun : Rows.FnMonitorRunSaid := fnMonitorRun.over

end Go.Proofs.YtedbaenahnfhfaaGreat
