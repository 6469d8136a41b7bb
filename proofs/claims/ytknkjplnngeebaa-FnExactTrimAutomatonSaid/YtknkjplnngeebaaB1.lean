/-
  The statements of laws, out of the laws as calls. Printed by a program.
-/
import Derived.Test.YtknkjplnngeebaaX1
import Derived.Test.YtknkjplnngeebaaB0
namespace Go.Proofs.Ytknkjplnngeebaa
open Go Go.RowKit Go.ChangeShapes
set_option linter.all false
set_option linter.unusedVariables false
set_option linter.unusedSimpArgs false
set_option linter.defProp false
set_option maxRecDepth 1000000

theorem laid : laidOutB Try.prog = true := by kernel_rfl
theorem own0 : ownKnob Try.prog.godebug = none := by kernel_rfl

theorem rd_Tr : RdT Try.prog 73 Tr := by
  intro H enc W sp fuel cs x h hwt
  obtain ⟨xs, n, rfl, rfl, hlen, hxs, hf⟩ := DataW.trod_struct Try.underlying73 h
  rw [show Try.prog.cellsOf 73 = 4 from by kernel_rfl] at hlen
  simp only [wOk, DataW.weights, Try.underlying73] at hwt
  have hw := wOk_each hwt
  have hxs : xs.length = 4 := hxs
  have F0 : ∃ y : Int, Ty.rep (whole W) ((cs.drop 0).take 1) y := by
    have h1 := hf 0 _ rfl
    rw [show Try.prog.cellsOf _ = 1 from by kernel_rfl, List.getElem?_eq_getElem (by omega : 0 < xs.length)] at h1
    exact rd_int Try.underlying3 enc W sp n _ _ h1 (hw 0 _ _ rfl (by simp [hxs]))
  have F1 : ∃ y : Int, Ty.rep (whole W) ((cs.drop 1).take 1) y := by
    have h1 := hf 1 _ rfl
    rw [show Try.prog.cellsOf _ = 1 from by kernel_rfl, List.getElem?_eq_getElem (by omega : 1 < xs.length)] at h1
    exact rd_int Try.underlying3 enc W sp n _ _ h1 (hw 1 _ _ rfl (by simp [hxs]))
  have F2 : ∃ y : Int, Ty.rep (whole W) ((cs.drop 2).take 1) y := by
    have h1 := hf 2 _ rfl
    rw [show Try.prog.cellsOf _ = 1 from by kernel_rfl, List.getElem?_eq_getElem (by omega : 2 < xs.length)] at h1
    exact rd_int Try.underlying3 enc W sp n _ _ h1 (hw 2 _ _ rfl (by simp [hxs]))
  have F3 : ∃ y : Int, Ty.rep (whole W) ((cs.drop 3).take 1) y := by
    have h1 := hf 3 _ rfl
    rw [show Try.prog.cellsOf _ = 1 from by kernel_rfl, List.getElem?_eq_getElem (by omega : 3 < xs.length)] at h1
    exact rd_int Try.underlying3 enc W sp n _ _ h1 (hw 3 _ _ rfl (by simp [hxs]))
  have G3 : ∃ y : Int, Ty.rep (whole W) (cs.drop 3) y := by
    rw [List.take_of_length_le (by simp; omega)] at F3
    exact F3
  have G2 : ∃ y : Int × Int, Ty.rep (whole W) (cs.drop 2) y := rd_two F2 (by rw [List.drop_drop]; exact G3)
  have G1 : ∃ y : Int × Int × Int, Ty.rep (whole W) (cs.drop 1) y := rd_two F1 (by rw [List.drop_drop]; exact G2)
  have G0 : ∃ y : Int × Int × Int × Int, Ty.rep (whole W) (cs.drop 0) y := rd_two F0 (by rw [List.drop_drop]; exact G1)
  obtain ⟨z, hz⟩ := G0
  exact ⟨⟨z.1, z.2.1, z.2.2.1, z.2.2.2⟩, hz⟩

theorem rd_Aut : RdT Try.prog 26 Aut := by
  intro H enc W sp fuel cs x h hwt
  obtain ⟨xs, n, rfl, rfl, hlen, hxs, hf⟩ := DataW.trod_struct Try.underlying26 h
  rw [show Try.prog.cellsOf 26 = 3 from by kernel_rfl] at hlen
  simp only [wOk, DataW.weights, Try.underlying26] at hwt
  have hw := wOk_each hwt
  have hxs : xs.length = 3 := hxs
  have F0 : ∃ y : List (Int), Ty.rep (whole W) ((cs.drop 0).take 1) y := by
    have h1 := hf 0 _ rfl
    rw [show Try.prog.cellsOf _ = 1 from by kernel_rfl, List.getElem?_eq_getElem (by omega : 0 < xs.length)] at h1
    exact rd_list (α := Int) Try.underlying22 (by kernel_rfl) (by decide) (by rw [show Try.prog.bytesOf 3 = 8 from by kernel_rfl]; decide) (rd_int Try.underlying3) enc W sp n _ _ h1 (hw 0 _ _ rfl (by simp [hxs]))
  have F1 : ∃ y : List (Bool), Ty.rep (whole W) ((cs.drop 1).take 1) y := by
    have h1 := hf 1 _ rfl
    rw [show Try.prog.cellsOf _ = 1 from by kernel_rfl, List.getElem?_eq_getElem (by omega : 1 < xs.length)] at h1
    exact rd_list (α := Bool) Try.underlying23 (by kernel_rfl) (by decide) (by rw [show Try.prog.bytesOf 4 = 1 from by kernel_rfl]; decide) (rd_bool Try.underlying4) enc W sp n _ _ h1 (hw 1 _ _ rfl (by simp [hxs]))
  have F2 : ∃ y : List (Tr), Ty.rep (whole W) ((cs.drop 2).take 1) y := by
    have h1 := hf 2 _ rfl
    rw [show Try.prog.cellsOf _ = 1 from by kernel_rfl, List.getElem?_eq_getElem (by omega : 2 < xs.length)] at h1
    exact rd_list (α := Tr) Try.underlying24 (by kernel_rfl) (by decide) (by rw [show Try.prog.bytesOf 73 = 32 from by kernel_rfl]; decide) (rd_Tr) enc W sp n _ _ h1 (hw 2 _ _ rfl (by simp [hxs]))
  have G2 : ∃ y : (List (Tr)), Ty.rep (whole W) (cs.drop 2) y := by
    rw [List.take_of_length_le (by simp; omega)] at F2
    exact F2
  have G1 : ∃ y : (List (Bool)) × (List (Tr)), Ty.rep (whole W) (cs.drop 1) y := rd_two F1 (by rw [List.drop_drop]; exact G2)
  have G0 : ∃ y : (List (Int)) × (List (Bool)) × (List (Tr)), Ty.rep (whole W) (cs.drop 0) y := rd_two F0 (by rw [List.drop_drop]; exact G1)
  obtain ⟨z, hz⟩ := G0
  exact ⟨⟨z.1, z.2.1, z.2.2⟩, hz⟩

namespace fnExactTrimAutomaton
theorem contract (H : Type) (enc : TypeId × Value → H) (W : World) (base : Nat) (args : Array Value) (ds gs : List (DataW H)) (before : List MemPlace)
    (hval : ∀ (j : Nat) t v, Try.f3.params[j]? = some t → args[j]? = some v → Value.okWide Try.prog W .any base t v)
    (hW : DataW.Whole enc Try.prog Try.f3.params.toList Rows.fnExactTrimAutomatonSpec.vars false W args.toList ds gs before)
    (hwt : (DataW.weightsEach Try.prog (Try.f3.params.toList ++ Rows.fnExactTrimAutomatonSpec.plain.varTypes Try.prog) (ds ++ gs)).all (· ≤ reachBytes) = true) :
    Calls Try.prog 3 args W fun e W' => ∃ v, e = .returned v ∧ Rows.fnExactTrimAutomatonSpec.post enc Try.prog Try.f3 false true false false W args v W' := by
  have hW' := hW
  obtain ⟨p, q, hA, hV, rfl, hfz, hnd⟩ := hW
  rw [Try.params3] at hA hval
  have hw := wOk_each (P := Try.prog) (ts := Try.f3.params.toList ++ Rows.fnExactTrimAutomatonSpec.plain.varTypes Try.prog) (l := ds ++ gs) (fun n hn => by simpa using List.all_eq_true.1 hwt n hn)
  rw [Try.params3] at hw
  obtain ⟨rfl, rfl⟩ := trodVars_none hV
  obtain ⟨v0, vs0, d0, ds0, p0, q0, hargs, rfl, rfl, h0, r0⟩ := trodAll_cons hA
  obtain ⟨rfl, rfl, rfl⟩ := trodAll_nil r0
  obtain rfl : args = #[v0] := by cases args; simp_all
  have R0 : ∃ y : Aut, Rep (whole W) v0 y := by
    obtain ⟨fuel, hf⟩ := h0
    obtain ⟨y, hy⟩ := rd_Aut enc W _ fuel _ _ hf (hw 0 26 _ rfl rfl)
    have hok := hval 0 26 v0 rfl rfl
    simp only [Value.okWide, Try.underlying26] at hok
    obtain ⟨cs, rfl, _⟩ := hok
    exact ⟨y, cs.toList, rfl, hy⟩
  obtain ⟨y0, R0⟩ := R0
  refine (calls_law (args := [v0]) Try.func3 (by kernel_rfl) (by kernel_rfl) (c_FnExactTrimAutomaton R0)).mono fun e W' ⟨he, hb⟩ => ?_
  exact ⟨_, he, post_law laid rfl (by rw [Try.params3]; decide +kernel) ⟨4, by kernel_rfl, Try.underlying4⟩ ⟨rfl, rfl, rfl⟩ hW' hb⟩

theorem lifted (os : Os) (started : os.Started) (H : Type) (enc : TypeId × Value → H) :
    ReturnsInHanded {} Try.checked os 3 .any (Rows.fnExactTrimAutomatonSpec.pre6 enc Try.prog Try.f3 Rows.fnExactTrimAutomatonRow.domain false) (Rows.fnExactTrimAutomatonSpec.post enc Try.prog Try.f3 false true false false) := by
  refine returnsInHanded_of_change_sized (C := Try.checked) (s := Rows.fnExactTrimAutomatonSpec) own0 started (by kernel_rfl) Try.func3
    (ChangeSpec.witness6 (enc := enc) (C := Try.checked) false ⟨#[], #[.agg #[.slice none 0 0, .slice none 0 0, .slice none 0 0]], []⟩ 8 (by kernel_rfl) (by kernel_rfl) (by kernel_rfl) (by kernel_rfl)) ?_
  intro W base args ds gs before hval hW _ hwt _
  exact contract H enc W base args ds gs before hval hW hwt

theorem over : Rows.fnExactTrimAutomatonRow.holds Try.pinned (OpenSpec.ofChange Rows.fnExactTrimAutomatonSpec) :=
  OpenClaim.holds_of_wide 3 Try.f3 rfl rfl rfl rfl rfl rfl rfl ⟨rfl, rfl, rfl, rfl, rfl⟩ rfl rfl rfl rfl rfl (by kernel_rfl) Try.func3 (by kernel_rfl)
    (of_decide_eq_true (by kernel_rfl)) (by unfold Func.isWrapper; first | (rw [if_pos (by decide +kernel)]; kernel_rfl) | (rw [if_neg (by decide +kernel)]; exact ⟨rfl, rfl⟩))
    (fun os started H enc _ => lifted os started H enc)
end fnExactTrimAutomaton

/-- THE STATEMENT -/
theorem holds_FnExactTrimAutomaton : Rows.FnExactTrimAutomatonSaid := fnExactTrimAutomaton.over

end Go.Proofs.Ytknkjplnngeebaa
