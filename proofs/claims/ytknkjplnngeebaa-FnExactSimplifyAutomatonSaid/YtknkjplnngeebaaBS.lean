/-
  The statements of laws, out of the laws as calls. Printed by a program.
-/
import Derived.Test.YtknkjplnngeebaaD1
import Derived.Test.YtknkjplnngeebaaB0
import Derived.Test.YtknkjplnngeebaaRows
namespace Go.Proofs.Ytknkjplnngeebaa
open Go Go.RowKit Go.ChangeShapes
set_option linter.all false
set_option linter.unusedVariables false
set_option linter.unusedSimpArgs false
set_option linter.defProp false
set_option maxRecDepth 1000000

theorem laid : laidOutB Try.prog = true := by kernel_rfl
theorem own0 : ownKnob Try.prog.godebug = none := by kernel_rfl

theorem rd_Tr : RdT Try.prog 73 Tr := by
  intro H enc W sp fuel cs x h hwt
  obtain ⟨xs, n, rfl, rfl, hlen, hxs, hf⟩ := DataW.trod_struct Try.underlying73 h
  rw [show Try.prog.cellsOf 73 = 4 from by kernel_rfl] at hlen
  simp only [wOk, DataW.weights, Try.underlying73] at hwt
  have hw := wOk_each hwt
  have hxs : xs.length = 4 := hxs
  have F0 : ∃ y : Int, Ty.rep (whole W) ((cs.drop 0).take 1) y := by
    have h1 := hf 0 _ rfl
    rw [show Try.prog.cellsOf _ = 1 from by kernel_rfl, List.getElem?_eq_getElem (by omega : 0 < xs.length)] at h1
    exact rd_int Try.underlying3 enc W sp n _ _ h1 (hw 0 _ _ rfl (by simp [hxs]))
  have F1 : ∃ y : Int, Ty.rep (whole W) ((cs.drop 1).take 1) y := by
    have h1 := hf 1 _ rfl
    rw [show Try.prog.cellsOf _ = 1 from by kernel_rfl, List.getElem?_eq_getElem (by omega : 1 < xs.length)] at h1
    exact rd_int Try.underlying3 enc W sp n _ _ h1 (hw 1 _ _ rfl (by simp [hxs]))
  have F2 : ∃ y : Int, Ty.rep (whole W) ((cs.drop 2).take 1) y := by
    have h1 := hf 2 _ rfl
    rw [show Try.prog.cellsOf _ = 1 from by kernel_rfl, List.getElem?_eq_getElem (by omega : 2 < xs.length)] at h1
    exact rd_int Try.underlying3 enc W sp n _ _ h1 (hw 2 _ _ rfl (by simp [hxs]))
  have F3 : ∃ y : Int, Ty.rep (whole W) ((cs.drop 3).take 1) y := by
    have h1 := hf 3 _ rfl
    rw [show Try.prog.cellsOf _ = 1 from by kernel_rfl, List.getElem?_eq_getElem (by omega : 3 < xs.length)] at h1
    exact rd_int Try.underlying3 enc W sp n _ _ h1 (hw 3 _ _ rfl (by simp [hxs]))
  have G3 : ∃ y : Int, Ty.rep (whole W) (cs.drop 3) y := by
    rw [List.take_of_length_le (by simp; omega)] at F3
    exact F3
  have G2 : ∃ y : Int × Int, Ty.rep (whole W) (cs.drop 2) y := rd_two F2 (by rw [List.drop_drop]; exact G3)
  have G1 : ∃ y : Int × Int × Int, Ty.rep (whole W) (cs.drop 1) y := rd_two F1 (by rw [List.drop_drop]; exact G2)
  have G0 : ∃ y : Int × Int × Int × Int, Ty.rep (whole W) (cs.drop 0) y := rd_two F0 (by rw [List.drop_drop]; exact G1)
  obtain ⟨z, hz⟩ := G0
  exact ⟨⟨z.1, z.2.1, z.2.2.1, z.2.2.2⟩, hz⟩

theorem rd_Aut : RdT Try.prog 26 Aut := by
  intro H enc W sp fuel cs x h hwt
  obtain ⟨xs, n, rfl, rfl, hlen, hxs, hf⟩ := DataW.trod_struct Try.underlying26 h
  rw [show Try.prog.cellsOf 26 = 3 from by kernel_rfl] at hlen
  simp only [wOk, DataW.weights, Try.underlying26] at hwt
  have hw := wOk_each hwt
  have hxs : xs.length = 3 := hxs
  have F0 : ∃ y : List (Int), Ty.rep (whole W) ((cs.drop 0).take 1) y := by
    have h1 := hf 0 _ rfl
    rw [show Try.prog.cellsOf _ = 1 from by kernel_rfl, List.getElem?_eq_getElem (by omega : 0 < xs.length)] at h1
    exact rd_list (α := Int) Try.underlying22 (by kernel_rfl) (by decide) (by rw [show Try.prog.bytesOf 3 = 8 from by kernel_rfl]; decide) (rd_int Try.underlying3) enc W sp n _ _ h1 (hw 0 _ _ rfl (by simp [hxs]))
  have F1 : ∃ y : List (Bool), Ty.rep (whole W) ((cs.drop 1).take 1) y := by
    have h1 := hf 1 _ rfl
    rw [show Try.prog.cellsOf _ = 1 from by kernel_rfl, List.getElem?_eq_getElem (by omega : 1 < xs.length)] at h1
    exact rd_list (α := Bool) Try.underlying23 (by kernel_rfl) (by decide) (by rw [show Try.prog.bytesOf 4 = 1 from by kernel_rfl]; decide) (rd_bool Try.underlying4) enc W sp n _ _ h1 (hw 1 _ _ rfl (by simp [hxs]))
  have F2 : ∃ y : List (Tr), Ty.rep (whole W) ((cs.drop 2).take 1) y := by
    have h1 := hf 2 _ rfl
    rw [show Try.prog.cellsOf _ = 1 from by kernel_rfl, List.getElem?_eq_getElem (by omega : 2 < xs.length)] at h1
    exact rd_list (α := Tr) Try.underlying24 (by kernel_rfl) (by decide) (by rw [show Try.prog.bytesOf 73 = 32 from by kernel_rfl]; decide) (rd_Tr) enc W sp n _ _ h1 (hw 2 _ _ rfl (by simp [hxs]))
  have G2 : ∃ y : (List (Tr)), Ty.rep (whole W) (cs.drop 2) y := by
    rw [List.take_of_length_le (by simp; omega)] at F2
    exact F2
  have G1 : ∃ y : (List (Bool)) × (List (Tr)), Ty.rep (whole W) (cs.drop 1) y := rd_two F1 (by rw [List.drop_drop]; exact G2)
  have G0 : ∃ y : (List (Int)) × (List (Bool)) × (List (Tr)), Ty.rep (whole W) (cs.drop 0) y := rd_two F0 (by rw [List.drop_drop]; exact G1)
  obtain ⟨z, hz⟩ := G0
  exact ⟨⟨z.1, z.2.1, z.2.2⟩, hz⟩

end Go.Proofs.Ytknkjplnngeebaa
