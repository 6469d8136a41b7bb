/-
  The statements of laws, out of the laws as calls. Printed by a program.
-/
import Derived.Test.YthgimpheeemooaaBSs
import Derived.Test.YthgimpheeemooaaD2
namespace Go.Proofs.Ythgimpheeemooaa
open Go Go.RowKit Go.ChangeShapes
set_option linter.all false
set_option linter.unusedVariables false
set_option linter.unusedSimpArgs false
set_option linter.defProp false
set_option maxRecDepth 1000000


theorem rd_Sta : RdT Try.prog 62 Sta := by
  intro H enc W sp fuel cs x h hwt
  obtain ⟨xs, n, rfl, rfl, hlen, hxs, hf⟩ := DataW.trod_struct Try.underlying62 h
  rw [show Try.prog.cellsOf 62 = 2 from by kernel_rfl] at hlen
  simp only [wOk, DataW.weights, Try.underlying62] at hwt
  have hw := wOk_each hwt
  have hxs : xs.length = 2 := hxs
  have F0 : ∃ y : List (Int), Ty.rep (whole W) ((cs.drop 0).take 1) y := by
    have h1 := hf 0 _ rfl
    rw [show Try.prog.cellsOf _ = 1 from by kernel_rfl, List.getElem?_eq_getElem (by omega : 0 < xs.length)] at h1
    exact rd_list (α := Int) Try.underlying22 (by kernel_rfl) (by decide) (by rw [show Try.prog.bytesOf 3 = 8 from by kernel_rfl]; decide) (rd_int Try.underlying3) enc W sp n _ _ h1 (hw 0 _ _ rfl (by simp [hxs]))
  have F1 : ∃ y : List (Int), Ty.rep (whole W) ((cs.drop 1).take 1) y := by
    have h1 := hf 1 _ rfl
    rw [show Try.prog.cellsOf _ = 1 from by kernel_rfl, List.getElem?_eq_getElem (by omega : 1 < xs.length)] at h1
    exact rd_list (α := Int) Try.underlying22 (by kernel_rfl) (by decide) (by rw [show Try.prog.bytesOf 3 = 8 from by kernel_rfl]; decide) (rd_int Try.underlying3) enc W sp n _ _ h1 (hw 1 _ _ rfl (by simp [hxs]))
  have G1 : ∃ y : (List (Int)), Ty.rep (whole W) (cs.drop 1) y := by
    rw [List.take_of_length_le (by simp; omega)] at F1
    exact F1
  have G0 : ∃ y : (List (Int)) × (List (Int)), Ty.rep (whole W) (cs.drop 0) y := rd_two F0 (by rw [List.drop_drop]; exact G1)
  obtain ⟨z, hz⟩ := G0
  exact ⟨⟨z.1, z.2⟩, hz⟩

theorem rd_Gr : RdT Try.prog 48 Gr := by
  intro H enc W sp fuel cs x h hwt
  obtain ⟨xs, n, rfl, rfl, hlen, hxs, hf⟩ := DataW.trod_struct Try.underlying48 h
  rw [show Try.prog.cellsOf 48 = 2 from by kernel_rfl] at hlen
  simp only [wOk, DataW.weights, Try.underlying48] at hwt
  have hw := wOk_each hwt
  have hxs : xs.length = 2 := hxs
  have F0 : ∃ y : List (Sta), Ty.rep (whole W) ((cs.drop 0).take 1) y := by
    have h1 := hf 0 _ rfl
    rw [show Try.prog.cellsOf _ = 1 from by kernel_rfl, List.getElem?_eq_getElem (by omega : 0 < xs.length)] at h1
    exact rd_list (α := Sta) Try.underlying45 (by kernel_rfl) (by decide) (by rw [show Try.prog.bytesOf 62 = 48 from by kernel_rfl]; decide) (rd_Sta) enc W sp n _ _ h1 (hw 0 _ _ rfl (by simp [hxs]))
  have F1 : ∃ y : List (List (Int)), Ty.rep (whole W) ((cs.drop 1).take 1) y := by
    have h1 := hf 1 _ rfl
    rw [show Try.prog.cellsOf _ = 1 from by kernel_rfl, List.getElem?_eq_getElem (by omega : 1 < xs.length)] at h1
    exact rd_list (α := List (Int)) Try.underlying46 (by kernel_rfl) (by decide) (by rw [show Try.prog.bytesOf 22 = 24 from by kernel_rfl]; decide) (rd_list (α := Int) Try.underlying22 (by kernel_rfl) (by decide) (by rw [show Try.prog.bytesOf 3 = 8 from by kernel_rfl]; decide) (rd_int Try.underlying3)) enc W sp n _ _ h1 (hw 1 _ _ rfl (by simp [hxs]))
  have G1 : ∃ y : (List (List (Int))), Ty.rep (whole W) (cs.drop 1) y := by
    rw [List.take_of_length_le (by simp; omega)] at F1
    exact F1
  have G0 : ∃ y : (List (Sta)) × (List (List (Int))), Ty.rep (whole W) (cs.drop 0) y := rd_two F0 (by rw [List.drop_drop]; exact G1)
  obtain ⟨z, hz⟩ := G0
  exact ⟨⟨z.1, z.2⟩, hz⟩

end Go.Proofs.Ythgimpheeemooaa
