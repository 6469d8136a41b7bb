/-
  The statements of laws, out of the laws as calls. Printed by a program.
-/
import Derived.Test.YthgimpheeemooaaGreatD2
import Derived.Test.YthgimpheeemooaaGreatB5
import Derived.Test.YthgimpheeemooaaGreatRows
namespace Go.Proofs.YthgimpheeemooaaGreat
open Go Go.RowKit Go.ChangeShapes
set_option linter.all false
set_option linter.unusedVariables false
set_option linter.unusedSimpArgs false
set_option linter.defProp false
set_option maxRecDepth 1000000

theorem laid : laidOutB Tryz.prog = true := by kernel_rfl
theorem own0 : ownKnob Tryz.prog.godebug = none := by kernel_rfl

theorem rdF_Exq : ∀ fuel, RdF Tryz.prog 50 Exq fuel := by
  intro fuel
  induction fuel using Nat.strongRecOn with
  | _ fuel ih =>
  intro H enc W sp cs x h hwt
  obtain ⟨xs, n, hfu, rfl, hlen, hxs, hf⟩ := DataW.trod_struct Tryz.underlying50 h
  rw [show Tryz.prog.cellsOf 50 = 3 from by kernel_rfl] at hlen
  simp only [wOk, DataW.weights, Tryz.underlying50] at hwt
  have hw := wOk_each hwt
  have hxs : xs.length = 3 := hxs
  have F0 : ∃ y : Int, Ty.rep (whole W) ((cs.drop 0).take 1) y := by
    have h1 := hf 0 _ rfl
    rw [show Tryz.prog.cellsOf _ = 1 from by kernel_rfl, List.getElem?_eq_getElem (by omega : 0 < xs.length)] at h1
    exact rd_int Tryz.underlying3 enc W sp n _ _ h1 (hw 0 _ _ rfl (by simp [hxs]))
  have F1 : ∃ y : Int, Ty.rep (whole W) ((cs.drop 1).take 1) y := by
    have h1 := hf 1 _ rfl
    rw [show Tryz.prog.cellsOf _ = 1 from by kernel_rfl, List.getElem?_eq_getElem (by omega : 1 < xs.length)] at h1
    exact rd_int Tryz.underlying3 enc W sp n _ _ h1 (hw 1 _ _ rfl (by simp [hxs]))
  have F2 : ∃ y : List Exq, Ty.rep (whole W) ((cs.drop 2).take 1) y := by
    have h1 := hf 2 _ rfl
    rw [show Tryz.prog.cellsOf _ = 1 from by kernel_rfl, List.getElem?_eq_getElem (by omega : 2 < xs.length)] at h1
    exact rd_listF (α := Exq) Tryz.underlying48 (by kernel_rfl) (by decide) (by rw [show Tryz.prog.bytesOf 50 = 40 from by kernel_rfl]; decide) (fun m hm => ih m (by omega)) enc W sp _ _ h1 (hw 2 _ _ rfl (by simp [hxs]))
  have G2 : ∃ y : List Exq, Ty.rep (whole W) (cs.drop 2) y := by
    rw [List.take_of_length_le (by simp; omega)] at F2
    exact F2
  have G1 : ∃ y : Int × List Exq, Ty.rep (whole W) (cs.drop 1) y := rd_two F1 (by rw [List.drop_drop]; exact G2)
  have G0 : ∃ y : Int × Int × List Exq, Ty.rep (whole W) (cs.drop 0) y := rd_two F0 (by rw [List.drop_drop]; exact G1)
  obtain ⟨z, hz⟩ := G0
  exact ⟨Exq.mk z.1 z.2.1 z.2.2, Exq.rep_iff.2 hz⟩
theorem rd_Exq : RdT Tryz.prog 50 Exq := fun enc W sp fuel cs x h hw => rdF_Exq fuel enc W sp cs x h hw

theorem rd_Ed : RdT Tryz.prog 149 Ed := by
  intro H enc W sp fuel cs x h hwt
  obtain ⟨xs, n, rfl, rfl, hlen, hxs, hf⟩ := DataW.trod_struct Tryz.underlying149 h
  rw [show Tryz.prog.cellsOf 149 = 10 from by kernel_rfl] at hlen
  simp only [wOk, DataW.weights, Tryz.underlying149] at hwt
  have hw := wOk_each hwt
  have hxs : xs.length = 6 := hxs
  have F0 : ∃ y : Int, Ty.rep (whole W) ((cs.drop 0).take 1) y := by
    have h1 := hf 0 _ rfl
    rw [show Tryz.prog.cellsOf _ = 1 from by kernel_rfl, List.getElem?_eq_getElem (by omega : 0 < xs.length)] at h1
    exact rd_int Tryz.underlying3 enc W sp n _ _ h1 (hw 0 _ _ rfl (by simp [hxs]))
  have F1 : ∃ y : Int, Ty.rep (whole W) ((cs.drop 1).take 1) y := by
    have h1 := hf 1 _ rfl
    rw [show Tryz.prog.cellsOf _ = 1 from by kernel_rfl, List.getElem?_eq_getElem (by omega : 1 < xs.length)] at h1
    exact rd_int Tryz.underlying3 enc W sp n _ _ h1 (hw 1 _ _ rfl (by simp [hxs]))
  have F2 : ∃ y : Exq, Ty.rep (whole W) ((cs.drop 2).take 3) y := by
    have h1 := hf 2 _ rfl
    rw [show Tryz.prog.cellsOf _ = 3 from by kernel_rfl, List.getElem?_eq_getElem (by omega : 2 < xs.length)] at h1
    exact rd_Exq enc W sp n _ _ h1 (hw 2 _ _ rfl (by simp [hxs]))
  have F3 : ∃ y : Int, Ty.rep (whole W) ((cs.drop 5).take 1) y := by
    have h1 := hf 3 _ rfl
    rw [show Tryz.prog.cellsOf _ = 1 from by kernel_rfl, List.getElem?_eq_getElem (by omega : 3 < xs.length)] at h1
    exact rd_int Tryz.underlying3 enc W sp n _ _ h1 (hw 3 _ _ rfl (by simp [hxs]))
  have F4 : ∃ y : Exq, Ty.rep (whole W) ((cs.drop 6).take 3) y := by
    have h1 := hf 4 _ rfl
    rw [show Tryz.prog.cellsOf _ = 3 from by kernel_rfl, List.getElem?_eq_getElem (by omega : 4 < xs.length)] at h1
    exact rd_Exq enc W sp n _ _ h1 (hw 4 _ _ rfl (by simp [hxs]))
  have F5 : ∃ y : Int, Ty.rep (whole W) ((cs.drop 9).take 1) y := by
    have h1 := hf 5 _ rfl
    rw [show Tryz.prog.cellsOf _ = 1 from by kernel_rfl, List.getElem?_eq_getElem (by omega : 5 < xs.length)] at h1
    exact rd_int Tryz.underlying3 enc W sp n _ _ h1 (hw 5 _ _ rfl (by simp [hxs]))
  have G5 : ∃ y : Int, Ty.rep (whole W) (cs.drop 9) y := by
    rw [List.take_of_length_le (by simp; omega)] at F5
    exact F5
  have G4 : ∃ y : Exq × Int, Ty.rep (whole W) (cs.drop 6) y := rd_two F4 (by rw [List.drop_drop]; exact G5)
  have G3 : ∃ y : Int × Exq × Int, Ty.rep (whole W) (cs.drop 5) y := rd_two F3 (by rw [List.drop_drop]; exact G4)
  have G2 : ∃ y : Exq × Int × Exq × Int, Ty.rep (whole W) (cs.drop 2) y := rd_two F2 (by rw [List.drop_drop]; exact G3)
  have G1 : ∃ y : Int × Exq × Int × Exq × Int, Ty.rep (whole W) (cs.drop 1) y := rd_two F1 (by rw [List.drop_drop]; exact G2)
  have G0 : ∃ y : Int × Int × Exq × Int × Exq × Int, Ty.rep (whole W) (cs.drop 0) y := rd_two F0 (by rw [List.drop_drop]; exact G1)
  obtain ⟨z, hz⟩ := G0
  exact ⟨⟨z.1, z.2.1, z.2.2.1, z.2.2.2.1, z.2.2.2.2.1, z.2.2.2.2.2⟩, hz⟩

theorem rd_Pr : RdT Tryz.prog 106 Pr := by
  intro H enc W sp fuel cs x h hwt
  obtain ⟨xs, n, rfl, rfl, hlen, hxs, hf⟩ := DataW.trod_struct Tryz.underlying106 h
  rw [show Tryz.prog.cellsOf 106 = 2 from by kernel_rfl] at hlen
  simp only [wOk, DataW.weights, Tryz.underlying106] at hwt
  have hw := wOk_each hwt
  have hxs : xs.length = 2 := hxs
  have F0 : ∃ y : Int, Ty.rep (whole W) ((cs.drop 0).take 1) y := by
    have h1 := hf 0 _ rfl
    rw [show Tryz.prog.cellsOf _ = 1 from by kernel_rfl, List.getElem?_eq_getElem (by omega : 0 < xs.length)] at h1
    exact rd_int Tryz.underlying3 enc W sp n _ _ h1 (hw 0 _ _ rfl (by simp [hxs]))
  have F1 : ∃ y : List (Ed), Ty.rep (whole W) ((cs.drop 1).take 1) y := by
    have h1 := hf 1 _ rfl
    rw [show Tryz.prog.cellsOf _ = 1 from by kernel_rfl, List.getElem?_eq_getElem (by omega : 1 < xs.length)] at h1
    exact rd_list (α := Ed) Tryz.underlying104 (by kernel_rfl) (by decide) (by rw [show Tryz.prog.bytesOf 149 = 112 from by kernel_rfl]; decide) (rd_Ed) enc W sp n _ _ h1 (hw 1 _ _ rfl (by simp [hxs]))
  have G1 : ∃ y : (List (Ed)), Ty.rep (whole W) (cs.drop 1) y := by
    rw [List.take_of_length_le (by simp; omega)] at F1
    exact F1
  have G0 : ∃ y : Int × (List (Ed)), Ty.rep (whole W) (cs.drop 0) y := rd_two F0 (by rw [List.drop_drop]; exact G1)
  obtain ⟨z, hz⟩ := G0
  exact ⟨⟨z.1, z.2⟩, hz⟩

theorem rd_Sy : RdT Tryz.prog 25 Sy := by
  intro H enc W sp fuel cs x h hwt
  obtain ⟨xs, n, rfl, rfl, hlen, hxs, hf⟩ := DataW.trod_struct Tryz.underlying25 h
  rw [show Tryz.prog.cellsOf 25 = 2 from by kernel_rfl] at hlen
  simp only [wOk, DataW.weights, Tryz.underlying25] at hwt
  have hw := wOk_each hwt
  have hxs : xs.length = 2 := hxs
  have F0 : ∃ y : List (Int), Ty.rep (whole W) ((cs.drop 0).take 1) y := by
    have h1 := hf 0 _ rfl
    rw [show Tryz.prog.cellsOf _ = 1 from by kernel_rfl, List.getElem?_eq_getElem (by omega : 0 < xs.length)] at h1
    exact rd_list (α := Int) Tryz.underlying22 (by kernel_rfl) (by decide) (by rw [show Tryz.prog.bytesOf 3 = 8 from by kernel_rfl]; decide) (rd_int Tryz.underlying3) enc W sp n _ _ h1 (hw 0 _ _ rfl (by simp [hxs]))
  have F1 : ∃ y : List (Pr), Ty.rep (whole W) ((cs.drop 1).take 1) y := by
    have h1 := hf 1 _ rfl
    rw [show Tryz.prog.cellsOf _ = 1 from by kernel_rfl, List.getElem?_eq_getElem (by omega : 1 < xs.length)] at h1
    exact rd_list (α := Pr) Tryz.underlying23 (by kernel_rfl) (by decide) (by rw [show Tryz.prog.bytesOf 106 = 32 from by kernel_rfl]; decide) (rd_Pr) enc W sp n _ _ h1 (hw 1 _ _ rfl (by simp [hxs]))
  have G1 : ∃ y : (List (Pr)), Ty.rep (whole W) (cs.drop 1) y := by
    rw [List.take_of_length_le (by simp; omega)] at F1
    exact F1
  have G0 : ∃ y : (List (Int)) × (List (Pr)), Ty.rep (whole W) (cs.drop 0) y := rd_two F0 (by rw [List.drop_drop]; exact G1)
  obtain ⟨z, hz⟩ := G0
  exact ⟨⟨z.1, z.2⟩, hz⟩

end Go.Proofs.YthgimpheeemooaaGreat
