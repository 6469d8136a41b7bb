/-
  Laws as calls: the program returns what the reference returns. Printed by a program.
-/
import Derived.Test.YthgimpheeemooaaI2
import Derived.Test.YthgimpheeemooaaEE
namespace Go.Proofs.Ythgimpheeemooaa
open Go
set_option linter.all false
set_option linter.unusedVariables false
set_option linter.unusedSimpArgs false
set_option linter.defProp false
set_option maxRecDepth 1000000

set_option maxHeartbeats 4000000 in
theorem c_FnExactApplyStep {h : Heap} {v0 : Value} {a0 : Sy} (R0 : Rep h v0 a0) {v1 : Value} {a1 : Sta} (R1 : Rep h v1 a1) {a2 : Stp} (K2 : a2.ok) : CallE Try.prog fn_laws_FnExactApplyStep [v0, v1, a2.v] h (fun u h' => h.le h' ∧ u = .bool true) := by
  refine CallE.gen fun k hk => EN_laws_FnExactApplyStep rfl ?_
  have F0 := R0.aSy
  have F1 := R1.aSta
  have FE2 := (Stp.rep (h := h) K2).aStp
  simp -implicitDefEqProofs (disch := first | omega | (simp only [List.length_set, List.length_replicate, List.length_append, List.length_map, List.length_take, List.length_cons, List.length_nil]; omega)) [wrap64, F0, F1, FE2]
  refine (c_szSystem R0 (n := 1048576) (by omega)).go ?_
  rintro _ h ⟨rfl, l0, rfl, q0⟩
  simp -implicitDefEqProofs (disch := first | omega | (simp only [List.length_set, List.length_replicate, List.length_append, List.length_map, List.length_take, List.length_cons, List.length_nil]; omega)) [wrap64, F0, F1, FE2]
  refine IteW.mk (fun hlt => ?_) (fun hge0 => ?_)
  · simp -implicitDefEqProofs (disch := first | omega | (simp only [List.length_set, List.length_replicate, List.length_append, List.length_map, List.length_take, List.length_cons, List.length_nil]; omega)) [wrap64]
    exact RetK.keep (hk _ _ ⟨Heap.le.refl _, rfl⟩)
  simp -implicitDefEqProofs (disch := first | omega | (simp only [List.length_set, List.length_replicate, List.length_append, List.length_map, List.length_take, List.length_cons, List.length_nil]; omega)) [wrap64, F0, F1, FE2]
  refine (c_szState R1 (n := l0) (by omega)).go ?_
  rintro _ h ⟨rfl, l1, rfl, q1⟩
  simp -implicitDefEqProofs (disch := first | omega | (simp only [List.length_set, List.length_replicate, List.length_append, List.length_map, List.length_take, List.length_cons, List.length_nil]; omega)) [wrap64, F0, F1, FE2]
  refine IteW.mk (fun hlt => ?_) (fun hge1 => ?_)
  · simp -implicitDefEqProofs (disch := first | omega | (simp only [List.length_set, List.length_replicate, List.length_append, List.length_map, List.length_take, List.length_cons, List.length_nil]; omega)) [wrap64]
    exact RetK.keep (hk _ _ ⟨Heap.le.refl _, rfl⟩)
  have qq0 : Sz.sz a0 ≤ 1048576 := by omega
  have qq1 : Sz.sz a1 ≤ 1048576 := by omega
  have hc0 := cnt_System (x := a0) (by omega)
  have hc1 := cnt_State (x := a1) (by omega)
  have hcy := bnd_ApplyStep (a0 := a0) (a1 := a1) (a2 := a2)
  have H : HS h [] h := HS.init
  simp -implicitDefEqProofs (disch := first | omega | (simp only [List.length_set, List.length_replicate, List.length_append, List.length_map, List.length_take, List.length_cons, List.length_nil]; omega)) [wrap64, F0, F1, FE2]
  refine (c_toSystem R0 (by omega)).go ?_
  intro s0 m1 G
  have H := G.app H
  have F3 := H.rep.aSy
  simp -implicitDefEqProofs (disch := first | omega | (simp only [List.length_set, List.length_replicate, List.length_append, List.length_map, List.length_take, List.length_cons, List.length_nil]; omega)) [wrap64, F0, F1, FE2, F3]
  refine (c_toState (R1.on H) (by omega)).go ?_
  intro s1 m2 G
  have H := G.app H
  have F4 := H.rep.aSta
  simp -implicitDefEqProofs (disch := first | omega | (simp only [List.length_set, List.length_replicate, List.length_append, List.length_map, List.length_take, List.length_cons, List.length_nil]; omega)) [wrap64, F0, F1, FE2, F3, F4]
  refine c_toStep.go ?_
  rintro _ _ ⟨rfl, rfl⟩
  simp -implicitDefEqProofs (disch := first | omega | (simp only [List.length_set, List.length_replicate, List.length_append, List.length_map, List.length_take, List.length_cons, List.length_nil]; omega)) [wrap64, F0, F1, FE2, F3, F4]
  refine (c_spec_ApplyStep H.sw1.rep H.rep K2).go ?_
  rintro _ m3 ⟨w0, rfl, G⟩
  have H := G.app H
  have F5 := H.rep.aSta
  have H := H.only
  simp -implicitDefEqProofs (disch := first | omega | (simp only [List.length_set, List.length_replicate, List.length_append, List.length_map, List.length_take, List.length_cons, List.length_nil]; omega)) [wrap64, F0, F1, FE2, F3, F4, F5]
  refine (c_toSystem (R0.on H) (by omega)).go ?_
  intro x0 m4 G
  have H := G.app H
  have F6 := H.rep.aSy
  simp -implicitDefEqProofs (disch := first | omega | (simp only [List.length_set, List.length_replicate, List.length_append, List.length_map, List.length_take, List.length_cons, List.length_nil]; omega)) [wrap64, F0, F1, FE2, F3, F4, F5, F6]
  refine (c_toState (R1.on H) (by omega)).go ?_
  intro x1 m5 G
  have H := G.app H
  have F7 := H.rep.aSta
  simp -implicitDefEqProofs (disch := first | omega | (simp only [List.length_set, List.length_replicate, List.length_append, List.length_map, List.length_take, List.length_cons, List.length_nil]; omega)) [wrap64, F0, F1, FE2, F3, F4, F5, F6, F7]
  refine c_toStep.go ?_
  rintro _ _ ⟨rfl, rfl⟩
  simp -implicitDefEqProofs (disch := first | omega | (simp only [List.length_set, List.length_replicate, List.length_append, List.length_map, List.length_take, List.length_cons, List.length_nil]; omega)) [wrap64, F0, F1, FE2, F3, F4, F5, F6, F7]
  refine (c_ApplyStep H.sw1.rep H.rep K2).go ?_
  rintro _ m6 ⟨g0, rfl, G⟩
  have H := G.app H
  have F8 := H.rep.aSta
  simp -implicitDefEqProofs (disch := first | omega | (simp only [List.length_set, List.length_replicate, List.length_append, List.length_map, List.length_take, List.length_cons, List.length_nil]; omega)) [wrap64, F0, F1, FE2, F3, F4, F5, F6, F7, F8]
  refine (c_eqState H.rep H.sw3.rep).go ?_
  rintro _ _ ⟨rfl, rfl⟩
  simp -implicitDefEqProofs (disch := first | omega | (simp only [List.length_set, List.length_replicate, List.length_append, List.length_map, List.length_take, List.length_cons, List.length_nil]; omega)) [wrap64, F0, F1, FE2, F3, F4, F5, F6, F7, F8]
  refine (c_toSystem (R0.on H) (by omega)).go ?_
  intro t0 m7 G
  have H := G.app H
  have F9 := H.rep.aSy
  simp -implicitDefEqProofs (disch := first | omega | (simp only [List.length_set, List.length_replicate, List.length_append, List.length_map, List.length_take, List.length_cons, List.length_nil]; omega)) [wrap64, F0, F1, FE2, F3, F4, F5, F6, F7, F8, F9]
  refine (c_eqSystem H.sw3.rep H.rep).go ?_
  rintro _ _ ⟨rfl, rfl⟩
  have H := H.drop
  simp -implicitDefEqProofs (disch := first | omega | (simp only [List.length_set, List.length_replicate, List.length_append, List.length_map, List.length_take, List.length_cons, List.length_nil]; omega)) [wrap64, F0, F1, FE2, F3, F4, F5, F6, F7, F8, F9]
  refine (c_toState (R1.on H) (by omega)).go ?_
  intro t1 m8 G
  have H := G.app H
  have F10 := H.rep.aSta
  simp -implicitDefEqProofs (disch := first | omega | (simp only [List.length_set, List.length_replicate, List.length_append, List.length_map, List.length_take, List.length_cons, List.length_nil]; omega)) [wrap64, F0, F1, FE2, F3, F4, F5, F6, F7, F8, F9, F10]
  refine (c_eqState H.sw2.rep H.rep).go ?_
  rintro _ _ ⟨rfl, rfl⟩
  have H := H.drop
  simp -implicitDefEqProofs (disch := first | omega | (simp only [List.length_set, List.length_replicate, List.length_append, List.length_map, List.length_take, List.length_cons, List.length_nil]; omega)) [wrap64, F0, F1, FE2, F3, F4, F5, F6, F7, F8, F9, F10]
  refine (c_markSystem (k0 := 1) H.sw2 (by omega) (by omega)).go ?_
  rintro _ m9 ⟨H, rfl⟩
  simp -implicitDefEqProofs (disch := first | omega | (simp only [List.length_set, List.length_replicate, List.length_append, List.length_map, List.length_take, List.length_cons, List.length_nil]; omega)) [wrap64, F0, F1, FE2, F3, F4, F5, F6, F7, F8, F9, F10]
  refine (c_markState (k0 := 1 + (Mk.cnt a0 : Nat)) H.sw2 (by omega) (by omega)).go ?_
  rintro _ m10 ⟨H, rfl⟩
  have hneg : ¬ ((1 + (Mk.cnt a0 : Nat) + (Mk.cnt a1 : Nat) : Int) < 0) := by omega
  simp -implicitDefEqProofs (disch := first | omega | (simp only [List.length_set, List.length_replicate, List.length_append, List.length_map, List.length_take, List.length_cons, List.length_nil]; omega)) [wrap64, F0, F1, FE2, F3, F4, F5, F6, F7, F8, F9, F10, hneg]
  refine (c_eqState H.sw2.rep H.sw3.rep).go ?_
  rintro _ _ ⟨rfl, rfl⟩
  simp -implicitDefEqProofs (disch := first | omega | (simp only [List.length_set, List.length_replicate, List.length_append, List.length_map, List.length_take, List.length_cons, List.length_nil]; omega)) [wrap64, F0, F1, FE2, F3, F4, F5, F6, F7, F8, F9, F10, hneg]
  refine (c_markState (k0 := 1) H.sw2 (by omega) (by omega)).go ?_
  rintro _ m11 ⟨H, rfl⟩
  have hcw := fun y : Sta => Mk.cnt_wr 1 y
  simp -implicitDefEqProofs (disch := first | omega | (simp only [List.length_set, List.length_replicate, List.length_append, List.length_map, List.length_take, List.length_cons, List.length_nil]; omega)) [wrap64, F0, F1, FE2, F3, F4, F5, F6, F7, F8, F9, F10, hneg]
  refine (c_heldState (k0 := 1) H.rep (by omega) (by rw [hcw]; omega)).go ?_
  rintro _ _ ⟨rfl, rfl⟩
  rw [if_pos (Mk.wr_wr 1 1 _), hcw]
  simp -implicitDefEqProofs (disch := first | omega | (simp only [List.length_set, List.length_replicate, List.length_append, List.length_map, List.length_take, List.length_cons, List.length_nil]; omega)) [wrap64, F0, F1, FE2, F3, F4, F5, F6, F7, F8, F9, F10, hneg]
  rw [IteW_neg (by omega)]
  simp -implicitDefEqProofs (disch := first | omega | (simp only [List.length_set, List.length_replicate, List.length_append, List.length_map, List.length_take, List.length_cons, List.length_nil]; omega)) [wrap64, F0, F1, FE2, F3, F4, F5, F6, F7, F8, F9, F10, hneg]
  refine (c_toSystem (R0.on H) (by omega)).go ?_
  intro y0 m12 G
  have H := G.app H
  have F12 := H.rep.aSy
  simp -implicitDefEqProofs (disch := first | omega | (simp only [List.length_set, List.length_replicate, List.length_append, List.length_map, List.length_take, List.length_cons, List.length_nil]; omega)) [wrap64, F0, F1, FE2, F3, F4, F5, F6, F7, F8, F9, F10, hneg, F12]
  refine (c_toState (R1.on H) (by omega)).go ?_
  intro y1 m13 G
  have H := G.app H
  have F13 := H.rep.aSta
  simp -implicitDefEqProofs (disch := first | omega | (simp only [List.length_set, List.length_replicate, List.length_append, List.length_map, List.length_take, List.length_cons, List.length_nil]; omega)) [wrap64, F0, F1, FE2, F3, F4, F5, F6, F7, F8, F9, F10, hneg, F12, F13]
  refine c_toStep.go ?_
  rintro _ _ ⟨rfl, rfl⟩
  simp -implicitDefEqProofs (disch := first | omega | (simp only [List.length_set, List.length_replicate, List.length_append, List.length_map, List.length_take, List.length_cons, List.length_nil]; omega)) [wrap64, F0, F1, FE2, F3, F4, F5, F6, F7, F8, F9, F10, hneg, F12, F13]
  refine (c_ApplyStep H.sw1.rep H.rep K2).go ?_
  rintro _ m14 ⟨z0, rfl, G⟩
  have H := G.app H
  have F14 := H.rep.aSta
  simp -implicitDefEqProofs (disch := first | omega | (simp only [List.length_set, List.length_replicate, List.length_append, List.length_map, List.length_take, List.length_cons, List.length_nil]; omega)) [wrap64, F0, F1, FE2, F3, F4, F5, F6, F7, F8, F9, F10, hneg, F12, F13, F14]
  refine (c_eqState H.rep H.sw6.rep).go ?_
  rintro _ _ ⟨rfl, rfl⟩
  simp -implicitDefEqProofs (disch := first | omega | (simp only [List.length_set, List.length_replicate, List.length_append, List.length_map, List.length_take, List.length_cons, List.length_nil]; omega)) [wrap64, F0, F1, FE2, F3, F4, F5, F6, F7, F8, F9, F10, hneg, F12, F13, F14]
  refine (c_heldState (k0 := 1) H.sw3.rep (by omega) (by rw [hcw]; omega)).go ?_
  rintro _ _ ⟨rfl, rfl⟩
  rw [if_pos (Mk.wr_wr 1 1 _), hcw]
  simp -implicitDefEqProofs (disch := first | omega | (simp only [List.length_set, List.length_replicate, List.length_append, List.length_map, List.length_take, List.length_cons, List.length_nil]; omega)) [wrap64, F0, F1, FE2, F3, F4, F5, F6, F7, F8, F9, F10, hneg, F12, F13, F14]
  rw [IteW_neg (by omega)]
  simp -implicitDefEqProofs (disch := first | omega | (simp only [List.length_set, List.length_replicate, List.length_append, List.length_map, List.length_take, List.length_cons, List.length_nil]; omega)) [wrap64, F0, F1, FE2, F3, F4, F5, F6, F7, F8, F9, F10, hneg, F12, F13, F14]
  exact RetK.keep (hk _ _ ⟨H.base, rfl⟩)
end Go.Proofs.Ythgimpheeemooaa
