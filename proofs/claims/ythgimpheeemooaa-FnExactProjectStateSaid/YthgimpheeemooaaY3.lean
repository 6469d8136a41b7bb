/-
  Laws as calls: the program returns what the reference returns. Printed by a program.
-/
import Derived.Test.YthgimpheeemooaaE8
import Derived.Test.YthgimpheeemooaaPI
namespace Go.Proofs.Ythgimpheeemooaa
open Go
set_option linter.all false
set_option linter.unusedVariables false
set_option linter.unusedSimpArgs false
set_option linter.defProp false
set_option maxRecDepth 1000000

set_option maxHeartbeats 4000000 in
theorem c_FnExactProjectState {h : Heap} {v0 : Value} {a0 : Sy} (R0 : Rep h v0 a0) {v1 : Value} {a1 : List Exq} (R1 : Rep h v1 a1) {v2 : Value} {a2 : Sta} (R2 : Rep h v2 a2) : CallE Try.prog fn_laws_FnExactProjectState [v0, v1, v2] h (fun u h' => h.le h' ∧ u = .bool true) := by
  refine CallE.gen fun k hk => EN_laws_FnExactProjectState rfl ?_
  have F0 := R0.aSy
  have F1 := R2.aSta
  simp -implicitDefEqProofs (disch := first | omega | (simp only [List.length_set, List.length_replicate, List.length_append, List.length_map, List.length_take, List.length_cons, List.length_nil]; omega)) [wrap64, F0, F1]
  refine (c_szSystem R0 (n := 1048576) (by omega)).go ?_
  rintro _ h ⟨rfl, l0, rfl, q0⟩
  simp -implicitDefEqProofs (disch := first | omega | (simp only [List.length_set, List.length_replicate, List.length_append, List.length_map, List.length_take, List.length_cons, List.length_nil]; omega)) [wrap64, F0, F1]
  refine IteW.mk (fun hlt => ?_) (fun hge0 => ?_)
  · simp -implicitDefEqProofs (disch := first | omega | (simp only [List.length_set, List.length_replicate, List.length_append, List.length_map, List.length_take, List.length_cons, List.length_nil]; omega)) [wrap64]
    exact RetK.keep (hk _ _ ⟨Heap.le.refl _, rfl⟩)
  simp -implicitDefEqProofs (disch := first | omega | (simp only [List.length_set, List.length_replicate, List.length_append, List.length_map, List.length_take, List.length_cons, List.length_nil]; omega)) [wrap64, F0, F1]
  refine (c_szExprS R1 (n := l0) (by omega)).go ?_
  rintro _ h ⟨rfl, l1, rfl, q1⟩
  simp -implicitDefEqProofs (disch := first | omega | (simp only [List.length_set, List.length_replicate, List.length_append, List.length_map, List.length_take, List.length_cons, List.length_nil]; omega)) [wrap64, F0, F1]
  refine IteW.mk (fun hlt => ?_) (fun hge1 => ?_)
  · simp -implicitDefEqProofs (disch := first | omega | (simp only [List.length_set, List.length_replicate, List.length_append, List.length_map, List.length_take, List.length_cons, List.length_nil]; omega)) [wrap64]
    exact RetK.keep (hk _ _ ⟨Heap.le.refl _, rfl⟩)
  simp -implicitDefEqProofs (disch := first | omega | (simp only [List.length_set, List.length_replicate, List.length_append, List.length_map, List.length_take, List.length_cons, List.length_nil]; omega)) [wrap64, F0, F1]
  refine (c_szState R2 (n := l1) (by omega)).go ?_
  rintro _ h ⟨rfl, l2, rfl, q2⟩
  simp -implicitDefEqProofs (disch := first | omega | (simp only [List.length_set, List.length_replicate, List.length_append, List.length_map, List.length_take, List.length_cons, List.length_nil]; omega)) [wrap64, F0, F1]
  refine IteW.mk (fun hlt => ?_) (fun hge2 => ?_)
  · simp -implicitDefEqProofs (disch := first | omega | (simp only [List.length_set, List.length_replicate, List.length_append, List.length_map, List.length_take, List.length_cons, List.length_nil]; omega)) [wrap64]
    exact RetK.keep (hk _ _ ⟨Heap.le.refl _, rfl⟩)
  have qq0 : Sz.sz a0 ≤ 1048576 := by omega
  have qq1 : Sz.sz a1 ≤ 1048576 := by omega
  have qq2 : Sz.sz a2 ≤ 1048576 := by omega
  have hc0 := cnt_System (x := a0) (by omega)
  have hc1 := cnt_ExprS (x := a1) (by omega)
  have hc2 := cnt_State (x := a2) (by omega)
  have hcy := bnd_ProjectState (a0 := a0) (a1 := a1) (a2 := a2)
  have H : HS h [] h := HS.init
  simp -implicitDefEqProofs (disch := first | omega | (simp only [List.length_set, List.length_replicate, List.length_append, List.length_map, List.length_take, List.length_cons, List.length_nil]; omega)) [wrap64, F0, F1]
  refine (c_toSystem R0 (by omega)).go ?_
  intro s0 m1 G
  have H := G.app H
  have F2 := H.rep.aSy
  simp -implicitDefEqProofs (disch := first | omega | (simp only [List.length_set, List.length_replicate, List.length_append, List.length_map, List.length_take, List.length_cons, List.length_nil]; omega)) [wrap64, F0, F1, F2]
  refine (c_toExprS (R1.on H) (by omega)).go ?_
  intro s1 m2 G
  have H := G.app H
  simp -implicitDefEqProofs (disch := first | omega | (simp only [List.length_set, List.length_replicate, List.length_append, List.length_map, List.length_take, List.length_cons, List.length_nil]; omega)) [wrap64, F0, F1, F2]
  refine (c_toState (R2.on H) (by omega)).go ?_
  intro s2 m3 G
  have H := G.app H
  have F3 := H.rep.aSta
  simp -implicitDefEqProofs (disch := first | omega | (simp only [List.length_set, List.length_replicate, List.length_append, List.length_map, List.length_take, List.length_cons, List.length_nil]; omega)) [wrap64, F0, F1, F2, F3]
  refine (c_spec_ProjectState H.sw2.rep H.sw1.rep H.rep).go ?_
  rintro _ m4 ⟨w0, rfl, G⟩
  have H := G.app H
  have F4 := H.rep.aSta
  have H := H.only
  simp -implicitDefEqProofs (disch := first | omega | (simp only [List.length_set, List.length_replicate, List.length_append, List.length_map, List.length_take, List.length_cons, List.length_nil]; omega)) [wrap64, F0, F1, F2, F3, F4]
  refine (c_toSystem (R0.on H) (by omega)).go ?_
  intro x0 m5 G
  have H := G.app H
  have F5 := H.rep.aSy
  simp -implicitDefEqProofs (disch := first | omega | (simp only [List.length_set, List.length_replicate, List.length_append, List.length_map, List.length_take, List.length_cons, List.length_nil]; omega)) [wrap64, F0, F1, F2, F3, F4, F5]
  refine (c_toExprS (R1.on H) (by omega)).go ?_
  intro x1 m6 G
  have H := G.app H
  simp -implicitDefEqProofs (disch := first | omega | (simp only [List.length_set, List.length_replicate, List.length_append, List.length_map, List.length_take, List.length_cons, List.length_nil]; omega)) [wrap64, F0, F1, F2, F3, F4, F5]
  refine (c_toState (R2.on H) (by omega)).go ?_
  intro x2 m7 G
  have H := G.app H
  have F6 := H.rep.aSta
  simp -implicitDefEqProofs (disch := first | omega | (simp only [List.length_set, List.length_replicate, List.length_append, List.length_map, List.length_take, List.length_cons, List.length_nil]; omega)) [wrap64, F0, F1, F2, F3, F4, F5, F6]
  refine (c_ProjectState H.sw2.rep H.sw1.rep H.rep).go ?_
  rintro _ m8 ⟨g0, rfl, G⟩
  have H := G.app H
  have F7 := H.rep.aSta
  simp -implicitDefEqProofs (disch := first | omega | (simp only [List.length_set, List.length_replicate, List.length_append, List.length_map, List.length_take, List.length_cons, List.length_nil]; omega)) [wrap64, F0, F1, F2, F3, F4, F5, F6, F7]
  refine (c_eqState H.rep H.sw4.rep).go ?_
  rintro _ _ ⟨rfl, rfl⟩
  simp -implicitDefEqProofs (disch := first | omega | (simp only [List.length_set, List.length_replicate, List.length_append, List.length_map, List.length_take, List.length_cons, List.length_nil]; omega)) [wrap64, F0, F1, F2, F3, F4, F5, F6, F7]
  refine (c_toSystem (R0.on H) (by omega)).go ?_
  intro t0 m9 G
  have H := G.app H
  have F8 := H.rep.aSy
  simp -implicitDefEqProofs (disch := first | omega | (simp only [List.length_set, List.length_replicate, List.length_append, List.length_map, List.length_take, List.length_cons, List.length_nil]; omega)) [wrap64, F0, F1, F2, F3, F4, F5, F6, F7, F8]
  refine (c_eqSystem H.sw4.rep H.rep).go ?_
  rintro _ _ ⟨rfl, rfl⟩
  have H := H.drop
  simp -implicitDefEqProofs (disch := first | omega | (simp only [List.length_set, List.length_replicate, List.length_append, List.length_map, List.length_take, List.length_cons, List.length_nil]; omega)) [wrap64, F0, F1, F2, F3, F4, F5, F6, F7, F8]
  refine (c_toExprS (R1.on H) (by omega)).go ?_
  intro t1 m10 G
  have H := G.app H
  simp -implicitDefEqProofs (disch := first | omega | (simp only [List.length_set, List.length_replicate, List.length_append, List.length_map, List.length_take, List.length_cons, List.length_nil]; omega)) [wrap64, F0, F1, F2, F3, F4, F5, F6, F7, F8]
  refine (c_eqExprS H.sw3.rep H.rep).go ?_
  rintro _ _ ⟨rfl, rfl⟩
  have H := H.drop
  simp -implicitDefEqProofs (disch := first | omega | (simp only [List.length_set, List.length_replicate, List.length_append, List.length_map, List.length_take, List.length_cons, List.length_nil]; omega)) [wrap64, F0, F1, F2, F3, F4, F5, F6, F7, F8]
  refine (c_toState (R2.on H) (by omega)).go ?_
  intro t2 m11 G
  have H := G.app H
  have F9 := H.rep.aSta
  simp -implicitDefEqProofs (disch := first | omega | (simp only [List.length_set, List.length_replicate, List.length_append, List.length_map, List.length_take, List.length_cons, List.length_nil]; omega)) [wrap64, F0, F1, F2, F3, F4, F5, F6, F7, F8, F9]
  refine (c_eqState H.sw2.rep H.rep).go ?_
  rintro _ _ ⟨rfl, rfl⟩
  have H := H.drop
  simp -implicitDefEqProofs (disch := first | omega | (simp only [List.length_set, List.length_replicate, List.length_append, List.length_map, List.length_take, List.length_cons, List.length_nil]; omega)) [wrap64, F0, F1, F2, F3, F4, F5, F6, F7, F8, F9]
  refine (c_markSystem (k0 := 1) H.sw3 (by omega) (by omega)).go ?_
  rintro _ m12 ⟨H, rfl⟩
  simp -implicitDefEqProofs (disch := first | omega | (simp only [List.length_set, List.length_replicate, List.length_append, List.length_map, List.length_take, List.length_cons, List.length_nil]; omega)) [wrap64, F0, F1, F2, F3, F4, F5, F6, F7, F8, F9]
  refine (c_markExprS (k0 := 1 + (Mk.cnt a0 : Nat)) H.sw3 (by omega) (by omega)).go ?_
  rintro _ m13 ⟨H, rfl⟩
  simp -implicitDefEqProofs (disch := first | omega | (simp only [List.length_set, List.length_replicate, List.length_append, List.length_map, List.length_take, List.length_cons, List.length_nil]; omega)) [wrap64, F0, F1, F2, F3, F4, F5, F6, F7, F8, F9]
  refine (c_markState (k0 := 1 + (Mk.cnt a0 : Nat) + (Mk.cnt a1 : Nat)) H.sw3 (by omega) (by omega)).go ?_
  rintro _ m14 ⟨H, rfl⟩
  have hneg : ¬ ((1 + (Mk.cnt a0 : Nat) + (Mk.cnt a1 : Nat) + (Mk.cnt a2 : Nat) : Int) < 0) := by omega
  simp -implicitDefEqProofs (disch := first | omega | (simp only [List.length_set, List.length_replicate, List.length_append, List.length_map, List.length_take, List.length_cons, List.length_nil]; omega)) [wrap64, F0, F1, F2, F3, F4, F5, F6, F7, F8, F9, hneg]
  refine (c_eqState H.sw3.rep H.sw4.rep).go ?_
  rintro _ _ ⟨rfl, rfl⟩
  simp -implicitDefEqProofs (disch := first | omega | (simp only [List.length_set, List.length_replicate, List.length_append, List.length_map, List.length_take, List.length_cons, List.length_nil]; omega)) [wrap64, F0, F1, F2, F3, F4, F5, F6, F7, F8, F9, hneg]
  refine (c_markState (k0 := 1) H.sw3 (by omega) (by omega)).go ?_
  rintro _ m15 ⟨H, rfl⟩
  have hcw := fun y : Sta => Mk.cnt_wr 1 y
  simp -implicitDefEqProofs (disch := first | omega | (simp only [List.length_set, List.length_replicate, List.length_append, List.length_map, List.length_take, List.length_cons, List.length_nil]; omega)) [wrap64, F0, F1, F2, F3, F4, F5, F6, F7, F8, F9, hneg]
  refine (c_heldState (k0 := 1) H.rep (by omega) (by rw [hcw]; omega)).go ?_
  rintro _ _ ⟨rfl, rfl⟩
  rw [if_pos (Mk.wr_wr 1 1 _), hcw]
  simp -implicitDefEqProofs (disch := first | omega | (simp only [List.length_set, List.length_replicate, List.length_append, List.length_map, List.length_take, List.length_cons, List.length_nil]; omega)) [wrap64, F0, F1, F2, F3, F4, F5, F6, F7, F8, F9, hneg]
  rw [IteW_neg (by omega)]
  simp -implicitDefEqProofs (disch := first | omega | (simp only [List.length_set, List.length_replicate, List.length_append, List.length_map, List.length_take, List.length_cons, List.length_nil]; omega)) [wrap64, F0, F1, F2, F3, F4, F5, F6, F7, F8, F9, hneg]
  refine (c_toSystem (R0.on H) (by omega)).go ?_
  intro y0 m16 G
  have H := G.app H
  have F11 := H.rep.aSy
  simp -implicitDefEqProofs (disch := first | omega | (simp only [List.length_set, List.length_replicate, List.length_append, List.length_map, List.length_take, List.length_cons, List.length_nil]; omega)) [wrap64, F0, F1, F2, F3, F4, F5, F6, F7, F8, F9, hneg, F11]
  refine (c_toExprS (R1.on H) (by omega)).go ?_
  intro y1 m17 G
  have H := G.app H
  simp -implicitDefEqProofs (disch := first | omega | (simp only [List.length_set, List.length_replicate, List.length_append, List.length_map, List.length_take, List.length_cons, List.length_nil]; omega)) [wrap64, F0, F1, F2, F3, F4, F5, F6, F7, F8, F9, hneg, F11]
  refine (c_toState (R2.on H) (by omega)).go ?_
  intro y2 m18 G
  have H := G.app H
  have F12 := H.rep.aSta
  simp -implicitDefEqProofs (disch := first | omega | (simp only [List.length_set, List.length_replicate, List.length_append, List.length_map, List.length_take, List.length_cons, List.length_nil]; omega)) [wrap64, F0, F1, F2, F3, F4, F5, F6, F7, F8, F9, hneg, F11, F12]
  refine (c_ProjectState H.sw2.rep H.sw1.rep H.rep).go ?_
  rintro _ m19 ⟨z0, rfl, G⟩
  have H := G.app H
  have F13 := H.rep.aSta
  simp -implicitDefEqProofs (disch := first | omega | (simp only [List.length_set, List.length_replicate, List.length_append, List.length_map, List.length_take, List.length_cons, List.length_nil]; omega)) [wrap64, F0, F1, F2, F3, F4, F5, F6, F7, F8, F9, hneg, F11, F12, F13]
  refine (c_eqState H.rep H.sw8.rep).go ?_
  rintro _ _ ⟨rfl, rfl⟩
  simp -implicitDefEqProofs (disch := first | omega | (simp only [List.length_set, List.length_replicate, List.length_append, List.length_map, List.length_take, List.length_cons, List.length_nil]; omega)) [wrap64, F0, F1, F2, F3, F4, F5, F6, F7, F8, F9, hneg, F11, F12, F13]
  refine (c_heldState (k0 := 1) H.sw4.rep (by omega) (by rw [hcw]; omega)).go ?_
  rintro _ _ ⟨rfl, rfl⟩
  rw [if_pos (Mk.wr_wr 1 1 _), hcw]
  simp -implicitDefEqProofs (disch := first | omega | (simp only [List.length_set, List.length_replicate, List.length_append, List.length_map, List.length_take, List.length_cons, List.length_nil]; omega)) [wrap64, F0, F1, F2, F3, F4, F5, F6, F7, F8, F9, hneg, F11, F12, F13]
  rw [IteW_neg (by omega)]
  simp -implicitDefEqProofs (disch := first | omega | (simp only [List.length_set, List.length_replicate, List.length_append, List.length_map, List.length_take, List.length_cons, List.length_nil]; omega)) [wrap64, F0, F1, F2, F3, F4, F5, F6, F7, F8, F9, hneg, F11, F12, F13]
  exact RetK.keep (hk _ _ ⟨H.base, rfl⟩)
end Go.Proofs.Ythgimpheeemooaa
