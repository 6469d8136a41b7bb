/-
  Laws as calls: the program returns what the reference returns. Printed by a program.
-/
import Derived.Test.YthgimpheeemooaaGreatI10
import Derived.Test.YthgimpheeemooaaGreatF7
namespace Go.Proofs.YthgimpheeemooaaGreat
open Go
set_option linter.all false
set_option linter.unusedVariables false
set_option linter.unusedSimpArgs false
set_option linter.defProp false
set_option maxRecDepth 1000000

set_option maxHeartbeats 4000000 in
theorem c_FnExactDeadEdges {h : Heap} {v0 : Value} {a0 : Sy} (R0 : Rep h v0 a0) {a1 : Int} (K1 : I64 a1) : CallE Tryz.prog fn_laws_FnExactDeadEdges [v0, .int .i64 a1] h (fun u h' => h.le h' ∧ u = .bool true) := by
  refine CallE.gen fun k hk => EN_laws_FnExactDeadEdges rfl ?_
  have F0 := R0.aSy
  simp -implicitDefEqProofs (disch := first | omega | (simp only [List.length_set, List.length_replicate, List.length_append, List.length_map, List.length_take, List.length_cons, List.length_nil]; omega)) [wrap64, F0]
  refine (c_szSystem R0 (n := 1048576) (by omega)).go ?_
  rintro _ h ⟨rfl, l0, rfl, q0⟩
  simp -implicitDefEqProofs (disch := first | omega | (simp only [List.length_set, List.length_replicate, List.length_append, List.length_map, List.length_take, List.length_cons, List.length_nil]; omega)) [wrap64, F0]
  refine IteW.mk (fun hlt => ?_) (fun hge0 => ?_)
  · simp -implicitDefEqProofs (disch := first | omega | (simp only [List.length_set, List.length_replicate, List.length_append, List.length_map, List.length_take, List.length_cons, List.length_nil]; omega)) [wrap64]
    exact RetK.keep (hk _ _ ⟨Heap.le.refl _, rfl⟩)
  have qq0 : Sz.sz a0 ≤ 1048576 := by omega
  have hc0 := cnt_System (x := a0) (by omega)
  have hcy := bnd_DeadEdges (a0 := a0) (a1 := a1)
  have H : HS h [] h := HS.init
  simp -implicitDefEqProofs (disch := first | omega | (simp only [List.length_set, List.length_replicate, List.length_append, List.length_map, List.length_take, List.length_cons, List.length_nil]; omega)) [wrap64, F0]
  refine (c_toSystem R0 (by omega)).go ?_
  intro s0 m1 G
  have H := G.app H
  have F1 := H.rep.aSy
  simp -implicitDefEqProofs (disch := first | omega | (simp only [List.length_set, List.length_replicate, List.length_append, List.length_map, List.length_take, List.length_cons, List.length_nil]; omega)) [wrap64, F0, F1]
  refine (c_spec_DeadEdges H.rep K1).go ?_
  rintro _ m2 ⟨w0, rfl, G⟩
  have H := G.app H
  have H := H.only
  simp -implicitDefEqProofs (disch := first | omega | (simp only [List.length_set, List.length_replicate, List.length_append, List.length_map, List.length_take, List.length_cons, List.length_nil]; omega)) [wrap64, F0, F1]
  refine (c_toSystem (R0.on H) (by omega)).go ?_
  intro x0 m3 G
  have H := G.app H
  have F2 := H.rep.aSy
  simp -implicitDefEqProofs (disch := first | omega | (simp only [List.length_set, List.length_replicate, List.length_append, List.length_map, List.length_take, List.length_cons, List.length_nil]; omega)) [wrap64, F0, F1, F2]
  refine (c_DeadEdges H.rep K1).go ?_
  rintro _ m4 ⟨g0, rfl, G⟩
  have H := G.app H
  simp -implicitDefEqProofs (disch := first | omega | (simp only [List.length_set, List.length_replicate, List.length_append, List.length_map, List.length_take, List.length_cons, List.length_nil]; omega)) [wrap64, F0, F1, F2]
  refine (c_eqBoolS H.rep H.sw2.rep).go ?_
  rintro _ _ ⟨rfl, rfl⟩
  simp -implicitDefEqProofs (disch := first | omega | (simp only [List.length_set, List.length_replicate, List.length_append, List.length_map, List.length_take, List.length_cons, List.length_nil]; omega)) [wrap64, F0, F1, F2]
  refine (c_toSystem (R0.on H) (by omega)).go ?_
  intro t0 m5 G
  have H := G.app H
  have F3 := H.rep.aSy
  simp -implicitDefEqProofs (disch := first | omega | (simp only [List.length_set, List.length_replicate, List.length_append, List.length_map, List.length_take, List.length_cons, List.length_nil]; omega)) [wrap64, F0, F1, F2, F3]
  refine (c_eqSystem H.sw2.rep H.rep).go ?_
  rintro _ _ ⟨rfl, rfl⟩
  have H := H.drop
  simp -implicitDefEqProofs (disch := first | omega | (simp only [List.length_set, List.length_replicate, List.length_append, List.length_map, List.length_take, List.length_cons, List.length_nil]; omega)) [wrap64, F0, F1, F2, F3]
  refine (c_markSystem (k0 := 1) H.sw1 (by omega) (by omega)).go ?_
  rintro _ m6 ⟨H, rfl⟩
  have hneg : ¬ ((1 + (Mk.cnt a0 : Nat) : Int) < 0) := by omega
  simp -implicitDefEqProofs (disch := first | omega | (simp only [List.length_set, List.length_replicate, List.length_append, List.length_map, List.length_take, List.length_cons, List.length_nil]; omega)) [wrap64, F0, F1, F2, F3, hneg]
  refine (c_eqBoolS H.sw1.rep H.sw2.rep).go ?_
  rintro _ _ ⟨rfl, rfl⟩
  simp -implicitDefEqProofs (disch := first | omega | (simp only [List.length_set, List.length_replicate, List.length_append, List.length_map, List.length_take, List.length_cons, List.length_nil]; omega)) [wrap64, F0, F1, F2, F3, hneg]
  refine (c_markBoolS (k0 := 1) H.sw1 (by omega) (by omega)).go ?_
  rintro _ m7 ⟨H, rfl⟩
  have hcw := fun y : List Bool => Mk.cnt_wr 1 y
  simp -implicitDefEqProofs (disch := first | omega | (simp only [List.length_set, List.length_replicate, List.length_append, List.length_map, List.length_take, List.length_cons, List.length_nil]; omega)) [wrap64, F0, F1, F2, F3, hneg]
  refine (c_heldBoolS (k0 := 1) H.rep (by omega) (by rw [hcw]; omega)).go ?_
  rintro _ _ ⟨rfl, rfl⟩
  rw [if_pos (Mk.wr_wr 1 1 _), hcw]
  simp -implicitDefEqProofs (disch := first | omega | (simp only [List.length_set, List.length_replicate, List.length_append, List.length_map, List.length_take, List.length_cons, List.length_nil]; omega)) [wrap64, F0, F1, F2, F3, hneg]
  rw [IteW_neg (by omega)]
  simp -implicitDefEqProofs (disch := first | omega | (simp only [List.length_set, List.length_replicate, List.length_append, List.length_map, List.length_take, List.length_cons, List.length_nil]; omega)) [wrap64, F0, F1, F2, F3, hneg]
  refine (c_toSystem (R0.on H) (by omega)).go ?_
  intro y0 m8 G
  have H := G.app H
  have F5 := H.rep.aSy
  simp -implicitDefEqProofs (disch := first | omega | (simp only [List.length_set, List.length_replicate, List.length_append, List.length_map, List.length_take, List.length_cons, List.length_nil]; omega)) [wrap64, F0, F1, F2, F3, hneg, F5]
  refine (c_DeadEdges H.rep K1).go ?_
  rintro _ m9 ⟨z0, rfl, G⟩
  have H := G.app H
  simp -implicitDefEqProofs (disch := first | omega | (simp only [List.length_set, List.length_replicate, List.length_append, List.length_map, List.length_take, List.length_cons, List.length_nil]; omega)) [wrap64, F0, F1, F2, F3, hneg, F5]
  refine (c_eqBoolS H.rep H.sw4.rep).go ?_
  rintro _ _ ⟨rfl, rfl⟩
  simp -implicitDefEqProofs (disch := first | omega | (simp only [List.length_set, List.length_replicate, List.length_append, List.length_map, List.length_take, List.length_cons, List.length_nil]; omega)) [wrap64, F0, F1, F2, F3, hneg, F5]
  refine (c_heldBoolS (k0 := 1) H.sw2.rep (by omega) (by rw [hcw]; omega)).go ?_
  rintro _ _ ⟨rfl, rfl⟩
  rw [if_pos (Mk.wr_wr 1 1 _), hcw]
  simp -implicitDefEqProofs (disch := first | omega | (simp only [List.length_set, List.length_replicate, List.length_append, List.length_map, List.length_take, List.length_cons, List.length_nil]; omega)) [wrap64, F0, F1, F2, F3, hneg, F5]
  rw [IteW_neg (by omega)]
  simp -implicitDefEqProofs (disch := first | omega | (simp only [List.length_set, List.length_replicate, List.length_append, List.length_map, List.length_take, List.length_cons, List.length_nil]; omega)) [wrap64, F0, F1, F2, F3, hneg, F5]
  exact RetK.keep (hk _ _ ⟨H.base, rfl⟩)
end Go.Proofs.YthgimpheeemooaaGreat
