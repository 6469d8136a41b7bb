/-
  Instances of functions over slices: copies, and whether some element meets a condition. Printed by a program.
-/
import Derived.Test.YthgimpheeemooaaI16
import Derived.Test.YthgimpheeemooaaPH
import Derived.Test.YthgimpheeemooaaDF
namespace Go.Proofs.Ythgimpheeemooaa
open Go
set_option linter.all false
set_option linter.unusedVariables false
set_option linter.unusedSimpArgs false
set_option linter.defProp false
set_option maxRecDepth 1000000

theorem c_Clone_impl_Expr {h : Heap} {a : Value} {x : List Exq} (Ra : Rep h a x) (hs : x.length ≤ 1048576) : CallE Try.prog fn_slices_Clone_S_impl_Expr_impl_Expr [a] h (fun v h' => ∃ M, Raws h x M ∧ HS h [ow v M] h') := by
  refine CallE.gen fun k hk => EN_slices_Clone_S_impl_Expr_impl_Expr rfl ?_
  obtain ⟨b, hb, hb2⟩ := Ra.isNil
  simp -implicitDefEqProofs (disch := first | omega | (simp only [List.length_set, List.length_replicate, List.length_append, List.length_map, List.length_take, List.length_cons, List.length_nil]; omega)) [wrap64, hb]
  refine IteW.mk (fun h1 => ?_) (fun h1 => ?_)
  · simp -implicitDefEqProofs (disch := first | omega | (simp only [List.length_set, List.length_replicate, List.length_append, List.length_map, List.length_take, List.length_cons, List.length_nil]; omega)) [wrap64]
    have h2 : x = [] := hb2 h1
    subst h2
    exact RetK.keep (hk _ _ ⟨[], ⟨rfl, fun i hi => absurd hi (Nat.not_lt_zero i)⟩, HS.init.nil_ow⟩)
  · simp -implicitDefEqProofs (disch := first | omega | (simp only [List.length_set, List.length_replicate, List.length_append, List.length_map, List.length_take, List.length_cons, List.length_nil]; omega)) [wrap64]
    refine HS.init.appPLr (α := Exq) (l2 := x) (u := a) rfl rfl Ra rfl rfl (by omega) fun v h1 M hM H => ?_
    simp -implicitDefEqProofs (disch := first | omega | (simp only [List.length_set, List.length_replicate, List.length_append, List.length_map, List.length_take, List.length_cons, List.length_nil]; omega)) [wrap64]
    exact RetK.keep (hk _ _ ⟨M, hM, H⟩)

theorem c_Clip_impl_Expr {g h : Heap} {Γ : List HP} {a : Value} {x : List (Mix Exq)} (H : HS g (ow a x :: Γ) h) : CallE Try.prog fn_slices_Clip_S_impl_Expr_impl_Expr [a] h (fun v h' => HS g (ow v x :: Γ) h') := by
  refine CallE.gen fun k hk => EN_slices_Clip_S_impl_Expr_impl_Expr rfl ?_
  obtain ⟨v', h1, h2⟩ := H.clip (esz := 3) (k := .i64)
  simp -implicitDefEqProofs (disch := first | omega | (simp only [List.length_set, List.length_replicate, List.length_append, List.length_map, List.length_take, List.length_cons, List.length_nil]; omega)) [wrap64, H.rep.len, h1]
  exact RetK.keep (hk _ _ h2)

theorem c_clone_impl_Expr {h : Heap} {a : Value} {x : List Exq} (Ra : Rep h a x) (hs : x.length ≤ 1048576) : CallE Try.prog fn_impl_clone_impl_Expr [a] h (fun v h' => ∃ M, Raws h x M ∧ HS h [ow v M] h') := by
  refine CallE.gen fun k hk => EN_impl_clone_impl_Expr rfl ?_
  simp -implicitDefEqProofs (disch := first | omega | (simp only [List.length_set, List.length_replicate, List.length_append, List.length_map, List.length_take, List.length_cons, List.length_nil]; omega)) [wrap64]
  refine (c_Clone_impl_Expr Ra hs).go ?_
  rintro v h1 ⟨M, hM, H⟩
  simp -implicitDefEqProofs (disch := first | omega | (simp only [List.length_set, List.length_replicate, List.length_append, List.length_map, List.length_take, List.length_cons, List.length_nil]; omega)) [wrap64]
  refine (c_Clip_impl_Expr H).go ?_
  intro v' h2 H
  simp -implicitDefEqProofs (disch := first | omega | (simp only [List.length_set, List.length_replicate, List.length_append, List.length_map, List.length_take, List.length_cons, List.length_nil]; omega)) [wrap64]
  exact RetK.keep (hk _ _ ⟨M, hM, H⟩)

theorem c_Clone_impl_Edge {h : Heap} {a : Value} {x : List Ed} (Ra : Rep h a x) (hs : x.length ≤ 1048576) : CallE Try.prog fn_slices_Clone_S_impl_Edge_impl_Edge [a] h (fun v h' => ∃ M, Raws h x M ∧ HS h [ow v M] h') := by
  refine CallE.gen fun k hk => EN_slices_Clone_S_impl_Edge_impl_Edge rfl ?_
  obtain ⟨b, hb, hb2⟩ := Ra.isNil
  simp -implicitDefEqProofs (disch := first | omega | (simp only [List.length_set, List.length_replicate, List.length_append, List.length_map, List.length_take, List.length_cons, List.length_nil]; omega)) [wrap64, hb]
  refine IteW.mk (fun h1 => ?_) (fun h1 => ?_)
  · simp -implicitDefEqProofs (disch := first | omega | (simp only [List.length_set, List.length_replicate, List.length_append, List.length_map, List.length_take, List.length_cons, List.length_nil]; omega)) [wrap64]
    have h2 : x = [] := hb2 h1
    subst h2
    exact RetK.keep (hk _ _ ⟨[], ⟨rfl, fun i hi => absurd hi (Nat.not_lt_zero i)⟩, HS.init.nil_ow⟩)
  · simp -implicitDefEqProofs (disch := first | omega | (simp only [List.length_set, List.length_replicate, List.length_append, List.length_map, List.length_take, List.length_cons, List.length_nil]; omega)) [wrap64]
    refine HS.init.appPLr (α := Ed) (l2 := x) (u := a) rfl rfl Ra rfl rfl (by omega) fun v h1 M hM H => ?_
    simp -implicitDefEqProofs (disch := first | omega | (simp only [List.length_set, List.length_replicate, List.length_append, List.length_map, List.length_take, List.length_cons, List.length_nil]; omega)) [wrap64]
    exact RetK.keep (hk _ _ ⟨M, hM, H⟩)

theorem c_Clip_impl_Edge {g h : Heap} {Γ : List HP} {a : Value} {x : List (Mix Ed)} (H : HS g (ow a x :: Γ) h) : CallE Try.prog fn_slices_Clip_S_impl_Edge_impl_Edge [a] h (fun v h' => HS g (ow v x :: Γ) h') := by
  refine CallE.gen fun k hk => EN_slices_Clip_S_impl_Edge_impl_Edge rfl ?_
  obtain ⟨v', h1, h2⟩ := H.clip (esz := 10) (k := .i64)
  simp -implicitDefEqProofs (disch := first | omega | (simp only [List.length_set, List.length_replicate, List.length_append, List.length_map, List.length_take, List.length_cons, List.length_nil]; omega)) [wrap64, H.rep.len, h1]
  exact RetK.keep (hk _ _ h2)

theorem c_clone_impl_Edge {h : Heap} {a : Value} {x : List Ed} (Ra : Rep h a x) (hs : x.length ≤ 1048576) : CallE Try.prog fn_impl_clone_impl_Edge [a] h (fun v h' => ∃ M, Raws h x M ∧ HS h [ow v M] h') := by
  refine CallE.gen fun k hk => EN_impl_clone_impl_Edge rfl ?_
  simp -implicitDefEqProofs (disch := first | omega | (simp only [List.length_set, List.length_replicate, List.length_append, List.length_map, List.length_take, List.length_cons, List.length_nil]; omega)) [wrap64]
  refine (c_Clone_impl_Edge Ra hs).go ?_
  rintro v h1 ⟨M, hM, H⟩
  simp -implicitDefEqProofs (disch := first | omega | (simp only [List.length_set, List.length_replicate, List.length_append, List.length_map, List.length_take, List.length_cons, List.length_nil]; omega)) [wrap64]
  refine (c_Clip_impl_Edge H).go ?_
  intro v' h2 H
  simp -implicitDefEqProofs (disch := first | omega | (simp only [List.length_set, List.length_replicate, List.length_append, List.length_map, List.length_take, List.length_cons, List.length_nil]; omega)) [wrap64]
  exact RetK.keep (hk _ _ ⟨M, hM, H⟩)

theorem c_Clone_impl_Process {h : Heap} {a : Value} {x : List Pr} (Ra : Rep h a x) (hs : x.length ≤ 1048576) : CallE Try.prog fn_slices_Clone_S_impl_Process_impl_Process [a] h (fun v h' => ∃ M, Raws h x M ∧ HS h [ow v M] h') := by
  refine CallE.gen fun k hk => EN_slices_Clone_S_impl_Process_impl_Process rfl ?_
  obtain ⟨b, hb, hb2⟩ := Ra.isNil
  simp -implicitDefEqProofs (disch := first | omega | (simp only [List.length_set, List.length_replicate, List.length_append, List.length_map, List.length_take, List.length_cons, List.length_nil]; omega)) [wrap64, hb]
  refine IteW.mk (fun h1 => ?_) (fun h1 => ?_)
  · simp -implicitDefEqProofs (disch := first | omega | (simp only [List.length_set, List.length_replicate, List.length_append, List.length_map, List.length_take, List.length_cons, List.length_nil]; omega)) [wrap64]
    have h2 : x = [] := hb2 h1
    subst h2
    exact RetK.keep (hk _ _ ⟨[], ⟨rfl, fun i hi => absurd hi (Nat.not_lt_zero i)⟩, HS.init.nil_ow⟩)
  · simp -implicitDefEqProofs (disch := first | omega | (simp only [List.length_set, List.length_replicate, List.length_append, List.length_map, List.length_take, List.length_cons, List.length_nil]; omega)) [wrap64]
    refine HS.init.appPLr (α := Pr) (l2 := x) (u := a) rfl rfl Ra rfl rfl (by omega) fun v h1 M hM H => ?_
    simp -implicitDefEqProofs (disch := first | omega | (simp only [List.length_set, List.length_replicate, List.length_append, List.length_map, List.length_take, List.length_cons, List.length_nil]; omega)) [wrap64]
    exact RetK.keep (hk _ _ ⟨M, hM, H⟩)

theorem c_Clip_impl_Process {g h : Heap} {Γ : List HP} {a : Value} {x : List (Mix Pr)} (H : HS g (ow a x :: Γ) h) : CallE Try.prog fn_slices_Clip_S_impl_Process_impl_Process [a] h (fun v h' => HS g (ow v x :: Γ) h') := by
  refine CallE.gen fun k hk => EN_slices_Clip_S_impl_Process_impl_Process rfl ?_
  obtain ⟨v', h1, h2⟩ := H.clip (esz := 2) (k := .i64)
  simp -implicitDefEqProofs (disch := first | omega | (simp only [List.length_set, List.length_replicate, List.length_append, List.length_map, List.length_take, List.length_cons, List.length_nil]; omega)) [wrap64, H.rep.len, h1]
  exact RetK.keep (hk _ _ h2)

theorem c_clone_impl_Process {h : Heap} {a : Value} {x : List Pr} (Ra : Rep h a x) (hs : x.length ≤ 1048576) : CallE Try.prog fn_impl_clone_impl_Process [a] h (fun v h' => ∃ M, Raws h x M ∧ HS h [ow v M] h') := by
  refine CallE.gen fun k hk => EN_impl_clone_impl_Process rfl ?_
  simp -implicitDefEqProofs (disch := first | omega | (simp only [List.length_set, List.length_replicate, List.length_append, List.length_map, List.length_take, List.length_cons, List.length_nil]; omega)) [wrap64]
  refine (c_Clone_impl_Process Ra hs).go ?_
  rintro v h1 ⟨M, hM, H⟩
  simp -implicitDefEqProofs (disch := first | omega | (simp only [List.length_set, List.length_replicate, List.length_append, List.length_map, List.length_take, List.length_cons, List.length_nil]; omega)) [wrap64]
  refine (c_Clip_impl_Process H).go ?_
  intro v' h2 H
  simp -implicitDefEqProofs (disch := first | omega | (simp only [List.length_set, List.length_replicate, List.length_append, List.length_map, List.length_take, List.length_cons, List.length_nil]; omega)) [wrap64]
  exact RetK.keep (hk _ _ ⟨M, hM, H⟩)

end Go.Proofs.Ythgimpheeemooaa
