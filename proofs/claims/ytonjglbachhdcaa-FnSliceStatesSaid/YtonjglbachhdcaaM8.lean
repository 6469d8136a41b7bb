/-
  Texts of this proof, one behind the other.
-/
import Derived.Test.YtonjglbachhdcaaM7
/-
  Equal systems; what variables a system reads and writes: by the program.
-/
namespace Go.Proofs.Ytonjglbachhdcaa
open Go
set_option linter.all false
set_option linter.unusedVariables false
set_option linter.unusedSimpArgs false
set_option linter.defProp false
set_option maxRecDepth 1000000

theorem c_EqualFunc_Edge {h : Heap} {a b fv : Value} {x y : List Ed} (Ra : Rep h a x) (Rb : Rep h b y) {f : FuncId} (hf : fnOf fv = some (f, [], []))
    (hp : ∀ z ∈ x, ∀ {h : Heap} {a b : Value} {w : Ed}, Rep h a z → Rep h b w → CallE Try.prog f [a, b] h (fun u h' => h' = h ∧ u = .bool (decide (z = w)))) :
    CallE Try.prog fn_slices_EqualFunc_S_impl_Edge_S_impl_Edge_impl_Edge_impl_Edge [a, b, fv] h (fun u h' => h' = h ∧ u = .bool (decide (x = y))) := by
  refine CallE.gen fun k hk => EN_slices_EqualFunc_S_impl_Edge_S_impl_Edge_impl_Edge_impl_Edge rfl ?_
  have hL := Ra.lt
  simp -implicitDefEqProofs (disch := first | omega | (simp only [List.length_set, List.length_replicate, List.length_append, List.length_map, List.length_take, List.length_cons, List.length_nil]; omega)) [wrap64, Ra.len, Rb.len]
  refine IteW.mkr (fun hne => ?_) (fun heq => ?_)
  · simp -implicitDefEqProofs (disch := first | omega | (simp only [List.length_set, List.length_replicate, List.length_append, List.length_map, List.length_take, List.length_cons, List.length_nil]; omega)) [wrap64]
    exact RetK.keep (hk _ _ ⟨rfl, by simp; rintro rfl; exact hne rfl⟩)
  simp -implicitDefEqProofs (disch := first | omega | (simp only [List.length_set, List.length_replicate, List.length_append, List.length_map, List.length_take, List.length_cons, List.length_nil]; omega)) [wrap64, Ra.len]
  refine wp_count x.length (fun i e h' => h' = h ∧ e = [none, some b, some fv, none, none, none, none, some a, some (.int .i64 x.length), some (.int .i64 i)] ∧ x.take i = y.take i) ⟨rfl, by simp [heq], rfl⟩ ?_
  rintro J i _ _ hJ hi ⟨rfl, rfl, hxy⟩
  simp -implicitDefEqProofs (disch := first | omega | (simp only [List.length_set, List.length_replicate, List.length_append, List.length_map, List.length_take, List.length_cons, List.length_nil]; omega)) [wrap64]
  refine IteW.mk (fun hlt => ?_) (fun hge => ?_)
  · have hly : i < y.length := by omega
    have hlx : i < x.length := by omega
    obtain ⟨u, hu, Ru⟩ := Ra.ld hlx
    obtain ⟨w, hw, Rw⟩ := Rb.ld hly
    change hload _ (some (elp 10 a i)) (some 10) = some u at hu
    change hload _ (some (elp 10 b i)) (some 10) = some w at hw
    simp -implicitDefEqProofs (disch := first | omega | (simp only [List.length_set, List.length_replicate, List.length_append, List.length_map, List.length_take, List.length_cons, List.length_nil]; omega)) [wrap64, Ra.X (n := 10) rfl, Rb.X (n := 10) rfl, hu, hw, Ru.aEd, Rw.aEd, hf]
    refine (hp _ (List.getElem_mem hlx) Ru Rw).go ?_
    rintro _ _ ⟨rfl, rfl⟩
    simp -implicitDefEqProofs (disch := first | omega | (simp only [List.length_set, List.length_replicate, List.length_append, List.length_map, List.length_take, List.length_cons, List.length_nil]; omega)) [wrap64]
    refine IteW.mkr (fun hne => ?_) (fun heq => ?_)
    · simp -implicitDefEqProofs (disch := first | omega | (simp only [List.length_set, List.length_replicate, List.length_append, List.length_map, List.length_take, List.length_cons, List.length_nil]; omega)) [wrap64]
      exact RetK.keep (hk _ _ ⟨rfl, by simp; rintro rfl; exact hne rfl⟩)
    simp -implicitDefEqProofs (disch := first | omega | (simp only [List.length_set, List.length_replicate, List.length_append, List.length_map, List.length_take, List.length_cons, List.length_nil]; omega)) [wrap64]
    exact hJ _ _ hlx ⟨rfl, rfl, take_step hxy hlx hly heq⟩
  · simp -implicitDefEqProofs (disch := first | omega | (simp only [List.length_set, List.length_replicate, List.length_append, List.length_map, List.length_take, List.length_cons, List.length_nil]; omega)) [wrap64]
    refine RetK.keep (hk _ _ ⟨rfl, ?_⟩)
    simp
    rw [List.take_of_length_le (by omega), List.take_of_length_le (by omega)] at hxy
    exact hxy
theorem c_EqualFunc_Process {h : Heap} {a b fv : Value} {x y : List Pr} (Ra : Rep h a x) (Rb : Rep h b y) {f : FuncId} (hf : fnOf fv = some (f, [], []))
    (hp : ∀ z ∈ x, ∀ {h : Heap} {a b : Value} {w : Pr}, Rep h a z → Rep h b w → CallE Try.prog f [a, b] h (fun u h' => h' = h ∧ u = .bool (decide (z = w)))) :
    CallE Try.prog fn_slices_EqualFunc_S_impl_Process_S_impl_Process_impl_Process_impl_Process [a, b, fv] h (fun u h' => h' = h ∧ u = .bool (decide (x = y))) := by
  refine CallE.gen fun k hk => EN_slices_EqualFunc_S_impl_Process_S_impl_Process_impl_Process_impl_Process rfl ?_
  have hL := Ra.lt
  simp -implicitDefEqProofs (disch := first | omega | (simp only [List.length_set, List.length_replicate, List.length_append, List.length_map, List.length_take, List.length_cons, List.length_nil]; omega)) [wrap64, Ra.len, Rb.len]
  refine IteW.mkr (fun hne => ?_) (fun heq => ?_)
  · simp -implicitDefEqProofs (disch := first | omega | (simp only [List.length_set, List.length_replicate, List.length_append, List.length_map, List.length_take, List.length_cons, List.length_nil]; omega)) [wrap64]
    exact RetK.keep (hk _ _ ⟨rfl, by simp; rintro rfl; exact hne rfl⟩)
  simp -implicitDefEqProofs (disch := first | omega | (simp only [List.length_set, List.length_replicate, List.length_append, List.length_map, List.length_take, List.length_cons, List.length_nil]; omega)) [wrap64, Ra.len]
  refine wp_count x.length (fun i e h' => h' = h ∧ e = [none, some b, some fv, none, none, none, none, some a, some (.int .i64 x.length), some (.int .i64 i)] ∧ x.take i = y.take i) ⟨rfl, by simp [heq], rfl⟩ ?_
  rintro J i _ _ hJ hi ⟨rfl, rfl, hxy⟩
  simp -implicitDefEqProofs (disch := first | omega | (simp only [List.length_set, List.length_replicate, List.length_append, List.length_map, List.length_take, List.length_cons, List.length_nil]; omega)) [wrap64]
  refine IteW.mk (fun hlt => ?_) (fun hge => ?_)
  · have hly : i < y.length := by omega
    have hlx : i < x.length := by omega
    obtain ⟨u, hu, Ru⟩ := Ra.ld hlx
    obtain ⟨w, hw, Rw⟩ := Rb.ld hly
    change hload _ (some (elp 2 a i)) (some 2) = some u at hu
    change hload _ (some (elp 2 b i)) (some 2) = some w at hw
    simp -implicitDefEqProofs (disch := first | omega | (simp only [List.length_set, List.length_replicate, List.length_append, List.length_map, List.length_take, List.length_cons, List.length_nil]; omega)) [wrap64, Ra.X (n := 2) rfl, Rb.X (n := 2) rfl, hu, hw, Ru.aPr, Rw.aPr, hf]
    refine (hp _ (List.getElem_mem hlx) Ru Rw).go ?_
    rintro _ _ ⟨rfl, rfl⟩
    simp -implicitDefEqProofs (disch := first | omega | (simp only [List.length_set, List.length_replicate, List.length_append, List.length_map, List.length_take, List.length_cons, List.length_nil]; omega)) [wrap64]
    refine IteW.mkr (fun hne => ?_) (fun heq => ?_)
    · simp -implicitDefEqProofs (disch := first | omega | (simp only [List.length_set, List.length_replicate, List.length_append, List.length_map, List.length_take, List.length_cons, List.length_nil]; omega)) [wrap64]
      exact RetK.keep (hk _ _ ⟨rfl, by simp; rintro rfl; exact hne rfl⟩)
    simp -implicitDefEqProofs (disch := first | omega | (simp only [List.length_set, List.length_replicate, List.length_append, List.length_map, List.length_take, List.length_cons, List.length_nil]; omega)) [wrap64]
    exact hJ _ _ hlx ⟨rfl, rfl, take_step hxy hlx hly heq⟩
  · simp -implicitDefEqProofs (disch := first | omega | (simp only [List.length_set, List.length_replicate, List.length_append, List.length_map, List.length_take, List.length_cons, List.length_nil]; omega)) [wrap64]
    refine RetK.keep (hk _ _ ⟨rfl, ?_⟩)
    simp
    rw [List.take_of_length_le (by omega), List.take_of_length_le (by omega)] at hxy
    exact hxy
theorem Ed.ext_iff2 {a b : Ed} : a = b ↔ a.frm = b.frm ∧ a.to = b.to ∧ a.guard = b.guard ∧ a.var = b.var ∧ a.value = b.value ∧ a.sync = b.sync := by
  cases a; cases b; simp
theorem c_Edge_same {h : Heap} {v w : Value} {a b : Ed} (Ra : Rep h v a) (Rb : Rep h w b) : CallE Try.prog fn_impl_Edge_same [v, w] h (fun u h' => h' = h ∧ u = .bool (decide (a = b))) := by
  obtain ⟨v1, v2, rfl, ok, R1, R2⟩ := Rep_Ed.1 Ra
  obtain ⟨w1, w2, rfl, ok2, S1, S2⟩ := Rep_Ed.1 Rb
  have hO1 := R1.one
  have hO2 := R2.one
  have hO3 := S1.one
  have hO4 := S2.one
  refine CallE.gen fun k hk => EN_impl_Edge_same rfl ?_
  have hno : ¬ a = b → k (.bool false) h := fun hn => hk _ _ ⟨rfl, by simp [hn]⟩
  by_cases q1 : a.frm = b.frm
  case neg =>
    simp -implicitDefEqProofs (disch := first | omega | (simp only [List.length_set, List.length_replicate, List.length_append, List.length_map, List.length_take, List.length_cons, List.length_nil]; omega)) [wrap64, Ed.cs, setC, hO1, hO2, hO3, hO4, q1]
    exact RetK.keep (hno fun e => q1 (e ▸ rfl))
  by_cases q2 : a.to = b.to
  case neg =>
    simp -implicitDefEqProofs (disch := first | omega | (simp only [List.length_set, List.length_replicate, List.length_append, List.length_map, List.length_take, List.length_cons, List.length_nil]; omega)) [wrap64, Ed.cs, setC, hO1, hO2, hO3, hO4, q1, q2]
    exact RetK.keep (hno fun e => q2 (e ▸ rfl))
  simp -implicitDefEqProofs (disch := first | omega | (simp only [List.length_set, List.length_replicate, List.length_append, List.length_map, List.length_take, List.length_cons, List.length_nil]; omega)) [wrap64, Ed.cs, setC, hO1, hO2, hO3, hO4, q1, q2]
  refine (c_ExprSame (Rep.gd (w2 := v2) ok R1) (Rep.gd (w2 := w2) ok2 S1)).go ?_
  rintro _ h ⟨rfl, rfl⟩
  by_cases q3 : a.guard = b.guard
  case neg =>
    simp -implicitDefEqProofs (disch := first | omega | (simp only [List.length_set, List.length_replicate, List.length_append, List.length_map, List.length_take, List.length_cons, List.length_nil]; omega)) [wrap64, q3]
    exact RetK.keep (hno fun e => q3 (e ▸ rfl))
  by_cases q4 : a.var = b.var
  case neg =>
    simp -implicitDefEqProofs (disch := first | omega | (simp only [List.length_set, List.length_replicate, List.length_append, List.length_map, List.length_take, List.length_cons, List.length_nil]; omega)) [wrap64, q3, q4]
    exact RetK.keep (hno fun e => q4 (e ▸ rfl))
  simp -implicitDefEqProofs (disch := first | omega | (simp only [List.length_set, List.length_replicate, List.length_append, List.length_map, List.length_take, List.length_cons, List.length_nil]; omega)) [wrap64, q3, q4, setC, hO2, hO4]
  refine (c_ExprSame (Rep.vl ok R2) (Rep.vl ok2 S2)).go ?_
  rintro _ h ⟨rfl, rfl⟩
  by_cases q5 : a.value = b.value
  case neg =>
    simp -implicitDefEqProofs (disch := first | omega | (simp only [List.length_set, List.length_replicate, List.length_append, List.length_map, List.length_take, List.length_cons, List.length_nil]; omega)) [wrap64, q5]
    exact RetK.keep (hno fun e => q5 (e ▸ rfl))
  simp -implicitDefEqProofs (disch := first | omega | (simp only [List.length_set, List.length_replicate, List.length_append, List.length_map, List.length_take, List.length_cons, List.length_nil]; omega)) [wrap64, q5]
  exact RetK.keep (hk _ _ ⟨rfl, by simp [Ed.ext_iff2, q1, q2, q3, q4, q5]⟩)
theorem Pr.ext_iff2 {a b : Pr} : a = b ↔ a.locs = b.locs ∧ a.edges = b.edges := by cases a; cases b; simp
theorem Sy.ext_iff2 {a b : Sy} : a = b ↔ a.init = b.init ∧ a.procs = b.procs := by cases a; cases b; simp
theorem c_SystemSame_1 {h : Heap} {v w : Value} {a b : Pr} (Ra : Rep h v a) (Rb : Rep h w b) : CallE Try.prog fn_impl_SystemSame_1 [v, w] h (fun u h' => h' = h ∧ u = .bool (decide (a = b))) := by
  obtain ⟨v1, rfl, k1, R1⟩ := Rep_Pr.1 Ra
  obtain ⟨w1, rfl, k2, S1⟩ := Rep_Pr.1 Rb
  refine CallE.gen fun k hk => EN_impl_SystemSame_1 rfl ?_
  by_cases q1 : a.locs = b.locs
  case neg =>
    simp -implicitDefEqProofs (disch := first | omega | (simp only [List.length_set, List.length_replicate, List.length_append, List.length_map, List.length_take, List.length_cons, List.length_nil]; omega)) [wrap64, q1]
    exact RetK.keep (hk _ _ ⟨rfl, by simp [Pr.ext_iff2, q1]⟩)
  simp -implicitDefEqProofs (disch := first | omega | (simp only [List.length_set, List.length_replicate, List.length_append, List.length_map, List.length_take, List.length_cons, List.length_nil]; omega)) [wrap64, q1]
  refine (c_EqualFunc_Edge R1 S1 (f := fn_impl_Edge_same) rfl (fun _ _ _ _ _ _ Ra Rb => c_Edge_same Ra Rb)).go ?_
  rintro _ h ⟨rfl, rfl⟩
  simp -implicitDefEqProofs (disch := first | omega | (simp only [List.length_set, List.length_replicate, List.length_append, List.length_map, List.length_take, List.length_cons, List.length_nil]; omega)) [wrap64]
  exact RetK.keep (hk _ _ ⟨rfl, by simp [Pr.ext_iff2, q1]⟩)
theorem c_SystemSame {h : Heap} {v w : Value} {a b : Sy} (Ra : Rep h v a) (Rb : Rep h w b) : CallE Try.prog fn_impl_SystemSame [v, w] h (fun u h' => h' = h ∧ u = .bool (decide (a = b))) := by
  obtain ⟨v1, v2, rfl, R1, R2⟩ := Rep_Sy.1 Ra
  obtain ⟨w1, w2, rfl, S1, S2⟩ := Rep_Sy.1 Rb
  refine CallE.gen fun k hk => EN_impl_SystemSame rfl ?_
  simp -implicitDefEqProofs (disch := first | omega | (simp only [List.length_set, List.length_replicate, List.length_append, List.length_map, List.length_take, List.length_cons, List.length_nil]; omega)) [wrap64]
  refine (c_Equal_int R1 S1).go ?_
  rintro _ h ⟨rfl, rfl⟩
  by_cases q1 : a.init = b.init
  case neg =>
    simp -implicitDefEqProofs (disch := first | omega | (simp only [List.length_set, List.length_replicate, List.length_append, List.length_map, List.length_take, List.length_cons, List.length_nil]; omega)) [wrap64, q1]
    exact RetK.keep (hk _ _ ⟨rfl, by simp [Sy.ext_iff2, q1]⟩)
  simp -implicitDefEqProofs (disch := first | omega | (simp only [List.length_set, List.length_replicate, List.length_append, List.length_map, List.length_take, List.length_cons, List.length_nil]; omega)) [wrap64, q1]
  refine (c_EqualFunc_Process R2 S2 (f := fn_impl_SystemSame_1) rfl (fun _ _ _ _ _ _ Ra Rb => c_SystemSame_1 Ra Rb)).go ?_
  rintro _ h ⟨rfl, rfl⟩
  simp -implicitDefEqProofs (disch := first | omega | (simp only [List.length_set, List.length_replicate, List.length_append, List.length_map, List.length_take, List.length_cons, List.length_nil]; omega)) [wrap64]
  exact RetK.keep (hk _ _ ⟨rfl, by simp [Sy.ext_iff2, q1]⟩)

/-- what is written -/
def WrI (s : Sy) (W : List Bool) : Prop := W.length = 3 ∧ ∀ v : Nat, W.getD v false = true → ∃ p ∈ s.procs, ∃ e ∈ p.edges, 0 ≤ e.var ∧ e.var.toNat = v
theorem WrI.set {s : Sy} {W : List Bool} (h : WrI s W) {p : Pr} {e : Ed} (hp : p ∈ s.procs) (he : e ∈ p.edges) {x : Nat} (hx : e.var = x) : WrI s (W.set x true) := by
  refine ⟨by simpa using h.1, fun v hv => ?_⟩
  rw [List.getD_eq_getElem?_getD, List.getElem?_set] at hv
  split at hv
  · rename_i e1
    exact ⟨p, hp, e, he, by omega, by omega⟩
  · rw [← List.getD_eq_getElem?_getD] at hv
    exact h.2 v hv
end Go.Proofs.Ytonjglbachhdcaa

/-
  The law: slices are projections.
-/
namespace Go.Proofs.Ytonjglbachhdcaa
open Go
set_option linter.all false
set_option linter.unusedVariables false
set_option linter.unusedSimpArgs false
set_option linter.defProp false
set_option maxRecDepth 1000000

set_option maxHeartbeats 2000000 in
theorem c_FnSliceStates {h : Heap} {v : Value} {l : List (BitVec 8)} (R : Rep h v l) : CallE Try.prog fn_laws_FnSliceStates [v] h (fun u h' => h.le h' ∧ u = .bool true) := by
  refine CallE.gen fun k hk => EN_laws_FnSliceStates rfl ?_
  simp -implicitDefEqProofs (disch := first | omega | (simp only [List.length_set, List.length_replicate, List.length_append, List.length_map, List.length_take, List.length_cons, List.length_nil]; omega)) [wrap64, R.len]
  refine IteW.mk (fun hlt => ?_) (fun hge => ?_)
  · simp -implicitDefEqProofs (disch := first | omega | (simp only [List.length_set, List.length_replicate, List.length_append, List.length_map, List.length_take, List.length_cons, List.length_nil]; omega)) [wrap64]
    exact RetK.keep (hk _ _ ⟨Heap.le.refl _, rfl⟩)
  simp -implicitDefEqProofs (disch := first | omega | (simp only [List.length_set, List.length_replicate, List.length_append, List.length_map, List.length_take, List.length_cons, List.length_nil]; omega)) [wrap64]
  refine (c_DrawSliceSystem R).go ?_
  rintro _ h1 ⟨u1, u2, s, L, rfl, H, hL3⟩
  obtain ⟨d, hd⟩ : ∃ d, d = decide (s.Ok ∧ LOk L) := ⟨_, rfl⟩
  have FS := H.rep.aSy
  simp -implicitDefEqProofs (disch := first | omega | (simp only [List.length_set, List.length_replicate, List.length_append, List.length_map, List.length_take, List.length_cons, List.length_nil]; omega)) [wrap64, FS, setC]
  refine (c_SliceSystem H.rep H.sw1.rep).go ?_
  rintro _ h2 ⟨a, rfl, G⟩
  have H := G.app H
  have FA := H.rep.aSy
  rw [← hd]
  simp -implicitDefEqProofs (disch := first | omega | (simp only [List.length_set, List.length_replicate, List.length_append, List.length_map, List.length_take, List.length_cons, List.length_nil]; omega)) [wrap64, FS, FA, setC]
  refine (c_spec_SliceSystem H.sw1.rep H.sw2.rep).go ?_
  rintro _ h3 ⟨b, rfl, G⟩
  have H := G.app H
  have FB := H.rep.aSy
  rw [← hd]
  simp -implicitDefEqProofs (disch := first | omega | (simp only [List.length_set, List.length_replicate, List.length_append, List.length_map, List.length_take, List.length_cons, List.length_nil]; omega)) [wrap64, FA, FB, setC]
  refine (c_SystemSame H.sw1.rep H.rep).go ?_
  rintro _ h3 ⟨rfl, rfl⟩
  cases d with
  | false =>
    simp -implicitDefEqProofs (disch := first | omega | (simp only [List.length_set, List.length_replicate, List.length_append, List.length_map, List.length_take, List.length_cons, List.length_nil]; omega)) [wrap64, FA, FB]
    refine (c_SystemSame H.sw1.rep H.rep).go ?_
    rintro _ h3 ⟨rfl, rfl⟩
    simp -implicitDefEqProofs (disch := first | omega | (simp only [List.length_set, List.length_replicate, List.length_append, List.length_map, List.length_take, List.length_cons, List.length_nil]; omega)) [wrap64]
    exact RetK.keep (hk _ _ ⟨H.base, rfl⟩)
  | true =>
  have q := of_decide_eq_true hd.symm
  obtain ⟨hs, hL⟩ := id q
  rw [slcR, if_pos q] at H
  simp -implicitDefEqProofs (disch := first | omega | (simp only [List.length_set, List.length_replicate, List.length_append, List.length_map, List.length_take, List.length_cons, List.length_nil]; omega)) [wrap64, FS]
  refine (c_BuildGraph H.sw2.rep).go ?_
  rintro _ h4 ⟨g, rfl, G⟩
  have H := G.app H
  have hA := H.rep.aGr
  by_cases hbg : bgOk s
  case neg =>
    simp -implicitDefEqProofs (disch := first | omega | (simp only [List.length_set, List.length_replicate, List.length_append, List.length_map, List.length_take, List.length_cons, List.length_nil]; omega)) [wrap64, hbg, hA, setC]
    exact RetK.keep (hk _ _ ⟨H.base, rfl⟩)
  have hfin := bgR_fin hbg
  obtain ⟨hbq, hle⟩ := slc_bg (L := L) hbg
  have hfq := bgR_fin hbq
  simp -implicitDefEqProofs (disch := first | omega | (simp only [List.length_set, List.length_replicate, List.length_append, List.length_map, List.length_take, List.length_cons, List.length_nil]; omega)) [wrap64, hbg, hA, FA, setC]
  refine (c_BuildGraph H.sw2.rep).go ?_
  rintro _ h5 ⟨qv, rfl, G⟩
  have H := G.app H
  have hQ := H.rep.aGr
  have Rq := H.rep
  have Rq0 := Rq
  have Rg := H.sw1.rep
  have Rs := H.sw4.rep
  have RL := H.sw5.rep
  have l5 := H.base
  clear H G
  obtain ⟨q1, q2, rfl, Q1, Q2⟩ := Rep_Gr.1 Rq
  obtain ⟨g1, g2, rfl, X1, X2⟩ := Rep_Gr.1 Rg
  have h60 := hfin.n60
  have h61 := hfq.n60
  have hto := slc_to (L := L) hbg
  have hhit := fun {k : Nat} => slc_hit (L := L) hbg (k := k)
  generalize bgR (s.slc L) = Q at *
  generalize bgR s = B at *
  simp -implicitDefEqProofs (disch := first | omega | (simp only [List.length_set, List.length_replicate, List.length_append, List.length_map, List.length_take, List.length_cons, List.length_nil]; omega)) [wrap64, hbq, hQ, setC, Q1.len, Q1.one, Q2.one]
  refine HS.mks (Γ := []) (α := Bool) (z := false) (bytes := 1) (n := Q.states.length) (c := Q.states.length) (show HS h5 [] h5 from Heap.le.refl _) rfl rfl own_false (Nat.le_refl _) (by omega) (by omega) fun m h6 H => ?_
  simp -implicitDefEqProofs (disch := first | omega | (simp only [List.length_set, List.length_replicate, List.length_append, List.length_map, List.length_take, List.length_cons, List.length_nil]; omega)) [wrap64]
  obtain ⟨w, hwd⟩ : ∃ w : Nat → Nat, w = fun j => (fx Q.states (pj s L (B.states.getD j Sta.zero))).toNat := ⟨_, rfl⟩
  refine wp_count B.states.length (fun i e h' => e = [none, none, some u1, some u2, none, none, none, none, some (.agg #[g1, g2]), none, some (.agg #[q1, q2]), some (.bool true), some m, some (.int .i64 i), none, none, none, none] ∧ ∃ y : List Bool, HS h5 [ow m y] h' ∧ y.length = Q.states.length ∧ ∀ j : Nat, j < i → y.getD (w j) false = true) ⟨by simp, _, H, by simp, fun j hj => absurd hj (Nat.not_lt_zero j)⟩ ?_
  clear H
  rintro J i _ h7 hJ hi ⟨rfl, y, H, hyl, hy⟩
  have X1' := X1.on H
  by_cases hi : i < B.states.length
  · simp -implicitDefEqProofs (disch := first | omega | (simp only [List.length_set, List.length_replicate, List.length_append, List.length_map, List.length_take, List.length_cons, List.length_nil]; omega)) [wrap64, X1'.len, hi]
    obtain ⟨u, hu, Ru⟩ := X1'.ld hi
    change hload _ (some (elp 2 g1 i)) (some 2) = some u at hu
    have hmem := List.getElem_mem hi
    have hsi := hfin.ok _ hmem
    have hpm := hto _ hmem
    have hwi : w i = (fx Q.states (pj s L B.states[i])).toNat := by rw [hwd]; simp [hi]
    obtain ⟨n, f1, hn, _⟩ := fx_mem hpm
    rw [hn, Int.toNat_natCast] at hwi
    generalize B.states[i] = x at *
    have Rs' := Rs.on H
    have FS := Rs.aSy
    have FU := Ru.aSta
    simp -implicitDefEqProofs (disch := first | omega | (simp only [List.length_set, List.length_replicate, List.length_append, List.length_map, List.length_take, List.length_cons, List.length_nil]; omega)) [wrap64, X1'.X (n := 2) rfl, hu, FS, FU]
    refine (c_ProjectState Rs' (RL.on H) Ru).go ?_
    rintro _ h8 ⟨c, rfl, G⟩
    have q2 : s.Ok ∧ LOk L ∧ x.Ok s := ⟨hs, hL, hsi⟩
    have e2 : prR s L x = pj s L x := by rw [prR, if_pos q2]; rfl
    rw [e2] at G
    have H := G.app H
    have FC := H.rep.aSta
    simp -implicitDefEqProofs (disch := first | omega | (simp only [List.length_set, List.length_replicate, List.length_append, List.length_map, List.length_take, List.length_cons, List.length_nil]; omega)) [wrap64, q2, hs, hL, hsi, FC, hQ, setC]
    refine (c_wpState (Rq0.on H) H.rep).go ?_
    rintro _ h8 ⟨rfl, rfl⟩
    have hnl : n < y.length := by omega
    have hn0 : ¬ (n : Int) < 0 := by omega
    simp -implicitDefEqProofs (disch := first | omega | (simp only [List.length_set, List.length_replicate, List.length_append, List.length_map, List.length_take, List.length_cons, List.length_nil]; omega)) [wrap64, hn, H.sw1.rep.B, hn0]
    refine H.sw1.storeF true (i := n) hnl rfl rfl trivial rfl fun h9 H => ?_
    simp -implicitDefEqProofs (disch := first | omega | (simp only [List.length_set, List.length_replicate, List.length_append, List.length_map, List.length_take, List.length_cons, List.length_nil]; omega)) [wrap64]
    refine hJ _ _ hi ⟨by simp, _, H.only, by simp [hyl], fun j hj => ?_⟩
    by_cases e : w j = n
    · simp [e, hnl]
    · rw [show (y.set n true).getD (w j) false = y.getD (w j) false by simp [List.getD_eq_getElem?_getD, List.getElem?_set_ne (Ne.symm e)]]
      exact hy j (by by_cases e' : j = i
                     · subst e'; exact absurd hwi e
                     · omega)
  simp -implicitDefEqProofs (disch := first | omega | (simp only [List.length_set, List.length_replicate, List.length_append, List.length_map, List.length_take, List.length_cons, List.length_nil]; omega)) [wrap64, X1'.len, hi]
  have hall : ∀ (k : Nat) (hk : k < y.length), y[k] = true := fun k hk => by
    obtain ⟨j, hj, e⟩ := hhit (k := k) (by omega)
    have := hy j (by omega)
    have e2 : w j = k := by rw [hwd]; simp [hj, e]
    rw [e2] at this
    simpa [hk] using this
  refine wp_count y.length (fun i e h' => e = [none, none, none, none, none, none, none, none, some (.agg #[g1, g2]), none, some (.agg #[q1, q2]), some (.bool true), some m, none, none, none, none, some (.int .i64 i)] ∧ h' = h7) ⟨by simp, rfl⟩ ?_
  rintro J2 k _ h8 hJ2 hk8 ⟨rfl, rfl⟩
  simp -implicitDefEqProofs (disch := first | omega | (simp only [List.length_set, List.length_replicate, List.length_append, List.length_map, List.length_take, List.length_cons, List.length_nil]; omega)) [wrap64, H.rep.len]
  refine IteW.mk (fun hlt2 => ?_) (fun hge2 => ?_)
  · have hkl : k < y.length := by omega
    have hyk := hall k hkl
    simp -implicitDefEqProofs (disch := first | omega | (simp only [List.length_set, List.length_replicate, List.length_append, List.length_map, List.length_take, List.length_cons, List.length_nil]; omega)) [wrap64, H.rep.B, hyk]
    exact hJ2 _ _ hkl ⟨by simp, rfl⟩
  · have hle' : (Q.states.length : Int) ≤ B.states.length := by omega
    simp -implicitDefEqProofs (disch := first | omega | (simp only [List.length_set, List.length_replicate, List.length_append, List.length_map, List.length_take, List.length_cons, List.length_nil]; omega)) [wrap64, (Q1.on H).len, X1'.len, hle']
    exact RetK.keep (hk _ _ ⟨l5.trans H.base, rfl⟩)
end Go.Proofs.Ytonjglbachhdcaa
