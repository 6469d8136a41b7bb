/-
  Copies of expressions and systems, by the program and by the reference.
-/
import Derived.Test.YthgimpheeemooaaI10
import Derived.Test.YthgimpheeemooaaI16
import Derived.Test.YthgimpheeemooaaE5
import Derived.Test.YthgimpheeemooaaPL
namespace Go.Proofs.Ythgimpheeemooaa
open Go
set_option linter.all false
set_option linter.unusedVariables false
set_option linter.unusedSimpArgs false
set_option linter.defProp false
set_option maxRecDepth 1000000

theorem Exq.nods_sz : ∀ x : Exq, x.nod = 1 + Sz.sz x := by
  have key : ∀ l : List Exq, (∀ y ∈ l, y.nod = 1 + Sz.sz y) → Exq.nods l = Sz.sz l := by
    intro l
    induction l with
    | nil => intro _; rfl
    | cons y l ih =>
      intro h
      rw [Exq.nods, ih fun z hz => h z (by simp [hz]), h y (by simp), sz_cons]
  refine Exq.ind fun x ih => ?_
  rw [Exq.nod_eq, key _ ih, ← sz_Exq]
theorem sz_kid {x : Exq} {i : Nat} (hi : i < x.kids.length) : Sz.sz x.kids[i] ≤ Sz.sz x := by
  have := szL_get hi
  rw [sz_Exq x, sz_list]; omega
theorem Exq.Ok.sz {x : Exq} (h : x.Ok) : Sz.sz x ≤ 14 := by have := h.2; have := x.nods_sz; omega
theorem Ed.Ok.vsz {e : Ed} {n : Int} (h : e.Ok n) : Sz.sz e.value ≤ 14 := by
  rcases h.vl with ⟨_, h1⟩ | ⟨_, h1⟩
  · exact h1.sz
  · rw [h1]; decide

theorem c_Expr_copyOf : ∀ (x : Exq) {h : Heap} {v : Value}, Rep h v x → Sz.sz x ≤ 1048576 → CallE Try.prog fn_impl_Expr_copyOf [v] h (fun u h' => HS h [ow u x] h') := by
  refine Exq.ind fun x ih h v R hs => ?_
  obtain ⟨w, rfl, k1, k2, R1⟩ := Rep_Exq.1 R
  have hsz := sz_Exq x
  rw [sz_list] at hsz
  refine CallE.gen fun k hk => EN_impl_Expr_copyOf rfl ?_
  simp -implicitDefEqProofs (disch := first | omega | (simp only [List.length_set, List.length_replicate, List.length_append, List.length_map, List.length_take, List.length_cons, List.length_nil]; omega)) [wrap64, setC]
  refine (c_clone_impl_Expr R1 (by omega)).go ?_
  rintro o h1 ⟨M, hM, H⟩
  simp -implicitDefEqProofs (disch := first | omega | (simp only [List.length_set, List.length_replicate, List.length_append, List.length_map, List.length_take, List.length_cons, List.length_nil]; omega)) [wrap64, setC, H.rep.cells, H.rep.one, R1.len]
  refine wp_count x.kids.length (fun i e h' => e = [none, none, some (.agg #[.int .i64 0, .int .i64 0, .slice none 0 0]), some (.agg #[.int .i64 x.kind, .int .i64 x.val, o]), none, none, some w, some (.int .i64 x.kids.length), some (.int .i64 i)] ∧ ∃ M, HS h [ow o M] h' ∧ Mixed h x.kids (fun y => y) M i) ⟨by simp, M, H, Mixed.zero hM⟩ ?_
  clear H
  rintro J i _ h2 hJ hi ⟨rfl, M, H, hM⟩
  simp -implicitDefEqProofs (disch := first | omega | (simp only [List.length_set, List.length_replicate, List.length_append, List.length_map, List.length_take, List.length_cons, List.length_nil]; omega)) [wrap64]
  refine IteW.mk (fun hlt => ?_) (fun hge => ?_)
  · have hlx : i < x.kids.length := by omega
    have hlM : i < M.length := by rw [hM.len]; exact hlx
    obtain ⟨u, hu, Ru⟩ := R1.ld hlx
    have hu2 := hload_le H.base hu
    change hload _ (some (elp 3 w i)) (some 3) = some u at hu2
    simp -implicitDefEqProofs (disch := first | omega | (simp only [List.length_set, List.length_replicate, List.length_append, List.length_map, List.length_take, List.length_cons, List.length_nil]; omega)) [wrap64, R1.X (n := 3) rfl, hu2, Ru.aExq]
    refine (ih _ (List.getElem_mem hlx) (Ru.on H) (by have := sz_kid hlx; omega)).go ?_
    intro y h3 G
    have H := (G.newO).app H
    simp -implicitDefEqProofs (disch := first | omega | (simp only [List.length_set, List.length_replicate, List.length_append, List.length_map, List.length_take, List.length_cons, List.length_nil]; omega)) [wrap64, H.sw1.rep.X (n := 3) rfl, G.rep.aExq]
    refine HS.store H hlM rfl rfl rfl fun h4 H => ?_
    simp -implicitDefEqProofs (disch := first | omega | (simp only [List.length_set, List.length_replicate, List.length_append, List.length_map, List.length_take, List.length_cons, List.length_nil]; omega)) [wrap64]
    exact hJ _ _ hlx ⟨by simp, _, H, hM.step hlx⟩
  · simp -implicitDefEqProofs (disch := first | omega | (simp only [List.length_set, List.length_replicate, List.length_append, List.length_map, List.length_take, List.length_cons, List.length_nil]; omega)) [wrap64, H.rep.cells, H.rep.one, setC]
    have he := hM.all (by omega)
    subst he
    have H := H.mixed
    rw [List.map_id'] at H
    exact RetK.keep (hk _ _ (H.mkExq k1 k2))

theorem c_l1Subst : ∀ (n : Nat) {x : Exq} {h : Heap} {v : Value}, x.Shp n → n ≤ 6 → Rep h v x → CallE Try.prog fn_spec_l1Subst [v, .int .i64 (-1), .agg #[.int .i64 0, .int .i64 0, .slice none 0 0]] h (fun u h' => HS h [ow u x] h') := by
  intro n
  induction n with
  | zero => intro x h v hs; exact hs.elim
  | succ n ih =>
  intro x h v hs hn R
  obtain ⟨w, rfl, k1, k2, R1⟩ := Rep_Exq.1 R
  have hL := R1.lt
  have hlo := hs.1.lo
  have hkl : x.kids.length ≤ 2 := by
    have h1 := hs.1.ar
    unfold Exq.arity at h1
    split at h1 <;> (try split at h1) <;> (try split at h1) <;> omega
  refine CallE.gen fun k hk => EN_spec_l1Subst rfl ?_
  have key : ∀ (J : Prop), J → J := fun _ h => h
  by_cases c1 : x.kind = 2
  all_goals
    simp -implicitDefEqProofs (disch := first | omega | (simp only [List.length_set, List.length_replicate, List.length_append, List.length_map, List.length_take, List.length_cons, List.length_nil]; omega)) [wrap64, c1, setC, show ¬ x.val = -1 by omega]
    refine wp_count x.kids.length (fun i e h' => ∃ (kd : Int) (o : Value), kd = x.kind ∧ e = [none, some (.int .i64 (-1)), none, some (.agg #[.int .i64 kd, .int .i64 x.val, w]), some (.agg #[.int .i64 0, .int .i64 0, .slice none 0 0]), some (.agg #[.int .i64 0, .int .i64 0, .slice none 0 0]), some (.agg #[.int .i64 kd, .int .i64 x.val, o]), some (.int .i64 i)] ∧ HS h [ow o (x.kids.take i)] h') ⟨_, .slice none 0 0, rfl, by simp [c1], by simpa using HS.init.nil_ow (α := Exq)⟩ ?_
    rintro J i _ h2 hJ hi ⟨kd, o, rfl, rfl, H⟩
    simp -implicitDefEqProofs (disch := first | omega | (simp only [List.length_set, List.length_replicate, List.length_append, List.length_map, List.length_take, List.length_cons, List.length_nil]; omega)) [wrap64, R1.len]
    refine IteW.mk (fun hlt => ?_) (fun hge => ?_)
    · have hlx : i < x.kids.length := by omega
      obtain ⟨u, hu, Ru⟩ := R1.ld hlx
      have hu2 := hload_le H.base hu
      change hload _ (some (elp 3 w i)) (some 3) = some u at hu2
      simp -implicitDefEqProofs (disch := first | omega | (simp only [List.length_set, List.length_replicate, List.length_append, List.length_map, List.length_take, List.length_cons, List.length_nil]; omega)) [wrap64, R1.X (n := 3) rfl, hu2]
      refine (ih (hs.kid hlx) (by omega) (Ru.on H)).go ?_
      intro y h3 G
      have H := G.app H
      have FG := G.rep.aExq
      obtain ⟨y1, rfl, _, _, _⟩ := G.unExq
      simp -implicitDefEqProofs (disch := first | omega | (simp only [List.length_set, List.length_replicate, List.length_append, List.length_map, List.length_take, List.length_cons, List.length_nil]; omega)) [wrap64, FG, setC]
      refine HS.appO H rfl rfl rfl rfl rfl (by simp; omega) (by simp; omega) fun o' h4 H => ?_
      simp -implicitDefEqProofs (disch := first | omega | (simp only [List.length_set, List.length_replicate, List.length_append, List.length_map, List.length_take, List.length_cons, List.length_nil]; omega)) [wrap64, H.rep.cells, H.rep.one, setC]
      refine hJ _ _ hlx ⟨_, o', rfl, by simp, ?_⟩
      rw [List.take_add_one, List.getElem?_eq_getElem hlx]
      exact H
    · simp -implicitDefEqProofs (disch := first | omega | (simp only [List.length_set, List.length_replicate, List.length_append, List.length_map, List.length_take, List.length_cons, List.length_nil]; omega)) [wrap64, H.rep.one, setC]
      rw [List.take_of_length_le (by omega)] at H
      exact RetK.keep (hk _ _ (H.mkExq k1 k2))
theorem c_l1Subst_zero {h : Heap} {v : Value} (R : Rep h v Exq.zero) : CallE Try.prog fn_spec_l1Subst [v, .int .i64 (-1), .agg #[.int .i64 0, .int .i64 0, .slice none 0 0]] h (fun u h' => HS h [ow u Exq.zero] h') := by
  obtain ⟨w, rfl, k1, k2, R1⟩ := Rep_Exq.1 R
  have hlen := R1.len
  simp only [Exq.zero, Exq.kids_mk, List.length_nil] at hlen
  refine CallE.gen fun k hk => EN_spec_l1Subst rfl ?_
  simp -implicitDefEqProofs (disch := first | omega | (simp only [List.length_set, List.length_replicate, List.length_append, List.length_map, List.length_take, List.length_cons, List.length_nil]; omega)) [wrap64, setC, Exq.zero]
  refine wp_count 0 (fun i e h' => e = [none, some (.int .i64 (-1)), none, some (.agg #[.int .i64 0, .int .i64 0, w]), some (.agg #[.int .i64 0, .int .i64 0, .slice none 0 0]), some (.agg #[.int .i64 0, .int .i64 0, .slice none 0 0]), some (.agg #[.int .i64 0, .int .i64 0, .slice none 0 0]), some (.int .i64 i)] ∧ h' = h) ⟨by simp, rfl⟩ ?_
  rintro J i _ h2 hJ hi ⟨rfl, rfl⟩
  have : i = 0 := by omega
  subst this
  simp -implicitDefEqProofs (disch := first | omega | (simp only [List.length_set, List.length_replicate, List.length_append, List.length_map, List.length_take, List.length_cons, List.length_nil]; omega)) [wrap64, hlen, setC]
  exact RetK.keep (hk _ _ (HS.mkExq (x := Exq.zero) HS.init.nil_ow i64_0 i64_0))
theorem c_copyVal {e : Ed} {n : Int} (he : e.Ok n) {h : Heap} {v : Value} (R : Rep h v e.value) : CallE Try.prog fn_spec_l1Subst [v, .int .i64 (-1), .agg #[.int .i64 0, .int .i64 0, .slice none 0 0]] h (fun u h' => HS h [ow u e.value] h') := by
  rcases he.vl with ⟨_, h1⟩ | ⟨_, h1⟩
  · exact c_l1Subst 6 h1.1 (by omega) R
  · rw [h1] at R ⊢
    exact c_l1Subst_zero R
end Go.Proofs.Ythgimpheeemooaa
