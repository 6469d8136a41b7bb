/-
  Merging by the reference; both as functions of the package.
-/
import Derived.Test.YtknkjplnngeebaaR4
namespace Go.Proofs.Ytknkjplnngeebaa
open Go
set_option linter.all false
set_option linter.unusedVariables false
set_option linter.unusedSimpArgs false
set_option linter.defProp false
set_option maxRecDepth 1000000

theorem matR_at {M : List (List Bool)} {n i j : Nat} (hM : M.length = n) (hr : ∀ r ∈ M, r.length = n) (hi : i < n) (hj : j < n) : ∃ (h1 : i < M.length) (h2 : j < M[i].length), matR M i j = M[i][j] := by
  have h1 : i < M.length := by omega
  have h2 : j < M[i].length := by rw [hr _ (List.getElem_mem h1)]; exact hj
  exact ⟨h1, h2, matR_get h1 h2⟩

set_option maxHeartbeats 4000000 in
theorem c_l13Merge {h : Heap} {v : Value} {a : Aut} (Ra : Rep h v a) (ha : a.Ok) : CallE Try.prog fn_spec_l13Merge [v] h (fun u h' => HS h [ow u a.mrg] h') := by
  obtain ⟨v1, v2, v3, rfl, R1, R2, R3⟩ := Rep_Aut.1 Ra
  have hn := ha.n
  have he := ha.e
  have hil := ha.il
  refine CallE.gen fun k hk => EN_spec_l13Merge rfl ?_
  simp -implicitDefEqProofs (disch := first | omega | (simp only [List.length_set, List.length_replicate, List.length_append, List.length_map, List.length_take, List.length_cons, List.length_nil]; omega)) [wrap64]
  refine (c_l13Relation Ra ha).go ?_
  rintro w h1 ⟨M, H, hMl, hMr, hG⟩
  obtain ⟨e, he'⟩ : ∃ e, e = eqv (matR M) := ⟨_, rfl⟩
  have hme : a.mergeE e = a.mrg := by rw [he']; exact Aut.mrg_eq hG
  have hgl := grpS_len (e := e) a.acc.length
  have hgc := grpS_le (e := e) a.acc.length
  have hgp := grpS_pos (e := e) a.acc.length hn.1
  have hon : ∀ q (hq : q < a.acc.length), (zl (grpS e a.acc.length).1)[q]'(by simp; omega) = gnm e a.acc.length q := fun q hq => gnm_get hq
  have hzl : (zl (grpS e a.acc.length).1).length = a.acc.length := by simp [hgl]
  simp -implicitDefEqProofs (disch := first | omega | (simp only [List.length_set, List.length_replicate, List.length_append, List.length_map, List.length_take, List.length_cons, List.length_nil]; omega)) [wrap64]
  refine H.bls0 Int fun o h2 H => ?_
  have H := H.nil_ow (α := Bool)
  simp -implicitDefEqProofs (disch := first | omega | (simp only [List.length_set, List.length_replicate, List.length_append, List.length_map, List.length_take, List.length_cons, List.length_nil]; omega)) [wrap64]
  refine wp_count a.acc.length (fun i e' h' => ∃ o o2, e' = [none, some (.agg #[v1, v2, v3]), some (.agg #[.slice none 0 0, .slice none 0 0, .slice none 0 0]), some w, some o, some (.agg #[.slice none 0 0, o2, .slice none 0 0]), some (.int .i64 i), none, none, none, none, none, none] ∧
    HS h [ow o2 (accG a e i), ow o (zl (grpS e i).1), ow w M] h') ⟨o, .slice none 0 0, by simp, by simpa [grpS, zl, accG] using H⟩ ?_
  clear H
  rintro J i _ h3 hJ hi ⟨o, o2, rfl, H⟩
  have hal := accG_len (a := a) (e := e) i
  have hgi := grpS_le (e := e) i
  have hgli := grpS_len (e := e) i
  have hzi : (zl (grpS e i).1).length = i := by simp [hgli]
  simp -implicitDefEqProofs (disch := first | omega | (simp only [List.length_set, List.length_replicate, List.length_append, List.length_map, List.length_take, List.length_cons, List.length_nil]; omega)) [wrap64, H.sw2.rep.len]
  refine IteW.mk (fun hlt => ?_) (fun hge => ?_)
  · have hin : i < a.acc.length := by omega
    obtain ⟨hi1, _, _⟩ := matR_at hMl hMr hin hin
    have hri := hMr _ (List.getElem_mem hi1)
    simp -implicitDefEqProofs (disch := first | omega | (simp only [List.length_set, List.length_replicate, List.length_append, List.length_map, List.length_take, List.length_cons, List.length_nil]; omega)) [wrap64]
    refine wp_count i (fun m e' h' => e' = [none, some (.agg #[v1, v2, v3]), some (.agg #[.slice none 0 0, .slice none 0 0, .slice none 0 0]), some w, some o, some (.agg #[.slice none 0 0, o2, .slice none 0 0]), some (.int .i64 i), some (.int .i64 m), none, none, none, none, none] ∧ HS h [ow o2 (accG a e i), ow o (zl (grpS e i).1), ow w M] h' ∧ ∀ j, j < m → e i j = false) ⟨by simp, H, fun j hj => absurd hj (Nat.not_lt_zero j)⟩ ?_
    clear H
    rintro J2 m _ h4 hJ2 hm2 ⟨rfl, H, hno⟩
    have Rw := H.sw2.rep
    have hstop : ∀ (hmi : m < i) (hem : e i m = true), (List.range i).find? (fun k => e i k) = some m := fun hmi hem => find_range (p := fun k => e i k) hmi hem hno
    by_cases hmi : m < i
    · obtain ⟨hm1, _, _⟩ := matR_at hMl hMr (show m < a.acc.length by omega) hin
      have hrm := hMr _ (List.getElem_mem hm1)
      obtain ⟨q1, q2, q3⟩ := matR_at hMl hMr hin (show m < a.acc.length by omega)
      obtain ⟨q4, q5, q6⟩ := matR_at hMl hMr (show m < a.acc.length by omega) hin
      obtain ⟨ui, hui, Rui⟩ := Rw.ldL hi1
      obtain ⟨um, hum, Rum⟩ := Rw.ldL hm1
      have hek : e i m = (M[i][m] && M[m][i]) := by rw [he']; simp only [eqv]; rw [q3, q6]
      cases hb1 : M[i][m] with
      | false =>
        have hef : e i m = false := by rw [hek, hb1]; rfl
        simp -implicitDefEqProofs (disch := first | omega | (simp only [List.length_set, List.length_replicate, List.length_append, List.length_map, List.length_take, List.length_cons, List.length_nil]; omega)) [wrap64, hmi, Rw.X (n := 1) rfl, hui, Rui.B, hb1]
        refine hJ2 _ _ hmi ⟨by simp, H, fun j hj => ?_⟩
        by_cases ej : j = m
        · subst ej; exact hef
        · exact hno j (by omega)
      | true =>
        cases hb2 : M[m][i] with
        | false =>
          have hef : e i m = false := by rw [hek, hb1, hb2]; rfl
          simp -implicitDefEqProofs (disch := first | omega | (simp only [List.length_set, List.length_replicate, List.length_append, List.length_map, List.length_take, List.length_cons, List.length_nil]; omega)) [wrap64, hmi, Rw.X (n := 1) rfl, hui, Rui.B, hb1, hum, Rum.B, hb2]
          refine hJ2 _ _ hmi ⟨by simp, H, fun j hj => ?_⟩
          by_cases ej : j = m
          · subst ej; exact hef
          · exact hno j (by omega)
        | true =>
          have hef : e i m = true := by rw [hek, hb1, hb2]; rfl
          have hgo := grpS_old (hstop hmi hef)
          obtain ⟨x, hx⟩ : ∃ x, x = (grpS e i).1[m]'(by omega) := ⟨_, rfl⟩
          have hxl : x < (grpS e i).2 := hx ▸ grpS_lt i _ (List.getElem_mem (by omega))
          have hzm : (zl (grpS e i).1)[m]'(by omega) = (x : Int) := by rw [zl_get (by omega), ← hx]
          have hacc : accG a e (i + 1) = accG a e i := by simp [accG, hstop hmi hef]
          simp -implicitDefEqProofs (disch := first | omega | (simp only [List.length_set, List.length_replicate, List.length_append, List.length_map, List.length_take, List.length_cons, List.length_nil]; omega)) [wrap64, hmi, Rw.X (n := 1) rfl, hui, Rui.B, hb1, hum, Rum.B, hb2, H.sw1.rep.I, hzm]
          refine H.sw1.app1 (x : Int) rfl rfl rfl ⟨by omega, by omega⟩ rfl rfl (by omega) (by omega) fun o' h5 H => ?_
          simp -implicitDefEqProofs (disch := first | omega | (simp only [List.length_set, List.length_replicate, List.length_append, List.length_map, List.length_take, List.length_cons, List.length_nil]; omega)) [wrap64]
          refine hJ _ _ hin ⟨o', o2, by simp, ?_⟩
          rw [hgo, hacc, zl_append, List.getD_eq_getElem?_getD, List.getElem?_eq_getElem (by omega : m < (grpS e i).1.length), ← hx]
          simpa [zl] using H.sw1
    · have hmi2 : m = i := by omega
      subst hmi2
      have hfn := find_none (p := fun j => e m j) hno
      have hgn := grpS_new hfn
      have hacc : accG a e (m + 1) = accG a e m ++ [a.acc[m]] := by simp [accG, hfn, hin]
      simp -implicitDefEqProofs (disch := first | omega | (simp only [List.length_set, List.length_replicate, List.length_append, List.length_map, List.length_take, List.length_cons, List.length_nil]; omega)) [wrap64, H.rep.len]
      refine H.sw1.app1 ((grpS e m).2 : Int) rfl rfl (by simp [hal, O.get, Flat.enc, setC]) ⟨by omega, by omega⟩ rfl rfl (by omega) (by omega) fun o' h5 H => ?_
      have H := H.sw1
      simp -implicitDefEqProofs (disch := first | omega | (simp only [List.length_set, List.length_replicate, List.length_append, List.length_map, List.length_take, List.length_cons, List.length_nil]; omega)) [wrap64, (R2.on H).B]
      refine H.app1 a.acc[m] rfl rfl rfl trivial rfl rfl (by omega) (by omega) fun o3 h6 H => ?_
      simp -implicitDefEqProofs (disch := first | omega | (simp only [List.length_set, List.length_replicate, List.length_append, List.length_map, List.length_take, List.length_cons, List.length_nil]; omega)) [wrap64, H.rep.cells, H.rep.one, setC]
      refine hJ _ _ hin ⟨o', o3, by simp, ?_⟩
      rw [hgn, hacc, zl_append]
      exact H
  have hin : i = a.acc.length := by omega
  subst hin
  have H := H.sw2.drop
  have H := H.nil_ow (α := Int)
  simp -implicitDefEqProofs (disch := first | omega | (simp only [List.length_set, List.length_replicate, List.length_append, List.length_map, List.length_take, List.length_cons, List.length_nil]; omega)) [wrap64]
  refine wp_count a.init.length (fun i e' h' => ∃ o1, e' = [none, some (.agg #[v1, v2, v3]), some (.agg #[.slice none 0 0, .slice none 0 0, .slice none 0 0]), none, some o, some (.agg #[o1, o2, .slice none 0 0]), none, none, some (.int .i64 i), none, none, none, none] ∧
    ∃ I : List Int, HS h [ow o1 I, ow o2 (accG a e a.acc.length), ow o (zl (grpS e a.acc.length).1)] h' ∧ incr ((grpS e a.acc.length).2 : Nat) (-1) I ∧ ∀ x, x ∈ I ↔ ∃ q ∈ a.init.take i, gnm e a.acc.length q = x) ⟨.slice none 0 0, by simp, [], H, trivial, by simp⟩ ?_
  clear H hJ
  rintro J i _ h4 hJ hi2 ⟨o1, rfl, I, H, hI, hIm⟩
  simp -implicitDefEqProofs (disch := first | omega | (simp only [List.length_set, List.length_replicate, List.length_append, List.length_map, List.length_take, List.length_cons, List.length_nil]; omega)) [wrap64, (R1.on H).len]
  refine IteW.mk (fun hlt2 => ?_) (fun hge2 => ?_)
  · have hix : i < a.init.length := by omega
    have hx := ha.im hix
    obtain ⟨q, hq⟩ : ∃ q : Nat, a.init[i] = q := ⟨a.init[i].toNat, by omega⟩
    have hoq := hon q (by omega)
    have hgq := gnm_lt (e := e) (n := a.acc.length) (x := q) (by omega) (by omega)
    simp -implicitDefEqProofs (disch := first | omega | (simp only [List.length_set, List.length_replicate, List.length_append, List.length_map, List.length_take, List.length_cons, List.length_nil]; omega)) [wrap64, (R1.on H).I, hq, H.sw2.rep.I, hoq]
    refine (c_l10Sorted H hI (by omega) (by omega)).go ?_
    rintro o1' h5 ⟨I', H, hI', hIm'⟩
    simp -implicitDefEqProofs (disch := first | omega | (simp only [List.length_set, List.length_replicate, List.length_append, List.length_map, List.length_take, List.length_cons, List.length_nil]; omega)) [wrap64, H.rep.cells, H.rep.one, setC]
    refine hJ _ _ hix ⟨o1', rfl, I', H, hI', fun x => ?_⟩
    rw [hIm', hIm]
    constructor
    · rintro (⟨p, h6, h7⟩ | rfl)
      · exact ⟨p, (take_mem_succ hix).2 (.inl h6), h7⟩
      · exact ⟨_, (take_mem_succ hix).2 (.inr rfl), by rw [hq]⟩
    · rintro ⟨p, h6, h7⟩
      rcases (take_mem_succ hix).1 h6 with h6 | rfl
      · exact .inl ⟨p, h6, h7⟩
      · exact .inr (by rw [← h7, hq])
  have hii : i = a.init.length := by omega
  subst hii
  rw [List.take_length] at hIm
  have hini : I = (a.mergeE e).init := by
    refine incr_ext hI (memL_incr (n := (grpS e a.acc.length).2) (Nat.le_refl _)) fun x => ?_
    rw [hIm, show (a.mergeE e).init = memL _ _ from rfl, memL_mem]
    simp only [List.any_eq_true, decide_eq_true_eq]
    constructor
    · rintro ⟨q, hq, rfl⟩
      have := incr_mem ha.i q hq
      have hg := gnm_lt (e := e) (n := a.acc.length) (x := q) (by omega) (by omega)
      exact ⟨(gnm e a.acc.length q).toNat, by omega, by omega, q, hq, by omega⟩
    · rintro ⟨b, rfl, hb, q, hq, h9⟩
      exact ⟨q, hq, h9⟩
  rw [hini] at H
  have H := H.nil_ow (α := Tr)
  simp -implicitDefEqProofs (disch := first | omega | (simp only [List.length_set, List.length_replicate, List.length_append, List.length_map, List.length_take, List.length_cons, List.length_nil]; omega)) [wrap64]
  refine wp_count a.edges.length (fun i e' h' => ∃ o3, e' = [none, some (.agg #[v1, v2, v3]), some (.agg #[.slice none 0 0, .slice none 0 0, .slice none 0 0]), none, some o, some (.agg #[o1, o2, o3]), none, none, none, some (.int .i64 i), none, none, none] ∧
    HS h [ow o3 (ded ((a.edges.map (Tr.ren (gnm e a.acc.length))).take i)), ow o1 (a.mergeE e).init, ow o2 (accG a e a.acc.length), ow o (zl (grpS e a.acc.length).1)] h') ⟨.slice none 0 0, by simp, H⟩ ?_
  clear H hJ
  rintro J i _ h10 hJ hi3 ⟨o3, rfl, H⟩
  have hdl := ded_len (l := (a.edges.map (Tr.ren (gnm e a.acc.length))).take i)
  simp only [List.length_take, List.length_map] at hdl
  simp -implicitDefEqProofs (disch := first | omega | (simp only [List.length_set, List.length_replicate, List.length_append, List.length_map, List.length_take, List.length_cons, List.length_nil]; omega)) [wrap64, (R3.on H).len]
  refine IteW.mk (fun hlt2 => ?_) (fun hge2 => ?_)
  · have hix : i < a.edges.length := by omega
    have hx := ha.t hix
    have hv := R3.okTr hix
    unfold Tr.Ok at hx
    obtain ⟨f, hf⟩ : ∃ f : Nat, a.edges[i].frm = f := ⟨a.edges[i].frm.toNat, by omega⟩
    obtain ⟨t, ht⟩ : ∃ t : Nat, a.edges[i].to = t := ⟨a.edges[i].to.toNat, by omega⟩
    have hof := hon f (by omega)
    have hot := hon t (by omega)
    have hgf := gnm_lt (e := e) (n := a.acc.length) (x := f) (by omega) (by omega)
    have hgt := gnm_lt (e := e) (n := a.acc.length) (x := t) (by omega) (by omega)
    obtain ⟨y, hy⟩ : ∃ y : Tr, y = Tr.ren (gnm e a.acc.length) a.edges[i] := ⟨_, rfl⟩
    have hyv : y.v = .agg #[.int .i64 (gnm e a.acc.length f), .int .i64 a.edges[i].care, .int .i64 a.edges[i].value, .int .i64 (gnm e a.acc.length t)] := by
      rw [hy]; simp [Tr.v, Tr.ren, hf, ht]
    have hyok : y.ok := by
      rw [hy]
      exact ⟨by simp only [Tr.ren, hf]; omega, hv.care, hv.value, by simp only [Tr.ren, ht]; omega⟩
    have hds := ded_succ (l := a.edges.map (Tr.ren (gnm e a.acc.length))) (i := i) (by simpa using hix)
    simp only [List.getElem_map, ← hy] at hds
    obtain ⟨D, hD⟩ : ∃ D, D = ded ((a.edges.map (Tr.ren (gnm e a.acc.length))).take i) := ⟨_, rfl⟩
    rw [← hD] at H hds hdl
    simp -implicitDefEqProofs (disch := first | omega | (simp only [List.length_set, List.length_replicate, List.length_append, List.length_map, List.length_take, List.length_cons, List.length_nil]; omega)) [wrap64, (R3.on H).X (n := 4) rfl, (R3.on H).fTr, hf, ht, setC, H.sw3.rep.I, hof, hot]
    refine wp_count D.length (fun m e' h' => ∃ b : Bool, e' = [none, some (.agg #[v1, v2, v3]), some (.agg #[.slice none 0 0, .slice none 0 0, .slice none 0 0]), none, some o, some (.agg #[o1, o2, o3]), none, none, none, some (.int .i64 i), some y.v, some (.bool b), some (.int .i64 m)] ∧
      HS h [ow o3 D, ow o1 (a.mergeE e).init, ow o2 (accG a e a.acc.length), ow o (zl (grpS e a.acc.length).1)] h' ∧ (b = true ↔ y ∈ D.take m)) ⟨false, by simp [hyv], H, by simp⟩ ?_
    clear H
    rintro J2 m _ h11 hJ2 hm2 ⟨b, rfl, H, hb⟩
    have hDv : ∀ j (hj : j < D.length), D[j].v = y.v ↔ D[j] = y := by
      intro j hj
      cases D[j]; cases y
      simp [Tr.v]
    simp -implicitDefEqProofs (disch := first | omega | (simp only [List.length_set, List.length_replicate, List.length_append, List.length_map, List.length_take, List.length_cons, List.length_nil]; omega)) [wrap64, H.rep.len]
    refine IteW.mk (fun hlt3 => ?_) (fun hge3 => ?_)
    · have hmD : m < D.length := by omega
      cases b with
      | true =>
        simp -implicitDefEqProofs (disch := first | omega | (simp only [List.length_set, List.length_replicate, List.length_append, List.length_map, List.length_take, List.length_cons, List.length_nil]; omega)) [wrap64]
        exact hJ2 _ _ hmD ⟨true, by simp, H, by rw [take_mem_succ hmD]; simp [hb.1 rfl]⟩
      | false =>
        have hno : ¬ y ∈ D.take m := fun h => by have := hb.2 h; simp at this
        simp -implicitDefEqProofs (disch := first | omega | (simp only [List.length_set, List.length_replicate, List.length_append, List.length_map, List.length_take, List.length_cons, List.length_nil]; omega)) [wrap64, H.rep.xTr, Tr.v, hyv, setC]
        refine hJ2 _ _ hmD ⟨decide (D[m] = y), by simp [Tr.v, Tr.ext_iff', Bool.decide_and], H, ?_⟩
        rw [take_mem_succ hmD, decide_eq_true_iff]
        constructor
        · intro h; exact .inr h.symm
        · rintro (h | h)
          · exact absurd h hno
          · exact h.symm
    · have hmD : m = D.length := by omega
      subst hmD
      rw [List.take_length] at hb
      cases b with
      | true =>
        have hm := hb.1 rfl
        simp -implicitDefEqProofs (disch := first | omega | (simp only [List.length_set, List.length_replicate, List.length_append, List.length_map, List.length_take, List.length_cons, List.length_nil]; omega)) [wrap64]
        exact hJ _ _ hix ⟨o3, by simp, by rw [hds, if_pos hm]; exact H⟩
      | false =>
        have hm : ¬ y ∈ D := fun h => by have := hb.2 h; simp at this
        simp -implicitDefEqProofs (disch := first | omega | (simp only [List.length_set, List.length_replicate, List.length_append, List.length_map, List.length_take, List.length_cons, List.length_nil]; omega)) [wrap64, Tr.v, setC]
        refine H.app1 y rfl rfl (by simp [setC, Flat.enc, Tr.v]) (Tr.ok_iff.2 hyok) rfl rfl (by omega) (by omega) fun o3' h12 H => ?_
        simp -implicitDefEqProofs (disch := first | omega | (simp only [List.length_set, List.length_replicate, List.length_append, List.length_map, List.length_take, List.length_cons, List.length_nil]; omega)) [wrap64, H.rep.cells, H.rep.one, setC]
        exact hJ _ _ hix ⟨o3', by simp, by rw [hds, if_neg hm]; exact H⟩
  have hii : i = a.edges.length := by omega
  subst hii
  rw [List.take_of_length_le (by simp)] at H
  have H := HS.mkAut (a := a.mergeE e) H.sw2.sw2
  rw [hme] at H
  have H := H.only
  obtain ⟨z1, z2, z3, hz, S1, S2, S3⟩ := Rep_Aut.1 H.rep
  simp at hz
  obtain ⟨rfl, rfl, rfl⟩ := hz
  simp -implicitDefEqProofs (disch := first | omega | (simp only [List.length_set, List.length_replicate, List.length_append, List.length_map, List.length_take, List.length_cons, List.length_nil]; omega)) [wrap64, S1.one, S2.one, S3.one]
  exact RetK.keep (hk _ _ H)

theorem c_MergeStates {h : Heap} {v : Value} {a : Aut} (Ra : Rep h v a) : CallE Try.prog fn_impl_MergeStates [v] h (okR Aut.mrg h a) := by
  have Fa := Ra.aAut
  refine CallE.gen fun k hk => EN_impl_MergeStates rfl ?_
  simp -implicitDefEqProofs (disch := first | omega | (simp only [List.length_set, List.length_replicate, List.length_append, List.length_map, List.length_take, List.length_cons, List.length_nil]; omega)) [wrap64, Fa]
  refine (c_AutomatonValid Ra).go ?_
  rintro _ h1 ⟨l1, rfl⟩
  by_cases ha : a.Ok
  · simp -implicitDefEqProofs (disch := first | omega | (simp only [List.length_set, List.length_replicate, List.length_append, List.length_map, List.length_take, List.length_cons, List.length_nil]; omega)) [wrap64, ha, Fa]
    refine (c_merge (Ra.le l1) ha).go ?_
    intro u h2 H
    have H := HS.app (Γ := []) H l1
    obtain ⟨z1, z2, z3, rfl, S1, S2, S3⟩ := Rep_Aut.1 H.rep
    simp -implicitDefEqProofs (disch := first | omega | (simp only [List.length_set, List.length_replicate, List.length_append, List.length_map, List.length_take, List.length_cons, List.length_nil]; omega)) [wrap64, S1.one, S2.one, S3.one]
    exact RetK.keep (hk _ _ (okR.yes ha H))
  · simp -implicitDefEqProofs (disch := first | omega | (simp only [List.length_set, List.length_replicate, List.length_append, List.length_map, List.length_take, List.length_cons, List.length_nil]; omega)) [wrap64, ha]
    exact RetK.keep (hk _ _ (okR.no ha l1))
theorem c_spec_MergeStates {h : Heap} {v : Value} {a : Aut} (Ra : Rep h v a) : CallE Try.prog fn_spec_MergeStates [v] h (okR Aut.mrg h a) := by
  have Fa := Ra.aAut
  refine CallE.gen fun k hk => EN_spec_MergeStates rfl ?_
  simp -implicitDefEqProofs (disch := first | omega | (simp only [List.length_set, List.length_replicate, List.length_append, List.length_map, List.length_take, List.length_cons, List.length_nil]; omega)) [wrap64, Fa]
  refine (c_spec_AutomatonValid Ra).go ?_
  rintro _ _ ⟨rfl, rfl⟩
  by_cases ha : a.Ok
  · simp -implicitDefEqProofs (disch := first | omega | (simp only [List.length_set, List.length_replicate, List.length_append, List.length_map, List.length_take, List.length_cons, List.length_nil]; omega)) [wrap64, ha, Fa]
    refine (c_l13Merge Ra ha).go ?_
    intro u h2 H
    obtain ⟨z1, z2, z3, rfl, S1, S2, S3⟩ := Rep_Aut.1 H.rep
    simp -implicitDefEqProofs (disch := first | omega | (simp only [List.length_set, List.length_replicate, List.length_append, List.length_map, List.length_take, List.length_cons, List.length_nil]; omega)) [wrap64, S1.one, S2.one, S3.one]
    exact RetK.keep (hk _ _ (okR.yes ha H))
  · simp -implicitDefEqProofs (disch := first | omega | (simp only [List.length_set, List.length_replicate, List.length_append, List.length_map, List.length_take, List.length_cons, List.length_nil]; omega)) [wrap64, ha]
    exact RetK.keep (hk _ _ (okR.no ha HS.init))
theorem bnd_MergeStates {a0 : Aut} : Mk.cnt (if a0.Ok then a0.mrg else Aut.empty) ≤ 4194304 := cnt_okR (f := Aut.mrg) fun h => Aut.mrg_ok h
end Go.Proofs.Ytknkjplnngeebaa
