/-
  Merging, by the program and by the reference.
-/
import Derived.Test.YtknkjplnngeebaaR3
import Derived.Test.YtknkjplnngeebaaP81
import Derived.Test.YtknkjplnngeebaaR0
namespace Go.Proofs.Ytknkjplnngeebaa
open Go
set_option linter.all false
set_option linter.unusedVariables false
set_option linter.unusedSimpArgs false
set_option linter.defProp false
set_option maxRecDepth 1000000

theorem gnm_get {e : Nat → Nat → Bool} {n q : Nat} (hq : q < n) {h1 : q < (zl (grpS e n).1).length} : (zl (grpS e n).1)[q] = gnm e n q := by
  have hl := grpS_len (e := e) n
  rw [zl_get (by omega)]
  simp [gnm, hl, hq]
theorem gnm_first {e : Nat → Nat → Bool} {n i : Nat} (hi : i < n) : gnm e n i = ((grpS e (i + 1)).1.getD i 0 : Nat) := by
  simp only [gnm, Int.toNat_natCast]
  rw [grpS_get (i := i + 1) (by omega) (by omega)]
/-- whether a state is a first one, by its number -/
theorem gnm_new {e : Nat → Nat → Bool} {n i : Nat} (hi : i < n) : (gnm e n i = ((grpS e i).2 : Int)) ↔ (List.range i).find? (fun k => e i k) = none := by
  have hl := grpS_len (e := e) i
  rw [gnm_first hi]
  cases h : (List.range i).find? (fun k => e i k) with
  | none =>
    rw [grpS_new h]
    simp [List.getElem?_append_right (show (grpS e i).1.length ≤ i by omega), hl]
  | some k =>
    have hk := find_lt h
    have := grpS_lt (e := e) i _ (List.getElem_mem (show k < (grpS e i).1.length by omega))
    rw [grpS_old h]
    simp only [List.getD_eq_getElem?_getD]
    rw [List.getElem?_append_right (show (grpS e i).1.length ≤ i by omega), List.getElem?_eq_getElem (show k < (grpS e i).1.length by omega)]
    simp [hl]
    omega
theorem accG_step {a : Aut} {e : Nat → Nat → Bool} {i : Nat} (hi : i < a.acc.length) : accG a e (i + 1) = accG a e i ++ if gnm e a.acc.length i = ((grpS e i).2 : Int) then [a.acc[i]] else [] := by
  have h := gnm_new (e := e) hi
  cases hf : (List.range i).find? (fun k => e i k) with
  | none => rw [if_pos (h.2 hf)]; simp [accG, hf, hi]
  | some k => rw [if_neg (fun h2 => by rw [h.1 h2] at hf; simp at hf)]; simp [accG, hf]

set_option maxHeartbeats 4000000 in
theorem c_merge {h : Heap} {v : Value} {a : Aut} (Ra : Rep h v a) (ha : a.Ok) : CallE Try.prog fn_impl_Automaton_merge [v] h (fun u h' => HS h [ow u a.mrg] h') := by
  obtain ⟨v1, v2, v3, rfl, R1, R2, R3⟩ := Rep_Aut.1 Ra
  have hn := ha.n
  have he := ha.e
  have hil := ha.il
  refine CallE.gen fun k hk => EN_impl_Automaton_merge rfl ?_
  simp -implicitDefEqProofs (disch := first | omega | (simp only [List.length_set, List.length_replicate, List.length_append, List.length_map, List.length_take, List.length_cons, List.length_nil]; omega)) [wrap64]
  refine (c_simulation Ra ha).go ?_
  rintro vb h1 ⟨B, H, hBl, hG⟩
  simp -implicitDefEqProofs (disch := first | omega | (simp only [List.length_set, List.length_replicate, List.length_append, List.length_map, List.length_take, List.length_cons, List.length_nil]; omega)) [wrap64]
  refine H.alloc rfl fun bB h2 H => ?_
  simp -implicitDefEqProofs (disch := first | omega | (simp only [List.length_set, List.length_replicate, List.length_append, List.length_map, List.length_take, List.length_cons, List.length_nil]; omega)) [wrap64]
  have Rb := H.sw1.rep
  refine H.bxst (u := vb) rfl rfl (by rw [Rb.cells]; rfl) (by rw [Rb.cells]; simp [Rb.one]) (by simp [Rb.cells]) fun h3 H => ?_
  have H : HS h [bx bB [vb], ow vb B] h3 := by simpa [setC, Rb.cells] using H
  obtain ⟨e, he'⟩ : ∃ e, e = eqv (bitR B) := ⟨_, rfl⟩
  have hme : a.mergeE e = a.mrg := by rw [he']; exact Aut.mrg_eq hG
  simp -implicitDefEqProofs (disch := first | omega | (simp only [List.length_set, List.length_replicate, List.length_append, List.length_map, List.length_take, List.length_cons, List.length_nil]; omega)) [wrap64, H.bxld0, H.sw1.rep.len]
  refine (c_grouped (n := B.length) (f := fn_impl_Automaton_merge_1) (c1 := []) (c2 := [.pointer (some ⟨bB, 0, none⟩)]) (by rfl) e (by omega) ?_).go ?_
  · intro h4 hl i m hi hm
    subst he'
    exact c_merge_1 (hload_le hl H.bxld0) (H.sw1.rep.le hl) (by omega) hi (by omega)
  intro o h4 H4
  have H := (H4.app H).only
  rw [hBl] at H
  have hgl := grpS_len (e := e) a.acc.length
  have hgc := grpS_le (e := e) a.acc.length
  have hgp := grpS_pos (e := e) a.acc.length hn.1
  have hon : ∀ q (hq : q < a.acc.length), (zl (grpS e a.acc.length).1)[q]'(by simp; omega) = gnm e a.acc.length q := fun q hq => gnm_get hq
  have hzl : (zl (grpS e a.acc.length).1).length = a.acc.length := by simp [hgl]
  have H := H.nil_ow (α := Bool)
  simp -implicitDefEqProofs (disch := first | omega | (simp only [List.length_set, List.length_replicate, List.length_append, List.length_map, List.length_take, List.length_cons, List.length_nil]; omega)) [wrap64, H.sw1.rep.len]
  refine wp_count a.acc.length (fun i e' h' => ∃ o2, e' = [none, some (.agg #[v1, v2, v3]), some (.agg #[.slice none 0 0, .slice none 0 0, .slice none 0 0]), none, some o, some (.agg #[.slice none 0 0, o2, .slice none 0 0]), none, none, none, none, none, some o, some (.int .i64 a.acc.length), some (.int .i64 i), none, none, none] ∧
    HS h [ow o2 (accG a e i), ow o (zl (grpS e a.acc.length).1)] h') ⟨.slice none 0 0, by simp [hgl], H⟩ ?_
  clear H
  rintro J i _ h5 hJ hi ⟨o2, rfl, H⟩
  have hal := accG_len (a := a) (e := e) i
  have hgi := grpS_le (e := e) i
  simp -implicitDefEqProofs (disch := first | omega | (simp only [List.length_set, List.length_replicate, List.length_append, List.length_map, List.length_take, List.length_cons, List.length_nil]; omega)) [wrap64]
  refine IteW.mk (fun hlt => ?_) (fun hge => ?_)
  · have hin : i < a.acc.length := by omega
    have hst := accG_step (e := e) hin
    have hoi := hon i hin
    by_cases hnew : gnm e a.acc.length i = ((grpS e i).2 : Int)
    · have hoi2 : (zl (grpS e a.acc.length).1)[i]'(by simp; omega) = ((grpS e i).2 : Int) := by rw [hoi, hnew]
      simp -implicitDefEqProofs (disch := first | omega | (simp only [List.length_set, List.length_replicate, List.length_append, List.length_map, List.length_take, List.length_cons, List.length_nil]; omega)) [wrap64, H.sw1.rep.I, hoi2, H.rep.len, hal, (R2.on H).B]
      refine H.app1 a.acc[i] rfl rfl rfl trivial rfl rfl (by omega) (by omega) fun o3 h6 H => ?_
      simp -implicitDefEqProofs (disch := first | omega | (simp only [List.length_set, List.length_replicate, List.length_append, List.length_map, List.length_take, List.length_cons, List.length_nil]; omega)) [wrap64, H.rep.cells, H.rep.one, setC]
      exact hJ _ _ hin ⟨o3, rfl, by rw [hst, if_pos hnew]; exact H⟩
    · simp -implicitDefEqProofs (disch := first | omega | (simp only [List.length_set, List.length_replicate, List.length_append, List.length_map, List.length_take, List.length_cons, List.length_nil]; omega)) [wrap64, H.sw1.rep.I, hoi, H.rep.len, hal, hnew]
      exact hJ _ _ hin ⟨o2, rfl, by rw [hst, if_neg hnew]; simpa using H⟩
  have hin : i = a.acc.length := by omega
  subst hin
  simp -implicitDefEqProofs (disch := first | omega | (simp only [List.length_set, List.length_replicate, List.length_append, List.length_map, List.length_take, List.length_cons, List.length_nil]; omega)) [wrap64]
  refine (c_picked H.sw1.rep (R1.on H) (fun x hx => by have := incr_mem ha.i x hx; simp; omega) (by omega)).go ?_
  intro p h6 H6
  have H := H6.app H
  simp -implicitDefEqProofs (disch := first | omega | (simp only [List.length_set, List.length_replicate, List.length_append, List.length_map, List.length_take, List.length_cons, List.length_nil]; omega)) [wrap64, H.rep.one, H.rep.cells, setC]
  refine (c_Sort_int H).go ?_
  intro _ h7 H
  simp -implicitDefEqProofs (disch := first | omega | (simp only [List.length_set, List.length_replicate, List.length_append, List.length_map, List.length_take, List.length_cons, List.length_nil]; omega)) [wrap64]
  refine (c_Compact_int H).go ?_
  intro p2 h8 H
  have hini : Lib.compact ((a.init.map fun x => (zl (grpS e a.acc.length).1).getD x.toNat 0).mergeSort fun x y => decide (x ≤ y)) = (a.mergeE e).init := by
    obtain ⟨q1, q2⟩ := sort_compact (a.init.map fun x => (zl (grpS e a.acc.length).1).getD x.toNat 0)
    have hval : ∀ q ∈ a.init, (zl (grpS e a.acc.length).1).getD q.toNat 0 = gnm e a.acc.length q := by
      intro q hq
      have := incr_mem ha.i q hq
      rw [List.getD_eq_getElem?_getD, List.getElem?_eq_getElem (by simp; omega)]
      have h9 := hon q.toNat (by omega)
      rw [Int.toNat_of_nonneg (by omega)] at h9
      simpa using h9
    refine pairwise_ext q1 (incr_iff.1 (memL_incr (n := (grpS e a.acc.length).2) (Nat.le_refl _))).1 fun x => ?_
    rw [q2, show (a.mergeE e).init = memL _ _ from rfl, memL_mem]
    simp only [List.mem_map, List.any_eq_true, decide_eq_true_eq]
    constructor
    · rintro ⟨q, hq, rfl⟩
      have := incr_mem ha.i q hq
      have hg := gnm_lt (e := e) (n := a.acc.length) (x := q) (by omega) (by omega)
      rw [hval q hq]
      exact ⟨(gnm e a.acc.length q).toNat, by omega, by omega, q, hq, by omega⟩
    · rintro ⟨b, rfl, hb, q, hq, h9⟩
      exact ⟨q, hq, by rw [hval q hq]; exact h9⟩
  rw [hini] at H
  simp -implicitDefEqProofs (disch := first | omega | (simp only [List.length_set, List.length_replicate, List.length_append, List.length_map, List.length_take, List.length_cons, List.length_nil]; omega)) [wrap64, H.rep.one, H.rep.cells, setC]
  have H := H.nil_ow (α := Tr)
  refine H.mkm (fun t : Tr => t.v) (fun b : Bool => .bool b) fun bm h9 H => ?_
  simp -implicitDefEqProofs (disch := first | omega | (simp only [List.length_set, List.length_replicate, List.length_append, List.length_map, List.length_take, List.length_cons, List.length_nil]; omega)) [wrap64, (R3.on H).len]
  refine wp_count a.edges.length (fun i e' h' => ∃ o3, e' = [none, none, some (.agg #[.slice none 0 0, .slice none 0 0, .slice none 0 0]), none, some o, some (.agg #[p2, o2, o3]), none, none, some (.map (some bm)), none, none, none, none, none, some v3, some (.int .i64 a.edges.length), some (.int .i64 i)] ∧
    HS h [mpo (fun t : Tr => t.v) (fun b : Bool => .bool b) bm ((ded ((a.edges.map (Tr.ren (gnm e a.acc.length))).take i)).map fun t => (t, true)), ow o3 (ded ((a.edges.map (Tr.ren (gnm e a.acc.length))).take i)), ow p2 (a.mergeE e).init, ow o2 (accG a e a.acc.length), ow o (zl (grpS e a.acc.length).1)] h') ⟨.slice none 0 0, by simp, H⟩ ?_
  clear H hJ
  rintro J i _ h10 hJ hi2 ⟨o3, rfl, H⟩
  have hdl := ded_len (l := (a.edges.map (Tr.ren (gnm e a.acc.length))).take i)
  simp only [List.length_take, List.length_map] at hdl
  simp -implicitDefEqProofs (disch := first | omega | (simp only [List.length_set, List.length_replicate, List.length_append, List.length_map, List.length_take, List.length_cons, List.length_nil]; omega)) [wrap64]
  refine IteW.mk (fun hlt2 => ?_) (fun hge2 => ?_)
  · have hix : i < a.edges.length := by omega
    have hx := ha.t hix
    have hv := R3.okTr hix
    unfold Tr.Ok at hx
    obtain ⟨f, hf⟩ : ∃ f : Nat, a.edges[i].frm = f := ⟨a.edges[i].frm.toNat, by omega⟩
    obtain ⟨t, ht⟩ : ∃ t : Nat, a.edges[i].to = t := ⟨a.edges[i].to.toNat, by omega⟩
    have hof := hon f (by omega)
    have hot := hon t (by omega)
    have hgf := gnm_lt (e := e) (n := a.acc.length) (x := f) (by omega) (by omega)
    have hgt := gnm_lt (e := e) (n := a.acc.length) (x := t) (by omega) (by omega)
    obtain ⟨y, hy⟩ : ∃ y : Tr, y = Tr.ren (gnm e a.acc.length) a.edges[i] := ⟨_, rfl⟩
    have hyv : y.v = .agg #[.int .i64 (gnm e a.acc.length f), .int .i64 a.edges[i].care, .int .i64 a.edges[i].value, .int .i64 (gnm e a.acc.length t)] := by
      rw [hy]; simp [Tr.v, Tr.ren, hf, ht]
    have hyok : y.ok := by
      rw [hy]
      exact ⟨by simp only [Tr.ren, hf]; omega, hv.care, hv.value, by simp only [Tr.ren, ht]; omega⟩
    have hds := ded_succ (l := a.edges.map (Tr.ren (gnm e a.acc.length))) (i := i) (by simpa using hix)
    simp only [List.getElem_map, ← hy] at hds
    have hmk : ∀ D : List Tr, mlk (D.map fun t => (t, true)) y = if y ∈ D then some true else none := by
      intro D
      induction D with
      | nil => rfl
      | cons d D ih =>
        simp only [mlk, List.map_cons, List.find?_cons] at ih ⊢
        by_cases hdy : d = y
        · subst hdy; simp
        · simp only [hdy, decide_false]
          rw [ih]
          simp [Ne.symm hdy]
    simp -implicitDefEqProofs (disch := first | omega | (simp only [List.length_set, List.length_replicate, List.length_append, List.length_map, List.length_take, List.length_cons, List.length_nil]; omega)) [wrap64, (R3.on H).xTr, Tr.v, setC, hf, ht, H.sw4.rep.I, hof, hot]
    refine H.mget (a := y) rfl (by simp [O.get, hyv]) keyEq_Tr ?_
    rw [hmk]
    by_cases hm : y ∈ ded ((a.edges.map (Tr.ren (gnm e a.acc.length))).take i)
    · rw [if_pos hm]
      simp -implicitDefEqProofs (disch := first | omega | (simp only [List.length_set, List.length_replicate, List.length_append, List.length_map, List.length_take, List.length_cons, List.length_nil]; omega)) [wrap64]
      exact hJ _ _ hix ⟨o3, by simp, by rw [hds, if_pos hm]; exact H⟩
    · rw [if_neg hm]
      simp -implicitDefEqProofs (disch := first | omega | (simp only [List.length_set, List.length_replicate, List.length_append, List.length_map, List.length_take, List.length_cons, List.length_nil]; omega)) [wrap64]
      refine H.mput (a := y) (v := true) rfl (by simp [O.get, hyv]) rfl keyEq_Tr (by rw [hmk, if_neg hm]) fun h11 H => ?_
      simp -implicitDefEqProofs (disch := first | omega | (simp only [List.length_set, List.length_replicate, List.length_append, List.length_map, List.length_take, List.length_cons, List.length_nil]; omega)) [wrap64]
      have H := H.sw1
      refine H.app1 y rfl rfl (by simp [setC, Flat.enc, hy, Tr.ren, hf, ht]) (Tr.ok_iff.2 hyok) rfl rfl (by omega) (by omega) fun o3' h12 H => ?_
      simp -implicitDefEqProofs (disch := first | omega | (simp only [List.length_set, List.length_replicate, List.length_append, List.length_map, List.length_take, List.length_cons, List.length_nil]; omega)) [wrap64, H.rep.cells, H.rep.one, setC]
      refine hJ _ _ hix ⟨o3', by simp, ?_⟩
      rw [hds, if_neg hm, List.map_append]
      exact H.sw1
  have hii : i = a.edges.length := by omega
  subst hii
  rw [List.take_of_length_le (by simp)] at H
  have H := H.drop
  have H := HS.mkAut (a := a.mergeE e) H.sw2.sw2
  rw [hme] at H
  have hok := Aut.mrg_ok ha
  have e1 := hok.n
  have e2 := hok.il
  have e3 := hok.e
  simp -implicitDefEqProofs (disch := first | omega | (simp only [List.length_set, List.length_replicate, List.length_append, List.length_map, List.length_take, List.length_cons, List.length_nil]; omega)) [wrap64]
  refine (c_copyOf H.rep (by omega) (by omega) (by omega)).go ?_
  intro v' h9 H6
  have H := (H6.app H).only
  obtain ⟨z1, z2, z3, rfl, S1, S2, S3⟩ := Rep_Aut.1 H.rep
  simp -implicitDefEqProofs (disch := first | omega | (simp only [List.length_set, List.length_replicate, List.length_append, List.length_map, List.length_take, List.length_cons, List.length_nil]; omega)) [wrap64, S1.one, S2.one, S3.one]
  exact RetK.keep (hk _ _ H)
end Go.Proofs.Ytknkjplnngeebaa
