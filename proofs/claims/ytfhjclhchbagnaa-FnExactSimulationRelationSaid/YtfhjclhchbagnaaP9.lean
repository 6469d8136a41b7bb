/-
  The two laws, as calls.
-/
import Derived.Test.YtfhjclhchbagnaaP8
namespace Go.Proofs.Ytfhjclhchbagnaa
open Go
set_option linter.all false
set_option linter.unusedVariables false
set_option linter.unusedSimpArgs false
set_option linter.defProp false

theorem sz_aut {a : Aut} : Sz.sz a = a.init.length + a.acc.length + a.edges.length := by
  show Sz.sz a.init + Sz.sz a.acc + Sz.sz a.edges = _
  rw [sz_list, sz_list, sz_list, szL_zero (fun _ => rfl), szL_zero (fun _ => rfl), szL_zero (fun _ => rfl)]; omega

theorem c_FnExactIncludesAutomaton {h : Heap} {v w : Value} {a b : Aut} (Ra : Rep h v a) (Rb : Rep h w b) : CallE Try.prog fn_laws_FnExactIncludesAutomaton [v, w] h (fun u h' => h.le h' ∧ u = .bool true) := by
  refine CallE.gen fun k hk => EN_laws_FnExactIncludesAutomaton rfl ?_
  have Fa := Ra.aAut
  have Fb := Rb.aAut
  simp -implicitDefEqProofs (disch := first | omega | (simp only [List.length_set, List.length_replicate, List.length_append, List.length_map, List.length_take, List.length_cons, List.length_nil]; omega)) [wrap64, Fa, Fb]
  refine (c_szAutomaton Ra (n := 1048576) (by omega)).go ?_
  rintro _ h ⟨rfl, m1, rfl, q1⟩
  simp -implicitDefEqProofs (disch := first | omega | (simp only [List.length_set, List.length_replicate, List.length_append, List.length_map, List.length_take, List.length_cons, List.length_nil]; omega)) [wrap64, Fa, Fb]
  refine IteW.mk (fun hlt => ?_) (fun hge => ?_)
  · simp -implicitDefEqProofs (disch := first | omega | (simp only [List.length_set, List.length_replicate, List.length_append, List.length_map, List.length_take, List.length_cons, List.length_nil]; omega)) [wrap64]
    exact RetK.keep (hk _ _ ⟨Heap.le.refl _, rfl⟩)
  simp -implicitDefEqProofs (disch := first | omega | (simp only [List.length_set, List.length_replicate, List.length_append, List.length_map, List.length_take, List.length_cons, List.length_nil]; omega)) [wrap64, Fa, Fb]
  refine (c_szAutomaton Rb (n := m1) (by omega)).go ?_
  rintro _ h ⟨rfl, m2, rfl, q2⟩
  simp -implicitDefEqProofs (disch := first | omega | (simp only [List.length_set, List.length_replicate, List.length_append, List.length_map, List.length_take, List.length_cons, List.length_nil]; omega)) [wrap64, Fa, Fb]
  refine IteW.mk (fun hlt => ?_) (fun hge => ?_)
  · simp -implicitDefEqProofs (disch := first | omega | (simp only [List.length_set, List.length_replicate, List.length_append, List.length_map, List.length_take, List.length_cons, List.length_nil]; omega)) [wrap64]
    exact RetK.keep (hk _ _ ⟨Heap.le.refl _, rfl⟩)
  have H : HS h [] h := HS.init
  simp -implicitDefEqProofs (disch := first | omega | (simp only [List.length_set, List.length_replicate, List.length_append, List.length_map, List.length_take, List.length_cons, List.length_nil]; omega)) [wrap64, Fa, Fb]
  refine (c_toAutomaton Ra (by omega)).go ?_
  intro s1 h1 H1
  have H := H1.app H
  have F1 := H.rep.aAut
  simp -implicitDefEqProofs (disch := first | omega | (simp only [List.length_set, List.length_replicate, List.length_append, List.length_map, List.length_take, List.length_cons, List.length_nil]; omega)) [wrap64, Fa, Fb, F1]
  refine (c_toAutomaton (Rb.on H) (by omega)).go ?_
  intro s2 h2 H2
  have H := H2.app H
  have F2 := H.rep.aAut
  simp -implicitDefEqProofs (disch := first | omega | (simp only [List.length_set, List.length_replicate, List.length_append, List.length_map, List.length_take, List.length_cons, List.length_nil]; omega)) [wrap64, Fa, Fb, F1, F2]
  refine (c_spec_IncludesAutomaton H.sw1.rep H.rep).go ?_
  rintro _ h3 ⟨l3, r, rfl, hr⟩
  have H : HS h [] h3 := H.base.trans l3
  simp -implicitDefEqProofs (disch := first | omega | (simp only [List.length_set, List.length_replicate, List.length_append, List.length_map, List.length_take, List.length_cons, List.length_nil]; omega)) [wrap64, Fa, Fb, F1, F2]
  refine (c_toAutomaton (Ra.on H) (by omega)).go ?_
  intro x0 h4 H4
  have H := H4.app H
  have F4 := H.rep.aAut
  simp -implicitDefEqProofs (disch := first | omega | (simp only [List.length_set, List.length_replicate, List.length_append, List.length_map, List.length_take, List.length_cons, List.length_nil]; omega)) [wrap64, Fa, Fb, F1, F2, F4]
  refine (c_toAutomaton (Rb.on H) (by omega)).go ?_
  intro x1 h5 H5
  have H := H5.app H
  have F5 := H.rep.aAut
  simp -implicitDefEqProofs (disch := first | omega | (simp only [List.length_set, List.length_replicate, List.length_append, List.length_map, List.length_take, List.length_cons, List.length_nil]; omega)) [wrap64, Fa, Fb, F1, F2, F4, F5]
  refine (c_IncludesAutomaton H.sw1.rep H.rep).go ?_
  rintro _ h6 ⟨l6, r', rfl, hr'⟩
  have H := H.le l6
  have hrr := hr.eq hr'
  subst hrr
  simp -implicitDefEqProofs (disch := first | omega | (simp only [List.length_set, List.length_replicate, List.length_append, List.length_map, List.length_take, List.length_cons, List.length_nil]; omega)) [wrap64, Fa, Fb, F1, F2, F4, F5]
  refine (c_toAutomaton (Ra.on H) (by omega)).go ?_
  intro x2 h7 H7
  have H := H7.app H
  have F7 := H.rep.aAut
  simp -implicitDefEqProofs (disch := first | omega | (simp only [List.length_set, List.length_replicate, List.length_append, List.length_map, List.length_take, List.length_cons, List.length_nil]; omega)) [wrap64, Fa, Fb, F1, F2, F4, F5, F7]
  refine (c_eqAutomaton H.sw2.rep H.rep).go ?_
  rintro _ _ ⟨rfl, rfl⟩
  simp -implicitDefEqProofs (disch := first | omega | (simp only [List.length_set, List.length_replicate, List.length_append, List.length_map, List.length_take, List.length_cons, List.length_nil]; omega)) [wrap64, Fa, Fb, F1, F2, F4, F5, F7]
  refine (c_toAutomaton (Rb.on H) (by omega)).go ?_
  intro x3 h8 H8
  have H := H8.app H
  have F8 := H.rep.aAut
  simp -implicitDefEqProofs (disch := first | omega | (simp only [List.length_set, List.length_replicate, List.length_append, List.length_map, List.length_take, List.length_cons, List.length_nil]; omega)) [wrap64, Fa, Fb, F1, F2, F4, F5, F7, F8]
  refine (c_eqAutomaton H.sw2.rep H.rep).go ?_
  rintro _ _ ⟨rfl, rfl⟩
  simp -implicitDefEqProofs (disch := first | omega | (simp only [List.length_set, List.length_replicate, List.length_append, List.length_map, List.length_take, List.length_cons, List.length_nil]; omega)) [wrap64, Fa, Fb, F1, F2, F4, F5, F7, F8]
  exact RetK.keep (hk _ _ ⟨H.base, rfl⟩)

theorem c_FnExactSimulationRelation {h : Heap} {v : Value} {a : Aut} (Ra : Rep h v a) : CallE Try.prog fn_laws_FnExactSimulationRelation [v] h (fun u h' => h.le h' ∧ u = .bool true) := by
  refine CallE.gen fun k hk => EN_laws_FnExactSimulationRelation rfl ?_
  have Fa := Ra.aAut
  simp -implicitDefEqProofs (disch := first | omega | (simp only [List.length_set, List.length_replicate, List.length_append, List.length_map, List.length_take, List.length_cons, List.length_nil]; omega)) [wrap64, Fa]
  refine (c_szAutomaton Ra (n := 1048576) (by omega)).go ?_
  rintro _ h ⟨rfl, m1, rfl, q1⟩
  simp -implicitDefEqProofs (disch := first | omega | (simp only [List.length_set, List.length_replicate, List.length_append, List.length_map, List.length_take, List.length_cons, List.length_nil]; omega)) [wrap64, Fa]
  refine IteW.mk (fun hlt => ?_) (fun hge => ?_)
  · simp -implicitDefEqProofs (disch := first | omega | (simp only [List.length_set, List.length_replicate, List.length_append, List.length_map, List.length_take, List.length_cons, List.length_nil]; omega)) [wrap64]
    exact RetK.keep (hk _ _ ⟨Heap.le.refl _, rfl⟩)
  have H : HS h [] h := HS.init
  simp -implicitDefEqProofs (disch := first | omega | (simp only [List.length_set, List.length_replicate, List.length_append, List.length_map, List.length_take, List.length_cons, List.length_nil]; omega)) [wrap64, Fa]
  refine (c_toAutomaton Ra (by omega)).go ?_
  intro s1 h1 H1
  have H := H1.app H
  have F1 := H.rep.aAut
  simp -implicitDefEqProofs (disch := first | omega | (simp only [List.length_set, List.length_replicate, List.length_append, List.length_map, List.length_take, List.length_cons, List.length_nil]; omega)) [wrap64, Fa, F1]
  refine (c_spec_SimulationRelation H.rep).go ?_
  rintro _ h3 ⟨w0, M0, rfl, H3, hM0⟩
  have H := H3.app H
  simp -implicitDefEqProofs (disch := first | omega | (simp only [List.length_set, List.length_replicate, List.length_append, List.length_map, List.length_take, List.length_cons, List.length_nil]; omega)) [wrap64, Fa, F1]
  refine (c_toAutomaton (Ra.on H) (by omega)).go ?_
  intro x0 h4 H4
  have H := H4.app H
  have F4 := H.rep.aAut
  simp -implicitDefEqProofs (disch := first | omega | (simp only [List.length_set, List.length_replicate, List.length_append, List.length_map, List.length_take, List.length_cons, List.length_nil]; omega)) [wrap64, Fa, F1, F4]
  refine (c_SimulationRelation H.rep).go ?_
  rintro _ h6 ⟨w1, M1, rfl, H6, hM1⟩
  have H := H6.app H
  have hfun : ∀ M M' : List (List Bool), ((¬ a.Ok ∧ M = []) ∨ (a.Ok ∧ M.length = a.acc.length ∧ (∀ r ∈ M, r.length = a.acc.length) ∧ Great a (matR M))) →
      ((¬ a.Ok ∧ M' = []) ∨ (a.Ok ∧ M'.length = a.acc.length ∧ (∀ r ∈ M', r.length = a.acc.length) ∧ Great a (matR M'))) → M = M' := by
    rintro M M' (⟨h1, rfl⟩ | ⟨h1, h2, h3, h4⟩) (⟨h5, rfl⟩ | ⟨h5, h6, h7, h8⟩)
    · rfl
    · exact absurd h5 h1
    · exact absurd h1 h5
    · refine List.ext_getElem (by omega) fun i hi hi' => ?_
      have g1 := h3 _ (List.getElem_mem hi)
      have g2 := h7 _ (List.getElem_mem hi')
      refine List.ext_getElem (by omega) fun j hj hj' => ?_
      rw [← matR_get hi hj, ← matR_get hi' hj']
      exact h4.eq h8 (by omega) (by omega)
  have hM := hfun _ _ hM1 hM0
  subst hM
  -- how much the relation holds
  have hcnt : cntL M1 < 4611686018427387000 := by
    rcases hM1 with ⟨_, rfl⟩ | ⟨h1, h2, h3, _⟩
    · simp [cntL]
    · have : ∀ M : List (List Bool), (∀ r ∈ M, r.length = a.acc.length) → cntL M = M.length * a.acc.length := by
        intro M
        induction M with
        | nil => intro _; simp [cntL]
        | cons r M ih =>
          intro h
          have e1 := h r (by simp)
          have e2 := ih fun r hr => h r (by simp [hr])
          have e3 : ∀ r : List Bool, Mk.cnt r = r.length := by
            intro r
            induction r with
            | nil => rfl
            | cons b r ih => show 1 + cntL r = _; have : cntL r = Mk.cnt r := rfl; rw [this, ih]; simp; omega
          show Mk.cnt r + cntL M = _
          rw [e2, e3, e1]; simp [Nat.add_mul]; omega
      rw [this M1 h3, h2]
      have := h1.n
      have : a.acc.length * a.acc.length ≤ 64 * 64 := Nat.mul_le_mul this.2 this.2
      omega
  simp -implicitDefEqProofs (disch := first | omega | (simp only [List.length_set, List.length_replicate, List.length_append, List.length_map, List.length_take, List.length_cons, List.length_nil]; omega)) [wrap64, Fa, F1, F4]
  refine (c_eqBoolSS H.rep H.sw2.rep).go ?_
  rintro _ _ ⟨rfl, rfl⟩
  simp -implicitDefEqProofs (disch := first | omega | (simp only [List.length_set, List.length_replicate, List.length_append, List.length_map, List.length_take, List.length_cons, List.length_nil]; omega)) [wrap64, Fa, F1, F4]
  refine (c_toAutomaton (Ra.on H) (by omega)).go ?_
  intro x2 h7 H7
  have H := H7.app H
  have F7 := H.rep.aAut
  simp -implicitDefEqProofs (disch := first | omega | (simp only [List.length_set, List.length_replicate, List.length_append, List.length_map, List.length_take, List.length_cons, List.length_nil]; omega)) [wrap64, Fa, F1, F4, F7]
  refine (c_eqAutomaton H.sw2.rep H.rep).go ?_
  rintro _ _ ⟨rfl, rfl⟩
  have H := H.drop
  have hca : ∀ b : Aut, Sz.sz b ≤ 1048576 → Mk.cnt b ≤ 4194304 := by
    intro b hb
    rw [sz_aut] at hb
    have e1 : ∀ l : List Int, Mk.cnt l = l.length := by
      intro l
      induction l with
      | nil => rfl
      | cons b r ih => show 1 + cntL r = _; have : cntL r = Mk.cnt r := rfl; rw [this, ih]; simp; omega
    have e2 : ∀ l : List Bool, Mk.cnt l = l.length := by
      intro l
      induction l with
      | nil => rfl
      | cons b r ih => show 1 + cntL r = _; have : cntL r = Mk.cnt r := rfl; rw [this, ih]; simp; omega
    have e3 : ∀ l : List Tr, Mk.cnt l = 4 * l.length := by
      intro l
      induction l with
      | nil => rfl
      | cons b r ih => show 4 + cntL r = _; have : cntL r = Mk.cnt r := rfl; rw [this, ih]; simp; omega
    show Mk.cnt b.init + Mk.cnt b.acc + Mk.cnt b.edges ≤ _
    rw [e1, e2, e3]; omega
  have hcb := hca a (by omega)
  simp -implicitDefEqProofs (disch := first | omega | (simp only [List.length_set, List.length_replicate, List.length_append, List.length_map, List.length_take, List.length_cons, List.length_nil]; omega)) [wrap64, Fa, F1, F4, F7]
  refine (c_markAutomaton (k0 := 1) H.sw1 (by omega) (by omega)).go ?_
  rintro _ h8 ⟨H, rfl⟩
  have hneg : ¬ (1 + (Mk.cnt a : Int) < 0) := by omega
  simp -implicitDefEqProofs (disch := first | omega | (simp only [List.length_set, List.length_replicate, List.length_append, List.length_map, List.length_take, List.length_cons, List.length_nil]; omega)) [wrap64, Fa, F1, F4, F7, hneg]
  refine (c_eqBoolSS H.sw1.rep H.sw2.rep).go ?_
  rintro _ _ ⟨rfl, rfl⟩
  simp -implicitDefEqProofs (disch := first | omega | (simp only [List.length_set, List.length_replicate, List.length_append, List.length_map, List.length_take, List.length_cons, List.length_nil]; omega)) [wrap64, Fa, F1, F4, F7]
  have hcM : Mk.cnt M1 = cntL M1 := rfl
  refine (c_markBoolSS (k0 := 1) H.sw1 (by omega) (by omega)).go ?_
  rintro _ h9 ⟨H, rfl⟩
  have hcM2 : Mk.cnt (Mk.wr (1 : Int) M1) = Mk.cnt M1 := Mk.cnt_wr 1 M1
  simp -implicitDefEqProofs (disch := first | omega | (simp only [List.length_set, List.length_replicate, List.length_append, List.length_map, List.length_take, List.length_cons, List.length_nil]; omega)) [wrap64, Fa, F1, F4, F7]
  refine (c_heldBoolSS (k0 := 1) H.rep (by omega) (by omega)).go ?_
  rintro _ _ ⟨rfl, rfl⟩
  rw [if_pos (Mk.wr_wr 1 1 M1), hcM2]
  have hneg2 : ¬ (1 + (Mk.cnt M1 : Int) < 0) := by omega
  simp -implicitDefEqProofs (disch := first | omega | (simp only [List.length_set, List.length_replicate, List.length_append, List.length_map, List.length_take, List.length_cons, List.length_nil]; omega)) [wrap64, Fa, F1, F4, F7]
  rw [IteW_neg hneg2]
  simp -implicitDefEqProofs (disch := first | omega | (simp only [List.length_set, List.length_replicate, List.length_append, List.length_map, List.length_take, List.length_cons, List.length_nil]; omega)) [wrap64, Fa, F1, F4, F7]
  refine (c_toAutomaton (Ra.on H) (by omega)).go ?_
  intro x3 h10 H10
  have H := H10.app H
  have F10 := H.rep.aAut
  simp -implicitDefEqProofs (disch := first | omega | (simp only [List.length_set, List.length_replicate, List.length_append, List.length_map, List.length_take, List.length_cons, List.length_nil]; omega)) [wrap64, Fa, F1, F4, F7, F10]
  refine (c_SimulationRelation H.rep).go ?_
  rintro _ h11 ⟨w2, M2, rfl, H11, hM2⟩
  have H := H11.app H
  have hM := hfun _ _ hM2 hM1
  subst hM
  simp -implicitDefEqProofs (disch := first | omega | (simp only [List.length_set, List.length_replicate, List.length_append, List.length_map, List.length_take, List.length_cons, List.length_nil]; omega)) [wrap64, Fa, F1, F4, F7, F10]
  refine (c_eqBoolSS H.rep H.sw4.rep).go ?_
  rintro _ _ ⟨rfl, rfl⟩
  simp -implicitDefEqProofs (disch := first | omega | (simp only [List.length_set, List.length_replicate, List.length_append, List.length_map, List.length_take, List.length_cons, List.length_nil]; omega)) [wrap64, Fa, F1, F4, F7, F10]
  refine (c_heldBoolSS (k0 := 1) H.sw2.rep (by omega) (by omega)).go ?_
  rintro _ _ ⟨rfl, rfl⟩
  rw [if_pos (Mk.wr_wr 1 1 M2), hcM2]
  simp -implicitDefEqProofs (disch := first | omega | (simp only [List.length_set, List.length_replicate, List.length_append, List.length_map, List.length_take, List.length_cons, List.length_nil]; omega)) [wrap64, Fa, F1, F4, F7, F10]
  rw [IteW_neg hneg2]
  simp -implicitDefEqProofs (disch := first | omega | (simp only [List.length_set, List.length_replicate, List.length_append, List.length_map, List.length_take, List.length_cons, List.length_nil]; omega)) [wrap64, Fa, F1, F4, F7, F10]
  exact RetK.keep (hk _ _ ⟨H.base, rfl⟩)
end Go.Proofs.Ytfhjclhchbagnaa
