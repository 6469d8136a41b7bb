/-
  Texts of this proof, one behind the other.
-/
import Derived.Test.YtglnelcmcimljaaYF7
/-
  The law: trimming preserves the language.
-/
namespace Go.Proofs.Ytglnelcmcimljaa
open Go
set_option linter.all false
set_option linter.unusedVariables false
set_option linter.unusedSimpArgs false
set_option linter.defProp false
set_option maxRecDepth 1000000

set_option maxHeartbeats 2000000 in
theorem c_FnTrimAutomaton {h : Heap} {v w : Value} {l m : List (BitVec 8)} (R : Rep h v l) (RM0 : Rep h w m) : CallE Try.prog fn_laws_FnTrimAutomaton [v, w] h (fun u h' => h.le h' ∧ u = .bool true) := by
  refine CallE.gen fun k hk => EN_laws_FnTrimAutomaton rfl ?_
  by_cases a1 : (1048576 : Int) < l.length
  · simp -implicitDefEqProofs (disch := first | omega | (simp only [LnZ]; omega)) [wrap64, R.len, a1]
    exact RetK.keep (hk _ _ ⟨Heap.le.refl _, rfl⟩)
  by_cases a2 : (1048576 : Int) < m.length
  · simp -implicitDefEqProofs (disch := first | omega | (simp only [LnZ]; omega)) [wrap64, R.len, RM0.len, a1, a2]
    exact RetK.keep (hk _ _ ⟨Heap.le.refl _, rfl⟩)
  simp -implicitDefEqProofs (disch := first | omega | (simp only [LnZ]; omega)) [wrap64, R.len, RM0.len, a1, a2]
  refine (c_DrawTrimAutomaton R).go ?_
  rintro va h1 ⟨a, H, hz⟩
  have FA := H.rep.aAut
  simp -implicitDefEqProofs (disch := first | omega | (simp only [LnZ]; omega)) [wrap64, FA, setC]
  refine (c_DrawAccepts (RM0.on H)).go ?_
  rintro _ h2 ⟨u1, u2, a', x, rfl, l2, Ra', Rx, _⟩
  have H := H.le l2
  have FX := Rx.aLas
  have FA' := Ra'.aAut
  simp -implicitDefEqProofs (disch := first | omega | (simp only [LnZ]; omega)) [wrap64, FA, FX, FA', setC]
  refine (c_TrimAutomaton H.rep).go ?_
  rintro _ h3 ⟨w1, rfl, H2⟩
  have H := H2.app H
  have FW := H.rep.aAut
  simp -implicitDefEqProofs (disch := first | omega | (simp only [LnZ]; omega)) [wrap64, FA, FW, setC]
  refine (c_spec_TrimAutomaton H.sw1.rep).go ?_
  rintro _ h4 ⟨w2, rfl, H3⟩
  have Rx := (Rx.on H2).on H3
  have H := H3.app H
  have FV := H.rep.aAut
  have RV := H.rep
  have RW := H.sw1.rep
  have Ra := H.sw2.rep
  have lb := H.base
  clear H H2 H3
  by_cases ha : a.Ok
  case neg =>
    simp -implicitDefEqProofs (disch := first | omega | (simp only [LnZ]; omega)) [wrap64, ha, FA, FW, FV, setC]
    refine (c_AutomatonSame RW RV).go ?_
    rintro _ _ ⟨rfl, rfl⟩
    simp -implicitDefEqProofs (disch := first | omega | (simp only [LnZ]; omega)) [wrap64, FW, FV]
    refine (c_AutomatonSame RW RV).go ?_
    rintro _ _ ⟨rfl, rfl⟩
    simp -implicitDefEqProofs (disch := first | omega | (simp only [LnZ]; omega)) [wrap64]
    exact RetK.keep (hk _ _ ⟨lb, rfl⟩)
  rw [if_pos ha] at RV RW
  have hb := Aut.trim_ok ha
  simp -implicitDefEqProofs (disch := first | omega | (simp only [LnZ]; omega)) [wrap64, ha, FA, FW, FV, setC]
  refine (c_AutomatonSame RW RV).go ?_
  rintro _ _ ⟨rfl, rfl⟩
  simp -implicitDefEqProofs (disch := first | omega | (simp only [LnZ]; omega)) [wrap64, FA, FX]
  refine (c_AcceptsV Ra Rx ha).go ?_
  rintro _ h5 ⟨l5, rfl⟩
  simp -implicitDefEqProofs (disch := first | omega | (simp only [LnZ]; omega)) [wrap64, FW, FX]
  refine (c_AcceptsV (RW.le l5) (Rx.le l5) hb).go ?_
  rintro _ h6 ⟨l6, rfl⟩
  have d3 : a.trim.accB x = a.accB x := accB_eq hb ha fun _ => trim_lang ha
  rw [d3]
  simp -implicitDefEqProofs (disch := first | omega | (simp only [LnZ]; omega)) [wrap64, FW]
  refine (c_LiveStates (RW.le (l5.trans l6)) hb).go ?_
  rintro vl h7 ⟨L, H, hLl, hL⟩
  have RL := H.rep
  have l7 := H.base
  have hLt := RL.lt
  clear H
  have RW7 := RW.le ((l5.trans l6).trans l7)
  have lb7 := lb.trans ((l5.trans l6).trans l7)
  have fin : ∀ {h8 : Heap}, h7.le h8 → CallE Try.prog fn_impl_TrimAutomaton [w1] h8 (fun u h9 => ∃ w3, u = .tuple #[w3, .bool true] ∧ h8.le h9 ∧ Rep h9 w3 a.trim) := fun l8 => by
    refine (c_TrimAutomaton (RW7.le l8)).mono ?_
    rintro _ h9 ⟨w3, rfl, H3⟩
    rw [if_pos hb, trim_trim ha] at H3
    exact ⟨w3, by rw [decide_eq_true hb], H3.base, H3.rep⟩
  obtain ⟨t1, t2, t3, htw, T1, T2, T3⟩ := Rep_Aut.1 RW7
  have dead : ∀ i (hi : i < L.length), L[i] = false → L.length = 1 ∧ a.trim.edges = [] ∧ a.trim.init = [] := by
    intro i hi hf
    by_cases h0 : kidx a.tkeep a.acc.length = 0
    · have e := trim_none h0
      rw [hLl, e]
      exact ⟨rfl, rfl, rfl⟩
    · exfalso
      have := (hL i).2 ⟨by omega, (trim_all ha h0 (by omega)).2⟩
      rw [tru_get hi, hf] at this
      exact absurd this (by decide)
  subst htw
  have o1 := T1.one
  have o2 := T2.one
  have o3 := T3.one
  simp -implicitDefEqProofs (disch := first | omega | (simp only [LnZ]; omega)) [wrap64, setC, o1, o2, o3]
  refine wp_count L.length (fun i e h' => e = [none, none, none, none, none, none, some (.agg #[t1, t2, t3]), none, none, none, some (.bool (a.accB x)), some (.bool (decide x.Ok)), some (.bool (a.accB x)), some (.bool (decide x.Ok)), some vl, some (.int .i64 i), none, none] ∧ h' = h7) ⟨by simp, rfl⟩ ?_
  rintro J i _ h8 hJ hi ⟨rfl, rfl⟩
  simp -implicitDefEqProofs (disch := first | omega | (simp only [LnZ]; omega)) [wrap64, RL.len]
  refine IteW.mk (fun hlt => ?_) (fun hge => ?_)
  · have hin : i < L.length := by omega
    cases b1 : L[i] with
    | true =>
      simp -implicitDefEqProofs (disch := first | omega | (simp only [LnZ]; omega)) [wrap64, RL.B, b1]
      exact hJ _ _ hin ⟨by simp, rfl⟩
    | false =>
      obtain ⟨e1, e2, e3⟩ := dead i hin b1
      simp -implicitDefEqProofs (disch := first | omega | (simp only [LnZ]; omega)) [wrap64, RL.B, b1, RL.len, e1, T3.len, T1.len, e2, e3]
      exact hJ _ _ hin ⟨by simp, rfl⟩
  · simp -implicitDefEqProofs (disch := first | omega | (simp only [LnZ]; omega)) [wrap64, setC, o1, o2, o3]
    refine (fin (Heap.le.refl _)).go ?_
    rintro _ h9 ⟨w3, rfl, l9, R9⟩
    have F9 := R9.aAut
    simp -implicitDefEqProofs (disch := first | omega | (simp only [LnZ]; omega)) [wrap64, F9, setC, o1, o2, o3]
    refine (c_AutomatonSame R9 (RW7.le l9)).go ?_
    rintro _ _ ⟨rfl, rfl⟩
    simp -implicitDefEqProofs (disch := first | omega | (simp only [LnZ]; omega)) [wrap64]
    exact RetK.keep (hk _ _ ⟨lb7.trans l9, rfl⟩)
end Go.Proofs.Ytglnelcmcimljaa
