/-
  Texts of this proof, one behind the other.
-/
import Derived.Test.YtglnelcmcimljaaGreatYF7
set_option linter.all false
set_option linter.unusedVariables false
set_option linter.unusedSimpArgs false
set_option linter.defProp false
set_option maxRecDepth 1000000
namespace Go.Proofs.YtglnelcmcimljaaGreat
open Go
theorem c_Equal_int {h : Heap} {a b : Value} {x y : List Int} (Ra : Rep h a x) (Rb : Rep h b y) : CallE Tryz.prog fn_slices_Equal_S_int_int [a, b] h (fun u h' => h' = h ∧ u = .bool (decide (x = y))) := by
  have hL := Ra.lt
  refine CallE.gen fun k hk => EN_slices_Equal_S_int_int rfl ?_
  by_cases hl : (x.length : Int) = y.length
  case neg =>
    simp -implicitDefEqProofs (disch:=first|omega|(simp only[LnZ];omega))[wrap64, Ra.len, Rb.len, hl]
    exact RetK.keep (hk _ _ ⟨rfl, by congr 1; rw [eq_comm, decide_eq_false_iff_not]; intro e; subst e; exact hl rfl⟩)
  simp -implicitDefEqProofs (disch:=first|omega|(simp only[LnZ];omega))[wrap64, Ra.len, Rb.len, hl]
  refine wp_count x.length (fun i e h' => e = [some a, some b, none, none, some (.int .i64 x.length), some (.int .i64 i)] ∧ h' = h ∧ x.take i = y.take i) ⟨by simp [hl], rfl, rfl⟩ ?_
  rintro J i _ h1 hJ hi ⟨rfl, rfl, hq⟩
  simp -implicitDefEqProofs (disch:=first|omega|(simp only[LnZ];omega))[wrap64]
  refine IteW.mk (fun hlt => ?_) (fun hge => ?_)
  · have hlx : i < x.length := by omega
    have hly : i < y.length := by omega
    by_cases he : x[i] = y[i]
    · simp -implicitDefEqProofs (disch:=first|omega|(simp only[LnZ];omega))[wrap64, Ra.I, Rb.I, he]
      exact hJ _ _ hlx ⟨rfl, rfl, take_step hq hlx hly he⟩
    · simp -implicitDefEqProofs (disch:=first|omega|(simp only[LnZ];omega))[wrap64, Ra.I, Rb.I, he]
      exact RetK.keep (hk _ _ ⟨rfl, by congr 1; rw [eq_comm, decide_eq_false_iff_not]; intro e; subst e; exact he rfl⟩)
  · simp -implicitDefEqProofs (disch:=first|omega|(simp only[LnZ];omega))[wrap64]
    rw [List.take_of_length_le (by omega), List.take_of_length_le (by omega)] at hq
    exact RetK.keep (hk _ _ ⟨rfl, by simp [hq]⟩)
theorem c_Equal_bool {h : Heap} {a b : Value} {x y : List Bool} (Ra : Rep h a x) (Rb : Rep h b y) : CallE Tryz.prog fn_slices_Equal_S_bool_bool [a, b] h (fun u h' => h' = h ∧ u = .bool (decide (x = y))) := by
  have hL := Ra.lt
  refine CallE.gen fun k hk => EN_slices_Equal_S_bool_bool rfl ?_
  by_cases hl : (x.length : Int) = y.length
  case neg =>
    simp -implicitDefEqProofs (disch:=first|omega|(simp only[LnZ];omega))[wrap64, Ra.len, Rb.len, hl]
    exact RetK.keep (hk _ _ ⟨rfl, by congr 1; rw [eq_comm, decide_eq_false_iff_not]; intro e; subst e; exact hl rfl⟩)
  simp -implicitDefEqProofs (disch:=first|omega|(simp only[LnZ];omega))[wrap64, Ra.len, Rb.len, hl]
  refine wp_count x.length (fun i e h' => e = [some a, some b, none, none, some (.int .i64 x.length), some (.int .i64 i)] ∧ h' = h ∧ x.take i = y.take i) ⟨by simp [hl], rfl, rfl⟩ ?_
  rintro J i _ h1 hJ hi ⟨rfl, rfl, hq⟩
  simp -implicitDefEqProofs (disch:=first|omega|(simp only[LnZ];omega))[wrap64]
  refine IteW.mk (fun hlt => ?_) (fun hge => ?_)
  · have hlx : i < x.length := by omega
    have hly : i < y.length := by omega
    by_cases he : x[i] = y[i]
    · simp -implicitDefEqProofs (disch:=first|omega|(simp only[LnZ];omega))[wrap64, Ra.B, Rb.B, he]
      exact hJ _ _ hlx ⟨rfl, rfl, take_step hq hlx hly he⟩
    · simp -implicitDefEqProofs (disch:=first|omega|(simp only[LnZ];omega))[wrap64, Ra.B, Rb.B, he]
      exact RetK.keep (hk _ _ ⟨rfl, by congr 1; rw [eq_comm, decide_eq_false_iff_not]; intro e; subst e; exact he rfl⟩)
  · simp -implicitDefEqProofs (disch:=first|omega|(simp only[LnZ];omega))[wrap64]
    rw [List.take_of_length_le (by omega), List.take_of_length_le (by omega)] at hq
    exact RetK.keep (hk _ _ ⟨rfl, by simp [hq]⟩)
theorem c_Equal_Tr {h : Heap} {a b : Value} {x y : List Tr} (Ra : Rep h a x) (Rb : Rep h b y) : CallE Tryz.prog fn_slices_Equal_S_impl_Transition_impl_Transition [a, b] h (fun u h' => h' = h ∧ u = .bool (decide (x = y))) := by
  have hL := Ra.lt
  refine CallE.gen fun k hk => EN_slices_Equal_S_impl_Transition_impl_Transition rfl ?_
  by_cases hl : (x.length : Int) = y.length
  case neg =>
    simp -implicitDefEqProofs (disch:=first|omega|(simp only[LnZ];omega))[wrap64, Ra.len, Rb.len, hl]
    exact RetK.keep (hk _ _ ⟨rfl, by congr 1; rw [eq_comm, decide_eq_false_iff_not]; intro e; subst e; exact hl rfl⟩)
  simp -implicitDefEqProofs (disch:=first|omega|(simp only[LnZ];omega))[wrap64, Ra.len, Rb.len, hl]
  refine wp_count x.length (fun i e h' => e = [some a, some b, none, none, some (.int .i64 x.length), some (.int .i64 i)] ∧ h' = h ∧ x.take i = y.take i) ⟨by simp [hl], rfl, rfl⟩ ?_
  rintro J i _ h1 hJ hi ⟨rfl, rfl, hq⟩
  simp -implicitDefEqProofs (disch:=first|omega|(simp only[LnZ];omega))[wrap64]
  refine IteW.mk (fun hlt => ?_) (fun hge => ?_)
  · have hlx : i < x.length := by omega
    have hly : i < y.length := by omega
    by_cases he : x[i] = y[i]
    · simp -implicitDefEqProofs (disch:=first|omega|(simp only[LnZ];omega))[wrap64, Ra.xTr, Rb.xTr, Tr.v, he]
      exact hJ _ _ hlx ⟨rfl, rfl, take_step hq hlx hly he⟩
    · have he2 := he
      rw [Tr.ext_iff'] at he2
      simp -implicitDefEqProofs (disch:=first|omega|(simp only[LnZ];omega))[wrap64, Ra.xTr, Rb.xTr, Tr.v]
      refine IteW.mk (fun _ => ?_) (fun hh => absurd ?_ he2)
      · simp -implicitDefEqProofs (disch:=first|omega|(simp only[LnZ];omega))[wrap64]
        exact RetK.keep (hk _ _ ⟨rfl, by congr 1; rw [eq_comm, decide_eq_false_iff_not]; intro e; subst e; exact he rfl⟩)
      · simpa [Classical.not_imp] using hh
  · simp -implicitDefEqProofs (disch:=first|omega|(simp only[LnZ];omega))[wrap64]
    rw [List.take_of_length_le (by omega), List.take_of_length_le (by omega)] at hq
    exact RetK.keep (hk _ _ ⟨rfl, by simp [hq]⟩)
theorem c_AutomatonSame {h : Heap} {v w : Value} {a b : Aut} (Ra : Rep h v a) (Rb : Rep h w b) : CallE Tryz.prog fn_impl_AutomatonSame [v, w] h (fun u h' => h' = h ∧ u = .bool (decide (a = b))) := by
  obtain ⟨v1, v2, v3, rfl, R1, R2, R3⟩ := Rep_Aut.1 Ra
  obtain ⟨w1, w2, w3, rfl, S1, S2, S3⟩ := Rep_Aut.1 Rb
  refine CallE.gen fun k hk => EN_impl_AutomatonSame rfl ?_
  have hno : ¬ a = b → k (.bool false) h := fun hn => hk _ _ ⟨rfl, by simp [hn]⟩
  simp -implicitDefEqProofs (disch:=first|omega|(simp only[LnZ];omega))[wrap64]
  refine (c_Equal_int R1 S1).go ?_
  rintro _ _ ⟨rfl, rfl⟩
  by_cases h1 : a.init = b.init
  case neg =>
    simp -implicitDefEqProofs (disch:=first|omega|(simp only[LnZ];omega))[wrap64, h1]
    exact RetK.keep (hno fun e => h1 (e ▸ rfl))
  simp -implicitDefEqProofs (disch:=first|omega|(simp only[LnZ];omega))[wrap64, h1]
  refine (c_Equal_bool R2 S2).go ?_
  rintro _ _ ⟨rfl, rfl⟩
  by_cases h2 : a.acc = b.acc
  case neg =>
    simp -implicitDefEqProofs (disch:=first|omega|(simp only[LnZ];omega))[wrap64, h2]
    exact RetK.keep (hno fun e => h2 (e ▸ rfl))
  simp -implicitDefEqProofs (disch:=first|omega|(simp only[LnZ];omega))[wrap64, h2]
  refine (c_Equal_Tr R3 S3).go ?_
  rintro _ _ ⟨rfl, rfl⟩
  by_cases h3 : a.edges = b.edges
  case neg =>
    simp -implicitDefEqProofs (disch:=first|omega|(simp only[LnZ];omega))[wrap64, h3]
    exact RetK.keep (hno fun e => h3 (e ▸ rfl))
  simp -implicitDefEqProofs (disch:=first|omega|(simp only[LnZ];omega))[wrap64, h3]
  exact RetK.keep (hk _ _ ⟨rfl, by simp [Aut.ext3 h1 h2 h3]⟩)
theorem c_l2Ints {h : Heap} {a b : Value} {x y : List Int} (Ra : Rep h a x) (Rb : Rep h b y) : CallE Tryz.prog fn_spec_l2Ints [a, b] h (fun u h' => h' = h ∧ u = .bool (decide (x = y))) := by
  have hL := Ra.lt
  refine CallE.gen fun k hk => EN_spec_l2Ints rfl ?_
  by_cases hl : (x.length : Int) = y.length
  case neg =>
    simp -implicitDefEqProofs (disch:=first|omega|(simp only[LnZ];omega))[wrap64, Ra.len, Rb.len, hl]
    exact RetK.keep (hk _ _ ⟨rfl, by congr 1; rw [eq_comm, decide_eq_false_iff_not]; intro e; subst e; exact hl rfl⟩)
  simp -implicitDefEqProofs (disch:=first|omega|(simp only[LnZ];omega))[wrap64, Ra.len, Rb.len, hl]
  refine wp_count x.length (fun i e h' => e = [some a, some b, none, some (.int .i64 i)] ∧ h' = h ∧ x.take i = y.take i) ⟨by simp, rfl, rfl⟩ ?_
  rintro J i _ h1 hJ hi ⟨rfl, rfl, hq⟩
  simp -implicitDefEqProofs (disch:=first|omega|(simp only[LnZ];omega))[wrap64, Ra.len]
  refine IteW.mk (fun hlt => ?_) (fun hge => ?_)
  · have hlx : i < x.length := by omega
    have hly : i < y.length := by omega
    by_cases he : x[i] = y[i]
    · simp -implicitDefEqProofs (disch:=first|omega|(simp only[LnZ];omega))[wrap64, Ra.I, Rb.I, he]
      exact hJ _ _ hlx ⟨rfl, rfl, take_step hq hlx hly he⟩
    · simp -implicitDefEqProofs (disch:=first|omega|(simp only[LnZ];omega))[wrap64, Ra.I, Rb.I, he]
      exact RetK.keep (hk _ _ ⟨rfl, by congr 1; rw [eq_comm, decide_eq_false_iff_not]; intro e; subst e; exact he rfl⟩)
  · simp -implicitDefEqProofs (disch:=first|omega|(simp only[LnZ];omega))[wrap64]
    rw [List.take_of_length_le (by omega), List.take_of_length_le (by omega)] at hq
    exact RetK.keep (hk _ _ ⟨rfl, by simp [hq]⟩)
theorem c_spec_AutomatonSame {h : Heap} {v w : Value} {a b : Aut} (Ra : Rep h v a) (Rb : Rep h w b) : CallE Tryz.prog fn_spec_AutomatonSame [v, w] h (fun u h' => h' = h ∧ u = .bool (decide (a = b))) := by
  obtain ⟨v1, v2, v3, rfl, R1, R2, R3⟩ := Rep_Aut.1 Ra
  obtain ⟨w1, w2, w3, rfl, S1, S2, S3⟩ := Rep_Aut.1 Rb
  have hL2 := R2.lt
  have hL3 := R3.lt
  refine CallE.gen fun k hk => EN_spec_AutomatonSame rfl ?_
  have hno : ¬ a = b → k (.bool false) h := fun hn => hk _ _ ⟨rfl, by simp [hn]⟩
  simp -implicitDefEqProofs (disch:=first|omega|(simp only[LnZ];omega))[wrap64]
  refine (c_l2Ints R1 S1).go ?_
  rintro _ h ⟨rfl, rfl⟩
  by_cases h1 : a.init = b.init
  case neg =>
    simp -implicitDefEqProofs (disch:=first|omega|(simp only[LnZ];omega))[wrap64, h1]
    exact RetK.keep (hno fun e => h1 (e ▸ rfl))
  by_cases h2 : (a.acc.length : Int) = b.acc.length
  case neg =>
    simp -implicitDefEqProofs (disch:=first|omega|(simp only[LnZ];omega))[wrap64, h1, h2, R2.len, S2.len]
    exact RetK.keep (hno fun e => h2 (e ▸ rfl))
  by_cases h3 : (a.edges.length : Int) = b.edges.length
  case neg =>
    simp -implicitDefEqProofs (disch:=first|omega|(simp only[LnZ];omega))[wrap64, h1, h2, R2.len, S2.len, h3, R3.len, S3.len]
    exact RetK.keep (hno fun e => h3 (e ▸ rfl))
  simp -implicitDefEqProofs (disch:=first|omega|(simp only[LnZ];omega))[wrap64, h1, h2, R2.len, S2.len, h3, R3.len, S3.len]
  refine wp_count a.acc.length (fun i e h' => e = [none, none, some (.agg #[v1, v2, v3]), some (.agg #[w1, w2, w3]), none, some (.int .i64 i), none] ∧ h' = h ∧ a.acc.take i = b.acc.take i) ⟨by simp, rfl, rfl⟩ ?_
  rintro J i _ h hJ hi ⟨rfl, rfl, hq⟩
  simp -implicitDefEqProofs (disch:=first|omega|(simp only[LnZ];omega))[wrap64, R2.len]
  refine IteW.mk (fun hlt => ?_) (fun hge => ?_)
  · have hlx : i < a.acc.length := by omega
    have hly : i < b.acc.length := by omega
    by_cases he : a.acc[i] = b.acc[i]
    · simp -implicitDefEqProofs (disch:=first|omega|(simp only[LnZ];omega))[wrap64, R2.B, S2.B, he]
      exact hJ _ _ hlx ⟨rfl, rfl, take_step hq hlx hly he⟩
    · simp -implicitDefEqProofs (disch:=first|omega|(simp only[LnZ];omega))[wrap64, R2.B, S2.B, he]
      exact RetK.keep (hno fun e => by subst e; exact he rfl)
  rw [List.take_of_length_le (by omega), List.take_of_length_le (by omega)] at hq
  simp -implicitDefEqProofs (disch:=first|omega|(simp only[LnZ];omega))[wrap64]
  refine wp_count a.edges.length (fun i e h' => e = [none, none, some (.agg #[v1, v2, v3]), some (.agg #[w1, w2, w3]), none, none, some (.int .i64 i)] ∧ h' = _ ∧ a.edges.take i = b.edges.take i) ⟨by simp, rfl, rfl⟩ ?_
  rintro J i _ h hJ hi ⟨rfl, rfl, hq3⟩
  simp -implicitDefEqProofs (disch:=first|omega|(simp only[LnZ];omega))[wrap64, R3.len]
  refine IteW.mk (fun hlt2 => ?_) (fun hge2 => ?_)
  · have hlx : i < a.edges.length := by omega
    have hly : i < b.edges.length := by omega
    by_cases he : a.edges[i] = b.edges[i]
    · simp -implicitDefEqProofs (disch:=first|omega|(simp only[LnZ];omega))[wrap64, R3.xTr, S3.xTr, Tr.v, he]
      exact hJ _ _ hlx ⟨rfl, rfl, take_step hq3 hlx hly he⟩
    · have he2 := he
      rw [Tr.ext_iff'] at he2
      simp -implicitDefEqProofs (disch:=first|omega|(simp only[LnZ];omega))[wrap64, R3.xTr, S3.xTr, Tr.v]
      refine IteW.mk (fun _ => ?_) (fun hh => absurd ?_ he2)
      · simp -implicitDefEqProofs (disch:=first|omega|(simp only[LnZ];omega))[wrap64]
        exact RetK.keep (hno fun e => by subst e; exact he rfl)
      · simpa [Classical.not_imp] using hh
  rw [List.take_of_length_le (by omega), List.take_of_length_le (by omega)] at hq3
  simp -implicitDefEqProofs (disch:=first|omega|(simp only[LnZ];omega))[wrap64]
  exact RetK.keep (hk _ _ ⟨rfl, by simp [Aut.ext3 h1 hq hq3]⟩)
theorem c_simplify {h : Heap} {v : Value} {a : Aut} (Ra : Rep h v a) (ha : a.Ok) : CallE Tryz.prog fn_impl_Automaton_simplify [v] h (fun u h' => HS h [ow u a.smp] h') := by
  refine CallE.gen fun k hk => EN_impl_Automaton_simplify rfl ?_
  simp -implicitDefEqProofs (disch:=first|omega|(simp only[LnZ];omega))[wrap64]
  refine wp_while (σ := Aut) (fun s e h' => ∃ v, e = [none, some v, some (.agg #[.slice none 0 0, .slice none 0 0, .slice none 0 0]), none] ∧ h.le h' ∧ Rep h' v s ∧ s.Ok ∧ s.smp = a.smp) (fun s => s.mea) a ⟨v, by simp, Heap.le.refl _, Ra, ha, rfl⟩ ?_
  rintro J s _ h1 hJ ⟨v, rfl, hl, Rs, hs, hsm⟩
  obtain ⟨s1, s2, s3, rfl, T1, T2, T3⟩ := Rep_Aut.1 Rs
  have Fs := Rs.aAut
  simp -implicitDefEqProofs (disch:=first|omega|(simp only[LnZ];omega))[wrap64, Fs]
  refine (c_trim Rs hs).go ?_
  intro t h2 H
  have htk := Aut.trim_ok hs
  have Ft := H.rep.aAut
  simp -implicitDefEqProofs (disch:=first|omega|(simp only[LnZ];omega))[wrap64, Fs, Ft]
  refine (c_merge H.rep htk).go ?_
  intro n h3 H3
  have H := (H3.app H).only
  obtain ⟨z1, z2, z3, rfl, S1, S2, S3⟩ := Rep_Aut.1 H.rep
  have Fn := H.rep.aAut
  have Rs3 := Rs.on H
  simp -implicitDefEqProofs (disch:=first|omega|(simp only[LnZ];omega))[wrap64, Fs, Ft, Fn, setC, S1.one, S2.one, S3.one]
  refine (c_AutomatonSame H.rep Rs3).go ?_
  rintro _ _ ⟨rfl, rfl⟩
  have H : HS h [ow (.agg #[z1, z2, z3]) s.rnd] _ := HS.app (Γ := []) H hl
  by_cases hq : s.rnd = s
  · have hq2 : s.trim.mrg = s := hq
    have hsmp : a.smp = s.rnd := by rw [← hsm, Aut.smp_stop hs hq, hq]
    simp -implicitDefEqProofs (disch:=first|omega|(simp only[LnZ];omega))[wrap64, hq2, Fs, Ft, Fn, setC]
    rw [← hsmp] at H
    simp -implicitDefEqProofs (disch:=first|omega|(simp only[LnZ];omega))[wrap64, S1.one, S2.one, S3.one, S1.cells, S2.cells, S3.cells, setC]
    exact RetK.keep (hk _ _ H)
  · have hq2 : ¬ s.trim.mrg = s := hq
    simp -implicitDefEqProofs (disch:=first|omega|(simp only[LnZ];omega))[wrap64, hq2, Fs, Ft, Fn, setC, S1.one, S2.one, S3.one]
    exact hJ s.rnd _ _ (Aut.rnd_less hs hq) ⟨_, rfl, H.base, H.rep, Aut.rnd_ok hs, by rw [← Aut.smp_more hs hq, hsm]⟩
theorem c_SimplifyAutomaton {h : Heap} {v : Value} {a : Aut} (Ra : Rep h v a) : CallE Tryz.prog fn_impl_SimplifyAutomaton [v] h (okR Aut.smp h a) := by
  have Fa := Ra.aAut
  refine CallE.gen fun k hk => EN_impl_SimplifyAutomaton rfl ?_
  simp -implicitDefEqProofs (disch:=first|omega|(simp only[LnZ];omega))[wrap64, Fa]
  refine (c_AutomatonValid Ra).go ?_
  rintro _ h1 ⟨l1, rfl⟩
  by_cases ha : a.Ok
  · simp -implicitDefEqProofs (disch:=first|omega|(simp only[LnZ];omega))[wrap64, ha, Fa]
    refine (c_simplify (Ra.le l1) ha).go ?_
    intro u h2 H
    have H := HS.app (Γ := []) H l1
    obtain ⟨z1, z2, z3, rfl, S1, S2, S3⟩ := Rep_Aut.1 H.rep
    simp -implicitDefEqProofs (disch:=first|omega|(simp only[LnZ];omega))[wrap64, S1.one, S2.one, S3.one]
    exact RetK.keep (hk _ _ (okR.yes ha H))
  · simp -implicitDefEqProofs (disch:=first|omega|(simp only[LnZ];omega))[wrap64, ha]
    exact RetK.keep (hk _ _ (okR.no ha l1))
theorem c_spec_SimplifyAutomaton {h : Heap} {v : Value} {a : Aut} (Ra : Rep h v a) : CallE Tryz.prog fn_spec_SimplifyAutomaton [v] h (okR Aut.smp h a) := by
  have Fa := Ra.aAut
  refine CallE.gen fun k hk => EN_spec_SimplifyAutomaton rfl ?_
  simp -implicitDefEqProofs (disch:=first|omega|(simp only[LnZ];omega))[wrap64, Fa]
  refine (c_spec_AutomatonValid Ra).go ?_
  rintro _ h ⟨rfl, rfl⟩
  by_cases ha : a.Ok
  case neg =>
    simp -implicitDefEqProofs (disch:=first|omega|(simp only[LnZ];omega))[wrap64, ha]
    exact RetK.keep (hk _ _ (okR.no ha HS.init))
  simp -implicitDefEqProofs (disch:=first|omega|(simp only[LnZ];omega))[wrap64, ha, Fa]
  refine wp_while (σ := Aut) (fun s e h' => ∃ v, e = [none, some v, some (.agg #[.slice none 0 0, .slice none 0 0, .slice none 0 0]), none, none] ∧ h.le h' ∧ Rep h' v s ∧ s.Ok ∧ s.smp = a.smp) (fun s => s.mea) a ⟨v, by simp, Heap.le.refl _, Ra, ha, rfl⟩ ?_
  rintro J s _ h1 hJ ⟨v, rfl, hl, Rs, hs, hsm⟩
  obtain ⟨s1, s2, s3, rfl, T1, T2, T3⟩ := Rep_Aut.1 Rs
  have Fs := Rs.aAut
  simp -implicitDefEqProofs (disch:=first|omega|(simp only[LnZ];omega))[wrap64, Fs]
  refine (c_l13Trim Rs hs).go ?_
  intro t h2 H
  have htk := Aut.trim_ok hs
  have Ft := H.rep.aAut
  simp -implicitDefEqProofs (disch:=first|omega|(simp only[LnZ];omega))[wrap64, Fs, Ft]
  refine (c_l13Merge H.rep htk).go ?_
  intro n h3 H3
  have H := (H3.app H).only
  obtain ⟨z1, z2, z3, rfl, S1, S2, S3⟩ := Rep_Aut.1 H.rep
  have Fn := H.rep.aAut
  have Rs3 := Rs.on H
  simp -implicitDefEqProofs (disch:=first|omega|(simp only[LnZ];omega))[wrap64, Fs, Ft, Fn, setC, S1.one, S2.one, S3.one]
  refine (c_spec_AutomatonSame H.rep Rs3).go ?_
  rintro _ _ ⟨rfl, rfl⟩
  have H : HS h [ow (.agg #[z1, z2, z3]) s.rnd] _ := HS.app (Γ := []) H hl
  by_cases hq : s.rnd = s
  · have hq2 : s.trim.mrg = s := hq
    have hsmp : a.smp = s.rnd := by rw [← hsm, Aut.smp_stop hs hq, hq]
    simp -implicitDefEqProofs (disch:=first|omega|(simp only[LnZ];omega))[wrap64, hq2, Fs, Ft, Fn, setC]
    rw [← hsmp] at H
    simp -implicitDefEqProofs (disch:=first|omega|(simp only[LnZ];omega))[wrap64, S1.one, S2.one, S3.one, S1.cells, S2.cells, S3.cells, setC]
    exact RetK.keep (hk _ _ (okR.yes ha H))
  · have hq2 : ¬ s.trim.mrg = s := hq
    simp -implicitDefEqProofs (disch:=first|omega|(simp only[LnZ];omega))[wrap64, hq2, Fs, Ft, Fn, setC, S1.one, S2.one, S3.one]
    exact hJ s.rnd _ _ (Aut.rnd_less hs hq) ⟨_, rfl, H.base, H.rep, Aut.rnd_ok hs, by rw [← Aut.smp_more hs hq, hsm]⟩
end Go.Proofs.YtglnelcmcimljaaGreat

namespace Go.Proofs.YtglnelcmcimljaaGreat
open Go
def SimR (a : Aut) (M : List (List Bool)) : Prop := (¬ a.Ok ∧ M = []) ∨ (a.Ok ∧ M.length = a.acc.length ∧ (∀ r ∈ M, r.length = a.acc.length) ∧ Great a (matR M))
theorem SimR.fn {a : Aut} {M M' : List (List Bool)} (h : SimR a M) (h' : SimR a M') : M = M' := by
  rcases h with ⟨h1, rfl⟩ | ⟨h1, h2, h3, h4⟩
  · rcases h' with ⟨_, rfl⟩ | ⟨h5, _⟩
    · rfl
    · exact absurd h5 h1
  · rcases h' with ⟨h5, _⟩ | ⟨h5, h6, h7, h8⟩
    · exact absurd h1 h5
    refine List.ext_getElem (by omega) fun i hi hi' => ?_
    have g1 := h3 _ (List.getElem_mem hi)
    have g2 := h7 _ (List.getElem_mem hi')
    refine List.ext_getElem (by omega) fun j hj hj' => ?_
    rw [← matR_get hi hj, ← matR_get hi' hj']
    exact h4.eq h8 (by omega) (by omega)
theorem c_DrawSimplifyAutomaton {h : Heap} {v : Value} {l : List (BitVec 8)} (R : Rep h v l) : CallE Tryz.prog fn_spec_DrawSimplifyAutomaton [v] h (fun u h' => ∃ a : Aut, HS h [ow u a] h' ∧ ASz a 16385 ∧ a.acc.length ≤ 17 ∧ a.edges.length ≤ 1000) := by
  refine CallE.gen fun k hk => EN_spec_DrawSimplifyAutomaton rfl ?_
  simp -implicitDefEqProofs (disch:=first|omega|(simp only[LnZ];omega))[wrap64]
  refine (c_DrawTrimAutomaton R).go ?_
  rintro u h1 ⟨a, H, ha⟩
  have FA := H.rep.aAut
  simp -implicitDefEqProofs (disch:=first|omega|(simp only[LnZ];omega))[wrap64, FA, setC]
  exact RetK.keep (hk _ _ ⟨a, H, ha⟩)
theorem c_AcceptsV {h : Heap} {v w : Value} {a : Aut} {l : Las} (Ra : Rep h v a) (Rl : Rep h w l) (ha : a.Ok) : CallE Tryz.prog fn_impl_Accepts [v, w] h (fun u h' => h.le h' ∧ u = .tuple #[.bool (a.accB l), .bool (decide l.Ok)]) :=
  (c_Accepts Ra Rl).mono fun _ _ ⟨h1, h2⟩ => ⟨h1, by rw [h2, decide_eq_decide.2 (show a.Ok ∧ l.Ok ↔ l.Ok from ⟨fun hh => hh.2, fun hh => ⟨ha, hh⟩⟩)]⟩
theorem lasso_letters {l : Las} (hl : l.Ok) : Letters l.word := fun t => Las.word_ok hl t
theorem accB_eq {a b : Aut} {l : Las} (ha : a.Ok) (hb : b.Ok) (h : l.Ok → (a.Lang l.word ↔ b.Lang l.word)) : a.accB l = b.accB l := by
  by_cases hl : l.Ok
  · rw [Bool.eq_iff_iff, Aut.accB_lang ha hl, Aut.accB_lang hb hl]
    exact h hl
  · simp [Aut.accB, hl]
end Go.Proofs.YtglnelcmcimljaaGreat

namespace Go.Proofs.YtglnelcmcimljaaGreat
open Go
set_option maxHeartbeats 2000000 in
theorem c_FnSimplifyAutomaton {h : Heap} {v w : Value} {l m : List (BitVec 8)} (R : Rep h v l) (RM0 : Rep h w m) : CallE Tryz.prog fn_laws_FnSimplifyAutomaton [v, w] h (fun u h' => h.le h' ∧ u = .bool true) := by
  refine CallE.gen fun k hk => EN_laws_FnSimplifyAutomaton rfl ?_
  by_cases a1 : (1048576 : Int) < l.length
  · simp -implicitDefEqProofs (disch:=first|omega|(simp only[LnZ];omega))[wrap64, R.len, a1]
    exact RetK.keep (hk _ _ ⟨Heap.le.refl _, rfl⟩)
  by_cases a2 : (1048576 : Int) < m.length
  · simp -implicitDefEqProofs (disch:=first|omega|(simp only[LnZ];omega))[wrap64, R.len, RM0.len, a1, a2]
    exact RetK.keep (hk _ _ ⟨Heap.le.refl _, rfl⟩)
  simp -implicitDefEqProofs (disch:=first|omega|(simp only[LnZ];omega))[wrap64, R.len, RM0.len, a1, a2]
  refine (c_DrawSimplifyAutomaton R).go ?_
  rintro va h1 ⟨a, H, hz⟩
  have FA := H.rep.aAut
  simp -implicitDefEqProofs (disch:=first|omega|(simp only[LnZ];omega))[wrap64, FA, setC]
  refine (c_DrawAccepts (RM0.on H)).go ?_
  rintro _ h2 ⟨u1, u2, a', x, rfl, l2, Ra', Rx, _⟩
  have H := H.le l2
  have FX := Rx.aLas
  have FA' := Ra'.aAut
  simp -implicitDefEqProofs (disch:=first|omega|(simp only[LnZ];omega))[wrap64, FA, FX, FA', setC]
  refine (c_SimplifyAutomaton H.rep).go ?_
  rintro _ h3 ⟨w1, rfl, H2⟩
  have H := H2.app H
  have FW := H.rep.aAut
  simp -implicitDefEqProofs (disch:=first|omega|(simp only[LnZ];omega))[wrap64, FA, FW, setC]
  refine (c_spec_SimplifyAutomaton H.sw1.rep).go ?_
  rintro _ h4 ⟨w2, rfl, H3⟩
  have Rx := (Rx.on H2).on H3
  have H := H3.app H
  have FV := H.rep.aAut
  have RV := H.rep
  have RW := H.sw1.rep
  have Ra := H.sw2.rep
  have lb := H.base
  clear H H2 H3
  by_cases ha : a.Ok
  case neg =>
    simp -implicitDefEqProofs (disch:=first|omega|(simp only[LnZ];omega))[wrap64, ha, FA, FW, FV, setC]
    refine (c_AutomatonSame RW RV).go ?_
    rintro _ _ ⟨rfl, rfl⟩
    simp -implicitDefEqProofs (disch:=first|omega|(simp only[LnZ];omega))[wrap64, FW, FV]
    refine (c_AutomatonSame RW RV).go ?_
    rintro _ _ ⟨rfl, rfl⟩
    simp -implicitDefEqProofs (disch:=first|omega|(simp only[LnZ];omega))[wrap64]
    exact RetK.keep (hk _ _ ⟨lb, rfl⟩)
  rw [if_pos ha] at RV RW
  have hb := (Aut.smp_spec ha).2
  simp -implicitDefEqProofs (disch:=first|omega|(simp only[LnZ];omega))[wrap64, ha, FA, FW, FV, setC]
  refine (c_AutomatonSame RW RV).go ?_
  rintro _ _ ⟨rfl, rfl⟩
  simp -implicitDefEqProofs (disch:=first|omega|(simp only[LnZ];omega))[wrap64, FA, FX]
  refine (c_AcceptsV Ra Rx ha).go ?_
  rintro _ h5 ⟨l5, rfl⟩
  simp -implicitDefEqProofs (disch:=first|omega|(simp only[LnZ];omega))[wrap64, FW, FX]
  refine (c_AcceptsV (RW.le l5) (Rx.le l5) hb).go ?_
  rintro _ h6 ⟨l6, rfl⟩
  have d3 : a.smp.accB x = a.accB x := accB_eq hb ha fun hl => smp_lang ha (lasso_letters hl)
  rw [d3]
  have hle := smp_len ha
  have lb6 := lb.trans (l5.trans l6)
  have RW6 := RW.le (l5.trans l6)
  have Ra6 := Ra.le (l5.trans l6)
  obtain ⟨t1, t2, t3, htw, T1, T2, T3⟩ := Rep_Aut.1 RW6
  obtain ⟨w1', w2', w3', hta, A1, A2, A3⟩ := Rep_Aut.1 Ra6
  subst htw hta
  simp -implicitDefEqProofs (disch:=first|omega|(simp only[LnZ];omega))[wrap64, FW]
  refine (c_SimplifyAutomaton RW6).go ?_
  rintro _ h7 ⟨w3, rfl, H⟩
  rw [if_pos hb, smp_smp ha] at H
  have F3 := H.rep.aAut
  have l7 := H.base
  have hlei : (a.smp.acc.length : Int) ≤ a.acc.length := by omega
  simp -implicitDefEqProofs (disch:=first|omega|(simp only[LnZ];omega))[wrap64, hb, setC, F3, T1.one, T2.one, T3.one]
  refine (c_AutomatonSame H.rep (RW6.le l7)).go ?_
  rintro _ _ ⟨rfl, rfl⟩
  simp -implicitDefEqProofs (disch:=first|omega|(simp only[LnZ];omega))[wrap64, setC, T1.one, T2.one, T3.one, A1.one, A2.one, A3.one, (T2.le l7).len, (A2.le l7).len, hle, hlei]
  exact RetK.keep (hk _ _ ⟨lb6.trans l7, rfl⟩)
end Go.Proofs.YtglnelcmcimljaaGreat
