/-
  The union of two automata, by the program and by the reference.
-/
import Derived.Test.YtfhjclhchbagnaaP4
namespace Go.Proofs.Ytfhjclhchbagnaa
open Go
set_option linter.all false
set_option linter.unusedVariables false
set_option linter.unusedSimpArgs false
set_option linter.defProp false

theorem map_take_succ {α β : Type} {f : α → β} {l : List α} {i : Nat} (hi : i < l.length) : (l.take (i + 1)).map f = (l.take i).map f ++ [f l[i]] := by
  rw [List.take_add_one, List.getElem?_eq_getElem hi, List.map_append]; rfl
theorem empty_ow {g h : Heap} {Γ : List HP} (H : HS g Γ h) : HS g (ow (.agg #[.slice none 0 0, .slice none 0 0, .slice none 0 0]) Aut.empty :: Γ) h :=
  HS.mkAut (a := Aut.empty) H.nil_ow.nil_ow.nil_ow

/-- what a union gives back -/
def unitR (h : Heap) (a b : Aut) (u : Value) (h' : Heap) : Prop := ∃ v, u = .tuple #[v, .bool (decide (a.Ok ∧ b.Ok ∧ (a.unite b).Ok))] ∧ HS h [ow v (if a.Ok ∧ b.Ok ∧ (a.unite b).Ok then a.unite b else Aut.empty)] h'
theorem unitR.no {h h' : Heap} {a b : Aut} (hn : ¬ (a.Ok ∧ b.Ok ∧ (a.unite b).Ok)) (H : HS h [] h') : unitR h a b (.tuple #[.agg #[.slice none 0 0, .slice none 0 0, .slice none 0 0], .bool false]) h' :=
  ⟨_, by rw [decide_eq_false hn], by rw [if_neg hn]; exact empty_ow H⟩
theorem unitR.yes {h h' : Heap} {a b : Aut} {v : Value} (hn : a.Ok ∧ b.Ok ∧ (a.unite b).Ok) (H : HS h [ow v (a.unite b)] h') : unitR h a b (.tuple #[v, .bool true]) h' :=
  ⟨_, by rw [decide_eq_true hn], by rw [if_pos hn]; exact H⟩

theorem c_UniteAutomata {h : Heap} {v w : Value} {a b : Aut} (Ra : Rep h v a) (Rb : Rep h w b) : CallE Try.prog fn_impl_UniteAutomata [v, w] h (unitR h a b) := by
  obtain ⟨v1, v2, v3, rfl, R1, R2, R3⟩ := Rep_Aut.1 Ra
  obtain ⟨w1, w2, w3, rfl, S1, S2, S3⟩ := Rep_Aut.1 Rb
  refine CallE.gen fun k hk => EN_impl_UniteAutomata rfl ?_
  simp -implicitDefEqProofs (disch := first | omega | (simp only [List.length_set, List.length_replicate, List.length_append, List.length_map, List.length_take, List.length_cons, List.length_nil]; omega)) [wrap64]
  refine (c_AutomatonValid Ra).go ?_
  rintro _ h1 ⟨l1, rfl⟩
  by_cases ha : a.Ok
  case neg =>
    simp -implicitDefEqProofs (disch := first | omega | (simp only [List.length_set, List.length_replicate, List.length_append, List.length_map, List.length_take, List.length_cons, List.length_nil]; omega)) [wrap64, ha]
    exact RetK.keep (hk _ _ (unitR.no (fun h => ha h.1) l1))
  simp -implicitDefEqProofs (disch := first | omega | (simp only [List.length_set, List.length_replicate, List.length_append, List.length_map, List.length_take, List.length_cons, List.length_nil]; omega)) [wrap64, ha]
  refine (c_AutomatonValid (Rb.le l1)).go ?_
  rintro _ h2 ⟨l2, rfl⟩
  have l2 := l1.trans l2
  by_cases hb : b.Ok
  case neg =>
    simp -implicitDefEqProofs (disch := first | omega | (simp only [List.length_set, List.length_replicate, List.length_append, List.length_map, List.length_take, List.length_cons, List.length_nil]; omega)) [wrap64, hb]
    exact RetK.keep (hk _ _ (unitR.no (fun h => hb h.2.1) l2))
  simp -implicitDefEqProofs (disch := first | omega | (simp only [List.length_set, List.length_replicate, List.length_append, List.length_map, List.length_take, List.length_cons, List.length_nil]; omega)) [wrap64, hb, (R2.le l2).len]
  have e1 := ha.n
  have e2 := hb.n
  have e3 := ha.il
  have e4 := hb.il
  have e5 := ha.e
  have e6 := hb.e
  refine (c_copyOf (Ra.le l2) (by omega) (by omega) (by omega)).go ?_
  intro u h3 H0
  obtain ⟨u1, u2, u3, rfl, H⟩ := HS.unAut (H0.app (Γ := []) l2)
  simp -implicitDefEqProofs (disch := first | omega | (simp only [List.length_set, List.length_replicate, List.length_append, List.length_map, List.length_take, List.length_cons, List.length_nil]; omega)) [wrap64, (S1.on H).len, H.rep.one, H.sw1.rep.one, H.sw2.rep.one]
  refine wp_count b.init.length (fun i e h' => ∃ u1', e = [none, none, none, some (.agg #[w1, w2, w3]), some (.agg #[.slice none 0 0, .slice none 0 0, .slice none 0 0]), none, some (.int .i64 a.acc.length), some (.agg #[u1', u2, u3]), none, none, some w1, some (.int .i64 b.init.length), some (.int .i64 i), none, none, none] ∧
    HS h [ow u1' (a.init ++ (b.init.take i).map (· + (a.acc.length : Int))), ow u2 a.acc, ow u3 a.edges] h') ⟨u1, by simp, by simpa using H⟩ ?_
  rintro J i _ h4 hJ hi ⟨u1', rfl, H⟩
  simp -implicitDefEqProofs (disch := first | omega | (simp only [List.length_set, List.length_replicate, List.length_append, List.length_map, List.length_take, List.length_cons, List.length_nil]; omega)) [wrap64]
  refine IteW.mk (fun hlt => ?_) (fun hge => ?_)
  · have hlx : i < b.init.length := by omega
    have hx := hb.im hlx
    simp -implicitDefEqProofs (disch := first | omega | (simp only [List.length_set, List.length_replicate, List.length_append, List.length_map, List.length_take, List.length_cons, List.length_nil]; omega)) [wrap64, (S1.on H).I]
    refine H.app1 (b.init[i] + a.acc.length) rfl rfl rfl ⟨by omega, by omega⟩ rfl rfl (by simp; omega) (by simp; omega) fun v' h5 H => ?_
    simp -implicitDefEqProofs (disch := first | omega | (simp only [List.length_set, List.length_replicate, List.length_append, List.length_map, List.length_take, List.length_cons, List.length_nil]; omega)) [wrap64, H.rep.one, H.rep.cells, setC]
    exact hJ _ _ hlx ⟨v', by simp, by rw [map_take_succ hlx]; simpa using H⟩
  simp -implicitDefEqProofs (disch := first | omega | (simp only [List.length_set, List.length_replicate, List.length_append, List.length_map, List.length_take, List.length_cons, List.length_nil]; omega)) [wrap64]
  rw [List.take_of_length_le (by omega)] at H
  have H := H.sw1
  refine H.appL rfl rfl (S2.on H) rfl rfl (by omega) (by omega) fun u2' h5 H => ?_
  simp -implicitDefEqProofs (disch := first | omega | (simp only [List.length_set, List.length_replicate, List.length_append, List.length_map, List.length_take, List.length_cons, List.length_nil]; omega)) [wrap64, H.rep.one, H.rep.cells, setC, (S3.on H).len]
  refine wp_count b.edges.length (fun i e h' => ∃ u3', e = [none, none, none, none, some (.agg #[.slice none 0 0, .slice none 0 0, .slice none 0 0]), none, some (.int .i64 a.acc.length), some (.agg #[u1', u2', u3']), none, none, none, none, none, some w3, some (.int .i64 b.edges.length), some (.int .i64 i)] ∧
    HS h [ow u3' (a.edges ++ (b.edges.take i).map (Tr.shift a.acc.length)), ow u2' (a.acc ++ b.acc), ow u1' (a.init ++ b.init.map (· + (a.acc.length : Int)))] h') ⟨u3, by simp, by simpa using H.sw2⟩ ?_
  rintro J i _ h4 hJ hi ⟨u3', rfl, H⟩
  simp -implicitDefEqProofs (disch := first | omega | (simp only [List.length_set, List.length_replicate, List.length_append, List.length_map, List.length_take, List.length_cons, List.length_nil]; omega)) [wrap64]
  refine IteW.mk (fun hlt => ?_) (fun hge => ?_)
  · have hlx : i < b.edges.length := by omega
    have hx := hb.t hlx
    have hv := S3.okTr hlx
    unfold Tr.Ok at hx
    simp -implicitDefEqProofs (disch := first | omega | (simp only [List.length_set, List.length_replicate, List.length_append, List.length_map, List.length_take, List.length_cons, List.length_nil]; omega)) [wrap64, (S3.on H).xTr, Tr.v, setC]
    refine H.app1 (Tr.shift a.acc.length b.edges[i]) rfl rfl rfl (Tr.ok_iff.2 ⟨by simp [Tr.shift]; omega, hv.care, hv.value, by simp [Tr.shift]; omega⟩) rfl rfl (by simp; omega) (by simp; omega) fun v' h5 H => ?_
    simp -implicitDefEqProofs (disch := first | omega | (simp only [List.length_set, List.length_replicate, List.length_append, List.length_map, List.length_take, List.length_cons, List.length_nil]; omega)) [wrap64, H.rep.one, H.rep.cells, setC]
    exact hJ _ _ hlx ⟨v', by simp, by rw [map_take_succ hlx]; simpa using H⟩
  simp -implicitDefEqProofs (disch := first | omega | (simp only [List.length_set, List.length_replicate, List.length_append, List.length_map, List.length_take, List.length_cons, List.length_nil]; omega)) [wrap64]
  rw [List.take_of_length_le (by omega)] at H
  have H := HS.mkAut (a := a.unite b) H.sw1.sw2
  refine (c_AutomatonValid H.rep).go ?_
  rintro _ h5 ⟨l5, rfl⟩
  have H := H.le l5
  by_cases hc : (a.unite b).Ok
  case neg =>
    simp -implicitDefEqProofs (disch := first | omega | (simp only [List.length_set, List.length_replicate, List.length_append, List.length_map, List.length_take, List.length_cons, List.length_nil]; omega)) [wrap64, hc]
    exact RetK.keep (hk _ _ (unitR.no (fun h => hc h.2.2) H.drop))
  simp -implicitDefEqProofs (disch := first | omega | (simp only [List.length_set, List.length_replicate, List.length_append, List.length_map, List.length_take, List.length_cons, List.length_nil]; omega)) [wrap64, hc]
  have e7 : (a.unite b).init.length = a.init.length + b.init.length := by simp [Aut.unite]
  have e8 : (a.unite b).acc.length = a.acc.length + b.acc.length := by simp [Aut.unite]
  have e9 : (a.unite b).edges.length = a.edges.length + b.edges.length := by simp [Aut.unite]
  refine (c_copyOf H.rep (by omega) (by omega) (by omega)).go ?_
  intro v' h6 H6
  have H := (H6.app H).sw1.drop
  obtain ⟨z1, z2, z3, rfl, R1, R2, R3⟩ := Rep_Aut.1 H.rep
  simp -implicitDefEqProofs (disch := first | omega | (simp only [List.length_set, List.length_replicate, List.length_append, List.length_map, List.length_take, List.length_cons, List.length_nil]; omega)) [wrap64, R1.one, R2.one, R3.one]
  exact RetK.keep (hk _ _ (unitR.yes ⟨ha, hb, hc⟩ H))

theorem c_spec_UniteAutomata {h : Heap} {v w : Value} {a b : Aut} (Ra : Rep h v a) (Rb : Rep h w b) : CallE Try.prog fn_spec_UniteAutomata [v, w] h (unitR h a b) := by
  obtain ⟨v1, v2, v3, rfl, R1, R2, R3⟩ := Rep_Aut.1 Ra
  obtain ⟨w1, w2, w3, rfl, S1, S2, S3⟩ := Rep_Aut.1 Rb
  refine CallE.gen fun k hk => EN_spec_UniteAutomata rfl ?_
  simp -implicitDefEqProofs (disch := first | omega | (simp only [List.length_set, List.length_replicate, List.length_append, List.length_map, List.length_take, List.length_cons, List.length_nil]; omega)) [wrap64]
  refine (c_spec_AutomatonValid Ra).go ?_
  rintro _ h ⟨rfl, rfl⟩
  by_cases ha : a.Ok
  case neg =>
    simp -implicitDefEqProofs (disch := first | omega | (simp only [List.length_set, List.length_replicate, List.length_append, List.length_map, List.length_take, List.length_cons, List.length_nil]; omega)) [wrap64, ha]
    exact RetK.keep (hk _ _ (unitR.no (fun h => ha h.1) HS.init))
  simp -implicitDefEqProofs (disch := first | omega | (simp only [List.length_set, List.length_replicate, List.length_append, List.length_map, List.length_take, List.length_cons, List.length_nil]; omega)) [wrap64, ha]
  refine (c_spec_AutomatonValid Rb).go ?_
  rintro _ h ⟨rfl, rfl⟩
  by_cases hb : b.Ok
  case neg =>
    simp -implicitDefEqProofs (disch := first | omega | (simp only [List.length_set, List.length_replicate, List.length_append, List.length_map, List.length_take, List.length_cons, List.length_nil]; omega)) [wrap64, hb]
    exact RetK.keep (hk _ _ (unitR.no (fun h => hb h.2.1) HS.init))
  simp -implicitDefEqProofs (disch := first | omega | (simp only [List.length_set, List.length_replicate, List.length_append, List.length_map, List.length_take, List.length_cons, List.length_nil]; omega)) [wrap64, hb, R2.len]
  have e1 := ha.n
  have e2 := hb.n
  have e3 := ha.il
  have e4 := hb.il
  have e5 := ha.e
  have e6 := hb.e
  refine HS.init.appPL (α := Int) (l2 := a.init) rfl rfl R1 rfl rfl (by omega) fun u1 h1 H => ?_
  simp -implicitDefEqProofs (disch := first | omega | (simp only [List.length_set, List.length_replicate, List.length_append, List.length_map, List.length_take, List.length_cons, List.length_nil]; omega)) [wrap64]
  refine H.appPL (α := Bool) (l2 := a.acc) rfl rfl (R2.on H) rfl rfl (by omega) fun u2 h2 H => ?_
  simp -implicitDefEqProofs (disch := first | omega | (simp only [List.length_set, List.length_replicate, List.length_append, List.length_map, List.length_take, List.length_cons, List.length_nil]; omega)) [wrap64]
  refine H.appPL (α := Tr) (l2 := a.edges) rfl rfl (R3.on H) rfl rfl (by omega) fun u3 h3 H => ?_
  simp -implicitDefEqProofs (disch := first | omega | (simp only [List.length_set, List.length_replicate, List.length_append, List.length_map, List.length_take, List.length_cons, List.length_nil]; omega)) [wrap64, H.rep.one, H.rep.cells, H.sw1.rep.one, H.sw1.rep.cells, H.sw2.rep.one, H.sw2.rep.cells, setC]
  refine wp_count b.init.length (fun i e h' => ∃ u1', e = [none, none, none, some (.agg #[w1, w2, w3]), some (.agg #[.slice none 0 0, .slice none 0 0, .slice none 0 0]), none, some (.int .i64 a.acc.length), some (.agg #[u1', u2, u3]), some (.int .i64 i), none, none] ∧
    HS h [ow u1' (a.init ++ (b.init.take i).map (· + (a.acc.length : Int))), ow u2 a.acc, ow u3 a.edges] h') ⟨u1, by simp, by simpa using H.sw1.sw2⟩ ?_
  rintro J i _ h4 hJ hi ⟨u1', rfl, H⟩
  simp -implicitDefEqProofs (disch := first | omega | (simp only [List.length_set, List.length_replicate, List.length_append, List.length_map, List.length_take, List.length_cons, List.length_nil]; omega)) [wrap64, (S1.on H).len]
  refine IteW.mk (fun hlt => ?_) (fun hge => ?_)
  · have hlx : i < b.init.length := by omega
    have hx := hb.im hlx
    simp -implicitDefEqProofs (disch := first | omega | (simp only [List.length_set, List.length_replicate, List.length_append, List.length_map, List.length_take, List.length_cons, List.length_nil]; omega)) [wrap64, (S1.on H).I]
    refine H.app1 (b.init[i] + a.acc.length) rfl rfl rfl ⟨by omega, by omega⟩ rfl rfl (by simp; omega) (by simp; omega) fun v' h5 H => ?_
    simp -implicitDefEqProofs (disch := first | omega | (simp only [List.length_set, List.length_replicate, List.length_append, List.length_map, List.length_take, List.length_cons, List.length_nil]; omega)) [wrap64, H.rep.one, H.rep.cells, setC]
    exact hJ _ _ hlx ⟨v', by simp, by rw [map_take_succ hlx]; simpa using H⟩
  simp -implicitDefEqProofs (disch := first | omega | (simp only [List.length_set, List.length_replicate, List.length_append, List.length_map, List.length_take, List.length_cons, List.length_nil]; omega)) [wrap64]
  rw [List.take_of_length_le (by omega)] at H
  have H := H.sw1
  refine H.appL rfl rfl (S2.on H) rfl rfl (by omega) (by omega) fun u2' h5 H => ?_
  simp -implicitDefEqProofs (disch := first | omega | (simp only [List.length_set, List.length_replicate, List.length_append, List.length_map, List.length_take, List.length_cons, List.length_nil]; omega)) [wrap64, H.rep.one, H.rep.cells, setC]
  refine wp_count b.edges.length (fun i e h' => ∃ u3', e = [none, none, none, some (.agg #[w1, w2, w3]), some (.agg #[.slice none 0 0, .slice none 0 0, .slice none 0 0]), none, some (.int .i64 a.acc.length), some (.agg #[u1', u2', u3']), none, some (.int .i64 i), none] ∧
    HS h [ow u3' (a.edges ++ (b.edges.take i).map (Tr.shift a.acc.length)), ow u2' (a.acc ++ b.acc), ow u1' (a.init ++ b.init.map (· + (a.acc.length : Int)))] h') ⟨u3, by simp, by simpa using H.sw2⟩ ?_
  rintro J i _ h4 hJ hi ⟨u3', rfl, H⟩
  simp -implicitDefEqProofs (disch := first | omega | (simp only [List.length_set, List.length_replicate, List.length_append, List.length_map, List.length_take, List.length_cons, List.length_nil]; omega)) [wrap64, (S3.on H).len]
  refine IteW.mk (fun hlt => ?_) (fun hge => ?_)
  · have hlx : i < b.edges.length := by omega
    have hx := hb.t hlx
    have hv := S3.okTr hlx
    unfold Tr.Ok at hx
    simp -implicitDefEqProofs (disch := first | omega | (simp only [List.length_set, List.length_replicate, List.length_append, List.length_map, List.length_take, List.length_cons, List.length_nil]; omega)) [wrap64, (S3.on H).xTr, Tr.v, setC]
    refine H.app1 (Tr.shift a.acc.length b.edges[i]) rfl rfl rfl (Tr.ok_iff.2 ⟨by simp [Tr.shift]; omega, hv.care, hv.value, by simp [Tr.shift]; omega⟩) rfl rfl (by simp; omega) (by simp; omega) fun v' h5 H => ?_
    simp -implicitDefEqProofs (disch := first | omega | (simp only [List.length_set, List.length_replicate, List.length_append, List.length_map, List.length_take, List.length_cons, List.length_nil]; omega)) [wrap64, H.rep.one, H.rep.cells, setC]
    exact hJ _ _ hlx ⟨v', by simp, by rw [map_take_succ hlx]; simpa using H⟩
  simp -implicitDefEqProofs (disch := first | omega | (simp only [List.length_set, List.length_replicate, List.length_append, List.length_map, List.length_take, List.length_cons, List.length_nil]; omega)) [wrap64]
  rw [List.take_of_length_le (by omega)] at H
  have H := HS.mkAut (a := a.unite b) H.sw1.sw2
  refine (c_spec_AutomatonValid H.rep).go ?_
  rintro _ _ ⟨rfl, rfl⟩
  by_cases hc : (a.unite b).Ok
  case neg =>
    simp -implicitDefEqProofs (disch := first | omega | (simp only [List.length_set, List.length_replicate, List.length_append, List.length_map, List.length_take, List.length_cons, List.length_nil]; omega)) [wrap64, hc]
    exact RetK.keep (hk _ _ (unitR.no (fun h => hc h.2.2) H.drop))
  simp -implicitDefEqProofs (disch := first | omega | (simp only [List.length_set, List.length_replicate, List.length_append, List.length_map, List.length_take, List.length_cons, List.length_nil]; omega)) [wrap64, hc]
  obtain ⟨z1, z2, z3, hz, R1, R2, R3⟩ := Rep_Aut.1 H.rep
  simp at hz
  obtain ⟨rfl, rfl, rfl⟩ := hz
  simp -implicitDefEqProofs (disch := first | omega | (simp only [List.length_set, List.length_replicate, List.length_append, List.length_map, List.length_take, List.length_cons, List.length_nil]; omega)) [wrap64, R1.one, R2.one, R3.one]
  exact RetK.keep (hk _ _ (unitR.yes ⟨ha, hb, hc⟩ H))
end Go.Proofs.Ytfhjclhchbagnaa
