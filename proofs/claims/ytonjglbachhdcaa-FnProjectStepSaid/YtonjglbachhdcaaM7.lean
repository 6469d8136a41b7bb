/-
  Texts of this proof, one behind the other.
-/
import Derived.Test.YtonjglbachhdcaaM6
/-
  States of systems; projections of states: by the program and by the reference.
-/
namespace Go.Proofs.Ytonjglbachhdcaa
open Go
set_option linter.all false
set_option linter.unusedVariables false
set_option linter.unusedSimpArgs false
set_option linter.defProp false
set_option maxRecDepth 1000000

/-- a state of a system -/
structure Sta.Ok (s : Sy) (st : Sta) : Prop where
  len : st.locs.length = s.procs.length
  vs : VOk st.vals
  lc : ∀ (i : Nat) (h1 : i < st.locs.length) (h2 : i < s.procs.length), 0 ≤ st.locs[i] ∧ st.locs[i] < s.procs[i].locs
noncomputable instance instDecStaOk {s : Sy} {st : Sta} : Decidable (st.Ok s) := Classical.propDecidable _

theorem c_has {h : Heap} {v w : Value} {s : Sy} {st : Sta} (hs : s.Ok) (R : Rep h v s) (Rt : Rep h w st) : CallE Try.prog fn_impl_System_has [v, w] h (fun u h' => h.le h' ∧ u = .bool (decide (st.Ok s))) := by
  obtain ⟨v1, v2, rfl, R1, R2⟩ := Rep_Sy.1 R
  obtain ⟨w1, w2, rfl, T1, T2⟩ := Rep_Sta.1 Rt
  have hL1 := R2.lt
  have hL2 := T1.lt
  refine CallE.gen fun k hk => EN_impl_System_has rfl ?_
  have hno : ∀ {h'}, h.le h' → ¬ st.Ok s → k (.bool false) h' := fun hl hh => hk _ _ ⟨hl, by rw [decide_eq_false hh]⟩
  by_cases q1 : (st.locs.length : Int) = s.procs.length
  case neg => simp -implicitDefEqProofs (disch := first | omega | (simp only [List.length_set, List.length_replicate, List.length_append, List.length_map, List.length_take, List.length_cons, List.length_nil]; omega)) [wrap64, T1.len, R2.len, q1]; exact RetK.keep (hno (Heap.le.refl _) fun hh => q1 (by rw [hh.len]))
  simp -implicitDefEqProofs (disch := first | omega | (simp only [List.length_set, List.length_replicate, List.length_append, List.length_map, List.length_take, List.length_cons, List.length_nil]; omega)) [wrap64, T1.len, R2.len, q1]
  refine (c_valsOk T2).go ?_
  rintro _ h1 ⟨l1, rfl⟩
  by_cases q2 : VOk st.vals
  case neg => simp -implicitDefEqProofs (disch := first | omega | (simp only [List.length_set, List.length_replicate, List.length_append, List.length_map, List.length_take, List.length_cons, List.length_nil]; omega)) [wrap64, q2]; exact RetK.keep (hno l1 fun hh => q2 hh.vs)
  have T1' := T1.le l1
  have R2' := R2.le l1
  simp -implicitDefEqProofs (disch := first | omega | (simp only [List.length_set, List.length_replicate, List.length_append, List.length_map, List.length_take, List.length_cons, List.length_nil]; omega)) [wrap64, q2, T1'.len]
  refine wp_count st.locs.length (fun i e h' => e = [none, none, some (.agg #[v1, v2]), none, none, none, none, some w1, some (.int .i64 st.locs.length), some (.int .i64 i)] ∧ h' = h1 ∧ ∀ (j : Nat) (a : j < st.locs.length) (b : j < s.procs.length), j < i → 0 ≤ st.locs[j] ∧ st.locs[j] < s.procs[j].locs) ⟨by simp [q1], rfl, fun j _ _ hj => absurd hj (Nat.not_lt_zero j)⟩ ?_
  rintro J i _ h2 hJ hi ⟨rfl, rfl, hall⟩
  simp -implicitDefEqProofs (disch := first | omega | (simp only [List.length_set, List.length_replicate, List.length_append, List.length_map, List.length_take, List.length_cons, List.length_nil]; omega)) [wrap64]
  refine IteW.mk (fun hlt => ?_) (fun hge => ?_)
  · have hlx : i < st.locs.length := by omega
    have hlp : i < s.procs.length := by omega
    obtain ⟨u, hu, Ru⟩ := R2'.ld hlp
    change hload _ (some (elp 2 v2 i)) (some 2) = some u at hu
    obtain ⟨we, rfl, k1, R3⟩ := Rep_Pr.1 Ru
    have hP := hld_parts hu
    have hp1 := (hs.at hlp).n1
    have hp4 := (hs.at hlp).n4
    simp -implicitDefEqProofs (disch := first | omega | (simp only [List.length_set, List.length_replicate, List.length_append, List.length_map, List.length_take, List.length_cons, List.length_nil]; omega)) [wrap64, T1'.I, R2'.X (n := 2) rfl, hP.1, hP.2.2.1]
    refine c_in.go ?_
    rintro _ h2 ⟨rfl, rfl⟩
    by_cases q3 : 0 ≤ st.locs[i] ∧ st.locs[i] ≤ s.procs[i].locs - 1
    case neg => simp -implicitDefEqProofs (disch := first | omega | (simp only [List.length_set, List.length_replicate, List.length_append, List.length_map, List.length_take, List.length_cons, List.length_nil]; omega)) [wrap64, q3]; exact RetK.keep (hno l1 fun hh => q3 (by have := hh.lc i hlx hlp; omega))
    simp -implicitDefEqProofs (disch := first | omega | (simp only [List.length_set, List.length_replicate, List.length_append, List.length_map, List.length_take, List.length_cons, List.length_nil]; omega)) [wrap64, q3]
    refine hJ _ _ hlx ⟨by simp, rfl, fun j a b hji => ?_⟩
    by_cases hji2 : j = i
    · subst hji2; omega
    · exact hall j a b (by omega)
  · simp -implicitDefEqProofs (disch := first | omega | (simp only [List.length_set, List.length_replicate, List.length_append, List.length_map, List.length_take, List.length_cons, List.length_nil]; omega)) [wrap64]
    exact RetK.keep (hk _ _ ⟨l1, by rw [decide_eq_true (show st.Ok s from ⟨by omega, q2, fun i a b => hall i a b (by omega)⟩)]⟩)

theorem c_spec_StateValid {h : Heap} {v w : Value} {s : Sy} {st : Sta} (R : Rep h v s) (Rt : Rep h w st) : CallE Try.prog fn_spec_StateValid [v, w] h (fun u h' => h' = h ∧ u = .bool (decide (s.Ok ∧ st.Ok s))) := by
  have F := R.aSy
  obtain ⟨v1, v2, rfl, R1, R2⟩ := Rep_Sy.1 R
  obtain ⟨w1, w2, rfl, T1, T2⟩ := Rep_Sta.1 Rt
  have hL1 := R2.lt
  have hL2 := T1.lt
  refine CallE.gen fun k hk => EN_spec_StateValid rfl ?_
  simp -implicitDefEqProofs (disch := first | omega | (simp only [List.length_set, List.length_replicate, List.length_append, List.length_map, List.length_take, List.length_cons, List.length_nil]; omega)) [wrap64, F]
  refine (c_spec_SystemValid R).go ?_
  rintro _ h ⟨rfl, rfl⟩
  have hno : ¬ (s.Ok ∧ st.Ok s) → k (.bool false) h := fun hh => hk _ _ ⟨rfl, by rw [decide_eq_false hh]⟩
  by_cases hs : s.Ok
  case neg => simp -implicitDefEqProofs (disch := first | omega | (simp only [List.length_set, List.length_replicate, List.length_append, List.length_map, List.length_take, List.length_cons, List.length_nil]; omega)) [wrap64, hs]; exact RetK.keep (hno fun hh => hs hh.1)
  by_cases q1 : (st.locs.length : Int) = s.procs.length
  case neg => simp -implicitDefEqProofs (disch := first | omega | (simp only [List.length_set, List.length_replicate, List.length_append, List.length_map, List.length_take, List.length_cons, List.length_nil]; omega)) [wrap64, hs, T1.len, R2.len, q1]; exact RetK.keep (hno fun hh => q1 (by rw [hh.2.len]))
  simp -implicitDefEqProofs (disch := first | omega | (simp only [List.length_set, List.length_replicate, List.length_append, List.length_map, List.length_take, List.length_cons, List.length_nil]; omega)) [wrap64, hs, T1.len, R2.len, q1]
  refine (c_l1Vals T2).go ?_
  rintro _ h ⟨rfl, rfl⟩
  by_cases q2 : VOk st.vals
  case neg => simp -implicitDefEqProofs (disch := first | omega | (simp only [List.length_set, List.length_replicate, List.length_append, List.length_map, List.length_take, List.length_cons, List.length_nil]; omega)) [wrap64, q2]; exact RetK.keep (hno fun hh => q2 hh.2.vs)
  simp -implicitDefEqProofs (disch := first | omega | (simp only [List.length_set, List.length_replicate, List.length_append, List.length_map, List.length_take, List.length_cons, List.length_nil]; omega)) [wrap64, q2]
  refine wp_count st.locs.length (fun i e h' => e = [none, none, some (.agg #[v1, v2]), some (.agg #[w1, w2]), none, some (.int .i64 i)] ∧ h' = h ∧ ∀ (j : Nat) (a : j < st.locs.length) (b : j < s.procs.length), j < i → 0 ≤ st.locs[j] ∧ st.locs[j] < s.procs[j].locs) ⟨by simp, rfl, fun j _ _ hj => absurd hj (Nat.not_lt_zero j)⟩ ?_
  rintro J i _ h2 hJ hi ⟨rfl, rfl, hall⟩
  simp -implicitDefEqProofs (disch := first | omega | (simp only [List.length_set, List.length_replicate, List.length_append, List.length_map, List.length_take, List.length_cons, List.length_nil]; omega)) [wrap64, T1.len]
  refine IteW.mk (fun hlt => ?_) (fun hge => ?_)
  · have hlx : i < st.locs.length := by omega
    have hlp : i < s.procs.length := by omega
    obtain ⟨u, hu, Ru⟩ := R2.ld hlp
    change hload _ (some (elp 2 v2 i)) (some 2) = some u at hu
    obtain ⟨we, rfl, k1, R3⟩ := Rep_Pr.1 Ru
    have hP := hld_parts hu
    by_cases q3 : st.locs[i] < 0
    · simp -implicitDefEqProofs (disch := first | omega | (simp only [List.length_set, List.length_replicate, List.length_append, List.length_map, List.length_take, List.length_cons, List.length_nil]; omega)) [wrap64, T1.I, q3]; exact RetK.keep (hno fun hh => by have := hh.2.lc i hlx hlp; omega)
    by_cases q4 : s.procs[i].locs ≤ st.locs[i]
    · simp -implicitDefEqProofs (disch := first | omega | (simp only [List.length_set, List.length_replicate, List.length_append, List.length_map, List.length_take, List.length_cons, List.length_nil]; omega)) [wrap64, T1.I, q3, q4, R2.X (n := 2) rfl, hP.1, hP.2.2.1]; exact RetK.keep (hno fun hh => by have := hh.2.lc i hlx hlp; omega)
    simp -implicitDefEqProofs (disch := first | omega | (simp only [List.length_set, List.length_replicate, List.length_append, List.length_map, List.length_take, List.length_cons, List.length_nil]; omega)) [wrap64, T1.I, q3, q4, R2.X (n := 2) rfl, hP.1, hP.2.2.1]
    refine hJ _ _ hlx ⟨by simp, rfl, fun j a b hji => ?_⟩
    by_cases hji2 : j = i
    · subst hji2; omega
    · exact hall j a b (by omega)
  · simp -implicitDefEqProofs (disch := first | omega | (simp only [List.length_set, List.length_replicate, List.length_append, List.length_map, List.length_take, List.length_cons, List.length_nil]; omega)) [wrap64]
    exact RetK.keep (hk _ _ ⟨rfl, by rw [decide_eq_true (show s.Ok ∧ st.Ok s from ⟨hs, by omega, q2, fun i a b => hall i a b (by omega)⟩)]⟩)

theorem c_State_copyOf {h : Heap} {v : Value} {st : Sta} (R : Rep h v st) (h1 : st.locs.length ≤ 1073741824) (h2 : st.vals.length ≤ 1073741824) : CallE Try.prog fn_impl_State_copyOf [v] h (fun u h' => HS h [ow u st] h') := by
  obtain ⟨v1, v2, rfl, R1, R2⟩ := Rep_Sta.1 R
  refine CallE.gen fun k hk => EN_impl_State_copyOf rfl ?_
  simp -implicitDefEqProofs (disch := first | omega | (simp only [List.length_set, List.length_replicate, List.length_append, List.length_map, List.length_take, List.length_cons, List.length_nil]; omega)) [wrap64]
  refine (c_clone_int R1 h1).go ?_
  intro u1 m1 H
  simp -implicitDefEqProofs (disch := first | omega | (simp only [List.length_set, List.length_replicate, List.length_append, List.length_map, List.length_take, List.length_cons, List.length_nil]; omega)) [wrap64]
  refine (c_clone_int (R2.on H) h2).go ?_
  intro u2 m2 H2
  have H := H2.app H
  simp -implicitDefEqProofs (disch := first | omega | (simp only [List.length_set, List.length_replicate, List.length_append, List.length_map, List.length_take, List.length_cons, List.length_nil]; omega)) [wrap64, H.rep.cells, H.rep.one, H.sw1.rep.cells, H.sw1.rep.one, setC]
  exact RetK.keep (hk _ _ (HS.mkSta H.sw1))

/-- the values that are kept, and the first values where they don't matter -/
def prV (s : Sy) (L : List Exq) (st : Sta) : List Int := (List.range 3).map fun i => if (s.rel L).getD i false then st.vals.getD i 0 else s.init.getD i 0
theorem prV_len {s : Sy} {L : List Exq} {st : Sta} : (prV s L st).length = 3 := by simp [prV]
noncomputable def prR (s : Sy) (L : List Exq) (st : Sta) : Sta := if s.Ok ∧ LOk L ∧ st.Ok s then ⟨st.locs, prV s L st⟩ else Sta.zero
theorem zero_St {g h : Heap} {Γ : List HP} (H : HS g Γ h) : HS g (ow (.agg #[.slice none 0 0, .slice none 0 0]) Sta.zero :: Γ) h := HS.mkSta (a := Sta.zero) H.nil_ow.nil_ow

theorem c_ProjectState {h : Heap} {v w t : Value} {s : Sy} {L : List Exq} {st : Sta} (R : Rep h v s) (RL : Rep h w L) (Rt : Rep h t st) : CallE Try.prog fn_impl_ProjectState [v, w, t] h (R2 (decide (s.Ok ∧ LOk L ∧ st.Ok s)) (prR s L st) h) := by
  have F := R.aSy
  have FT := Rt.aSta
  have R0 := R
  obtain ⟨v1, v2, rfl, R1, R2'⟩ := Rep_Sy.1 R
  refine CallE.gen fun k hk => EN_impl_ProjectState rfl ?_
  have hno : ¬ (s.Ok ∧ LOk L ∧ st.Ok s) → ∀ {h'}, h.le h' → k (.tuple #[.agg #[.slice none 0 0, .slice none 0 0], .bool false]) h' := fun hn h' hl => hk _ _ ⟨_, by rw [decide_eq_false hn], by rw [prR, if_neg hn]; exact zero_St (Γ := []) hl⟩
  simp -implicitDefEqProofs (disch := first | omega | (simp only [List.length_set, List.length_replicate, List.length_append, List.length_map, List.length_take, List.length_cons, List.length_nil]; omega)) [wrap64, F]
  refine (c_RelevantVars R RL).go ?_
  rintro _ h1 ⟨x, rfl, H⟩
  by_cases q1 : s.Ok ∧ LOk L
  case neg =>
    simp -implicitDefEqProofs (disch := first | omega | (simp only [List.length_set, List.length_replicate, List.length_append, List.length_map, List.length_take, List.length_cons, List.length_nil]; omega)) [wrap64, q1, setC]
    exact RetK.keep (hno (fun hh => q1 ⟨hh.1, hh.2.1⟩) H.base)
  rw [relR, if_pos q1] at H
  simp -implicitDefEqProofs (disch := first | omega | (simp only [List.length_set, List.length_replicate, List.length_append, List.length_map, List.length_take, List.length_cons, List.length_nil]; omega)) [wrap64, q1, F, FT]
  refine (c_has q1.1 (R0.on H) (Rt.on H)).go ?_
  rintro _ h2 ⟨l2, rfl⟩
  have H := H.le l2
  by_cases q2 : st.Ok s
  case neg =>
    simp -implicitDefEqProofs (disch := first | omega | (simp only [List.length_set, List.length_replicate, List.length_append, List.length_map, List.length_take, List.length_cons, List.length_nil]; omega)) [wrap64, q2, setC]
    exact RetK.keep (hno (fun hh => q2 hh.2.2) H.base)
  have hvl := q2.vs.len
  have hll := q2.len
  have hp3 := q1.1.p3
  have hil := q1.1.vs.len
  have hrl : (s.rel L).length = 3 := Sy.rel_len
  simp -implicitDefEqProofs (disch := first | omega | (simp only [List.length_set, List.length_replicate, List.length_append, List.length_map, List.length_take, List.length_cons, List.length_nil]; omega)) [wrap64, q2, FT]
  refine (c_State_copyOf (Rt.on H) (by omega) (by omega)).go ?_
  intro o h3 H3
  obtain ⟨o1, o2, rfl, H4⟩ := H3.unSta
  have H := (H4.app H)
  simp -implicitDefEqProofs (disch := first | omega | (simp only [List.length_set, List.length_replicate, List.length_append, List.length_map, List.length_take, List.length_cons, List.length_nil]; omega)) [wrap64, H.rep.one, H.sw1.rep.one, H.sw2.rep.len, setC]
  refine wp_count 3 (fun i e h' => e = [none, none, none, some (.agg #[v1, v2]), none, some (.agg #[.slice none 0 0, .slice none 0 0]), none, none, none, some (.agg #[o1, o2]), none, none, some x, some (.int .i64 (s.rel L).length), some (.int .i64 i)] ∧ ∃ y, HS h [ow o1 st.locs, ow o2 y, ow x (s.rel L)] h' ∧ y.length = 3 ∧ y.take i = (prV s L st).take i ∧ ∀ (j : Nat) (hj : j < y.length) (hv : j < st.vals.length), i ≤ j → y[j] = st.vals[j]) ⟨by simp, st.vals, H, hvl, by simp, fun _ _ _ _ => rfl⟩ ?_
  clear H H3 H4
  rintro J i _ h4 hJ hi ⟨rfl, y, H, hyl, hy, hrest⟩
  by_cases hlt : i < 3
  · have hir : i < (s.rel L).length := by omega
    have hiy : i < y.length := by omega
    have hiv : i < st.vals.length := by omega
    have hii : i < s.init.length := by omega
    have hpl := prV_len (s := s) (L := L) (st := st)
    have hpi : (prV s L st)[i]'(by omega) = if (s.rel L)[i] then st.vals[i] else s.init[i] := by
      simp only [prV, List.getElem_map, List.getElem_range, List.getD_eq_getElem?_getD, List.getElem?_eq_getElem hir, List.getElem?_eq_getElem hiv, List.getElem?_eq_getElem hii, Option.getD_some]
    by_cases e : (s.rel L)[i] = true
    · simp -implicitDefEqProofs (disch := first | omega | (simp only [List.length_set, List.length_replicate, List.length_append, List.length_map, List.length_take, List.length_cons, List.length_nil]; omega)) [wrap64, hir, H.sw2.rep.B, e]
      refine hJ _ _ hlt ⟨by simp, y, H, hyl, take_step hy hiy (by omega) ?_, fun j hj hv hij => hrest j hj hv (by omega)⟩
      rw [hpi, if_pos e]
      exact hrest i hiy hiv (Nat.le_refl i)
    · simp -implicitDefEqProofs (disch := first | omega | (simp only [List.length_set, List.length_replicate, List.length_append, List.length_map, List.length_take, List.length_cons, List.length_nil]; omega)) [wrap64, hir, H.sw2.rep.B, e, (R1.on H).I, H.sw1.rep.I]
      have hb := R1.okI hii
      refine HS.storeF H.sw1 s.init[i] hiy rfl rfl ⟨hb.1, hb.2⟩ rfl fun h5 H => ?_
      simp -implicitDefEqProofs (disch := first | omega | (simp only [List.length_set, List.length_replicate, List.length_append, List.length_map, List.length_take, List.length_cons, List.length_nil]; omega)) [wrap64]
      refine hJ _ _ hlt ⟨by simp, _, H.sw1, by simp [hyl], ?_, fun j hj hv hij => ?_⟩
      · have := take_set_succ (x := prV s L st) hy (by omega) (by omega)
        rw [hpi, if_neg e] at this
        exact this
      · simp only [List.getElem_set]
        rw [if_neg (by omega)]
        exact hrest j (by simpa using hj) hv (by omega)
  · simp -implicitDefEqProofs (disch := first | omega | (simp only [List.length_set, List.length_replicate, List.length_append, List.length_map, List.length_take, List.length_cons, List.length_nil]; omega)) [wrap64, show ¬ i < (s.rel L).length by omega, H.rep.one, H.sw1.rep.one, setC]
    have he : y = prV s L st := eq_of_take hy (by rw [prV_len]; omega) (by rw [prV_len]; exact hyl)
    subst he
    exact RetK.keep (hk _ _ ⟨_, by rw [decide_eq_true ⟨q1.1, q1.2, q2⟩], by rw [prR, if_pos ⟨q1.1, q1.2, q2⟩]; exact (HS.mkSta (a := ⟨st.locs, prV s L st⟩) H).only⟩)

theorem c_spec_ProjectState {h : Heap} {v w t : Value} {s : Sy} {L : List Exq} {st : Sta} (R : Rep h v s) (RL : Rep h w L) (Rt : Rep h t st) : CallE Try.prog fn_spec_ProjectState [v, w, t] h (R2 (decide (s.Ok ∧ LOk L ∧ st.Ok s)) (prR s L st) h) := by
  have F := R.aSy
  have FT := Rt.aSta
  have R0 := R
  obtain ⟨v1, v2, rfl, R1, R2'⟩ := Rep_Sy.1 R
  obtain ⟨t1, t2, rfl, T1, T2⟩ := Rep_Sta.1 Rt
  refine CallE.gen fun k hk => EN_spec_ProjectState rfl ?_
  have hno : ¬ (s.Ok ∧ LOk L ∧ st.Ok s) → ∀ {h'}, h.le h' → k (.tuple #[.agg #[.slice none 0 0, .slice none 0 0], .bool false]) h' := fun hn h' hl => hk _ _ ⟨_, by rw [decide_eq_false hn], by rw [prR, if_neg hn]; exact zero_St (Γ := []) hl⟩
  simp -implicitDefEqProofs (disch := first | omega | (simp only [List.length_set, List.length_replicate, List.length_append, List.length_map, List.length_take, List.length_cons, List.length_nil]; omega)) [wrap64, F]
  refine (c_spec_RelevantVars R RL).go ?_
  rintro _ h1 ⟨x, rfl, H⟩
  by_cases q1 : s.Ok ∧ LOk L
  case neg =>
    simp -implicitDefEqProofs (disch := first | omega | (simp only [List.length_set, List.length_replicate, List.length_append, List.length_map, List.length_take, List.length_cons, List.length_nil]; omega)) [wrap64, q1, setC]
    exact RetK.keep (hno (fun hh => q1 ⟨hh.1, hh.2.1⟩) H.base)
  rw [relR, if_pos q1] at H
  simp -implicitDefEqProofs (disch := first | omega | (simp only [List.length_set, List.length_replicate, List.length_append, List.length_map, List.length_take, List.length_cons, List.length_nil]; omega)) [wrap64, q1, F, FT]
  refine (c_spec_StateValid (R0.on H) (Rt.on H)).go ?_
  rintro _ h2 ⟨rfl, rfl⟩
  by_cases q2 : st.Ok s
  case neg =>
    simp -implicitDefEqProofs (disch := first | omega | (simp only [List.length_set, List.length_replicate, List.length_append, List.length_map, List.length_take, List.length_cons, List.length_nil]; omega)) [wrap64, q2, q1.1, setC]
    exact RetK.keep (hno (fun hh => q2 hh.2.2) H.base)
  have hvl := q2.vs.len
  have hll := q2.len
  have hp3 := q1.1.p3
  have hil := q1.1.vs.len
  have hrl : (s.rel L).length = 3 := Sy.rel_len
  simp -implicitDefEqProofs (disch := first | omega | (simp only [List.length_set, List.length_replicate, List.length_append, List.length_map, List.length_take, List.length_cons, List.length_nil]; omega)) [wrap64, q2, q1.1, FT]
  refine HS.appPL (α := Int) (l2 := st.locs) H rfl rfl (T1.on H) rfl rfl (by omega) fun o1 h3 H => ?_
  simp -implicitDefEqProofs (disch := first | omega | (simp only [List.length_set, List.length_replicate, List.length_append, List.length_map, List.length_take, List.length_cons, List.length_nil]; omega)) [wrap64]
  refine HS.appPL (α := Int) (l2 := st.vals) H rfl rfl (T2.on H) rfl rfl (by omega) fun o2 h4 H => ?_
  simp -implicitDefEqProofs (disch := first | omega | (simp only [List.length_set, List.length_replicate, List.length_append, List.length_map, List.length_take, List.length_cons, List.length_nil]; omega)) [wrap64, H.rep.one, H.sw1.rep.one, H.rep.cells, H.sw1.rep.cells, setC]
  replace H := H.sw1
  refine wp_count 3 (fun i e h' => e = [none, none, none, some (.agg #[v1, v2]), none, some (.agg #[.slice none 0 0, .slice none 0 0]), none, some x, none, some (.agg #[o1, o2]), some (.int .i64 i)] ∧ ∃ y, HS h [ow o1 st.locs, ow o2 y, ow x (s.rel L)] h' ∧ y.length = 3 ∧ y.take i = (prV s L st).take i ∧ ∀ (j : Nat) (hj : j < y.length) (hv : j < st.vals.length), i ≤ j → y[j] = st.vals[j]) ⟨by simp, st.vals, H, hvl, by simp, fun _ _ _ _ => rfl⟩ ?_
  clear H
  rintro J i _ h4 hJ hi ⟨rfl, y, H, hyl, hy, hrest⟩
  have hylen := H.sw1.rep.len
  by_cases hlt : i < 3
  · have hir : i < (s.rel L).length := by omega
    have hiy : i < y.length := by omega
    have hiv : i < st.vals.length := by omega
    have hii : i < s.init.length := by omega
    have hpl := prV_len (s := s) (L := L) (st := st)
    have hpi : (prV s L st)[i]'(by omega) = if (s.rel L)[i] then st.vals[i] else s.init[i] := by
      simp only [prV, List.getElem_map, List.getElem_range, List.getD_eq_getElem?_getD, List.getElem?_eq_getElem hir, List.getElem?_eq_getElem hiv, List.getElem?_eq_getElem hii, Option.getD_some]
    by_cases e : (s.rel L)[i] = true
    · simp -implicitDefEqProofs (disch := first | omega | (simp only [List.length_set, List.length_replicate, List.length_append, List.length_map, List.length_take, List.length_cons, List.length_nil]; omega)) [wrap64, hylen, hiy, H.sw2.rep.B, e]
      refine hJ _ _ hlt ⟨by simp, y, H, hyl, take_step hy hiy (by omega) ?_, fun j hj hv hij => hrest j hj hv (by omega)⟩
      rw [hpi, if_pos e]
      exact hrest i hiy hiv (Nat.le_refl i)
    · simp -implicitDefEqProofs (disch := first | omega | (simp only [List.length_set, List.length_replicate, List.length_append, List.length_map, List.length_take, List.length_cons, List.length_nil]; omega)) [wrap64, hylen, hiy, H.sw2.rep.B, e, (R1.on H).I, H.sw1.rep.I]
      have hb := R1.okI hii
      refine HS.storeF H.sw1 s.init[i] hiy rfl rfl ⟨hb.1, hb.2⟩ rfl fun h5 H => ?_
      simp -implicitDefEqProofs (disch := first | omega | (simp only [List.length_set, List.length_replicate, List.length_append, List.length_map, List.length_take, List.length_cons, List.length_nil]; omega)) [wrap64]
      refine hJ _ _ hlt ⟨by simp, _, H.sw1, by simp [hyl], ?_, fun j hj hv hij => ?_⟩
      · have := take_set_succ (x := prV s L st) hy (by omega) (by omega)
        rw [hpi, if_neg e] at this
        exact this
      · simp only [List.getElem_set]
        rw [if_neg (by omega)]
        exact hrest j (by simpa using hj) hv (by omega)
  · simp -implicitDefEqProofs (disch := first | omega | (simp only [List.length_set, List.length_replicate, List.length_append, List.length_map, List.length_take, List.length_cons, List.length_nil]; omega)) [wrap64, hylen, show ¬ i < y.length by omega, H.rep.one, H.sw1.rep.one, setC]
    have he : y = prV s L st := eq_of_take hy (by rw [prV_len]; omega) (by rw [prV_len]; exact hyl)
    subst he
    exact RetK.keep (hk _ _ ⟨_, by rw [decide_eq_true ⟨q1.1, q1.2, q2⟩], by rw [prR, if_pos ⟨q1.1, q1.2, q2⟩]; exact (HS.mkSta (a := ⟨st.locs, prV s L st⟩) H).only⟩)

end Go.Proofs.Ytonjglbachhdcaa

/-
  Steps in plain Lean: which are enabled, and what they lead to.
-/
namespace Go.Proofs.Ytonjglbachhdcaa
open Go
set_option linter.all false
set_option linter.unusedVariables false
set_option linter.unusedSimpArgs false
set_option linter.defProp false
set_option maxRecDepth 1000000

theorem fm_tk {α β : Type} {f : α × Nat → List β} {l : List α} {i : Nat} (hi : i < l.length) : (l.zipIdx.take (i + 1)).flatMap f = (l.zipIdx.take i).flatMap f ++ f (l[i], i) := by
  rw [List.take_add_one, List.getElem?_eq_getElem (by simpa using hi), List.flatMap_append]
  simp
theorem fm_all {α β : Type} {f : α × Nat → List β} {l : List α} {i : Nat} (hi : l.length ≤ i) : (l.zipIdx.take i).flatMap f = l.zipIdx.flatMap f := by
  rw [List.take_of_length_le (by simpa using hi)]
theorem len_fm {α β : Type} {f : α → List β} {c : Nat} : ∀ {l : List α}, (∀ x ∈ l, (f x).length ≤ c) → (l.flatMap f).length ≤ l.length * c
  | [], _ => by simp
  | x :: l, h => by
    have h1 := len_fm (l := l) fun y hy => h y (by simp [hy])
    have h2 := h x (by simp)
    rw [List.flatMap_cons, List.length_append, List.length_cons, Nat.add_mul]
    omega
theorem len_fmz {α β : Type} {f : α × Nat → List β} {c : Nat} {l : List α} (h : ∀ (i : Nat) (hi : i < l.length), (f (l[i], i)).length ≤ c) (n : Nat) : ((l.zipIdx.take n).flatMap f).length ≤ l.length * c := by
  have h1 : ((l.zipIdx.take n).flatMap f).length ≤ (l.zipIdx.take n).length * c := len_fm fun x hx => by
    have h2 := List.mem_of_mem_take hx
    rw [List.mem_zipIdx_iff_getElem?, List.getElem?_eq_some_iff] at h2
    obtain ⟨h3, h4⟩ := h2
    have := h x.2 h3
    rw [h4] at this
    exact this
  have h2 : (l.zipIdx.take n).length * c ≤ l.length * c := Nat.mul_le_mul_right _ (by simp; omega)
  omega
theorem mem_fmz {α β : Type} {f : α × Nat → List β} {l : List α} {t : β} : t ∈ l.zipIdx.flatMap f ↔ ∃ (i : Nat) (hi : i < l.length), t ∈ f (l[i], i) := by
  rw [List.mem_flatMap]
  constructor
  · rintro ⟨x, hx, ht⟩
    rw [List.mem_zipIdx_iff_getElem?, List.getElem?_eq_some_iff] at hx
    obtain ⟨h3, h4⟩ := hx
    exact ⟨x.2, h3, by rw [h4]; exact ht⟩
  · rintro ⟨i, hi, ht⟩
    exact ⟨(l[i], i), by rw [List.mem_zipIdx_iff_getElem?]; simp [hi], ht⟩

/-- an edge is ready -/
def Ed.rdy (e : Ed) (st : Sta) (i : Nat) : Bool := decide (st.locs.getD i 0 = e.frm ∧ e.guard.ev st.vals ≠ 0)
def prt2 (st : Sta) (i k : Nat) (c : Int) (j : Nat) (x : Ed × Nat) : List Stp := if j ≠ i ∧ x.1.sync = -c ∧ x.1.rdy st j = true then [⟨i, k, j, x.2⟩] else []
def prt1 (st : Sta) (i k : Nat) (c : Int) (x : Pr × Nat) : List Stp := x.1.edges.zipIdx.flatMap (prt2 st i k c x.2)
/-- the steps with partners -/
def prt (s : Sy) (st : Sta) (i k : Nat) (c : Int) : List Stp := s.procs.zipIdx.flatMap (prt1 st i k c)
def enb2 (s : Sy) (st : Sta) (i : Nat) (x : Ed × Nat) : List Stp := if x.1.sync < 0 ∨ x.1.rdy st i = false then [] else if x.1.sync = 0 then [⟨i, x.2, -1, -1⟩] else prt s st i x.2 x.1.sync
def enb1 (s : Sy) (st : Sta) (x : Pr × Nat) : List Stp := x.1.edges.zipIdx.flatMap (enb2 s st x.2)
/-- the enabled steps -/
def enb (s : Sy) (st : Sta) : List Stp := s.procs.zipIdx.flatMap (enb1 s st)

theorem prt1_len {st : Sta} {i k : Nat} {c : Int} {p : Pr} {j n : Nat} (hp : p.Ok) : ((p.edges.zipIdx.take n).flatMap (prt2 st i k c j)).length ≤ 6 := by
  have h1 := len_fmz (f := prt2 st i k c j) (c := 1) (l := p.edges) (fun m hm => by unfold prt2; split <;> simp) n
  have := hp.el
  omega
theorem prt_len {s : Sy} {st : Sta} {i k n : Nat} {c : Int} (hs : s.Ok) : ((s.procs.zipIdx.take n).flatMap (prt1 st i k c)).length ≤ 18 := by
  have h1 := len_fmz (f := prt1 st i k c) (c := 6) (l := s.procs) (fun m hm => by
    have := prt1_len (st := st) (i := i) (k := k) (c := c) (j := m) (n := s.procs[m].edges.length) (hs.at hm)
    rw [fm_all (Nat.le_refl _)] at this
    exact this) n
  have := hs.p3
  omega
theorem prt_len' {s : Sy} {st : Sta} {i k : Nat} {c : Int} (hs : s.Ok) : (prt s st i k c).length ≤ 18 := by
  have := prt_len (st := st) (i := i) (k := k) (c := c) (n := s.procs.length) hs
  rwa [fm_all (Nat.le_refl _)] at this
theorem enb2_len {s : Sy} {st : Sta} {i : Nat} {x : Ed × Nat} (hs : s.Ok) : (enb2 s st i x).length ≤ 18 := by
  unfold enb2
  split
  · simp
  · split
    · simp
    · exact prt_len' hs
theorem enb1_len {s : Sy} {st : Sta} {i n : Nat} {p : Pr} (hs : s.Ok) (hp : p.Ok) : ((p.edges.zipIdx.take n).flatMap (enb2 s st i)).length ≤ 108 := by
  have h1 := len_fmz (f := enb2 s st i) (c := 18) (l := p.edges) (fun m hm => enb2_len hs) n
  have := hp.el
  omega
theorem enb_len {s : Sy} {st : Sta} {n : Nat} (hs : s.Ok) : ((s.procs.zipIdx.take n).flatMap (enb1 s st)).length ≤ 324 := by
  have h1 := len_fmz (f := enb1 s st) (c := 108) (l := s.procs) (fun m hm => by
    have := enb1_len (s := s) (st := st) (i := m) (n := s.procs[m].edges.length) hs (hs.at hm)
    rw [fm_all (Nat.le_refl _)] at this
    exact this) n
  have := hs.p3
  omega
theorem enb_len' {s : Sy} {st : Sta} (hs : s.Ok) : (enb s st).length ≤ 324 := by
  have := enb_len (st := st) (n := s.procs.length) hs
  rwa [fm_all (Nat.le_refl _)] at this

/-- where a step's edges lie -/
structure Stp.In (s : Sy) (t : Stp) : Prop where
  ex : ∃ (i k : Nat) (hi : i < s.procs.length) (_ : k < s.procs[i].edges.length), t.proc = i ∧ t.edge = k
  pt : t.partner = -1 ∨ ∃ (j m : Nat) (hj : j < s.procs.length) (_ : m < s.procs[j].edges.length), t.partner = j ∧ t.pedge = m
theorem enb_in {s : Sy} {st : Sta} {t : Stp} (h : t ∈ enb s st) : t.In s := by
  unfold enb at h
  obtain ⟨i, hi, h⟩ := mem_fmz.1 h
  unfold enb1 at h
  obtain ⟨k, hk, h⟩ := mem_fmz.1 h
  unfold enb2 at h
  split at h
  · simp at h
  · split at h
    · simp at h; subst h
      exact ⟨⟨i, k, hi, hk, rfl, rfl⟩, .inl rfl⟩
    · unfold prt at h
      obtain ⟨j, hj, h⟩ := mem_fmz.1 h
      unfold prt1 at h
      obtain ⟨m, hm, h⟩ := mem_fmz.1 h
      unfold prt2 at h
      split at h
      · simp at h; subst h
        exact ⟨⟨i, k, hi, hk, rfl, rfl⟩, .inr ⟨j, m, hj, hm, rfl, rfl⟩⟩
      · simp at h

/-- an edge is taken -/
def Sta.tk (st : Sta) (i : Nat) (e : Ed) : Sta := ⟨st.locs.set i e.to, if 0 ≤ e.var then st.vals.set e.var.toNat (e.value.ev st.vals) else st.vals⟩
def Sy.ed (s : Sy) (i k : Nat) : Ed := (s.procs.getD i ⟨0, []⟩).edges.getD k ⟨0, 0, Exq.zero, 0, Exq.zero, 0⟩
theorem Sy.ed_eq {s : Sy} {i k : Nat} (hi : i < s.procs.length) (hk : k < s.procs[i].edges.length) : s.ed i k = s.procs[i].edges[k] := by
  simp [Sy.ed, hi, hk]
/-- the state after a step -/
def Sta.aft (s : Sy) (st : Sta) (t : Stp) : Sta := if 0 ≤ t.partner then (st.tk t.proc.toNat (s.ed t.proc.toNat t.edge.toNat)).tk t.partner.toNat (s.ed t.partner.toNat t.pedge.toNat) else st.tk t.proc.toNat (s.ed t.proc.toNat t.edge.toNat)
theorem Sta.tk_ok {s : Sy} {st : Sta} {i : Nat} {e : Ed} (h : st.Ok s) (hi : i < s.procs.length) (he : e.Ok s.procs[i].locs) : (st.tk i e).Ok s := by
  have hv := h.vs
  refine ⟨by simp [Sta.tk, h.len], ?_, fun j h1 h2 => ?_⟩
  · unfold Sta.tk
    simp only
    split
    · rename_i h0
      have hvo : e.value.Ok := he.vl.elim (fun hh => hh.2) (fun hh => absurd hh.1 (by omega))
      have hb := Exq.ev_bnd hv hvo.1
      refine ⟨by simp [hv.len], fun x hx => ?_⟩
      rcases List.mem_or_eq_of_mem_set hx with h1 | h1
      · exact hv.2 x h1
      · rw [h1]; exact hb
    · exact hv
  · simp only [Sta.tk, List.getElem_set]
    split
    · rename_i e1
      subst e1
      exact ⟨he.t0, he.t1⟩
    · exact h.lc j (by simpa [Sta.tk] using h1) h2
theorem Sta.aft_ok {s : Sy} {st : Sta} {t : Stp} (hs : s.Ok) (h : st.Ok s) (ht : t.In s) : (st.aft s t).Ok s := by
  obtain ⟨⟨i, k, hi, hk, h1, h2⟩, h3⟩ := ht
  have g1 : (st.tk t.proc.toNat (s.ed t.proc.toNat t.edge.toNat)).Ok s := by
    rw [h1, h2, Int.toNat_natCast, Int.toNat_natCast, Sy.ed_eq hi hk]
    exact Sta.tk_ok h hi ((hs.at hi).at hk)
  unfold Sta.aft
  rcases h3 with h3 | ⟨j, m, hj, hm, h3, h4⟩
  · rw [if_neg (by omega)]; exact g1
  · rw [if_pos (by omega)]
    have : (st.tk t.proc.toNat (s.ed t.proc.toNat t.edge.toNat)).tk t.partner.toNat (s.ed t.partner.toNat t.pedge.toNat) = (st.tk t.proc.toNat (s.ed t.proc.toNat t.edge.toNat)).tk j (s.procs[j].edges[m]) := by
      rw [h3, h4, Int.toNat_natCast, Int.toNat_natCast, Sy.ed_eq hj hm]
    rw [this]
    exact Sta.tk_ok g1 hj ((hs.at hj).at hm)
noncomputable def ens (s : Sy) (st : Sta) : List Stp := if s.Ok ∧ st.Ok s then enb s st else []
end Go.Proofs.Ytonjglbachhdcaa

/-
  Instances of functions over slices: copies, and whether some element meets a condition. Printed by a program.
-/
namespace Go.Proofs.Ytonjglbachhdcaa
open Go
set_option linter.all false
set_option linter.unusedVariables false
set_option linter.unusedSimpArgs false
set_option linter.defProp false
set_option maxRecDepth 1000000

theorem c_Clip_impl_Step {g h : Heap} {Γ : List HP} {a : Value} {x : List Stp} (H : HS g (ow a x :: Γ) h) : CallE Try.prog fn_slices_Clip_S_impl_Step_impl_Step [a] h (fun v h' => HS g (ow v x :: Γ) h') := by
  refine CallE.gen fun k hk => EN_slices_Clip_S_impl_Step_impl_Step rfl ?_
  obtain ⟨v', h1, h2⟩ := H.clip (esz := 4) (k := .i64)
  simp -implicitDefEqProofs (disch := first | omega | (simp only [List.length_set, List.length_replicate, List.length_append, List.length_map, List.length_take, List.length_cons, List.length_nil]; omega)) [wrap64, H.rep.len, h1]
  exact RetK.keep (hk _ _ h2)

end Go.Proofs.Ytonjglbachhdcaa

/-
  Steps: which are enabled, by the program and by the reference.
-/
namespace Go.Proofs.Ytonjglbachhdcaa
open Go
set_option linter.all false
set_option linter.unusedVariables false
set_option linter.unusedSimpArgs false
set_option linter.defProp false
set_option maxRecDepth 1000000

/-- where an edge of a system lies -/
theorem Rep.edge {h : Heap} {v : Value} {l : List Pr} (R : Rep h v l) {i k : Nat} (hi : i < l.length) (hk : k < l[i].edges.length) :
    ∃ we w1 w2, hload h (some (elp 2 v i)) (some 2) = some (.agg ([.int .i64 l[i].locs, we] : List Value).toArray) ∧ Rep h we l[i].edges ∧ hload h (some (elp 10 we k)) (some 10) = some (.agg (l[i].edges[k].cs w1 w2).toArray) ∧
      l[i].edges[k].ok ∧ Rep h w1 l[i].edges[k].guard.kids ∧ Rep h w2 l[i].edges[k].value.kids := by
  obtain ⟨u, hu, Ru⟩ := R.ld hi
  obtain ⟨we, rfl, k1, R3⟩ := Rep_Pr.1 Ru
  obtain ⟨u2, hu2, Ru2⟩ := R3.ld hk
  obtain ⟨w1, w2, rfl, ok, G1, G2⟩ := Rep_Ed.1 Ru2
  exact ⟨we, w1, w2, hu, R3, hu2, ok, G1, G2⟩

theorem c_ready {h : Heap} {v w : Value} {s : Sy} {st : Sta} (hs : s.Ok) (ht : st.Ok s) (R : Rep h v s) (Rt : Rep h w st) {i m : Nat} (hi : i < s.procs.length) (hm : m < s.procs[i].edges.length) :
    CallE Try.prog fn_impl_System_ready [v, w, .int .i64 i, .int .i64 m] h (fun u h' => h' = h ∧ u = .bool (s.procs[i].edges[m].rdy st i)) := by
  obtain ⟨v1, v2, rfl, R1, R2'⟩ := Rep_Sy.1 R
  obtain ⟨t1, t2, rfl, T1, T2⟩ := Rep_Sta.1 Rt
  obtain ⟨we, w1, w2, hu, R3, hu2, ok, G1, G2⟩ := R2'.edge hi hm
  have hP := hld_parts hu
  have heo := (hs.at hi).at hm
  have hil : i < st.locs.length := by rw [ht.len]; exact hi
  have hF3 := G1.one
  have hF4 := G2.one
  refine CallE.gen fun k hk => EN_impl_System_ready rfl ?_
  by_cases a1 : st.locs[i] = s.procs[i].edges[m].frm
  case neg =>
    simp -implicitDefEqProofs (disch := first | omega | (simp only [List.length_set, List.length_replicate, List.length_append, List.length_map, List.length_take, List.length_cons, List.length_nil]; omega)) [wrap64, R2'.X (n := 2) rfl, hP.1, hP.2.2.1, R3.X (n := 10) rfl, hu2, Ed.cs, setC, hF3, hF4, T1.I, a1]
    exact RetK.keep (hk _ _ ⟨rfl, by simp [Ed.rdy, hil, a1]⟩)
  simp -implicitDefEqProofs (disch := first | omega | (simp only [List.length_set, List.length_replicate, List.length_append, List.length_map, List.length_take, List.length_cons, List.length_nil]; omega)) [wrap64, R2'.X (n := 2) rfl, hP.1, hP.2.2.1, R3.X (n := 10) rfl, hu2, Ed.cs, setC, hF3, hF4, T1.I, a1]
  refine (c_eval _ ht.vs heo.gd.1 (Rep.gd (w2 := w2) ok G1) T2).go ?_
  rintro _ h ⟨rfl, rfl⟩
  simp -implicitDefEqProofs (disch := first | omega | (simp only [List.length_set, List.length_replicate, List.length_append, List.length_map, List.length_take, List.length_cons, List.length_nil]; omega)) [wrap64]
  exact RetK.keep (hk _ _ ⟨rfl, by simp [Ed.rdy, hil, a1]⟩)
theorem c_l3Ready {h : Heap} {v w : Value} {s : Sy} {st : Sta} (hs : s.Ok) (ht : st.Ok s) (R : Rep h v s) (Rt : Rep h w st) {i m : Nat} (hi : i < s.procs.length) (hm : m < s.procs[i].edges.length) :
    CallE Try.prog fn_spec_l3Ready [v, w, .int .i64 i, .int .i64 m] h (fun u h' => h' = h ∧ u = .bool (s.procs[i].edges[m].rdy st i)) := by
  obtain ⟨v1, v2, rfl, R1, R2'⟩ := Rep_Sy.1 R
  obtain ⟨t1, t2, rfl, T1, T2⟩ := Rep_Sta.1 Rt
  obtain ⟨we, w1, w2, hu, R3, hu2, ok, G1, G2⟩ := R2'.edge hi hm
  have hP := hld_parts hu
  have heo := (hs.at hi).at hm
  have hil : i < st.locs.length := by rw [ht.len]; exact hi
  have hF3 := G1.one
  have hF4 := G2.one
  refine CallE.gen fun k hk => EN_spec_l3Ready rfl ?_
  by_cases a1 : s.procs[i].edges[m].frm = st.locs[i]
  case neg =>
    simp -implicitDefEqProofs (disch := first | omega | (simp only [List.length_set, List.length_replicate, List.length_append, List.length_map, List.length_take, List.length_cons, List.length_nil]; omega)) [wrap64, R2'.X (n := 2) rfl, hP.1, hP.2.2.1, R3.X (n := 10) rfl, hu2, Ed.cs, setC, hF3, hF4, T1.I, a1]
    exact RetK.keep (hk _ _ ⟨rfl, by simp [Ed.rdy, hil, Ne.symm a1]⟩)
  simp -implicitDefEqProofs (disch := first | omega | (simp only [List.length_set, List.length_replicate, List.length_append, List.length_map, List.length_take, List.length_cons, List.length_nil]; omega)) [wrap64, R2'.X (n := 2) rfl, hP.1, hP.2.2.1, R3.X (n := 10) rfl, hu2, Ed.cs, setC, hF3, hF4, T1.I, a1]
  refine (c_l1Eval _ ht.vs heo.gd.1 (Rep.gd (w2 := w2) ok G1) T2).go ?_
  rintro _ h ⟨rfl, rfl⟩
  simp -implicitDefEqProofs (disch := first | omega | (simp only [List.length_set, List.length_replicate, List.length_append, List.length_map, List.length_take, List.length_cons, List.length_nil]; omega)) [wrap64]
  exact RetK.keep (hk _ _ ⟨rfl, by simp [Ed.rdy, hil, a1]⟩)

theorem c_enabled {h : Heap} {v w : Value} {s : Sy} {st : Sta} (hs : s.Ok) (ht : st.Ok s) (R : Rep h v s) (Rt : Rep h w st) : CallE Try.prog fn_impl_System_enabled [v, w] h (fun u h' => HS h [ow u (enb s st)] h') := by
  have FS := R.aSy
  have FT := Rt.aSta
  have R0 := R
  have Rt0 := Rt
  obtain ⟨v1, v2, rfl, R1, R2'⟩ := Rep_Sy.1 R
  obtain ⟨t1, t2, rfl, T1, T2⟩ := Rep_Sta.1 Rt
  have hp3 := hs.p3
  refine CallE.gen fun k hk => EN_impl_System_enabled rfl ?_
  simp -implicitDefEqProofs (disch := first | omega | (simp only [List.length_set, List.length_replicate, List.length_append, List.length_map, List.length_take, List.length_cons, List.length_nil]; omega)) [wrap64, R2'.len]
  refine wp_count s.procs.length (fun i e h' => ∃ o, e = [none, none, some (.agg #[v1, v2]), some (.agg #[t1, t2]), none, some o, none, none, none, none, none, none, none, none, some v2, some (.int .i64 s.procs.length), some (.int .i64 i), none, none, none, none, none, none, none, none, none] ∧ HS h [ow o ((s.procs.zipIdx.take i).flatMap (enb1 s st))] h') ⟨.slice none 0 0, by simp, by simpa using HS.init.nil_ow (α := Stp)⟩ ?_
  rintro J0 i _ h1 hJ0 hi ⟨o, rfl, H⟩
  simp -implicitDefEqProofs (disch := first | omega | (simp only [List.length_set, List.length_replicate, List.length_append, List.length_map, List.length_take, List.length_cons, List.length_nil]; omega)) [wrap64]
  refine IteW.mk (fun hlt => ?_) (fun hge => ?_)
  · have hi : i < s.procs.length := by omega
    obtain ⟨A, hA⟩ : ∃ A, A = (s.procs.zipIdx.take i).flatMap (enb1 s st) := ⟨_, rfl⟩
    have hAl : A.length ≤ 324 := by rw [hA]; exact enb_len hs
    obtain ⟨u, hu, Ru⟩ := R2'.ld hi
    have hu2 := hload_le H.base hu
    change hload _ (some (elp 2 v2 i)) (some 2) = some u at hu2
    obtain ⟨we, rfl, k1, R3⟩ := Rep_Pr.1 Ru
    have hpo := hs.at hi
    have hel := hpo.el
    have hF1 := R3.cells
    have hF2 := R3.one
    rw [← hA] at H
    simp -implicitDefEqProofs (disch := first | omega | (simp only [List.length_set, List.length_replicate, List.length_append, List.length_map, List.length_take, List.length_cons, List.length_nil]; omega)) [wrap64, R2'.X (n := 2) rfl, hu2, hF1, hF2, setC, R3.len]
    refine wp_count s.procs[i].edges.length (fun m e h' => ∃ o, e = [none, none, some (.agg #[v1, v2]), some (.agg #[t1, t2]), none, some o, some (.int .i64 i), none, none, none, none, none, none, none, some v2, some (.int .i64 s.procs.length), some (.int .i64 i), some we, some (.int .i64 s.procs[i].edges.length), some (.int .i64 m), none, none, none, none, none, none] ∧ HS h [ow o (A ++ (s.procs[i].edges.zipIdx.take m).flatMap (enb2 s st i))] h') ⟨o, by simp, by simpa using H⟩ ?_
    clear H
    rintro J1 m _ h2 hJ1 hm ⟨o, rfl, H⟩
    simp -implicitDefEqProofs (disch := first | omega | (simp only [List.length_set, List.length_replicate, List.length_append, List.length_map, List.length_take, List.length_cons, List.length_nil]; omega)) [wrap64]
    refine IteW.mk (fun hlt1 => ?_) (fun hge1 => ?_)
    · have hm : m < s.procs[i].edges.length := by omega
      obtain ⟨B, hB⟩ : ∃ B, B = A ++ (s.procs[i].edges.zipIdx.take m).flatMap (enb2 s st i) := ⟨_, rfl⟩
      have hBl : B.length ≤ 432 := by
        rw [hB, List.length_append]
        have := enb1_len (st := st) (i := i) (n := m) hs hpo
        omega
      have hstep : A ++ (s.procs[i].edges.zipIdx.take (m + 1)).flatMap (enb2 s st i) = B ++ enb2 s st i (s.procs[i].edges[m], m) := by rw [fm_tk hm, ← List.append_assoc, ← hB]
      rw [← hB] at H
      obtain ⟨u, hu, Ru⟩ := R3.ld hm
      have hu2 := hload_le H.base hu
      change hload _ (some (elp 10 we m)) (some 10) = some u at hu2
      obtain ⟨w1, w2, rfl, ok, G1, G2⟩ := Rep_Ed.1 Ru
      have heo := hpo.at hm
      have hF3 := G1.one
      have hF4 := G2.one
      have hgo : ∀ {o' h'}, HS h [ow o' (B ++ enb2 s st i (s.procs[i].edges[m], m))] h' → J1 [none, none, some (.agg #[v1, v2]), some (.agg #[t1, t2]), none, some o', some (.int .i64 i), none, none, none, none, none, none, none, some v2, some (.int .i64 s.procs.length), some (.int .i64 i), some we, some (.int .i64 s.procs[i].edges.length), some (.int .i64 ((m + 1 : Nat) : Int)), none, none, none, none, none, none] h' :=
        fun {o' h'} H => hJ1 _ _ hm ⟨o', by simp, by rw [hstep]; exact H⟩
      simp -implicitDefEqProofs (disch := first | omega | (simp only [List.length_set, List.length_replicate, List.length_append, List.length_map, List.length_take, List.length_cons, List.length_nil]; omega)) [wrap64, R3.X (n := 10) rfl, hu2, Ed.cs, setC, hF3, hF4]
      refine (c_ready hs ht (R0.on H) (Rt0.on H) hi hm).go ?_
      rintro _ h2 ⟨rfl, rfl⟩
      by_cases a1 : s.procs[i].edges[m].rdy st i = true
      case neg =>
        simp -implicitDefEqProofs (disch := first | omega | (simp only [List.length_set, List.length_replicate, List.length_append, List.length_map, List.length_take, List.length_cons, List.length_nil]; omega)) [wrap64, a1]
        exact hgo (by rw [enb2, if_pos (.inr (by simpa using a1))]; simpa using H)
      by_cases a2 : s.procs[i].edges[m].sync < 0
      · simp -implicitDefEqProofs (disch := first | omega | (simp only [List.length_set, List.length_replicate, List.length_append, List.length_map, List.length_take, List.length_cons, List.length_nil]; omega)) [wrap64, a1, a2]
        exact hgo (by rw [enb2, if_pos (.inl a2)]; simpa using H)
      by_cases a3 : s.procs[i].edges[m].sync = 0
      · simp -implicitDefEqProofs (disch := first | omega | (simp only [List.length_set, List.length_replicate, List.length_append, List.length_map, List.length_take, List.length_cons, List.length_nil]; omega)) [wrap64, a1, a2, a3, setC]
        refine H.app1 (bytes := 32) (⟨i, m, -1, -1⟩ : Stp) rfl rfl rfl (Stp.ok_iff.2 ⟨by dsimp only; omega, by dsimp only; omega, by dsimp only; omega, by dsimp only; omega⟩) rfl rfl (by omega) (by omega) fun o' h3 H => ?_
        simp -implicitDefEqProofs (disch := first | omega | (simp only [List.length_set, List.length_replicate, List.length_append, List.length_map, List.length_take, List.length_cons, List.length_nil]; omega)) [wrap64]
        refine hgo ?_
        rw [enb2, if_neg (by simp [a2, a1]), if_pos a3]; exact H
      simp -implicitDefEqProofs (disch := first | omega | (simp only [List.length_set, List.length_replicate, List.length_append, List.length_map, List.length_take, List.length_cons, List.length_nil]; omega)) [wrap64, a1, a2, a3, R2'.len]
      have hen : enb2 s st i (s.procs[i].edges[m], m) = prt s st i m s.procs[i].edges[m].sync := by rw [enb2, if_neg (by simp [a2, a1]), if_neg a3]
      rw [hen] at hgo
      obtain ⟨c, hc⟩ : ∃ c, c = s.procs[i].edges[m].sync := ⟨_, rfl⟩
      rw [← hc] at hgo
      have hs0 := heo.s0
      have hs1 := heo.s1
      refine wp_count s.procs.length (fun j e h' => ∃ o, e = [none, none, some (.agg #[v1, v2]), some (.agg #[t1, t2]), none, some o, some (.int .i64 i), none, some (.int .i64 m), some (.agg (s.procs[i].edges[m].cs w1 w2).toArray), none, none, none, none, some v2, some (.int .i64 s.procs.length), some (.int .i64 i), some we, some (.int .i64 s.procs[i].edges.length), some (.int .i64 m), some v2, some (.int .i64 s.procs.length), some (.int .i64 j), none, none, none] ∧ HS h [ow o (B ++ (s.procs.zipIdx.take j).flatMap (prt1 st i m c))] h') ⟨o, by simp [Ed.cs], by simpa using H⟩ ?_
      clear H
      rintro J2 j _ h3 hJ2 hj ⟨o, rfl, H⟩
      simp -implicitDefEqProofs (disch := first | omega | (simp only [List.length_set, List.length_replicate, List.length_append, List.length_map, List.length_take, List.length_cons, List.length_nil]; omega)) [wrap64]
      refine IteW.mk (fun hlt2 => ?_) (fun hge2 => ?_)
      · have hj : j < s.procs.length := by omega
        obtain ⟨D, hD⟩ : ∃ D, D = B ++ (s.procs.zipIdx.take j).flatMap (prt1 st i m c) := ⟨_, rfl⟩
        have hDl : D.length ≤ 450 := by
          rw [hD, List.length_append]
          have := prt_len (st := st) (i := i) (k := m) (c := c) (n := j) hs
          omega
        rw [← hD] at H
        obtain ⟨u, hu, Ru⟩ := R2'.ld hj
        have hu2 := hload_le H.base hu
        change hload _ (some (elp 2 v2 j)) (some 2) = some u at hu2
        obtain ⟨wf, rfl, k2, R4⟩ := Rep_Pr.1 Ru
        have hpj := hs.at hj
        have hej := hpj.el
        have hF5 := R4.cells
        have hF6 := R4.one
        simp -implicitDefEqProofs (disch := first | omega | (simp only [List.length_set, List.length_replicate, List.length_append, List.length_map, List.length_take, List.length_cons, List.length_nil]; omega)) [wrap64, R2'.X (n := 2) rfl, hu2, hF5, hF6, setC, R4.len]
        refine wp_count s.procs[j].edges.length (fun n e h' => ∃ o, e = [none, none, some (.agg #[v1, v2]), some (.agg #[t1, t2]), none, some o, some (.int .i64 i), none, some (.int .i64 m), some (.agg (s.procs[i].edges[m].cs w1 w2).toArray), some (.int .i64 j), none, none, none, some v2, some (.int .i64 s.procs.length), some (.int .i64 i), some we, some (.int .i64 s.procs[i].edges.length), some (.int .i64 m), some v2, some (.int .i64 s.procs.length), some (.int .i64 j), some wf, some (.int .i64 s.procs[j].edges.length), some (.int .i64 n)] ∧ HS h [ow o (D ++ (s.procs[j].edges.zipIdx.take n).flatMap (prt2 st i m c j))] h') ⟨o, by simp, by simpa using H⟩ ?_
        clear H
        rintro J3 n _ h4 hJ3 hn ⟨o, rfl, H⟩
        simp -implicitDefEqProofs (disch := first | omega | (simp only [List.length_set, List.length_replicate, List.length_append, List.length_map, List.length_take, List.length_cons, List.length_nil]; omega)) [wrap64]
        refine IteW.mk (fun hlt3 => ?_) (fun hge3 => ?_)
        · have hn : n < s.procs[j].edges.length := by omega
          obtain ⟨E, hE⟩ : ∃ E, E = D ++ (s.procs[j].edges.zipIdx.take n).flatMap (prt2 st i m c j) := ⟨_, rfl⟩
          have hEl : E.length ≤ 456 := by
            rw [hE, List.length_append]
            have := prt1_len (st := st) (i := i) (k := m) (c := c) (j := j) (n := n) hpj
            omega
          have hstep2 : D ++ (s.procs[j].edges.zipIdx.take (n + 1)).flatMap (prt2 st i m c j) = E ++ prt2 st i m c j (s.procs[j].edges[n], n) := by rw [fm_tk hn, ← List.append_assoc, ← hE]
          rw [← hE] at H
          obtain ⟨u, hu, Ru⟩ := R4.ld hn
          have hu2 := hload_le H.base hu
          change hload _ (some (elp 10 wf n)) (some 10) = some u at hu2
          obtain ⟨x1, x2, rfl, okf, X1, X2⟩ := Rep_Ed.1 Ru
          have hF7 := X1.one
          have hF8 := X2.one
          have hgo2 : ∀ {o' h'}, HS h [ow o' (E ++ prt2 st i m c j (s.procs[j].edges[n], n))] h' → J3 [none, none, some (.agg #[v1, v2]), some (.agg #[t1, t2]), none, some o', some (.int .i64 i), none, some (.int .i64 m), some (.agg (s.procs[i].edges[m].cs w1 w2).toArray), some (.int .i64 j), none, none, none, some v2, some (.int .i64 s.procs.length), some (.int .i64 i), some we, some (.int .i64 s.procs[i].edges.length), some (.int .i64 m), some v2, some (.int .i64 s.procs.length), some (.int .i64 j), some wf, some (.int .i64 s.procs[j].edges.length), some (.int .i64 ((n + 1 : Nat) : Int))] h' :=
            fun {o' h'} H => hJ3 _ _ hn ⟨o', by simp, by rw [hstep2]; exact H⟩
          simp only [Ed.cs] at hgo2
          by_cases b1 : j = i
          · simp -implicitDefEqProofs (disch := first | omega | (simp only [List.length_set, List.length_replicate, List.length_append, List.length_map, List.length_take, List.length_cons, List.length_nil]; omega)) [wrap64, R4.X (n := 10) rfl, hu2, Ed.cs, setC, hF7, hF8, b1]
            subst b1
            exact hgo2 (by rw [prt2, if_neg (fun hh => hh.1 rfl)]; simpa using H)
          have b1' : ¬ ((j : Int) = i) := by omega
          by_cases b2 : s.procs[j].edges[n].sync = -c
          case neg =>
            have b2' := b2
            rw [hc] at b2'
            simp -implicitDefEqProofs (disch := first | omega | (simp only [List.length_set, List.length_replicate, List.length_append, List.length_map, List.length_take, List.length_cons, List.length_nil]; omega)) [wrap64, R4.X (n := 10) rfl, hu2, Ed.cs, setC, hF7, hF8, b1, b1', b2']
            exact hgo2 (by rw [prt2, if_neg (fun hh => b2 hh.2.1)]; simpa using H)
          have b2' := b2
          rw [hc] at b2'
          simp -implicitDefEqProofs (disch := first | omega | (simp only [List.length_set, List.length_replicate, List.length_append, List.length_map, List.length_take, List.length_cons, List.length_nil]; omega)) [wrap64, R4.X (n := 10) rfl, hu2, Ed.cs, setC, hF7, hF8, b1, b1', b2']
          refine (c_ready hs ht (R0.on H) (Rt0.on H) hj hn).go ?_
          rintro _ h4 ⟨rfl, rfl⟩
          by_cases b3 : s.procs[j].edges[n].rdy st j = true
          case neg =>
            simp -implicitDefEqProofs (disch := first | omega | (simp only [List.length_set, List.length_replicate, List.length_append, List.length_map, List.length_take, List.length_cons, List.length_nil]; omega)) [wrap64, b3]
            exact hgo2 (by rw [prt2, if_neg (fun hh => b3 hh.2.2)]; simpa using H)
          simp -implicitDefEqProofs (disch := first | omega | (simp only [List.length_set, List.length_replicate, List.length_append, List.length_map, List.length_take, List.length_cons, List.length_nil]; omega)) [wrap64, b3, setC]
          refine H.app1 (bytes := 32) (⟨i, m, j, n⟩ : Stp) rfl rfl rfl (Stp.ok_iff.2 ⟨by dsimp only; omega, by dsimp only; omega, by dsimp only; omega, by dsimp only; omega⟩) rfl rfl (by omega) (by omega) fun o' h5 H => ?_
          simp -implicitDefEqProofs (disch := first | omega | (simp only [List.length_set, List.length_replicate, List.length_append, List.length_map, List.length_take, List.length_cons, List.length_nil]; omega)) [wrap64]
          refine hgo2 ?_
          rw [prt2, if_pos ⟨b1, b2, b3⟩]; exact H
        simp -implicitDefEqProofs (disch := first | omega | (simp only [List.length_set, List.length_replicate, List.length_append, List.length_map, List.length_take, List.length_cons, List.length_nil]; omega)) [wrap64]
        rw [fm_all (by omega)] at H
        exact hJ2 _ _ hj ⟨o, by simp, by rw [fm_tk hj, ← List.append_assoc, ← hD]; exact H⟩
      simp -implicitDefEqProofs (disch := first | omega | (simp only [List.length_set, List.length_replicate, List.length_append, List.length_map, List.length_take, List.length_cons, List.length_nil]; omega)) [wrap64]
      rw [fm_all (by omega)] at H
      exact hgo H
    simp -implicitDefEqProofs (disch := first | omega | (simp only [List.length_set, List.length_replicate, List.length_append, List.length_map, List.length_take, List.length_cons, List.length_nil]; omega)) [wrap64]
    rw [fm_all (by omega)] at H
    exact hJ0 _ _ hi ⟨o, by simp, by rw [fm_tk hi, ← hA]; exact H⟩
  simp -implicitDefEqProofs (disch := first | omega | (simp only [List.length_set, List.length_replicate, List.length_append, List.length_map, List.length_take, List.length_cons, List.length_nil]; omega)) [wrap64]
  rw [fm_all (by omega)] at H
  refine (c_Clip_impl_Step H).go ?_
  intro o' h2 H
  simp -implicitDefEqProofs (disch := first | omega | (simp only [List.length_set, List.length_replicate, List.length_append, List.length_map, List.length_take, List.length_cons, List.length_nil]; omega)) [wrap64]
  exact RetK.keep (hk _ _ H)
end Go.Proofs.Ytonjglbachhdcaa

/-
  Steps by the reference; the state after a step, by the program and by the reference.
-/
namespace Go.Proofs.Ytonjglbachhdcaa
open Go
set_option linter.all false
set_option linter.unusedVariables false
set_option linter.unusedSimpArgs false
set_option linter.defProp false
set_option maxRecDepth 1000000

theorem c_l3Partners {h : Heap} {v w : Value} {s : Sy} {st : Sta} (hs : s.Ok) (ht : st.Ok s) (R : Rep h v s) (Rt : Rep h w st) {i m : Nat} (hi : i < s.procs.length) (hm : m < s.procs[i].edges.length) :
    CallE Try.prog fn_spec_l3Partners [v, w, .int .i64 i, .int .i64 m] h (fun u h' => HS h [ow u (prt s st i m s.procs[i].edges[m].sync)] h') := by
  have R0 := R
  have Rt0 := Rt
  obtain ⟨v1, v2, rfl, R1, R2'⟩ := Rep_Sy.1 R
  obtain ⟨t1, t2, rfl, T1, T2⟩ := Rep_Sta.1 Rt
  have hp3 := hs.p3
  have heo := (hs.at hi).at hm
  have hs0 := heo.s0
  have hs1 := heo.s1
  obtain ⟨we, w1, w2, hu, R3, hu2, ok, G1, G2⟩ := R2'.edge hi hm
  obtain ⟨c, hc⟩ : ∃ c, c = s.procs[i].edges[m].sync := ⟨_, rfl⟩
  refine CallE.gen fun k hk => EN_spec_l3Partners rfl ?_
  rw [← hc] at hk hs0 hs1
  simp -implicitDefEqProofs (disch := first | omega | (simp only [List.length_set, List.length_replicate, List.length_append, List.length_map, List.length_take, List.length_cons, List.length_nil]; omega)) [wrap64]
  refine HS.init.bls0 Stp fun o h1 H => ?_
  have hP := hld_parts (hload_le H.base hu)
  have hQ := hld_parts (hload_le H.base hu2)
  simp -implicitDefEqProofs (disch := first | omega | (simp only [List.length_set, List.length_replicate, List.length_append, List.length_map, List.length_take, List.length_cons, List.length_nil]; omega)) [wrap64, R2'.X (n := 2) rfl, hP.1, hP.2.2.1, R3.X (n := 10) rfl, hQ.1, hQ.2.2.1, Ed.cs]
  refine wp_count s.procs.length (fun j e h' => ∃ o, e = [none, none, some (.int .i64 i), some (.int .i64 m), some (.agg #[v1, v2]), some (.agg #[t1, t2]), none, some o, some (.int .i64 c), some (.int .i64 j), none] ∧ HS h [ow o ((s.procs.zipIdx.take j).flatMap (prt1 st i m c))] h') ⟨o, by simp [hc], by simpa using H⟩ ?_
  clear H hP hQ
  rintro J2 j _ h3 hJ2 hj ⟨o, rfl, H⟩
  simp -implicitDefEqProofs (disch := first | omega | (simp only [List.length_set, List.length_replicate, List.length_append, List.length_map, List.length_take, List.length_cons, List.length_nil]; omega)) [wrap64, R2'.len]
  refine IteW.mk (fun hlt2 => ?_) (fun hge2 => ?_)
  · have hj : j < s.procs.length := by omega
    obtain ⟨D, hD⟩ : ∃ D, D = (s.procs.zipIdx.take j).flatMap (prt1 st i m c) := ⟨_, rfl⟩
    have hDl : D.length ≤ 18 := by rw [hD]; exact prt_len hs
    rw [← hD] at H
    obtain ⟨u, hu, Ru⟩ := R2'.ld hj
    change hload _ (some (elp 2 v2 j)) (some 2) = some u at hu
    obtain ⟨wf, rfl, k2, R4⟩ := Rep_Pr.1 Ru
    have hpj := hs.at hj
    have hej := hpj.el
    have hP : ∀ {h'}, h.le h' → _ := fun {h'} (hl : h.le h') => hld_parts (hload_le hl hu)
    simp -implicitDefEqProofs (disch := first | omega | (simp only [List.length_set, List.length_replicate, List.length_append, List.length_map, List.length_take, List.length_cons, List.length_nil]; omega)) [wrap64]
    refine wp_count s.procs[j].edges.length (fun n e h' => ∃ o, e = [none, none, some (.int .i64 i), some (.int .i64 m), some (.agg #[v1, v2]), some (.agg #[t1, t2]), none, some o, some (.int .i64 c), some (.int .i64 j), some (.int .i64 n)] ∧ HS h [ow o (D ++ (s.procs[j].edges.zipIdx.take n).flatMap (prt2 st i m c j))] h') ⟨o, by simp, by simpa using H⟩ ?_
    clear H
    rintro J3 n _ h4 hJ3 hn ⟨o, rfl, H⟩
    have hP1 := (hP H.base).1
    have hP2 := (hP H.base).2.2.1
    simp -implicitDefEqProofs (disch := first | omega | (simp only [List.length_set, List.length_replicate, List.length_append, List.length_map, List.length_take, List.length_cons, List.length_nil]; omega)) [wrap64, R2'.X (n := 2) rfl, hP1, hP2, R4.len]
    refine IteW.mk (fun hlt3 => ?_) (fun hge3 => ?_)
    · have hn : n < s.procs[j].edges.length := by omega
      obtain ⟨E, hE⟩ : ∃ E, E = D ++ (s.procs[j].edges.zipIdx.take n).flatMap (prt2 st i m c j) := ⟨_, rfl⟩
      have hEl : E.length ≤ 24 := by
        rw [hE, List.length_append]
        have := prt1_len (st := st) (i := i) (k := m) (c := c) (j := j) (n := n) hpj
        omega
      have hstep2 : D ++ (s.procs[j].edges.zipIdx.take (n + 1)).flatMap (prt2 st i m c j) = E ++ prt2 st i m c j (s.procs[j].edges[n], n) := by rw [fm_tk hn, ← List.append_assoc, ← hE]
      rw [← hE] at H
      obtain ⟨u, hu, Ru⟩ := R4.ld hn
      have hu2 := hload_le H.base hu
      change hload _ (some (elp 10 wf n)) (some 10) = some u at hu2
      obtain ⟨x1, x2, rfl, okf, X1, X2⟩ := Rep_Ed.1 Ru
      have hQ := hld_parts hu2
      have hgo2 : ∀ {o' h'}, HS h [ow o' (E ++ prt2 st i m c j (s.procs[j].edges[n], n))] h' → J3 [none, none, some (.int .i64 i), some (.int .i64 m), some (.agg #[v1, v2]), some (.agg #[t1, t2]), none, some o', some (.int .i64 c), some (.int .i64 j), some (.int .i64 ((n + 1 : Nat) : Int))] h' :=
        fun {o' h'} H => hJ3 _ _ hn ⟨o', by simp, by rw [hstep2]; exact H⟩
      by_cases b1 : j = i
      · simp -implicitDefEqProofs (disch := first | omega | (simp only [List.length_set, List.length_replicate, List.length_append, List.length_map, List.length_take, List.length_cons, List.length_nil]; omega)) [wrap64, b1]
        subst b1
        exact hgo2 (by rw [prt2, if_neg (fun hh => hh.1 rfl)]; simpa using H)
      have b1' : ¬ ((j : Int) = i) := by omega
      by_cases b2 : s.procs[j].edges[n].sync = -c
      case neg =>
        simp -implicitDefEqProofs (disch := first | omega | (simp only [List.length_set, List.length_replicate, List.length_append, List.length_map, List.length_take, List.length_cons, List.length_nil]; omega)) [wrap64, R2'.X (n := 2) rfl, hP1, hP2, R4.X (n := 10) rfl, hQ.1, hQ.2.2.1, Ed.cs, b1, b1', b2]
        exact hgo2 (by rw [prt2, if_neg (fun hh => b2 hh.2.1)]; simpa using H)
      simp -implicitDefEqProofs (disch := first | omega | (simp only [List.length_set, List.length_replicate, List.length_append, List.length_map, List.length_take, List.length_cons, List.length_nil]; omega)) [wrap64, R2'.X (n := 2) rfl, hP1, hP2, R4.X (n := 10) rfl, hQ.1, hQ.2.2.1, Ed.cs, b1, b1', b2]
      refine (c_l3Ready hs ht (R0.on H) (Rt0.on H) hj hn).go ?_
      rintro _ h4 ⟨rfl, rfl⟩
      by_cases b3 : s.procs[j].edges[n].rdy st j = true
      case neg =>
        simp -implicitDefEqProofs (disch := first | omega | (simp only [List.length_set, List.length_replicate, List.length_append, List.length_map, List.length_take, List.length_cons, List.length_nil]; omega)) [wrap64, b3]
        exact hgo2 (by rw [prt2, if_neg (fun hh => b3 hh.2.2)]; simpa using H)
      have hel := (hs.at hi).el
      simp -implicitDefEqProofs (disch := first | omega | (simp only [List.length_set, List.length_replicate, List.length_append, List.length_map, List.length_take, List.length_cons, List.length_nil]; omega)) [wrap64, b3, setC]
      refine H.app1 (bytes := 32) (⟨i, m, j, n⟩ : Stp) rfl rfl rfl (Stp.ok_iff.2 ⟨by dsimp only; omega, by dsimp only; omega, by dsimp only; omega, by dsimp only; omega⟩) rfl rfl (by omega) (by omega) fun o' h5 H => ?_
      simp -implicitDefEqProofs (disch := first | omega | (simp only [List.length_set, List.length_replicate, List.length_append, List.length_map, List.length_take, List.length_cons, List.length_nil]; omega)) [wrap64]
      refine hgo2 ?_
      rw [prt2, if_pos ⟨b1, b2, b3⟩]; exact H
    simp -implicitDefEqProofs (disch := first | omega | (simp only [List.length_set, List.length_replicate, List.length_append, List.length_map, List.length_take, List.length_cons, List.length_nil]; omega)) [wrap64]
    rw [fm_all (by omega)] at H
    exact hJ2 _ _ hj ⟨o, by simp, by rw [fm_tk hj, ← hD]; exact H⟩
  simp -implicitDefEqProofs (disch := first | omega | (simp only [List.length_set, List.length_replicate, List.length_append, List.length_map, List.length_take, List.length_cons, List.length_nil]; omega)) [wrap64]
  rw [fm_all (by omega)] at H
  exact RetK.keep (hk _ _ H)

theorem c_l3Steps {h : Heap} {v w : Value} {s : Sy} {st : Sta} (hs : s.Ok) (ht : st.Ok s) (R : Rep h v s) (Rt : Rep h w st) : CallE Try.prog fn_spec_l3Steps [v, w] h (fun u h' => HS h [ow u (enb s st)] h') := by
  have FS := R.aSy
  have FT := Rt.aSta
  have R0 := R
  have Rt0 := Rt
  obtain ⟨v1, v2, rfl, R1, R2'⟩ := Rep_Sy.1 R
  obtain ⟨t1, t2, rfl, T1, T2⟩ := Rep_Sta.1 Rt
  have hp3 := hs.p3
  refine CallE.gen fun k hk => EN_spec_l3Steps rfl ?_
  simp -implicitDefEqProofs (disch := first | omega | (simp only [List.length_set, List.length_replicate, List.length_append, List.length_map, List.length_take, List.length_cons, List.length_nil]; omega)) [wrap64]
  refine HS.init.bls0 Stp fun o h1 H => ?_
  simp -implicitDefEqProofs (disch := first | omega | (simp only [List.length_set, List.length_replicate, List.length_append, List.length_map, List.length_take, List.length_cons, List.length_nil]; omega)) [wrap64]
  refine wp_count s.procs.length (fun i e h' => ∃ o, e = [none, none, some (.agg #[v1, v2]), some (.agg #[t1, t2]), none, some o, some (.int .i64 i), none, none] ∧ HS h [ow o ((s.procs.zipIdx.take i).flatMap (enb1 s st))] h') ⟨o, by simp, by simpa using H⟩ ?_
  clear H
  rintro J0 i _ h1 hJ0 hi ⟨o, rfl, H⟩
  simp -implicitDefEqProofs (disch := first | omega | (simp only [List.length_set, List.length_replicate, List.length_append, List.length_map, List.length_take, List.length_cons, List.length_nil]; omega)) [wrap64, R2'.len]
  refine IteW.mk (fun hlt => ?_) (fun hge => ?_)
  · have hi : i < s.procs.length := by omega
    obtain ⟨A, hA⟩ : ∃ A, A = (s.procs.zipIdx.take i).flatMap (enb1 s st) := ⟨_, rfl⟩
    have hAl : A.length ≤ 324 := by rw [hA]; exact enb_len hs
    obtain ⟨u, hu, Ru⟩ := R2'.ld hi
    change hload _ (some (elp 2 v2 i)) (some 2) = some u at hu
    obtain ⟨we, rfl, k1, R3⟩ := Rep_Pr.1 Ru
    have hpo := hs.at hi
    have hel := hpo.el
    have hP : ∀ {h'}, h.le h' → _ := fun {h'} (hl : h.le h') => hld_parts (hload_le hl hu)
    rw [← hA] at H
    simp -implicitDefEqProofs (disch := first | omega | (simp only [List.length_set, List.length_replicate, List.length_append, List.length_map, List.length_take, List.length_cons, List.length_nil]; omega)) [wrap64]
    refine wp_count s.procs[i].edges.length (fun m e h' => ∃ o, e = [none, none, some (.agg #[v1, v2]), some (.agg #[t1, t2]), none, some o, some (.int .i64 i), some (.int .i64 m), none] ∧ HS h [ow o (A ++ (s.procs[i].edges.zipIdx.take m).flatMap (enb2 s st i))] h') ⟨o, by simp, by simpa using H⟩ ?_
    clear H
    rintro J1 m _ h2 hJ1 hm ⟨o, rfl, H⟩
    have hP1 := (hP H.base).1
    have hP2 := (hP H.base).2.2.1
    simp -implicitDefEqProofs (disch := first | omega | (simp only [List.length_set, List.length_replicate, List.length_append, List.length_map, List.length_take, List.length_cons, List.length_nil]; omega)) [wrap64, R2'.X (n := 2) rfl, hP1, hP2, R3.len]
    refine IteW.mk (fun hlt1 => ?_) (fun hge1 => ?_)
    · have hm : m < s.procs[i].edges.length := by omega
      obtain ⟨B, hB⟩ : ∃ B, B = A ++ (s.procs[i].edges.zipIdx.take m).flatMap (enb2 s st i) := ⟨_, rfl⟩
      have hBl : B.length ≤ 432 := by
        rw [hB, List.length_append]
        have := enb1_len (st := st) (i := i) (n := m) hs hpo
        omega
      have hstep : A ++ (s.procs[i].edges.zipIdx.take (m + 1)).flatMap (enb2 s st i) = B ++ enb2 s st i (s.procs[i].edges[m], m) := by rw [fm_tk hm, ← List.append_assoc, ← hB]
      rw [← hB] at H
      obtain ⟨u, hu, Ru⟩ := R3.ld hm
      have hu2 := hload_le H.base hu
      change hload _ (some (elp 10 we m)) (some 10) = some u at hu2
      obtain ⟨w1, w2, rfl, ok, G1, G2⟩ := Rep_Ed.1 Ru
      have heo := hpo.at hm
      have hQ := hld_parts hu2
      have hgo : ∀ {o' h'}, HS h [ow o' (B ++ enb2 s st i (s.procs[i].edges[m], m))] h' → J1 [none, none, some (.agg #[v1, v2]), some (.agg #[t1, t2]), none, some o', some (.int .i64 i), some (.int .i64 ((m + 1 : Nat) : Int)), none] h' :=
        fun {o' h'} H => hJ1 _ _ hm ⟨o', by simp, by rw [hstep]; exact H⟩
      by_cases a2 : s.procs[i].edges[m].sync < 0
      · simp -implicitDefEqProofs (disch := first | omega | (simp only [List.length_set, List.length_replicate, List.length_append, List.length_map, List.length_take, List.length_cons, List.length_nil]; omega)) [wrap64, R2'.X (n := 2) rfl, hP1, hP2, R3.X (n := 10) rfl, hQ.1, hQ.2.2.1, Ed.cs, a2]
        exact hgo (by rw [enb2, if_pos (.inl a2)]; simpa using H)
      simp -implicitDefEqProofs (disch := first | omega | (simp only [List.length_set, List.length_replicate, List.length_append, List.length_map, List.length_take, List.length_cons, List.length_nil]; omega)) [wrap64, R2'.X (n := 2) rfl, hP1, hP2, R3.X (n := 10) rfl, hQ.1, hQ.2.2.1, Ed.cs, a2]
      refine (c_l3Ready hs ht (R0.on H) (Rt0.on H) hi hm).go ?_
      rintro _ h2 ⟨rfl, rfl⟩
      by_cases a1 : s.procs[i].edges[m].rdy st i = true
      case neg =>
        simp -implicitDefEqProofs (disch := first | omega | (simp only [List.length_set, List.length_replicate, List.length_append, List.length_map, List.length_take, List.length_cons, List.length_nil]; omega)) [wrap64, a1]
        exact hgo (by rw [enb2, if_pos (.inr (by simpa using a1))]; simpa using H)
      by_cases a3 : s.procs[i].edges[m].sync = 0
      · simp -implicitDefEqProofs (disch := first | omega | (simp only [List.length_set, List.length_replicate, List.length_append, List.length_map, List.length_take, List.length_cons, List.length_nil]; omega)) [wrap64, a1, a2, a3, setC]
        refine H.app1 (bytes := 32) (⟨i, m, -1, -1⟩ : Stp) rfl rfl rfl (Stp.ok_iff.2 ⟨by dsimp only; omega, by dsimp only; omega, by dsimp only; omega, by dsimp only; omega⟩) rfl rfl (by omega) (by omega) fun o' h3 H => ?_
        simp -implicitDefEqProofs (disch := first | omega | (simp only [List.length_set, List.length_replicate, List.length_append, List.length_map, List.length_take, List.length_cons, List.length_nil]; omega)) [wrap64]
        refine hgo ?_
        rw [enb2, if_neg (by simp [a2, a1]), if_pos a3]; exact H
      have hen : enb2 s st i (s.procs[i].edges[m], m) = prt s st i m s.procs[i].edges[m].sync := by rw [enb2, if_neg (by simp [a2, a1]), if_neg a3]
      have hpl := prt_len' (st := st) (i := i) (k := m) (c := s.procs[i].edges[m].sync) hs
      rw [hen] at hgo
      simp -implicitDefEqProofs (disch := first | omega | (simp only [List.length_set, List.length_replicate, List.length_append, List.length_map, List.length_take, List.length_cons, List.length_nil]; omega)) [wrap64, a1, a2, a3]
      refine (c_l3Partners hs ht (R0.on H) (Rt0.on H) hi hm).go ?_
      intro p h3 G
      have H := G.app H
      simp -implicitDefEqProofs (disch := first | omega | (simp only [List.length_set, List.length_replicate, List.length_append, List.length_map, List.length_take, List.length_cons, List.length_nil]; omega)) [wrap64]
      refine HS.appL (u := p) (l2 := prt s st i m s.procs[i].edges[m].sync) H.sw1 rfl rfl H.rep rfl rfl (by omega) (by omega) fun o' h4 H => ?_
      simp -implicitDefEqProofs (disch := first | omega | (simp only [List.length_set, List.length_replicate, List.length_append, List.length_map, List.length_take, List.length_cons, List.length_nil]; omega)) [wrap64]
      exact hgo H.only
    simp -implicitDefEqProofs (disch := first | omega | (simp only [List.length_set, List.length_replicate, List.length_append, List.length_map, List.length_take, List.length_cons, List.length_nil]; omega)) [wrap64]
    rw [fm_all (by omega)] at H
    exact hJ0 _ _ hi ⟨o, by simp, by rw [fm_tk hi, ← hA]; exact H⟩
  simp -implicitDefEqProofs (disch := first | omega | (simp only [List.length_set, List.length_replicate, List.length_append, List.length_map, List.length_take, List.length_cons, List.length_nil]; omega)) [wrap64]
  rw [fm_all (by omega)] at H
  exact RetK.keep (hk _ _ H)

theorem c_StateValid {h : Heap} {v w : Value} {s : Sy} {st : Sta} (R : Rep h v s) (Rt : Rep h w st) : CallE Try.prog fn_impl_StateValid [v, w] h (fun u h' => h.le h' ∧ u = .bool (decide (s.Ok ∧ st.Ok s))) := by
  have FS := R.aSy
  have FT := Rt.aSta
  refine CallE.gen fun k hk => EN_impl_StateValid rfl ?_
  simp -implicitDefEqProofs (disch := first | omega | (simp only [List.length_set, List.length_replicate, List.length_append, List.length_map, List.length_take, List.length_cons, List.length_nil]; omega)) [wrap64, FS, FT]
  refine (c_SystemValid R).go ?_
  rintro _ h1 ⟨l1, rfl⟩
  by_cases hs : s.Ok
  case neg => simp -implicitDefEqProofs (disch := first | omega | (simp only [List.length_set, List.length_replicate, List.length_append, List.length_map, List.length_take, List.length_cons, List.length_nil]; omega)) [wrap64, hs]; exact RetK.keep (hk _ _ ⟨l1, by rw [decide_eq_false (fun hh => hs hh.1)]⟩)
  simp -implicitDefEqProofs (disch := first | omega | (simp only [List.length_set, List.length_replicate, List.length_append, List.length_map, List.length_take, List.length_cons, List.length_nil]; omega)) [wrap64, hs, FS, FT]
  refine (c_has hs (R.le l1) (Rt.le l1)).go ?_
  rintro _ h2 ⟨l2, rfl⟩
  simp -implicitDefEqProofs (disch := first | omega | (simp only [List.length_set, List.length_replicate, List.length_append, List.length_map, List.length_take, List.length_cons, List.length_nil]; omega)) [wrap64]
  exact RetK.keep (hk _ _ ⟨l1.trans l2, by congr 1; rw [Bool.eq_iff_iff]; simp [hs]⟩)
theorem c_EnabledSteps {h : Heap} {v w : Value} {s : Sy} {st : Sta} (R : Rep h v s) (Rt : Rep h w st) : CallE Try.prog fn_impl_EnabledSteps [v, w] h (fun u h' => HS h [ow u (ens s st)] h') := by
  have FS := R.aSy
  have FT := Rt.aSta
  refine CallE.gen fun k hk => EN_impl_EnabledSteps rfl ?_
  have hno : ¬ (s.Ok ∧ st.Ok s) → ∀ {h'}, h.le h' → k (.slice none 0 0) h' := fun hn h' hl => hk _ _ (by rw [ens, if_neg hn]; exact HS.nil_ow (Γ := []) hl)
  simp -implicitDefEqProofs (disch := first | omega | (simp only [List.length_set, List.length_replicate, List.length_append, List.length_map, List.length_take, List.length_cons, List.length_nil]; omega)) [wrap64, FS, FT]
  refine (c_StateValid R Rt).go ?_
  rintro _ h1 ⟨l1, rfl⟩
  by_cases q : s.Ok ∧ st.Ok s
  case neg => simp -implicitDefEqProofs (disch := first | omega | (simp only [List.length_set, List.length_replicate, List.length_append, List.length_map, List.length_take, List.length_cons, List.length_nil]; omega)) [wrap64, q]; exact RetK.keep (hno q l1)
  simp -implicitDefEqProofs (disch := first | omega | (simp only [List.length_set, List.length_replicate, List.length_append, List.length_map, List.length_take, List.length_cons, List.length_nil]; omega)) [wrap64, q, FS, FT]
  refine (c_enabled q.1 q.2 (R.le l1) (Rt.le l1)).go ?_
  intro u h2 H
  simp -implicitDefEqProofs (disch := first | omega | (simp only [List.length_set, List.length_replicate, List.length_append, List.length_map, List.length_take, List.length_cons, List.length_nil]; omega)) [wrap64]
  exact RetK.keep (hk _ _ (by rw [ens, if_pos q]; exact HS.app (Γ := []) H l1))
theorem c_take {g h : Heap} {Γ : List HP} {t1 t2 v : Value} {s : Sy} {st : Sta} {e : Ed} {i : Nat} (hi : i < s.procs.length) (ht : st.Ok s) (he : e.Ok s.procs[i].locs) (R : Rep g v e) (H : HS g (ow t1 st.locs :: ow t2 st.vals :: Γ) h) :
    CallE Try.prog fn_impl_State_take [.agg #[t1, t2], .int .i64 i, v] h (fun _ h' => HS g (ow t1 (st.tk i e).locs :: ow t2 (st.tk i e).vals :: Γ) h') := by
  obtain ⟨w1, w2, rfl, ok, G1, G2⟩ := Rep_Ed.1 R
  have hil : i < st.locs.length := by rw [ht.len]; exact hi
  have hvl := ht.vs.len
  refine CallE.gen fun k hk => EN_impl_State_take rfl ?_
  simp -implicitDefEqProofs (disch := first | omega | (simp only [List.length_set, List.length_replicate, List.length_append, List.length_map, List.length_take, List.length_cons, List.length_nil]; omega)) [wrap64, Ed.cs, H.rep.I]
  refine H.storeF e.to (i := i) hil rfl rfl ok.to rfl fun h1 H => ?_
  by_cases a1 : 0 ≤ e.var
  case neg =>
    simp -implicitDefEqProofs (disch := first | omega | (simp only [List.length_set, List.length_replicate, List.length_append, List.length_map, List.length_take, List.length_cons, List.length_nil]; omega)) [wrap64, a1]
    exact RetK.keep (hk _ _ (by simp only [Sta.tk]; rw [if_neg a1]; exact H))
  have hvo : e.value.Ok := he.vl.elim (fun hh => hh.2) (fun hh => absurd hh.1 (by omega))
  have hv1 := he.v1
  obtain ⟨q, hq⟩ : ∃ q : Nat, e.var = q := ⟨_, (Int.toNat_of_nonneg a1).symm⟩
  have hb := Exq.ev_bnd ht.vs hvo.1
  simp -implicitDefEqProofs (disch := first | omega | (simp only [List.length_set, List.length_replicate, List.length_append, List.length_map, List.length_take, List.length_cons, List.length_nil]; omega)) [wrap64, a1, hq]
  refine (c_eval _ ht.vs hvo.1 ((Rep.vl ok G2).on H) H.sw1.rep).go ?_
  rintro _ h1 ⟨rfl, rfl⟩
  simp -implicitDefEqProofs (disch := first | omega | (simp only [List.length_set, List.length_replicate, List.length_append, List.length_map, List.length_take, List.length_cons, List.length_nil]; omega)) [wrap64, H.sw1.rep.I]
  refine H.sw1.storeF (e.value.ev st.vals) (i := q) (by omega) rfl rfl ⟨by omega, by omega⟩ rfl fun h2 H => ?_
  simp -implicitDefEqProofs (disch := first | omega | (simp only [List.length_set, List.length_replicate, List.length_append, List.length_map, List.length_take, List.length_cons, List.length_nil]; omega)) [wrap64]
  exact RetK.keep (hk _ _ (by simp only [Sta.tk]; rw [if_pos a1, hq, Int.toNat_natCast]; exact H.sw1))
theorem c_l3Take {g h : Heap} {Γ : List HP} {t1 t2 v : Value} {s : Sy} {st : Sta} {e : Ed} {i : Nat} (hi : i < s.procs.length) (ht : st.Ok s) (he : e.Ok s.procs[i].locs) (R : Rep g v e) (H : HS g (ow t1 st.locs :: ow t2 st.vals :: Γ) h) :
    CallE Try.prog fn_spec_l3Take [.agg #[t1, t2], .int .i64 i, v] h (fun u h' => u = .agg #[t1, t2] ∧ HS g (ow t1 (st.tk i e).locs :: ow t2 (st.tk i e).vals :: Γ) h') := by
  obtain ⟨w1, w2, rfl, ok, G1, G2⟩ := Rep_Ed.1 R
  have hil : i < st.locs.length := by rw [ht.len]; exact hi
  have hvl := ht.vs.len
  have hO1 := H.rep.one
  have hO2 := H.sw1.rep.one
  refine CallE.gen fun k hk => EN_spec_l3Take rfl ?_
  simp -implicitDefEqProofs (disch := first | omega | (simp only [List.length_set, List.length_replicate, List.length_append, List.length_map, List.length_take, List.length_cons, List.length_nil]; omega)) [wrap64, Ed.cs, H.rep.I]
  refine H.storeF e.to (i := i) hil rfl rfl ok.to rfl fun h1 H => ?_
  by_cases a1 : 0 ≤ e.var
  case neg =>
    simp -implicitDefEqProofs (disch := first | omega | (simp only [List.length_set, List.length_replicate, List.length_append, List.length_map, List.length_take, List.length_cons, List.length_nil]; omega)) [wrap64, a1, setC, hO1, hO2]
    exact RetK.keep (hk _ _ ⟨rfl, by simp only [Sta.tk]; rw [if_neg a1]; exact H⟩)
  have hvo : e.value.Ok := he.vl.elim (fun hh => hh.2) (fun hh => absurd hh.1 (by omega))
  have hv1 := he.v1
  obtain ⟨q, hq⟩ : ∃ q : Nat, e.var = q := ⟨_, (Int.toNat_of_nonneg a1).symm⟩
  have hb := Exq.ev_bnd ht.vs hvo.1
  simp -implicitDefEqProofs (disch := first | omega | (simp only [List.length_set, List.length_replicate, List.length_append, List.length_map, List.length_take, List.length_cons, List.length_nil]; omega)) [wrap64, a1, hq]
  refine (c_l1Eval _ ht.vs hvo.1 ((Rep.vl ok G2).on H) H.sw1.rep).go ?_
  rintro _ h1 ⟨rfl, rfl⟩
  simp -implicitDefEqProofs (disch := first | omega | (simp only [List.length_set, List.length_replicate, List.length_append, List.length_map, List.length_take, List.length_cons, List.length_nil]; omega)) [wrap64, H.sw1.rep.I]
  refine H.sw1.storeF (e.value.ev st.vals) (i := q) (by omega) rfl rfl ⟨by omega, by omega⟩ rfl fun h2 H => ?_
  simp -implicitDefEqProofs (disch := first | omega | (simp only [List.length_set, List.length_replicate, List.length_append, List.length_map, List.length_take, List.length_cons, List.length_nil]; omega)) [wrap64, setC, hO1, hO2]
  exact RetK.keep (hk _ _ ⟨rfl, by simp only [Sta.tk]; rw [if_pos a1, hq, Int.toNat_natCast]; exact H.sw1⟩)

theorem c_after {h : Heap} {v w : Value} {s : Sy} {st : Sta} {t : Stp} (hs : s.Ok) (ht : st.Ok s) (hin : t.In s) (R : Rep h v s) (Rt : Rep h w st) : CallE Try.prog fn_impl_System_after [v, w, t.v] h (fun u h' => HS h [ow u (st.aft s t)] h') := by
  have FT := Rt.aSta
  obtain ⟨v1, v2, rfl, R1, R2'⟩ := Rep_Sy.1 R
  obtain ⟨⟨i, m, hi, hm, e1, e2⟩, hpt⟩ := hin
  have hp3 := hs.p3
  have hll := ht.len
  have hvl := ht.vs.len
  have hed : s.ed t.proc.toNat t.edge.toNat = s.procs[i].edges[m] := by rw [e1, e2, Int.toNat_natCast, Int.toNat_natCast, Sy.ed_eq hi hm]
  refine CallE.gen fun k hk => EN_impl_System_after rfl ?_
  simp -implicitDefEqProofs (disch := first | omega | (simp only [List.length_set, List.length_replicate, List.length_append, List.length_map, List.length_take, List.length_cons, List.length_nil]; omega)) [wrap64, FT]
  refine (c_State_copyOf Rt (by omega) (by omega)).go ?_
  intro o h1 HO
  obtain ⟨o1, o2, rfl, H⟩ := HO.unSta
  obtain ⟨we, w1, w2, hu, R3, hu2, ok, G1, G2⟩ := R2'.edge hi hm
  have hP := hld_parts (hload_le H.base hu)
  have hu3 := hload_le H.base hu2
  have hC1 := H.rep.one
  have hC2 := H.sw1.rep.one
  have heo := (hs.at hi).at hm
  have Re : Rep h (.agg (s.procs[i].edges[m].cs w1 w2).toArray) s.procs[i].edges[m] := Rep_Ed.2 ⟨w1, w2, rfl, ok, G1, G2⟩
  simp -implicitDefEqProofs (disch := first | omega | (simp only [List.length_set, List.length_replicate, List.length_append, List.length_map, List.length_take, List.length_cons, List.length_nil]; omega)) [wrap64, setC, hC1, hC2, Stp.v, e1, e2, R2'.X (n := 2) rfl, hP.1, hP.2.2.1, R3.X (n := 10) rfl, hu3]
  refine (c_take (s := s) hi ht heo Re H).go ?_
  intro _ h2 H
  have ht2 := Sta.tk_ok ht hi heo
  have hC1 := H.rep.one
  have hC2 := H.sw1.rep.one
  rcases hpt with hpt | ⟨j, n, hj, hn, e3, e4⟩
  · simp -implicitDefEqProofs (disch := first | omega | (simp only [List.length_set, List.length_replicate, List.length_append, List.length_map, List.length_take, List.length_cons, List.length_nil]; omega)) [wrap64, Stp.v, hpt, setC, hC1, hC2]
    refine RetK.keep (hk _ _ ?_)
    rw [Sta.aft, if_neg (by omega), hed, e1, Int.toNat_natCast]
    exact H.mkSta
  · have hed2 : s.ed t.partner.toNat t.pedge.toNat = s.procs[j].edges[n] := by rw [e3, e4, Int.toNat_natCast, Int.toNat_natCast, Sy.ed_eq hj hn]
    have heo2 := (hs.at hj).at hn
    obtain ⟨wf, x1, x2, hu, R3, hu2, ok, X1, X2⟩ := R2'.edge hj hn
    have hP := hld_parts (hload_le H.base hu)
    have hu3 := hload_le H.base hu2
    have Rf : Rep h (.agg (s.procs[j].edges[n].cs x1 x2).toArray) s.procs[j].edges[n] := Rep_Ed.2 ⟨x1, x2, rfl, ok, X1, X2⟩
    simp -implicitDefEqProofs (disch := first | omega | (simp only [List.length_set, List.length_replicate, List.length_append, List.length_map, List.length_take, List.length_cons, List.length_nil]; omega)) [wrap64, setC, hC1, hC2, Stp.v, e3, e4, R2'.X (n := 2) rfl, hP.1, hP.2.2.1, R3.X (n := 10) rfl, hu3]
    refine (c_take (s := s) hj ht2 heo2 Rf H).go ?_
    intro _ h3 H
    simp -implicitDefEqProofs (disch := first | omega | (simp only [List.length_set, List.length_replicate, List.length_append, List.length_map, List.length_take, List.length_cons, List.length_nil]; omega)) [wrap64, setC, hC1, hC2]
    refine RetK.keep (hk _ _ ?_)
    rw [Sta.aft, if_pos (by omega), hed, hed2, e1, e3, Int.toNat_natCast, Int.toNat_natCast]
    exact H.mkSta
theorem c_l3Apply {h : Heap} {v w : Value} {s : Sy} {st : Sta} {t : Stp} (hs : s.Ok) (ht : st.Ok s) (hin : t.In s) (R : Rep h v s) (Rt : Rep h w st) : CallE Try.prog fn_spec_l3Apply [v, w, t.v] h (fun u h' => HS h [ow u (st.aft s t)] h') := by
  have FT := Rt.aSta
  obtain ⟨v1, v2, rfl, R1, R2'⟩ := Rep_Sy.1 R
  obtain ⟨⟨i, m, hi, hm, e1, e2⟩, hpt⟩ := hin
  have hp3 := hs.p3
  have hll := ht.len
  have hvl := ht.vs.len
  have hed : s.ed t.proc.toNat t.edge.toNat = s.procs[i].edges[m] := by rw [e1, e2, Int.toNat_natCast, Int.toNat_natCast, Sy.ed_eq hi hm]
  refine CallE.gen fun k hk => EN_spec_l3Apply rfl ?_
  obtain ⟨t1, t2, rfl, T1, T2⟩ := Rep_Sta.1 Rt
  simp -implicitDefEqProofs (disch := first | omega | (simp only [List.length_set, List.length_replicate, List.length_append, List.length_map, List.length_take, List.length_cons, List.length_nil]; omega)) [wrap64]
  refine HS.appPL (α := Int) (l2 := st.locs) HS.init rfl rfl T1 rfl rfl (by omega) fun o1 h1 H => ?_
  simp -implicitDefEqProofs (disch := first | omega | (simp only [List.length_set, List.length_replicate, List.length_append, List.length_map, List.length_take, List.length_cons, List.length_nil]; omega)) [wrap64]
  refine HS.appPL (α := Int) (l2 := st.vals) H rfl rfl (T2.on H) rfl rfl (by omega) fun o2 h1 H => ?_
  replace H := H.sw1
  have hK1 := H.rep.cells
  have hK2 := H.sw1.rep.cells
  obtain ⟨we, w1, w2, hu, R3, hu2, ok, G1, G2⟩ := R2'.edge hi hm
  have hP := hld_parts (hload_le H.base hu)
  have hu3 := hload_le H.base hu2
  have hC1 := H.rep.one
  have hC2 := H.sw1.rep.one
  have heo := (hs.at hi).at hm
  have Re : Rep h (.agg (s.procs[i].edges[m].cs w1 w2).toArray) s.procs[i].edges[m] := Rep_Ed.2 ⟨w1, w2, rfl, ok, G1, G2⟩
  simp -implicitDefEqProofs (disch := first | omega | (simp only [List.length_set, List.length_replicate, List.length_append, List.length_map, List.length_take, List.length_cons, List.length_nil]; omega)) [wrap64, setC, hC1, hC2, hK1, hK2, Stp.v, e1, e2, R2'.X (n := 2) rfl, hP.1, hP.2.2.1, R3.X (n := 10) rfl, hu3]
  refine (c_l3Take (s := s) hi ht heo Re H).go ?_
  rintro _ h2 ⟨rfl, H⟩
  have ht2 := Sta.tk_ok ht hi heo
  have hC1 := H.rep.one
  have hC2 := H.sw1.rep.one
  rcases hpt with hpt | ⟨j, n, hj, hn, e3, e4⟩
  · simp -implicitDefEqProofs (disch := first | omega | (simp only [List.length_set, List.length_replicate, List.length_append, List.length_map, List.length_take, List.length_cons, List.length_nil]; omega)) [wrap64, Stp.v, hpt, setC, hC1, hC2]
    refine RetK.keep (hk _ _ ?_)
    rw [Sta.aft, if_neg (by omega), hed, e1, Int.toNat_natCast]
    exact H.mkSta
  · have hed2 : s.ed t.partner.toNat t.pedge.toNat = s.procs[j].edges[n] := by rw [e3, e4, Int.toNat_natCast, Int.toNat_natCast, Sy.ed_eq hj hn]
    have heo2 := (hs.at hj).at hn
    obtain ⟨wf, x1, x2, hu, R3, hu2, ok, X1, X2⟩ := R2'.edge hj hn
    have hP := hld_parts (hload_le H.base hu)
    have hu3 := hload_le H.base hu2
    have Rf : Rep h (.agg (s.procs[j].edges[n].cs x1 x2).toArray) s.procs[j].edges[n] := Rep_Ed.2 ⟨x1, x2, rfl, ok, X1, X2⟩
    simp -implicitDefEqProofs (disch := first | omega | (simp only [List.length_set, List.length_replicate, List.length_append, List.length_map, List.length_take, List.length_cons, List.length_nil]; omega)) [wrap64, setC, hC1, hC2, Stp.v, e3, e4, R2'.X (n := 2) rfl, hP.1, hP.2.2.1, R3.X (n := 10) rfl, hu3]
    refine (c_l3Take (s := s) hj ht2 heo2 Rf H).go ?_
    rintro _ h3 ⟨rfl, H⟩
    simp -implicitDefEqProofs (disch := first | omega | (simp only [List.length_set, List.length_replicate, List.length_append, List.length_map, List.length_take, List.length_cons, List.length_nil]; omega)) [wrap64, setC, hC1, hC2]
    refine RetK.keep (hk _ _ ?_)
    rw [Sta.aft, if_pos (by omega), hed, hed2, e1, e3, Int.toNat_natCast, Int.toNat_natCast]
    exact H.mkSta

end Go.Proofs.Ytonjglbachhdcaa

/-
  What the helpers of the laws do: copying, counting, comparing, marking. Printed by a program.
-/
namespace Go.Proofs.Ytonjglbachhdcaa
open Go
set_option linter.all false
set_option linter.unusedVariables false
set_option linter.unusedSimpArgs false
set_option linter.defProp false
set_option maxRecDepth 1000000

end Go.Proofs.Ytonjglbachhdcaa

/-
  The state after a step: the functions of the packages.
-/
namespace Go.Proofs.Ytonjglbachhdcaa
open Go
set_option linter.all false
set_option linter.unusedVariables false
set_option linter.unusedSimpArgs false
set_option linter.defProp false
set_option maxRecDepth 1000000

theorem Stp.rep {h : Heap} {t : Stp} (ok : t.ok) : Rep h t.v t := Rep_Stp.2 ⟨rfl, ok⟩
theorem c_Index_Step {h : Heap} {a : Value} {x : List Stp} (Ra : Rep h a x) {t : Stp} : CallE Try.prog fn_slices_Index_S_impl_Step_impl_Step [a, t.v] h (fun v h' => h' = h ∧ ∃ r : Int, v = .int .i64 r ∧ (0 ≤ r ↔ t ∈ x)) := by
  refine CallE.gen fun k hk => EN_slices_Index_S_impl_Step_impl_Step rfl ?_
  have hL := Ra.lt
  simp -implicitDefEqProofs (disch := first | omega | (simp only [List.length_set, List.length_replicate, List.length_append, List.length_map, List.length_take, List.length_cons, List.length_nil]; omega)) [wrap64, Ra.len]
  refine wp_count x.length (fun i e h' => e = [some a, none, some t.v, none, none, some (.int .i64 x.length), some (.int .i64 i)] ∧ h' = h ∧ ∀ (j : Nat) (hj : j < x.length), j < i → x[j] ≠ t) ⟨by simp, rfl, fun j _ hj => absurd hj (Nat.not_lt_zero j)⟩ ?_
  rintro J i _ h1 hJ hi ⟨rfl, rfl, hn⟩
  simp -implicitDefEqProofs (disch := first | omega | (simp only [List.length_set, List.length_replicate, List.length_append, List.length_map, List.length_take, List.length_cons, List.length_nil]; omega)) [wrap64]
  refine IteW.mk (fun hlt => ?_) (fun hge => ?_)
  · have hlx : i < x.length := by omega
    by_cases he : x[i] = t
    · simp -implicitDefEqProofs (disch := first | omega | (simp only [List.length_set, List.length_replicate, List.length_append, List.length_map, List.length_take, List.length_cons, List.length_nil]; omega)) [wrap64, Ra.xStp, Stp.v, he]
      exact RetK.keep (hk _ _ ⟨rfl, i, rfl, by simp only [Int.natCast_nonneg, true_iff]; rw [← he]; exact List.getElem_mem hlx⟩)
    · have he2 : ¬ (t.proc = x[i].proc ∧ t.edge = x[i].edge ∧ t.partner = x[i].partner ∧ t.pedge = x[i].pedge) := fun hh => he (by rw [Stp.ext_iff']; exact ⟨hh.1.symm, hh.2.1.symm, hh.2.2.1.symm, hh.2.2.2.symm⟩)
      simp -implicitDefEqProofs (disch := first | omega | (simp only [List.length_set, List.length_replicate, List.length_append, List.length_map, List.length_take, List.length_cons, List.length_nil]; omega)) [wrap64, Ra.xStp, Stp.v]
      refine IteW.mk (fun hh => absurd hh ?_) (fun _ => ?_)
      · simpa using he2
      · simp -implicitDefEqProofs (disch := first | omega | (simp only [List.length_set, List.length_replicate, List.length_append, List.length_map, List.length_take, List.length_cons, List.length_nil]; omega)) [wrap64]
        refine hJ _ _ hlx ⟨by simp [Stp.v], rfl, fun j hj hji => ?_⟩
        by_cases hji2 : j = i
        · subst hji2; exact he
        · exact hn j hj (by omega)
  · simp -implicitDefEqProofs (disch := first | omega | (simp only [List.length_set, List.length_replicate, List.length_append, List.length_map, List.length_take, List.length_cons, List.length_nil]; omega)) [wrap64]
    refine RetK.keep (hk _ _ ⟨rfl, -1, rfl, ?_⟩)
    simp only [show ¬ (0 : Int) ≤ -1 by decide, false_iff]
    intro hm
    obtain ⟨j, hj, h1⟩ := List.mem_iff_getElem.1 hm
    exact hn j hj (by omega) h1
theorem c_Contains_Step {h : Heap} {a : Value} {x : List Stp} (Ra : Rep h a x) {t : Stp} : CallE Try.prog fn_slices_Contains_S_impl_Step_impl_Step [a, t.v] h (fun v h' => h' = h ∧ v = .bool (decide (t ∈ x))) := by
  refine CallE.gen fun k hk => EN_slices_Contains_S_impl_Step_impl_Step rfl ?_
  simp -implicitDefEqProofs (disch := first | omega | (simp only [List.length_set, List.length_replicate, List.length_append, List.length_map, List.length_take, List.length_cons, List.length_nil]; omega)) [wrap64, Stp.v]
  refine (c_Index_Step Ra (t := t)).go ?_
  rintro _ h1 ⟨rfl, r, rfl, hr⟩
  simp -implicitDefEqProofs (disch := first | omega | (simp only [List.length_set, List.length_replicate, List.length_append, List.length_map, List.length_take, List.length_cons, List.length_nil]; omega)) [wrap64]
  exact RetK.keep (hk _ _ ⟨rfl, by congr 1; rw [Bool.eq_iff_iff]; simp [hr]⟩)

theorem ens_mem {s : Sy} {st : Sta} {t : Stp} (h : t ∈ ens s st) : s.Ok ∧ st.Ok s ∧ t.In s := by
  unfold ens at h
  split at h
  · rename_i q; exact ⟨q.1, q.2, enb_in h⟩
  · simp at h
noncomputable def aplR (s : Sy) (st : Sta) (t : Stp) : Sta := if t ∈ ens s st then st.aft s t else Sta.zero
theorem c_ApplyStep {h : Heap} {v w : Value} {s : Sy} {st : Sta} {t : Stp} (R : Rep h v s) (Rt : Rep h w st) (ok : t.ok) : CallE Try.prog fn_impl_ApplyStep [v, w, t.v] h (R2 (decide (t ∈ ens s st)) (aplR s st t) h) := by
  have FS := R.aSy
  have FT := Rt.aSta
  have FE := (Stp.rep (h := h) ok).aStp
  refine CallE.gen fun k hk => EN_impl_ApplyStep rfl ?_
  simp -implicitDefEqProofs (disch := first | omega | (simp only [List.length_set, List.length_replicate, List.length_append, List.length_map, List.length_take, List.length_cons, List.length_nil]; omega)) [wrap64, FS, FT, FE]
  refine (c_EnabledSteps R Rt).go ?_
  intro l h1 H
  simp -implicitDefEqProofs (disch := first | omega | (simp only [List.length_set, List.length_replicate, List.length_append, List.length_map, List.length_take, List.length_cons, List.length_nil]; omega)) [wrap64]
  refine (c_Contains_Step H.rep).go ?_
  rintro _ h1 ⟨rfl, rfl⟩
  by_cases q : t ∈ ens s st
  case neg =>
    simp -implicitDefEqProofs (disch := first | omega | (simp only [List.length_set, List.length_replicate, List.length_append, List.length_map, List.length_take, List.length_cons, List.length_nil]; omega)) [wrap64, q, setC]
    exact RetK.keep (hk _ _ ⟨_, by rw [decide_eq_false q], by rw [aplR, if_neg q]; exact zero_St (Γ := []) H.base⟩)
  obtain ⟨q1, q2, q3⟩ := ens_mem q
  simp -implicitDefEqProofs (disch := first | omega | (simp only [List.length_set, List.length_replicate, List.length_append, List.length_map, List.length_take, List.length_cons, List.length_nil]; omega)) [wrap64, q, FS, FT, FE]
  refine (c_after q1 q2 q3 (R.on H) (Rt.on H)).go ?_
  intro o h2 HO
  obtain ⟨o1, o2, rfl, HO2⟩ := HO.unSta
  have hC1 := HO2.rep.one
  have hC2 := HO2.sw1.rep.one
  have H := HO.app H
  simp -implicitDefEqProofs (disch := first | omega | (simp only [List.length_set, List.length_replicate, List.length_append, List.length_map, List.length_take, List.length_cons, List.length_nil]; omega)) [wrap64, hC1, hC2, setC]
  exact RetK.keep (hk _ _ ⟨_, by rw [decide_eq_true q], by rw [aplR, if_pos q]; exact H.only⟩)
end Go.Proofs.Ytonjglbachhdcaa

/-
  Graphs of systems in plain Lean: how they are built.
-/
namespace Go.Proofs.Ytonjglbachhdcaa
open Go
set_option linter.all false
set_option linter.unusedVariables false
set_option linter.unusedSimpArgs false
set_option linter.defProp false
set_option maxRecDepth 1000000

/-- where a state lies -/
def fx (xs : List Sta) (st : Sta) : Int := match xs.findIdx? (fun y => decide (y = st)) with | some i => (i : Int) | none => -1
theorem fx_mem {xs : List Sta} {st : Sta} (h : st ∈ xs) : ∃ (i : Nat) (hi : i < xs.length), fx xs st = i ∧ xs[i] = st := by
  obtain ⟨i, hi⟩ : ∃ i, xs.findIdx? (fun y => decide (y = st)) = some i := by
    rcases hf : xs.findIdx? (fun y => decide (y = st)) with _ | i
    · rw [List.findIdx?_eq_none_iff] at hf
      have := hf st h
      simp at this
    · exact ⟨i, rfl⟩
  have h2 := hi
  rw [List.findIdx?_eq_some_iff_getElem] at h2
  obtain ⟨h3, h4, _⟩ := h2
  exact ⟨i, h3, by rw [fx, hi], by simpa using h4⟩
def adS (xs : List Sta) (st : Sta) : List Sta := if st ∈ xs then xs else xs ++ [st]
def atS (xs : List Sta) (st : Sta) : Int := if st ∈ xs then fx xs st else xs.length
def adI (l : List Int) (n : Int) : List Int := if n ∈ l then l else l ++ [n]
def g1 (p : List Sta × List Int) (st : Sta) : List Sta × List Int := (adS p.1 st, adI p.2 (atS p.1 st))
theorem mem_adI {l : List Int} {n x : Int} : x ∈ adI l n ↔ x ∈ l ∨ x = n := by
  unfold adI
  split
  · constructor
    · exact .inl
    · rintro (h | rfl) <;> assumption
  · simp
theorem adI_len {l : List Int} {n : Int} : (adI l n).length ≤ l.length + 1 := by
  unfold adI; split <;> simp
theorem adI_ne {l : List Int} {n : Int} : adI l n ≠ [] := by
  unfold adI
  split
  · rename_i h; rintro rfl; simp at h
  · simp
theorem adS_len {xs : List Sta} {st : Sta} : (adS xs st).length ≤ xs.length + 1 := by
  unfold adS; split <;> simp
theorem adS_ge {xs : List Sta} {st : Sta} : xs.length ≤ (adS xs st).length := by
  unfold adS; split <;> simp
theorem atS_rng {xs : List Sta} {st : Sta} : 0 ≤ atS xs st ∧ atS xs st < (adS xs st).length := by
  unfold atS adS
  split
  · rename_i h
    obtain ⟨i, hi, e, _⟩ := fx_mem h
    omega
  · simp; omega

/-- one state's steps -/
def gF (s : Sy) (x : Sta) (n : Nat) (xs : List Sta) : List Sta × List Int := ((enb s x).take n).foldl (fun p t => g1 p (x.aft s t)) (xs, [])
structure GI (s : Sy) (xs : List Sta) (n : Nat) (p : List Sta × List Int) : Prop where
  pre : ∃ t, p.1 = xs ++ t
  ok : ∀ st ∈ p.1, st.Ok s
  rng : ∀ x ∈ p.2, 0 ≤ x ∧ x < p.1.length
  new : ∀ j : Nat, xs.length ≤ j → j < p.1.length → (j : Int) ∈ p.2
  l1 : p.1.length ≤ xs.length + n
  l2 : p.2.length ≤ n
  ne : 1 ≤ n → p.2 ≠ []
theorem GI.ge {s : Sy} {xs : List Sta} {n : Nat} {p : List Sta × List Int} (h : GI s xs n p) : xs.length ≤ p.1.length := by
  obtain ⟨t, e⟩ := h.pre
  rw [e]; simp
theorem GI.step {s : Sy} {xs : List Sta} {n : Nat} {p : List Sta × List Int} {st : Sta} (h : GI s xs n p) (hst : st.Ok s) : GI s xs (n + 1) (g1 p st) := by
  have hr := atS_rng (xs := p.1) (st := st)
  have hl := adS_len (xs := p.1) (st := st)
  have hg := adS_ge (xs := p.1) (st := st)
  have hl2 := adI_len (l := p.2) (n := atS p.1 st)
  refine ⟨?_, ?_, ?_, ?_, ?_, ?_, fun _ => adI_ne⟩
  · obtain ⟨t, e⟩ := h.pre
    unfold g1 adS
    simp only
    split
    · exact ⟨t, e⟩
    · exact ⟨t ++ [st], by rw [e, List.append_assoc]⟩
  · intro y hy
    simp only [g1, adS] at hy
    split at hy
    · exact h.ok y hy
    · simp only [List.mem_append, List.mem_singleton] at hy
      rcases hy with hy | rfl
      · exact h.ok y hy
      · exact hst
  · intro x hx
    simp only [g1, mem_adI] at hx
    rcases hx with hx | rfl
    · have := h.rng x hx
      simp only [g1]; omega
    · exact hr
  · intro j h1 h2
    simp only [g1] at h2 ⊢
    rw [mem_adI]
    by_cases hj : j < p.1.length
    · exact .inl (h.new j h1 hj)
    · right
      unfold adS at h2
      unfold atS
      split at h2
      · omega
      · rename_i q
        rw [if_neg q]
        simp at h2; omega
  · have := h.l1; simp only [g1]; omega
  · have := h.l2; simp only [g1]; omega
/-- the graph after some states are done -/
def nxS (i : Nat) (l : List Int) : List Int := if l = [] then [(i : Int)] else l
def rnd (s : Sy) (i : Nat) (g : Gr) : Gr :=
  if h : i < g.states.length then ⟨(gF s g.states[i] (enb s g.states[i]).length g.states).1, g.next ++ [nxS i (gF s g.states[i] (enb s g.states[i]).length g.states).2]⟩ else g
def ini (s : Sy) : Sta := ⟨List.replicate s.procs.length 0, s.init⟩
def gN (s : Sy) : Nat → Gr
  | 0 => ⟨[ini s], []⟩
  | n + 1 => rnd s n (gN s n)
theorem ini_ok {s : Sy} (hs : s.Ok) : (ini s).Ok s :=
  ⟨by simp [ini], hs.vs, fun i h1 h2 => by
    have := (hs.at h2).n1
    simp only [ini, List.getElem_replicate]; omega⟩
structure GInv (s : Sy) (n : Nat) (g : Gr) : Prop where
  ok : ∀ st ∈ g.states, st.Ok s
  pos : 1 ≤ g.states.length
  nl : g.next.length = min n g.states.length
  ent : ∀ l ∈ g.next, l ≠ [] ∧ ∀ x ∈ l, 0 ≤ x ∧ x < g.states.length
  ll : ∀ l ∈ g.next, l.length ≤ 325
  rch : ∀ j : Nat, 1 ≤ j → j < g.states.length → ∃ (i : Nat) (hi : i < g.next.length), i < j ∧ (j : Int) ∈ g.next[i]
def Gr.zero : Gr := ⟨[], []⟩
/-- small graphs -/
def bgOk (s : Sy) : Prop := s.Ok ∧ (gN s 60).states.length ≤ 60
noncomputable instance {s : Sy} : Decidable (bgOk s) := Classical.propDecidable _
noncomputable def bgR (s : Sy) : Gr := if bgOk s then gN s 60 else Gr.zero
structure Gr.Fin (s : Sy) (g : Gr) : Prop where
  ok : ∀ st ∈ g.states, st.Ok s
  pos : 1 ≤ g.states.length
  n60 : g.states.length ≤ 60
  nl : g.next.length = g.states.length
  ent : ∀ l ∈ g.next, l ≠ [] ∧ ∀ x ∈ l, 0 ≤ x ∧ x < g.states.length
  ll : ∀ l ∈ g.next, l.length ≤ 325
  rch : ∀ j : Nat, 1 ≤ j → j < g.states.length → ∃ (i : Nat) (hi : i < g.next.length), i < j ∧ (j : Int) ∈ g.next[i]
end Go.Proofs.Ytonjglbachhdcaa

/-
  The initial state, by the reference.
-/
namespace Go.Proofs.Ytonjglbachhdcaa
open Go
set_option linter.all false
set_option linter.unusedVariables false
set_option linter.unusedSimpArgs false
set_option linter.defProp false
set_option maxRecDepth 1000000

theorem c_spec_InitialState {h : Heap} {v : Value} {s : Sy} (R : Rep h v s) : CallE Try.prog fn_spec_InitialState [v] h (R2 (decide s.Ok) (if s.Ok then ini s else Sta.zero) h) := by
  have FS := R.aSy
  have R0 := R
  obtain ⟨v1, v2, rfl, R1, R2'⟩ := Rep_Sy.1 R
  refine CallE.gen fun k hk => EN_spec_InitialState rfl ?_
  simp -implicitDefEqProofs (disch := first | omega | (simp only [List.length_set, List.length_replicate, List.length_append, List.length_map, List.length_take, List.length_cons, List.length_nil]; omega)) [wrap64, FS]
  refine (c_spec_SystemValid R0).go ?_
  rintro _ h ⟨rfl, rfl⟩
  by_cases hs : s.Ok
  case neg =>
    simp -implicitDefEqProofs (disch := first | omega | (simp only [List.length_set, List.length_replicate, List.length_append, List.length_map, List.length_take, List.length_cons, List.length_nil]; omega)) [wrap64, hs, setC]
    exact RetK.keep (hk _ _ ⟨_, by rw [decide_eq_false hs], by rw [if_neg hs]; exact zero_St (Γ := []) (Heap.le.refl _)⟩)
  have hp3 := hs.p3
  have hvl := hs.vs.len
  simp -implicitDefEqProofs (disch := first | omega | (simp only [List.length_set, List.length_replicate, List.length_append, List.length_map, List.length_take, List.length_cons, List.length_nil]; omega)) [wrap64, hs, R2'.len]
  refine ⟨?_, ?_⟩
  · simp -implicitDefEqProofs (disch := first | omega | (simp only [List.length_set, List.length_replicate, List.length_append, List.length_map, List.length_take, List.length_cons, List.length_nil]; omega)) [wrap64]
    refine HS.init.mks (α := Int) (z := (0 : Int)) rfl rfl (own_zero (by decide) (by decide)) (Nat.le_refl _) (by omega) (by omega) fun o h1 H => ?_
    simp -implicitDefEqProofs (disch := first | omega | (simp only [List.length_set, List.length_replicate, List.length_append, List.length_map, List.length_take, List.length_cons, List.length_nil]; omega)) [wrap64]
    refine HS.appPL (α := Int) (l2 := s.init) H rfl rfl (R1.on H) rfl rfl (by omega) fun o2 h1 H => ?_
    simp -implicitDefEqProofs (disch := first | omega | (simp only [List.length_set, List.length_replicate, List.length_append, List.length_map, List.length_take, List.length_cons, List.length_nil]; omega)) [wrap64, setC, H.rep.cells, H.rep.one, H.sw1.rep.cells, H.sw1.rep.one]
    exact RetK.keep (hk _ _ ⟨_, by rw [decide_eq_true hs], by rw [if_pos hs]; exact HS.mkSta (a := ini s) H.sw1⟩)
  · simp -implicitDefEqProofs (disch := first | omega | (simp only [List.length_set, List.length_replicate, List.length_append, List.length_map, List.length_take, List.length_cons, List.length_nil]; omega)) [wrap64]
    refine HS.appPL (α := Int) (l2 := s.init) HS.init rfl rfl R1 rfl rfl (by omega) fun o2 h1 H => ?_
    simp -implicitDefEqProofs (disch := first | omega | (simp only [List.length_set, List.length_replicate, List.length_append, List.length_map, List.length_take, List.length_cons, List.length_nil]; omega)) [wrap64]
    refine H.mks (α := Int) (z := (0 : Int)) rfl rfl (own_zero (by decide) (by decide)) (Nat.le_refl _) (by omega) (by omega) fun o h1 H => ?_
    simp -implicitDefEqProofs (disch := first | omega | (simp only [List.length_set, List.length_replicate, List.length_append, List.length_map, List.length_take, List.length_cons, List.length_nil]; omega)) [wrap64, setC, H.rep.cells, H.rep.one, H.sw1.rep.cells, H.sw1.rep.one]
    exact RetK.keep (hk _ _ ⟨_, by rw [decide_eq_true hs], by rw [if_pos hs]; exact HS.mkSta (a := ini s) H⟩)
end Go.Proofs.Ytonjglbachhdcaa

/-
  Arguments of laws: states that are drawn.
-/
namespace Go.Proofs.Ytonjglbachhdcaa
open Go
set_option linter.all false
set_option linter.unusedVariables false
set_option linter.unusedSimpArgs false
set_option linter.defProp false
set_option maxRecDepth 1000000

structure Sta.Sm (st : Sta) : Prop where
  ll : st.locs.length ≤ 4
  vl : st.vals.length ≤ 4

theorem c_l3State {g h : Heap} {Γ : List HP} {b : Nat} {sl v : Value} {l : List (BitVec 8)} {p : Int} {s : Sy} (R : Rep g sl l) (Rs : Rep g v s) (H : HS g (rb b sl p :: Γ) h) (hp : 0 ≤ p) (hp2 : p + 200 ≤ 1000000000000) :
    CallE Try.prog fn_spec_l3State [.pointer (some ⟨b, 0, none⟩), v] h (fun u h' => ∃ (y : Sta) (p' : Int), HS g (ow u y :: rb b sl p' :: Γ) h' ∧ y.Sm ∧ p ≤ p' ∧ p' ≤ p + 50) := by
  have FS := Rs.aSy
  have Rs0 := Rs
  obtain ⟨v1, v2, rfl, R1, R2'⟩ := Rep_Sy.1 Rs
  refine CallE.gen fun k hk => EN_spec_l3State rfl ?_
  simp -implicitDefEqProofs (disch := first | omega | (simp only [List.length_set, List.length_replicate, List.length_append, List.length_map, List.length_take, List.length_cons, List.length_nil]; omega)) [wrap64, FS]
  refine (c_spec_InitialState (Rs0.on H)).go ?_
  rintro _ h1 ⟨u, rfl, G⟩
  obtain ⟨o1, o2, rfl, G'⟩ := G.unSta
  have H := G'.app H
  have hO1 := H.rep.one
  have hC1 := H.rep.cells
  have hO2 := H.sw1.rep.one
  have hC2 := H.sw1.rep.cells
  by_cases hs : s.Ok
  case neg =>
    simp -implicitDefEqProofs (disch := first | omega | (simp only [List.length_set, List.length_replicate, List.length_append, List.length_map, List.length_take, List.length_cons, List.length_nil]; omega)) [wrap64, hs, setC, hO1, hC1, hO2, hC2]
    refine H.bls [(0 : Int)] rfl rfl (okL (by decide)) (by decide) fun q1 hq H => ?_
    simp -implicitDefEqProofs (disch := first | omega | (simp only [List.length_set, List.length_replicate, List.length_append, List.length_map, List.length_take, List.length_cons, List.length_nil]; omega)) [wrap64]
    refine H.bls [(0 : Int), 0, 0] rfl rfl (okL (by decide)) (by decide) fun q2 hq H => ?_
    simp -implicitDefEqProofs (disch := first | omega | (simp only [List.length_set, List.length_replicate, List.length_append, List.length_map, List.length_take, List.length_cons, List.length_nil]; omega)) [wrap64, setC, H.rep.one, H.rep.cells, H.sw1.rep.one, H.sw1.rep.cells]
    exact RetK.keep (hk _ _ ⟨⟨[0], [0, 0, 0]⟩, p, HS.mkSta (a := ⟨[0], [0, 0, 0]⟩) (H.sw1.under fun _ H => H.under fun _ H => H.drop.drop), ⟨by simp, by simp⟩, by omega, by omega⟩)
  rw [if_pos hs] at H
  have hp3 := hs.p3
  have hst := ini_ok hs
  have hil := hst.len
  have hvl := hst.vs.len
  generalize ini s = st at *
  simp -implicitDefEqProofs (disch := first | omega | (simp only [List.length_set, List.length_replicate, List.length_append, List.length_map, List.length_take, List.length_cons, List.length_nil]; omega)) [wrap64, hs, setC, hO1, hC1, hO2, hC2]
  refine (c_pick (n := 4) R H.sw2 (by omega) (by omega) ⟨by decide, by decide⟩).go ?_
  rintro _ h3 ⟨r1, rfl, q1, z1, y1, H⟩
  by_cases c0 : r1 = 0
  · simp -implicitDefEqProofs (disch := first | omega | (simp only [List.length_set, List.length_replicate, List.length_append, List.length_map, List.length_take, List.length_cons, List.length_nil]; omega)) [wrap64, c0]
    refine wp_count s.procs.length (fun i e h' => ∃ (y : List Int) (p' : Int), e = [some (.pointer (some ⟨b, 0, none⟩)), none, some (.agg #[v1, v2]), some (.agg #[.slice none 0 0, .slice none 0 0]), some (.agg #[o1, o2]), none, some (.int .i64 i), none, none] ∧ HS g (ow o1 y :: rb b sl p' :: ow o2 st.vals :: Γ) h' ∧ y.length = s.procs.length ∧ p' = p + 1 + i) ⟨st.locs, _, by simp, H.sw1, hil, by simp⟩ ?_
    clear H
    rintro J i _ h4 hJ hi ⟨y, p1, rfl, H, hyl, hp3'⟩
    simp -implicitDefEqProofs (disch := first | omega | (simp only [List.length_set, List.length_replicate, List.length_append, List.length_map, List.length_take, List.length_cons, List.length_nil]; omega)) [wrap64, H.rep.len]
    refine IteW.mk (fun hlt => ?_) (fun hge => ?_)
    · have hi : i < s.procs.length := by omega
      obtain ⟨u, hu, Ru⟩ := R2'.ld hi
      have hu := hload_le H.base hu
      change hload _ (some (elp 2 v2 i)) (some 2) = some u at hu
      obtain ⟨we, rfl, kl, R3⟩ := Rep_Pr.1 Ru
      have hP := hld_parts (cs := [.int .i64 s.procs[i].locs, we]) hu
      have hX := R2'.X (n := 2) rfl
      simp -implicitDefEqProofs (disch := first | omega | (simp only [List.length_set, List.length_replicate, List.length_append, List.length_map, List.length_take, List.length_cons, List.length_nil]; omega)) [wrap64, hX, hP.1, hP.2.2.1]
      refine (c_pick R H.sw1 (by omega) (by omega) kl).go ?_
      rintro _ h5 ⟨r2, rfl, q2, z2, y2, H⟩
      simp -implicitDefEqProofs (disch := first | omega | (simp only [List.length_set, List.length_replicate, List.length_append, List.length_map, List.length_take, List.length_cons, List.length_nil]; omega)) [wrap64, H.sw1.rep.I]
      refine H.sw1.storeF r2 (i := i) (by omega) rfl rfl q2 rfl fun h6 H => ?_
      simp -implicitDefEqProofs (disch := first | omega | (simp only [List.length_set, List.length_replicate, List.length_append, List.length_map, List.length_take, List.length_cons, List.length_nil]; omega)) [wrap64]
      exact hJ _ _ hi ⟨_, _, by simp, H, by simp [hyl], by push_cast; omega⟩
    simp -implicitDefEqProofs (disch := first | omega | (simp only [List.length_set, List.length_replicate, List.length_append, List.length_map, List.length_take, List.length_cons, List.length_nil]; omega)) [wrap64]
    refine (c_pick (n := 4) R H.sw1 (by omega) (by omega) ⟨by decide, by decide⟩).go ?_
    rintro _ h5 ⟨a1, rfl, k1, _, _, H⟩
    simp -implicitDefEqProofs (disch := first | omega | (simp only [List.length_set, List.length_replicate, List.length_append, List.length_map, List.length_take, List.length_cons, List.length_nil]; omega)) [wrap64]
    refine (c_pick (n := 4) R H (by omega) (by omega) ⟨by decide, by decide⟩).go ?_
    rintro _ h5 ⟨a2, rfl, k2, _, _, H⟩
    simp -implicitDefEqProofs (disch := first | omega | (simp only [List.length_set, List.length_replicate, List.length_append, List.length_map, List.length_take, List.length_cons, List.length_nil]; omega)) [wrap64]
    refine (c_pick (n := 4) R H (by omega) (by omega) ⟨by decide, by decide⟩).go ?_
    rintro _ h5 ⟨a3, rfl, k3, _, _, H⟩
    simp -implicitDefEqProofs (disch := first | omega | (simp only [List.length_set, List.length_replicate, List.length_append, List.length_map, List.length_take, List.length_cons, List.length_nil]; omega)) [wrap64]
    refine H.bls [a1, a2, a3] rfl rfl (by intro x hx; simp at hx; rcases hx with rfl | rfl | rfl <;> first | exact k1 | exact k2 | exact k3) (by decide) fun q2 hq H => ?_
    have hO3 := H.rep.one
    have hC3 := H.rep.cells
    simp -implicitDefEqProofs (disch := first | omega | (simp only [List.length_set, List.length_replicate, List.length_append, List.length_map, List.length_take, List.length_cons, List.length_nil]; omega)) [wrap64, setC, hO1, hC1, hO3, hC3]
    exact RetK.keep (hk _ _ ⟨⟨y, [a1, a2, a3]⟩, _, HS.mkSta (a := ⟨y, [a1, a2, a3]⟩) ((H.sw2.under fun _ H => H.under fun _ H => H.under fun _ H => H.drop)), ⟨by dsimp only; omega, by simp⟩, by omega, by omega⟩)
  · simp -implicitDefEqProofs (disch := first | omega | (simp only [List.length_set, List.length_replicate, List.length_append, List.length_map, List.length_take, List.length_cons, List.length_nil]; omega)) [wrap64, c0]
    refine H.bls [(2 : Int), 4, 1, 0, 6] rfl rfl (okL (by decide)) (by decide) fun q hq H => ?_
    simp -implicitDefEqProofs (disch := first | omega | (simp only [List.length_set, List.length_replicate, List.length_append, List.length_map, List.length_take, List.length_cons, List.length_nil]; omega)) [wrap64]
    refine (c_num R H (by omega) (by omega) (by simp)).go ?_
    rintro _ h4 ⟨r2, rfl, q2, hr2, H⟩
    obtain ⟨n, rfl, hn⟩ : ∃ n : Nat, r2 = n ∧ n ≤ 6 := by
      simp at hr2
      rcases hr2 with rfl | rfl | rfl | rfl | rfl <;> first | exact ⟨2, rfl, by decide⟩ | exact ⟨4, rfl, by decide⟩ | exact ⟨1, rfl, by decide⟩ | exact ⟨0, rfl, by decide⟩ | exact ⟨6, rfl, by decide⟩
    simp -implicitDefEqProofs (disch := first | omega | (simp only [List.length_set, List.length_replicate, List.length_append, List.length_map, List.length_take, List.length_cons, List.length_nil]; omega)) [wrap64]
    refine wp_while (σ := Nat) (fun i e h' => ∃ (y : Sta) (w1 w2 : Value) (p' : Int), e = [some (.pointer (some ⟨b, 0, none⟩)), none, some (.agg #[v1, v2]), some (.agg #[.slice none 0 0, .slice none 0 0]), some (.agg #[w1, w2]), none, none, some (.int .i64 i), none] ∧ HS g (ow w1 y.locs :: ow w2 y.vals :: rb b sl p' :: Γ) h' ∧ y.Ok s ∧ i ≤ 6 ∧ p ≤ p' ∧ p' + i ≤ p + 2 + 6) (fun i => i) n ⟨st, o1, o2, _, by simp, H.bk2, hst, hn, by omega, by omega⟩ ?_
    clear H hst hil hvl
    rintro J i _ h4 hJ ⟨y, w1, w2, p1, rfl, H, hst, hi, hp4, hp5⟩
    have hil := hst.len
    have hvl := hst.vs.len
    have hO1 := H.rep.one
    have hC1 := H.rep.cells
    have hO2 := H.sw1.rep.one
    have hC2 := H.sw1.rep.cells
    have hfin : ∀ {h'}, HS g (ow w1 y.locs :: ow w2 y.vals :: rb b sl p1 :: Γ) h' → k (.agg #[w1, w2]) h' := fun H => hk _ _ ⟨y, p1, HS.mkSta H, ⟨by omega, by omega⟩, by omega, by omega⟩
    by_cases c1 : 0 < i
    · have c1' : (0 : Int) < i := by omega
      have RY : Rep h4 (.agg #[w1, w2]) y := Rep_Sta.2 ⟨w1, w2, rfl, H.rep, H.sw1.rep⟩
      simp -implicitDefEqProofs (disch := first | omega | (simp only [List.length_set, List.length_replicate, List.length_append, List.length_map, List.length_take, List.length_cons, List.length_nil]; omega)) [wrap64, c1, c1', FS, hO1, hO2]
      refine (c_l3Steps hs hst (Rs0.on H) RY).go ?_
      intro el h5 G
      have H := G.app H
      obtain ⟨ln, hln⟩ : ∃ ln : Int, ln = (enb s y).length := ⟨_, rfl⟩
      have hlen := H.rep.len
      have hel := enb_len' (st := y) hs
      rw [← hln] at hlen
      by_cases c2 : ln = 0
      · simp -implicitDefEqProofs (disch := first | omega | (simp only [List.length_set, List.length_replicate, List.length_append, List.length_map, List.length_take, List.length_cons, List.length_nil]; omega)) [wrap64, hlen, c2, setC, hO1, hC1, hO2, hC2]
        exact RetK.keep (hfin H.drop)
      · simp -implicitDefEqProofs (disch := first | omega | (simp only [List.length_set, List.length_replicate, List.length_append, List.length_map, List.length_take, List.length_cons, List.length_nil]; omega)) [wrap64, hlen, c2, FS, hO1, hO2]
        refine (c_pick R H.sw3 (by omega) (by omega) ⟨by omega, by omega⟩).go ?_
        rintro _ h6 ⟨r5, rfl, q5, z5, y5, H⟩
        obtain ⟨m, rfl⟩ : ∃ m : Nat, r5 = m := ⟨r5.toNat, (Int.toNat_of_nonneg z5).symm⟩
        have hm : m < (enb s y).length := by have := y5 (by omega); omega
        have hin := enb_in (List.getElem_mem hm)
        have RY : Rep h6 (.agg #[w1, w2]) y := Rep_Sta.2 ⟨w1, w2, rfl, H.sw2.rep, H.sw3.rep⟩
        simp -implicitDefEqProofs (disch := first | omega | (simp only [List.length_set, List.length_replicate, List.length_append, List.length_map, List.length_take, List.length_cons, List.length_nil]; omega)) [wrap64, H.sw1.rep.xStp]
        refine (c_l3Apply hs hst hin (Rs0.on H) RY).go ?_
        intro o h7 G
        obtain ⟨x1, x2, rfl, G'⟩ := G.unSta
        have H := G'.app H
        simp -implicitDefEqProofs (disch := first | omega | (simp only [List.length_set, List.length_replicate, List.length_append, List.length_map, List.length_take, List.length_cons, List.length_nil]; omega)) [wrap64, setC, H.rep.one, H.rep.cells, H.sw1.rep.one, H.sw1.rep.cells]
        exact hJ (i - 1) _ _ (by omega) ⟨_, x1, x2, _, by simp; omega, H.under fun _ H => H.under fun _ H => H.under fun _ H => H.drop.drop.drop, Sta.aft_ok hs hst hin, by omega, by omega, by omega⟩
    · have c1' : ¬ ((0 : Int) < i) := by omega
      simp -implicitDefEqProofs (disch := first | omega | (simp only [List.length_set, List.length_replicate, List.length_append, List.length_map, List.length_take, List.length_cons, List.length_nil]; omega)) [wrap64, c1, c1', setC, hO1, hC1, hO2, hC2]
      exact RetK.keep (hfin H)
end Go.Proofs.Ytonjglbachhdcaa

/-
  Arguments of laws: changed states, states with systems.
-/
namespace Go.Proofs.Ytonjglbachhdcaa
open Go
set_option linter.all false
set_option linter.unusedVariables false
set_option linter.unusedSimpArgs false
set_option linter.defProp false
set_option maxRecDepth 1000000

theorem c_l3Mutate {g h : Heap} {Γ : List HP} {b : Nat} {sl v : Value} {l : List (BitVec 8)} {p : Int} {st : Sta} (R : Rep g sl l) (Rt : Rep g v st) (hs : st.Sm) (H : HS g (rb b sl p :: Γ) h) (hp : 0 ≤ p) (hp2 : p + 200 ≤ 1000000000000) :
    CallE Try.prog fn_spec_l3Mutate [.pointer (some ⟨b, 0, none⟩), v] h (fun u h' => ∃ (y : Sta) (p' : Int), HS g (ow u y :: rb b sl p' :: Γ) h' ∧ p ≤ p' ∧ p' ≤ p + 10) := by
  have FS := Rt.aSta
  obtain ⟨t1, t2, rfl, T1, T2⟩ := Rep_Sta.1 Rt
  have hll := hs.ll
  have hvl := hs.vl
  refine CallE.gen fun k hk => EN_spec_l3Mutate rfl ?_
  simp -implicitDefEqProofs (disch := first | omega | (simp only [List.length_set, List.length_replicate, List.length_append, List.length_map, List.length_take, List.length_cons, List.length_nil]; omega)) [wrap64]
  refine HS.appPL (α := Int) (l2 := st.locs) H rfl rfl (T1.on H) rfl rfl (by omega) fun o1 h1 H => ?_
  simp -implicitDefEqProofs (disch := first | omega | (simp only [List.length_set, List.length_replicate, List.length_append, List.length_map, List.length_take, List.length_cons, List.length_nil]; omega)) [wrap64]
  refine HS.appPL (α := Int) (l2 := st.vals) H rfl rfl (T2.on H) rfl rfl (by omega) fun o2 h2 H => ?_
  have hO1 := H.sw1.rep.one
  have hC1 := H.sw1.rep.cells
  have hO2 := H.rep.one
  have hC2 := H.rep.cells
  simp -implicitDefEqProofs (disch := first | omega | (simp only [List.length_set, List.length_replicate, List.length_append, List.length_map, List.length_take, List.length_cons, List.length_nil]; omega)) [wrap64, setC, hO1, hC1, hO2, hC2]
  refine (c_pick (n := 40) R H.sw2 (by omega) (by omega) ⟨by decide, by decide⟩).go ?_
  rintro _ h3 ⟨r1, rfl, q1, z1, y1, H⟩
  obtain ⟨a, ha⟩ : ∃ a, a = st.locs := ⟨_, rfl⟩
  obtain ⟨c, hc⟩ : ∃ c, c = st.vals := ⟨_, rfl⟩
  rw [← ha] at H hll
  rw [← hc] at H hvl
  have hfin : ∀ {h' p' w1 w2 a' c'}, HS g (rb b sl p' :: ow w2 c' :: ow w1 a' :: Γ) h' → p ≤ p' → p' ≤ p + 10 → k (.agg #[w1, w2]) h' := fun {h' p' w1 w2 a' c'} H e1 e2 => hk _ _ ⟨⟨a', c'⟩, p', HS.mkSta (a := ⟨a', c'⟩) (H.sw2.under fun _ H => H.sw1), e1, e2⟩
  by_cases c0 : r1 = 0
  · simp -implicitDefEqProofs (disch := first | omega | (simp only [List.length_set, List.length_replicate, List.length_append, List.length_map, List.length_take, List.length_cons, List.length_nil]; omega)) [wrap64, c0, setC]
    refine HS.app1 (bytes := 8) H.sw2 (0 : Int) rfl rfl rfl ⟨by decide, by decide⟩ rfl rfl (by omega) (by omega) fun o' h5 H => ?_
    simp -implicitDefEqProofs (disch := first | omega | (simp only [List.length_set, List.length_replicate, List.length_append, List.length_map, List.length_take, List.length_cons, List.length_nil]; omega)) [wrap64, setC, H.rep.one, H.rep.cells, hO2, hC2]
    exact RetK.keep (hfin (H.sw1.under fun _ H => H.sw1) (by omega) (by omega))
  by_cases c1 : r1 = 1
  · by_cases d1 : 0 < a.length
    · simp -implicitDefEqProofs (disch := first | omega | (simp only [List.length_set, List.length_replicate, List.length_append, List.length_map, List.length_take, List.length_cons, List.length_nil]; omega)) [wrap64, c0, c1, H.sw2.rep.len, d1]
      refine H.bls [(-1 : Int), 4, 3, 9223372036854775807, 10] rfl rfl (okL (by decide)) (by decide) fun q hq H => ?_
      simp -implicitDefEqProofs (disch := first | omega | (simp only [List.length_set, List.length_replicate, List.length_append, List.length_map, List.length_take, List.length_cons, List.length_nil]; omega)) [wrap64]
      refine (c_num R H (by omega) (by omega) (by simp)).go ?_
      rintro _ h4 ⟨r2, rfl, q2, _, H⟩
      have hia : iaV 1 o1 (.int .i64 0) = some (elp 1 o1 0) := (H.sw2.rep.X (n := 1) rfl).1 .i64 0 (by omega)
      simp -implicitDefEqProofs (disch := first | omega | (simp only [List.length_set, List.length_replicate, List.length_append, List.length_map, List.length_take, List.length_cons, List.length_nil]; omega)) [wrap64, hia]
      refine H.sw2.storeF r2 (i := 0) (by omega) rfl rfl q2 rfl fun h6 H => ?_
      simp -implicitDefEqProofs (disch := first | omega | (simp only [List.length_set, List.length_replicate, List.length_append, List.length_map, List.length_take, List.length_cons, List.length_nil]; omega)) [wrap64, setC, hO1, hC1, hO2, hC2]
      exact RetK.keep (hfin (H.sw1.under fun _ H => H.sw1) (by omega) (by omega))
    · simp -implicitDefEqProofs (disch := first | omega | (simp only [List.length_set, List.length_replicate, List.length_append, List.length_map, List.length_take, List.length_cons, List.length_nil]; omega)) [wrap64, c0, c1, H.sw2.rep.len, d1, setC, hO1, hC1, hO2, hC2]
      exact RetK.keep (hfin H (by omega) (by omega))
  by_cases c2 : r1 = 2
  · by_cases d1 : 0 < c.length
    · simp -implicitDefEqProofs (disch := first | omega | (simp only [List.length_set, List.length_replicate, List.length_append, List.length_map, List.length_take, List.length_cons, List.length_nil]; omega)) [wrap64, c0, c1, c2, H.sw1.rep.len, d1]
      refine ⟨?_, ?_⟩
      · simp -implicitDefEqProofs (disch := first | omega | (simp only [List.length_set, List.length_replicate, List.length_append, List.length_map, List.length_take, List.length_cons, List.length_nil]; omega)) [wrap64]
        refine (c_pick (n := c.length) R H (by omega) (by omega) ⟨by omega, by omega⟩).go ?_
        rintro _ h4 ⟨r2, rfl, q2, z2, y2, H⟩
        obtain ⟨i, rfl⟩ : ∃ i : Nat, r2 = i := ⟨r2.toNat, (Int.toNat_of_nonneg z2).symm⟩
        have hi : i < c.length := by have := y2 (by omega); omega
        simp -implicitDefEqProofs (disch := first | omega | (simp only [List.length_set, List.length_replicate, List.length_append, List.length_map, List.length_take, List.length_cons, List.length_nil]; omega)) [wrap64]
        refine H.bls [(-1 : Int), 4, 3, 12] rfl rfl (okL (by decide)) (by decide) fun q hq H => ?_
        simp -implicitDefEqProofs (disch := first | omega | (simp only [List.length_set, List.length_replicate, List.length_append, List.length_map, List.length_take, List.length_cons, List.length_nil]; omega)) [wrap64]
        refine (c_num R H (by omega) (by omega) (by simp)).go ?_
        rintro _ h4 ⟨r3, rfl, q3, _, H⟩
        simp -implicitDefEqProofs (disch := first | omega | (simp only [List.length_set, List.length_replicate, List.length_append, List.length_map, List.length_take, List.length_cons, List.length_nil]; omega)) [wrap64, H.sw1.rep.I]
        refine H.sw1.storeF r3 (i := i) hi rfl rfl q3 rfl fun h6 H => ?_
        simp -implicitDefEqProofs (disch := first | omega | (simp only [List.length_set, List.length_replicate, List.length_append, List.length_map, List.length_take, List.length_cons, List.length_nil]; omega)) [wrap64, setC, hO1, hC1, hO2, hC2]
        exact RetK.keep (hfin H.sw1 (by omega) (by omega))
      · simp -implicitDefEqProofs (disch := first | omega | (simp only [List.length_set, List.length_replicate, List.length_append, List.length_map, List.length_take, List.length_cons, List.length_nil]; omega)) [wrap64]
        refine H.bls [(-1 : Int), 4, 3, 12] rfl rfl (okL (by decide)) (by decide) fun q hq H => ?_
        simp -implicitDefEqProofs (disch := first | omega | (simp only [List.length_set, List.length_replicate, List.length_append, List.length_map, List.length_take, List.length_cons, List.length_nil]; omega)) [wrap64]
        refine (c_pick (n := c.length) R H.sw1 (by omega) (by omega) ⟨by omega, by omega⟩).go ?_
        rintro _ h4 ⟨r2, rfl, q2, z2, y2, H⟩
        obtain ⟨i, rfl⟩ : ∃ i : Nat, r2 = i := ⟨r2.toNat, (Int.toNat_of_nonneg z2).symm⟩
        have hi : i < c.length := by have := y2 (by omega); omega
        simp -implicitDefEqProofs (disch := first | omega | (simp only [List.length_set, List.length_replicate, List.length_append, List.length_map, List.length_take, List.length_cons, List.length_nil]; omega)) [wrap64]
        refine (c_num R H.sw1 (by omega) (by omega) (by simp)).go ?_
        rintro _ h4 ⟨r3, rfl, q3, _, H⟩
        simp -implicitDefEqProofs (disch := first | omega | (simp only [List.length_set, List.length_replicate, List.length_append, List.length_map, List.length_take, List.length_cons, List.length_nil]; omega)) [wrap64, H.sw1.rep.I]
        refine H.sw1.storeF r3 (i := i) hi rfl rfl q3 rfl fun h6 H => ?_
        simp -implicitDefEqProofs (disch := first | omega | (simp only [List.length_set, List.length_replicate, List.length_append, List.length_map, List.length_take, List.length_cons, List.length_nil]; omega)) [wrap64, setC, hO1, hC1, hO2, hC2]
        exact RetK.keep (hfin H.sw1 (by omega) (by omega))
    · simp -implicitDefEqProofs (disch := first | omega | (simp only [List.length_set, List.length_replicate, List.length_append, List.length_map, List.length_take, List.length_cons, List.length_nil]; omega)) [wrap64, c0, c1, c2, H.sw1.rep.len, d1, setC, hO1, hC1, hO2, hC2]
      exact RetK.keep (hfin H (by omega) (by omega))
  by_cases c3 : r1 = 3
  · simp -implicitDefEqProofs (disch := first | omega | (simp only [List.length_set, List.length_replicate, List.length_append, List.length_map, List.length_take, List.length_cons, List.length_nil]; omega)) [wrap64, c0, c1, c2, c3, setC]
    exact RetK.keep (hk _ _ ⟨⟨[], []⟩, p + 1, HS.mkSta (a := ⟨[], []⟩) ((H.under fun _ H => H.drop.drop).nil_ow.nil_ow), by omega, by omega⟩)
  · simp -implicitDefEqProofs (disch := first | omega | (simp only [List.length_set, List.length_replicate, List.length_append, List.length_map, List.length_take, List.length_cons, List.length_nil]; omega)) [wrap64, c0, c1, c2, c3, setC, hO1, hC1, hO2, hC2]
    exact RetK.keep (hfin H (by omega) (by omega))

def RD3 (h : Heap) : Value → Heap → Prop := fun u h' => ∃ (u1 u2 : Value) (s : Sy) (st : Sta), u = .tuple #[u1, u2] ∧ HS h [ow u1 s, ow u2 st] h'
end Go.Proofs.Ytonjglbachhdcaa

/-
  Arguments of laws: systems with labels and states.
-/
namespace Go.Proofs.Ytonjglbachhdcaa
open Go
set_option linter.all false
set_option linter.unusedVariables false
set_option linter.unusedSimpArgs false
set_option linter.defProp false
set_option maxRecDepth 1000000

def RDp (h : Heap) : Value → Heap → Prop := fun u h' => ∃ (u1 u2 u3 : Value) (s : Sy) (L : List Exq) (st : Sta), u = .tuple #[u1, u2, u3] ∧ HS h [ow u1 s, ow u2 L, ow u3 st] h' ∧ L.length ≤ 3
theorem c_DrawProjectState {h : Heap} {v : Value} {l : List (BitVec 8)} (R : Rep h v l) : CallE Try.prog fn_spec_DrawProjectState [v] h (RDp h) := by
  refine CallE.gen fun k hk => EN_spec_DrawProjectState rfl ?_
  simp -implicitDefEqProofs (disch := first | omega | (simp only [List.length_set, List.length_replicate, List.length_append, List.length_map, List.length_take, List.length_cons, List.length_nil]; omega)) [wrap64]
  refine (c_l16Open R).go ?_
  rintro _ h1 ⟨b, sl, l', rfl, R', H⟩
  simp -implicitDefEqProofs (disch := first | omega | (simp only [List.length_set, List.length_replicate, List.length_append, List.length_map, List.length_take, List.length_cons, List.length_nil]; omega)) [wrap64]
  refine (c_l14Labels R' H (by omega) (by omega)).go ?_
  rintro w h2 ⟨L, p1, H, hL, hp1, hp2⟩
  simp -implicitDefEqProofs (disch := first | omega | (simp only [List.length_set, List.length_replicate, List.length_append, List.length_map, List.length_take, List.length_cons, List.length_nil]; omega)) [wrap64]
  refine (c_l14System R' H.sw1 (by omega) (by omega)).go ?_
  rintro u h3 ⟨s, p2, H, hs, hp3, hp4⟩
  have FS := H.rep.aSy
  simp -implicitDefEqProofs (disch := first | omega | (simp only [List.length_set, List.length_replicate, List.length_append, List.length_map, List.length_take, List.length_cons, List.length_nil]; omega)) [wrap64, FS, setC]
  obtain ⟨g1, H1, H2⟩ := HS.rebase (Δ := [rb b sl p2]) H.sw1
  refine (c_l3State (R'.on H1) H1.rep H2 (by omega) (by omega)).go ?_
  rintro x h4 ⟨st, p3, H3, hst, hp5, hp6⟩
  have H := H3.app H1
  have FT := H.rep.aSta
  simp -implicitDefEqProofs (disch := first | omega | (simp only [List.length_set, List.length_replicate, List.length_append, List.length_map, List.length_take, List.length_cons, List.length_nil]; omega)) [wrap64, FT, FS]
  obtain ⟨g2, H1, H2⟩ := HS.rebase (Δ := [rb b sl p3]) H.sw1
  refine (c_l3Mutate (R'.on H1) H1.rep hst H2 (by omega) (by omega)).go ?_
  rintro x2 h5 ⟨st2, p4, H3, hp7, hp8⟩
  have H := H3.app H1
  have FT2 := H.rep.aSta
  simp -implicitDefEqProofs (disch := first | omega | (simp only [List.length_set, List.length_replicate, List.length_append, List.length_map, List.length_take, List.length_cons, List.length_nil]; omega)) [wrap64, FT2, FS, setC]
  obtain ⟨g3, H1, H2⟩ := HS.rebase (Δ := [rb b sl p4]) H.sw1
  refine (c_l2Mutate (R'.on H1) H1.sw2.rep hs (by omega) (by omega) H2 (by omega) (by omega)).go ?_
  rintro y h6 ⟨s2, p5, H3, hy, hp9, hp10⟩
  have H := H3.app H1
  have FY := H.rep.aSy
  simp -implicitDefEqProofs (disch := first | omega | (simp only [List.length_set, List.length_replicate, List.length_append, List.length_map, List.length_take, List.length_cons, List.length_nil]; omega)) [wrap64, FY, FT2, setC]
  exact RetK.keep (hk _ _ ⟨y, w, x2, s2, L, st2, rfl, ((H.under fun _ H => H.drop).sw4.sw1).under fun _ H => H.under fun _ H => H.only, hL⟩)
end Go.Proofs.Ytonjglbachhdcaa

/-
  Searching graphs in plain Lean: shortest paths from the first node.
-/
namespace Go.Proofs.Ytonjglbachhdcaa
open Go
set_option linter.all false
set_option linter.unusedVariables false
set_option linter.unusedSimpArgs false
set_option linter.defProp false
set_option maxRecDepth 1000000

def bs1 (at' : Int) (p : List Int × List Int) (to : Int) : List Int × List Int := if p.1.getD to.toNat 0 = -2 then (p.1.set to.toNat at', p.2 ++ [to]) else p
def bsF (l : List Int) (at' : Int) (p : List Int × List Int) (n : Nat) : List Int × List Int := (l.take n).foldl (bs1 at') p
def bsR (next : List (List Int)) (i : Nat) (p : List Int × List Int) : List Int × List Int :=
  if i < p.2.length then bsF (next.getD (p.2.getD i 0).toNat []) (p.2.getD i 0) p (next.getD (p.2.getD i 0).toNat []).length else p
def bsN (next : List (List Int)) : Nat → List Int × List Int
  | 0 => ((List.replicate next.length (-2)).set 0 (-1), [0])
  | n + 1 => bsR next n (bsN next n)
/-- what holds of a search -/
structure BI (N : Nat) (p : List Int × List Int) : Prop where
  fl : p.1.length = N
  q0 : ∃ t, p.2 = 0 :: t
  z0 : ∃ t, p.1 = -1 :: t
  inq : ∀ x ∈ p.2, 0 ≤ x ∧ x < N ∧ p.1.getD x.toNat 0 ≠ -2
  vis : ∀ j : Nat, j < N → p.1.getD j 0 ≠ -2 → (j : Int) ∈ p.2
  val : ∀ j : Nat, 1 ≤ j → j < N → p.1.getD j 0 = -2 ∨ 0 ≤ p.1.getD j 0
  par : ∀ q : Nat, 1 ≤ q → q < p.2.length → ∃ r : Nat, r < q ∧ p.1.getD (p.2.getD q 0).toNat 0 = p.2.getD r 0
  cnt : p.2.length + p.1.count (-2) = N
/-- one search goes on from another -/
structure BL (p p' : List Int × List Int) : Prop where
  keep : ∀ j : Nat, p.1.getD j 0 ≠ -2 → p'.1.getD j 0 = p.1.getD j 0
  pre : ∃ t, p'.2 = p.2 ++ t
theorem BL.refl {p : List Int × List Int} : BL p p := ⟨fun _ _ => rfl, ⟨[], by simp⟩⟩
theorem BL.trans {p q r : List Int × List Int} (h : BL p q) (h' : BL q r) : BL p r := by
  refine ⟨fun j hj => ?_, ?_⟩
  · have e := h.keep j hj
    rw [h'.keep j (by rw [e]; exact hj), e]
  · obtain ⟨t, e⟩ := h.pre
    obtain ⟨t', e'⟩ := h'.pre
    exact ⟨t ++ t', by rw [e', e, List.append_assoc]⟩
theorem BL.len {p q : List Int × List Int} (h : BL p q) : p.2.length ≤ q.2.length := by
  obtain ⟨t, e⟩ := h.pre
  rw [e]; simp
theorem BL.at {p q : List Int × List Int} (h : BL p q) {i : Nat} (hi : i < p.2.length) : q.2.getD i 0 = p.2.getD i 0 := by
  obtain ⟨t, e⟩ := h.pre
  rw [e, List.getD_eq_getElem?_getD, List.getD_eq_getElem?_getD, List.getElem?_append_left hi]
theorem count_set {l : List Int} : ∀ {k : Nat} (hk : k < l.length) {a b : Int}, l[k] = a → a ≠ b → (l.set k b).count a + 1 = l.count a := by
  induction l with
  | nil => intro k hk; exact absurd hk (Nat.not_lt_zero k)
  | cons x l ih =>
    intro k hk a b h1 h2
    cases k with
    | zero =>
      simp only [List.getElem_cons_zero] at h1
      subst h1
      simp only [List.set_cons_zero, List.count_cons_self]
      rw [List.count_cons_of_ne (Ne.symm h2)]
    | succ k =>
      simp only [List.getElem_cons_succ] at h1
      have := ih (k := k) (by simpa using hk) h1 h2
      simp only [List.set_cons_succ, List.count_cons]
      omega
theorem getD_setI {l : List Int} {k j : Nat} {a : Int} (hk : k < l.length) : (l.set k a).getD j 0 = if k = j then a else l.getD j 0 := by
  rw [List.getD_eq_getElem?_getD, List.getElem?_set]
  split
  · rename_i e; subst e; simp [hk]
  · rw [List.getD_eq_getElem?_getD]
theorem BI.le {N : Nat} {p : List Int × List Int} (h : BI N p) : p.2.length ≤ N := by have := h.cnt; omega
theorem BI.pos {N : Nat} {p : List Int × List Int} (h : BI N p) : 1 ≤ p.2.length := by
  obtain ⟨t, e⟩ := h.q0
  rw [e]; simp
theorem BI.at {N : Nat} {p : List Int × List Int} (h : BI N p) {i : Nat} (hi : i < p.2.length) : 0 ≤ p.2.getD i 0 ∧ p.2.getD i 0 < N ∧ p.1.getD (p.2.getD i 0).toNat 0 ≠ -2 := by
  have e : p.2.getD i 0 = p.2[i] := by simp [hi]
  rw [e]
  exact h.inq _ (List.getElem_mem hi)
theorem BI.step {N : Nat} {p : List Int × List Int} (h : BI N p) {i : Nat} (hi : i < p.2.length) {to : Int} (h0 : 0 ≤ to) (h1 : to < N) : BI N (bs1 (p.2.getD i 0) p to) ∧ BL p (bs1 (p.2.getD i 0) p to) ∧ (bs1 (p.2.getD i 0) p to).1.getD to.toNat 0 ≠ -2 := by
  obtain ⟨a, ha⟩ : ∃ a, a = p.2.getD i 0 := ⟨_, rfl⟩
  have hat := h.at hi
  rw [← ha] at hat ⊢
  unfold bs1
  split
  case isFalse e => exact ⟨h, BL.refl, e⟩
  rename_i e
  obtain ⟨k, rfl⟩ : ∃ k : Nat, to = k := ⟨to.toNat, (Int.toNat_of_nonneg h0).symm⟩
  simp only [Int.toNat_natCast] at e ⊢
  have hkN : k < p.1.length := by rw [h.fl]; omega
  obtain ⟨t0, e0⟩ := h.z0
  obtain ⟨tq, eq⟩ := h.q0
  have hk0 : k ≠ 0 := by
    rintro rfl
    rw [e0] at e
    simp at e
  have hkq : (k : Int) ∉ p.2 := fun hm => by
    have := (h.inq _ hm).2.2
    rw [Int.toNat_natCast] at this
    exact this e
  have hge : p.1[k] = -2 := by rw [← e]; simp [hkN]
  refine ⟨⟨by simp [h.fl], ⟨tq ++ [(k : Int)], by rw [eq]; simp⟩, ?_, ?_, ?_, ?_, ?_, ?_⟩, ⟨fun j hj => ?_, ⟨_, rfl⟩⟩, ?_⟩
  · obtain ⟨k', rfl⟩ : ∃ k', k = k' + 1 := ⟨k - 1, by omega⟩
    exact ⟨t0.set k' a, by simp [e0]⟩
  · intro x hx
    simp only [List.mem_append, List.mem_singleton] at hx
    simp only [getD_setI hkN]
    rcases hx with hx | rfl
    · have := h.inq x hx
      refine ⟨this.1, this.2.1, ?_⟩
      split
      · omega
      · exact this.2.2
    · refine ⟨by omega, by omega, ?_⟩
      simp; omega
  · intro j hj h2
    simp only [getD_setI hkN] at h2
    simp only [List.mem_append, List.mem_singleton]
    split at h2
    · rename_i e2; right; omega
    · exact .inl (h.vis j hj h2)
  · intro j h2 h3
    simp only [getD_setI hkN]
    split
    · right; omega
    · exact h.val j h2 h3
  · intro q h2 h3
    simp only [List.length_append, List.length_singleton] at h3
    by_cases hq : q < p.2.length
    · obtain ⟨r, hr, e2⟩ := h.par q h2 hq
      have e3 : (p.2 ++ [(k : Int)]).getD q 0 = p.2.getD q 0 := by rw [List.getD_eq_getElem?_getD, List.getElem?_append_left hq, List.getD_eq_getElem?_getD]
      have e4 : (p.2 ++ [(k : Int)]).getD r 0 = p.2.getD r 0 := by rw [List.getD_eq_getElem?_getD, List.getElem?_append_left (by omega), List.getD_eq_getElem?_getD]
      refine ⟨r, hr, ?_⟩
      simp only [e3, e4, getD_setI hkN]
      have := h.at hq
      rw [if_neg (fun e5 => hkq (by
        have e6 : p.2.getD q 0 = p.2[q] := by simp [hq]
        have e7 : (k : Int) = p.2[q] := by rw [← e6]; omega
        rw [e7]; exact List.getElem_mem hq)), e2]
    · have hq2 : q = p.2.length := by omega
      subst hq2
      refine ⟨i, hi, ?_⟩
      have e3 : (p.2 ++ [(k : Int)]).getD p.2.length 0 = k := by simp
      have e4 : (p.2 ++ [(k : Int)]).getD i 0 = a := by rw [List.getD_eq_getElem?_getD, List.getElem?_append_left hi, ← List.getD_eq_getElem?_getD, ha]
      simp only [e3, e4, getD_setI hkN, Int.toNat_natCast, if_pos]
  · have h2 := h.cnt
    have h3 := count_set hkN hge (b := a) (by omega)
    simp only [List.length_append, List.length_singleton]
    omega
  · simp only [getD_setI hkN]
    rw [if_neg]
    rintro rfl
    exact hj e
  · simp only [getD_setI hkN, if_pos]
    omega
/-- a graph's edges -/
structure NOk (next : List (List Int)) : Prop where
  pos : 1 ≤ next.length
  n60 : next.length ≤ 60
  ent : ∀ l ∈ next, ∀ x ∈ l, 0 ≤ x ∧ x < next.length
  ll : ∀ l ∈ next, l.length ≤ 325
theorem NOk.get {next : List (List Int)} (h : NOk next) {k : Nat} (hk : k < next.length) : next.getD k [] = next[k] ∧ next[k] ∈ next := ⟨by simp [hk], List.getElem_mem hk⟩
/-- the way back to the first node -/
inductive Chn (f : List Int) : Int → List Int → Prop where
  | z : Chn f (-1) []
  | s {a : Int} {l : List Int} : 0 ≤ a → a < f.length → Chn f (f.getD a.toNat 0) l → Chn f a (l ++ [a])
theorem Chn.neg {f : List Int} {l : List Int} (h : Chn f (-1) l) : l = [] := by
  generalize hx : (-1 : Int) = x at h
  cases h with
  | z => rfl
  | s h0 _ _ => omega
theorem Chn.un {f : List Int} {a : Int} {l : List Int} (h : Chn f a l) (h0 : 0 ≤ a) : ∃ l', l = l' ++ [a] ∧ a < f.length ∧ Chn f (f.getD a.toNat 0) l' := by
  cases h with
  | z => omega
  | s h1 h2 h3 => exact ⟨_, rfl, h2, h3⟩
theorem Chn.ge {f : List Int} {a : Int} {l : List Int} (h : Chn f a l) : -1 ≤ a := by
  cases h with
  | z => decide
  | s h1 _ _ => omega
theorem Chn.bl {p p' : List Int × List Int} (hb : BL p p') (hl : p.1.length = p'.1.length) {a : Int} {l : List Int} (h : Chn p.1 a l) : Chn p'.1 a l := by
  induction h with
  | z => exact .z
  | s h1 h2 h3 ih =>
    refine .s h1 (by omega) ?_
    have := h3.ge
    rw [hb.keep _ (by omega)]
    exact ih
theorem Chn.all {f : List Int} {a : Int} {l : List Int} (h : Chn f a l) : ∀ x ∈ l, 0 ≤ x ∧ x < f.length := by
  induction h with
  | z => simp
  | s h1 h2 h3 ih =>
    intro x hx
    simp only [List.mem_append, List.mem_singleton] at hx
    rcases hx with hx | rfl
    · exact ih x hx
    · exact ⟨h1, h2⟩
noncomputable def pth (next : List (List Int)) (a : Int) : List Int := open Classical in if h : ∃ l, Chn (bsN next next.length).1 a l then h.choose else []
end Go.Proofs.Ytonjglbachhdcaa

/-
  Paths of graphs are executions: in plain Lean.
-/
namespace Go.Proofs.Ytonjglbachhdcaa
open Go
set_option linter.all false
set_option linter.unusedVariables false
set_option linter.unusedSimpArgs false
set_option linter.defProp false
set_option maxRecDepth 1000000

/-- every edge of a graph is a step, or a state without steps stays -/
def Edg (s : Sy) (g : Gr) : Prop := ∀ (i : Nat) (hi : i < g.next.length), ∀ y ∈ g.next[i], (∃ t ∈ enb s (g.states.getD i Sta.zero), g.states.getD y.toNat Sta.zero = (g.states.getD i Sta.zero).aft s t) ∨ y = i
/-- where a node was found from -/
def BE (next : List (List Int)) (f : List Int) : Prop := ∀ j : Nat, 0 ≤ f.getD j 0 → j < next.length → (j : Int) ∈ next.getD (f.getD j 0).toNat [] ∧ f.getD j 0 ≠ j
theorem BE.step {next : List (List Int)} {p : List Int × List Int} (h : BE next p.1) (hb : BI next.length p) {i : Nat} (hi : i < p.2.length) {to : Int} (h0 : 0 ≤ to) (h1 : to < next.length) (hm : to ∈ next.getD (p.2.getD i 0).toNat []) : BE next (bs1 (p.2.getD i 0) p to).1 := by
  have hat := hb.at hi
  generalize p.2.getD i 0 = a at *
  unfold bs1
  split
  case isFalse => exact h
  rename_i e
  obtain ⟨k, rfl⟩ : ∃ k : Nat, to = k := ⟨to.toNat, (Int.toNat_of_nonneg h0).symm⟩
  simp only [Int.toNat_natCast] at e ⊢
  have hkN : k < p.1.length := by rw [hb.fl]; omega
  intro j hj hjn
  simp only [getD_setI hkN] at hj ⊢
  split at hj
  · rename_i e2
    subst e2
    rw [if_pos rfl]
    refine ⟨hm, fun e3 => ?_⟩
    rw [e3, Int.toNat_natCast] at hat
    exact hat.2.2 e
  · rename_i e2
    rw [if_neg e2]
    exact h j hj hjn
end Go.Proofs.Ytonjglbachhdcaa

/-
  Equal states, and where a state lies in a list: by the program and by the reference.
-/
namespace Go.Proofs.Ytonjglbachhdcaa
open Go
set_option linter.all false
set_option linter.unusedVariables false
set_option linter.unusedSimpArgs false
set_option linter.defProp false
set_option maxRecDepth 1000000

theorem c_Equal_int {h : Heap} {a b : Value} {x y : List Int} (Ra : Rep h a x) (Rb : Rep h b y) : CallE Try.prog fn_slices_Equal_S_int_int [a, b] h (fun u h' => h' = h ∧ u = .bool (decide (x = y))) := by
  have hL := Ra.lt
  refine CallE.gen fun k hk => EN_slices_Equal_S_int_int rfl ?_
  by_cases hl : (x.length : Int) = y.length
  case neg =>
    simp -implicitDefEqProofs (disch := first | omega | (simp only [List.length_set, List.length_replicate, List.length_append, List.length_map, List.length_take, List.length_cons, List.length_nil]; omega)) [wrap64, Ra.len, Rb.len, hl]
    exact RetK.keep (hk _ _ ⟨rfl, by congr 1; rw [eq_comm, decide_eq_false_iff_not]; intro e; subst e; exact hl rfl⟩)
  simp -implicitDefEqProofs (disch := first | omega | (simp only [List.length_set, List.length_replicate, List.length_append, List.length_map, List.length_take, List.length_cons, List.length_nil]; omega)) [wrap64, Ra.len, Rb.len, hl]
  refine wp_count x.length (fun i e h' => e = [some a, some b, none, none, some (.int .i64 x.length), some (.int .i64 i)] ∧ h' = h ∧ x.take i = y.take i) ⟨by simp [hl], rfl, rfl⟩ ?_
  rintro J i _ h1 hJ hi ⟨rfl, rfl, hq⟩
  simp -implicitDefEqProofs (disch := first | omega | (simp only [List.length_set, List.length_replicate, List.length_append, List.length_map, List.length_take, List.length_cons, List.length_nil]; omega)) [wrap64]
  refine IteW.mk (fun hlt => ?_) (fun hge => ?_)
  · have hlx : i < x.length := by omega
    have hly : i < y.length := by omega
    by_cases he : x[i] = y[i]
    · simp -implicitDefEqProofs (disch := first | omega | (simp only [List.length_set, List.length_replicate, List.length_append, List.length_map, List.length_take, List.length_cons, List.length_nil]; omega)) [wrap64, Ra.I, Rb.I, he]
      exact hJ _ _ hlx ⟨rfl, rfl, take_step hq hlx hly he⟩
    · simp -implicitDefEqProofs (disch := first | omega | (simp only [List.length_set, List.length_replicate, List.length_append, List.length_map, List.length_take, List.length_cons, List.length_nil]; omega)) [wrap64, Ra.I, Rb.I, he]
      exact RetK.keep (hk _ _ ⟨rfl, by congr 1; rw [eq_comm, decide_eq_false_iff_not]; intro e; subst e; exact he rfl⟩)
  · simp -implicitDefEqProofs (disch := first | omega | (simp only [List.length_set, List.length_replicate, List.length_append, List.length_map, List.length_take, List.length_cons, List.length_nil]; omega)) [wrap64]
    rw [List.take_of_length_le (by omega), List.take_of_length_le (by omega)] at hq
    exact RetK.keep (hk _ _ ⟨rfl, by simp [hq]⟩)
theorem c_StateSame {h : Heap} {v w : Value} {a b : Sta} (Ra : Rep h v a) (Rb : Rep h w b) : CallE Try.prog fn_impl_StateSame [v, w] h (fun u h' => h' = h ∧ u = .bool (decide (a = b))) := by
  obtain ⟨v1, v2, rfl, R1, R2⟩ := Rep_Sta.1 Ra
  obtain ⟨w1, w2, rfl, S1, S2⟩ := Rep_Sta.1 Rb
  refine CallE.gen fun k hk => EN_impl_StateSame rfl ?_
  simp -implicitDefEqProofs (disch := first | omega | (simp only [List.length_set, List.length_replicate, List.length_append, List.length_map, List.length_take, List.length_cons, List.length_nil]; omega)) [wrap64]
  refine (c_Equal_int R1 S1).go ?_
  rintro _ h ⟨rfl, rfl⟩
  by_cases h1 : a.locs = b.locs
  case neg =>
    simp -implicitDefEqProofs (disch := first | omega | (simp only [List.length_set, List.length_replicate, List.length_append, List.length_map, List.length_take, List.length_cons, List.length_nil]; omega)) [wrap64, h1]
    exact RetK.keep (hk _ _ ⟨rfl, by simp [Sta.ext_iff', h1]⟩)
  simp -implicitDefEqProofs (disch := first | omega | (simp only [List.length_set, List.length_replicate, List.length_append, List.length_map, List.length_take, List.length_cons, List.length_nil]; omega)) [wrap64, h1]
  refine (c_Equal_int R2 S2).go ?_
  rintro _ h ⟨rfl, rfl⟩
  simp -implicitDefEqProofs (disch := first | omega | (simp only [List.length_set, List.length_replicate, List.length_append, List.length_map, List.length_take, List.length_cons, List.length_nil]; omega)) [wrap64]
  exact RetK.keep (hk _ _ ⟨rfl, by simp [Sta.ext_iff', h1]⟩)
end Go.Proofs.Ytonjglbachhdcaa

/-
  Instances of functions over slices: copies, and whether some element meets a condition. Printed by a program.
-/
namespace Go.Proofs.Ytonjglbachhdcaa
open Go
set_option linter.all false
set_option linter.unusedVariables false
set_option linter.unusedSimpArgs false
set_option linter.defProp false
set_option maxRecDepth 1000000

end Go.Proofs.Ytonjglbachhdcaa

/-
  The graph of a system: by the program.
-/
namespace Go.Proofs.Ytonjglbachhdcaa
open Go
set_option linter.all false
set_option linter.unusedVariables false
set_option linter.unusedSimpArgs false
set_option linter.defProp false
set_option maxRecDepth 1000000

end Go.Proofs.Ytonjglbachhdcaa

/-
  The graph of a system: by the reference; both as functions of the package.
-/
namespace Go.Proofs.Ytonjglbachhdcaa
open Go
set_option linter.all false
set_option linter.unusedVariables false
set_option linter.unusedSimpArgs false
set_option linter.defProp false
set_option maxRecDepth 1000000

end Go.Proofs.Ytonjglbachhdcaa

/-
  Shortest paths: by the program.
-/
namespace Go.Proofs.Ytonjglbachhdcaa
open Go
set_option linter.all false
set_option linter.unusedVariables false
set_option linter.unusedSimpArgs false
set_option linter.defProp false
set_option maxRecDepth 1000000

def Rch (next : List (List Int)) : Prop := ∀ j : Nat, 1 ≤ j → j < next.length → ∃ (i : Nat) (hi : i < next.length), i < j ∧ (j : Int) ∈ next[i]
end Go.Proofs.Ytonjglbachhdcaa

/-
  Shortest paths: by the reference; states along paths, by the program and by the reference.
-/
namespace Go.Proofs.Ytonjglbachhdcaa
open Go
set_option linter.all false
set_option linter.unusedVariables false
set_option linter.unusedSimpArgs false
set_option linter.defProp false
set_option maxRecDepth 1000000

def prn (f : List Int) : List Int := f.map fun x => if x = -2 then -1 else x
def sen (f : List Int) : List Bool := f.map fun x => decide (x ≠ -2)
@[simp] theorem prn_len {f : List Int} : (prn f).length = f.length := by simp [prn]
@[simp] theorem sen_len {f : List Int} : (sen f).length = f.length := by simp [sen]
end Go.Proofs.Ytonjglbachhdcaa

/-
  Checking reachable states: by the program and by the reference.
-/
namespace Go.Proofs.Ytonjglbachhdcaa
open Go
set_option linter.all false
set_option linter.unusedVariables false
set_option linter.unusedSimpArgs false
set_option linter.defProp false
set_option maxRecDepth 1000000

def sof (g : Gr) (l : List Int) : List Sta := l.map fun x => g.states.getD x.toNat Sta.zero
end Go.Proofs.Ytonjglbachhdcaa

/-
  Paths of graphs are executions.
-/
namespace Go.Proofs.Ytonjglbachhdcaa
open Go
set_option linter.all false
set_option linter.unusedVariables false
set_option linter.unusedSimpArgs false
set_option linter.defProp false
set_option maxRecDepth 1000000

structure Exec (s : Sy) (P : List Sta) : Prop where
  ne : 0 < P.length
  st0 : P.getD 0 Sta.zero = ini s
  step : ∀ i : Nat, i + 1 < P.length → ∃ t ∈ enb s (P.getD i Sta.zero), P.getD (i + 1) Sta.zero = (P.getD i Sta.zero).aft s t
end Go.Proofs.Ytonjglbachhdcaa

/-
  Whether states are an execution: by the laws' helper. (not built yet: the places of the loops are guesses)
-/
namespace Go.Proofs.Ytonjglbachhdcaa
open Go
set_option linter.all false
set_option linter.unusedVariables false
set_option linter.unusedSimpArgs false
set_option linter.defProp false
set_option maxRecDepth 1000000

end Go.Proofs.Ytonjglbachhdcaa

/-
  Helpers of the laws about graphs: where a state lies, lists, executions.
-/
namespace Go.Proofs.Ytonjglbachhdcaa
open Go
set_option linter.all false
set_option linter.unusedVariables false
set_option linter.unusedSimpArgs false
set_option linter.defProp false
set_option maxRecDepth 1000000

theorem ens_ok {s : Sy} {st : Sta} (hs : s.Ok) (hst : st.Ok s) : ens s st = enb s st := by rw [ens, if_pos ⟨hs, hst⟩]
end Go.Proofs.Ytonjglbachhdcaa

/-
  Relevance is closed: in plain Lean.
-/
namespace Go.Proofs.Ytonjglbachhdcaa
open Go
set_option linter.all false
set_option linter.unusedVariables false
set_option linter.unusedSimpArgs false
set_option linter.defProp false
set_option maxRecDepth 1000000

def LeB (M M' : List Bool) : Prop := M.length = M'.length ∧ ∀ i : Nat, M.getD i false = true → M'.getD i false = true
theorem LeB.refl {M : List Bool} : LeB M M := ⟨rfl, fun _ h => h⟩
theorem LeB.trans {a b c : List Bool} (h : LeB a b) (h' : LeB b c) : LeB a c := ⟨h.1.trans h'.1, fun i hi => h'.2 i (h.2 i hi)⟩
theorem LeB.anti {a b : List Bool} (h : LeB a b) (h' : LeB b a) : a = b := by
  refine List.ext_getElem h.1 fun i h1 h2 => ?_
  have e1 : a.getD i false = a[i] := by simp [h1]
  have e2 : b.getD i false = b[i] := by simp [h2]
  have h3 := h.2 i
  have h4 := h'.2 i
  rw [e1, e2] at h3
  rw [e2, e1] at h4
  rw [Bool.eq_iff_iff]
  exact ⟨h3, h4⟩
theorem LeB.set {M : List Bool} {k : Nat} : LeB M (M.set k true) := by
  refine ⟨by simp, fun i hi => ?_⟩
  rw [List.getD_eq_getElem?_getD, List.getElem?_set]
  split
  · rename_i e
    subst e
    by_cases hk : k < M.length
    · simp [hk]
    · rw [List.getD_eq_getElem?_getD, List.getElem?_eq_none (by omega)] at hi; simp at hi
  · rw [← List.getD_eq_getElem?_getD]; exact hi
theorem LeB.setm {M M' : List Bool} {k : Nat} (h : LeB M M') : LeB (M.set k true) (M'.set k true) := by
  refine ⟨by simpa using h.1, fun i hi => ?_⟩
  have hl := h.1
  rw [List.getD_eq_getElem?_getD, List.getElem?_set] at hi ⊢
  split at hi
  · rename_i e
    subst e
    rw [if_pos rfl]
    by_cases hk : k < M.length
    · simp [← hl, hk]
    · simp [hk] at hi
  · rename_i e
    rw [if_neg e, ← List.getD_eq_getElem?_getD]
    rw [← List.getD_eq_getElem?_getD] at hi
    exact h.2 i hi
section
variable {α : Type} {f : List Bool → α → List Bool}
theorem fold_inf : ∀ {l : List α} {M : List Bool}, (∀ a ∈ l, ∀ M, LeB M (f M a)) → LeB M (l.foldl f M)
  | [], _, _ => LeB.refl
  | a :: l, M, h => (h a (by simp) M).trans (fold_inf fun b hb => h b (by simp [hb]))
theorem fold_mono : ∀ {l : List α} {M M' : List Bool}, (∀ a ∈ l, ∀ M M', LeB M M' → LeB (f M a) (f M' a)) → LeB M M' → LeB (l.foldl f M) (l.foldl f M')
  | [], _, _, _, h => h
  | a :: l, M, M', hf, h => fold_mono (l := l) (fun b hb => hf b (by simp [hb])) (hf a (by simp) M M' h)
theorem fold_fix : ∀ {l : List α} {M : List Bool}, (∀ a ∈ l, ∀ M, LeB M (f M a)) → l.foldl f M = M → ∀ a ∈ l, f M a = M
  | [], _, _, _ => fun a ha => by simp at ha
  | b :: l, M, h, he => by
    have h1 := h b (by simp) M
    have h2 : LeB (f M b) M := by
      have := fold_inf (f := f) (l := l) (M := f M b) fun c hc => h c (by simp [hc])
      rw [List.foldl_cons] at he
      rwa [he] at this
    have h3 : f M b = M := LeB.anti h2 h1
    intro a ha
    rcases List.mem_cons.1 ha with rfl | ha
    · exact h3
    · rw [List.foldl_cons, h3] at he
      exact fold_fix (l := l) (fun c hc => h c (by simp [hc])) he a ha
theorem fold_mem : ∀ {l : List α} {M : List Bool}, (∀ a ∈ l, ∀ M, LeB M (f M a)) → (∀ a ∈ l, ∀ M M', LeB M M' → LeB (f M a) (f M' a)) → ∀ a ∈ l, LeB (f M a) (l.foldl f M)
  | [], _, _, _ => fun a ha => by simp at ha
  | b :: l, M, h, hm => by
    intro a ha
    rcases List.mem_cons.1 ha with rfl | ha
    · rw [List.foldl_cons]
      exact fold_inf fun c hc => h c (by simp [hc])
    · rw [List.foldl_cons]
      exact (hm a (by simp [ha]) _ _ (h b (by simp) M)).trans (fold_mem (l := l) (fun c hc => h c (by simp [hc])) (fun c hc => hm c (by simp [hc])) a ha)
end
theorem Exq.mkv_inf : ∀ (x : Exq) (M : List Bool), LeB M (x.mkv M) := by
  refine Exq.ind fun x ih M => ?_
  rw [Exq.mkv_eq]
  refine LeB.trans ?_ (fold_inf fun y hy M => ih y hy M)
  split
  · exact LeB.set
  · exact LeB.refl
theorem Exq.mkv_mono : ∀ (x : Exq) (M M' : List Bool), LeB M M' → LeB (x.mkv M) (x.mkv M') := by
  refine Exq.ind fun x ih M M' h => ?_
  rw [Exq.mkv_eq, Exq.mkv_eq]
  refine fold_mono (fun y hy M M' => ih y hy M M') ?_
  split
  · exact h.setm
  · exact h
def occB (x : Exq) (v : Nat) : Bool := (x.mkv [false, false, false]).getD v false
theorem occB_mk {x : Exq} {v : Nat} {M : List Bool} (hM : M.length = 3) (h : occB x v = true) : (x.mkv M).getD v false = true := by
  refine (x.mkv_mono [false, false, false] M ⟨by rw [hM]; rfl, fun i hi => ?_⟩).2 v h
  rcases i with _ | _ | _ | i <;> simp at hi
theorem Ed.relv_inf (e : Ed) (M : List Bool) : LeB M (e.relv M) := by
  unfold Ed.relv
  split
  · exact Exq.mkv_inf _ _
  · exact LeB.refl
theorem relV_inf {s : Sy} (M : List Bool) : LeB M (relV s M) := fold_inf fun p _ M => fold_inf fun e _ M => e.relv_inf M
theorem bool3 {M : List Bool} (h : M.length = 3) : ∃ a b c, M = [a, b, c] := by
  match M, h with
  | [a, b, c], _ => exact ⟨a, b, c, rfl⟩
theorem LeB.cnt {M M' : List Bool} (h : LeB M M') (hM : M.length = 3) (hne : M ≠ M') : M.count true < M'.count true := by
  obtain ⟨a, b, c, rfl⟩ := bool3 hM
  obtain ⟨a', b', c', rfl⟩ := bool3 (by rw [← h.1]; rfl)
  have h0 := h.2 0
  have h1 := h.2 1
  have h2 := h.2 2
  simp at h0 h1 h2
  clear h hM
  revert a b c a' b' c'
  decide
theorem cnt3 {M : List Bool} (h : M.length = 3) : M.count true ≤ 3 := by rw [← h]; exact List.count_le_length
theorem fix3 {F : List Bool → List Bool} (hF : ∀ M, LeB M (F M)) {M : List Bool} (hM : M.length = 3) : F (F (F (F M))) = F (F (F M)) := by
  have l1 := (hF M).1
  have l2 := (hF (F M)).1
  have l3 := (hF (F (F M))).1
  have l4 := (hF (F (F (F M)))).1
  by_cases h0 : M = F M
  · simp only [h0.symm]
  by_cases h1 : F M = F (F M)
  · simp only [h1.symm]
  by_cases h2 : F (F M) = F (F (F M))
  · simp only [h2.symm]
  by_cases h3 : F (F (F M)) = F (F (F (F M)))
  · exact h3.symm
  have c0 := (hF M).cnt hM h0
  have c1 := (hF (F M)).cnt (by omega) h1
  have c2 := (hF (F (F M))).cnt (by omega) h2
  have c3 := (hF (F (F (F M)))).cnt (by omega) h3
  have := cnt3 (M := F (F (F (F M)))) (by omega)
  omega
theorem Sy.rel_fix {s : Sy} {L : List Exq} : relV s (s.rel L) = s.rel L := fix3 (fun M => relV_inf M) (relG_len (relL_len rfl))
theorem rel_ge {s : Sy} {L : List Exq} : LeB (relG s (relL L [false, false, false])) (s.rel L) := (relV_inf _).trans ((relV_inf _).trans (relV_inf _))
theorem rel_guard {s : Sy} {L : List Exq} {p : Pr} {e : Ed} {v : Nat} (hp : p ∈ s.procs) (he : e ∈ p.edges) (h : occB e.guard v = true) : (s.rel L).getD v false = true := by
  have hl : (relL L [false, false, false]).length = 3 := relL_len rfl
  have h0 : LeB (p.edges.foldl (fun M e => e.guard.mkv M) (relL L [false, false, false])) (relG s (relL L [false, false, false])) :=
    fold_mem (f := fun M (p : Pr) => p.edges.foldl (fun M e => e.guard.mkv M) M) (fun a _ M => fold_inf fun e _ M => Exq.mkv_inf _ M) (fun a _ M M' h => fold_mono (fun e _ M M' => Exq.mkv_mono e.guard M M') h) p hp
  have h1 : LeB (e.guard.mkv (relL L [false, false, false])) (p.edges.foldl (fun M e => e.guard.mkv M) (relL L [false, false, false])) :=
    fold_mem (f := fun M (e : Ed) => e.guard.mkv M) (fun a _ M => Exq.mkv_inf _ M) (fun a _ M M' => Exq.mkv_mono _ M M') e he
  exact (h1.trans (h0.trans rel_ge)).2 v (occB_mk hl h)
theorem rel_value {s : Sy} {L : List Exq} {p : Pr} {e : Ed} {v : Nat} (hp : p ∈ s.procs) (he : e ∈ p.edges) (h0 : 0 ≤ e.var) (h1 : (s.rel L).getD e.var.toNat false = true) (h : occB e.value v = true) : (s.rel L).getD v false = true := by
  have f1 := fold_fix (f := fun M (p : Pr) => p.edges.foldl Ed.relv M) (l := s.procs) (M := s.rel L) (fun a _ M => fold_inf fun e _ M => e.relv_inf M) Sy.rel_fix p hp
  have f2 := fold_fix (f := Ed.relv) (l := p.edges) (M := s.rel L) (fun a _ M => a.relv_inf M) f1 e he
  unfold Ed.relv at f2
  rw [if_pos ⟨h0, h1⟩] at f2
  rw [← f2]
  exact occB_mk Sy.rel_len h
end Go.Proofs.Ytonjglbachhdcaa

/-
  What variables occur in expressions: by the program; equal lists of truth values.
-/
namespace Go.Proofs.Ytonjglbachhdcaa
open Go
set_option linter.all false
set_option linter.unusedVariables false
set_option linter.unusedSimpArgs false
set_option linter.defProp false
set_option maxRecDepth 1000000

end Go.Proofs.Ytonjglbachhdcaa

/-
  Checking reachable states: invariants and deadlocks, by the program and by the reference.
-/
namespace Go.Proofs.Ytonjglbachhdcaa
open Go
set_option linter.all false
set_option linter.unusedVariables false
set_option linter.unusedSimpArgs false
set_option linter.defProp false
set_option maxRecDepth 1000000

noncomputable def ckV (s : Sy) (b : Prop) (bad : Sta → Bool) : Int := open Classical in if ¬ (b ∧ s.Ok) then 3 else if ¬ bgOk s then 2 else if (bgR s).states.any bad then 1 else 0
noncomputable def ckL (s : Sy) (b : Prop) (bad : Sta → Bool) : List Sta := open Classical in if ¬ (b ∧ s.Ok) then [] else if ¬ bgOk s then [] else match (bgR s).states.findIdx? bad with | some i => sof (bgR s) (pth (bgR s).next i) | none => []
def RI2 (n : Int) (l : List Sta) (h : Heap) : Value → Heap → Prop := fun u h' => ∃ x, u = .tuple #[.int .i64 n, x] ∧ HS h [ow x l] h'

def badE (e : Exq) (st : Sta) : Bool := decide (e.ev st.vals = 0)
def badD (s : Sy) (st : Sta) : Bool := decide (enb s st = [])
end Go.Proofs.Ytonjglbachhdcaa

/-
  Values depend on the variables that occur; independent edges commute: in plain Lean.
-/
namespace Go.Proofs.Ytonjglbachhdcaa
open Go
set_option linter.all false
set_option linter.unusedVariables false
set_option linter.unusedSimpArgs false
set_option linter.defProp false
set_option maxRecDepth 1000000

theorem ev_loc {vs ws : List Int} : ∀ {n : Nat} {x : Exq}, x.Shp n → ∀ {M : List Bool}, M.length = 3 → (∀ v : Nat, (x.mkv M).getD v false = true → vs.getD v 0 = ws.getD v 0) → x.ev vs = x.ev ws
  | 0, _, h, _, _, _ => h.elim
  | n + 1, x, h, M, hM, H => by
    have hn := h.1
    obtain ⟨M0, hM0⟩ : ∃ M0, M0 = (if x.kind = 2 then M.set x.val.toNat true else M) := ⟨_, rfl⟩
    have e := Exq.mkv_eq x M
    rw [← hM0] at e
    have hM03 : M0.length = 3 := by rw [hM0]; split <;> simp [hM]
    have hle : LeB M0 (x.mkv M) := by rw [e]; exact fold_inf fun y _ M => y.mkv_inf M
    have hk : ∀ y ∈ x.kids, y.ev vs = y.ev ws := fun y hy => by
      refine ev_loc (h.2 y hy) hM03 fun v hv => H v ?_
      rw [e]
      exact (fold_mem (f := fun M (x : Exq) => x.mkv M) (fun y _ M => y.mkv_inf M) (fun y _ => y.mkv_mono) y hy).2 v hv
    have hmap : x.kids.map (Exq.ev vs) = x.kids.map (Exq.ev ws) := List.map_congr_left hk
    rw [Exq.ev_eq, Exq.ev_eq]
    unfold Exq.kev
    rw [hmap]
    unfold Exq.evk
    by_cases h2 : x.kind = 2
    · have hhi := hn.hi
      rw [h2] at hhi
      simp [Exq.most] at hhi
      have h3 : x.val.toNat < M.length := by omega
      have : vs.getD x.val.toNat 0 = ws.getD x.val.toNat 0 := H _ (hle.2 _ (by rw [hM0, if_pos h2]; simp [h3]))
      rw [this]
    · simp only [if_neg h2]
theorem ev_occ {vs ws : List Int} {x : Exq} (hx : x.Ok) (H : ∀ v : Nat, occB x v = true → vs.getD v 0 = ws.getD v 0) : x.ev vs = x.ev ws := ev_loc hx.1 rfl H
/-- two edges are independent -/
def Ind (a b : Ed) : Prop := ¬ (0 ≤ a.var ∧ (a.var = b.var ∨ occB b.guard a.var.toNat = true ∨ (0 ≤ b.var ∧ occB b.value a.var.toNat = true))) ∧ (b.var < 0 ∨ (occB a.guard b.var.toNat = false ∧ (a.var < 0 ∨ occB a.value b.var.toNat = false)))
theorem Ed.Ok.val {e : Ed} {n : Int} (h : e.Ok n) (h0 : 0 ≤ e.var) : e.value.Ok := h.vl.elim (fun hh => hh.2) (fun hh => absurd hh.1 (by omega))
end Go.Proofs.Ytonjglbachhdcaa

/-
  Small functions that laws call: independent edges, values of expressions, letters of states, shortest paths.
-/
namespace Go.Proofs.Ytonjglbachhdcaa
open Go
set_option linter.all false
set_option linter.unusedVariables false
set_option linter.unusedSimpArgs false
set_option linter.defProp false
set_option maxRecDepth 1000000

end Go.Proofs.Ytonjglbachhdcaa

/-
  Bodies of functions in the small language, as a program printed them, and that each is what the translation gives.
-/
namespace Go.Proofs.Ytonjglbachhdcaa
open Go
set_option linter.all false
set_option linter.defProp false
set_option maxRecDepth 1000000

def H_impl_Expr_copyOf : Hint := ⟨[(0, false), (1, true), (2, true), (3, true), (4, false), (5, true), (15, false), (16, false), (17, false)], [[0, 1, 4, 5]]⟩
def K107_1 : C := .seq (.pl <| .st (.ext 9 1) <|
    .st (.act none (.pget (some 9) none 3 0 (some 3))) <|
    .st (.act none (.pset none 2 0 3 (.v 9))) .done) (.ret)
@[simp] def W107_1 := @C.wpe _ _ K107_1.eq_1
def K107_2 : C := .pl <| .st (.ext 9 1) <|
    .st (.act none (.px (some 9) (.bin .add (.v 8) (.c (.int .i64 1))))) <|
    .st (.act none (.px (some 8) (.mv (.v 9)))) .done
@[simp] def W107_2 := @C.wpe _ _ K107_2.eq_1
def K107_3 : Pl := .st (.act none (.px (some 14) (.ia 3 (.v 10) (.v 11)))) <|
    .st (.act none (.ex none (.store 3 (.v 14) (.v 13)))) .done
@[simp] def W107_3 := @Pl.wpe _ _ K107_3.eq_1
def K107_4 : C := .pl <| .st (.ext 9 6) <|
    .st (.act none (.als 9 none 3)) <|
    .st (.act none (.pget (some 10) (some 9) 3 2 none)) <|
    .st (.act none (.px (some 11) (.mv (.v 4)))) <|
    .st (.act none (.pget (some 12) none 5 0 (some 3))) <|
    .st (.act none (.ex (some 13) (.call fn_impl_Expr_copyOf [.v 12]))) K107_3
@[simp] def W107_4 := @C.wpe _ _ K107_4.eq_1
def K107_5 : C := .seq (.block 1 (.seq (.pl <| .st (.ext 9 3) <|
    .st (.act none (.px (some 9) (.mv (.v 8)))) <|
    .st (.act none (.px (some 10) (.ia 3 (.v 6) (.v 8)))) <|
    .st (.act none (.ld (some 11) (.v 10) (some 3))) <|
    .st (.act none (.pnew 5 (.c (.agg #[.int .i64 0, .int .i64 0, .slice none 0 0])) [])) <|
    .st (.act none (.px (some 4) (.mv (.v 9)))) <|
    .st (.act none (.pset none 5 0 3 (.v 11))) .done) K107_4)) K107_2
@[simp] def W107_5 := @C.wpe _ _ K107_5.eq_1
def K107_6 : C := .seq (.cond 9 (.v 9) (.skip) (.exit 0)) K107_5
@[simp] def W107_6 := @C.wpe _ _ K107_6.eq_1
def K107_7 : C := .seq (.pl <| .st (.ext 9 1) <|
    .st (.act none (.px (some 9) (.bin .lss (.v 8) (.v 7)))) .done) K107_6
@[simp] def W107_7 := @C.wpe _ _ K107_7.eq_1
def K107_8 : C := .block 0 (.loop 9 [0, 1, 4, 5] K107_7)
@[simp] def W107_8 := @C.wpe _ _ K107_8.eq_1
def K107_9 : C := .seq (.seq (.pl <| .st (.ext 9 1) <|
    .st (.act none (.als 9 none 1)) <|
    .st (.act none (.pget (some 6) (some 9) 1 2 none)) <|
    .st (.act none (.px (some 7) (.lenV (.v 6)))) <|
    .st (.act none (.px (some 8) (.mv (.c (.int .i64 0))))) .done) K107_8) K107_1
@[simp] def W107_9 := @C.wpe _ _ K107_9.eq_1
def K107_10 : Pl := .st (.act none (.px (some 16) (.build [.int .i64 0, .int .i64 0, .slice none 0 0] [(0, 1, .v 10), (1, 1, .v 12), (2, 1, .v 15)]))) <|
    .st (.act none (.pset none 3 0 3 (.v 16))) .done
@[simp] def W107_10 := @Pl.wpe _ _ K107_10.eq_1
def K107_11 : C := .seq (.pl <| .st (.ext 9 8) <|
    .st (.act none (.als 9 none 1)) <|
    .st (.act none (.pget (some 10) (some 9) 1 0 none)) <|
    .st (.act none (.als 11 none 1)) <|
    .st (.act none (.pget (some 12) (some 11) 1 1 none)) <|
    .st (.act none (.als 13 none 1)) <|
    .st (.act none (.pget (some 14) (some 13) 1 2 none)) <|
    .st (.act none (.pnew 3 (.c (.agg #[.int .i64 0, .int .i64 0, .slice none 0 0])) [])) <|
    .st (.act none (.ex (some 15) (.call fn_impl_clone_impl_Expr [.v 14]))) K107_10) K107_9
@[simp] def W107_11 := @C.wpe _ _ K107_11.eq_1
def B_impl_Expr_copyOf : C := .seq (.pl <| .st (.ext 9 0) <|
    .st (.act none (.pnew 1 (.v 0) [])) <|
    .st (.act none (.pnew 2 (.c (.agg #[.int .i64 0, .int .i64 0, .slice none 0 0])) [])) .done) K107_11
@[simp] def WB_impl_Expr_copyOf := @C.wpe _ _ B_impl_Expr_copyOf.eq_1
def R_impl_Expr_copyOf : FIR := ⟨B_impl_Expr_copyOf, 9, [(2, some (some 3))]⟩
theorem IR_impl_Expr_copyOf : cfun Try.prog H_impl_Expr_copyOf Try.f107 = some R_impl_Expr_copyOf := by kernel_rfl
theorem EN_impl_Expr_copyOf {args : List Value} {h : Heap} {k : Value → Heap → Prop} (hargs : args.length = 1) (hw : B_impl_Expr_copyOf.wp Try.prog (retQ [(2, some (some 3))] k) (env0 args 9) h) : CallE Try.prog fn_impl_Expr_copyOf args h k := enter Try.func107 rfl IR_impl_Expr_copyOf hargs hw

def H_impl_SliceSystem : Hint := ⟨[(0, false), (1, false), (2, true), (4, true), (5, false), (6, false), (7, false), (8, true), (10, true), (11, false), (12, true), (25, false), (26, false), (27, false), (32, false), (33, false), (34, false)], [[0, 1, 2, 4, 6, 8, 9, 10, 14, 15, 16], [0, 1, 2, 4, 6, 9, 10]]⟩
def K25_1 : C := .seq (.pl <| .st (.ext 17 1) <|
    .st (.act none (.pget (some 17) none 7 0 (some 2))) <|
    .st (.act none (.pset none 3 0 2 (.v 17))) <|
    .st (.act none (.px (some 4) (.mv (.c (.bool true))))) .done) (.ret)
@[simp] def W25_1 := @C.wpe _ _ K25_1.eq_1
def K25_2 : C := .pl <| .st (.ext 17 1) <|
    .st (.act none (.px (some 17) (.bin .add (.v 13) (.c (.int .i64 1))))) <|
    .st (.act none (.px (some 13) (.mv (.v 17)))) .done
@[simp] def W25_2 := @C.wpe _ _ K25_2.eq_1
def K25_3 : C := .pl <| .st (.ext 17 1) <|
    .st (.act none (.px (some 17) (.bin .add (.v 16) (.c (.int .i64 1))))) <|
    .st (.act none (.px (some 16) (.mv (.v 17)))) .done
@[simp] def W25_3 := @C.wpe _ _ K25_3.eq_1
def K25_4 : Pl := .st (.act none (.px (some 26) (.ia 10 (.v 21) (.v 22)))) <|
    .st (.act none (.px (some 27) (.fa 6 (.v 26)))) <|
    .st (.act none (.ex none (.store 3 (.v 27) (.v 23)))) .done
@[simp] def W25_4 := @Pl.wpe _ _ K25_4.eq_1
def K25_5 : C := .pl <| .st (.ext 17 11) <|
    .st (.act none (.als 17 none 8)) <|
    .st (.act none (.pget (some 18) (some 17) 8 1 none)) <|
    .st (.act none (.px (some 19) (.mv (.v 9)))) <|
    .st (.act none (.als 20 none 8)) <|
    .st (.act none (.pget (some 21) (some 20) 8 1 none)) <|
    .st (.act none (.px (some 22) (.mv (.v 9)))) <|
    .st (.act none (.px (some 23) (.build [.int .i64 0, .int .i64 0, .slice none 0 0] []))) <|
    .st (.act none (.px (some 24) (.ia 10 (.v 18) (.v 19)))) <|
    .st (.act none (.px (some 25) (.fa 5 (.v 24)))) <|
    .st (.act none (.ex none (.store 1 (.v 25) (.c (.int .i64 (-1)))))) K25_4
@[simp] def W25_5 := @C.wpe _ _ K25_5.eq_1
def K25_6 : C := .cond 17 (.v 27) K25_5 (.skip)
@[simp] def W25_6 := @C.wpe _ _ K25_6.eq_1
def K25_7 : C := .seq (.pl <| .st (.ext 17 11) <|
    .st (.act none (.als 17 none 10)) <|
    .st (.act none (.pget (some 18) (some 17) 10 5 none)) <|
    .st (.act none (.px (some 19) (.bin .geq (.v 18) (.c (.int .i64 0))))) <|
    .st (.act none (.px (some 20) (.mv (.v 19)))) <|
    .st (.act (some (.v 20, true)) (.px (some 21) (.mv (.v 5)))) <|
    .st (.act (some (.v 20, true)) (.als 22 none 10)) <|
    .st (.act (some (.v 20, true)) (.pget (some 23) (some 22) 10 5 none)) <|
    .st (.act (some (.v 20, true)) (.px (some 24) (.ia 1 (.v 21) (.v 23)))) <|
    .st (.act (some (.v 20, true)) (.ld (some 25) (.v 24) none)) <|
    .st (.act (some (.v 20, true)) (.px (some 26) (.un .not (.v 25)))) <|
    .st (.act none (.px (some 27) (.pick (.v 20) (.v 26) (.c (.bool false))))) .done) K25_6
@[simp] def W25_7 := @C.wpe _ _ K25_7.eq_1
def K25_8 : C := .seq (.block 3 (.seq (.pl <| .st (.ext 17 3) <|
    .st (.act none (.px (some 17) (.mv (.v 16)))) <|
    .st (.act none (.px (some 18) (.ia 10 (.v 14) (.v 16)))) <|
    .st (.act none (.ld (some 19) (.v 18) (some 10))) <|
    .st (.act none (.pnew 10 (.c (.agg #[.int .i64 0, .int .i64 0, .int .i64 0, .int .i64 0, .slice none 0 0, .int .i64 0, .int .i64 0, .int .i64 0, .slice none 0 0, .int .i64 0])) [])) <|
    .st (.act none (.px (some 9) (.mv (.v 17)))) <|
    .st (.act none (.pset none 10 0 10 (.v 19))) .done) K25_7)) K25_3
@[simp] def W25_8 := @C.wpe _ _ K25_8.eq_1
def K25_9 : C := .seq (.cond 17 (.v 17) (.skip) (.exit 2)) K25_8
@[simp] def W25_9 := @C.wpe _ _ K25_9.eq_1
def K25_10 : C := .seq (.pl <| .st (.ext 17 1) <|
    .st (.act none (.px (some 17) (.bin .lss (.v 16) (.v 15)))) .done) K25_9
@[simp] def W25_10 := @C.wpe _ _ K25_10.eq_1
def K25_11 : C := .block 2 (.loop 17 [0, 1, 2, 4, 6, 9, 10] K25_10)
@[simp] def W25_11 := @C.wpe _ _ K25_11.eq_1
def K25_12 : C := .seq (.pl <| .st (.ext 17 1) <|
    .st (.act none (.als 17 none 8)) <|
    .st (.act none (.pget (some 14) (some 17) 8 1 none)) <|
    .st (.act none (.px (some 15) (.lenV (.v 14)))) <|
    .st (.act none (.px (some 16) (.mv (.c (.int .i64 0))))) .done) K25_11
@[simp] def W25_12 := @C.wpe _ _ K25_12.eq_1
def K25_13 : C := .seq (.block 1 (.seq (.pl <| .st (.ext 17 2) <|
    .st (.act none (.px (some 17) (.ia 2 (.v 11) (.v 13)))) <|
    .st (.act none (.ld (some 18) (.v 17) (some 2))) <|
    .st (.act none (.pnew 8 (.c (.agg #[.int .i64 0, .slice none 0 0])) [])) <|
    .st (.act none (.pset none 8 0 2 (.v 18))) .done) K25_12)) K25_2
@[simp] def W25_13 := @C.wpe _ _ K25_13.eq_1
def K25_14 : C := .seq (.cond 17 (.v 17) (.skip) (.exit 0)) K25_13
@[simp] def W25_14 := @C.wpe _ _ K25_14.eq_1
def K25_15 : C := .seq (.pl <| .st (.ext 17 1) <|
    .st (.act none (.px (some 17) (.bin .lss (.v 13) (.v 12)))) .done) K25_14
@[simp] def W25_15 := @C.wpe _ _ K25_15.eq_1
def K25_16 : C := .block 0 (.loop 17 [0, 1, 2, 4, 6, 8, 9, 10, 14, 15, 16] K25_15)
@[simp] def W25_16 := @C.wpe _ _ K25_16.eq_1
def K25_17 : C := .seq (.seq (.pl <| .st (.ext 17 1) <|
    .st (.act none (.als 17 none 7)) <|
    .st (.act none (.pget (some 11) (some 17) 7 1 none)) <|
    .st (.act none (.px (some 12) (.lenV (.v 11)))) <|
    .st (.act none (.px (some 13) (.mv (.c (.int .i64 0))))) .done) K25_16) K25_1
@[simp] def W25_17 := @C.wpe _ _ K25_17.eq_1
def K25_18 : Pl := .st (.act none (.pnew 7 (.c (.agg #[.slice none 0 0, .slice none 0 0])) [])) <|
    .st (.act none (.pset none 7 0 2 (.v 18))) .done
@[simp] def W25_18 := @Pl.wpe _ _ K25_18.eq_1
def K25_19 : C := .seq (.pl <| .st (.ext 17 2) <|
    .st (.act none (.pget (some 17) none 2 0 (some 2))) <|
    .st (.act none (.ex (some 18) (.call fn_impl_System_copyOf [.v 17]))) K25_18) K25_17
@[simp] def W25_19 := @C.wpe _ _ K25_19.eq_1
def K25_20 : C := .seq (.pl <| .st (.ext 17 1) <|
    .st (.act none (.px (some 17) (.build [.slice none 0 0, .slice none 0 0] []))) <|
    .st (.act none (.pset none 3 0 2 (.v 17))) <|
    .st (.act none (.px (some 4) (.mv (.c (.bool false))))) .done) (.ret)
@[simp] def W25_20 := @C.wpe _ _ K25_20.eq_1
def K25_21 : C := .cond 17 (.v 18) K25_20 (.skip)
@[simp] def W25_21 := @C.wpe _ _ K25_21.eq_1
def K25_22 : C := .seq (.seq (.pl <| .st (.ext 17 2) <|
    .st (.act none (.px (some 17) (.mv (.v 6)))) <|
    .st (.act none (.px (some 18) (.un .not (.v 17)))) .done) K25_21) K25_19
@[simp] def W25_22 := @C.wpe _ _ K25_22.eq_1
def K25_23 : Pl := .st (.act none (.px (some 20) (.mv (.v 19)))) <|
    .st (.act none (.px (some 21) (.extract 0 (.v 20)))) <|
    .st (.act none (.px (some 22) (.extract 1 (.v 20)))) <|
    .st (.act none (.px (some 5) (.mv (.v 21)))) <|
    .st (.act none (.px (some 6) (.mv (.v 22)))) .done
@[simp] def W25_23 := @Pl.wpe _ _ K25_23.eq_1
def K25_24 : C := .seq (.pl <| .st (.ext 17 6) <|
    .st (.act none (.pget (some 17) none 2 0 (some 2))) <|
    .st (.act none (.px (some 18) (.mv (.v 1)))) <|
    .st (.act none (.ex (some 19) (.call fn_impl_RelevantVars [.v 17, .v 18]))) K25_23) K25_22
@[simp] def W25_24 := @C.wpe _ _ K25_24.eq_1
def B_impl_SliceSystem : C := .seq (.pl <| .st (.ext 17 0) <|
    .st (.act none (.pnew 2 (.v 0) [])) <|
    .st (.act none (.pnew 3 (.c (.agg #[.slice none 0 0, .slice none 0 0])) [])) <|
    .st (.act none (.px (some 4) (.mv (.c (.bool false))))) .done) K25_24
@[simp] def WB_impl_SliceSystem := @C.wpe _ _ B_impl_SliceSystem.eq_1
def R_impl_SliceSystem : FIR := ⟨B_impl_SliceSystem, 17, [(3, some (some 2)), (4, none)]⟩
theorem IR_impl_SliceSystem : cfun Try.prog H_impl_SliceSystem Try.f25 = some R_impl_SliceSystem := by kernel_rfl
theorem EN_impl_SliceSystem {args : List Value} {h : Heap} {k : Value → Heap → Prop} (hargs : args.length = 2) (hw : B_impl_SliceSystem.wp Try.prog (retQ [(3, some (some 2)), (4, none)] k) (env0 args 17) h) : CallE Try.prog fn_impl_SliceSystem args h k := enter Try.func25 rfl IR_impl_SliceSystem hargs hw

def H_impl_System_copyOf : Hint := ⟨[(0, false), (1, true), (2, true), (3, true), (4, false), (5, true), (6, false), (7, true), (16, false), (17, false), (18, false), (32, false), (33, false), (34, false)], [[0, 1, 4, 5, 6, 7, 11, 12, 13], [0, 1, 5, 6, 7]]⟩
def K60_1 : C := .seq (.pl <| .st (.ext 14 1) <|
    .st (.act none (.pget (some 14) none 3 0 (some 2))) <|
    .st (.act none (.pset none 2 0 2 (.v 14))) .done) (.ret)
@[simp] def W60_1 := @C.wpe _ _ K60_1.eq_1
def K60_2 : C := .pl <| .st (.ext 14 1) <|
    .st (.act none (.px (some 14) (.bin .add (.v 10) (.c (.int .i64 1))))) <|
    .st (.act none (.px (some 10) (.mv (.v 14)))) .done
@[simp] def W60_2 := @C.wpe _ _ K60_2.eq_1
def K60_3 : C := .pl <| .st (.ext 14 1) <|
    .st (.act none (.px (some 14) (.bin .add (.v 13) (.c (.int .i64 1))))) <|
    .st (.act none (.px (some 13) (.mv (.v 14)))) .done
@[simp] def W60_3 := @C.wpe _ _ K60_3.eq_1
def K60_4 : Pl := .st (.re 19 (.v 18) none none) <|
    .st (.act none (.px (some 24) (.ia 10 (.v 19) (.v 20)))) <|
    .st (.act none (.px (some 25) (.fa 6 (.v 24)))) <|
    .st (.act none (.ex none (.store 3 (.v 25) (.v 23)))) .done
@[simp] def W60_4 := @Pl.wpe _ _ K60_4.eq_1
def K60_5 : C := .pl <| .st (.ext 14 12) <|
    .st (.act none (.als 14 none 3)) <|
    .st (.act none (.pget (some 15) (some 14) 3 1 none)) <|
    .st (.act none (.px (some 16) (.mv (.v 4)))) <|
    .st (.act none (.px (some 17) (.ia 2 (.v 15) (.v 16)))) <|
    .st (.act none (.px (some 18) (.fa 1 (.v 17)))) <|
    .st (.act none (.ld (some 19) (.v 18) none)) <|
    .st (.act none (.px (some 20) (.mv (.v 6)))) <|
    .st (.act none (.als 21 none 7)) <|
    .st (.act none (.pget (some 22) (some 21) 7 6 (some 3))) <|
    .st (.act none (.ex (some 23) (.call fn_impl_Expr_copyOf [.v 22]))) K60_4
@[simp] def W60_5 := @C.wpe _ _ K60_5.eq_1
def K60_6 : Pl := .st (.re 19 (.v 18) none none) <|
    .st (.act none (.px (some 24) (.ia 10 (.v 19) (.v 20)))) <|
    .st (.act none (.px (some 25) (.fa 2 (.v 24)))) <|
    .st (.act none (.ex none (.store 3 (.v 25) (.v 23)))) .done
@[simp] def W60_6 := @Pl.wpe _ _ K60_6.eq_1
def K60_7 : C := .seq (.pl <| .st (.ext 14 12) <|
    .st (.act none (.als 14 none 3)) <|
    .st (.act none (.pget (some 15) (some 14) 3 1 none)) <|
    .st (.act none (.px (some 16) (.mv (.v 4)))) <|
    .st (.act none (.px (some 17) (.ia 2 (.v 15) (.v 16)))) <|
    .st (.act none (.px (some 18) (.fa 1 (.v 17)))) <|
    .st (.act none (.ld (some 19) (.v 18) none)) <|
    .st (.act none (.px (some 20) (.mv (.v 6)))) <|
    .st (.act none (.als 21 none 7)) <|
    .st (.act none (.pget (some 22) (some 21) 7 2 (some 3))) <|
    .st (.act none (.ex (some 23) (.call fn_impl_Expr_copyOf [.v 22]))) K60_6) K60_5
@[simp] def W60_7 := @C.wpe _ _ K60_7.eq_1
def K60_8 : C := .seq (.block 3 (.seq (.pl <| .st (.ext 14 3) <|
    .st (.act none (.px (some 14) (.mv (.v 13)))) <|
    .st (.act none (.px (some 15) (.ia 10 (.v 11) (.v 13)))) <|
    .st (.act none (.ld (some 16) (.v 15) (some 10))) <|
    .st (.act none (.pnew 7 (.c (.agg #[.int .i64 0, .int .i64 0, .int .i64 0, .int .i64 0, .slice none 0 0, .int .i64 0, .int .i64 0, .int .i64 0, .slice none 0 0, .int .i64 0])) [])) <|
    .st (.act none (.px (some 6) (.mv (.v 14)))) <|
    .st (.act none (.pset none 7 0 10 (.v 16))) .done) K60_7)) K60_3
@[simp] def W60_8 := @C.wpe _ _ K60_8.eq_1
def K60_9 : C := .seq (.cond 14 (.v 14) (.skip) (.exit 2)) K60_8
@[simp] def W60_9 := @C.wpe _ _ K60_9.eq_1
def K60_10 : C := .seq (.pl <| .st (.ext 14 1) <|
    .st (.act none (.px (some 14) (.bin .lss (.v 13) (.v 12)))) .done) K60_9
@[simp] def W60_10 := @C.wpe _ _ K60_10.eq_1
def K60_11 : C := .block 2 (.loop 14 [0, 1, 5, 6, 7] K60_10)
@[simp] def W60_11 := @C.wpe _ _ K60_11.eq_1
def K60_12 : C := .seq (.pl <| .st (.ext 14 1) <|
    .st (.act none (.als 14 none 5)) <|
    .st (.act none (.pget (some 11) (some 14) 5 1 none)) <|
    .st (.act none (.px (some 12) (.lenV (.v 11)))) <|
    .st (.act none (.px (some 13) (.mv (.c (.int .i64 0))))) .done) K60_11
@[simp] def W60_12 := @C.wpe _ _ K60_12.eq_1
def K60_13 : Pl := .st (.act none (.px (some 20) (.ia 2 (.v 15) (.v 16)))) <|
    .st (.act none (.px (some 21) (.fa 1 (.v 20)))) <|
    .st (.act none (.ex none (.store 1 (.v 21) (.v 19)))) .done
@[simp] def W60_13 := @Pl.wpe _ _ K60_13.eq_1
def K60_14 : C := .seq (.pl <| .st (.ext 14 8) <|
    .st (.act none (.als 14 none 3)) <|
    .st (.act none (.pget (some 15) (some 14) 3 1 none)) <|
    .st (.act none (.px (some 16) (.mv (.v 4)))) <|
    .st (.act none (.als 17 none 5)) <|
    .st (.act none (.pget (some 18) (some 17) 5 1 none)) <|
    .st (.act none (.ex (some 19) (.call fn_impl_clone_impl_Edge [.v 18]))) K60_13) K60_12
@[simp] def W60_14 := @C.wpe _ _ K60_14.eq_1
def K60_15 : C := .seq (.block 1 (.seq (.pl <| .st (.ext 14 3) <|
    .st (.act none (.px (some 14) (.mv (.v 10)))) <|
    .st (.act none (.px (some 15) (.ia 2 (.v 8) (.v 10)))) <|
    .st (.act none (.ld (some 16) (.v 15) (some 2))) <|
    .st (.act none (.pnew 5 (.c (.agg #[.int .i64 0, .slice none 0 0])) [])) <|
    .st (.act none (.px (some 4) (.mv (.v 14)))) <|
    .st (.act none (.pset none 5 0 2 (.v 16))) .done) K60_14)) K60_2
@[simp] def W60_15 := @C.wpe _ _ K60_15.eq_1
def K60_16 : C := .seq (.cond 14 (.v 14) (.skip) (.exit 0)) K60_15
@[simp] def W60_16 := @C.wpe _ _ K60_16.eq_1
def K60_17 : C := .seq (.pl <| .st (.ext 14 1) <|
    .st (.act none (.px (some 14) (.bin .lss (.v 10) (.v 9)))) .done) K60_16
@[simp] def W60_17 := @C.wpe _ _ K60_17.eq_1
def K60_18 : C := .block 0 (.loop 14 [0, 1, 4, 5, 6, 7, 11, 12, 13] K60_17)
@[simp] def W60_18 := @C.wpe _ _ K60_18.eq_1
def K60_19 : C := .seq (.seq (.pl <| .st (.ext 14 1) <|
    .st (.act none (.als 14 none 1)) <|
    .st (.act none (.pget (some 8) (some 14) 1 1 none)) <|
    .st (.act none (.px (some 9) (.lenV (.v 8)))) <|
    .st (.act none (.px (some 10) (.mv (.c (.int .i64 0))))) .done) K60_18) K60_1
@[simp] def W60_19 := @C.wpe _ _ K60_19.eq_1
def K60_20 : Pl := .st (.act none (.px (some 20) (.build [.slice none 0 0, .slice none 0 0] [(0, 1, .v 16), (1, 1, .v 19)]))) <|
    .st (.act none (.pset none 3 0 2 (.v 20))) .done
@[simp] def W60_20 := @Pl.wpe _ _ K60_20.eq_1
def K60_21 : Pl := .st (.act none (.ex (some 19) (.call fn_impl_clone_impl_Process [.v 18]))) K60_20
@[simp] def W60_21 := @Pl.wpe _ _ K60_21.eq_1
def K60_22 : C := .seq (.pl <| .st (.ext 14 7) <|
    .st (.act none (.als 14 none 1)) <|
    .st (.act none (.pget (some 15) (some 14) 1 0 none)) <|
    .st (.act none (.als 17 none 1)) <|
    .st (.act none (.pget (some 18) (some 17) 1 1 none)) <|
    .st (.act none (.pnew 3 (.c (.agg #[.slice none 0 0, .slice none 0 0])) [])) <|
    .st (.act none (.ex (some 16) (.call fn_impl_clone_int [.v 15]))) K60_21) K60_19
@[simp] def W60_22 := @C.wpe _ _ K60_22.eq_1
def B_impl_System_copyOf : C := .seq (.pl <| .st (.ext 14 0) <|
    .st (.act none (.pnew 1 (.v 0) [])) <|
    .st (.act none (.pnew 2 (.c (.agg #[.slice none 0 0, .slice none 0 0])) [])) .done) K60_22
@[simp] def WB_impl_System_copyOf := @C.wpe _ _ B_impl_System_copyOf.eq_1
def R_impl_System_copyOf : FIR := ⟨B_impl_System_copyOf, 14, [(2, some (some 2))]⟩
theorem IR_impl_System_copyOf : cfun Try.prog H_impl_System_copyOf Try.f60 = some R_impl_System_copyOf := by kernel_rfl
theorem EN_impl_System_copyOf {args : List Value} {h : Heap} {k : Value → Heap → Prop} (hargs : args.length = 1) (hw : B_impl_System_copyOf.wp Try.prog (retQ [(2, some (some 2))] k) (env0 args 14) h) : CallE Try.prog fn_impl_System_copyOf args h k := enter Try.func60 rfl IR_impl_System_copyOf hargs hw

def H_impl_clone_impl_Edge : Hint := ⟨[(0, false), (2, false)], []⟩
def K106_1 : Pl := .st (.act none (.px (some 1) (.mv (.v 4)))) .done
@[simp] def W106_1 := @Pl.wpe _ _ K106_1.eq_1
def K106_2 : Pl := .st (.act none (.ex (some 4) (.call fn_slices_Clip_S_impl_Edge_impl_Edge [.v 3]))) K106_1
@[simp] def W106_2 := @Pl.wpe _ _ K106_2.eq_1
def K106_3 : C := .seq (.pl <| .st (.ext 2 3) <|
    .st (.act none (.px (some 2) (.mv (.v 0)))) <|
    .st (.act none (.ex (some 3) (.call fn_slices_Clone_S_impl_Edge_impl_Edge [.v 2]))) K106_2) (.ret)
@[simp] def W106_3 := @C.wpe _ _ K106_3.eq_1
def B_impl_clone_impl_Edge : C := .seq (.pl <| .st (.ext 2 0) <|
    .st (.act none (.px (some 1) (.mv (.c (.slice none 0 0))))) .done) K106_3
@[simp] def WB_impl_clone_impl_Edge := @C.wpe _ _ B_impl_clone_impl_Edge.eq_1
def R_impl_clone_impl_Edge : FIR := ⟨B_impl_clone_impl_Edge, 2, [(1, none)]⟩
theorem IR_impl_clone_impl_Edge : cfun Try.prog H_impl_clone_impl_Edge Try.f106 = some R_impl_clone_impl_Edge := by kernel_rfl
theorem EN_impl_clone_impl_Edge {args : List Value} {h : Heap} {k : Value → Heap → Prop} (hargs : args.length = 1) (hw : B_impl_clone_impl_Edge.wp Try.prog (retQ [(1, none)] k) (env0 args 2) h) : CallE Try.prog fn_impl_clone_impl_Edge args h k := enter Try.func106 rfl IR_impl_clone_impl_Edge hargs hw

def H_impl_clone_impl_Expr : Hint := ⟨[(0, false), (2, false)], []⟩
def K129_1 : Pl := .st (.act none (.px (some 1) (.mv (.v 4)))) .done
@[simp] def W129_1 := @Pl.wpe _ _ K129_1.eq_1
def K129_2 : Pl := .st (.act none (.ex (some 4) (.call fn_slices_Clip_S_impl_Expr_impl_Expr [.v 3]))) K129_1
@[simp] def W129_2 := @Pl.wpe _ _ K129_2.eq_1
def K129_3 : C := .seq (.pl <| .st (.ext 2 3) <|
    .st (.act none (.px (some 2) (.mv (.v 0)))) <|
    .st (.act none (.ex (some 3) (.call fn_slices_Clone_S_impl_Expr_impl_Expr [.v 2]))) K129_2) (.ret)
@[simp] def W129_3 := @C.wpe _ _ K129_3.eq_1
def B_impl_clone_impl_Expr : C := .seq (.pl <| .st (.ext 2 0) <|
    .st (.act none (.px (some 1) (.mv (.c (.slice none 0 0))))) .done) K129_3
@[simp] def WB_impl_clone_impl_Expr := @C.wpe _ _ B_impl_clone_impl_Expr.eq_1
def R_impl_clone_impl_Expr : FIR := ⟨B_impl_clone_impl_Expr, 2, [(1, none)]⟩
theorem IR_impl_clone_impl_Expr : cfun Try.prog H_impl_clone_impl_Expr Try.f129 = some R_impl_clone_impl_Expr := by kernel_rfl
theorem EN_impl_clone_impl_Expr {args : List Value} {h : Heap} {k : Value → Heap → Prop} (hargs : args.length = 1) (hw : B_impl_clone_impl_Expr.wp Try.prog (retQ [(1, none)] k) (env0 args 2) h) : CallE Try.prog fn_impl_clone_impl_Expr args h k := enter Try.func129 rfl IR_impl_clone_impl_Expr hargs hw

def H_impl_clone_impl_Process : Hint := ⟨[(0, false), (2, false)], []⟩
def K105_1 : Pl := .st (.act none (.px (some 1) (.mv (.v 4)))) .done
@[simp] def W105_1 := @Pl.wpe _ _ K105_1.eq_1
def K105_2 : Pl := .st (.act none (.ex (some 4) (.call fn_slices_Clip_S_impl_Process_impl_Process [.v 3]))) K105_1
@[simp] def W105_2 := @Pl.wpe _ _ K105_2.eq_1
def K105_3 : C := .seq (.pl <| .st (.ext 2 3) <|
    .st (.act none (.px (some 2) (.mv (.v 0)))) <|
    .st (.act none (.ex (some 3) (.call fn_slices_Clone_S_impl_Process_impl_Process [.v 2]))) K105_2) (.ret)
@[simp] def W105_3 := @C.wpe _ _ K105_3.eq_1
def B_impl_clone_impl_Process : C := .seq (.pl <| .st (.ext 2 0) <|
    .st (.act none (.px (some 1) (.mv (.c (.slice none 0 0))))) .done) K105_3
@[simp] def WB_impl_clone_impl_Process := @C.wpe _ _ B_impl_clone_impl_Process.eq_1
def R_impl_clone_impl_Process : FIR := ⟨B_impl_clone_impl_Process, 2, [(1, none)]⟩
theorem IR_impl_clone_impl_Process : cfun Try.prog H_impl_clone_impl_Process Try.f105 = some R_impl_clone_impl_Process := by kernel_rfl
theorem EN_impl_clone_impl_Process {args : List Value} {h : Heap} {k : Value → Heap → Prop} (hargs : args.length = 1) (hw : B_impl_clone_impl_Process.wp Try.prog (retQ [(1, none)] k) (env0 args 2) h) : CallE Try.prog fn_impl_clone_impl_Process args h k := enter Try.func105 rfl IR_impl_clone_impl_Process hargs hw

def H_slices_Clip_S_impl_Edge_impl_Edge : Hint := ⟨[(0, false), (2, false)], []⟩
def K127_1 : C := .seq (.pl <| .st (.ext 2 6) <|
    .st (.act none (.px (some 2) (.mv (.v 0)))) <|
    .st (.act none (.px (some 3) (.mv (.v 0)))) <|
    .st (.act none (.px (some 4) (.lenV (.v 3)))) <|
    .st (.act none (.px (some 5) (.mv (.v 0)))) <|
    .st (.act none (.px (some 6) (.lenV (.v 5)))) <|
    .st (.act none (.px (some 7) (.sliceV 10 (.v 2) none (some (.v 4)) (some (.v 6))))) <|
    .st (.act none (.px (some 1) (.mv (.v 7)))) .done) (.ret)
@[simp] def W127_1 := @C.wpe _ _ K127_1.eq_1
def B_slices_Clip_S_impl_Edge_impl_Edge : C := .seq (.pl <| .st (.ext 2 0) <|
    .st (.act none (.px (some 1) (.mv (.c (.slice none 0 0))))) .done) K127_1
@[simp] def WB_slices_Clip_S_impl_Edge_impl_Edge := @C.wpe _ _ B_slices_Clip_S_impl_Edge_impl_Edge.eq_1
def R_slices_Clip_S_impl_Edge_impl_Edge : FIR := ⟨B_slices_Clip_S_impl_Edge_impl_Edge, 2, [(1, none)]⟩
theorem IR_slices_Clip_S_impl_Edge_impl_Edge : cfun Try.prog H_slices_Clip_S_impl_Edge_impl_Edge Try.f127 = some R_slices_Clip_S_impl_Edge_impl_Edge := by kernel_rfl
theorem EN_slices_Clip_S_impl_Edge_impl_Edge {args : List Value} {h : Heap} {k : Value → Heap → Prop} (hargs : args.length = 1) (hw : B_slices_Clip_S_impl_Edge_impl_Edge.wp Try.prog (retQ [(1, none)] k) (env0 args 2) h) : CallE Try.prog fn_slices_Clip_S_impl_Edge_impl_Edge args h k := enter Try.func127 rfl IR_slices_Clip_S_impl_Edge_impl_Edge hargs hw

def H_slices_Clip_S_impl_Expr_impl_Expr : Hint := ⟨[(0, false), (2, false)], []⟩
def K138_1 : C := .seq (.pl <| .st (.ext 2 6) <|
    .st (.act none (.px (some 2) (.mv (.v 0)))) <|
    .st (.act none (.px (some 3) (.mv (.v 0)))) <|
    .st (.act none (.px (some 4) (.lenV (.v 3)))) <|
    .st (.act none (.px (some 5) (.mv (.v 0)))) <|
    .st (.act none (.px (some 6) (.lenV (.v 5)))) <|
    .st (.act none (.px (some 7) (.sliceV 3 (.v 2) none (some (.v 4)) (some (.v 6))))) <|
    .st (.act none (.px (some 1) (.mv (.v 7)))) .done) (.ret)
@[simp] def W138_1 := @C.wpe _ _ K138_1.eq_1
def B_slices_Clip_S_impl_Expr_impl_Expr : C := .seq (.pl <| .st (.ext 2 0) <|
    .st (.act none (.px (some 1) (.mv (.c (.slice none 0 0))))) .done) K138_1
@[simp] def WB_slices_Clip_S_impl_Expr_impl_Expr := @C.wpe _ _ B_slices_Clip_S_impl_Expr_impl_Expr.eq_1
def R_slices_Clip_S_impl_Expr_impl_Expr : FIR := ⟨B_slices_Clip_S_impl_Expr_impl_Expr, 2, [(1, none)]⟩
theorem IR_slices_Clip_S_impl_Expr_impl_Expr : cfun Try.prog H_slices_Clip_S_impl_Expr_impl_Expr Try.f138 = some R_slices_Clip_S_impl_Expr_impl_Expr := by kernel_rfl
theorem EN_slices_Clip_S_impl_Expr_impl_Expr {args : List Value} {h : Heap} {k : Value → Heap → Prop} (hargs : args.length = 1) (hw : B_slices_Clip_S_impl_Expr_impl_Expr.wp Try.prog (retQ [(1, none)] k) (env0 args 2) h) : CallE Try.prog fn_slices_Clip_S_impl_Expr_impl_Expr args h k := enter Try.func138 rfl IR_slices_Clip_S_impl_Expr_impl_Expr hargs hw

def H_slices_Clip_S_impl_Process_impl_Process : Hint := ⟨[(0, false), (2, false)], []⟩
def K125_1 : C := .seq (.pl <| .st (.ext 2 6) <|
    .st (.act none (.px (some 2) (.mv (.v 0)))) <|
    .st (.act none (.px (some 3) (.mv (.v 0)))) <|
    .st (.act none (.px (some 4) (.lenV (.v 3)))) <|
    .st (.act none (.px (some 5) (.mv (.v 0)))) <|
    .st (.act none (.px (some 6) (.lenV (.v 5)))) <|
    .st (.act none (.px (some 7) (.sliceV 2 (.v 2) none (some (.v 4)) (some (.v 6))))) <|
    .st (.act none (.px (some 1) (.mv (.v 7)))) .done) (.ret)
@[simp] def W125_1 := @C.wpe _ _ K125_1.eq_1
def B_slices_Clip_S_impl_Process_impl_Process : C := .seq (.pl <| .st (.ext 2 0) <|
    .st (.act none (.px (some 1) (.mv (.c (.slice none 0 0))))) .done) K125_1
@[simp] def WB_slices_Clip_S_impl_Process_impl_Process := @C.wpe _ _ B_slices_Clip_S_impl_Process_impl_Process.eq_1
def R_slices_Clip_S_impl_Process_impl_Process : FIR := ⟨B_slices_Clip_S_impl_Process_impl_Process, 2, [(1, none)]⟩
theorem IR_slices_Clip_S_impl_Process_impl_Process : cfun Try.prog H_slices_Clip_S_impl_Process_impl_Process Try.f125 = some R_slices_Clip_S_impl_Process_impl_Process := by kernel_rfl
theorem EN_slices_Clip_S_impl_Process_impl_Process {args : List Value} {h : Heap} {k : Value → Heap → Prop} (hargs : args.length = 1) (hw : B_slices_Clip_S_impl_Process_impl_Process.wp Try.prog (retQ [(1, none)] k) (env0 args 2) h) : CallE Try.prog fn_slices_Clip_S_impl_Process_impl_Process args h k := enter Try.func125 rfl IR_slices_Clip_S_impl_Process_impl_Process hargs hw

def H_slices_Clone_S_impl_Edge_impl_Edge : Hint := ⟨[(0, false), (2, false)], []⟩
def K128_1 : Pl := .st (.act none (.px (some 1) (.mv (.v 4)))) .done
@[simp] def W128_1 := @Pl.wpe _ _ K128_1.eq_1
def K128_2 : C := .seq (.pl <| .st (.ext 2 3) <|
    .st (.act none (.psl 2 [] [])) <|
    .st (.act none (.px (some 3) (.mv (.v 0)))) <|
    .st (.act none (.ex (some 4) (.app 112 10 [.int .i64 0, .int .i64 0, .int .i64 0, .int .i64 0, .slice none 0 0, .int .i64 0, .int .i64 0, .int .i64 0, .slice none 0 0, .int .i64 0] (.p 0 2) (.o (.v 3))))) K128_1) (.ret)
@[simp] def W128_2 := @C.wpe _ _ K128_2.eq_1
def K128_3 : C := .seq (.pl <| .st (.ext 2 0) <|
    .st (.act none (.px (some 1) (.mv (.c (.slice none 0 0))))) .done) (.ret)
@[simp] def W128_3 := @C.wpe _ _ K128_3.eq_1
def K128_4 : C := .cond 2 (.v 3) K128_3 (.skip)
@[simp] def W128_4 := @C.wpe _ _ K128_4.eq_1
def K128_5 : C := .seq (.seq (.pl <| .st (.ext 2 2) <|
    .st (.act none (.px (some 2) (.mv (.v 0)))) <|
    .st (.act none (.px (some 3) (.isNil false (.v 2)))) .done) K128_4) K128_2
@[simp] def W128_5 := @C.wpe _ _ K128_5.eq_1
def B_slices_Clone_S_impl_Edge_impl_Edge : C := .seq (.pl <| .st (.ext 2 0) <|
    .st (.act none (.px (some 1) (.mv (.c (.slice none 0 0))))) .done) K128_5
@[simp] def WB_slices_Clone_S_impl_Edge_impl_Edge := @C.wpe _ _ B_slices_Clone_S_impl_Edge_impl_Edge.eq_1
def R_slices_Clone_S_impl_Edge_impl_Edge : FIR := ⟨B_slices_Clone_S_impl_Edge_impl_Edge, 2, [(1, none)]⟩
theorem IR_slices_Clone_S_impl_Edge_impl_Edge : cfun Try.prog H_slices_Clone_S_impl_Edge_impl_Edge Try.f128 = some R_slices_Clone_S_impl_Edge_impl_Edge := by kernel_rfl
theorem EN_slices_Clone_S_impl_Edge_impl_Edge {args : List Value} {h : Heap} {k : Value → Heap → Prop} (hargs : args.length = 1) (hw : B_slices_Clone_S_impl_Edge_impl_Edge.wp Try.prog (retQ [(1, none)] k) (env0 args 2) h) : CallE Try.prog fn_slices_Clone_S_impl_Edge_impl_Edge args h k := enter Try.func128 rfl IR_slices_Clone_S_impl_Edge_impl_Edge hargs hw

def H_slices_Clone_S_impl_Expr_impl_Expr : Hint := ⟨[(0, false), (2, false)], []⟩
def K139_1 : Pl := .st (.act none (.px (some 1) (.mv (.v 4)))) .done
@[simp] def W139_1 := @Pl.wpe _ _ K139_1.eq_1
def K139_2 : C := .seq (.pl <| .st (.ext 2 3) <|
    .st (.act none (.psl 2 [] [])) <|
    .st (.act none (.px (some 3) (.mv (.v 0)))) <|
    .st (.act none (.ex (some 4) (.app 40 3 [.int .i64 0, .int .i64 0, .slice none 0 0] (.p 0 2) (.o (.v 3))))) K139_1) (.ret)
@[simp] def W139_2 := @C.wpe _ _ K139_2.eq_1
def K139_3 : C := .seq (.pl <| .st (.ext 2 0) <|
    .st (.act none (.px (some 1) (.mv (.c (.slice none 0 0))))) .done) (.ret)
@[simp] def W139_3 := @C.wpe _ _ K139_3.eq_1
def K139_4 : C := .cond 2 (.v 3) K139_3 (.skip)
@[simp] def W139_4 := @C.wpe _ _ K139_4.eq_1
def K139_5 : C := .seq (.seq (.pl <| .st (.ext 2 2) <|
    .st (.act none (.px (some 2) (.mv (.v 0)))) <|
    .st (.act none (.px (some 3) (.isNil false (.v 2)))) .done) K139_4) K139_2
@[simp] def W139_5 := @C.wpe _ _ K139_5.eq_1
def B_slices_Clone_S_impl_Expr_impl_Expr : C := .seq (.pl <| .st (.ext 2 0) <|
    .st (.act none (.px (some 1) (.mv (.c (.slice none 0 0))))) .done) K139_5
@[simp] def WB_slices_Clone_S_impl_Expr_impl_Expr := @C.wpe _ _ B_slices_Clone_S_impl_Expr_impl_Expr.eq_1
def R_slices_Clone_S_impl_Expr_impl_Expr : FIR := ⟨B_slices_Clone_S_impl_Expr_impl_Expr, 2, [(1, none)]⟩
theorem IR_slices_Clone_S_impl_Expr_impl_Expr : cfun Try.prog H_slices_Clone_S_impl_Expr_impl_Expr Try.f139 = some R_slices_Clone_S_impl_Expr_impl_Expr := by kernel_rfl
theorem EN_slices_Clone_S_impl_Expr_impl_Expr {args : List Value} {h : Heap} {k : Value → Heap → Prop} (hargs : args.length = 1) (hw : B_slices_Clone_S_impl_Expr_impl_Expr.wp Try.prog (retQ [(1, none)] k) (env0 args 2) h) : CallE Try.prog fn_slices_Clone_S_impl_Expr_impl_Expr args h k := enter Try.func139 rfl IR_slices_Clone_S_impl_Expr_impl_Expr hargs hw

def H_slices_Clone_S_impl_Process_impl_Process : Hint := ⟨[(0, false), (2, false)], []⟩
def K126_1 : Pl := .st (.act none (.px (some 1) (.mv (.v 4)))) .done
@[simp] def W126_1 := @Pl.wpe _ _ K126_1.eq_1
def K126_2 : C := .seq (.pl <| .st (.ext 2 3) <|
    .st (.act none (.psl 2 [] [])) <|
    .st (.act none (.px (some 3) (.mv (.v 0)))) <|
    .st (.act none (.ex (some 4) (.app 32 2 [.int .i64 0, .slice none 0 0] (.p 0 2) (.o (.v 3))))) K126_1) (.ret)
@[simp] def W126_2 := @C.wpe _ _ K126_2.eq_1
def K126_3 : C := .seq (.pl <| .st (.ext 2 0) <|
    .st (.act none (.px (some 1) (.mv (.c (.slice none 0 0))))) .done) (.ret)
@[simp] def W126_3 := @C.wpe _ _ K126_3.eq_1
def K126_4 : C := .cond 2 (.v 3) K126_3 (.skip)
@[simp] def W126_4 := @C.wpe _ _ K126_4.eq_1
def K126_5 : C := .seq (.seq (.pl <| .st (.ext 2 2) <|
    .st (.act none (.px (some 2) (.mv (.v 0)))) <|
    .st (.act none (.px (some 3) (.isNil false (.v 2)))) .done) K126_4) K126_2
@[simp] def W126_5 := @C.wpe _ _ K126_5.eq_1
def B_slices_Clone_S_impl_Process_impl_Process : C := .seq (.pl <| .st (.ext 2 0) <|
    .st (.act none (.px (some 1) (.mv (.c (.slice none 0 0))))) .done) K126_5
@[simp] def WB_slices_Clone_S_impl_Process_impl_Process := @C.wpe _ _ B_slices_Clone_S_impl_Process_impl_Process.eq_1
def R_slices_Clone_S_impl_Process_impl_Process : FIR := ⟨B_slices_Clone_S_impl_Process_impl_Process, 2, [(1, none)]⟩
theorem IR_slices_Clone_S_impl_Process_impl_Process : cfun Try.prog H_slices_Clone_S_impl_Process_impl_Process Try.f126 = some R_slices_Clone_S_impl_Process_impl_Process := by kernel_rfl
theorem EN_slices_Clone_S_impl_Process_impl_Process {args : List Value} {h : Heap} {k : Value → Heap → Prop} (hargs : args.length = 1) (hw : B_slices_Clone_S_impl_Process_impl_Process.wp Try.prog (retQ [(1, none)] k) (env0 args 2) h) : CallE Try.prog fn_slices_Clone_S_impl_Process_impl_Process args h k := enter Try.func126 rfl IR_slices_Clone_S_impl_Process_impl_Process hargs hw


end Go.Proofs.Ytonjglbachhdcaa

/-
  Instances of functions over slices: copies, and whether some element meets a condition. Printed by a program.
-/
namespace Go.Proofs.Ytonjglbachhdcaa
open Go
set_option linter.all false
set_option linter.unusedVariables false
set_option linter.unusedSimpArgs false
set_option linter.defProp false
set_option maxRecDepth 1000000

theorem c_Clone_impl_Expr {h : Heap} {a : Value} {x : List Exq} (Ra : Rep h a x) (hs : x.length ≤ 1048576) : CallE Try.prog fn_slices_Clone_S_impl_Expr_impl_Expr [a] h (fun v h' => ∃ M, Raws h x M ∧ HS h [ow v M] h') := by
  refine CallE.gen fun k hk => EN_slices_Clone_S_impl_Expr_impl_Expr rfl ?_
  obtain ⟨b, hb, hb2⟩ := Ra.isNil
  simp -implicitDefEqProofs (disch := first | omega | (simp only [List.length_set, List.length_replicate, List.length_append, List.length_map, List.length_take, List.length_cons, List.length_nil]; omega)) [wrap64, hb]
  refine IteW.mk (fun h1 => ?_) (fun h1 => ?_)
  · simp -implicitDefEqProofs (disch := first | omega | (simp only [List.length_set, List.length_replicate, List.length_append, List.length_map, List.length_take, List.length_cons, List.length_nil]; omega)) [wrap64]
    have h2 : x = [] := hb2 h1
    subst h2
    exact RetK.keep (hk _ _ ⟨[], ⟨rfl, fun i hi => absurd hi (Nat.not_lt_zero i)⟩, HS.init.nil_ow⟩)
  · simp -implicitDefEqProofs (disch := first | omega | (simp only [List.length_set, List.length_replicate, List.length_append, List.length_map, List.length_take, List.length_cons, List.length_nil]; omega)) [wrap64]
    refine HS.init.appPLr (α := Exq) (l2 := x) (u := a) rfl rfl Ra rfl rfl (by omega) fun v h1 M hM H => ?_
    simp -implicitDefEqProofs (disch := first | omega | (simp only [List.length_set, List.length_replicate, List.length_append, List.length_map, List.length_take, List.length_cons, List.length_nil]; omega)) [wrap64]
    exact RetK.keep (hk _ _ ⟨M, hM, H⟩)

theorem c_Clip_impl_Expr {g h : Heap} {Γ : List HP} {a : Value} {x : List (Mix Exq)} (H : HS g (ow a x :: Γ) h) : CallE Try.prog fn_slices_Clip_S_impl_Expr_impl_Expr [a] h (fun v h' => HS g (ow v x :: Γ) h') := by
  refine CallE.gen fun k hk => EN_slices_Clip_S_impl_Expr_impl_Expr rfl ?_
  obtain ⟨v', h1, h2⟩ := H.clip (esz := 3) (k := .i64)
  simp -implicitDefEqProofs (disch := first | omega | (simp only [List.length_set, List.length_replicate, List.length_append, List.length_map, List.length_take, List.length_cons, List.length_nil]; omega)) [wrap64, H.rep.len, h1]
  exact RetK.keep (hk _ _ h2)

theorem c_clone_impl_Expr {h : Heap} {a : Value} {x : List Exq} (Ra : Rep h a x) (hs : x.length ≤ 1048576) : CallE Try.prog fn_impl_clone_impl_Expr [a] h (fun v h' => ∃ M, Raws h x M ∧ HS h [ow v M] h') := by
  refine CallE.gen fun k hk => EN_impl_clone_impl_Expr rfl ?_
  simp -implicitDefEqProofs (disch := first | omega | (simp only [List.length_set, List.length_replicate, List.length_append, List.length_map, List.length_take, List.length_cons, List.length_nil]; omega)) [wrap64]
  refine (c_Clone_impl_Expr Ra hs).go ?_
  rintro v h1 ⟨M, hM, H⟩
  simp -implicitDefEqProofs (disch := first | omega | (simp only [List.length_set, List.length_replicate, List.length_append, List.length_map, List.length_take, List.length_cons, List.length_nil]; omega)) [wrap64]
  refine (c_Clip_impl_Expr H).go ?_
  intro v' h2 H
  simp -implicitDefEqProofs (disch := first | omega | (simp only [List.length_set, List.length_replicate, List.length_append, List.length_map, List.length_take, List.length_cons, List.length_nil]; omega)) [wrap64]
  exact RetK.keep (hk _ _ ⟨M, hM, H⟩)

theorem c_Clone_impl_Edge {h : Heap} {a : Value} {x : List Ed} (Ra : Rep h a x) (hs : x.length ≤ 1048576) : CallE Try.prog fn_slices_Clone_S_impl_Edge_impl_Edge [a] h (fun v h' => ∃ M, Raws h x M ∧ HS h [ow v M] h') := by
  refine CallE.gen fun k hk => EN_slices_Clone_S_impl_Edge_impl_Edge rfl ?_
  obtain ⟨b, hb, hb2⟩ := Ra.isNil
  simp -implicitDefEqProofs (disch := first | omega | (simp only [List.length_set, List.length_replicate, List.length_append, List.length_map, List.length_take, List.length_cons, List.length_nil]; omega)) [wrap64, hb]
  refine IteW.mk (fun h1 => ?_) (fun h1 => ?_)
  · simp -implicitDefEqProofs (disch := first | omega | (simp only [List.length_set, List.length_replicate, List.length_append, List.length_map, List.length_take, List.length_cons, List.length_nil]; omega)) [wrap64]
    have h2 : x = [] := hb2 h1
    subst h2
    exact RetK.keep (hk _ _ ⟨[], ⟨rfl, fun i hi => absurd hi (Nat.not_lt_zero i)⟩, HS.init.nil_ow⟩)
  · simp -implicitDefEqProofs (disch := first | omega | (simp only [List.length_set, List.length_replicate, List.length_append, List.length_map, List.length_take, List.length_cons, List.length_nil]; omega)) [wrap64]
    refine HS.init.appPLr (α := Ed) (l2 := x) (u := a) rfl rfl Ra rfl rfl (by omega) fun v h1 M hM H => ?_
    simp -implicitDefEqProofs (disch := first | omega | (simp only [List.length_set, List.length_replicate, List.length_append, List.length_map, List.length_take, List.length_cons, List.length_nil]; omega)) [wrap64]
    exact RetK.keep (hk _ _ ⟨M, hM, H⟩)

theorem c_Clip_impl_Edge {g h : Heap} {Γ : List HP} {a : Value} {x : List (Mix Ed)} (H : HS g (ow a x :: Γ) h) : CallE Try.prog fn_slices_Clip_S_impl_Edge_impl_Edge [a] h (fun v h' => HS g (ow v x :: Γ) h') := by
  refine CallE.gen fun k hk => EN_slices_Clip_S_impl_Edge_impl_Edge rfl ?_
  obtain ⟨v', h1, h2⟩ := H.clip (esz := 10) (k := .i64)
  simp -implicitDefEqProofs (disch := first | omega | (simp only [List.length_set, List.length_replicate, List.length_append, List.length_map, List.length_take, List.length_cons, List.length_nil]; omega)) [wrap64, H.rep.len, h1]
  exact RetK.keep (hk _ _ h2)

theorem c_clone_impl_Edge {h : Heap} {a : Value} {x : List Ed} (Ra : Rep h a x) (hs : x.length ≤ 1048576) : CallE Try.prog fn_impl_clone_impl_Edge [a] h (fun v h' => ∃ M, Raws h x M ∧ HS h [ow v M] h') := by
  refine CallE.gen fun k hk => EN_impl_clone_impl_Edge rfl ?_
  simp -implicitDefEqProofs (disch := first | omega | (simp only [List.length_set, List.length_replicate, List.length_append, List.length_map, List.length_take, List.length_cons, List.length_nil]; omega)) [wrap64]
  refine (c_Clone_impl_Edge Ra hs).go ?_
  rintro v h1 ⟨M, hM, H⟩
  simp -implicitDefEqProofs (disch := first | omega | (simp only [List.length_set, List.length_replicate, List.length_append, List.length_map, List.length_take, List.length_cons, List.length_nil]; omega)) [wrap64]
  refine (c_Clip_impl_Edge H).go ?_
  intro v' h2 H
  simp -implicitDefEqProofs (disch := first | omega | (simp only [List.length_set, List.length_replicate, List.length_append, List.length_map, List.length_take, List.length_cons, List.length_nil]; omega)) [wrap64]
  exact RetK.keep (hk _ _ ⟨M, hM, H⟩)

theorem c_Clone_impl_Process {h : Heap} {a : Value} {x : List Pr} (Ra : Rep h a x) (hs : x.length ≤ 1048576) : CallE Try.prog fn_slices_Clone_S_impl_Process_impl_Process [a] h (fun v h' => ∃ M, Raws h x M ∧ HS h [ow v M] h') := by
  refine CallE.gen fun k hk => EN_slices_Clone_S_impl_Process_impl_Process rfl ?_
  obtain ⟨b, hb, hb2⟩ := Ra.isNil
  simp -implicitDefEqProofs (disch := first | omega | (simp only [List.length_set, List.length_replicate, List.length_append, List.length_map, List.length_take, List.length_cons, List.length_nil]; omega)) [wrap64, hb]
  refine IteW.mk (fun h1 => ?_) (fun h1 => ?_)
  · simp -implicitDefEqProofs (disch := first | omega | (simp only [List.length_set, List.length_replicate, List.length_append, List.length_map, List.length_take, List.length_cons, List.length_nil]; omega)) [wrap64]
    have h2 : x = [] := hb2 h1
    subst h2
    exact RetK.keep (hk _ _ ⟨[], ⟨rfl, fun i hi => absurd hi (Nat.not_lt_zero i)⟩, HS.init.nil_ow⟩)
  · simp -implicitDefEqProofs (disch := first | omega | (simp only [List.length_set, List.length_replicate, List.length_append, List.length_map, List.length_take, List.length_cons, List.length_nil]; omega)) [wrap64]
    refine HS.init.appPLr (α := Pr) (l2 := x) (u := a) rfl rfl Ra rfl rfl (by omega) fun v h1 M hM H => ?_
    simp -implicitDefEqProofs (disch := first | omega | (simp only [List.length_set, List.length_replicate, List.length_append, List.length_map, List.length_take, List.length_cons, List.length_nil]; omega)) [wrap64]
    exact RetK.keep (hk _ _ ⟨M, hM, H⟩)

theorem c_Clip_impl_Process {g h : Heap} {Γ : List HP} {a : Value} {x : List (Mix Pr)} (H : HS g (ow a x :: Γ) h) : CallE Try.prog fn_slices_Clip_S_impl_Process_impl_Process [a] h (fun v h' => HS g (ow v x :: Γ) h') := by
  refine CallE.gen fun k hk => EN_slices_Clip_S_impl_Process_impl_Process rfl ?_
  obtain ⟨v', h1, h2⟩ := H.clip (esz := 2) (k := .i64)
  simp -implicitDefEqProofs (disch := first | omega | (simp only [List.length_set, List.length_replicate, List.length_append, List.length_map, List.length_take, List.length_cons, List.length_nil]; omega)) [wrap64, H.rep.len, h1]
  exact RetK.keep (hk _ _ h2)

theorem c_clone_impl_Process {h : Heap} {a : Value} {x : List Pr} (Ra : Rep h a x) (hs : x.length ≤ 1048576) : CallE Try.prog fn_impl_clone_impl_Process [a] h (fun v h' => ∃ M, Raws h x M ∧ HS h [ow v M] h') := by
  refine CallE.gen fun k hk => EN_impl_clone_impl_Process rfl ?_
  simp -implicitDefEqProofs (disch := first | omega | (simp only [List.length_set, List.length_replicate, List.length_append, List.length_map, List.length_take, List.length_cons, List.length_nil]; omega)) [wrap64]
  refine (c_Clone_impl_Process Ra hs).go ?_
  rintro v h1 ⟨M, hM, H⟩
  simp -implicitDefEqProofs (disch := first | omega | (simp only [List.length_set, List.length_replicate, List.length_append, List.length_map, List.length_take, List.length_cons, List.length_nil]; omega)) [wrap64]
  refine (c_Clip_impl_Process H).go ?_
  intro v' h2 H
  simp -implicitDefEqProofs (disch := first | omega | (simp only [List.length_set, List.length_replicate, List.length_append, List.length_map, List.length_take, List.length_cons, List.length_nil]; omega)) [wrap64]
  exact RetK.keep (hk _ _ ⟨M, hM, H⟩)

end Go.Proofs.Ytonjglbachhdcaa

/-
  Copies of expressions and systems, by the program and by the reference.
-/
namespace Go.Proofs.Ytonjglbachhdcaa
open Go
set_option linter.all false
set_option linter.unusedVariables false
set_option linter.unusedSimpArgs false
set_option linter.defProp false
set_option maxRecDepth 1000000

theorem Exq.nods_sz : ∀ x : Exq, x.nod = 1 + Sz.sz x := by
  have key : ∀ l : List Exq, (∀ y ∈ l, y.nod = 1 + Sz.sz y) → Exq.nods l = Sz.sz l := by
    intro l
    induction l with
    | nil => intro _; rfl
    | cons y l ih =>
      intro h
      rw [Exq.nods, ih fun z hz => h z (by simp [hz]), h y (by simp), sz_cons]
  refine Exq.ind fun x ih => ?_
  rw [Exq.nod_eq, key _ ih, ← sz_Exq]
theorem sz_kid {x : Exq} {i : Nat} (hi : i < x.kids.length) : Sz.sz x.kids[i] ≤ Sz.sz x := by
  have := szL_get hi
  rw [sz_Exq x, sz_list]; omega
theorem Exq.Ok.sz {x : Exq} (h : x.Ok) : Sz.sz x ≤ 14 := by have := h.2; have := x.nods_sz; omega
theorem Ed.Ok.vsz {e : Ed} {n : Int} (h : e.Ok n) : Sz.sz e.value ≤ 14 := by
  rcases h.vl with ⟨_, h1⟩ | ⟨_, h1⟩
  · exact h1.sz
  · rw [h1]; decide

theorem c_Expr_copyOf : ∀ (x : Exq) {h : Heap} {v : Value}, Rep h v x → Sz.sz x ≤ 1048576 → CallE Try.prog fn_impl_Expr_copyOf [v] h (fun u h' => HS h [ow u x] h') := by
  refine Exq.ind fun x ih h v R hs => ?_
  obtain ⟨w, rfl, k1, k2, R1⟩ := Rep_Exq.1 R
  have hsz := sz_Exq x
  rw [sz_list] at hsz
  refine CallE.gen fun k hk => EN_impl_Expr_copyOf rfl ?_
  simp -implicitDefEqProofs (disch := first | omega | (simp only [List.length_set, List.length_replicate, List.length_append, List.length_map, List.length_take, List.length_cons, List.length_nil]; omega)) [wrap64, setC]
  refine (c_clone_impl_Expr R1 (by omega)).go ?_
  rintro o h1 ⟨M, hM, H⟩
  simp -implicitDefEqProofs (disch := first | omega | (simp only [List.length_set, List.length_replicate, List.length_append, List.length_map, List.length_take, List.length_cons, List.length_nil]; omega)) [wrap64, setC, H.rep.cells, H.rep.one, R1.len]
  refine wp_count x.kids.length (fun i e h' => e = [none, none, some (.agg #[.int .i64 0, .int .i64 0, .slice none 0 0]), some (.agg #[.int .i64 x.kind, .int .i64 x.val, o]), none, none, some w, some (.int .i64 x.kids.length), some (.int .i64 i)] ∧ ∃ M, HS h [ow o M] h' ∧ Mixed h x.kids (fun y => y) M i) ⟨by simp, M, H, Mixed.zero hM⟩ ?_
  clear H
  rintro J i _ h2 hJ hi ⟨rfl, M, H, hM⟩
  simp -implicitDefEqProofs (disch := first | omega | (simp only [List.length_set, List.length_replicate, List.length_append, List.length_map, List.length_take, List.length_cons, List.length_nil]; omega)) [wrap64]
  refine IteW.mk (fun hlt => ?_) (fun hge => ?_)
  · have hlx : i < x.kids.length := by omega
    have hlM : i < M.length := by rw [hM.len]; exact hlx
    obtain ⟨u, hu, Ru⟩ := R1.ld hlx
    have hu2 := hload_le H.base hu
    change hload _ (some (elp 3 w i)) (some 3) = some u at hu2
    simp -implicitDefEqProofs (disch := first | omega | (simp only [List.length_set, List.length_replicate, List.length_append, List.length_map, List.length_take, List.length_cons, List.length_nil]; omega)) [wrap64, R1.X (n := 3) rfl, hu2, Ru.aExq]
    refine (ih _ (List.getElem_mem hlx) (Ru.on H) (by have := sz_kid hlx; omega)).go ?_
    intro y h3 G
    have H := (G.newO).app H
    simp -implicitDefEqProofs (disch := first | omega | (simp only [List.length_set, List.length_replicate, List.length_append, List.length_map, List.length_take, List.length_cons, List.length_nil]; omega)) [wrap64, H.sw1.rep.X (n := 3) rfl, G.rep.aExq]
    refine HS.store H hlM rfl rfl rfl fun h4 H => ?_
    simp -implicitDefEqProofs (disch := first | omega | (simp only [List.length_set, List.length_replicate, List.length_append, List.length_map, List.length_take, List.length_cons, List.length_nil]; omega)) [wrap64]
    exact hJ _ _ hlx ⟨by simp, _, H, hM.step hlx⟩
  · simp -implicitDefEqProofs (disch := first | omega | (simp only [List.length_set, List.length_replicate, List.length_append, List.length_map, List.length_take, List.length_cons, List.length_nil]; omega)) [wrap64, H.rep.cells, H.rep.one, setC]
    have he := hM.all (by omega)
    subst he
    have H := H.mixed
    rw [List.map_id'] at H
    exact RetK.keep (hk _ _ (H.mkExq k1 k2))

end Go.Proofs.Ytonjglbachhdcaa

/-
  Whether the marks in expressions, edges, processes, systems are still held.
-/
namespace Go.Proofs.Ytonjglbachhdcaa
open Go
set_option linter.all false
set_option linter.unusedVariables false
set_option linter.unusedSimpArgs false
set_option linter.defProp false
set_option maxRecDepth 1000000

end Go.Proofs.Ytonjglbachhdcaa

/-
  Systems are copied, and sliced: by the program and by the reference.
-/
namespace Go.Proofs.Ytonjglbachhdcaa
open Go
set_option linter.all false
set_option linter.unusedVariables false
set_option linter.unusedSimpArgs false
set_option linter.defProp false
set_option maxRecDepth 1000000

/-- how far the elements have been replaced -/
structure Prog {α : Type} (f : α → α) (l y : List α) (i : Nat) : Prop where
  len : y.length = l.length
  done : y.take i = (l.map f).take i
  rest : ∀ (j : Nat) (hj : j < l.length) (hj' : j < y.length), i ≤ j → y[j] = l[j]
section
variable {α : Type} {f : α → α} {l y : List α} {i : Nat}
theorem Prog.zero : Prog f l l 0 := ⟨rfl, rfl, fun _ _ _ _ => rfl⟩
theorem Prog.get (H : Prog f l y i) (hi : i < l.length) : y[i]'(by rw [H.len]; exact hi) = l[i] := H.rest i hi _ (Nat.le_refl i)
theorem Prog.step (H : Prog f l y i) (hi : i < l.length) : Prog f l (y.set i (f l[i])) (i + 1) := by
  refine ⟨by simp [H.len], ?_, fun j hj hj' hij => ?_⟩
  · have := take_set_succ (x := l.map f) H.done (by simpa using hi) (by simp [H.len])
    rwa [List.getElem_map] at this
  · simp only [List.getElem_set]
    rw [if_neg (by omega)]
    exact H.rest j hj (by simpa using hj') (by omega)
theorem Prog.skip (H : Prog f l y i) (hi : i < l.length) (hf : f l[i] = l[i]) : Prog f l y (i + 1) := by
  have := H.step hi
  rw [hf, ← H.get hi, List.set_getElem_self] at this
  exact this
theorem Prog.all (H : Prog f l y i) (hi : l.length ≤ i) : y = l.map f := eq_of_take H.done (by simpa using hi) (by simp [H.len])
end

theorem repPr {h : Heap} {cs : List Value} {p : Pr} (H : Ty.rep h cs p) : ∃ w, cs = [.int .i64 p.locs, w] ∧ I64 p.locs := by
  obtain ⟨c1, c2, rfl, ⟨rfl, h1⟩, h2⟩ := H
  obtain ⟨w, rfl, h3⟩ := (rep1 (α := List Ed) rfl).1 h2
  exact ⟨w, rfl, h1⟩

theorem c_System_copyOf {h : Heap} {v : Value} {s : Sy} (hs : s.Ok) (R : Rep h v s) : CallE Try.prog fn_impl_System_copyOf [v] h (fun u h' => HS h [ow u s] h') := by
  obtain ⟨v1, v2, rfl, R1, R2'⟩ := Rep_Sy.1 R
  have hil := hs.vs.len
  have hp3 := hs.p3
  refine CallE.gen fun k hk => EN_impl_System_copyOf rfl ?_
  simp -implicitDefEqProofs (disch := first | omega | (simp only [List.length_set, List.length_replicate, List.length_append, List.length_map, List.length_take, List.length_cons, List.length_nil]; omega)) [wrap64, setC]
  refine (c_clone_int R1 (by omega)).go ?_
  intro c1 h1 H
  simp -implicitDefEqProofs (disch := first | omega | (simp only [List.length_set, List.length_replicate, List.length_append, List.length_map, List.length_take, List.length_cons, List.length_nil]; omega)) [wrap64, setC]
  refine (c_clone_impl_Process (R2'.on H) (by omega)).go ?_
  rintro c2 h2 ⟨M, hM, G⟩
  have hC1 := H.rep.cells
  have hC2 := H.rep.one
  have hC3 := G.rep.cells
  have hC4 := G.rep.one
  have H := G.app H
  simp -implicitDefEqProofs (disch := first | omega | (simp only [List.length_set, List.length_replicate, List.length_append, List.length_map, List.length_take, List.length_cons, List.length_nil]; omega)) [wrap64, setC, hC1, hC2, hC3, hC4, R2'.len]
  refine wp_count s.procs.length (fun i e h' => e = [none, none, some (.agg #[.slice none 0 0, .slice none 0 0]), some (.agg #[c1, c2]), none, none, none, none, some v2, some (.int .i64 s.procs.length), some (.int .i64 i), none, none, none] ∧ ∃ M, HS h [ow c2 M, ow c1 s.init] h' ∧ Mixed h1 s.procs (fun p => p) M i) ⟨by simp, M, H, Mixed.zero hM⟩ ?_
  clear H G hM
  rintro J i _ h3 hJ hi ⟨rfl, M, H, hM⟩
  simp -implicitDefEqProofs (disch := first | omega | (simp only [List.length_set, List.length_replicate, List.length_append, List.length_map, List.length_take, List.length_cons, List.length_nil]; omega)) [wrap64]
  refine IteW.mk (fun hlt => ?_) (fun hge => ?_)
  · have hlx : i < s.procs.length := by omega
    have hlM : i < M.length := by rw [hM.len]; exact hlx
    obtain ⟨u, hu, Ru⟩ := R2'.ld hlx
    have hu2 := hload_le H.base hu
    change hload _ (some (elp 2 v2 i)) (some 2) = some u at hu2
    obtain ⟨we, rfl, k1, R3⟩ := Rep_Pr.1 Ru
    have hpo := hs.at hlx
    have hel := hpo.el
    have hF1 := R3.cells
    have hF2 := R3.one
    simp -implicitDefEqProofs (disch := first | omega | (simp only [List.length_set, List.length_replicate, List.length_append, List.length_map, List.length_take, List.length_cons, List.length_nil]; omega)) [wrap64, R2'.X (n := 2) rfl, hu2, hF1, hF2, setC]
    refine (c_clone_impl_Edge (R3.on H) (by omega)).go ?_
    rintro w' h4 ⟨ME, hME, G⟩
    have hc' := G.rep.cells
    have hc2 := G.rep.one
    have H0 := G.app H
    obtain ⟨u, hu, H1⟩ := HS.take H0.sw1 hlM
    obtain ⟨c, hc, hr⟩ := hM.get hlx
    rw [hc] at H1
    obtain ⟨rfl, H2⟩ := H1.unraw
    obtain ⟨wo, rfl, _⟩ := repPr hr
    have H3 : HS h (hole c2 M i (.agg ([.int .i64 s.procs[i].locs, wo] : List Value).toArray) :: ow w' ME :: ow c1 s.init :: []) h4 := H2
    have hia := HS.holeia H3 (n := 2) (kd := .i64) rfl hlM
    have hP := hld_parts (HS.holeP H3 (n := 2) rfl rfl)
    simp -implicitDefEqProofs (disch := first | omega | (simp only [List.length_set, List.length_replicate, List.length_append, List.length_map, List.length_take, List.length_cons, List.length_nil]; omega)) [wrap64, hia, hP.1]
    refine HS.holest H3 rfl (n := 2) rfl rfl rfl (by simp [hc']) (by simp [hc', hc2]) (by decide) fun h5 H => ?_
    rw [hc'] at H
    have H : HS h (hole c2 M i (.agg ([.int .i64 s.procs[i].locs, w'] : List Value).toArray) :: ow w' ME :: ow c1 s.init :: []) h5 := H
    simp -implicitDefEqProofs (disch := first | omega | (simp only [List.length_set, List.length_replicate, List.length_append, List.length_map, List.length_take, List.length_cons, List.length_nil]; omega)) [wrap64, R3.len]
    refine wp_count s.procs[i].edges.length (fun j e h' => e = [none, none, some (.agg #[.slice none 0 0, .slice none 0 0]), some (.agg #[c1, c2]), some (.int .i64 i), none, none, none, some v2, some (.int .i64 s.procs.length), some (.int .i64 i), some we, some (.int .i64 s.procs[i].edges.length), some (.int .i64 j)] ∧ ∃ ME, HS h [hole c2 M i (.agg ([.int .i64 s.procs[i].locs, w'] : List Value).toArray), ow w' ME, ow c1 s.init] h' ∧ Mixed h3 s.procs[i].edges (fun p => p) ME j) ⟨by simp, ME, H, Mixed.zero hME⟩ ?_
    clear H H0 H1 H2 H3 G hME hia hP hu hu2
    rintro J2 j _ h6 hJ2 hj ⟨rfl, ME, H, hME⟩
    simp -implicitDefEqProofs (disch := first | omega | (simp only [List.length_set, List.length_replicate, List.length_append, List.length_map, List.length_take, List.length_cons, List.length_nil]; omega)) [wrap64]
    refine IteW.mk (fun hlt2 => ?_) (fun hge2 => ?_)
    · have hjx : j < s.procs[i].edges.length := by omega
      have hjM : j < ME.length := by rw [hME.len]; exact hjx
      obtain ⟨u, hu, Ru⟩ := R3.ld hjx
      have hu2 := hload_le H.base hu
      change hload _ (some (elp 10 we j)) (some 10) = some u at hu2
      obtain ⟨w1, w2, rfl, ok, G1, G2⟩ := Rep_Ed.1 Ru
      have heo := hpo.at hjx
      have hF3 := G1.one
      have hF4 := G2.one
      have hia := HS.holeia H (n := 2) (kd := .i64) rfl hlM
      have hP := hld_parts (HS.holeP H (n := 2) rfl rfl)
      simp -implicitDefEqProofs (disch := first | omega | (simp only [List.length_set, List.length_replicate, List.length_append, List.length_map, List.length_take, List.length_cons, List.length_nil]; omega)) [wrap64, R3.X (n := 10) rfl, hu2, Ed.cs, setC, hF3, hF4, hia, hP.1, hP.2.2.1]
      refine (c_Expr_copyOf _ ((Rep.gd (w2 := w2) ok G1).on H) (by have := heo.gd.sz; omega)).go ?_
      intro u1 h7 HU
      obtain ⟨x1, rfl, _, _, HU1⟩ := HU.unExq
      have hX1 := HU1.rep.cells
      have hX2 := HU1.rep.one
      have H0 := HU1.app H
      have hP := hld_parts (HS.holeP H0.sw1 (n := 2) rfl rfl)
      obtain ⟨u, hu, H1⟩ := HS.take H0.sw2 hjM
      obtain ⟨c, hc, hr⟩ := hME.get hjx
      rw [hc] at H1
      obtain ⟨rfl, H2⟩ := H1.unraw
      obtain ⟨wa, wb, rfl, _, _, _⟩ := repEd.1 hr
      have H3 : HS h (hole w' ME j (.agg (Ed.cs s.procs[i].edges[j] wa wb).toArray) :: ow x1 s.procs[i].edges[j].guard.kids :: hole c2 M i (.agg ([.int .i64 s.procs[i].locs, w'] : List Value).toArray) :: ow c1 s.init :: []) h7 := H2
      have hiaE := HS.holeia H3 (n := 10) (kd := .i64) rfl hjM
      have hPE := hld_parts (HS.holeP H3 (n := 10) rfl rfl)
      simp -implicitDefEqProofs (disch := first | omega | (simp only [List.length_set, List.length_replicate, List.length_append, List.length_map, List.length_take, List.length_cons, List.length_nil]; omega)) [wrap64, hP.1, hP.2.2.1, hiaE, hPE.1]
      refine HS.holest H3 rfl (n := 10) rfl rfl rfl rfl (by simp [hX2]) (by decide) fun h8 H => ?_
      have H : HS h (hole w' ME j (.agg (Ed.cs s.procs[i].edges[j] x1 wb).toArray) :: ow x1 s.procs[i].edges[j].guard.kids :: hole c2 M i (.agg ([.int .i64 s.procs[i].locs, w'] : List Value).toArray) :: ow c1 s.init :: []) h8 := H
      have hia := HS.holeia H.sw2 (n := 2) (kd := .i64) rfl hlM
      have hP := hld_parts (HS.holeP H.sw2 (n := 2) rfl rfl)
      simp -implicitDefEqProofs (disch := first | omega | (simp only [List.length_set, List.length_replicate, List.length_append, List.length_map, List.length_take, List.length_cons, List.length_nil]; omega)) [wrap64, hia, hP.1, hP.2.2.1]
      refine (c_Expr_copyOf _ ((Rep.vl ok G2).on H) (by have := heo.vsz; omega)).go ?_
      intro u2 h9 HU
      obtain ⟨x2, rfl, _, _, HU2⟩ := HU.unExq
      have hX3 := HU2.rep.cells
      have hX4 := HU2.rep.one
      have H := (HU2.app H).sw1
      have hP := hld_parts (HS.holeP H.sw3 (n := 2) rfl rfl)
      have hiaE := HS.holeia H (n := 10) (kd := .i64) rfl hjM
      have hPE := hld_parts (HS.holeP H (n := 10) rfl rfl)
      simp -implicitDefEqProofs (disch := first | omega | (simp only [List.length_set, List.length_replicate, List.length_append, List.length_map, List.length_take, List.length_cons, List.length_nil]; omega)) [wrap64, hP.1, hP.2.2.1, hiaE, hPE.1]
      refine HS.holest H rfl (n := 10) rfl rfl rfl rfl (by simp [hX4]) (by decide) fun h10 H => ?_
      have H : HS h (hole w' ME j (.agg (Ed.cs s.procs[i].edges[j] x1 x2).toArray) :: ow x2 s.procs[i].edges[j].value.kids :: ow x1 s.procs[i].edges[j].guard.kids :: hole c2 M i (.agg ([.int .i64 s.procs[i].locs, w'] : List Value).toArray) :: ow c1 s.init :: []) h10 := H
      have H := (HS.put ((HS.mkEd H.sw1.sw2 ok).newO))
      simp -implicitDefEqProofs (disch := first | omega | (simp only [List.length_set, List.length_replicate, List.length_append, List.length_map, List.length_take, List.length_cons, List.length_nil]; omega)) [wrap64]
      exact hJ2 _ _ hjx ⟨by simp, _, H.sw1, hME.step hjx⟩
    simp -implicitDefEqProofs (disch := first | omega | (simp only [List.length_set, List.length_replicate, List.length_append, List.length_map, List.length_take, List.length_cons, List.length_nil]; omega)) [wrap64]
    have he := hME.all (by omega)
    subst he
    have H := H.sw1.mixed
    rw [List.map_id'] at H
    have H := HS.put ((HS.mkPr (p := s.procs[i]) H k1).newO)
    exact hJ _ _ hlx ⟨by simp, _, H, hM.step hlx⟩
  simp -implicitDefEqProofs (disch := first | omega | (simp only [List.length_set, List.length_replicate, List.length_append, List.length_map, List.length_take, List.length_cons, List.length_nil]; omega)) [wrap64, hC2, hC4, setC]
  have he := hM.all (by omega)
  subst he
  have H := H.mixed
  rw [List.map_id'] at H
  exact RetK.keep (hk _ _ (H.sw1.mkSy))

/- SLICES -/
def Ed.slc (M : List Bool) (e : Ed) : Ed := if 0 ≤ e.var ∧ M.getD e.var.toNat false = false then ⟨e.frm, e.to, e.guard, -1, Exq.zero, e.sync⟩ else e
def Pr.slc (M : List Bool) (p : Pr) : Pr := ⟨p.locs, p.edges.map (Ed.slc M)⟩
def Sy.slc (s : Sy) (L : List Exq) : Sy := ⟨s.init, s.procs.map (Pr.slc (s.rel L))⟩
noncomputable def slcR (s : Sy) (L : List Exq) : Sy := if s.Ok ∧ LOk L then s.slc L else ⟨[], []⟩
theorem zero_Sy {g h : Heap} {Γ : List HP} (H : HS g Γ h) : HS g (ow (.agg #[.slice none 0 0, .slice none 0 0]) (⟨[], []⟩ : Sy) :: Γ) h := HS.mkSy (s := ⟨[], []⟩) H.nil_ow.nil_ow
theorem i64_m1 : I64 (-1) := ⟨by decide, by decide⟩

theorem c_SliceSystem {h : Heap} {v w : Value} {s : Sy} {L : List Exq} (R : Rep h v s) (RL : Rep h w L) : CallE Try.prog fn_impl_SliceSystem [v, w] h (R2 (decide (s.Ok ∧ LOk L)) (slcR s L) h) := by
  have F := R.aSy
  refine CallE.gen fun k hk => EN_impl_SliceSystem rfl ?_
  simp -implicitDefEqProofs (disch := first | omega | (simp only [List.length_set, List.length_replicate, List.length_append, List.length_map, List.length_take, List.length_cons, List.length_nil]; omega)) [wrap64, F]
  refine (c_RelevantVars R RL).go ?_
  rintro _ h1 ⟨x, rfl, H⟩
  by_cases q1 : s.Ok ∧ LOk L
  case neg =>
    simp -implicitDefEqProofs (disch := first | omega | (simp only [List.length_set, List.length_replicate, List.length_append, List.length_map, List.length_take, List.length_cons, List.length_nil]; omega)) [wrap64, q1, setC]
    exact RetK.keep (hk _ _ ⟨_, by rw [decide_eq_false q1], by rw [slcR, if_neg q1]; exact zero_Sy (Γ := []) H.base⟩)
  rw [relR, if_pos q1] at H
  have hs := q1.1
  have hp3 := hs.p3
  have hrl : (s.rel L).length = 3 := Sy.rel_len
  simp -implicitDefEqProofs (disch := first | omega | (simp only [List.length_set, List.length_replicate, List.length_append, List.length_map, List.length_take, List.length_cons, List.length_nil]; omega)) [wrap64, q1, F]
  refine (c_System_copyOf hs (R.on H)).go ?_
  intro o h2 HO
  obtain ⟨c1, c2, rfl, HO2⟩ := HO.unSy
  have hC1 := HO2.rep.one
  have hC2 := HO2.sw1.rep.one
  have H := HO2.app H
  simp -implicitDefEqProofs (disch := first | omega | (simp only [List.length_set, List.length_replicate, List.length_append, List.length_map, List.length_take, List.length_cons, List.length_nil]; omega)) [wrap64, setC, hC1, hC2, H.sw1.rep.len]
  refine wp_count s.procs.length (fun i e h' => e = [none, none, none, some (.agg #[.slice none 0 0, .slice none 0 0]), none, some x, none, some (.agg #[c1, c2]), none, none, none, some c2, some (.int .i64 s.procs.length), some (.int .i64 i), none, none, none] ∧ ∃ y, HS h [ow c2 y, ow c1 s.init, ow x (s.rel L)] h' ∧ Prog (Pr.slc (s.rel L)) s.procs y i) ⟨by simp, s.procs, H.sw1, Prog.zero⟩ ?_
  clear H HO HO2
  rintro J i _ h3 hJ hi ⟨rfl, y, H, hy⟩
  simp -implicitDefEqProofs (disch := first | omega | (simp only [List.length_set, List.length_replicate, List.length_append, List.length_map, List.length_take, List.length_cons, List.length_nil]; omega)) [wrap64]
  refine IteW.mk (fun hlt => ?_) (fun hge => ?_)
  · have hlx : i < s.procs.length := by omega
    have hly : i < y.length := by rw [hy.len]; exact hlx
    have hpo := hs.at hlx
    have hel := hpo.el
    obtain ⟨u, hu, H1⟩ := HS.take H hly
    rw [hy.get hlx] at H1
    obtain ⟨we, rfl, k1, H2⟩ := H1.unPr
    change hload _ (some (elp 2 c2 i)) (some 2) = some _ at hu
    have hE1 := H2.rep.one
    have hia := HS.holeia H2.sw1 (n := 2) (kd := .i64) rfl hly
    simp -implicitDefEqProofs (disch := first | omega | (simp only [List.length_set, List.length_replicate, List.length_append, List.length_map, List.length_take, List.length_cons, List.length_nil]; omega)) [wrap64, hia, hu, setC, hE1, H2.rep.len]
    refine wp_count s.procs[i].edges.length (fun j e h' => e = [none, none, none, some (.agg #[.slice none 0 0, .slice none 0 0]), none, some x, none, some (.agg #[c1, c2]), some (.agg #[.int .i64 s.procs[i].locs, we]), none, none, some c2, some (.int .i64 s.procs.length), some (.int .i64 i), some we, some (.int .i64 s.procs[i].edges.length), some (.int .i64 j)] ∧ ∃ z, HS h [ow we z, hole c2 y i (.agg #[.int .i64 s.procs[i].locs, we]), ow c1 s.init, ow x (s.rel L)] h' ∧ Prog (Ed.slc (s.rel L)) s.procs[i].edges z j) ⟨by simp, _, H2, Prog.zero⟩ ?_
    clear H H1 H2 hia hu
    rintro J2 j _ h6 hJ2 hj ⟨rfl, z, H, hz⟩
    simp -implicitDefEqProofs (disch := first | omega | (simp only [List.length_set, List.length_replicate, List.length_append, List.length_map, List.length_take, List.length_cons, List.length_nil]; omega)) [wrap64]
    refine IteW.mk (fun hlt2 => ?_) (fun hge2 => ?_)
    · have hjx : j < s.procs[i].edges.length := by omega
      have hjz : j < z.length := by rw [hz.len]; exact hjx
      have heo := hpo.at hjx
      obtain ⟨u, hu, H1⟩ := HS.take H hjz
      rw [hz.get hjx] at H1
      obtain ⟨w1, w2, rfl, ok, H2⟩ := H1.unEd
      change hload _ (some (elp 10 we j)) (some 10) = some _ at hu
      have hX1 := H2.rep.one
      have hX2 := H2.sw1.rep.one
      have hia := HS.holeia H2.sw2 (n := 10) (kd := .i64) rfl hjz
      have HX := H.sw3.rep
      have hskip : Ed.slc (s.rel L) s.procs[i].edges[j] = s.procs[i].edges[j] → J2 [none, none, none, some (.agg #[.slice none 0 0, .slice none 0 0]), none, some x, none, some (.agg #[c1, c2]), some (.agg #[.int .i64 s.procs[i].locs, we]), none, none, some c2, some (.int .i64 s.procs.length), some (.int .i64 i), some we, some (.int .i64 s.procs[i].edges.length), some (.int .i64 ((j + 1 : Nat) : Int))] h6 :=
        fun hf => hJ2 _ _ hjx ⟨by simp, z, H, hz.skip hjx hf⟩
      by_cases e1 : 0 ≤ s.procs[i].edges[j].var
      case neg =>
        simp -implicitDefEqProofs (disch := first | omega | (simp only [List.length_set, List.length_replicate, List.length_append, List.length_map, List.length_take, List.length_cons, List.length_nil]; omega)) [wrap64, hia, hu, Ed.cs, setC, hX1, hX2, e1]
        exact hskip (by rw [Ed.slc, if_neg (fun hh => e1 hh.1)])
      have hv1 := heo.v1
      obtain ⟨q, hq⟩ : ∃ q : Nat, s.procs[i].edges[j].var = q := ⟨_, (Int.toNat_of_nonneg e1).symm⟩
      have hgd : (s.rel L).getD s.procs[i].edges[j].var.toNat false = (s.rel L)[q]'(by omega) := by
        rw [hq, Int.toNat_natCast, List.getD_eq_getElem?_getD, List.getElem?_eq_getElem (by omega)]; rfl
      by_cases e2 : (s.rel L)[q]'(by omega) = true
      · simp -implicitDefEqProofs (disch := first | omega | (simp only [List.length_set, List.length_replicate, List.length_append, List.length_map, List.length_take, List.length_cons, List.length_nil]; omega)) [wrap64, hia, hu, Ed.cs, setC, hX1, hX2, hq, HX.B, e2]
        exact hskip (by rw [Ed.slc, if_neg (fun hh => by rw [hgd, e2] at hh; simp at hh)])
      have hP := hld_parts (HS.holeP H2.sw2 (n := 10) rfl rfl)
      simp -implicitDefEqProofs (disch := first | omega | (simp only [List.length_set, List.length_replicate, List.length_append, List.length_map, List.length_take, List.length_cons, List.length_nil]; omega)) [wrap64, hia, hu, Ed.cs, setC, hX1, hX2, hq, HX.B, e2, hP.1]
      refine HS.holest H2.sw2 rfl (n := 10) rfl rfl rfl rfl rfl (by decide) fun h7 H => ?_
      have hP := hld_parts (HS.holeP H (n := 10) rfl rfl)
      simp -implicitDefEqProofs (disch := first | omega | (simp only [List.length_set, List.length_replicate, List.length_append, List.length_map, List.length_take, List.length_cons, List.length_nil]; omega)) [wrap64, hia, hP.1]
      refine HS.holest H rfl (n := 10) rfl rfl rfl rfl rfl (by decide) fun h8 H => ?_
      have H : HS h (hole we z j (.agg (Ed.cs ⟨s.procs[i].edges[j].frm, s.procs[i].edges[j].to, s.procs[i].edges[j].guard, -1, Exq.zero, s.procs[i].edges[j].sync⟩ w1 (.slice none 0 0)).toArray) :: ow w1 s.procs[i].edges[j].guard.kids :: ow w2 s.procs[i].edges[j].value.kids :: hole c2 y i (.agg #[.int .i64 s.procs[i].locs, we]) :: ow c1 s.init :: ow x (s.rel L) :: []) h8 := H
      have H := (H.sw2.drop).nil_ow (α := Exq)
      have H := HS.put (HS.mkEd (e := ⟨s.procs[i].edges[j].frm, s.procs[i].edges[j].to, s.procs[i].edges[j].guard, -1, Exq.zero, s.procs[i].edges[j].sync⟩) (w1 := w1) (w2 := .slice none 0 0) H.sw2 ⟨ok.frm, ok.to, ok.gk, ok.gv, i64_m1, i64_0, i64_0, ok.sync⟩)
      simp -implicitDefEqProofs (disch := first | omega | (simp only [List.length_set, List.length_replicate, List.length_append, List.length_map, List.length_take, List.length_cons, List.length_nil]; omega)) [wrap64]
      refine hJ2 _ _ hjx ⟨by simp, _, H, ?_⟩
      have hst := hz.step hjx
      rw [Ed.slc, if_pos ⟨e1, by rw [hgd]; simpa using e2⟩] at hst
      exact hst
    simp -implicitDefEqProofs (disch := first | omega | (simp only [List.length_set, List.length_replicate, List.length_append, List.length_map, List.length_take, List.length_cons, List.length_nil]; omega)) [wrap64]
    have he := hz.all (by omega)
    subst he
    have H := HS.put (HS.mkPr (p := Pr.slc (s.rel L) s.procs[i]) H k1)
    exact hJ _ _ hlx ⟨by simp, _, H, hy.step hlx⟩
  simp -implicitDefEqProofs (disch := first | omega | (simp only [List.length_set, List.length_replicate, List.length_append, List.length_map, List.length_take, List.length_cons, List.length_nil]; omega)) [wrap64, hC1, hC2, setC]
  have he := hy.all (by omega)
  subst he
  exact RetK.keep (hk _ _ ⟨_, by rw [decide_eq_true q1], by rw [slcR, if_pos q1]; exact (HS.mkSy (s := s.slc L) H.sw1).only⟩)

end Go.Proofs.Ytonjglbachhdcaa

/-
  Slicing twice is slicing once: in plain Lean.
-/
namespace Go.Proofs.Ytonjglbachhdcaa
open Go
set_option linter.all false
set_option linter.unusedVariables false
set_option linter.unusedSimpArgs false
set_option linter.defProp false
set_option maxRecDepth 1000000

theorem Ed.slc_ok {M : List Bool} {e : Ed} {n : Int} (h : e.Ok n) : (e.slc M).Ok n := by
  unfold Ed.slc
  split
  · exact ⟨h.n1, h.n4, h.f0, h.f1, h.t0, h.t1, h.gd, by dsimp only; omega, by dsimp only; omega, .inr ⟨by dsimp only; omega, rfl⟩, h.s0, h.s1⟩
  · exact h
theorem Pr.slc_ok {M : List Bool} {p : Pr} (h : p.Ok) : (p.slc M).Ok :=
  ⟨h.n1, h.n4, by simpa [Pr.slc] using h.el, fun e he => by
    obtain ⟨e0, h0, rfl⟩ := List.mem_map.1 he
    exact Ed.slc_ok (h.ed e0 h0)⟩
theorem Sy.slc_ok {s : Sy} {L : List Exq} (h : s.Ok) : (s.slc L).Ok :=
  ⟨h.vs, by simpa [Sy.slc] using h.p1, by simpa [Sy.slc] using h.p3, fun p hp => by
    obtain ⟨p0, h0, rfl⟩ := List.mem_map.1 hp
    exact Pr.slc_ok (h.pr p0 h0)⟩
theorem Ed.slc_guard {M : List Bool} {e : Ed} : (e.slc M).guard = e.guard := by unfold Ed.slc; split <;> rfl
section
variable {α : Type} {f g : List Bool → α → List Bool}
end
end Go.Proofs.Ytonjglbachhdcaa
