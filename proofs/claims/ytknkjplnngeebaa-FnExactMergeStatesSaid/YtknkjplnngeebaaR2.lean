/-
  The live states behind a word, by the reference; both as functions of the package.
-/
import Derived.Test.YtknkjplnngeebaaR1
namespace Go.Proofs.Ytknkjplnngeebaa
open Go
set_option linter.all false
set_option linter.unusedVariables false
set_option linter.unusedSimpArgs false
set_option linter.defProp false
set_option maxRecDepth 1000000

theorem c_l6Letters {h : Heap} {w : Value} {W : List Int} (Rw : Rep h w W) : CallE Try.prog fn_spec_l6Letters [w] h (fun u h' => h' = h ∧ u = .bool (decide (∀ x ∈ W, 0 ≤ x ∧ x ≤ 7))) := by
  have hL := Rw.lt
  refine CallE.gen fun k hk => EN_spec_l6Letters rfl ?_
  simp -implicitDefEqProofs (disch := first | omega | (simp only [List.length_set, List.length_replicate, List.length_append, List.length_map, List.length_take, List.length_cons, List.length_nil]; omega)) [wrap64]
  refine wp_count W.length (fun i e h' => e = [some w, none, some (.int .i64 i)] ∧ h' = h ∧ ∀ (j : Nat) (hj : j < W.length), j < i → 0 ≤ W[j] ∧ W[j] ≤ 7) ⟨rfl, rfl, fun j _ hj => absurd hj (Nat.not_lt_zero j)⟩ ?_
  rintro J i _ h1 hJ hi ⟨rfl, rfl, hn⟩
  simp -implicitDefEqProofs (disch := first | omega | (simp only [List.length_set, List.length_replicate, List.length_append, List.length_map, List.length_take, List.length_cons, List.length_nil]; omega)) [wrap64, Rw.len]
  refine IteW.mk (fun hlt => ?_) (fun hge => ?_)
  · have hlx : i < W.length := by omega
    have hno : ¬ (0 ≤ W[i] ∧ W[i] ≤ 7) → k (.bool false) h1 := fun hx => hk _ _ ⟨rfl, by congr 1; rw [eq_comm, decide_eq_false_iff_not]; exact fun hh => hx (hh _ (List.getElem_mem hlx))⟩
    by_cases h1 : W[i] < 0
    · simp -implicitDefEqProofs (disch := first | omega | (simp only [List.length_set, List.length_replicate, List.length_append, List.length_map, List.length_take, List.length_cons, List.length_nil]; omega)) [wrap64, Rw.I, h1]
      exact RetK.keep (hno (by omega))
    by_cases h2 : 7 < W[i]
    · simp -implicitDefEqProofs (disch := first | omega | (simp only [List.length_set, List.length_replicate, List.length_append, List.length_map, List.length_take, List.length_cons, List.length_nil]; omega)) [wrap64, Rw.I, h1, h2]
      exact RetK.keep (hno (by omega))
    simp -implicitDefEqProofs (disch := first | omega | (simp only [List.length_set, List.length_replicate, List.length_append, List.length_map, List.length_take, List.length_cons, List.length_nil]; omega)) [wrap64, Rw.I, h1, h2]
    refine hJ _ _ hlx ⟨rfl, rfl, fun j hj hji => ?_⟩
    by_cases hji2 : j = i
    · subst hji2; omega
    · exact hn j hj (by omega)
  · simp -implicitDefEqProofs (disch := first | omega | (simp only [List.length_set, List.length_replicate, List.length_append, List.length_map, List.length_take, List.length_cons, List.length_nil]; omega)) [wrap64]
    refine RetK.keep (hk _ _ ⟨rfl, ?_⟩)
    congr 1
    rw [eq_comm, decide_eq_true_iff]
    intro x hx
    obtain ⟨j, hj, rfl⟩ := List.mem_iff_getElem.1 hx
    exact hn j hj (by omega)
theorem c_l12Word {h : Heap} {w : Value} {W : List Int} (Rw : Rep h w W) : CallE Try.prog fn_spec_l12Word [w] h (fun u h' => h' = h ∧ u = .bool (decide (Wok W))) := by
  have hL := Rw.lt
  refine CallE.gen fun k hk => EN_spec_l12Word rfl ?_
  simp -implicitDefEqProofs (disch := first | omega | (simp only [List.length_set, List.length_replicate, List.length_append, List.length_map, List.length_take, List.length_cons, List.length_nil]; omega)) [wrap64]
  refine (c_l6Letters Rw).go ?_
  rintro _ _ ⟨rfl, rfl⟩
  by_cases h1 : ∀ x ∈ W, 0 ≤ x ∧ x ≤ 7
  · rw [decide_eq_true h1]
    simp -implicitDefEqProofs (disch := first | omega | (simp only [List.length_set, List.length_replicate, List.length_append, List.length_map, List.length_take, List.length_cons, List.length_nil]; omega)) [wrap64, Rw.len]
    refine RetK.keep (hk _ _ ⟨rfl, ?_⟩)
    congr 1
    rw [Bool.eq_iff_iff, decide_eq_true_iff, decide_eq_true_iff]
    exact ⟨fun h => ⟨by omega, h1⟩, fun h => by have := h.1; omega⟩
  · rw [decide_eq_false h1]
    simp -implicitDefEqProofs (disch := first | omega | (simp only [List.length_set, List.length_replicate, List.length_append, List.length_map, List.length_take, List.length_cons, List.length_nil]; omega)) [wrap64]
    refine RetK.keep (hk _ _ ⟨rfl, ?_⟩)
    congr 1
    rw [eq_comm, decide_eq_false_iff_not]
    exact fun hh => h1 hh.2

theorem c_l12Only {h : Heap} {s l : Value} {S : List Int} {L : List Bool} (Rs : Rep h s S) (Rl : Rep h l L) (hS : ∀ x ∈ S, 0 ≤ x ∧ x < L.length) (hSl : S.length ≤ 1048576) : CallE Try.prog fn_spec_l12Only [s, l] h (fun u h' => HS h [ow u (S.filter fun x => L.getD x.toNat false)] h') := by
  have hll := Rl.lt
  refine CallE.gen fun k hk => EN_spec_l12Only rfl ?_
  simp -implicitDefEqProofs (disch := first | omega | (simp only [List.length_set, List.length_replicate, List.length_append, List.length_map, List.length_take, List.length_cons, List.length_nil]; omega)) [wrap64]
  refine HS.init.bls0 Int fun o h1 H => ?_
  simp -implicitDefEqProofs (disch := first | omega | (simp only [List.length_set, List.length_replicate, List.length_append, List.length_map, List.length_take, List.length_cons, List.length_nil]; omega)) [wrap64]
  refine wp_count S.length (fun i e h' => ∃ o, e = [some s, some l, none, some o, some (.int .i64 i)] ∧ HS h [ow o ((S.take i).filter fun x => L.getD x.toNat false)] h') ⟨o, by simp, by simpa using H⟩ ?_
  clear H
  rintro J i _ h2 hJ hi ⟨o, rfl, H⟩
  have hfl := List.length_filter_le (fun x : Int => L.getD x.toNat false) (S.take i)
  simp only [List.length_take] at hfl
  simp -implicitDefEqProofs (disch := first | omega | (simp only [List.length_set, List.length_replicate, List.length_append, List.length_map, List.length_take, List.length_cons, List.length_nil]; omega)) [wrap64, (Rs.on H).len]
  refine IteW.mk (fun hlt => ?_) (fun hge => ?_)
  · have hix : i < S.length := by omega
    have hx := hS _ (List.getElem_mem hix)
    obtain ⟨q, hq⟩ : ∃ q : Nat, S[i] = q := ⟨S[i].toNat, by omega⟩
    have hqn : q < L.length := by omega
    have hgd : L.getD q false = L[q] := by simp [hqn]
    have hfm : (S.take (i + 1)).filter (fun x => L.getD x.toNat false) = (S.take i).filter (fun x => L.getD x.toNat false) ++ if L[q] then [(q : Int)] else [] := by
      rw [List.take_add_one, List.getElem?_eq_getElem hix, List.filter_append]
      congr 1
      simp only [Option.toList_some, List.filter_cons, List.filter_nil, hq, Int.toNat_natCast, hgd]
    cases hb : L[q] with
    | true =>
      simp -implicitDefEqProofs (disch := first | omega | (simp only [List.length_set, List.length_replicate, List.length_append, List.length_map, List.length_take, List.length_cons, List.length_nil]; omega)) [wrap64, (Rs.on H).I, hq, (Rl.on H).B, hb]
      refine H.app1 (q : Int) rfl rfl rfl ⟨by omega, by omega⟩ rfl rfl (by omega) (by omega) fun o' h3 H => ?_
      simp -implicitDefEqProofs (disch := first | omega | (simp only [List.length_set, List.length_replicate, List.length_append, List.length_map, List.length_take, List.length_cons, List.length_nil]; omega)) [wrap64]
      refine hJ _ _ hix ⟨o', rfl, ?_⟩
      rw [hfm, hb]; exact H
    | false =>
      simp -implicitDefEqProofs (disch := first | omega | (simp only [List.length_set, List.length_replicate, List.length_append, List.length_map, List.length_take, List.length_cons, List.length_nil]; omega)) [wrap64, (Rs.on H).I, hq, (Rl.on H).B, hb]
      refine hJ _ _ hix ⟨o, rfl, ?_⟩
      rw [hfm, hb]; simpa using H
  simp -implicitDefEqProofs (disch := first | omega | (simp only [List.length_set, List.length_replicate, List.length_append, List.length_map, List.length_take, List.length_cons, List.length_nil]; omega)) [wrap64]
  rw [List.take_of_length_le (by omega)] at H
  exact RetK.keep (hk _ _ H)

theorem c_l10Sorted {g h : Heap} {Γ : List HP} {v : Value} {l : List Int} {n y : Int} (H : HS g (ow v l :: Γ) h) (hl : incr n (-1) l) (hy : -1 < y ∧ y < n) (hn : n ≤ 1048576) : CallE Try.prog fn_spec_l10Sorted [v, .int .i64 y] h (fun u h' => ∃ l', HS g (ow u l' :: Γ) h' ∧ incr n (-1) l' ∧ ∀ x, x ∈ l' ↔ x ∈ l ∨ x = y) := by
  have hll := incr_len hl (by omega)
  have hp := (incr_iff.1 hl).1
  refine CallE.gen fun k hk => EN_spec_l10Sorted rfl ?_
  simp -implicitDefEqProofs (disch := first | omega | (simp only [List.length_set, List.length_replicate, List.length_append, List.length_map, List.length_take, List.length_cons, List.length_nil]; omega)) [wrap64]
  refine H.bls0 Int fun o h1 H => ?_
  simp -implicitDefEqProofs (disch := first | omega | (simp only [List.length_set, List.length_replicate, List.length_append, List.length_map, List.length_take, List.length_cons, List.length_nil]; omega)) [wrap64]
  refine wp_count l.length (fun i e h' => ∃ o dn, e = [some v, some (.int .i64 y), none, some o, some (.bool dn), some (.int .i64 i)] ∧ ∃ O : List Int, HS g (ow o O :: ow v l :: Γ) h' ∧ InsI l y i dn O) ⟨o, false, by simp, [], H, InsI.zero⟩ ?_
  clear H
  rintro J i _ h2 hJ hi ⟨o, dn, rfl, O, H, hI⟩
  have hol := hI.len
  simp -implicitDefEqProofs (disch := first | omega | (simp only [List.length_set, List.length_replicate, List.length_append, List.length_map, List.length_take, List.length_cons, List.length_nil]; omega)) [wrap64, H.sw1.rep.len]
  refine IteW.mk (fun hlt => ?_) (fun hge => ?_)
  · have hix : i < l.length := by omega
    have hxb := H.sw1.rep.okI hix
    by_cases h1 : l[i] = y
    · simp -implicitDefEqProofs (disch := first | omega | (simp only [List.length_set, List.length_replicate, List.length_append, List.length_map, List.length_take, List.length_cons, List.length_nil]; omega)) [wrap64, H.sw1.rep.I, h1]
      refine RetK.keep (hk _ _ ⟨l, H.drop, hl, fun x => ⟨.inl, fun hh => hh.elim id fun e => ?_⟩⟩)
      rw [e, ← h1]; exact List.getElem_mem hix
    by_cases h2 : y < l[i]
    · cases dn with
      | false =>
        simp -implicitDefEqProofs (disch := first | omega | (simp only [List.length_set, List.length_replicate, List.length_append, List.length_map, List.length_take, List.length_cons, List.length_nil]; omega)) [wrap64, H.sw1.rep.I, h1, h2]
        refine H.app1 y rfl rfl rfl ⟨by omega, by omega⟩ rfl rfl (by omega) (by omega) fun o1 h3 H => ?_
        simp -implicitDefEqProofs (disch := first | omega | (simp only [List.length_set, List.length_replicate, List.length_append, List.length_map, List.length_take, List.length_cons, List.length_nil]; omega)) [wrap64, H.sw1.rep.I]
        refine H.app1 l[i] rfl rfl rfl hxb rfl rfl (by simp; omega) (by simp; omega) fun o2 h4 H => ?_
        simp -implicitDefEqProofs (disch := first | omega | (simp only [List.length_set, List.length_replicate, List.length_append, List.length_map, List.length_take, List.length_cons, List.length_nil]; omega)) [wrap64]
        exact hJ _ _ hix ⟨o2, true, rfl, _, H, hI.big hp hix h2⟩
      | true =>
        simp -implicitDefEqProofs (disch := first | omega | (simp only [List.length_set, List.length_replicate, List.length_append, List.length_map, List.length_take, List.length_cons, List.length_nil]; omega)) [wrap64, H.sw1.rep.I, h1, h2]
        refine H.app1 l[i] rfl rfl rfl hxb rfl rfl (by omega) (by omega) fun o2 h4 H => ?_
        simp -implicitDefEqProofs (disch := first | omega | (simp only [List.length_set, List.length_replicate, List.length_append, List.length_map, List.length_take, List.length_cons, List.length_nil]; omega)) [wrap64]
        exact hJ _ _ hix ⟨o2, true, rfl, _, H, hI.more hix h1⟩
    · simp -implicitDefEqProofs (disch := first | omega | (simp only [List.length_set, List.length_replicate, List.length_append, List.length_map, List.length_take, List.length_cons, List.length_nil]; omega)) [wrap64, H.sw1.rep.I, h1, h2]
      refine H.app1 l[i] rfl rfl rfl hxb rfl rfl (by omega) (by omega) fun o2 h4 H => ?_
      simp -implicitDefEqProofs (disch := first | omega | (simp only [List.length_set, List.length_replicate, List.length_append, List.length_map, List.length_take, List.length_cons, List.length_nil]; omega)) [wrap64]
      refine hJ _ _ hix ⟨o2, dn, rfl, _, H, ?_⟩
      cases dn with
      | false => exact hI.small hix (by omega)
      | true => exact hI.more hix h1
  · obtain ⟨r1, r2⟩ := hI.result hl hy (by omega)
    cases dn with
    | false =>
      simp -implicitDefEqProofs (disch := first | omega | (simp only [List.length_set, List.length_replicate, List.length_append, List.length_map, List.length_take, List.length_cons, List.length_nil]; omega)) [wrap64]
      refine H.app1 y rfl rfl rfl ⟨by omega, by omega⟩ rfl rfl (by omega) (by omega) fun o1 h3 H => ?_
      simp -implicitDefEqProofs (disch := first | omega | (simp only [List.length_set, List.length_replicate, List.length_append, List.length_map, List.length_take, List.length_cons, List.length_nil]; omega)) [wrap64]
      exact RetK.keep (hk _ _ ⟨_, H.sw1.drop, r1, r2⟩)
    | true =>
      simp -implicitDefEqProofs (disch := first | omega | (simp only [List.length_set, List.length_replicate, List.length_append, List.length_map, List.length_take, List.length_cons, List.length_nil]; omega)) [wrap64]
      exact RetK.keep (hk _ _ ⟨_, H.sw1.drop, r1, r2⟩)

theorem c_l12Step {h : Heap} {v s : Value} {a : Aut} {S : List Int} {letter : Int} (Ra : Rep h v a) (Rs : Rep h s S) (ha : a.Ok) : CallE Try.prog fn_spec_l12Step [v, s, .int .i64 letter] h (fun u h' => ∃ T, HS h [ow u T] h' ∧ incr a.acc.length (-1) T ∧ ∀ x, x ∈ T ↔ ∃ e ∈ a.edges, e.frm ∈ S ∧ e.on letter = true ∧ e.to = x) := by
  obtain ⟨v1, v2, v3, rfl, R1, R2, R3⟩ := Rep_Aut.1 Ra
  have hn := ha.n
  have he := ha.e
  refine CallE.gen fun k hk => EN_spec_l12Step rfl ?_
  simp -implicitDefEqProofs (disch := first | omega | (simp only [List.length_set, List.length_replicate, List.length_append, List.length_map, List.length_take, List.length_cons, List.length_nil]; omega)) [wrap64]
  refine HS.init.bls0 Int fun o h1 H => ?_
  simp -implicitDefEqProofs (disch := first | omega | (simp only [List.length_set, List.length_replicate, List.length_append, List.length_map, List.length_take, List.length_cons, List.length_nil]; omega)) [wrap64]
  refine wp_count a.edges.length (fun i e h' => ∃ o, e = [none, some s, some (.int .i64 letter), some (.agg #[v1, v2, v3]), none, some o, some (.int .i64 i)] ∧ ∃ T : List Int, HS h [ow o T] h' ∧ incr a.acc.length (-1) T ∧ ∀ x, x ∈ T ↔ ∃ e ∈ a.edges.take i, e.frm ∈ S ∧ e.on letter = true ∧ e.to = x) ⟨o, by simp, [], H, trivial, by simp⟩ ?_
  clear H
  rintro J i _ h2 hJ hi ⟨o, rfl, T, H, hT, hTm⟩
  simp -implicitDefEqProofs (disch := first | omega | (simp only [List.length_set, List.length_replicate, List.length_append, List.length_map, List.length_take, List.length_cons, List.length_nil]; omega)) [wrap64, (R3.on H).len]
  refine IteW.mk (fun hlt => ?_) (fun hge => ?_)
  · have hix : i < a.edges.length := by omega
    have hx := ha.t hix
    have hv := R3.okTr hix
    unfold Tr.Ok at hx
    have hstep : ∀ T' : List Int, (∀ x, x ∈ T' ↔ x ∈ T ∨ (a.edges[i].frm ∈ S ∧ a.edges[i].on letter = true ∧ a.edges[i].to = x)) → ∀ x, x ∈ T' ↔ ∃ e ∈ a.edges.take (i + 1), e.frm ∈ S ∧ e.on letter = true ∧ e.to = x := by
      intro T' hT' x
      rw [hT', hTm]
      constructor
      · rintro (⟨e, h1, h2⟩ | h1)
        · exact ⟨e, (take_mem_succ hix).2 (.inl h1), h2⟩
        · exact ⟨_, (take_mem_succ hix).2 (.inr rfl), h1⟩
      · rintro ⟨e, h1, h2⟩
        rcases (take_mem_succ hix).1 h1 with h1 | rfl
        · exact .inl ⟨e, h1, h2⟩
        · exact .inr h2
    simp -implicitDefEqProofs (disch := first | omega | (simp only [List.length_set, List.length_replicate, List.length_append, List.length_map, List.length_take, List.length_cons, List.length_nil]; omega)) [wrap64, (R3.on H).xTr, (R3.on H).fTr, Tr.v]
    refine (c_l4In (Rs.on H)).go ?_
    rintro _ _ ⟨rfl, rfl⟩
    by_cases h1 : a.edges[i].frm ∈ S
    case neg =>
      simp -implicitDefEqProofs (disch := first | omega | (simp only [List.length_set, List.length_replicate, List.length_append, List.length_map, List.length_take, List.length_cons, List.length_nil]; omega)) [wrap64, h1]
      exact hJ _ _ hix ⟨o, by simp, T, H, hT, hstep T fun x => ⟨.inl, fun hh => hh.elim id fun hh => absurd hh.1 h1⟩⟩
    simp -implicitDefEqProofs (disch := first | omega | (simp only [List.length_set, List.length_replicate, List.length_append, List.length_map, List.length_take, List.length_cons, List.length_nil]; omega)) [wrap64, h1, (R3.on H).xTr, Tr.v]
    refine (c_l7On (t := a.edges[i]) (Rep_Tr.2 ⟨by simp [Tr.v], hv⟩)).go ?_
    rintro _ _ ⟨rfl, rfl⟩
    by_cases h3 : a.edges[i].on letter = true
    case neg =>
      simp -implicitDefEqProofs (disch := first | omega | (simp only [List.length_set, List.length_replicate, List.length_append, List.length_map, List.length_take, List.length_cons, List.length_nil]; omega)) [wrap64, h3]
      exact hJ _ _ hix ⟨o, by simp, T, H, hT, hstep T fun x => ⟨.inl, fun hh => hh.elim id fun hh => absurd hh.2.1 h3⟩⟩
    simp -implicitDefEqProofs (disch := first | omega | (simp only [List.length_set, List.length_replicate, List.length_append, List.length_map, List.length_take, List.length_cons, List.length_nil]; omega)) [wrap64, h3, (R3.on H).xTr, (R3.on H).fTr, Tr.v]
    refine (c_l10Sorted H hT (by omega) (by omega)).go ?_
    rintro o' h4 ⟨T', H, hT', hTm'⟩
    simp -implicitDefEqProofs (disch := first | omega | (simp only [List.length_set, List.length_replicate, List.length_append, List.length_map, List.length_take, List.length_cons, List.length_nil]; omega)) [wrap64]
    refine hJ _ _ hix ⟨o', by simp, T', H, hT', hstep T' fun x => ?_⟩
    rw [hTm']
    constructor
    · rintro (h5 | h5)
      · exact .inl h5
      · exact .inr ⟨h1, h3, h5.symm⟩
    · rintro (h5 | h5)
      · exact .inl h5
      · exact .inr h5.2.2.symm
  simp -implicitDefEqProofs (disch := first | omega | (simp only [List.length_set, List.length_replicate, List.length_append, List.length_map, List.length_take, List.length_cons, List.length_nil]; omega)) [wrap64]
  rw [List.take_of_length_le (by omega)] at hTm
  exact RetK.keep (hk _ _ ⟨T, H, hT, hTm⟩)

theorem c_l12States {h : Heap} {v w : Value} {a : Aut} {W : List Int} (Ra : Rep h v a) (Rw : Rep h w W) (ha : a.Ok) : CallE Try.prog fn_spec_l12States [v, w] h (fun u h' => HS h [ow u (a.states W)] h') := by
  obtain ⟨v1, v2, v3, rfl, R1, R2, R3⟩ := Rep_Aut.1 Ra
  have hn := ha.n
  have hil := ha.il
  have hwl := Rw.lt
  have hfil : ∀ {L : List Bool} {S : List Int}, L.length = a.acc.length → (∀ q, tru L q ↔ q < a.acc.length ∧ a.Live q) → incr a.acc.length (-1) S → incr a.acc.length (-1) (S.filter fun x => L.getD x.toNat false) ∧ ∀ q : Nat, (q : Int) ∈ (S.filter fun x => L.getD x.toNat false) ↔ (q : Int) ∈ S ∧ a.Live q := by
    intro L S hLl hL hS
    refine ⟨incr_filter hS, fun q => ?_⟩
    rw [List.mem_filter]
    have := hL q
    simp only [tru] at this
    simp only [Int.toNat_natCast]
    rw [this]
    constructor
    · rintro ⟨h1, h2⟩; exact ⟨h1, h2.2⟩
    · rintro ⟨h1, h2⟩
      have := incr_mem hS _ h1
      exact ⟨h1, by omega, h2⟩
  refine CallE.gen fun k hk => EN_spec_l12States rfl ?_
  simp -implicitDefEqProofs (disch := first | omega | (simp only [List.length_set, List.length_replicate, List.length_append, List.length_map, List.length_take, List.length_cons, List.length_nil]; omega)) [wrap64]
  refine (c_spec_LiveStates Ra ha).go ?_
  rintro l h1 ⟨L, H, hLl, hL⟩
  simp -implicitDefEqProofs (disch := first | omega | (simp only [List.length_set, List.length_replicate, List.length_append, List.length_map, List.length_take, List.length_cons, List.length_nil]; omega)) [wrap64]
  refine (c_l12Only (R1.on H) H.rep (fun x hx => by have := incr_mem ha.i x hx; omega) (by omega)).go ?_
  intro s h2 H2
  have H := H2.app H
  obtain ⟨f1, f2⟩ := hfil hLl hL ha.i
  simp -implicitDefEqProofs (disch := first | omega | (simp only [List.length_set, List.length_replicate, List.length_append, List.length_map, List.length_take, List.length_cons, List.length_nil]; omega)) [wrap64]
  refine wp_count W.length (fun i e h' => ∃ s, e = [none, some w, some (.agg #[v1, v2, v3]), none, some l, some s, some (.int .i64 i)] ∧ ∃ S : List Int, HS h [ow s S, ow l L] h' ∧ incr a.acc.length (-1) S ∧ ∀ q : Nat, (q : Int) ∈ S ↔ a.behind (W.take i) q) ⟨s, by simp, _, H, f1, f2⟩ ?_
  clear H f1 f2
  rintro J i _ h3 hJ hi ⟨s, rfl, S, H, hS, hSm⟩
  have hSl := incr_len hS (by omega)
  simp -implicitDefEqProofs (disch := first | omega | (simp only [List.length_set, List.length_replicate, List.length_append, List.length_map, List.length_take, List.length_cons, List.length_nil]; omega)) [wrap64, (Rw.on H).len]
  refine IteW.mk (fun hlt => ?_) (fun hge => ?_)
  · have hix : i < W.length := by omega
    simp -implicitDefEqProofs (disch := first | omega | (simp only [List.length_set, List.length_replicate, List.length_append, List.length_map, List.length_take, List.length_cons, List.length_nil]; omega)) [wrap64, (Rw.on H).I]
    refine (c_l12Step (Ra.on H) H.rep ha).go ?_
    rintro t h4 ⟨T, H4, hT, hTm⟩
    have H := H4.app H
    have hTl := incr_len hT (by omega)
    simp -implicitDefEqProofs (disch := first | omega | (simp only [List.length_set, List.length_replicate, List.length_append, List.length_map, List.length_take, List.length_cons, List.length_nil]; omega)) [wrap64]
    refine (c_l12Only H.rep H.sw2.rep (fun x hx => by have := incr_mem hT x hx; omega) (by omega)).go ?_
    intro s' h5 H5
    have H := ((H5.app H).sw1.drop).sw1.drop
    obtain ⟨f1, f2⟩ := hfil hLl hL hT
    simp -implicitDefEqProofs (disch := first | omega | (simp only [List.length_set, List.length_replicate, List.length_append, List.length_map, List.length_take, List.length_cons, List.length_nil]; omega)) [wrap64]
    refine hJ _ _ hix ⟨s', by simp, _, H, f1, fun q => ?_⟩
    rw [f2, hTm, Aut.behind, foldl_take hix]
    constructor
    · rintro ⟨⟨e, h6, h7, h8, h9⟩, h10⟩
      have hx := ha.2.2.2 e h6
      unfold Tr.Ok at hx
      refine ⟨h10, e, h6, ?_, h9, h8⟩
      show a.behind (W.take i) _
      rw [← hSm, Int.toNat_of_nonneg hx.1]
      exact h7
    · rintro ⟨h10, e, h6, h7, h9, h8⟩
      have hx := ha.2.2.2 e h6
      unfold Tr.Ok at hx
      have h7 : a.behind (W.take i) _ := h7
      rw [← hSm, Int.toNat_of_nonneg hx.1] at h7
      exact ⟨⟨e, h6, h7, h8, h9⟩, h10⟩
  simp -implicitDefEqProofs (disch := first | omega | (simp only [List.length_set, List.length_replicate, List.length_append, List.length_map, List.length_take, List.length_cons, List.length_nil]; omega)) [wrap64]
  rw [List.take_of_length_le (by omega)] at hSm
  refine H.appPL (α := Int) (l2 := S) rfl rfl H.rep rfl rfl (by omega) fun o h4 H => ?_
  simp -implicitDefEqProofs (disch := first | omega | (simp only [List.length_set, List.length_replicate, List.length_append, List.length_map, List.length_take, List.length_cons, List.length_nil]; omega)) [wrap64]
  have he : S = a.states W := by
    refine Aut.states_eq hS fun q => ?_
    rw [hSm]
    constructor
    · intro h5
      have := incr_mem hS q ((hSm q).2 h5)
      exact ⟨by omega, h5⟩
    · exact fun h5 => h5.2
  rw [he] at H
  exact RetK.keep (hk _ _ H.only)

/-- what is given back: a pair of a piece of data and a truth value -/
def R2 {α : Type} [Ty α] (b : Bool) (y : α) (h : Heap) (u : Value) (h' : Heap) : Prop := ∃ v, u = .tuple #[v, .bool b] ∧ HS h [ow v y] h'
noncomputable def preV (a : Aut) (w : List Int) : List Int := if a.Ok ∧ Wok w then a.states w else []
theorem c_PrefixStates {h : Heap} {v w : Value} {a : Aut} {W : List Int} (Ra : Rep h v a) (Rw : Rep h w W) : CallE Try.prog fn_impl_PrefixStates [v, w] h (R2 (decide (a.Ok ∧ Wok W)) (preV a W) h) := by
  have Fa := Ra.aAut
  refine CallE.gen fun k hk => EN_impl_PrefixStates rfl ?_
  have hno : ¬ (a.Ok ∧ Wok W) → ∀ h', h.le h' → k (.tuple #[.slice none 0 0, .bool false]) h' := fun hn h' hl => hk _ _ ⟨_, by rw [decide_eq_false hn], by rw [preV, if_neg hn]; exact HS.nil_ow (Γ := []) hl⟩
  simp -implicitDefEqProofs (disch := first | omega | (simp only [List.length_set, List.length_replicate, List.length_append, List.length_map, List.length_take, List.length_cons, List.length_nil]; omega)) [wrap64, Fa]
  refine (c_AutomatonValid Ra).go ?_
  rintro _ h1 ⟨l1, rfl⟩
  by_cases ha : a.Ok
  case neg =>
    simp -implicitDefEqProofs (disch := first | omega | (simp only [List.length_set, List.length_replicate, List.length_append, List.length_map, List.length_take, List.length_cons, List.length_nil]; omega)) [wrap64, ha]
    exact RetK.keep (hno (fun hh => ha hh.1) _ l1)
  simp -implicitDefEqProofs (disch := first | omega | (simp only [List.length_set, List.length_replicate, List.length_append, List.length_map, List.length_take, List.length_cons, List.length_nil]; omega)) [wrap64, ha]
  refine (c_wordOk (Rw.le l1)).go ?_
  rintro _ h2 ⟨l2, rfl⟩
  have l2 := l1.trans l2
  by_cases hw : Wok W
  case neg =>
    simp -implicitDefEqProofs (disch := first | omega | (simp only [List.length_set, List.length_replicate, List.length_append, List.length_map, List.length_take, List.length_cons, List.length_nil]; omega)) [wrap64, hw]
    exact RetK.keep (hno (fun hh => hw hh.2) _ l2)
  simp -implicitDefEqProofs (disch := first | omega | (simp only [List.length_set, List.length_replicate, List.length_append, List.length_map, List.length_take, List.length_cons, List.length_nil]; omega)) [wrap64, hw, Fa]
  refine (c_prefix (Ra.le l2) (Rw.le l2) ha).go ?_
  intro u h3 H
  simp -implicitDefEqProofs (disch := first | omega | (simp only [List.length_set, List.length_replicate, List.length_append, List.length_map, List.length_take, List.length_cons, List.length_nil]; omega)) [wrap64]
  exact RetK.keep (hk _ _ ⟨_, by rw [decide_eq_true ⟨ha, hw⟩], by rw [preV, if_pos ⟨ha, hw⟩]; exact HS.app (Γ := []) H l2⟩)
theorem c_spec_PrefixStates {h : Heap} {v w : Value} {a : Aut} {W : List Int} (Ra : Rep h v a) (Rw : Rep h w W) : CallE Try.prog fn_spec_PrefixStates [v, w] h (R2 (decide (a.Ok ∧ Wok W)) (preV a W) h) := by
  have Fa := Ra.aAut
  refine CallE.gen fun k hk => EN_spec_PrefixStates rfl ?_
  simp -implicitDefEqProofs (disch := first | omega | (simp only [List.length_set, List.length_replicate, List.length_append, List.length_map, List.length_take, List.length_cons, List.length_nil]; omega)) [wrap64, Fa]
  refine (c_spec_AutomatonValid Ra).go ?_
  rintro _ _ ⟨rfl, rfl⟩
  by_cases ha : a.Ok
  case neg =>
    have hn : ¬ (a.Ok ∧ Wok W) := fun hh => ha hh.1
    simp -implicitDefEqProofs (disch := first | omega | (simp only [List.length_set, List.length_replicate, List.length_append, List.length_map, List.length_take, List.length_cons, List.length_nil]; omega)) [wrap64, ha]
    refine HS.init.bls0 Int fun o h1 H => ?_
    simp -implicitDefEqProofs (disch := first | omega | (simp only [List.length_set, List.length_replicate, List.length_append, List.length_map, List.length_take, List.length_cons, List.length_nil]; omega)) [wrap64]
    exact RetK.keep (hk _ _ ⟨_, by rw [decide_eq_false hn], by rw [preV, if_neg hn]; exact H⟩)
  simp -implicitDefEqProofs (disch := first | omega | (simp only [List.length_set, List.length_replicate, List.length_append, List.length_map, List.length_take, List.length_cons, List.length_nil]; omega)) [wrap64, ha]
  refine (c_l12Word Rw).go ?_
  rintro _ _ ⟨rfl, rfl⟩
  by_cases hw : Wok W
  case neg =>
    have hn : ¬ (a.Ok ∧ Wok W) := fun hh => hw hh.2
    simp -implicitDefEqProofs (disch := first | omega | (simp only [List.length_set, List.length_replicate, List.length_append, List.length_map, List.length_take, List.length_cons, List.length_nil]; omega)) [wrap64, hw]
    refine HS.init.bls0 Int fun o h1 H => ?_
    simp -implicitDefEqProofs (disch := first | omega | (simp only [List.length_set, List.length_replicate, List.length_append, List.length_map, List.length_take, List.length_cons, List.length_nil]; omega)) [wrap64]
    exact RetK.keep (hk _ _ ⟨_, by rw [decide_eq_false hn], by rw [preV, if_neg hn]; exact H⟩)
  simp -implicitDefEqProofs (disch := first | omega | (simp only [List.length_set, List.length_replicate, List.length_append, List.length_map, List.length_take, List.length_cons, List.length_nil]; omega)) [wrap64, hw, Fa]
  refine (c_l12States Ra Rw ha).go ?_
  intro u h3 H
  simp -implicitDefEqProofs (disch := first | omega | (simp only [List.length_set, List.length_replicate, List.length_append, List.length_map, List.length_take, List.length_cons, List.length_nil]; omega)) [wrap64]
  exact RetK.keep (hk _ _ ⟨_, by rw [decide_eq_true ⟨ha, hw⟩], by rw [preV, if_pos ⟨ha, hw⟩]; exact H⟩)
theorem bnd_PrefixStates {a0 : Aut} {a1 : List Int} : Mk.cnt (preV a0 a1) ≤ 4194304 := by
  rw [cnt_ints, preV]
  split
  · rename_i h
    have := memL_length (K := fun q => @decide (a0.behind a1 q) (Classical.propDecidable _)) (i := a0.acc.length)
    have := h.1.n
    unfold Aut.states
    omega
  · simp
end Go.Proofs.Ytknkjplnngeebaa
