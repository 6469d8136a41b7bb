/-
  Texts of this proof, one behind the other.
-/
import Derived.Test.YtonjglbachhdcaaM6
/-
  Steps by the reference; the state after a step, by the program and by the reference.
-/
namespace Go.Proofs.Ytonjglbachhdcaa
open Go
set_option linter.all false
set_option linter.unusedVariables false
set_option linter.unusedSimpArgs false
set_option linter.defProp false
set_option maxRecDepth 1000000

theorem c_l3Partners {h : Heap} {v w : Value} {s : Sy} {st : Sta} (hs : s.Ok) (ht : st.Ok s) (R : Rep h v s) (Rt : Rep h w st) {i m : Nat} (hi : i < s.procs.length) (hm : m < s.procs[i].edges.length) :
    CallE Try.prog fn_spec_l3Partners [v, w, .int .i64 i, .int .i64 m] h (fun u h' => HS h [ow u (prt s st i m s.procs[i].edges[m].sync)] h') := by
  have R0 := R
  have Rt0 := Rt
  obtain ⟨v1, v2, rfl, R1, R2'⟩ := Rep_Sy.1 R
  obtain ⟨t1, t2, rfl, T1, T2⟩ := Rep_Sta.1 Rt
  have hp3 := hs.p3
  have heo := (hs.at hi).at hm
  have hs0 := heo.s0
  have hs1 := heo.s1
  obtain ⟨we, w1, w2, hu, R3, hu2, ok, G1, G2⟩ := R2'.edge hi hm
  obtain ⟨c, hc⟩ : ∃ c, c = s.procs[i].edges[m].sync := ⟨_, rfl⟩
  refine CallE.gen fun k hk => EN_spec_l3Partners rfl ?_
  rw [← hc] at hk hs0 hs1
  simp -implicitDefEqProofs (disch := first | omega | (simp only [List.length_set, List.length_replicate, List.length_append, List.length_map, List.length_take, List.length_cons, List.length_nil]; omega)) [wrap64]
  refine HS.init.bls0 Stp fun o h1 H => ?_
  have hP := hld_parts (hload_le H.base hu)
  have hQ := hld_parts (hload_le H.base hu2)
  simp -implicitDefEqProofs (disch := first | omega | (simp only [List.length_set, List.length_replicate, List.length_append, List.length_map, List.length_take, List.length_cons, List.length_nil]; omega)) [wrap64, R2'.X (n := 2) rfl, hP.1, hP.2.2.1, R3.X (n := 10) rfl, hQ.1, hQ.2.2.1, Ed.cs]
  refine wp_count s.procs.length (fun j e h' => ∃ o, e = [none, none, some (.int .i64 i), some (.int .i64 m), some (.agg #[v1, v2]), some (.agg #[t1, t2]), none, some o, some (.int .i64 c), some (.int .i64 j), none] ∧ HS h [ow o ((s.procs.zipIdx.take j).flatMap (prt1 st i m c))] h') ⟨o, by simp [hc], by simpa using H⟩ ?_
  clear H hP hQ
  rintro J2 j _ h3 hJ2 hj ⟨o, rfl, H⟩
  simp -implicitDefEqProofs (disch := first | omega | (simp only [List.length_set, List.length_replicate, List.length_append, List.length_map, List.length_take, List.length_cons, List.length_nil]; omega)) [wrap64, R2'.len]
  refine IteW.mk (fun hlt2 => ?_) (fun hge2 => ?_)
  · have hj : j < s.procs.length := by omega
    obtain ⟨D, hD⟩ : ∃ D, D = (s.procs.zipIdx.take j).flatMap (prt1 st i m c) := ⟨_, rfl⟩
    have hDl : D.length ≤ 18 := by rw [hD]; exact prt_len hs
    rw [← hD] at H
    obtain ⟨u, hu, Ru⟩ := R2'.ld hj
    change hload _ (some (elp 2 v2 j)) (some 2) = some u at hu
    obtain ⟨wf, rfl, k2, R4⟩ := Rep_Pr.1 Ru
    have hpj := hs.at hj
    have hej := hpj.el
    have hP : ∀ {h'}, h.le h' → _ := fun {h'} (hl : h.le h') => hld_parts (hload_le hl hu)
    simp -implicitDefEqProofs (disch := first | omega | (simp only [List.length_set, List.length_replicate, List.length_append, List.length_map, List.length_take, List.length_cons, List.length_nil]; omega)) [wrap64]
    refine wp_count s.procs[j].edges.length (fun n e h' => ∃ o, e = [none, none, some (.int .i64 i), some (.int .i64 m), some (.agg #[v1, v2]), some (.agg #[t1, t2]), none, some o, some (.int .i64 c), some (.int .i64 j), some (.int .i64 n)] ∧ HS h [ow o (D ++ (s.procs[j].edges.zipIdx.take n).flatMap (prt2 st i m c j))] h') ⟨o, by simp, by simpa using H⟩ ?_
    clear H
    rintro J3 n _ h4 hJ3 hn ⟨o, rfl, H⟩
    have hP1 := (hP H.base).1
    have hP2 := (hP H.base).2.2.1
    simp -implicitDefEqProofs (disch := first | omega | (simp only [List.length_set, List.length_replicate, List.length_append, List.length_map, List.length_take, List.length_cons, List.length_nil]; omega)) [wrap64, R2'.X (n := 2) rfl, hP1, hP2, R4.len]
    refine IteW.mk (fun hlt3 => ?_) (fun hge3 => ?_)
    · have hn : n < s.procs[j].edges.length := by omega
      obtain ⟨E, hE⟩ : ∃ E, E = D ++ (s.procs[j].edges.zipIdx.take n).flatMap (prt2 st i m c j) := ⟨_, rfl⟩
      have hEl : E.length ≤ 24 := by
        rw [hE, List.length_append]
        have := prt1_len (st := st) (i := i) (k := m) (c := c) (j := j) (n := n) hpj
        omega
      have hstep2 : D ++ (s.procs[j].edges.zipIdx.take (n + 1)).flatMap (prt2 st i m c j) = E ++ prt2 st i m c j (s.procs[j].edges[n], n) := by rw [fm_tk hn, ← List.append_assoc, ← hE]
      rw [← hE] at H
      obtain ⟨u, hu, Ru⟩ := R4.ld hn
      have hu2 := hload_le H.base hu
      change hload _ (some (elp 10 wf n)) (some 10) = some u at hu2
      obtain ⟨x1, x2, rfl, okf, X1, X2⟩ := Rep_Ed.1 Ru
      have hQ := hld_parts hu2
      have hgo2 : ∀ {o' h'}, HS h [ow o' (E ++ prt2 st i m c j (s.procs[j].edges[n], n))] h' → J3 [none, none, some (.int .i64 i), some (.int .i64 m), some (.agg #[v1, v2]), some (.agg #[t1, t2]), none, some o', some (.int .i64 c), some (.int .i64 j), some (.int .i64 ((n + 1 : Nat) : Int))] h' :=
        fun {o' h'} H => hJ3 _ _ hn ⟨o', by simp, by rw [hstep2]; exact H⟩
      by_cases b1 : j = i
      · simp -implicitDefEqProofs (disch := first | omega | (simp only [List.length_set, List.length_replicate, List.length_append, List.length_map, List.length_take, List.length_cons, List.length_nil]; omega)) [wrap64, b1]
        subst b1
        exact hgo2 (by rw [prt2, if_neg (fun hh => hh.1 rfl)]; simpa using H)
      have b1' : ¬ ((j : Int) = i) := by omega
      by_cases b2 : s.procs[j].edges[n].sync = -c
      case neg =>
        simp -implicitDefEqProofs (disch := first | omega | (simp only [List.length_set, List.length_replicate, List.length_append, List.length_map, List.length_take, List.length_cons, List.length_nil]; omega)) [wrap64, R2'.X (n := 2) rfl, hP1, hP2, R4.X (n := 10) rfl, hQ.1, hQ.2.2.1, Ed.cs, b1, b1', b2]
        exact hgo2 (by rw [prt2, if_neg (fun hh => b2 hh.2.1)]; simpa using H)
      simp -implicitDefEqProofs (disch := first | omega | (simp only [List.length_set, List.length_replicate, List.length_append, List.length_map, List.length_take, List.length_cons, List.length_nil]; omega)) [wrap64, R2'.X (n := 2) rfl, hP1, hP2, R4.X (n := 10) rfl, hQ.1, hQ.2.2.1, Ed.cs, b1, b1', b2]
      refine (c_l3Ready hs ht (R0.on H) (Rt0.on H) hj hn).go ?_
      rintro _ h4 ⟨rfl, rfl⟩
      by_cases b3 : s.procs[j].edges[n].rdy st j = true
      case neg =>
        simp -implicitDefEqProofs (disch := first | omega | (simp only [List.length_set, List.length_replicate, List.length_append, List.length_map, List.length_take, List.length_cons, List.length_nil]; omega)) [wrap64, b3]
        exact hgo2 (by rw [prt2, if_neg (fun hh => b3 hh.2.2)]; simpa using H)
      have hel := (hs.at hi).el
      simp -implicitDefEqProofs (disch := first | omega | (simp only [List.length_set, List.length_replicate, List.length_append, List.length_map, List.length_take, List.length_cons, List.length_nil]; omega)) [wrap64, b3, setC]
      refine H.app1 (bytes := 32) (⟨i, m, j, n⟩ : Stp) rfl rfl rfl (Stp.ok_iff.2 ⟨by dsimp only; omega, by dsimp only; omega, by dsimp only; omega, by dsimp only; omega⟩) rfl rfl (by omega) (by omega) fun o' h5 H => ?_
      simp -implicitDefEqProofs (disch := first | omega | (simp only [List.length_set, List.length_replicate, List.length_append, List.length_map, List.length_take, List.length_cons, List.length_nil]; omega)) [wrap64]
      refine hgo2 ?_
      rw [prt2, if_pos ⟨b1, b2, b3⟩]; exact H
    simp -implicitDefEqProofs (disch := first | omega | (simp only [List.length_set, List.length_replicate, List.length_append, List.length_map, List.length_take, List.length_cons, List.length_nil]; omega)) [wrap64]
    rw [fm_all (by omega)] at H
    exact hJ2 _ _ hj ⟨o, by simp, by rw [fm_tk hj, ← hD]; exact H⟩
  simp -implicitDefEqProofs (disch := first | omega | (simp only [List.length_set, List.length_replicate, List.length_append, List.length_map, List.length_take, List.length_cons, List.length_nil]; omega)) [wrap64]
  rw [fm_all (by omega)] at H
  exact RetK.keep (hk _ _ H)

theorem c_l3Steps {h : Heap} {v w : Value} {s : Sy} {st : Sta} (hs : s.Ok) (ht : st.Ok s) (R : Rep h v s) (Rt : Rep h w st) : CallE Try.prog fn_spec_l3Steps [v, w] h (fun u h' => HS h [ow u (enb s st)] h') := by
  have FS := R.aSy
  have FT := Rt.aSta
  have R0 := R
  have Rt0 := Rt
  obtain ⟨v1, v2, rfl, R1, R2'⟩ := Rep_Sy.1 R
  obtain ⟨t1, t2, rfl, T1, T2⟩ := Rep_Sta.1 Rt
  have hp3 := hs.p3
  refine CallE.gen fun k hk => EN_spec_l3Steps rfl ?_
  simp -implicitDefEqProofs (disch := first | omega | (simp only [List.length_set, List.length_replicate, List.length_append, List.length_map, List.length_take, List.length_cons, List.length_nil]; omega)) [wrap64]
  refine HS.init.bls0 Stp fun o h1 H => ?_
  simp -implicitDefEqProofs (disch := first | omega | (simp only [List.length_set, List.length_replicate, List.length_append, List.length_map, List.length_take, List.length_cons, List.length_nil]; omega)) [wrap64]
  refine wp_count s.procs.length (fun i e h' => ∃ o, e = [none, none, some (.agg #[v1, v2]), some (.agg #[t1, t2]), none, some o, some (.int .i64 i), none, none] ∧ HS h [ow o ((s.procs.zipIdx.take i).flatMap (enb1 s st))] h') ⟨o, by simp, by simpa using H⟩ ?_
  clear H
  rintro J0 i _ h1 hJ0 hi ⟨o, rfl, H⟩
  simp -implicitDefEqProofs (disch := first | omega | (simp only [List.length_set, List.length_replicate, List.length_append, List.length_map, List.length_take, List.length_cons, List.length_nil]; omega)) [wrap64, R2'.len]
  refine IteW.mk (fun hlt => ?_) (fun hge => ?_)
  · have hi : i < s.procs.length := by omega
    obtain ⟨A, hA⟩ : ∃ A, A = (s.procs.zipIdx.take i).flatMap (enb1 s st) := ⟨_, rfl⟩
    have hAl : A.length ≤ 324 := by rw [hA]; exact enb_len hs
    obtain ⟨u, hu, Ru⟩ := R2'.ld hi
    change hload _ (some (elp 2 v2 i)) (some 2) = some u at hu
    obtain ⟨we, rfl, k1, R3⟩ := Rep_Pr.1 Ru
    have hpo := hs.at hi
    have hel := hpo.el
    have hP : ∀ {h'}, h.le h' → _ := fun {h'} (hl : h.le h') => hld_parts (hload_le hl hu)
    rw [← hA] at H
    simp -implicitDefEqProofs (disch := first | omega | (simp only [List.length_set, List.length_replicate, List.length_append, List.length_map, List.length_take, List.length_cons, List.length_nil]; omega)) [wrap64]
    refine wp_count s.procs[i].edges.length (fun m e h' => ∃ o, e = [none, none, some (.agg #[v1, v2]), some (.agg #[t1, t2]), none, some o, some (.int .i64 i), some (.int .i64 m), none] ∧ HS h [ow o (A ++ (s.procs[i].edges.zipIdx.take m).flatMap (enb2 s st i))] h') ⟨o, by simp, by simpa using H⟩ ?_
    clear H
    rintro J1 m _ h2 hJ1 hm ⟨o, rfl, H⟩
    have hP1 := (hP H.base).1
    have hP2 := (hP H.base).2.2.1
    simp -implicitDefEqProofs (disch := first | omega | (simp only [List.length_set, List.length_replicate, List.length_append, List.length_map, List.length_take, List.length_cons, List.length_nil]; omega)) [wrap64, R2'.X (n := 2) rfl, hP1, hP2, R3.len]
    refine IteW.mk (fun hlt1 => ?_) (fun hge1 => ?_)
    · have hm : m < s.procs[i].edges.length := by omega
      obtain ⟨B, hB⟩ : ∃ B, B = A ++ (s.procs[i].edges.zipIdx.take m).flatMap (enb2 s st i) := ⟨_, rfl⟩
      have hBl : B.length ≤ 432 := by
        rw [hB, List.length_append]
        have := enb1_len (st := st) (i := i) (n := m) hs hpo
        omega
      have hstep : A ++ (s.procs[i].edges.zipIdx.take (m + 1)).flatMap (enb2 s st i) = B ++ enb2 s st i (s.procs[i].edges[m], m) := by rw [fm_tk hm, ← List.append_assoc, ← hB]
      rw [← hB] at H
      obtain ⟨u, hu, Ru⟩ := R3.ld hm
      have hu2 := hload_le H.base hu
      change hload _ (some (elp 10 we m)) (some 10) = some u at hu2
      obtain ⟨w1, w2, rfl, ok, G1, G2⟩ := Rep_Ed.1 Ru
      have heo := hpo.at hm
      have hQ := hld_parts hu2
      have hgo : ∀ {o' h'}, HS h [ow o' (B ++ enb2 s st i (s.procs[i].edges[m], m))] h' → J1 [none, none, some (.agg #[v1, v2]), some (.agg #[t1, t2]), none, some o', some (.int .i64 i), some (.int .i64 ((m + 1 : Nat) : Int)), none] h' :=
        fun {o' h'} H => hJ1 _ _ hm ⟨o', by simp, by rw [hstep]; exact H⟩
      by_cases a2 : s.procs[i].edges[m].sync < 0
      · simp -implicitDefEqProofs (disch := first | omega | (simp only [List.length_set, List.length_replicate, List.length_append, List.length_map, List.length_take, List.length_cons, List.length_nil]; omega)) [wrap64, R2'.X (n := 2) rfl, hP1, hP2, R3.X (n := 10) rfl, hQ.1, hQ.2.2.1, Ed.cs, a2]
        exact hgo (by rw [enb2, if_pos (.inl a2)]; simpa using H)
      simp -implicitDefEqProofs (disch := first | omega | (simp only [List.length_set, List.length_replicate, List.length_append, List.length_map, List.length_take, List.length_cons, List.length_nil]; omega)) [wrap64, R2'.X (n := 2) rfl, hP1, hP2, R3.X (n := 10) rfl, hQ.1, hQ.2.2.1, Ed.cs, a2]
      refine (c_l3Ready hs ht (R0.on H) (Rt0.on H) hi hm).go ?_
      rintro _ h2 ⟨rfl, rfl⟩
      by_cases a1 : s.procs[i].edges[m].rdy st i = true
      case neg =>
        simp -implicitDefEqProofs (disch := first | omega | (simp only [List.length_set, List.length_replicate, List.length_append, List.length_map, List.length_take, List.length_cons, List.length_nil]; omega)) [wrap64, a1]
        exact hgo (by rw [enb2, if_pos (.inr (by simpa using a1))]; simpa using H)
      by_cases a3 : s.procs[i].edges[m].sync = 0
      · simp -implicitDefEqProofs (disch := first | omega | (simp only [List.length_set, List.length_replicate, List.length_append, List.length_map, List.length_take, List.length_cons, List.length_nil]; omega)) [wrap64, a1, a2, a3, setC]
        refine H.app1 (bytes := 32) (⟨i, m, -1, -1⟩ : Stp) rfl rfl rfl (Stp.ok_iff.2 ⟨by dsimp only; omega, by dsimp only; omega, by dsimp only; omega, by dsimp only; omega⟩) rfl rfl (by omega) (by omega) fun o' h3 H => ?_
        simp -implicitDefEqProofs (disch := first | omega | (simp only [List.length_set, List.length_replicate, List.length_append, List.length_map, List.length_take, List.length_cons, List.length_nil]; omega)) [wrap64]
        refine hgo ?_
        rw [enb2, if_neg (by simp [a2, a1]), if_pos a3]; exact H
      have hen : enb2 s st i (s.procs[i].edges[m], m) = prt s st i m s.procs[i].edges[m].sync := by rw [enb2, if_neg (by simp [a2, a1]), if_neg a3]
      have hpl := prt_len' (st := st) (i := i) (k := m) (c := s.procs[i].edges[m].sync) hs
      rw [hen] at hgo
      simp -implicitDefEqProofs (disch := first | omega | (simp only [List.length_set, List.length_replicate, List.length_append, List.length_map, List.length_take, List.length_cons, List.length_nil]; omega)) [wrap64, a1, a2, a3]
      refine (c_l3Partners hs ht (R0.on H) (Rt0.on H) hi hm).go ?_
      intro p h3 G
      have H := G.app H
      simp -implicitDefEqProofs (disch := first | omega | (simp only [List.length_set, List.length_replicate, List.length_append, List.length_map, List.length_take, List.length_cons, List.length_nil]; omega)) [wrap64]
      refine HS.appL (u := p) (l2 := prt s st i m s.procs[i].edges[m].sync) H.sw1 rfl rfl H.rep rfl rfl (by omega) (by omega) fun o' h4 H => ?_
      simp -implicitDefEqProofs (disch := first | omega | (simp only [List.length_set, List.length_replicate, List.length_append, List.length_map, List.length_take, List.length_cons, List.length_nil]; omega)) [wrap64]
      exact hgo H.only
    simp -implicitDefEqProofs (disch := first | omega | (simp only [List.length_set, List.length_replicate, List.length_append, List.length_map, List.length_take, List.length_cons, List.length_nil]; omega)) [wrap64]
    rw [fm_all (by omega)] at H
    exact hJ0 _ _ hi ⟨o, by simp, by rw [fm_tk hi, ← hA]; exact H⟩
  simp -implicitDefEqProofs (disch := first | omega | (simp only [List.length_set, List.length_replicate, List.length_append, List.length_map, List.length_take, List.length_cons, List.length_nil]; omega)) [wrap64]
  rw [fm_all (by omega)] at H
  exact RetK.keep (hk _ _ H)

theorem c_l3Take {g h : Heap} {Γ : List HP} {t1 t2 v : Value} {s : Sy} {st : Sta} {e : Ed} {i : Nat} (hi : i < s.procs.length) (ht : st.Ok s) (he : e.Ok s.procs[i].locs) (R : Rep g v e) (H : HS g (ow t1 st.locs :: ow t2 st.vals :: Γ) h) :
    CallE Try.prog fn_spec_l3Take [.agg #[t1, t2], .int .i64 i, v] h (fun u h' => u = .agg #[t1, t2] ∧ HS g (ow t1 (st.tk i e).locs :: ow t2 (st.tk i e).vals :: Γ) h') := by
  obtain ⟨w1, w2, rfl, ok, G1, G2⟩ := Rep_Ed.1 R
  have hil : i < st.locs.length := by rw [ht.len]; exact hi
  have hvl := ht.vs.len
  have hO1 := H.rep.one
  have hO2 := H.sw1.rep.one
  refine CallE.gen fun k hk => EN_spec_l3Take rfl ?_
  simp -implicitDefEqProofs (disch := first | omega | (simp only [List.length_set, List.length_replicate, List.length_append, List.length_map, List.length_take, List.length_cons, List.length_nil]; omega)) [wrap64, Ed.cs, H.rep.I]
  refine H.storeF e.to (i := i) hil rfl rfl ok.to rfl fun h1 H => ?_
  by_cases a1 : 0 ≤ e.var
  case neg =>
    simp -implicitDefEqProofs (disch := first | omega | (simp only [List.length_set, List.length_replicate, List.length_append, List.length_map, List.length_take, List.length_cons, List.length_nil]; omega)) [wrap64, a1, setC, hO1, hO2]
    exact RetK.keep (hk _ _ ⟨rfl, by simp only [Sta.tk]; rw [if_neg a1]; exact H⟩)
  have hvo : e.value.Ok := he.vl.elim (fun hh => hh.2) (fun hh => absurd hh.1 (by omega))
  have hv1 := he.v1
  obtain ⟨q, hq⟩ : ∃ q : Nat, e.var = q := ⟨_, (Int.toNat_of_nonneg a1).symm⟩
  have hb := Exq.ev_bnd ht.vs hvo.1
  simp -implicitDefEqProofs (disch := first | omega | (simp only [List.length_set, List.length_replicate, List.length_append, List.length_map, List.length_take, List.length_cons, List.length_nil]; omega)) [wrap64, a1, hq]
  refine (c_l1Eval _ ht.vs hvo.1 ((Rep.vl ok G2).on H) H.sw1.rep).go ?_
  rintro _ h1 ⟨rfl, rfl⟩
  simp -implicitDefEqProofs (disch := first | omega | (simp only [List.length_set, List.length_replicate, List.length_append, List.length_map, List.length_take, List.length_cons, List.length_nil]; omega)) [wrap64, H.sw1.rep.I]
  refine H.sw1.storeF (e.value.ev st.vals) (i := q) (by omega) rfl rfl ⟨by omega, by omega⟩ rfl fun h2 H => ?_
  simp -implicitDefEqProofs (disch := first | omega | (simp only [List.length_set, List.length_replicate, List.length_append, List.length_map, List.length_take, List.length_cons, List.length_nil]; omega)) [wrap64, setC, hO1, hO2]
  exact RetK.keep (hk _ _ ⟨rfl, by simp only [Sta.tk]; rw [if_pos a1, hq, Int.toNat_natCast]; exact H.sw1⟩)

theorem c_l3Apply {h : Heap} {v w : Value} {s : Sy} {st : Sta} {t : Stp} (hs : s.Ok) (ht : st.Ok s) (hin : t.In s) (R : Rep h v s) (Rt : Rep h w st) : CallE Try.prog fn_spec_l3Apply [v, w, t.v] h (fun u h' => HS h [ow u (st.aft s t)] h') := by
  have FT := Rt.aSta
  obtain ⟨v1, v2, rfl, R1, R2'⟩ := Rep_Sy.1 R
  obtain ⟨⟨i, m, hi, hm, e1, e2⟩, hpt⟩ := hin
  have hp3 := hs.p3
  have hll := ht.len
  have hvl := ht.vs.len
  have hed : s.ed t.proc.toNat t.edge.toNat = s.procs[i].edges[m] := by rw [e1, e2, Int.toNat_natCast, Int.toNat_natCast, Sy.ed_eq hi hm]
  refine CallE.gen fun k hk => EN_spec_l3Apply rfl ?_
  obtain ⟨t1, t2, rfl, T1, T2⟩ := Rep_Sta.1 Rt
  simp -implicitDefEqProofs (disch := first | omega | (simp only [List.length_set, List.length_replicate, List.length_append, List.length_map, List.length_take, List.length_cons, List.length_nil]; omega)) [wrap64]
  refine HS.appPL (α := Int) (l2 := st.locs) HS.init rfl rfl T1 rfl rfl (by omega) fun o1 h1 H => ?_
  simp -implicitDefEqProofs (disch := first | omega | (simp only [List.length_set, List.length_replicate, List.length_append, List.length_map, List.length_take, List.length_cons, List.length_nil]; omega)) [wrap64]
  refine HS.appPL (α := Int) (l2 := st.vals) H rfl rfl (T2.on H) rfl rfl (by omega) fun o2 h1 H => ?_
  replace H := H.sw1
  have hK1 := H.rep.cells
  have hK2 := H.sw1.rep.cells
  obtain ⟨we, w1, w2, hu, R3, hu2, ok, G1, G2⟩ := R2'.edge hi hm
  have hP := hld_parts (hload_le H.base hu)
  have hu3 := hload_le H.base hu2
  have hC1 := H.rep.one
  have hC2 := H.sw1.rep.one
  have heo := (hs.at hi).at hm
  have Re : Rep h (.agg (s.procs[i].edges[m].cs w1 w2).toArray) s.procs[i].edges[m] := Rep_Ed.2 ⟨w1, w2, rfl, ok, G1, G2⟩
  simp -implicitDefEqProofs (disch := first | omega | (simp only [List.length_set, List.length_replicate, List.length_append, List.length_map, List.length_take, List.length_cons, List.length_nil]; omega)) [wrap64, setC, hC1, hC2, hK1, hK2, Stp.v, e1, e2, R2'.X (n := 2) rfl, hP.1, hP.2.2.1, R3.X (n := 10) rfl, hu3]
  refine (c_l3Take (s := s) hi ht heo Re H).go ?_
  rintro _ h2 ⟨rfl, H⟩
  have ht2 := Sta.tk_ok ht hi heo
  have hC1 := H.rep.one
  have hC2 := H.sw1.rep.one
  rcases hpt with hpt | ⟨j, n, hj, hn, e3, e4⟩
  · simp -implicitDefEqProofs (disch := first | omega | (simp only [List.length_set, List.length_replicate, List.length_append, List.length_map, List.length_take, List.length_cons, List.length_nil]; omega)) [wrap64, Stp.v, hpt, setC, hC1, hC2]
    refine RetK.keep (hk _ _ ?_)
    rw [Sta.aft, if_neg (by omega), hed, e1, Int.toNat_natCast]
    exact H.mkSta
  · have hed2 : s.ed t.partner.toNat t.pedge.toNat = s.procs[j].edges[n] := by rw [e3, e4, Int.toNat_natCast, Int.toNat_natCast, Sy.ed_eq hj hn]
    have heo2 := (hs.at hj).at hn
    obtain ⟨wf, x1, x2, hu, R3, hu2, ok, X1, X2⟩ := R2'.edge hj hn
    have hP := hld_parts (hload_le H.base hu)
    have hu3 := hload_le H.base hu2
    have Rf : Rep h (.agg (s.procs[j].edges[n].cs x1 x2).toArray) s.procs[j].edges[n] := Rep_Ed.2 ⟨x1, x2, rfl, ok, X1, X2⟩
    simp -implicitDefEqProofs (disch := first | omega | (simp only [List.length_set, List.length_replicate, List.length_append, List.length_map, List.length_take, List.length_cons, List.length_nil]; omega)) [wrap64, setC, hC1, hC2, Stp.v, e3, e4, R2'.X (n := 2) rfl, hP.1, hP.2.2.1, R3.X (n := 10) rfl, hu3]
    refine (c_l3Take (s := s) hj ht2 heo2 Rf H).go ?_
    rintro _ h3 ⟨rfl, H⟩
    simp -implicitDefEqProofs (disch := first | omega | (simp only [List.length_set, List.length_replicate, List.length_append, List.length_map, List.length_take, List.length_cons, List.length_nil]; omega)) [wrap64, setC, hC1, hC2]
    refine RetK.keep (hk _ _ ?_)
    rw [Sta.aft, if_pos (by omega), hed, hed2, e1, e3, Int.toNat_natCast, Int.toNat_natCast]
    exact H.mkSta

end Go.Proofs.Ytonjglbachhdcaa

/-
  What the helpers of the laws do: copying, counting, comparing, marking. Printed by a program.
-/
namespace Go.Proofs.Ytonjglbachhdcaa
open Go
set_option linter.all false
set_option linter.unusedVariables false
set_option linter.unusedSimpArgs false
set_option linter.defProp false
set_option maxRecDepth 1000000

end Go.Proofs.Ytonjglbachhdcaa

/-
  The state after a step: the functions of the packages.
-/
namespace Go.Proofs.Ytonjglbachhdcaa
open Go
set_option linter.all false
set_option linter.unusedVariables false
set_option linter.unusedSimpArgs false
set_option linter.defProp false
set_option maxRecDepth 1000000

theorem Stp.rep {h : Heap} {t : Stp} (ok : t.ok) : Rep h t.v t := Rep_Stp.2 ⟨rfl, ok⟩
noncomputable def aplR (s : Sy) (st : Sta) (t : Stp) : Sta := if t ∈ ens s st then st.aft s t else Sta.zero
end Go.Proofs.Ytonjglbachhdcaa

/-
  Graphs of systems in plain Lean: how they are built.
-/
namespace Go.Proofs.Ytonjglbachhdcaa
open Go
set_option linter.all false
set_option linter.unusedVariables false
set_option linter.unusedSimpArgs false
set_option linter.defProp false
set_option maxRecDepth 1000000

/-- where a state lies -/
def fx (xs : List Sta) (st : Sta) : Int := match xs.findIdx? (fun y => decide (y = st)) with | some i => (i : Int) | none => -1
theorem fx_mem {xs : List Sta} {st : Sta} (h : st ∈ xs) : ∃ (i : Nat) (hi : i < xs.length), fx xs st = i ∧ xs[i] = st := by
  obtain ⟨i, hi⟩ : ∃ i, xs.findIdx? (fun y => decide (y = st)) = some i := by
    rcases hf : xs.findIdx? (fun y => decide (y = st)) with _ | i
    · rw [List.findIdx?_eq_none_iff] at hf
      have := hf st h
      simp at this
    · exact ⟨i, rfl⟩
  have h2 := hi
  rw [List.findIdx?_eq_some_iff_getElem] at h2
  obtain ⟨h3, h4, _⟩ := h2
  exact ⟨i, h3, by rw [fx, hi], by simpa using h4⟩
def adS (xs : List Sta) (st : Sta) : List Sta := if st ∈ xs then xs else xs ++ [st]
def atS (xs : List Sta) (st : Sta) : Int := if st ∈ xs then fx xs st else xs.length
def adI (l : List Int) (n : Int) : List Int := if n ∈ l then l else l ++ [n]
def g1 (p : List Sta × List Int) (st : Sta) : List Sta × List Int := (adS p.1 st, adI p.2 (atS p.1 st))
theorem mem_adI {l : List Int} {n x : Int} : x ∈ adI l n ↔ x ∈ l ∨ x = n := by
  unfold adI
  split
  · constructor
    · exact .inl
    · rintro (h | rfl) <;> assumption
  · simp
theorem adI_len {l : List Int} {n : Int} : (adI l n).length ≤ l.length + 1 := by
  unfold adI; split <;> simp
theorem adI_ne {l : List Int} {n : Int} : adI l n ≠ [] := by
  unfold adI
  split
  · rename_i h; rintro rfl; simp at h
  · simp
theorem adS_len {xs : List Sta} {st : Sta} : (adS xs st).length ≤ xs.length + 1 := by
  unfold adS; split <;> simp
theorem adS_ge {xs : List Sta} {st : Sta} : xs.length ≤ (adS xs st).length := by
  unfold adS; split <;> simp
theorem atS_rng {xs : List Sta} {st : Sta} : 0 ≤ atS xs st ∧ atS xs st < (adS xs st).length := by
  unfold atS adS
  split
  · rename_i h
    obtain ⟨i, hi, e, _⟩ := fx_mem h
    omega
  · simp; omega

/-- one state's steps -/
def gF (s : Sy) (x : Sta) (n : Nat) (xs : List Sta) : List Sta × List Int := ((enb s x).take n).foldl (fun p t => g1 p (x.aft s t)) (xs, [])
structure GI (s : Sy) (xs : List Sta) (n : Nat) (p : List Sta × List Int) : Prop where
  pre : ∃ t, p.1 = xs ++ t
  ok : ∀ st ∈ p.1, st.Ok s
  rng : ∀ x ∈ p.2, 0 ≤ x ∧ x < p.1.length
  new : ∀ j : Nat, xs.length ≤ j → j < p.1.length → (j : Int) ∈ p.2
  l1 : p.1.length ≤ xs.length + n
  l2 : p.2.length ≤ n
  ne : 1 ≤ n → p.2 ≠ []
theorem GI.ge {s : Sy} {xs : List Sta} {n : Nat} {p : List Sta × List Int} (h : GI s xs n p) : xs.length ≤ p.1.length := by
  obtain ⟨t, e⟩ := h.pre
  rw [e]; simp
theorem GI.step {s : Sy} {xs : List Sta} {n : Nat} {p : List Sta × List Int} {st : Sta} (h : GI s xs n p) (hst : st.Ok s) : GI s xs (n + 1) (g1 p st) := by
  have hr := atS_rng (xs := p.1) (st := st)
  have hl := adS_len (xs := p.1) (st := st)
  have hg := adS_ge (xs := p.1) (st := st)
  have hl2 := adI_len (l := p.2) (n := atS p.1 st)
  refine ⟨?_, ?_, ?_, ?_, ?_, ?_, fun _ => adI_ne⟩
  · obtain ⟨t, e⟩ := h.pre
    unfold g1 adS
    simp only
    split
    · exact ⟨t, e⟩
    · exact ⟨t ++ [st], by rw [e, List.append_assoc]⟩
  · intro y hy
    simp only [g1, adS] at hy
    split at hy
    · exact h.ok y hy
    · simp only [List.mem_append, List.mem_singleton] at hy
      rcases hy with hy | rfl
      · exact h.ok y hy
      · exact hst
  · intro x hx
    simp only [g1, mem_adI] at hx
    rcases hx with hx | rfl
    · have := h.rng x hx
      simp only [g1]; omega
    · exact hr
  · intro j h1 h2
    simp only [g1] at h2 ⊢
    rw [mem_adI]
    by_cases hj : j < p.1.length
    · exact .inl (h.new j h1 hj)
    · right
      unfold adS at h2
      unfold atS
      split at h2
      · omega
      · rename_i q
        rw [if_neg q]
        simp at h2; omega
  · have := h.l1; simp only [g1]; omega
  · have := h.l2; simp only [g1]; omega
/-- the graph after some states are done -/
def nxS (i : Nat) (l : List Int) : List Int := if l = [] then [(i : Int)] else l
def rnd (s : Sy) (i : Nat) (g : Gr) : Gr :=
  if h : i < g.states.length then ⟨(gF s g.states[i] (enb s g.states[i]).length g.states).1, g.next ++ [nxS i (gF s g.states[i] (enb s g.states[i]).length g.states).2]⟩ else g
def ini (s : Sy) : Sta := ⟨List.replicate s.procs.length 0, s.init⟩
def gN (s : Sy) : Nat → Gr
  | 0 => ⟨[ini s], []⟩
  | n + 1 => rnd s n (gN s n)
theorem ini_ok {s : Sy} (hs : s.Ok) : (ini s).Ok s :=
  ⟨by simp [ini], hs.vs, fun i h1 h2 => by
    have := (hs.at h2).n1
    simp only [ini, List.getElem_replicate]; omega⟩
structure GInv (s : Sy) (n : Nat) (g : Gr) : Prop where
  ok : ∀ st ∈ g.states, st.Ok s
  pos : 1 ≤ g.states.length
  nl : g.next.length = min n g.states.length
  ent : ∀ l ∈ g.next, l ≠ [] ∧ ∀ x ∈ l, 0 ≤ x ∧ x < g.states.length
  ll : ∀ l ∈ g.next, l.length ≤ 325
  rch : ∀ j : Nat, 1 ≤ j → j < g.states.length → ∃ (i : Nat) (hi : i < g.next.length), i < j ∧ (j : Int) ∈ g.next[i]
def Gr.zero : Gr := ⟨[], []⟩
/-- small graphs -/
def bgOk (s : Sy) : Prop := s.Ok ∧ (gN s 60).states.length ≤ 60
noncomputable instance {s : Sy} : Decidable (bgOk s) := Classical.propDecidable _
noncomputable def bgR (s : Sy) : Gr := if bgOk s then gN s 60 else Gr.zero
structure Gr.Fin (s : Sy) (g : Gr) : Prop where
  ok : ∀ st ∈ g.states, st.Ok s
  pos : 1 ≤ g.states.length
  n60 : g.states.length ≤ 60
  nl : g.next.length = g.states.length
  ent : ∀ l ∈ g.next, l ≠ [] ∧ ∀ x ∈ l, 0 ≤ x ∧ x < g.states.length
  ll : ∀ l ∈ g.next, l.length ≤ 325
  rch : ∀ j : Nat, 1 ≤ j → j < g.states.length → ∃ (i : Nat) (hi : i < g.next.length), i < j ∧ (j : Int) ∈ g.next[i]
end Go.Proofs.Ytonjglbachhdcaa

/-
  The initial state, by the reference.
-/
namespace Go.Proofs.Ytonjglbachhdcaa
open Go
set_option linter.all false
set_option linter.unusedVariables false
set_option linter.unusedSimpArgs false
set_option linter.defProp false
set_option maxRecDepth 1000000

theorem c_spec_InitialState {h : Heap} {v : Value} {s : Sy} (R : Rep h v s) : CallE Try.prog fn_spec_InitialState [v] h (R2 (decide s.Ok) (if s.Ok then ini s else Sta.zero) h) := by
  have FS := R.aSy
  have R0 := R
  obtain ⟨v1, v2, rfl, R1, R2'⟩ := Rep_Sy.1 R
  refine CallE.gen fun k hk => EN_spec_InitialState rfl ?_
  simp -implicitDefEqProofs (disch := first | omega | (simp only [List.length_set, List.length_replicate, List.length_append, List.length_map, List.length_take, List.length_cons, List.length_nil]; omega)) [wrap64, FS]
  refine (c_spec_SystemValid R0).go ?_
  rintro _ h ⟨rfl, rfl⟩
  by_cases hs : s.Ok
  case neg =>
    simp -implicitDefEqProofs (disch := first | omega | (simp only [List.length_set, List.length_replicate, List.length_append, List.length_map, List.length_take, List.length_cons, List.length_nil]; omega)) [wrap64, hs, setC]
    exact RetK.keep (hk _ _ ⟨_, by rw [decide_eq_false hs], by rw [if_neg hs]; exact zero_St (Γ := []) (Heap.le.refl _)⟩)
  have hp3 := hs.p3
  have hvl := hs.vs.len
  simp -implicitDefEqProofs (disch := first | omega | (simp only [List.length_set, List.length_replicate, List.length_append, List.length_map, List.length_take, List.length_cons, List.length_nil]; omega)) [wrap64, hs, R2'.len]
  refine ⟨?_, ?_⟩
  · simp -implicitDefEqProofs (disch := first | omega | (simp only [List.length_set, List.length_replicate, List.length_append, List.length_map, List.length_take, List.length_cons, List.length_nil]; omega)) [wrap64]
    refine HS.init.mks (α := Int) (z := (0 : Int)) rfl rfl (own_zero (by decide) (by decide)) (Nat.le_refl _) (by omega) (by omega) fun o h1 H => ?_
    simp -implicitDefEqProofs (disch := first | omega | (simp only [List.length_set, List.length_replicate, List.length_append, List.length_map, List.length_take, List.length_cons, List.length_nil]; omega)) [wrap64]
    refine HS.appPL (α := Int) (l2 := s.init) H rfl rfl (R1.on H) rfl rfl (by omega) fun o2 h1 H => ?_
    simp -implicitDefEqProofs (disch := first | omega | (simp only [List.length_set, List.length_replicate, List.length_append, List.length_map, List.length_take, List.length_cons, List.length_nil]; omega)) [wrap64, setC, H.rep.cells, H.rep.one, H.sw1.rep.cells, H.sw1.rep.one]
    exact RetK.keep (hk _ _ ⟨_, by rw [decide_eq_true hs], by rw [if_pos hs]; exact HS.mkSta (a := ini s) H.sw1⟩)
  · simp -implicitDefEqProofs (disch := first | omega | (simp only [List.length_set, List.length_replicate, List.length_append, List.length_map, List.length_take, List.length_cons, List.length_nil]; omega)) [wrap64]
    refine HS.appPL (α := Int) (l2 := s.init) HS.init rfl rfl R1 rfl rfl (by omega) fun o2 h1 H => ?_
    simp -implicitDefEqProofs (disch := first | omega | (simp only [List.length_set, List.length_replicate, List.length_append, List.length_map, List.length_take, List.length_cons, List.length_nil]; omega)) [wrap64]
    refine H.mks (α := Int) (z := (0 : Int)) rfl rfl (own_zero (by decide) (by decide)) (Nat.le_refl _) (by omega) (by omega) fun o h1 H => ?_
    simp -implicitDefEqProofs (disch := first | omega | (simp only [List.length_set, List.length_replicate, List.length_append, List.length_map, List.length_take, List.length_cons, List.length_nil]; omega)) [wrap64, setC, H.rep.cells, H.rep.one, H.sw1.rep.cells, H.sw1.rep.one]
    exact RetK.keep (hk _ _ ⟨_, by rw [decide_eq_true hs], by rw [if_pos hs]; exact HS.mkSta (a := ini s) H⟩)
end Go.Proofs.Ytonjglbachhdcaa

/-
  Arguments of laws: states that are drawn.
-/
namespace Go.Proofs.Ytonjglbachhdcaa
open Go
set_option linter.all false
set_option linter.unusedVariables false
set_option linter.unusedSimpArgs false
set_option linter.defProp false
set_option maxRecDepth 1000000

structure Sta.Sm (st : Sta) : Prop where
  ll : st.locs.length ≤ 4
  vl : st.vals.length ≤ 4

theorem c_l3State {g h : Heap} {Γ : List HP} {b : Nat} {sl v : Value} {l : List (BitVec 8)} {p : Int} {s : Sy} (R : Rep g sl l) (Rs : Rep g v s) (H : HS g (rb b sl p :: Γ) h) (hp : 0 ≤ p) (hp2 : p + 200 ≤ 1000000000000) :
    CallE Try.prog fn_spec_l3State [.pointer (some ⟨b, 0, none⟩), v] h (fun u h' => ∃ (y : Sta) (p' : Int), HS g (ow u y :: rb b sl p' :: Γ) h' ∧ y.Sm ∧ p ≤ p' ∧ p' ≤ p + 50) := by
  have FS := Rs.aSy
  have Rs0 := Rs
  obtain ⟨v1, v2, rfl, R1, R2'⟩ := Rep_Sy.1 Rs
  refine CallE.gen fun k hk => EN_spec_l3State rfl ?_
  simp -implicitDefEqProofs (disch := first | omega | (simp only [List.length_set, List.length_replicate, List.length_append, List.length_map, List.length_take, List.length_cons, List.length_nil]; omega)) [wrap64, FS]
  refine (c_spec_InitialState (Rs0.on H)).go ?_
  rintro _ h1 ⟨u, rfl, G⟩
  obtain ⟨o1, o2, rfl, G'⟩ := G.unSta
  have H := G'.app H
  have hO1 := H.rep.one
  have hC1 := H.rep.cells
  have hO2 := H.sw1.rep.one
  have hC2 := H.sw1.rep.cells
  by_cases hs : s.Ok
  case neg =>
    simp -implicitDefEqProofs (disch := first | omega | (simp only [List.length_set, List.length_replicate, List.length_append, List.length_map, List.length_take, List.length_cons, List.length_nil]; omega)) [wrap64, hs, setC, hO1, hC1, hO2, hC2]
    refine H.bls [(0 : Int)] rfl rfl (okL (by decide)) (by decide) fun q1 hq H => ?_
    simp -implicitDefEqProofs (disch := first | omega | (simp only [List.length_set, List.length_replicate, List.length_append, List.length_map, List.length_take, List.length_cons, List.length_nil]; omega)) [wrap64]
    refine H.bls [(0 : Int), 0, 0] rfl rfl (okL (by decide)) (by decide) fun q2 hq H => ?_
    simp -implicitDefEqProofs (disch := first | omega | (simp only [List.length_set, List.length_replicate, List.length_append, List.length_map, List.length_take, List.length_cons, List.length_nil]; omega)) [wrap64, setC, H.rep.one, H.rep.cells, H.sw1.rep.one, H.sw1.rep.cells]
    exact RetK.keep (hk _ _ ⟨⟨[0], [0, 0, 0]⟩, p, HS.mkSta (a := ⟨[0], [0, 0, 0]⟩) (H.sw1.under fun _ H => H.under fun _ H => H.drop.drop), ⟨by simp, by simp⟩, by omega, by omega⟩)
  rw [if_pos hs] at H
  have hp3 := hs.p3
  have hst := ini_ok hs
  have hil := hst.len
  have hvl := hst.vs.len
  generalize ini s = st at *
  simp -implicitDefEqProofs (disch := first | omega | (simp only [List.length_set, List.length_replicate, List.length_append, List.length_map, List.length_take, List.length_cons, List.length_nil]; omega)) [wrap64, hs, setC, hO1, hC1, hO2, hC2]
  refine (c_pick (n := 4) R H.sw2 (by omega) (by omega) ⟨by decide, by decide⟩).go ?_
  rintro _ h3 ⟨r1, rfl, q1, z1, y1, H⟩
  by_cases c0 : r1 = 0
  · simp -implicitDefEqProofs (disch := first | omega | (simp only [List.length_set, List.length_replicate, List.length_append, List.length_map, List.length_take, List.length_cons, List.length_nil]; omega)) [wrap64, c0]
    refine wp_count s.procs.length (fun i e h' => ∃ (y : List Int) (p' : Int), e = [some (.pointer (some ⟨b, 0, none⟩)), none, some (.agg #[v1, v2]), some (.agg #[.slice none 0 0, .slice none 0 0]), some (.agg #[o1, o2]), none, some (.int .i64 i), none, none] ∧ HS g (ow o1 y :: rb b sl p' :: ow o2 st.vals :: Γ) h' ∧ y.length = s.procs.length ∧ p' = p + 1 + i) ⟨st.locs, _, by simp, H.sw1, hil, by simp⟩ ?_
    clear H
    rintro J i _ h4 hJ hi ⟨y, p1, rfl, H, hyl, hp3'⟩
    simp -implicitDefEqProofs (disch := first | omega | (simp only [List.length_set, List.length_replicate, List.length_append, List.length_map, List.length_take, List.length_cons, List.length_nil]; omega)) [wrap64, H.rep.len]
    refine IteW.mk (fun hlt => ?_) (fun hge => ?_)
    · have hi : i < s.procs.length := by omega
      obtain ⟨u, hu, Ru⟩ := R2'.ld hi
      have hu := hload_le H.base hu
      change hload _ (some (elp 2 v2 i)) (some 2) = some u at hu
      obtain ⟨we, rfl, kl, R3⟩ := Rep_Pr.1 Ru
      have hP := hld_parts (cs := [.int .i64 s.procs[i].locs, we]) hu
      have hX := R2'.X (n := 2) rfl
      simp -implicitDefEqProofs (disch := first | omega | (simp only [List.length_set, List.length_replicate, List.length_append, List.length_map, List.length_take, List.length_cons, List.length_nil]; omega)) [wrap64, hX, hP.1, hP.2.2.1]
      refine (c_pick R H.sw1 (by omega) (by omega) kl).go ?_
      rintro _ h5 ⟨r2, rfl, q2, z2, y2, H⟩
      simp -implicitDefEqProofs (disch := first | omega | (simp only [List.length_set, List.length_replicate, List.length_append, List.length_map, List.length_take, List.length_cons, List.length_nil]; omega)) [wrap64, H.sw1.rep.I]
      refine H.sw1.storeF r2 (i := i) (by omega) rfl rfl q2 rfl fun h6 H => ?_
      simp -implicitDefEqProofs (disch := first | omega | (simp only [List.length_set, List.length_replicate, List.length_append, List.length_map, List.length_take, List.length_cons, List.length_nil]; omega)) [wrap64]
      exact hJ _ _ hi ⟨_, _, by simp, H, by simp [hyl], by push_cast; omega⟩
    simp -implicitDefEqProofs (disch := first | omega | (simp only [List.length_set, List.length_replicate, List.length_append, List.length_map, List.length_take, List.length_cons, List.length_nil]; omega)) [wrap64]
    refine (c_pick (n := 4) R H.sw1 (by omega) (by omega) ⟨by decide, by decide⟩).go ?_
    rintro _ h5 ⟨a1, rfl, k1, _, _, H⟩
    simp -implicitDefEqProofs (disch := first | omega | (simp only [List.length_set, List.length_replicate, List.length_append, List.length_map, List.length_take, List.length_cons, List.length_nil]; omega)) [wrap64]
    refine (c_pick (n := 4) R H (by omega) (by omega) ⟨by decide, by decide⟩).go ?_
    rintro _ h5 ⟨a2, rfl, k2, _, _, H⟩
    simp -implicitDefEqProofs (disch := first | omega | (simp only [List.length_set, List.length_replicate, List.length_append, List.length_map, List.length_take, List.length_cons, List.length_nil]; omega)) [wrap64]
    refine (c_pick (n := 4) R H (by omega) (by omega) ⟨by decide, by decide⟩).go ?_
    rintro _ h5 ⟨a3, rfl, k3, _, _, H⟩
    simp -implicitDefEqProofs (disch := first | omega | (simp only [List.length_set, List.length_replicate, List.length_append, List.length_map, List.length_take, List.length_cons, List.length_nil]; omega)) [wrap64]
    refine H.bls [a1, a2, a3] rfl rfl (by intro x hx; simp at hx; rcases hx with rfl | rfl | rfl <;> first | exact k1 | exact k2 | exact k3) (by decide) fun q2 hq H => ?_
    have hO3 := H.rep.one
    have hC3 := H.rep.cells
    simp -implicitDefEqProofs (disch := first | omega | (simp only [List.length_set, List.length_replicate, List.length_append, List.length_map, List.length_take, List.length_cons, List.length_nil]; omega)) [wrap64, setC, hO1, hC1, hO3, hC3]
    exact RetK.keep (hk _ _ ⟨⟨y, [a1, a2, a3]⟩, _, HS.mkSta (a := ⟨y, [a1, a2, a3]⟩) ((H.sw2.under fun _ H => H.under fun _ H => H.under fun _ H => H.drop)), ⟨by dsimp only; omega, by simp⟩, by omega, by omega⟩)
  · simp -implicitDefEqProofs (disch := first | omega | (simp only [List.length_set, List.length_replicate, List.length_append, List.length_map, List.length_take, List.length_cons, List.length_nil]; omega)) [wrap64, c0]
    refine H.bls [(2 : Int), 4, 1, 0, 6] rfl rfl (okL (by decide)) (by decide) fun q hq H => ?_
    simp -implicitDefEqProofs (disch := first | omega | (simp only [List.length_set, List.length_replicate, List.length_append, List.length_map, List.length_take, List.length_cons, List.length_nil]; omega)) [wrap64]
    refine (c_num R H (by omega) (by omega) (by simp)).go ?_
    rintro _ h4 ⟨r2, rfl, q2, hr2, H⟩
    obtain ⟨n, rfl, hn⟩ : ∃ n : Nat, r2 = n ∧ n ≤ 6 := by
      simp at hr2
      rcases hr2 with rfl | rfl | rfl | rfl | rfl <;> first | exact ⟨2, rfl, by decide⟩ | exact ⟨4, rfl, by decide⟩ | exact ⟨1, rfl, by decide⟩ | exact ⟨0, rfl, by decide⟩ | exact ⟨6, rfl, by decide⟩
    simp -implicitDefEqProofs (disch := first | omega | (simp only [List.length_set, List.length_replicate, List.length_append, List.length_map, List.length_take, List.length_cons, List.length_nil]; omega)) [wrap64]
    refine wp_while (σ := Nat) (fun i e h' => ∃ (y : Sta) (w1 w2 : Value) (p' : Int), e = [some (.pointer (some ⟨b, 0, none⟩)), none, some (.agg #[v1, v2]), some (.agg #[.slice none 0 0, .slice none 0 0]), some (.agg #[w1, w2]), none, none, some (.int .i64 i), none] ∧ HS g (ow w1 y.locs :: ow w2 y.vals :: rb b sl p' :: Γ) h' ∧ y.Ok s ∧ i ≤ 6 ∧ p ≤ p' ∧ p' + i ≤ p + 2 + 6) (fun i => i) n ⟨st, o1, o2, _, by simp, H.bk2, hst, hn, by omega, by omega⟩ ?_
    clear H hst hil hvl
    rintro J i _ h4 hJ ⟨y, w1, w2, p1, rfl, H, hst, hi, hp4, hp5⟩
    have hil := hst.len
    have hvl := hst.vs.len
    have hO1 := H.rep.one
    have hC1 := H.rep.cells
    have hO2 := H.sw1.rep.one
    have hC2 := H.sw1.rep.cells
    have hfin : ∀ {h'}, HS g (ow w1 y.locs :: ow w2 y.vals :: rb b sl p1 :: Γ) h' → k (.agg #[w1, w2]) h' := fun H => hk _ _ ⟨y, p1, HS.mkSta H, ⟨by omega, by omega⟩, by omega, by omega⟩
    by_cases c1 : 0 < i
    · have c1' : (0 : Int) < i := by omega
      have RY : Rep h4 (.agg #[w1, w2]) y := Rep_Sta.2 ⟨w1, w2, rfl, H.rep, H.sw1.rep⟩
      simp -implicitDefEqProofs (disch := first | omega | (simp only [List.length_set, List.length_replicate, List.length_append, List.length_map, List.length_take, List.length_cons, List.length_nil]; omega)) [wrap64, c1, c1', FS, hO1, hO2]
      refine (c_l3Steps hs hst (Rs0.on H) RY).go ?_
      intro el h5 G
      have H := G.app H
      obtain ⟨ln, hln⟩ : ∃ ln : Int, ln = (enb s y).length := ⟨_, rfl⟩
      have hlen := H.rep.len
      have hel := enb_len' (st := y) hs
      rw [← hln] at hlen
      by_cases c2 : ln = 0
      · simp -implicitDefEqProofs (disch := first | omega | (simp only [List.length_set, List.length_replicate, List.length_append, List.length_map, List.length_take, List.length_cons, List.length_nil]; omega)) [wrap64, hlen, c2, setC, hO1, hC1, hO2, hC2]
        exact RetK.keep (hfin H.drop)
      · simp -implicitDefEqProofs (disch := first | omega | (simp only [List.length_set, List.length_replicate, List.length_append, List.length_map, List.length_take, List.length_cons, List.length_nil]; omega)) [wrap64, hlen, c2, FS, hO1, hO2]
        refine (c_pick R H.sw3 (by omega) (by omega) ⟨by omega, by omega⟩).go ?_
        rintro _ h6 ⟨r5, rfl, q5, z5, y5, H⟩
        obtain ⟨m, rfl⟩ : ∃ m : Nat, r5 = m := ⟨r5.toNat, (Int.toNat_of_nonneg z5).symm⟩
        have hm : m < (enb s y).length := by have := y5 (by omega); omega
        have hin := enb_in (List.getElem_mem hm)
        have RY : Rep h6 (.agg #[w1, w2]) y := Rep_Sta.2 ⟨w1, w2, rfl, H.sw2.rep, H.sw3.rep⟩
        simp -implicitDefEqProofs (disch := first | omega | (simp only [List.length_set, List.length_replicate, List.length_append, List.length_map, List.length_take, List.length_cons, List.length_nil]; omega)) [wrap64, H.sw1.rep.xStp]
        refine (c_l3Apply hs hst hin (Rs0.on H) RY).go ?_
        intro o h7 G
        obtain ⟨x1, x2, rfl, G'⟩ := G.unSta
        have H := G'.app H
        simp -implicitDefEqProofs (disch := first | omega | (simp only [List.length_set, List.length_replicate, List.length_append, List.length_map, List.length_take, List.length_cons, List.length_nil]; omega)) [wrap64, setC, H.rep.one, H.rep.cells, H.sw1.rep.one, H.sw1.rep.cells]
        exact hJ (i - 1) _ _ (by omega) ⟨_, x1, x2, _, by simp; omega, H.under fun _ H => H.under fun _ H => H.under fun _ H => H.drop.drop.drop, Sta.aft_ok hs hst hin, by omega, by omega, by omega⟩
    · have c1' : ¬ ((0 : Int) < i) := by omega
      simp -implicitDefEqProofs (disch := first | omega | (simp only [List.length_set, List.length_replicate, List.length_append, List.length_map, List.length_take, List.length_cons, List.length_nil]; omega)) [wrap64, c1, c1', setC, hO1, hC1, hO2, hC2]
      exact RetK.keep (hfin H)
end Go.Proofs.Ytonjglbachhdcaa

/-
  Arguments of laws: changed states, states with systems.
-/
namespace Go.Proofs.Ytonjglbachhdcaa
open Go
set_option linter.all false
set_option linter.unusedVariables false
set_option linter.unusedSimpArgs false
set_option linter.defProp false
set_option maxRecDepth 1000000

theorem c_l3Mutate {g h : Heap} {Γ : List HP} {b : Nat} {sl v : Value} {l : List (BitVec 8)} {p : Int} {st : Sta} (R : Rep g sl l) (Rt : Rep g v st) (hs : st.Sm) (H : HS g (rb b sl p :: Γ) h) (hp : 0 ≤ p) (hp2 : p + 200 ≤ 1000000000000) :
    CallE Try.prog fn_spec_l3Mutate [.pointer (some ⟨b, 0, none⟩), v] h (fun u h' => ∃ (y : Sta) (p' : Int), HS g (ow u y :: rb b sl p' :: Γ) h' ∧ p ≤ p' ∧ p' ≤ p + 10) := by
  have FS := Rt.aSta
  obtain ⟨t1, t2, rfl, T1, T2⟩ := Rep_Sta.1 Rt
  have hll := hs.ll
  have hvl := hs.vl
  refine CallE.gen fun k hk => EN_spec_l3Mutate rfl ?_
  simp -implicitDefEqProofs (disch := first | omega | (simp only [List.length_set, List.length_replicate, List.length_append, List.length_map, List.length_take, List.length_cons, List.length_nil]; omega)) [wrap64]
  refine HS.appPL (α := Int) (l2 := st.locs) H rfl rfl (T1.on H) rfl rfl (by omega) fun o1 h1 H => ?_
  simp -implicitDefEqProofs (disch := first | omega | (simp only [List.length_set, List.length_replicate, List.length_append, List.length_map, List.length_take, List.length_cons, List.length_nil]; omega)) [wrap64]
  refine HS.appPL (α := Int) (l2 := st.vals) H rfl rfl (T2.on H) rfl rfl (by omega) fun o2 h2 H => ?_
  have hO1 := H.sw1.rep.one
  have hC1 := H.sw1.rep.cells
  have hO2 := H.rep.one
  have hC2 := H.rep.cells
  simp -implicitDefEqProofs (disch := first | omega | (simp only [List.length_set, List.length_replicate, List.length_append, List.length_map, List.length_take, List.length_cons, List.length_nil]; omega)) [wrap64, setC, hO1, hC1, hO2, hC2]
  refine (c_pick (n := 40) R H.sw2 (by omega) (by omega) ⟨by decide, by decide⟩).go ?_
  rintro _ h3 ⟨r1, rfl, q1, z1, y1, H⟩
  obtain ⟨a, ha⟩ : ∃ a, a = st.locs := ⟨_, rfl⟩
  obtain ⟨c, hc⟩ : ∃ c, c = st.vals := ⟨_, rfl⟩
  rw [← ha] at H hll
  rw [← hc] at H hvl
  have hfin : ∀ {h' p' w1 w2 a' c'}, HS g (rb b sl p' :: ow w2 c' :: ow w1 a' :: Γ) h' → p ≤ p' → p' ≤ p + 10 → k (.agg #[w1, w2]) h' := fun {h' p' w1 w2 a' c'} H e1 e2 => hk _ _ ⟨⟨a', c'⟩, p', HS.mkSta (a := ⟨a', c'⟩) (H.sw2.under fun _ H => H.sw1), e1, e2⟩
  by_cases c0 : r1 = 0
  · simp -implicitDefEqProofs (disch := first | omega | (simp only [List.length_set, List.length_replicate, List.length_append, List.length_map, List.length_take, List.length_cons, List.length_nil]; omega)) [wrap64, c0, setC]
    refine HS.app1 (bytes := 8) H.sw2 (0 : Int) rfl rfl rfl ⟨by decide, by decide⟩ rfl rfl (by omega) (by omega) fun o' h5 H => ?_
    simp -implicitDefEqProofs (disch := first | omega | (simp only [List.length_set, List.length_replicate, List.length_append, List.length_map, List.length_take, List.length_cons, List.length_nil]; omega)) [wrap64, setC, H.rep.one, H.rep.cells, hO2, hC2]
    exact RetK.keep (hfin (H.sw1.under fun _ H => H.sw1) (by omega) (by omega))
  by_cases c1 : r1 = 1
  · by_cases d1 : 0 < a.length
    · simp -implicitDefEqProofs (disch := first | omega | (simp only [List.length_set, List.length_replicate, List.length_append, List.length_map, List.length_take, List.length_cons, List.length_nil]; omega)) [wrap64, c0, c1, H.sw2.rep.len, d1]
      refine H.bls [(-1 : Int), 4, 3, 9223372036854775807, 10] rfl rfl (okL (by decide)) (by decide) fun q hq H => ?_
      simp -implicitDefEqProofs (disch := first | omega | (simp only [List.length_set, List.length_replicate, List.length_append, List.length_map, List.length_take, List.length_cons, List.length_nil]; omega)) [wrap64]
      refine (c_num R H (by omega) (by omega) (by simp)).go ?_
      rintro _ h4 ⟨r2, rfl, q2, _, H⟩
      have hia : iaV 1 o1 (.int .i64 0) = some (elp 1 o1 0) := (H.sw2.rep.X (n := 1) rfl).1 .i64 0 (by omega)
      simp -implicitDefEqProofs (disch := first | omega | (simp only [List.length_set, List.length_replicate, List.length_append, List.length_map, List.length_take, List.length_cons, List.length_nil]; omega)) [wrap64, hia]
      refine H.sw2.storeF r2 (i := 0) (by omega) rfl rfl q2 rfl fun h6 H => ?_
      simp -implicitDefEqProofs (disch := first | omega | (simp only [List.length_set, List.length_replicate, List.length_append, List.length_map, List.length_take, List.length_cons, List.length_nil]; omega)) [wrap64, setC, hO1, hC1, hO2, hC2]
      exact RetK.keep (hfin (H.sw1.under fun _ H => H.sw1) (by omega) (by omega))
    · simp -implicitDefEqProofs (disch := first | omega | (simp only [List.length_set, List.length_replicate, List.length_append, List.length_map, List.length_take, List.length_cons, List.length_nil]; omega)) [wrap64, c0, c1, H.sw2.rep.len, d1, setC, hO1, hC1, hO2, hC2]
      exact RetK.keep (hfin H (by omega) (by omega))
  by_cases c2 : r1 = 2
  · by_cases d1 : 0 < c.length
    · simp -implicitDefEqProofs (disch := first | omega | (simp only [List.length_set, List.length_replicate, List.length_append, List.length_map, List.length_take, List.length_cons, List.length_nil]; omega)) [wrap64, c0, c1, c2, H.sw1.rep.len, d1]
      refine ⟨?_, ?_⟩
      · simp -implicitDefEqProofs (disch := first | omega | (simp only [List.length_set, List.length_replicate, List.length_append, List.length_map, List.length_take, List.length_cons, List.length_nil]; omega)) [wrap64]
        refine (c_pick (n := c.length) R H (by omega) (by omega) ⟨by omega, by omega⟩).go ?_
        rintro _ h4 ⟨r2, rfl, q2, z2, y2, H⟩
        obtain ⟨i, rfl⟩ : ∃ i : Nat, r2 = i := ⟨r2.toNat, (Int.toNat_of_nonneg z2).symm⟩
        have hi : i < c.length := by have := y2 (by omega); omega
        simp -implicitDefEqProofs (disch := first | omega | (simp only [List.length_set, List.length_replicate, List.length_append, List.length_map, List.length_take, List.length_cons, List.length_nil]; omega)) [wrap64]
        refine H.bls [(-1 : Int), 4, 3, 12] rfl rfl (okL (by decide)) (by decide) fun q hq H => ?_
        simp -implicitDefEqProofs (disch := first | omega | (simp only [List.length_set, List.length_replicate, List.length_append, List.length_map, List.length_take, List.length_cons, List.length_nil]; omega)) [wrap64]
        refine (c_num R H (by omega) (by omega) (by simp)).go ?_
        rintro _ h4 ⟨r3, rfl, q3, _, H⟩
        simp -implicitDefEqProofs (disch := first | omega | (simp only [List.length_set, List.length_replicate, List.length_append, List.length_map, List.length_take, List.length_cons, List.length_nil]; omega)) [wrap64, H.sw1.rep.I]
        refine H.sw1.storeF r3 (i := i) hi rfl rfl q3 rfl fun h6 H => ?_
        simp -implicitDefEqProofs (disch := first | omega | (simp only [List.length_set, List.length_replicate, List.length_append, List.length_map, List.length_take, List.length_cons, List.length_nil]; omega)) [wrap64, setC, hO1, hC1, hO2, hC2]
        exact RetK.keep (hfin H.sw1 (by omega) (by omega))
      · simp -implicitDefEqProofs (disch := first | omega | (simp only [List.length_set, List.length_replicate, List.length_append, List.length_map, List.length_take, List.length_cons, List.length_nil]; omega)) [wrap64]
        refine H.bls [(-1 : Int), 4, 3, 12] rfl rfl (okL (by decide)) (by decide) fun q hq H => ?_
        simp -implicitDefEqProofs (disch := first | omega | (simp only [List.length_set, List.length_replicate, List.length_append, List.length_map, List.length_take, List.length_cons, List.length_nil]; omega)) [wrap64]
        refine (c_pick (n := c.length) R H.sw1 (by omega) (by omega) ⟨by omega, by omega⟩).go ?_
        rintro _ h4 ⟨r2, rfl, q2, z2, y2, H⟩
        obtain ⟨i, rfl⟩ : ∃ i : Nat, r2 = i := ⟨r2.toNat, (Int.toNat_of_nonneg z2).symm⟩
        have hi : i < c.length := by have := y2 (by omega); omega
        simp -implicitDefEqProofs (disch := first | omega | (simp only [List.length_set, List.length_replicate, List.length_append, List.length_map, List.length_take, List.length_cons, List.length_nil]; omega)) [wrap64]
        refine (c_num R H.sw1 (by omega) (by omega) (by simp)).go ?_
        rintro _ h4 ⟨r3, rfl, q3, _, H⟩
        simp -implicitDefEqProofs (disch := first | omega | (simp only [List.length_set, List.length_replicate, List.length_append, List.length_map, List.length_take, List.length_cons, List.length_nil]; omega)) [wrap64, H.sw1.rep.I]
        refine H.sw1.storeF r3 (i := i) hi rfl rfl q3 rfl fun h6 H => ?_
        simp -implicitDefEqProofs (disch := first | omega | (simp only [List.length_set, List.length_replicate, List.length_append, List.length_map, List.length_take, List.length_cons, List.length_nil]; omega)) [wrap64, setC, hO1, hC1, hO2, hC2]
        exact RetK.keep (hfin H.sw1 (by omega) (by omega))
    · simp -implicitDefEqProofs (disch := first | omega | (simp only [List.length_set, List.length_replicate, List.length_append, List.length_map, List.length_take, List.length_cons, List.length_nil]; omega)) [wrap64, c0, c1, c2, H.sw1.rep.len, d1, setC, hO1, hC1, hO2, hC2]
      exact RetK.keep (hfin H (by omega) (by omega))
  by_cases c3 : r1 = 3
  · simp -implicitDefEqProofs (disch := first | omega | (simp only [List.length_set, List.length_replicate, List.length_append, List.length_map, List.length_take, List.length_cons, List.length_nil]; omega)) [wrap64, c0, c1, c2, c3, setC]
    exact RetK.keep (hk _ _ ⟨⟨[], []⟩, p + 1, HS.mkSta (a := ⟨[], []⟩) ((H.under fun _ H => H.drop.drop).nil_ow.nil_ow), by omega, by omega⟩)
  · simp -implicitDefEqProofs (disch := first | omega | (simp only [List.length_set, List.length_replicate, List.length_append, List.length_map, List.length_take, List.length_cons, List.length_nil]; omega)) [wrap64, c0, c1, c2, c3, setC, hO1, hC1, hO2, hC2]
    exact RetK.keep (hfin H (by omega) (by omega))

def RD3 (h : Heap) : Value → Heap → Prop := fun u h' => ∃ (u1 u2 : Value) (s : Sy) (st : Sta), u = .tuple #[u1, u2] ∧ HS h [ow u1 s, ow u2 st] h'
end Go.Proofs.Ytonjglbachhdcaa

/-
  Arguments of laws: systems with labels and states.
-/
namespace Go.Proofs.Ytonjglbachhdcaa
open Go
set_option linter.all false
set_option linter.unusedVariables false
set_option linter.unusedSimpArgs false
set_option linter.defProp false
set_option maxRecDepth 1000000

def RDp (h : Heap) : Value → Heap → Prop := fun u h' => ∃ (u1 u2 u3 : Value) (s : Sy) (L : List Exq) (st : Sta), u = .tuple #[u1, u2, u3] ∧ HS h [ow u1 s, ow u2 L, ow u3 st] h' ∧ L.length ≤ 3
theorem c_DrawProjectState {h : Heap} {v : Value} {l : List (BitVec 8)} (R : Rep h v l) : CallE Try.prog fn_spec_DrawProjectState [v] h (RDp h) := by
  refine CallE.gen fun k hk => EN_spec_DrawProjectState rfl ?_
  simp -implicitDefEqProofs (disch := first | omega | (simp only [List.length_set, List.length_replicate, List.length_append, List.length_map, List.length_take, List.length_cons, List.length_nil]; omega)) [wrap64]
  refine (c_l16Open R).go ?_
  rintro _ h1 ⟨b, sl, l', rfl, R', H⟩
  simp -implicitDefEqProofs (disch := first | omega | (simp only [List.length_set, List.length_replicate, List.length_append, List.length_map, List.length_take, List.length_cons, List.length_nil]; omega)) [wrap64]
  refine (c_l14Labels R' H (by omega) (by omega)).go ?_
  rintro w h2 ⟨L, p1, H, hL, hp1, hp2⟩
  simp -implicitDefEqProofs (disch := first | omega | (simp only [List.length_set, List.length_replicate, List.length_append, List.length_map, List.length_take, List.length_cons, List.length_nil]; omega)) [wrap64]
  refine (c_l14System R' H.sw1 (by omega) (by omega)).go ?_
  rintro u h3 ⟨s, p2, H, hs, hp3, hp4⟩
  have FS := H.rep.aSy
  simp -implicitDefEqProofs (disch := first | omega | (simp only [List.length_set, List.length_replicate, List.length_append, List.length_map, List.length_take, List.length_cons, List.length_nil]; omega)) [wrap64, FS, setC]
  obtain ⟨g1, H1, H2⟩ := HS.rebase (Δ := [rb b sl p2]) H.sw1
  refine (c_l3State (R'.on H1) H1.rep H2 (by omega) (by omega)).go ?_
  rintro x h4 ⟨st, p3, H3, hst, hp5, hp6⟩
  have H := H3.app H1
  have FT := H.rep.aSta
  simp -implicitDefEqProofs (disch := first | omega | (simp only [List.length_set, List.length_replicate, List.length_append, List.length_map, List.length_take, List.length_cons, List.length_nil]; omega)) [wrap64, FT, FS]
  obtain ⟨g2, H1, H2⟩ := HS.rebase (Δ := [rb b sl p3]) H.sw1
  refine (c_l3Mutate (R'.on H1) H1.rep hst H2 (by omega) (by omega)).go ?_
  rintro x2 h5 ⟨st2, p4, H3, hp7, hp8⟩
  have H := H3.app H1
  have FT2 := H.rep.aSta
  simp -implicitDefEqProofs (disch := first | omega | (simp only [List.length_set, List.length_replicate, List.length_append, List.length_map, List.length_take, List.length_cons, List.length_nil]; omega)) [wrap64, FT2, FS, setC]
  obtain ⟨g3, H1, H2⟩ := HS.rebase (Δ := [rb b sl p4]) H.sw1
  refine (c_l2Mutate (R'.on H1) H1.sw2.rep hs (by omega) (by omega) H2 (by omega) (by omega)).go ?_
  rintro y h6 ⟨s2, p5, H3, hy, hp9, hp10⟩
  have H := H3.app H1
  have FY := H.rep.aSy
  simp -implicitDefEqProofs (disch := first | omega | (simp only [List.length_set, List.length_replicate, List.length_append, List.length_map, List.length_take, List.length_cons, List.length_nil]; omega)) [wrap64, FY, FT2, setC]
  exact RetK.keep (hk _ _ ⟨y, w, x2, s2, L, st2, rfl, ((H.under fun _ H => H.drop).sw4.sw1).under fun _ H => H.under fun _ H => H.only, hL⟩)
end Go.Proofs.Ytonjglbachhdcaa

/-
  Searching graphs in plain Lean: shortest paths from the first node.
-/
namespace Go.Proofs.Ytonjglbachhdcaa
open Go
set_option linter.all false
set_option linter.unusedVariables false
set_option linter.unusedSimpArgs false
set_option linter.defProp false
set_option maxRecDepth 1000000

def bs1 (at' : Int) (p : List Int × List Int) (to : Int) : List Int × List Int := if p.1.getD to.toNat 0 = -2 then (p.1.set to.toNat at', p.2 ++ [to]) else p
def bsF (l : List Int) (at' : Int) (p : List Int × List Int) (n : Nat) : List Int × List Int := (l.take n).foldl (bs1 at') p
def bsR (next : List (List Int)) (i : Nat) (p : List Int × List Int) : List Int × List Int :=
  if i < p.2.length then bsF (next.getD (p.2.getD i 0).toNat []) (p.2.getD i 0) p (next.getD (p.2.getD i 0).toNat []).length else p
def bsN (next : List (List Int)) : Nat → List Int × List Int
  | 0 => ((List.replicate next.length (-2)).set 0 (-1), [0])
  | n + 1 => bsR next n (bsN next n)
/-- what holds of a search -/
structure BI (N : Nat) (p : List Int × List Int) : Prop where
  fl : p.1.length = N
  q0 : ∃ t, p.2 = 0 :: t
  z0 : ∃ t, p.1 = -1 :: t
  inq : ∀ x ∈ p.2, 0 ≤ x ∧ x < N ∧ p.1.getD x.toNat 0 ≠ -2
  vis : ∀ j : Nat, j < N → p.1.getD j 0 ≠ -2 → (j : Int) ∈ p.2
  val : ∀ j : Nat, 1 ≤ j → j < N → p.1.getD j 0 = -2 ∨ 0 ≤ p.1.getD j 0
  par : ∀ q : Nat, 1 ≤ q → q < p.2.length → ∃ r : Nat, r < q ∧ p.1.getD (p.2.getD q 0).toNat 0 = p.2.getD r 0
  cnt : p.2.length + p.1.count (-2) = N
/-- one search goes on from another -/
structure BL (p p' : List Int × List Int) : Prop where
  keep : ∀ j : Nat, p.1.getD j 0 ≠ -2 → p'.1.getD j 0 = p.1.getD j 0
  pre : ∃ t, p'.2 = p.2 ++ t
theorem BL.refl {p : List Int × List Int} : BL p p := ⟨fun _ _ => rfl, ⟨[], by simp⟩⟩
theorem BL.trans {p q r : List Int × List Int} (h : BL p q) (h' : BL q r) : BL p r := by
  refine ⟨fun j hj => ?_, ?_⟩
  · have e := h.keep j hj
    rw [h'.keep j (by rw [e]; exact hj), e]
  · obtain ⟨t, e⟩ := h.pre
    obtain ⟨t', e'⟩ := h'.pre
    exact ⟨t ++ t', by rw [e', e, List.append_assoc]⟩
theorem BL.len {p q : List Int × List Int} (h : BL p q) : p.2.length ≤ q.2.length := by
  obtain ⟨t, e⟩ := h.pre
  rw [e]; simp
theorem BL.at {p q : List Int × List Int} (h : BL p q) {i : Nat} (hi : i < p.2.length) : q.2.getD i 0 = p.2.getD i 0 := by
  obtain ⟨t, e⟩ := h.pre
  rw [e, List.getD_eq_getElem?_getD, List.getD_eq_getElem?_getD, List.getElem?_append_left hi]
theorem count_set {l : List Int} : ∀ {k : Nat} (hk : k < l.length) {a b : Int}, l[k] = a → a ≠ b → (l.set k b).count a + 1 = l.count a := by
  induction l with
  | nil => intro k hk; exact absurd hk (Nat.not_lt_zero k)
  | cons x l ih =>
    intro k hk a b h1 h2
    cases k with
    | zero =>
      simp only [List.getElem_cons_zero] at h1
      subst h1
      simp only [List.set_cons_zero, List.count_cons_self]
      rw [List.count_cons_of_ne (Ne.symm h2)]
    | succ k =>
      simp only [List.getElem_cons_succ] at h1
      have := ih (k := k) (by simpa using hk) h1 h2
      simp only [List.set_cons_succ, List.count_cons]
      omega
theorem getD_setI {l : List Int} {k j : Nat} {a : Int} (hk : k < l.length) : (l.set k a).getD j 0 = if k = j then a else l.getD j 0 := by
  rw [List.getD_eq_getElem?_getD, List.getElem?_set]
  split
  · rename_i e; subst e; simp [hk]
  · rw [List.getD_eq_getElem?_getD]
theorem BI.le {N : Nat} {p : List Int × List Int} (h : BI N p) : p.2.length ≤ N := by have := h.cnt; omega
theorem BI.pos {N : Nat} {p : List Int × List Int} (h : BI N p) : 1 ≤ p.2.length := by
  obtain ⟨t, e⟩ := h.q0
  rw [e]; simp
theorem BI.at {N : Nat} {p : List Int × List Int} (h : BI N p) {i : Nat} (hi : i < p.2.length) : 0 ≤ p.2.getD i 0 ∧ p.2.getD i 0 < N ∧ p.1.getD (p.2.getD i 0).toNat 0 ≠ -2 := by
  have e : p.2.getD i 0 = p.2[i] := by simp [hi]
  rw [e]
  exact h.inq _ (List.getElem_mem hi)
theorem BI.step {N : Nat} {p : List Int × List Int} (h : BI N p) {i : Nat} (hi : i < p.2.length) {to : Int} (h0 : 0 ≤ to) (h1 : to < N) : BI N (bs1 (p.2.getD i 0) p to) ∧ BL p (bs1 (p.2.getD i 0) p to) ∧ (bs1 (p.2.getD i 0) p to).1.getD to.toNat 0 ≠ -2 := by
  obtain ⟨a, ha⟩ : ∃ a, a = p.2.getD i 0 := ⟨_, rfl⟩
  have hat := h.at hi
  rw [← ha] at hat ⊢
  unfold bs1
  split
  case isFalse e => exact ⟨h, BL.refl, e⟩
  rename_i e
  obtain ⟨k, rfl⟩ : ∃ k : Nat, to = k := ⟨to.toNat, (Int.toNat_of_nonneg h0).symm⟩
  simp only [Int.toNat_natCast] at e ⊢
  have hkN : k < p.1.length := by rw [h.fl]; omega
  obtain ⟨t0, e0⟩ := h.z0
  obtain ⟨tq, eq⟩ := h.q0
  have hk0 : k ≠ 0 := by
    rintro rfl
    rw [e0] at e
    simp at e
  have hkq : (k : Int) ∉ p.2 := fun hm => by
    have := (h.inq _ hm).2.2
    rw [Int.toNat_natCast] at this
    exact this e
  have hge : p.1[k] = -2 := by rw [← e]; simp [hkN]
  refine ⟨⟨by simp [h.fl], ⟨tq ++ [(k : Int)], by rw [eq]; simp⟩, ?_, ?_, ?_, ?_, ?_, ?_⟩, ⟨fun j hj => ?_, ⟨_, rfl⟩⟩, ?_⟩
  · obtain ⟨k', rfl⟩ : ∃ k', k = k' + 1 := ⟨k - 1, by omega⟩
    exact ⟨t0.set k' a, by simp [e0]⟩
  · intro x hx
    simp only [List.mem_append, List.mem_singleton] at hx
    simp only [getD_setI hkN]
    rcases hx with hx | rfl
    · have := h.inq x hx
      refine ⟨this.1, this.2.1, ?_⟩
      split
      · omega
      · exact this.2.2
    · refine ⟨by omega, by omega, ?_⟩
      simp; omega
  · intro j hj h2
    simp only [getD_setI hkN] at h2
    simp only [List.mem_append, List.mem_singleton]
    split at h2
    · rename_i e2; right; omega
    · exact .inl (h.vis j hj h2)
  · intro j h2 h3
    simp only [getD_setI hkN]
    split
    · right; omega
    · exact h.val j h2 h3
  · intro q h2 h3
    simp only [List.length_append, List.length_singleton] at h3
    by_cases hq : q < p.2.length
    · obtain ⟨r, hr, e2⟩ := h.par q h2 hq
      have e3 : (p.2 ++ [(k : Int)]).getD q 0 = p.2.getD q 0 := by rw [List.getD_eq_getElem?_getD, List.getElem?_append_left hq, List.getD_eq_getElem?_getD]
      have e4 : (p.2 ++ [(k : Int)]).getD r 0 = p.2.getD r 0 := by rw [List.getD_eq_getElem?_getD, List.getElem?_append_left (by omega), List.getD_eq_getElem?_getD]
      refine ⟨r, hr, ?_⟩
      simp only [e3, e4, getD_setI hkN]
      have := h.at hq
      rw [if_neg (fun e5 => hkq (by
        have e6 : p.2.getD q 0 = p.2[q] := by simp [hq]
        have e7 : (k : Int) = p.2[q] := by rw [← e6]; omega
        rw [e7]; exact List.getElem_mem hq)), e2]
    · have hq2 : q = p.2.length := by omega
      subst hq2
      refine ⟨i, hi, ?_⟩
      have e3 : (p.2 ++ [(k : Int)]).getD p.2.length 0 = k := by simp
      have e4 : (p.2 ++ [(k : Int)]).getD i 0 = a := by rw [List.getD_eq_getElem?_getD, List.getElem?_append_left hi, ← List.getD_eq_getElem?_getD, ha]
      simp only [e3, e4, getD_setI hkN, Int.toNat_natCast, if_pos]
  · have h2 := h.cnt
    have h3 := count_set hkN hge (b := a) (by omega)
    simp only [List.length_append, List.length_singleton]
    omega
  · simp only [getD_setI hkN]
    rw [if_neg]
    rintro rfl
    exact hj e
  · simp only [getD_setI hkN, if_pos]
    omega
/-- a graph's edges -/
structure NOk (next : List (List Int)) : Prop where
  pos : 1 ≤ next.length
  n60 : next.length ≤ 60
  ent : ∀ l ∈ next, ∀ x ∈ l, 0 ≤ x ∧ x < next.length
  ll : ∀ l ∈ next, l.length ≤ 325
theorem NOk.get {next : List (List Int)} (h : NOk next) {k : Nat} (hk : k < next.length) : next.getD k [] = next[k] ∧ next[k] ∈ next := ⟨by simp [hk], List.getElem_mem hk⟩
/-- the way back to the first node -/
inductive Chn (f : List Int) : Int → List Int → Prop where
  | z : Chn f (-1) []
  | s {a : Int} {l : List Int} : 0 ≤ a → a < f.length → Chn f (f.getD a.toNat 0) l → Chn f a (l ++ [a])
theorem Chn.neg {f : List Int} {l : List Int} (h : Chn f (-1) l) : l = [] := by
  generalize hx : (-1 : Int) = x at h
  cases h with
  | z => rfl
  | s h0 _ _ => omega
theorem Chn.un {f : List Int} {a : Int} {l : List Int} (h : Chn f a l) (h0 : 0 ≤ a) : ∃ l', l = l' ++ [a] ∧ a < f.length ∧ Chn f (f.getD a.toNat 0) l' := by
  cases h with
  | z => omega
  | s h1 h2 h3 => exact ⟨_, rfl, h2, h3⟩
theorem Chn.ge {f : List Int} {a : Int} {l : List Int} (h : Chn f a l) : -1 ≤ a := by
  cases h with
  | z => decide
  | s h1 _ _ => omega
theorem Chn.bl {p p' : List Int × List Int} (hb : BL p p') (hl : p.1.length = p'.1.length) {a : Int} {l : List Int} (h : Chn p.1 a l) : Chn p'.1 a l := by
  induction h with
  | z => exact .z
  | s h1 h2 h3 ih =>
    refine .s h1 (by omega) ?_
    have := h3.ge
    rw [hb.keep _ (by omega)]
    exact ih
theorem Chn.all {f : List Int} {a : Int} {l : List Int} (h : Chn f a l) : ∀ x ∈ l, 0 ≤ x ∧ x < f.length := by
  induction h with
  | z => simp
  | s h1 h2 h3 ih =>
    intro x hx
    simp only [List.mem_append, List.mem_singleton] at hx
    rcases hx with hx | rfl
    · exact ih x hx
    · exact ⟨h1, h2⟩
noncomputable def pth (next : List (List Int)) (a : Int) : List Int := open Classical in if h : ∃ l, Chn (bsN next next.length).1 a l then h.choose else []
end Go.Proofs.Ytonjglbachhdcaa

/-
  Paths of graphs are executions: in plain Lean.
-/
namespace Go.Proofs.Ytonjglbachhdcaa
open Go
set_option linter.all false
set_option linter.unusedVariables false
set_option linter.unusedSimpArgs false
set_option linter.defProp false
set_option maxRecDepth 1000000

/-- every edge of a graph is a step, or a state without steps stays -/
def Edg (s : Sy) (g : Gr) : Prop := ∀ (i : Nat) (hi : i < g.next.length), ∀ y ∈ g.next[i], (∃ t ∈ enb s (g.states.getD i Sta.zero), g.states.getD y.toNat Sta.zero = (g.states.getD i Sta.zero).aft s t) ∨ y = i
/-- where a node was found from -/
def BE (next : List (List Int)) (f : List Int) : Prop := ∀ j : Nat, 0 ≤ f.getD j 0 → j < next.length → (j : Int) ∈ next.getD (f.getD j 0).toNat [] ∧ f.getD j 0 ≠ j
theorem BE.step {next : List (List Int)} {p : List Int × List Int} (h : BE next p.1) (hb : BI next.length p) {i : Nat} (hi : i < p.2.length) {to : Int} (h0 : 0 ≤ to) (h1 : to < next.length) (hm : to ∈ next.getD (p.2.getD i 0).toNat []) : BE next (bs1 (p.2.getD i 0) p to).1 := by
  have hat := hb.at hi
  generalize p.2.getD i 0 = a at *
  unfold bs1
  split
  case isFalse => exact h
  rename_i e
  obtain ⟨k, rfl⟩ : ∃ k : Nat, to = k := ⟨to.toNat, (Int.toNat_of_nonneg h0).symm⟩
  simp only [Int.toNat_natCast] at e ⊢
  have hkN : k < p.1.length := by rw [hb.fl]; omega
  intro j hj hjn
  simp only [getD_setI hkN] at hj ⊢
  split at hj
  · rename_i e2
    subst e2
    rw [if_pos rfl]
    refine ⟨hm, fun e3 => ?_⟩
    rw [e3, Int.toNat_natCast] at hat
    exact hat.2.2 e
  · rename_i e2
    rw [if_neg e2]
    exact h j hj hjn
end Go.Proofs.Ytonjglbachhdcaa

/-
  Equal states, and where a state lies in a list: by the program and by the reference.
-/
namespace Go.Proofs.Ytonjglbachhdcaa
open Go
set_option linter.all false
set_option linter.unusedVariables false
set_option linter.unusedSimpArgs false
set_option linter.defProp false
set_option maxRecDepth 1000000

theorem c_Equal_int {h : Heap} {a b : Value} {x y : List Int} (Ra : Rep h a x) (Rb : Rep h b y) : CallE Try.prog fn_slices_Equal_S_int_int [a, b] h (fun u h' => h' = h ∧ u = .bool (decide (x = y))) := by
  have hL := Ra.lt
  refine CallE.gen fun k hk => EN_slices_Equal_S_int_int rfl ?_
  by_cases hl : (x.length : Int) = y.length
  case neg =>
    simp -implicitDefEqProofs (disch := first | omega | (simp only [List.length_set, List.length_replicate, List.length_append, List.length_map, List.length_take, List.length_cons, List.length_nil]; omega)) [wrap64, Ra.len, Rb.len, hl]
    exact RetK.keep (hk _ _ ⟨rfl, by congr 1; rw [eq_comm, decide_eq_false_iff_not]; intro e; subst e; exact hl rfl⟩)
  simp -implicitDefEqProofs (disch := first | omega | (simp only [List.length_set, List.length_replicate, List.length_append, List.length_map, List.length_take, List.length_cons, List.length_nil]; omega)) [wrap64, Ra.len, Rb.len, hl]
  refine wp_count x.length (fun i e h' => e = [some a, some b, none, none, some (.int .i64 x.length), some (.int .i64 i)] ∧ h' = h ∧ x.take i = y.take i) ⟨by simp [hl], rfl, rfl⟩ ?_
  rintro J i _ h1 hJ hi ⟨rfl, rfl, hq⟩
  simp -implicitDefEqProofs (disch := first | omega | (simp only [List.length_set, List.length_replicate, List.length_append, List.length_map, List.length_take, List.length_cons, List.length_nil]; omega)) [wrap64]
  refine IteW.mk (fun hlt => ?_) (fun hge => ?_)
  · have hlx : i < x.length := by omega
    have hly : i < y.length := by omega
    by_cases he : x[i] = y[i]
    · simp -implicitDefEqProofs (disch := first | omega | (simp only [List.length_set, List.length_replicate, List.length_append, List.length_map, List.length_take, List.length_cons, List.length_nil]; omega)) [wrap64, Ra.I, Rb.I, he]
      exact hJ _ _ hlx ⟨rfl, rfl, take_step hq hlx hly he⟩
    · simp -implicitDefEqProofs (disch := first | omega | (simp only [List.length_set, List.length_replicate, List.length_append, List.length_map, List.length_take, List.length_cons, List.length_nil]; omega)) [wrap64, Ra.I, Rb.I, he]
      exact RetK.keep (hk _ _ ⟨rfl, by congr 1; rw [eq_comm, decide_eq_false_iff_not]; intro e; subst e; exact he rfl⟩)
  · simp -implicitDefEqProofs (disch := first | omega | (simp only [List.length_set, List.length_replicate, List.length_append, List.length_map, List.length_take, List.length_cons, List.length_nil]; omega)) [wrap64]
    rw [List.take_of_length_le (by omega), List.take_of_length_le (by omega)] at hq
    exact RetK.keep (hk _ _ ⟨rfl, by simp [hq]⟩)
theorem c_StateSame {h : Heap} {v w : Value} {a b : Sta} (Ra : Rep h v a) (Rb : Rep h w b) : CallE Try.prog fn_impl_StateSame [v, w] h (fun u h' => h' = h ∧ u = .bool (decide (a = b))) := by
  obtain ⟨v1, v2, rfl, R1, R2⟩ := Rep_Sta.1 Ra
  obtain ⟨w1, w2, rfl, S1, S2⟩ := Rep_Sta.1 Rb
  refine CallE.gen fun k hk => EN_impl_StateSame rfl ?_
  simp -implicitDefEqProofs (disch := first | omega | (simp only [List.length_set, List.length_replicate, List.length_append, List.length_map, List.length_take, List.length_cons, List.length_nil]; omega)) [wrap64]
  refine (c_Equal_int R1 S1).go ?_
  rintro _ h ⟨rfl, rfl⟩
  by_cases h1 : a.locs = b.locs
  case neg =>
    simp -implicitDefEqProofs (disch := first | omega | (simp only [List.length_set, List.length_replicate, List.length_append, List.length_map, List.length_take, List.length_cons, List.length_nil]; omega)) [wrap64, h1]
    exact RetK.keep (hk _ _ ⟨rfl, by simp [Sta.ext_iff', h1]⟩)
  simp -implicitDefEqProofs (disch := first | omega | (simp only [List.length_set, List.length_replicate, List.length_append, List.length_map, List.length_take, List.length_cons, List.length_nil]; omega)) [wrap64, h1]
  refine (c_Equal_int R2 S2).go ?_
  rintro _ h ⟨rfl, rfl⟩
  simp -implicitDefEqProofs (disch := first | omega | (simp only [List.length_set, List.length_replicate, List.length_append, List.length_map, List.length_take, List.length_cons, List.length_nil]; omega)) [wrap64]
  exact RetK.keep (hk _ _ ⟨rfl, by simp [Sta.ext_iff', h1]⟩)
end Go.Proofs.Ytonjglbachhdcaa

/-
  Instances of functions over slices: copies, and whether some element meets a condition. Printed by a program.
-/
namespace Go.Proofs.Ytonjglbachhdcaa
open Go
set_option linter.all false
set_option linter.unusedVariables false
set_option linter.unusedSimpArgs false
set_option linter.defProp false
set_option maxRecDepth 1000000

end Go.Proofs.Ytonjglbachhdcaa

/-
  The graph of a system: by the program.
-/
namespace Go.Proofs.Ytonjglbachhdcaa
open Go
set_option linter.all false
set_option linter.unusedVariables false
set_option linter.unusedSimpArgs false
set_option linter.defProp false
set_option maxRecDepth 1000000

end Go.Proofs.Ytonjglbachhdcaa

/-
  The graph of a system: by the reference; both as functions of the package.
-/
namespace Go.Proofs.Ytonjglbachhdcaa
open Go
set_option linter.all false
set_option linter.unusedVariables false
set_option linter.unusedSimpArgs false
set_option linter.defProp false
set_option maxRecDepth 1000000

end Go.Proofs.Ytonjglbachhdcaa

/-
  Shortest paths: by the program.
-/
namespace Go.Proofs.Ytonjglbachhdcaa
open Go
set_option linter.all false
set_option linter.unusedVariables false
set_option linter.unusedSimpArgs false
set_option linter.defProp false
set_option maxRecDepth 1000000

def Rch (next : List (List Int)) : Prop := ∀ j : Nat, 1 ≤ j → j < next.length → ∃ (i : Nat) (hi : i < next.length), i < j ∧ (j : Int) ∈ next[i]
end Go.Proofs.Ytonjglbachhdcaa

/-
  Shortest paths: by the reference; states along paths, by the program and by the reference.
-/
namespace Go.Proofs.Ytonjglbachhdcaa
open Go
set_option linter.all false
set_option linter.unusedVariables false
set_option linter.unusedSimpArgs false
set_option linter.defProp false
set_option maxRecDepth 1000000

def prn (f : List Int) : List Int := f.map fun x => if x = -2 then -1 else x
def sen (f : List Int) : List Bool := f.map fun x => decide (x ≠ -2)
@[simp] theorem prn_len {f : List Int} : (prn f).length = f.length := by simp [prn]
@[simp] theorem sen_len {f : List Int} : (sen f).length = f.length := by simp [sen]
end Go.Proofs.Ytonjglbachhdcaa

/-
  Checking reachable states: by the program and by the reference.
-/
namespace Go.Proofs.Ytonjglbachhdcaa
open Go
set_option linter.all false
set_option linter.unusedVariables false
set_option linter.unusedSimpArgs false
set_option linter.defProp false
set_option maxRecDepth 1000000

def sof (g : Gr) (l : List Int) : List Sta := l.map fun x => g.states.getD x.toNat Sta.zero
end Go.Proofs.Ytonjglbachhdcaa

/-
  Paths of graphs are executions.
-/
namespace Go.Proofs.Ytonjglbachhdcaa
open Go
set_option linter.all false
set_option linter.unusedVariables false
set_option linter.unusedSimpArgs false
set_option linter.defProp false
set_option maxRecDepth 1000000

structure Exec (s : Sy) (P : List Sta) : Prop where
  ne : 0 < P.length
  st0 : P.getD 0 Sta.zero = ini s
  step : ∀ i : Nat, i + 1 < P.length → ∃ t ∈ enb s (P.getD i Sta.zero), P.getD (i + 1) Sta.zero = (P.getD i Sta.zero).aft s t
end Go.Proofs.Ytonjglbachhdcaa

/-
  Whether states are an execution: by the laws' helper. (not built yet: the places of the loops are guesses)
-/
namespace Go.Proofs.Ytonjglbachhdcaa
open Go
set_option linter.all false
set_option linter.unusedVariables false
set_option linter.unusedSimpArgs false
set_option linter.defProp false
set_option maxRecDepth 1000000

end Go.Proofs.Ytonjglbachhdcaa

/-
  Helpers of the laws about graphs: where a state lies, lists, executions.
-/
namespace Go.Proofs.Ytonjglbachhdcaa
open Go
set_option linter.all false
set_option linter.unusedVariables false
set_option linter.unusedSimpArgs false
set_option linter.defProp false
set_option maxRecDepth 1000000

theorem c_wpInts {h : Heap} {v w : Value} {a b : List Int} (Ra : Rep h v a) (Rb : Rep h w b) : CallE Try.prog fn_laws_wpInts [v, w] h (fun u h' => h' = h ∧ u = .bool (decide (a = b))) := by
  have hL := Ra.lt
  refine CallE.gen fun k hk => EN_laws_wpInts rfl ?_
  by_cases hl : (a.length : Int) = b.length
  case neg =>
    simp -implicitDefEqProofs (disch := first | omega | (simp only [List.length_set, List.length_replicate, List.length_append, List.length_map, List.length_take, List.length_cons, List.length_nil]; omega)) [wrap64, Ra.len, Rb.len, hl]
    exact RetK.keep (hk _ _ ⟨rfl, by congr 1; rw [eq_comm, decide_eq_false_iff_not]; intro e; subst e; exact hl rfl⟩)
  simp -implicitDefEqProofs (disch := first | omega | (simp only [List.length_set, List.length_replicate, List.length_append, List.length_map, List.length_take, List.length_cons, List.length_nil]; omega)) [wrap64, Ra.len, Rb.len, hl]
  refine wp_count a.length (fun i e h' => e = [some v, some w, none, some (.int .i64 i)] ∧ h' = h ∧ a.take i = b.take i) ⟨by simp, rfl, rfl⟩ ?_
  rintro J i _ h hJ hi ⟨rfl, rfl, hq⟩
  simp -implicitDefEqProofs (disch := first | omega | (simp only [List.length_set, List.length_replicate, List.length_append, List.length_map, List.length_take, List.length_cons, List.length_nil]; omega)) [wrap64, Ra.len]
  refine IteW.mk (fun hlt => ?_) (fun hge => ?_)
  · have hlx : i < a.length := by omega
    have hly : i < b.length := by omega
    by_cases he : a[i] = b[i]
    · simp -implicitDefEqProofs (disch := first | omega | (simp only [List.length_set, List.length_replicate, List.length_append, List.length_map, List.length_take, List.length_cons, List.length_nil]; omega)) [wrap64, Ra.I, Rb.I, he]
      exact hJ _ _ hlx ⟨rfl, rfl, take_step hq hlx hly he⟩
    · simp -implicitDefEqProofs (disch := first | omega | (simp only [List.length_set, List.length_replicate, List.length_append, List.length_map, List.length_take, List.length_cons, List.length_nil]; omega)) [wrap64, Ra.I, Rb.I, he]
      exact RetK.keep (hk _ _ ⟨rfl, by congr 1; rw [eq_comm, decide_eq_false_iff_not]; intro e; subst e; exact he rfl⟩)
  · simp -implicitDefEqProofs (disch := first | omega | (simp only [List.length_set, List.length_replicate, List.length_append, List.length_map, List.length_take, List.length_cons, List.length_nil]; omega)) [wrap64]
    rw [List.take_of_length_le (by omega), List.take_of_length_le (by omega)] at hq
    exact RetK.keep (hk _ _ ⟨rfl, by simp [hq]⟩)
end Go.Proofs.Ytonjglbachhdcaa

/-
  Relevance is closed: in plain Lean.
-/
namespace Go.Proofs.Ytonjglbachhdcaa
open Go
set_option linter.all false
set_option linter.unusedVariables false
set_option linter.unusedSimpArgs false
set_option linter.defProp false
set_option maxRecDepth 1000000

def LeB (M M' : List Bool) : Prop := M.length = M'.length ∧ ∀ i : Nat, M.getD i false = true → M'.getD i false = true
theorem LeB.refl {M : List Bool} : LeB M M := ⟨rfl, fun _ h => h⟩
theorem LeB.trans {a b c : List Bool} (h : LeB a b) (h' : LeB b c) : LeB a c := ⟨h.1.trans h'.1, fun i hi => h'.2 i (h.2 i hi)⟩
theorem LeB.set {M : List Bool} {k : Nat} : LeB M (M.set k true) := by
  refine ⟨by simp, fun i hi => ?_⟩
  rw [List.getD_eq_getElem?_getD, List.getElem?_set]
  split
  · rename_i e
    subst e
    by_cases hk : k < M.length
    · simp [hk]
    · rw [List.getD_eq_getElem?_getD, List.getElem?_eq_none (by omega)] at hi; simp at hi
  · rw [← List.getD_eq_getElem?_getD]; exact hi
theorem LeB.setm {M M' : List Bool} {k : Nat} (h : LeB M M') : LeB (M.set k true) (M'.set k true) := by
  refine ⟨by simpa using h.1, fun i hi => ?_⟩
  have hl := h.1
  rw [List.getD_eq_getElem?_getD, List.getElem?_set] at hi ⊢
  split at hi
  · rename_i e
    subst e
    rw [if_pos rfl]
    by_cases hk : k < M.length
    · simp [← hl, hk]
    · simp [hk] at hi
  · rename_i e
    rw [if_neg e, ← List.getD_eq_getElem?_getD]
    rw [← List.getD_eq_getElem?_getD] at hi
    exact h.2 i hi
section
variable {α : Type} {f : List Bool → α → List Bool}
theorem fold_inf : ∀ {l : List α} {M : List Bool}, (∀ a ∈ l, ∀ M, LeB M (f M a)) → LeB M (l.foldl f M)
  | [], _, _ => LeB.refl
  | a :: l, M, h => (h a (by simp) M).trans (fold_inf fun b hb => h b (by simp [hb]))
theorem fold_mono : ∀ {l : List α} {M M' : List Bool}, (∀ a ∈ l, ∀ M M', LeB M M' → LeB (f M a) (f M' a)) → LeB M M' → LeB (l.foldl f M) (l.foldl f M')
  | [], _, _, _, h => h
  | a :: l, M, M', hf, h => fold_mono (l := l) (fun b hb => hf b (by simp [hb])) (hf a (by simp) M M' h)
theorem fold_mem : ∀ {l : List α} {M : List Bool}, (∀ a ∈ l, ∀ M, LeB M (f M a)) → (∀ a ∈ l, ∀ M M', LeB M M' → LeB (f M a) (f M' a)) → ∀ a ∈ l, LeB (f M a) (l.foldl f M)
  | [], _, _, _ => fun a ha => by simp at ha
  | b :: l, M, h, hm => by
    intro a ha
    rcases List.mem_cons.1 ha with rfl | ha
    · rw [List.foldl_cons]
      exact fold_inf fun c hc => h c (by simp [hc])
    · rw [List.foldl_cons]
      exact (hm a (by simp [ha]) _ _ (h b (by simp) M)).trans (fold_mem (l := l) (fun c hc => h c (by simp [hc])) (fun c hc => hm c (by simp [hc])) a ha)
end
theorem Exq.mkv_inf : ∀ (x : Exq) (M : List Bool), LeB M (x.mkv M) := by
  refine Exq.ind fun x ih M => ?_
  rw [Exq.mkv_eq]
  refine LeB.trans ?_ (fold_inf fun y hy M => ih y hy M)
  split
  · exact LeB.set
  · exact LeB.refl
theorem Exq.mkv_mono : ∀ (x : Exq) (M M' : List Bool), LeB M M' → LeB (x.mkv M) (x.mkv M') := by
  refine Exq.ind fun x ih M M' h => ?_
  rw [Exq.mkv_eq, Exq.mkv_eq]
  refine fold_mono (fun y hy M M' => ih y hy M M') ?_
  split
  · exact h.setm
  · exact h
def occB (x : Exq) (v : Nat) : Bool := (x.mkv [false, false, false]).getD v false
theorem Ed.relv_inf (e : Ed) (M : List Bool) : LeB M (e.relv M) := by
  unfold Ed.relv
  split
  · exact Exq.mkv_inf _ _
  · exact LeB.refl
theorem relV_inf {s : Sy} (M : List Bool) : LeB M (relV s M) := fold_inf fun p _ M => fold_inf fun e _ M => e.relv_inf M
theorem bool3 {M : List Bool} (h : M.length = 3) : ∃ a b c, M = [a, b, c] := by
  match M, h with
  | [a, b, c], _ => exact ⟨a, b, c, rfl⟩
theorem LeB.cnt {M M' : List Bool} (h : LeB M M') (hM : M.length = 3) (hne : M ≠ M') : M.count true < M'.count true := by
  obtain ⟨a, b, c, rfl⟩ := bool3 hM
  obtain ⟨a', b', c', rfl⟩ := bool3 (by rw [← h.1]; rfl)
  have h0 := h.2 0
  have h1 := h.2 1
  have h2 := h.2 2
  simp at h0 h1 h2
  clear h hM
  revert a b c a' b' c'
  decide
theorem rel_ge {s : Sy} {L : List Exq} : LeB (relG s (relL L [false, false, false])) (s.rel L) := (relV_inf _).trans ((relV_inf _).trans (relV_inf _))
theorem relG_inf {s : Sy} (M : List Bool) : LeB M (relG s M) := fold_inf fun p _ M => fold_inf fun e _ M => Exq.mkv_inf _ M
theorem rel_label {s : Sy} {L : List Exq} {x : Exq} {v : Nat} (hx : x ∈ L) (h : occB x v = true) : (s.rel L).getD v false = true := by
  have h1 : LeB (x.mkv [false, false, false]) (relL L [false, false, false]) := fold_mem (fun a _ M => Exq.mkv_inf a M) (fun a _ M M' => Exq.mkv_mono a M M') x hx
  exact (h1.trans ((relG_inf _).trans rel_ge)).2 v h
end Go.Proofs.Ytonjglbachhdcaa

/-
  What variables occur in expressions: by the program; equal lists of truth values.
-/
namespace Go.Proofs.Ytonjglbachhdcaa
open Go
set_option linter.all false
set_option linter.unusedVariables false
set_option linter.unusedSimpArgs false
set_option linter.defProp false
set_option maxRecDepth 1000000

end Go.Proofs.Ytonjglbachhdcaa

/-
  Checking reachable states: invariants and deadlocks, by the program and by the reference.
-/
namespace Go.Proofs.Ytonjglbachhdcaa
open Go
set_option linter.all false
set_option linter.unusedVariables false
set_option linter.unusedSimpArgs false
set_option linter.defProp false
set_option maxRecDepth 1000000

noncomputable def ckV (s : Sy) (b : Prop) (bad : Sta → Bool) : Int := open Classical in if ¬ (b ∧ s.Ok) then 3 else if ¬ bgOk s then 2 else if (bgR s).states.any bad then 1 else 0
noncomputable def ckL (s : Sy) (b : Prop) (bad : Sta → Bool) : List Sta := open Classical in if ¬ (b ∧ s.Ok) then [] else if ¬ bgOk s then [] else match (bgR s).states.findIdx? bad with | some i => sof (bgR s) (pth (bgR s).next i) | none => []
def RI2 (n : Int) (l : List Sta) (h : Heap) : Value → Heap → Prop := fun u h' => ∃ x, u = .tuple #[.int .i64 n, x] ∧ HS h [ow x l] h'

def badE (e : Exq) (st : Sta) : Bool := decide (e.ev st.vals = 0)
def badD (s : Sy) (st : Sta) : Bool := decide (enb s st = [])
end Go.Proofs.Ytonjglbachhdcaa

/-
  Values depend on the variables that occur; independent edges commute: in plain Lean.
-/
namespace Go.Proofs.Ytonjglbachhdcaa
open Go
set_option linter.all false
set_option linter.unusedVariables false
set_option linter.unusedSimpArgs false
set_option linter.defProp false
set_option maxRecDepth 1000000

theorem ev_loc {vs ws : List Int} : ∀ {n : Nat} {x : Exq}, x.Shp n → ∀ {M : List Bool}, M.length = 3 → (∀ v : Nat, (x.mkv M).getD v false = true → vs.getD v 0 = ws.getD v 0) → x.ev vs = x.ev ws
  | 0, _, h, _, _, _ => h.elim
  | n + 1, x, h, M, hM, H => by
    have hn := h.1
    obtain ⟨M0, hM0⟩ : ∃ M0, M0 = (if x.kind = 2 then M.set x.val.toNat true else M) := ⟨_, rfl⟩
    have e := Exq.mkv_eq x M
    rw [← hM0] at e
    have hM03 : M0.length = 3 := by rw [hM0]; split <;> simp [hM]
    have hle : LeB M0 (x.mkv M) := by rw [e]; exact fold_inf fun y _ M => y.mkv_inf M
    have hk : ∀ y ∈ x.kids, y.ev vs = y.ev ws := fun y hy => by
      refine ev_loc (h.2 y hy) hM03 fun v hv => H v ?_
      rw [e]
      exact (fold_mem (f := fun M (x : Exq) => x.mkv M) (fun y _ M => y.mkv_inf M) (fun y _ => y.mkv_mono) y hy).2 v hv
    have hmap : x.kids.map (Exq.ev vs) = x.kids.map (Exq.ev ws) := List.map_congr_left hk
    rw [Exq.ev_eq, Exq.ev_eq]
    unfold Exq.kev
    rw [hmap]
    unfold Exq.evk
    by_cases h2 : x.kind = 2
    · have hhi := hn.hi
      rw [h2] at hhi
      simp [Exq.most] at hhi
      have h3 : x.val.toNat < M.length := by omega
      have : vs.getD x.val.toNat 0 = ws.getD x.val.toNat 0 := H _ (hle.2 _ (by rw [hM0, if_pos h2]; simp [h3]))
      rw [this]
    · simp only [if_neg h2]
theorem ev_occ {vs ws : List Int} {x : Exq} (hx : x.Ok) (H : ∀ v : Nat, occB x v = true → vs.getD v 0 = ws.getD v 0) : x.ev vs = x.ev ws := ev_loc hx.1 rfl H
/-- two edges are independent -/
def Ind (a b : Ed) : Prop := ¬ (0 ≤ a.var ∧ (a.var = b.var ∨ occB b.guard a.var.toNat = true ∨ (0 ≤ b.var ∧ occB b.value a.var.toNat = true))) ∧ (b.var < 0 ∨ (occB a.guard b.var.toNat = false ∧ (a.var < 0 ∨ occB a.value b.var.toNat = false)))
theorem Ed.Ok.val {e : Ed} {n : Int} (h : e.Ok n) (h0 : 0 ≤ e.var) : e.value.Ok := h.vl.elim (fun hh => hh.2) (fun hh => absurd hh.1 (by omega))
end Go.Proofs.Ytonjglbachhdcaa

/-
  Small functions that laws call: independent edges, values of expressions, letters of states, shortest paths.
-/
namespace Go.Proofs.Ytonjglbachhdcaa
open Go
set_option linter.all false
set_option linter.unusedVariables false
set_option linter.unusedSimpArgs false
set_option linter.defProp false
set_option maxRecDepth 1000000

theorem c_LabelState {h : Heap} {v w : Value} {st : Sta} {L : List Exq} (hL : LOk L) (hv : VOk st.vals) (R : Rep h v st) (RL : Rep h w L) : CallE Try.prog fn_impl_LabelState [v, w] h (fun u h' => h.le h' ∧ u = .tuple #[.int .i64 (ltr st.vals L), .bool true]) := by
  obtain ⟨t1, t2, rfl, T1, T2⟩ := Rep_Sta.1 R
  refine CallE.gen fun k hk => EN_impl_LabelState rfl ?_
  simp -implicitDefEqProofs (disch := first | omega | (simp only [List.length_set, List.length_replicate, List.length_append, List.length_map, List.length_take, List.length_cons, List.length_nil]; omega)) [wrap64]
  refine (c_LabelsValid RL).go ?_
  rintro _ h1 ⟨l1, rfl⟩
  simp -implicitDefEqProofs (disch := first | omega | (simp only [List.length_set, List.length_replicate, List.length_append, List.length_map, List.length_take, List.length_cons, List.length_nil]; omega)) [wrap64, hL]
  refine (c_valsOk (T2.le l1)).go ?_
  rintro _ h2 ⟨l2, rfl⟩
  simp -implicitDefEqProofs (disch := first | omega | (simp only [List.length_set, List.length_replicate, List.length_append, List.length_map, List.length_take, List.length_cons, List.length_nil]; omega)) [wrap64, hv]
  refine (c_letter hv hL (T2.le (l1.trans l2)) (RL.le (l1.trans l2))).go ?_
  rintro _ h2 ⟨rfl, rfl⟩
  simp -implicitDefEqProofs (disch := first | omega | (simp only [List.length_set, List.length_replicate, List.length_append, List.length_map, List.length_take, List.length_cons, List.length_nil]; omega)) [wrap64]
  exact RetK.keep (hk _ _ ⟨l1.trans l2, rfl⟩)
end Go.Proofs.Ytonjglbachhdcaa

/-
  Bodies of functions in the small language, as a program printed them, and that each is what the translation gives.
-/
namespace Go.Proofs.Ytonjglbachhdcaa
open Go
set_option linter.all false
set_option linter.defProp false
set_option maxRecDepth 1000000

end Go.Proofs.Ytonjglbachhdcaa

/-
  Instances of functions over slices: copies, and whether some element meets a condition. Printed by a program.
-/
namespace Go.Proofs.Ytonjglbachhdcaa
open Go
set_option linter.all false
set_option linter.unusedVariables false
set_option linter.unusedSimpArgs false
set_option linter.defProp false
set_option maxRecDepth 1000000

end Go.Proofs.Ytonjglbachhdcaa

/-
  Copies of expressions and systems, by the program and by the reference.
-/
namespace Go.Proofs.Ytonjglbachhdcaa
open Go
set_option linter.all false
set_option linter.unusedVariables false
set_option linter.unusedSimpArgs false
set_option linter.defProp false
set_option maxRecDepth 1000000

theorem Exq.nods_sz : ∀ x : Exq, x.nod = 1 + Sz.sz x := by
  have key : ∀ l : List Exq, (∀ y ∈ l, y.nod = 1 + Sz.sz y) → Exq.nods l = Sz.sz l := by
    intro l
    induction l with
    | nil => intro _; rfl
    | cons y l ih =>
      intro h
      rw [Exq.nods, ih fun z hz => h z (by simp [hz]), h y (by simp), sz_cons]
  refine Exq.ind fun x ih => ?_
  rw [Exq.nod_eq, key _ ih, ← sz_Exq]
theorem Exq.Ok.sz {x : Exq} (h : x.Ok) : Sz.sz x ≤ 14 := by have := h.2; have := x.nods_sz; omega
end Go.Proofs.Ytonjglbachhdcaa

/-
  Whether the marks in expressions, edges, processes, systems are still held.
-/
namespace Go.Proofs.Ytonjglbachhdcaa
open Go
set_option linter.all false
set_option linter.unusedVariables false
set_option linter.unusedSimpArgs false
set_option linter.defProp false
set_option maxRecDepth 1000000

end Go.Proofs.Ytonjglbachhdcaa

/-
  Systems are copied, and sliced: by the program and by the reference.
-/
namespace Go.Proofs.Ytonjglbachhdcaa
open Go
set_option linter.all false
set_option linter.unusedVariables false
set_option linter.unusedSimpArgs false
set_option linter.defProp false
set_option maxRecDepth 1000000

/-- how far the elements have been replaced -/
structure Prog {α : Type} (f : α → α) (l y : List α) (i : Nat) : Prop where
  len : y.length = l.length
  done : y.take i = (l.map f).take i
  rest : ∀ (j : Nat) (hj : j < l.length) (hj' : j < y.length), i ≤ j → y[j] = l[j]
section
variable {α : Type} {f : α → α} {l y : List α} {i : Nat}
theorem Prog.zero : Prog f l l 0 := ⟨rfl, rfl, fun _ _ _ _ => rfl⟩
theorem Prog.get (H : Prog f l y i) (hi : i < l.length) : y[i]'(by rw [H.len]; exact hi) = l[i] := H.rest i hi _ (Nat.le_refl i)
theorem Prog.step (H : Prog f l y i) (hi : i < l.length) : Prog f l (y.set i (f l[i])) (i + 1) := by
  refine ⟨by simp [H.len], ?_, fun j hj hj' hij => ?_⟩
  · have := take_set_succ (x := l.map f) H.done (by simpa using hi) (by simp [H.len])
    rwa [List.getElem_map] at this
  · simp only [List.getElem_set]
    rw [if_neg (by omega)]
    exact H.rest j hj (by simpa using hj') (by omega)
theorem Prog.skip (H : Prog f l y i) (hi : i < l.length) (hf : f l[i] = l[i]) : Prog f l y (i + 1) := by
  have := H.step hi
  rw [hf, ← H.get hi, List.set_getElem_self] at this
  exact this
theorem Prog.all (H : Prog f l y i) (hi : l.length ≤ i) : y = l.map f := eq_of_take H.done (by simpa using hi) (by simp [H.len])
end

/- SLICES -/
def Ed.slc (M : List Bool) (e : Ed) : Ed := if 0 ≤ e.var ∧ M.getD e.var.toNat false = false then ⟨e.frm, e.to, e.guard, -1, Exq.zero, e.sync⟩ else e
def Pr.slc (M : List Bool) (p : Pr) : Pr := ⟨p.locs, p.edges.map (Ed.slc M)⟩
def Sy.slc (s : Sy) (L : List Exq) : Sy := ⟨s.init, s.procs.map (Pr.slc (s.rel L))⟩
noncomputable def slcR (s : Sy) (L : List Exq) : Sy := if s.Ok ∧ LOk L then s.slc L else ⟨[], []⟩
end Go.Proofs.Ytonjglbachhdcaa

/-
  Slicing twice is slicing once: in plain Lean.
-/
namespace Go.Proofs.Ytonjglbachhdcaa
open Go
set_option linter.all false
set_option linter.unusedVariables false
set_option linter.unusedSimpArgs false
set_option linter.defProp false
set_option maxRecDepth 1000000

section
variable {α : Type} {f g : List Bool → α → List Bool}
end
end Go.Proofs.Ytonjglbachhdcaa

/-
  Projections: labels, steps and their states are kept; in plain Lean.
-/
namespace Go.Proofs.Ytonjglbachhdcaa
open Go
set_option linter.all false
set_option linter.unusedVariables false
set_option linter.unusedSimpArgs false
set_option linter.defProp false
set_option maxRecDepth 1000000

theorem prV_get {s : Sy} {L : List Exq} {st : Sta} {v : Nat} (hv : v < 3) : (prV s L st).getD v 0 = if (s.rel L).getD v false then st.vals.getD v 0 else s.init.getD v 0 := by
  simp [prV, hv]
/-- the projection of a state -/
def pj (s : Sy) (L : List Exq) (st : Sta) : Sta := ⟨st.locs, prV s L st⟩
theorem occB_lt {x : Exq} {v : Nat} (h : occB x v = true) : v < 3 := by
  have hl : (x.mkv [false, false, false]).length = 3 := Exq.mkv_len x rfl
  rw [← hl]
  rcases Nat.lt_or_ge v (x.mkv [false, false, false]).length with h1 | h1
  · exact h1
  · rw [occB, List.getD_eq_getElem?_getD, List.getElem?_eq_none h1] at h
    simp at h
theorem pj_ev {s : Sy} {L : List Exq} {st : Sta} {x : Exq} (hx : x.Ok) (h : ∀ v, occB x v = true → (s.rel L).getD v false = true) : x.ev (prV s L st) = x.ev st.vals :=
  ev_occ hx fun v hv => by rw [prV_get (occB_lt hv), if_pos (h v hv)]
theorem list3 {a b : List Int} (ha : a.length = 3) (hb : b.length = 3) (h : ∀ v : Nat, v < 3 → a.getD v 0 = b.getD v 0) : a = b := by
  refine List.ext_getElem (by omega) fun i h1 h2 => ?_
  have := h i (by omega)
  simpa [h1, h2] using this
theorem prV_congr {s : Sy} {L : List Exq} {a b : Sta} (h : ∀ v : Nat, v < 3 → (s.rel L).getD v false = true → a.vals.getD v 0 = b.vals.getD v 0) : prV s L a = prV s L b := by
  refine list3 prV_len prV_len fun v hv => ?_
  rw [prV_get hv, prV_get hv]
  split
  · rename_i h1; exact h v hv h1
  · rfl
theorem pj_pj {s : Sy} {L : List Exq} {st : Sta} : pj s L (pj s L st) = pj s L st := by
  unfold pj
  congr 1
  refine prV_congr fun v hv hr => ?_
  simp only
  rw [prV_get hv, if_pos hr]
theorem pj_ok {s : Sy} {L : List Exq} {st : Sta} (hs : s.Ok) (h : st.Ok s) : (pj s L st).Ok s := by
  have key : ∀ x ∈ prV s L st, 0 ≤ x ∧ x ≤ 3 := fun x hx => by
    unfold prV at hx
    obtain ⟨i, hi, rfl⟩ := List.mem_map.1 hx
    have hi3 : i < 3 := List.mem_range.1 hi
    have hv := h.vs
    have hin := hs.vs
    split
    · have h3 : i < st.vals.length := by rw [hv.len]; exact hi3
      have : st.vals.getD i 0 = st.vals[i] := by simp [h3]
      rw [this]; exact hv.at h3
    · have h3 : i < s.init.length := by rw [hin.len]; exact hi3
      have : s.init.getD i 0 = s.init[i] := by simp [h3]
      rw [this]; exact hin.at h3
  exact ⟨h.len, ⟨prV_len, key⟩, h.lc⟩
theorem ltr_pj {s : Sy} {L : List Exq} {st : Sta} (hL : LOk L) : ltr (prV s L st) L = ltr st.vals L := by
  have key : ∀ i : Nat, i < 3 → (L.getD i Exq.zero).ev (prV s L st) = (L.getD i Exq.zero).ev st.vals := fun i hi => by
    have h1 : i < L.length := by rw [hL.len]; exact hi
    have e : L.getD i Exq.zero = L[i] := by simp [h1]
    rw [e]
    exact pj_ev (hL.ok _ (List.getElem_mem h1)) fun v hv => rel_label (List.getElem_mem h1) hv
  unfold ltr
  simp only [ltrN, key 0 (by decide), key 1 (by decide), key 2 (by decide)]

end Go.Proofs.Ytonjglbachhdcaa

/-
  The laws: projections preserve labels; steps commute with projection.
-/
namespace Go.Proofs.Ytonjglbachhdcaa
open Go
set_option linter.all false
set_option linter.unusedVariables false
set_option linter.unusedSimpArgs false
set_option linter.defProp false
set_option maxRecDepth 1000000

set_option maxHeartbeats 2000000 in
theorem c_FnProjectState {h : Heap} {v : Value} {l : List (BitVec 8)} (R : Rep h v l) : CallE Try.prog fn_laws_FnProjectState [v] h (fun u h' => h.le h' ∧ u = .bool true) := by
  refine CallE.gen fun k hk => EN_laws_FnProjectState rfl ?_
  simp -implicitDefEqProofs (disch := first | omega | (simp only [List.length_set, List.length_replicate, List.length_append, List.length_map, List.length_take, List.length_cons, List.length_nil]; omega)) [wrap64, R.len]
  refine IteW.mk (fun hlt => ?_) (fun hge => ?_)
  · simp -implicitDefEqProofs (disch := first | omega | (simp only [List.length_set, List.length_replicate, List.length_append, List.length_map, List.length_take, List.length_cons, List.length_nil]; omega)) [wrap64]
    exact RetK.keep (hk _ _ ⟨Heap.le.refl _, rfl⟩)
  simp -implicitDefEqProofs (disch := first | omega | (simp only [List.length_set, List.length_replicate, List.length_append, List.length_map, List.length_take, List.length_cons, List.length_nil]; omega)) [wrap64]
  refine (c_DrawProjectState R).go ?_
  rintro _ h1 ⟨u1, u2, u3, s, L, st, rfl, H, hL3⟩
  obtain ⟨d, hd⟩ : ∃ d, d = decide (s.Ok ∧ LOk L ∧ st.Ok s) := ⟨_, rfl⟩
  have FS := H.rep.aSy
  have FT := H.sw2.rep.aSta
  simp -implicitDefEqProofs (disch := first | omega | (simp only [List.length_set, List.length_replicate, List.length_append, List.length_map, List.length_take, List.length_cons, List.length_nil]; omega)) [wrap64, FS, FT, setC]
  refine (c_ProjectState H.rep H.sw1.rep H.sw2.rep).go ?_
  rintro _ h2 ⟨a, rfl, G⟩
  have H := G.app H
  have FA := H.rep.aSta
  rw [← hd]
  simp -implicitDefEqProofs (disch := first | omega | (simp only [List.length_set, List.length_replicate, List.length_append, List.length_map, List.length_take, List.length_cons, List.length_nil]; omega)) [wrap64, FS, FT, FA, setC]
  refine (c_spec_ProjectState H.sw1.rep H.sw2.rep H.sw3.rep).go ?_
  rintro _ h3 ⟨b, rfl, G⟩
  have H := G.app H
  have FB := H.rep.aSta
  rw [← hd]
  simp -implicitDefEqProofs (disch := first | omega | (simp only [List.length_set, List.length_replicate, List.length_append, List.length_map, List.length_take, List.length_cons, List.length_nil]; omega)) [wrap64, FA, FB, setC]
  refine (c_StateSame H.sw1.rep H.rep).go ?_
  rintro _ h3 ⟨rfl, rfl⟩
  cases d with
  | false =>
    simp -implicitDefEqProofs (disch := first | omega | (simp only [List.length_set, List.length_replicate, List.length_append, List.length_map, List.length_take, List.length_cons, List.length_nil]; omega)) [wrap64, FA, FB]
    refine (c_StateSame H.sw1.rep H.rep).go ?_
    rintro _ h3 ⟨rfl, rfl⟩
    simp -implicitDefEqProofs (disch := first | omega | (simp only [List.length_set, List.length_replicate, List.length_append, List.length_map, List.length_take, List.length_cons, List.length_nil]; omega)) [wrap64]
    exact RetK.keep (hk _ _ ⟨H.base, rfl⟩)
  | true =>
  have q := of_decide_eq_true hd.symm
  obtain ⟨hs, hL, hst⟩ := id q
  have e : prR s L st = pj s L st := by rw [prR, if_pos q]; rfl
  rw [e] at H
  have hpo := pj_ok (L := L) hs hst
  have hlt : ltr (pj s L st).vals L = ltr st.vals L := ltr_pj hL
  simp -implicitDefEqProofs (disch := first | omega | (simp only [List.length_set, List.length_replicate, List.length_append, List.length_map, List.length_take, List.length_cons, List.length_nil]; omega)) [wrap64, FT]
  refine (c_LabelState hL hst.vs H.sw4.rep H.sw3.rep).go ?_
  rintro _ h4 ⟨l4, rfl⟩
  have H := H.le l4
  simp -implicitDefEqProofs (disch := first | omega | (simp only [List.length_set, List.length_replicate, List.length_append, List.length_map, List.length_take, List.length_cons, List.length_nil]; omega)) [wrap64, FA]
  refine (c_LabelState hL hpo.vs H.sw1.rep H.sw3.rep).go ?_
  rintro _ h5 ⟨l5, rfl⟩
  have H := H.le l5
  simp -implicitDefEqProofs (disch := first | omega | (simp only [List.length_set, List.length_replicate, List.length_append, List.length_map, List.length_take, List.length_cons, List.length_nil]; omega)) [wrap64, FS, FA]
  refine (c_ProjectState H.sw2.rep H.sw3.rep H.sw1.rep).go ?_
  rintro _ h6 ⟨c, rfl, G⟩
  have q2 : s.Ok ∧ LOk L ∧ (pj s L st).Ok s := ⟨hs, hL, hpo⟩
  have e2 : prR s L (pj s L st) = pj s L st := by rw [prR, if_pos q2]; exact pj_pj
  rw [e2] at G
  have H := G.app H
  have FC := H.rep.aSta
  simp -implicitDefEqProofs (disch := first | omega | (simp only [List.length_set, List.length_replicate, List.length_append, List.length_map, List.length_take, List.length_cons, List.length_nil]; omega)) [wrap64, q2, hs, hL, hpo, hlt, FA, FC, setC]
  refine (c_StateSame H.rep H.sw2.rep).go ?_
  rintro _ h6 ⟨rfl, rfl⟩
  have Ra := H.sw2.rep
  have Rt := H.sw5.rep
  have lz := H.base
  clear H G
  obtain ⟨t1, t2, rfl, T1, T2⟩ := Rep_Sta.1 Rt
  obtain ⟨a1, a2, rfl, A1, A2⟩ := Rep_Sta.1 Ra
  simp -implicitDefEqProofs (disch := first | omega | (simp only [List.length_set, List.length_replicate, List.length_append, List.length_map, List.length_take, List.length_cons, List.length_nil]; omega)) [wrap64]
  refine (c_wpInts A1 T1).go ?_
  rintro _ h6 ⟨rfl, rfl⟩
  simp -implicitDefEqProofs (disch := first | omega | (simp only [List.length_set, List.length_replicate, List.length_append, List.length_map, List.length_take, List.length_cons, List.length_nil]; omega)) [wrap64]
  exact RetK.keep (hk _ _ ⟨lz, by simp [pj]⟩)

end Go.Proofs.Ytonjglbachhdcaa
