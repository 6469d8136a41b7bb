/-
  Texts of this proof, one behind the other.
-/
import Derived.Test.YtmpgkijhhocfcaaM6
/-
  Steps by the reference; the state after a step, by the program and by the reference.
-/
namespace Go.Proofs.Ytmpgkijhhocfcaa
open Go
set_option linter.all false
set_option linter.unusedVariables false
set_option linter.unusedSimpArgs false
set_option linter.defProp false
set_option maxRecDepth 1000000

theorem c_l3Partners {h : Heap} {v w : Value} {s : Sy} {st : Sta} (hs : s.Ok) (ht : st.Ok s) (R : Rep h v s) (Rt : Rep h w st) {i m : Nat} (hi : i < s.procs.length) (hm : m < s.procs[i].edges.length) :
    CallE Try.prog fn_spec_l3Partners [v, w, .int .i64 i, .int .i64 m] h (fun u h' => HS h [ow u (prt s st i m s.procs[i].edges[m].sync)] h') := by
  have R0 := R
  have Rt0 := Rt
  obtain ⟨v1, v2, rfl, R1, R2'⟩ := Rep_Sy.1 R
  obtain ⟨t1, t2, rfl, T1, T2⟩ := Rep_Sta.1 Rt
  have hp3 := hs.p3
  have heo := (hs.at hi).at hm
  have hs0 := heo.s0
  have hs1 := heo.s1
  obtain ⟨we, w1, w2, hu, R3, hu2, ok, G1, G2⟩ := R2'.edge hi hm
  obtain ⟨c, hc⟩ : ∃ c, c = s.procs[i].edges[m].sync := ⟨_, rfl⟩
  refine CallE.gen fun k hk => EN_spec_l3Partners rfl ?_
  rw [← hc] at hk hs0 hs1
  simp -implicitDefEqProofs (disch := first | omega | (simp only [List.length_set, List.length_replicate, List.length_append, List.length_map, List.length_take, List.length_cons, List.length_nil]; omega)) [wrap64]
  refine HS.init.bls0 Stp fun o h1 H => ?_
  have hP := hld_parts (hload_le H.base hu)
  have hQ := hld_parts (hload_le H.base hu2)
  simp -implicitDefEqProofs (disch := first | omega | (simp only [List.length_set, List.length_replicate, List.length_append, List.length_map, List.length_take, List.length_cons, List.length_nil]; omega)) [wrap64, R2'.X (n := 2) rfl, hP.1, hP.2.2.1, R3.X (n := 10) rfl, hQ.1, hQ.2.2.1, Ed.cs]
  refine wp_count s.procs.length (fun j e h' => ∃ o, e = [none, none, some (.int .i64 i), some (.int .i64 m), some (.agg #[v1, v2]), some (.agg #[t1, t2]), none, some o, some (.int .i64 c), some (.int .i64 j), none] ∧ HS h [ow o ((s.procs.zipIdx.take j).flatMap (prt1 st i m c))] h') ⟨o, by simp [hc], by simpa using H⟩ ?_
  clear H hP hQ
  rintro J2 j _ h3 hJ2 hj ⟨o, rfl, H⟩
  simp -implicitDefEqProofs (disch := first | omega | (simp only [List.length_set, List.length_replicate, List.length_append, List.length_map, List.length_take, List.length_cons, List.length_nil]; omega)) [wrap64, R2'.len]
  refine IteW.mk (fun hlt2 => ?_) (fun hge2 => ?_)
  · have hj : j < s.procs.length := by omega
    obtain ⟨D, hD⟩ : ∃ D, D = (s.procs.zipIdx.take j).flatMap (prt1 st i m c) := ⟨_, rfl⟩
    have hDl : D.length ≤ 18 := by rw [hD]; exact prt_len hs
    rw [← hD] at H
    obtain ⟨u, hu, Ru⟩ := R2'.ld hj
    change hload _ (some (elp 2 v2 j)) (some 2) = some u at hu
    obtain ⟨wf, rfl, k2, R4⟩ := Rep_Pr.1 Ru
    have hpj := hs.at hj
    have hej := hpj.el
    have hP : ∀ {h'}, h.le h' → _ := fun {h'} (hl : h.le h') => hld_parts (hload_le hl hu)
    simp -implicitDefEqProofs (disch := first | omega | (simp only [List.length_set, List.length_replicate, List.length_append, List.length_map, List.length_take, List.length_cons, List.length_nil]; omega)) [wrap64]
    refine wp_count s.procs[j].edges.length (fun n e h' => ∃ o, e = [none, none, some (.int .i64 i), some (.int .i64 m), some (.agg #[v1, v2]), some (.agg #[t1, t2]), none, some o, some (.int .i64 c), some (.int .i64 j), some (.int .i64 n)] ∧ HS h [ow o (D ++ (s.procs[j].edges.zipIdx.take n).flatMap (prt2 st i m c j))] h') ⟨o, by simp, by simpa using H⟩ ?_
    clear H
    rintro J3 n _ h4 hJ3 hn ⟨o, rfl, H⟩
    have hP1 := (hP H.base).1
    have hP2 := (hP H.base).2.2.1
    simp -implicitDefEqProofs (disch := first | omega | (simp only [List.length_set, List.length_replicate, List.length_append, List.length_map, List.length_take, List.length_cons, List.length_nil]; omega)) [wrap64, R2'.X (n := 2) rfl, hP1, hP2, R4.len]
    refine IteW.mk (fun hlt3 => ?_) (fun hge3 => ?_)
    · have hn : n < s.procs[j].edges.length := by omega
      obtain ⟨E, hE⟩ : ∃ E, E = D ++ (s.procs[j].edges.zipIdx.take n).flatMap (prt2 st i m c j) := ⟨_, rfl⟩
      have hEl : E.length ≤ 24 := by
        rw [hE, List.length_append]
        have := prt1_len (st := st) (i := i) (k := m) (c := c) (j := j) (n := n) hpj
        omega
      have hstep2 : D ++ (s.procs[j].edges.zipIdx.take (n + 1)).flatMap (prt2 st i m c j) = E ++ prt2 st i m c j (s.procs[j].edges[n], n) := by rw [fm_tk hn, ← List.append_assoc, ← hE]
      rw [← hE] at H
      obtain ⟨u, hu, Ru⟩ := R4.ld hn
      have hu2 := hload_le H.base hu
      change hload _ (some (elp 10 wf n)) (some 10) = some u at hu2
      obtain ⟨x1, x2, rfl, okf, X1, X2⟩ := Rep_Ed.1 Ru
      have hQ := hld_parts hu2
      have hgo2 : ∀ {o' h'}, HS h [ow o' (E ++ prt2 st i m c j (s.procs[j].edges[n], n))] h' → J3 [none, none, some (.int .i64 i), some (.int .i64 m), some (.agg #[v1, v2]), some (.agg #[t1, t2]), none, some o', some (.int .i64 c), some (.int .i64 j), some (.int .i64 ((n + 1 : Nat) : Int))] h' :=
        fun {o' h'} H => hJ3 _ _ hn ⟨o', by simp, by rw [hstep2]; exact H⟩
      by_cases b1 : j = i
      · simp -implicitDefEqProofs (disch := first | omega | (simp only [List.length_set, List.length_replicate, List.length_append, List.length_map, List.length_take, List.length_cons, List.length_nil]; omega)) [wrap64, b1]
        subst b1
        exact hgo2 (by rw [prt2, if_neg (fun hh => hh.1 rfl)]; simpa using H)
      have b1' : ¬ ((j : Int) = i) := by omega
      by_cases b2 : s.procs[j].edges[n].sync = -c
      case neg =>
        simp -implicitDefEqProofs (disch := first | omega | (simp only [List.length_set, List.length_replicate, List.length_append, List.length_map, List.length_take, List.length_cons, List.length_nil]; omega)) [wrap64, R2'.X (n := 2) rfl, hP1, hP2, R4.X (n := 10) rfl, hQ.1, hQ.2.2.1, Ed.cs, b1, b1', b2]
        exact hgo2 (by rw [prt2, if_neg (fun hh => b2 hh.2.1)]; simpa using H)
      simp -implicitDefEqProofs (disch := first | omega | (simp only [List.length_set, List.length_replicate, List.length_append, List.length_map, List.length_take, List.length_cons, List.length_nil]; omega)) [wrap64, R2'.X (n := 2) rfl, hP1, hP2, R4.X (n := 10) rfl, hQ.1, hQ.2.2.1, Ed.cs, b1, b1', b2]
      refine (c_l3Ready hs ht (R0.on H) (Rt0.on H) hj hn).go ?_
      rintro _ h4 ⟨rfl, rfl⟩
      by_cases b3 : s.procs[j].edges[n].rdy st j = true
      case neg =>
        simp -implicitDefEqProofs (disch := first | omega | (simp only [List.length_set, List.length_replicate, List.length_append, List.length_map, List.length_take, List.length_cons, List.length_nil]; omega)) [wrap64, b3]
        exact hgo2 (by rw [prt2, if_neg (fun hh => b3 hh.2.2)]; simpa using H)
      have hel := (hs.at hi).el
      simp -implicitDefEqProofs (disch := first | omega | (simp only [List.length_set, List.length_replicate, List.length_append, List.length_map, List.length_take, List.length_cons, List.length_nil]; omega)) [wrap64, b3, setC]
      refine H.app1 (bytes := 32) (⟨i, m, j, n⟩ : Stp) rfl rfl rfl (Stp.ok_iff.2 ⟨by dsimp only; omega, by dsimp only; omega, by dsimp only; omega, by dsimp only; omega⟩) rfl rfl (by omega) (by omega) fun o' h5 H => ?_
      simp -implicitDefEqProofs (disch := first | omega | (simp only [List.length_set, List.length_replicate, List.length_append, List.length_map, List.length_take, List.length_cons, List.length_nil]; omega)) [wrap64]
      refine hgo2 ?_
      rw [prt2, if_pos ⟨b1, b2, b3⟩]; exact H
    simp -implicitDefEqProofs (disch := first | omega | (simp only [List.length_set, List.length_replicate, List.length_append, List.length_map, List.length_take, List.length_cons, List.length_nil]; omega)) [wrap64]
    rw [fm_all (by omega)] at H
    exact hJ2 _ _ hj ⟨o, by simp, by rw [fm_tk hj, ← hD]; exact H⟩
  simp -implicitDefEqProofs (disch := first | omega | (simp only [List.length_set, List.length_replicate, List.length_append, List.length_map, List.length_take, List.length_cons, List.length_nil]; omega)) [wrap64]
  rw [fm_all (by omega)] at H
  exact RetK.keep (hk _ _ H)

theorem c_l3Steps {h : Heap} {v w : Value} {s : Sy} {st : Sta} (hs : s.Ok) (ht : st.Ok s) (R : Rep h v s) (Rt : Rep h w st) : CallE Try.prog fn_spec_l3Steps [v, w] h (fun u h' => HS h [ow u (enb s st)] h') := by
  have FS := R.aSy
  have FT := Rt.aSta
  have R0 := R
  have Rt0 := Rt
  obtain ⟨v1, v2, rfl, R1, R2'⟩ := Rep_Sy.1 R
  obtain ⟨t1, t2, rfl, T1, T2⟩ := Rep_Sta.1 Rt
  have hp3 := hs.p3
  refine CallE.gen fun k hk => EN_spec_l3Steps rfl ?_
  simp -implicitDefEqProofs (disch := first | omega | (simp only [List.length_set, List.length_replicate, List.length_append, List.length_map, List.length_take, List.length_cons, List.length_nil]; omega)) [wrap64]
  refine HS.init.bls0 Stp fun o h1 H => ?_
  simp -implicitDefEqProofs (disch := first | omega | (simp only [List.length_set, List.length_replicate, List.length_append, List.length_map, List.length_take, List.length_cons, List.length_nil]; omega)) [wrap64]
  refine wp_count s.procs.length (fun i e h' => ∃ o, e = [none, none, some (.agg #[v1, v2]), some (.agg #[t1, t2]), none, some o, some (.int .i64 i), none, none] ∧ HS h [ow o ((s.procs.zipIdx.take i).flatMap (enb1 s st))] h') ⟨o, by simp, by simpa using H⟩ ?_
  clear H
  rintro J0 i _ h1 hJ0 hi ⟨o, rfl, H⟩
  simp -implicitDefEqProofs (disch := first | omega | (simp only [List.length_set, List.length_replicate, List.length_append, List.length_map, List.length_take, List.length_cons, List.length_nil]; omega)) [wrap64, R2'.len]
  refine IteW.mk (fun hlt => ?_) (fun hge => ?_)
  · have hi : i < s.procs.length := by omega
    obtain ⟨A, hA⟩ : ∃ A, A = (s.procs.zipIdx.take i).flatMap (enb1 s st) := ⟨_, rfl⟩
    have hAl : A.length ≤ 324 := by rw [hA]; exact enb_len hs
    obtain ⟨u, hu, Ru⟩ := R2'.ld hi
    change hload _ (some (elp 2 v2 i)) (some 2) = some u at hu
    obtain ⟨we, rfl, k1, R3⟩ := Rep_Pr.1 Ru
    have hpo := hs.at hi
    have hel := hpo.el
    have hP : ∀ {h'}, h.le h' → _ := fun {h'} (hl : h.le h') => hld_parts (hload_le hl hu)
    rw [← hA] at H
    simp -implicitDefEqProofs (disch := first | omega | (simp only [List.length_set, List.length_replicate, List.length_append, List.length_map, List.length_take, List.length_cons, List.length_nil]; omega)) [wrap64]
    refine wp_count s.procs[i].edges.length (fun m e h' => ∃ o, e = [none, none, some (.agg #[v1, v2]), some (.agg #[t1, t2]), none, some o, some (.int .i64 i), some (.int .i64 m), none] ∧ HS h [ow o (A ++ (s.procs[i].edges.zipIdx.take m).flatMap (enb2 s st i))] h') ⟨o, by simp, by simpa using H⟩ ?_
    clear H
    rintro J1 m _ h2 hJ1 hm ⟨o, rfl, H⟩
    have hP1 := (hP H.base).1
    have hP2 := (hP H.base).2.2.1
    simp -implicitDefEqProofs (disch := first | omega | (simp only [List.length_set, List.length_replicate, List.length_append, List.length_map, List.length_take, List.length_cons, List.length_nil]; omega)) [wrap64, R2'.X (n := 2) rfl, hP1, hP2, R3.len]
    refine IteW.mk (fun hlt1 => ?_) (fun hge1 => ?_)
    · have hm : m < s.procs[i].edges.length := by omega
      obtain ⟨B, hB⟩ : ∃ B, B = A ++ (s.procs[i].edges.zipIdx.take m).flatMap (enb2 s st i) := ⟨_, rfl⟩
      have hBl : B.length ≤ 432 := by
        rw [hB, List.length_append]
        have := enb1_len (st := st) (i := i) (n := m) hs hpo
        omega
      have hstep : A ++ (s.procs[i].edges.zipIdx.take (m + 1)).flatMap (enb2 s st i) = B ++ enb2 s st i (s.procs[i].edges[m], m) := by rw [fm_tk hm, ← List.append_assoc, ← hB]
      rw [← hB] at H
      obtain ⟨u, hu, Ru⟩ := R3.ld hm
      have hu2 := hload_le H.base hu
      change hload _ (some (elp 10 we m)) (some 10) = some u at hu2
      obtain ⟨w1, w2, rfl, ok, G1, G2⟩ := Rep_Ed.1 Ru
      have heo := hpo.at hm
      have hQ := hld_parts hu2
      have hgo : ∀ {o' h'}, HS h [ow o' (B ++ enb2 s st i (s.procs[i].edges[m], m))] h' → J1 [none, none, some (.agg #[v1, v2]), some (.agg #[t1, t2]), none, some o', some (.int .i64 i), some (.int .i64 ((m + 1 : Nat) : Int)), none] h' :=
        fun {o' h'} H => hJ1 _ _ hm ⟨o', by simp, by rw [hstep]; exact H⟩
      by_cases a2 : s.procs[i].edges[m].sync < 0
      · simp -implicitDefEqProofs (disch := first | omega | (simp only [List.length_set, List.length_replicate, List.length_append, List.length_map, List.length_take, List.length_cons, List.length_nil]; omega)) [wrap64, R2'.X (n := 2) rfl, hP1, hP2, R3.X (n := 10) rfl, hQ.1, hQ.2.2.1, Ed.cs, a2]
        exact hgo (by rw [enb2, if_pos (.inl a2)]; simpa using H)
      simp -implicitDefEqProofs (disch := first | omega | (simp only [List.length_set, List.length_replicate, List.length_append, List.length_map, List.length_take, List.length_cons, List.length_nil]; omega)) [wrap64, R2'.X (n := 2) rfl, hP1, hP2, R3.X (n := 10) rfl, hQ.1, hQ.2.2.1, Ed.cs, a2]
      refine (c_l3Ready hs ht (R0.on H) (Rt0.on H) hi hm).go ?_
      rintro _ h2 ⟨rfl, rfl⟩
      by_cases a1 : s.procs[i].edges[m].rdy st i = true
      case neg =>
        simp -implicitDefEqProofs (disch := first | omega | (simp only [List.length_set, List.length_replicate, List.length_append, List.length_map, List.length_take, List.length_cons, List.length_nil]; omega)) [wrap64, a1]
        exact hgo (by rw [enb2, if_pos (.inr (by simpa using a1))]; simpa using H)
      by_cases a3 : s.procs[i].edges[m].sync = 0
      · simp -implicitDefEqProofs (disch := first | omega | (simp only [List.length_set, List.length_replicate, List.length_append, List.length_map, List.length_take, List.length_cons, List.length_nil]; omega)) [wrap64, a1, a2, a3, setC]
        refine H.app1 (bytes := 32) (⟨i, m, -1, -1⟩ : Stp) rfl rfl rfl (Stp.ok_iff.2 ⟨by dsimp only; omega, by dsimp only; omega, by dsimp only; omega, by dsimp only; omega⟩) rfl rfl (by omega) (by omega) fun o' h3 H => ?_
        simp -implicitDefEqProofs (disch := first | omega | (simp only [List.length_set, List.length_replicate, List.length_append, List.length_map, List.length_take, List.length_cons, List.length_nil]; omega)) [wrap64]
        refine hgo ?_
        rw [enb2, if_neg (by simp [a2, a1]), if_pos a3]; exact H
      have hen : enb2 s st i (s.procs[i].edges[m], m) = prt s st i m s.procs[i].edges[m].sync := by rw [enb2, if_neg (by simp [a2, a1]), if_neg a3]
      have hpl := prt_len' (st := st) (i := i) (k := m) (c := s.procs[i].edges[m].sync) hs
      rw [hen] at hgo
      simp -implicitDefEqProofs (disch := first | omega | (simp only [List.length_set, List.length_replicate, List.length_append, List.length_map, List.length_take, List.length_cons, List.length_nil]; omega)) [wrap64, a1, a2, a3]
      refine (c_l3Partners hs ht (R0.on H) (Rt0.on H) hi hm).go ?_
      intro p h3 G
      have H := G.app H
      simp -implicitDefEqProofs (disch := first | omega | (simp only [List.length_set, List.length_replicate, List.length_append, List.length_map, List.length_take, List.length_cons, List.length_nil]; omega)) [wrap64]
      refine HS.appL (u := p) (l2 := prt s st i m s.procs[i].edges[m].sync) H.sw1 rfl rfl H.rep rfl rfl (by omega) (by omega) fun o' h4 H => ?_
      simp -implicitDefEqProofs (disch := first | omega | (simp only [List.length_set, List.length_replicate, List.length_append, List.length_map, List.length_take, List.length_cons, List.length_nil]; omega)) [wrap64]
      exact hgo H.only
    simp -implicitDefEqProofs (disch := first | omega | (simp only [List.length_set, List.length_replicate, List.length_append, List.length_map, List.length_take, List.length_cons, List.length_nil]; omega)) [wrap64]
    rw [fm_all (by omega)] at H
    exact hJ0 _ _ hi ⟨o, by simp, by rw [fm_tk hi, ← hA]; exact H⟩
  simp -implicitDefEqProofs (disch := first | omega | (simp only [List.length_set, List.length_replicate, List.length_append, List.length_map, List.length_take, List.length_cons, List.length_nil]; omega)) [wrap64]
  rw [fm_all (by omega)] at H
  exact RetK.keep (hk _ _ H)

theorem c_take {g h : Heap} {Γ : List HP} {t1 t2 v : Value} {s : Sy} {st : Sta} {e : Ed} {i : Nat} (hi : i < s.procs.length) (ht : st.Ok s) (he : e.Ok s.procs[i].locs) (R : Rep g v e) (H : HS g (ow t1 st.locs :: ow t2 st.vals :: Γ) h) :
    CallE Try.prog fn_impl_State_take [.agg #[t1, t2], .int .i64 i, v] h (fun _ h' => HS g (ow t1 (st.tk i e).locs :: ow t2 (st.tk i e).vals :: Γ) h') := by
  obtain ⟨w1, w2, rfl, ok, G1, G2⟩ := Rep_Ed.1 R
  have hil : i < st.locs.length := by rw [ht.len]; exact hi
  have hvl := ht.vs.len
  refine CallE.gen fun k hk => EN_impl_State_take rfl ?_
  simp -implicitDefEqProofs (disch := first | omega | (simp only [List.length_set, List.length_replicate, List.length_append, List.length_map, List.length_take, List.length_cons, List.length_nil]; omega)) [wrap64, Ed.cs, H.rep.I]
  refine H.storeF e.to (i := i) hil rfl rfl ok.to rfl fun h1 H => ?_
  by_cases a1 : 0 ≤ e.var
  case neg =>
    simp -implicitDefEqProofs (disch := first | omega | (simp only [List.length_set, List.length_replicate, List.length_append, List.length_map, List.length_take, List.length_cons, List.length_nil]; omega)) [wrap64, a1]
    exact RetK.keep (hk _ _ (by simp only [Sta.tk]; rw [if_neg a1]; exact H))
  have hvo : e.value.Ok := he.vl.elim (fun hh => hh.2) (fun hh => absurd hh.1 (by omega))
  have hv1 := he.v1
  obtain ⟨q, hq⟩ : ∃ q : Nat, e.var = q := ⟨_, (Int.toNat_of_nonneg a1).symm⟩
  have hb := Exq.ev_bnd ht.vs hvo.1
  simp -implicitDefEqProofs (disch := first | omega | (simp only [List.length_set, List.length_replicate, List.length_append, List.length_map, List.length_take, List.length_cons, List.length_nil]; omega)) [wrap64, a1, hq]
  refine (c_eval _ ht.vs hvo.1 ((Rep.vl ok G2).on H) H.sw1.rep).go ?_
  rintro _ h1 ⟨rfl, rfl⟩
  simp -implicitDefEqProofs (disch := first | omega | (simp only [List.length_set, List.length_replicate, List.length_append, List.length_map, List.length_take, List.length_cons, List.length_nil]; omega)) [wrap64, H.sw1.rep.I]
  refine H.sw1.storeF (e.value.ev st.vals) (i := q) (by omega) rfl rfl ⟨by omega, by omega⟩ rfl fun h2 H => ?_
  simp -implicitDefEqProofs (disch := first | omega | (simp only [List.length_set, List.length_replicate, List.length_append, List.length_map, List.length_take, List.length_cons, List.length_nil]; omega)) [wrap64]
  exact RetK.keep (hk _ _ (by simp only [Sta.tk]; rw [if_pos a1, hq, Int.toNat_natCast]; exact H.sw1))
theorem c_l3Take {g h : Heap} {Γ : List HP} {t1 t2 v : Value} {s : Sy} {st : Sta} {e : Ed} {i : Nat} (hi : i < s.procs.length) (ht : st.Ok s) (he : e.Ok s.procs[i].locs) (R : Rep g v e) (H : HS g (ow t1 st.locs :: ow t2 st.vals :: Γ) h) :
    CallE Try.prog fn_spec_l3Take [.agg #[t1, t2], .int .i64 i, v] h (fun u h' => u = .agg #[t1, t2] ∧ HS g (ow t1 (st.tk i e).locs :: ow t2 (st.tk i e).vals :: Γ) h') := by
  obtain ⟨w1, w2, rfl, ok, G1, G2⟩ := Rep_Ed.1 R
  have hil : i < st.locs.length := by rw [ht.len]; exact hi
  have hvl := ht.vs.len
  have hO1 := H.rep.one
  have hO2 := H.sw1.rep.one
  refine CallE.gen fun k hk => EN_spec_l3Take rfl ?_
  simp -implicitDefEqProofs (disch := first | omega | (simp only [List.length_set, List.length_replicate, List.length_append, List.length_map, List.length_take, List.length_cons, List.length_nil]; omega)) [wrap64, Ed.cs, H.rep.I]
  refine H.storeF e.to (i := i) hil rfl rfl ok.to rfl fun h1 H => ?_
  by_cases a1 : 0 ≤ e.var
  case neg =>
    simp -implicitDefEqProofs (disch := first | omega | (simp only [List.length_set, List.length_replicate, List.length_append, List.length_map, List.length_take, List.length_cons, List.length_nil]; omega)) [wrap64, a1, setC, hO1, hO2]
    exact RetK.keep (hk _ _ ⟨rfl, by simp only [Sta.tk]; rw [if_neg a1]; exact H⟩)
  have hvo : e.value.Ok := he.vl.elim (fun hh => hh.2) (fun hh => absurd hh.1 (by omega))
  have hv1 := he.v1
  obtain ⟨q, hq⟩ : ∃ q : Nat, e.var = q := ⟨_, (Int.toNat_of_nonneg a1).symm⟩
  have hb := Exq.ev_bnd ht.vs hvo.1
  simp -implicitDefEqProofs (disch := first | omega | (simp only [List.length_set, List.length_replicate, List.length_append, List.length_map, List.length_take, List.length_cons, List.length_nil]; omega)) [wrap64, a1, hq]
  refine (c_l1Eval _ ht.vs hvo.1 ((Rep.vl ok G2).on H) H.sw1.rep).go ?_
  rintro _ h1 ⟨rfl, rfl⟩
  simp -implicitDefEqProofs (disch := first | omega | (simp only [List.length_set, List.length_replicate, List.length_append, List.length_map, List.length_take, List.length_cons, List.length_nil]; omega)) [wrap64, H.sw1.rep.I]
  refine H.sw1.storeF (e.value.ev st.vals) (i := q) (by omega) rfl rfl ⟨by omega, by omega⟩ rfl fun h2 H => ?_
  simp -implicitDefEqProofs (disch := first | omega | (simp only [List.length_set, List.length_replicate, List.length_append, List.length_map, List.length_take, List.length_cons, List.length_nil]; omega)) [wrap64, setC, hO1, hO2]
  exact RetK.keep (hk _ _ ⟨rfl, by simp only [Sta.tk]; rw [if_pos a1, hq, Int.toNat_natCast]; exact H.sw1⟩)

theorem c_after {h : Heap} {v w : Value} {s : Sy} {st : Sta} {t : Stp} (hs : s.Ok) (ht : st.Ok s) (hin : t.In s) (R : Rep h v s) (Rt : Rep h w st) : CallE Try.prog fn_impl_System_after [v, w, t.v] h (fun u h' => HS h [ow u (st.aft s t)] h') := by
  have FT := Rt.aSta
  obtain ⟨v1, v2, rfl, R1, R2'⟩ := Rep_Sy.1 R
  obtain ⟨⟨i, m, hi, hm, e1, e2⟩, hpt⟩ := hin
  have hp3 := hs.p3
  have hll := ht.len
  have hvl := ht.vs.len
  have hed : s.ed t.proc.toNat t.edge.toNat = s.procs[i].edges[m] := by rw [e1, e2, Int.toNat_natCast, Int.toNat_natCast, Sy.ed_eq hi hm]
  refine CallE.gen fun k hk => EN_impl_System_after rfl ?_
  simp -implicitDefEqProofs (disch := first | omega | (simp only [List.length_set, List.length_replicate, List.length_append, List.length_map, List.length_take, List.length_cons, List.length_nil]; omega)) [wrap64, FT]
  refine (c_State_copyOf Rt (by omega) (by omega)).go ?_
  intro o h1 HO
  obtain ⟨o1, o2, rfl, H⟩ := HO.unSta
  obtain ⟨we, w1, w2, hu, R3, hu2, ok, G1, G2⟩ := R2'.edge hi hm
  have hP := hld_parts (hload_le H.base hu)
  have hu3 := hload_le H.base hu2
  have hC1 := H.rep.one
  have hC2 := H.sw1.rep.one
  have heo := (hs.at hi).at hm
  have Re : Rep h (.agg (s.procs[i].edges[m].cs w1 w2).toArray) s.procs[i].edges[m] := Rep_Ed.2 ⟨w1, w2, rfl, ok, G1, G2⟩
  simp -implicitDefEqProofs (disch := first | omega | (simp only [List.length_set, List.length_replicate, List.length_append, List.length_map, List.length_take, List.length_cons, List.length_nil]; omega)) [wrap64, setC, hC1, hC2, Stp.v, e1, e2, R2'.X (n := 2) rfl, hP.1, hP.2.2.1, R3.X (n := 10) rfl, hu3]
  refine (c_take (s := s) hi ht heo Re H).go ?_
  intro _ h2 H
  have ht2 := Sta.tk_ok ht hi heo
  have hC1 := H.rep.one
  have hC2 := H.sw1.rep.one
  rcases hpt with hpt | ⟨j, n, hj, hn, e3, e4⟩
  · simp -implicitDefEqProofs (disch := first | omega | (simp only [List.length_set, List.length_replicate, List.length_append, List.length_map, List.length_take, List.length_cons, List.length_nil]; omega)) [wrap64, Stp.v, hpt, setC, hC1, hC2]
    refine RetK.keep (hk _ _ ?_)
    rw [Sta.aft, if_neg (by omega), hed, e1, Int.toNat_natCast]
    exact H.mkSta
  · have hed2 : s.ed t.partner.toNat t.pedge.toNat = s.procs[j].edges[n] := by rw [e3, e4, Int.toNat_natCast, Int.toNat_natCast, Sy.ed_eq hj hn]
    have heo2 := (hs.at hj).at hn
    obtain ⟨wf, x1, x2, hu, R3, hu2, ok, X1, X2⟩ := R2'.edge hj hn
    have hP := hld_parts (hload_le H.base hu)
    have hu3 := hload_le H.base hu2
    have Rf : Rep h (.agg (s.procs[j].edges[n].cs x1 x2).toArray) s.procs[j].edges[n] := Rep_Ed.2 ⟨x1, x2, rfl, ok, X1, X2⟩
    simp -implicitDefEqProofs (disch := first | omega | (simp only [List.length_set, List.length_replicate, List.length_append, List.length_map, List.length_take, List.length_cons, List.length_nil]; omega)) [wrap64, setC, hC1, hC2, Stp.v, e3, e4, R2'.X (n := 2) rfl, hP.1, hP.2.2.1, R3.X (n := 10) rfl, hu3]
    refine (c_take (s := s) hj ht2 heo2 Rf H).go ?_
    intro _ h3 H
    simp -implicitDefEqProofs (disch := first | omega | (simp only [List.length_set, List.length_replicate, List.length_append, List.length_map, List.length_take, List.length_cons, List.length_nil]; omega)) [wrap64, setC, hC1, hC2]
    refine RetK.keep (hk _ _ ?_)
    rw [Sta.aft, if_pos (by omega), hed, hed2, e1, e3, Int.toNat_natCast, Int.toNat_natCast]
    exact H.mkSta
theorem c_l3Apply {h : Heap} {v w : Value} {s : Sy} {st : Sta} {t : Stp} (hs : s.Ok) (ht : st.Ok s) (hin : t.In s) (R : Rep h v s) (Rt : Rep h w st) : CallE Try.prog fn_spec_l3Apply [v, w, t.v] h (fun u h' => HS h [ow u (st.aft s t)] h') := by
  have FT := Rt.aSta
  obtain ⟨v1, v2, rfl, R1, R2'⟩ := Rep_Sy.1 R
  obtain ⟨⟨i, m, hi, hm, e1, e2⟩, hpt⟩ := hin
  have hp3 := hs.p3
  have hll := ht.len
  have hvl := ht.vs.len
  have hed : s.ed t.proc.toNat t.edge.toNat = s.procs[i].edges[m] := by rw [e1, e2, Int.toNat_natCast, Int.toNat_natCast, Sy.ed_eq hi hm]
  refine CallE.gen fun k hk => EN_spec_l3Apply rfl ?_
  obtain ⟨t1, t2, rfl, T1, T2⟩ := Rep_Sta.1 Rt
  simp -implicitDefEqProofs (disch := first | omega | (simp only [List.length_set, List.length_replicate, List.length_append, List.length_map, List.length_take, List.length_cons, List.length_nil]; omega)) [wrap64]
  refine HS.appPL (α := Int) (l2 := st.locs) HS.init rfl rfl T1 rfl rfl (by omega) fun o1 h1 H => ?_
  simp -implicitDefEqProofs (disch := first | omega | (simp only [List.length_set, List.length_replicate, List.length_append, List.length_map, List.length_take, List.length_cons, List.length_nil]; omega)) [wrap64]
  refine HS.appPL (α := Int) (l2 := st.vals) H rfl rfl (T2.on H) rfl rfl (by omega) fun o2 h1 H => ?_
  replace H := H.sw1
  have hK1 := H.rep.cells
  have hK2 := H.sw1.rep.cells
  obtain ⟨we, w1, w2, hu, R3, hu2, ok, G1, G2⟩ := R2'.edge hi hm
  have hP := hld_parts (hload_le H.base hu)
  have hu3 := hload_le H.base hu2
  have hC1 := H.rep.one
  have hC2 := H.sw1.rep.one
  have heo := (hs.at hi).at hm
  have Re : Rep h (.agg (s.procs[i].edges[m].cs w1 w2).toArray) s.procs[i].edges[m] := Rep_Ed.2 ⟨w1, w2, rfl, ok, G1, G2⟩
  simp -implicitDefEqProofs (disch := first | omega | (simp only [List.length_set, List.length_replicate, List.length_append, List.length_map, List.length_take, List.length_cons, List.length_nil]; omega)) [wrap64, setC, hC1, hC2, hK1, hK2, Stp.v, e1, e2, R2'.X (n := 2) rfl, hP.1, hP.2.2.1, R3.X (n := 10) rfl, hu3]
  refine (c_l3Take (s := s) hi ht heo Re H).go ?_
  rintro _ h2 ⟨rfl, H⟩
  have ht2 := Sta.tk_ok ht hi heo
  have hC1 := H.rep.one
  have hC2 := H.sw1.rep.one
  rcases hpt with hpt | ⟨j, n, hj, hn, e3, e4⟩
  · simp -implicitDefEqProofs (disch := first | omega | (simp only [List.length_set, List.length_replicate, List.length_append, List.length_map, List.length_take, List.length_cons, List.length_nil]; omega)) [wrap64, Stp.v, hpt, setC, hC1, hC2]
    refine RetK.keep (hk _ _ ?_)
    rw [Sta.aft, if_neg (by omega), hed, e1, Int.toNat_natCast]
    exact H.mkSta
  · have hed2 : s.ed t.partner.toNat t.pedge.toNat = s.procs[j].edges[n] := by rw [e3, e4, Int.toNat_natCast, Int.toNat_natCast, Sy.ed_eq hj hn]
    have heo2 := (hs.at hj).at hn
    obtain ⟨wf, x1, x2, hu, R3, hu2, ok, X1, X2⟩ := R2'.edge hj hn
    have hP := hld_parts (hload_le H.base hu)
    have hu3 := hload_le H.base hu2
    have Rf : Rep h (.agg (s.procs[j].edges[n].cs x1 x2).toArray) s.procs[j].edges[n] := Rep_Ed.2 ⟨x1, x2, rfl, ok, X1, X2⟩
    simp -implicitDefEqProofs (disch := first | omega | (simp only [List.length_set, List.length_replicate, List.length_append, List.length_map, List.length_take, List.length_cons, List.length_nil]; omega)) [wrap64, setC, hC1, hC2, Stp.v, e3, e4, R2'.X (n := 2) rfl, hP.1, hP.2.2.1, R3.X (n := 10) rfl, hu3]
    refine (c_l3Take (s := s) hj ht2 heo2 Rf H).go ?_
    rintro _ h3 ⟨rfl, H⟩
    simp -implicitDefEqProofs (disch := first | omega | (simp only [List.length_set, List.length_replicate, List.length_append, List.length_map, List.length_take, List.length_cons, List.length_nil]; omega)) [wrap64, setC, hC1, hC2]
    refine RetK.keep (hk _ _ ?_)
    rw [Sta.aft, if_pos (by omega), hed, hed2, e1, e3, Int.toNat_natCast, Int.toNat_natCast]
    exact H.mkSta

end Go.Proofs.Ytmpgkijhhocfcaa

/-
  Graphs of systems in plain Lean: how they are built.
-/
namespace Go.Proofs.Ytmpgkijhhocfcaa
open Go
set_option linter.all false
set_option linter.unusedVariables false
set_option linter.unusedSimpArgs false
set_option linter.defProp false
set_option maxRecDepth 1000000

/-- where a state lies -/
def fx (xs : List Sta) (st : Sta) : Int := match xs.findIdx? (fun y => decide (y = st)) with | some i => (i : Int) | none => -1
theorem fx_mem {xs : List Sta} {st : Sta} (h : st ∈ xs) : ∃ (i : Nat) (hi : i < xs.length), fx xs st = i ∧ xs[i] = st := by
  obtain ⟨i, hi⟩ : ∃ i, xs.findIdx? (fun y => decide (y = st)) = some i := by
    rcases hf : xs.findIdx? (fun y => decide (y = st)) with _ | i
    · rw [List.findIdx?_eq_none_iff] at hf
      have := hf st h
      simp at this
    · exact ⟨i, rfl⟩
  have h2 := hi
  rw [List.findIdx?_eq_some_iff_getElem] at h2
  obtain ⟨h3, h4, _⟩ := h2
  exact ⟨i, h3, by rw [fx, hi], by simpa using h4⟩
theorem fx_not {xs : List Sta} {st : Sta} (h : st ∉ xs) : fx xs st = -1 := by
  have : xs.findIdx? (fun y => decide (y = st)) = none := by
    rw [List.findIdx?_eq_none_iff]
    intro y hy
    simp only [decide_eq_false_iff_not]
    rintro rfl
    exact h hy
  rw [fx, this]
def adS (xs : List Sta) (st : Sta) : List Sta := if st ∈ xs then xs else xs ++ [st]
def atS (xs : List Sta) (st : Sta) : Int := if st ∈ xs then fx xs st else xs.length
def adI (l : List Int) (n : Int) : List Int := if n ∈ l then l else l ++ [n]
def g1 (p : List Sta × List Int) (st : Sta) : List Sta × List Int := (adS p.1 st, adI p.2 (atS p.1 st))
theorem mem_adI {l : List Int} {n x : Int} : x ∈ adI l n ↔ x ∈ l ∨ x = n := by
  unfold adI
  split
  · constructor
    · exact .inl
    · rintro (h | rfl) <;> assumption
  · simp
theorem adI_len {l : List Int} {n : Int} : (adI l n).length ≤ l.length + 1 := by
  unfold adI; split <;> simp
theorem adI_ne {l : List Int} {n : Int} : adI l n ≠ [] := by
  unfold adI
  split
  · rename_i h; rintro rfl; simp at h
  · simp
theorem adS_len {xs : List Sta} {st : Sta} : (adS xs st).length ≤ xs.length + 1 := by
  unfold adS; split <;> simp
theorem adS_ge {xs : List Sta} {st : Sta} : xs.length ≤ (adS xs st).length := by
  unfold adS; split <;> simp
theorem atS_rng {xs : List Sta} {st : Sta} : 0 ≤ atS xs st ∧ atS xs st < (adS xs st).length := by
  unfold atS adS
  split
  · rename_i h
    obtain ⟨i, hi, e, _⟩ := fx_mem h
    omega
  · simp; omega

/-- one state's steps -/
def gF (s : Sy) (x : Sta) (n : Nat) (xs : List Sta) : List Sta × List Int := ((enb s x).take n).foldl (fun p t => g1 p (x.aft s t)) (xs, [])
theorem gF_zero {s : Sy} {x : Sta} {xs : List Sta} : gF s x 0 xs = (xs, []) := rfl
theorem gF_succ {s : Sy} {x : Sta} {n : Nat} {xs : List Sta} (hn : n < (enb s x).length) : gF s x (n + 1) xs = g1 (gF s x n xs) (x.aft s (enb s x)[n]) := by
  unfold gF
  rw [List.take_add_one, List.getElem?_eq_getElem hn, List.foldl_append]
  rfl
structure GI (s : Sy) (xs : List Sta) (n : Nat) (p : List Sta × List Int) : Prop where
  pre : ∃ t, p.1 = xs ++ t
  ok : ∀ st ∈ p.1, st.Ok s
  rng : ∀ x ∈ p.2, 0 ≤ x ∧ x < p.1.length
  new : ∀ j : Nat, xs.length ≤ j → j < p.1.length → (j : Int) ∈ p.2
  l1 : p.1.length ≤ xs.length + n
  l2 : p.2.length ≤ n
  ne : 1 ≤ n → p.2 ≠ []
theorem GI.ge {s : Sy} {xs : List Sta} {n : Nat} {p : List Sta × List Int} (h : GI s xs n p) : xs.length ≤ p.1.length := by
  obtain ⟨t, e⟩ := h.pre
  rw [e]; simp
theorem GI.step {s : Sy} {xs : List Sta} {n : Nat} {p : List Sta × List Int} {st : Sta} (h : GI s xs n p) (hst : st.Ok s) : GI s xs (n + 1) (g1 p st) := by
  have hr := atS_rng (xs := p.1) (st := st)
  have hl := adS_len (xs := p.1) (st := st)
  have hg := adS_ge (xs := p.1) (st := st)
  have hl2 := adI_len (l := p.2) (n := atS p.1 st)
  refine ⟨?_, ?_, ?_, ?_, ?_, ?_, fun _ => adI_ne⟩
  · obtain ⟨t, e⟩ := h.pre
    unfold g1 adS
    simp only
    split
    · exact ⟨t, e⟩
    · exact ⟨t ++ [st], by rw [e, List.append_assoc]⟩
  · intro y hy
    simp only [g1, adS] at hy
    split at hy
    · exact h.ok y hy
    · simp only [List.mem_append, List.mem_singleton] at hy
      rcases hy with hy | rfl
      · exact h.ok y hy
      · exact hst
  · intro x hx
    simp only [g1, mem_adI] at hx
    rcases hx with hx | rfl
    · have := h.rng x hx
      simp only [g1]; omega
    · exact hr
  · intro j h1 h2
    simp only [g1] at h2 ⊢
    rw [mem_adI]
    by_cases hj : j < p.1.length
    · exact .inl (h.new j h1 hj)
    · right
      unfold adS at h2
      unfold atS
      split at h2
      · omega
      · rename_i q
        rw [if_neg q]
        simp at h2; omega
  · have := h.l1; simp only [g1]; omega
  · have := h.l2; simp only [g1]; omega
theorem gF_inv {s : Sy} {x : Sta} {xs : List Sta} (hs : s.Ok) (hx : x.Ok s) (hxs : ∀ st ∈ xs, st.Ok s) : ∀ n, n ≤ (enb s x).length → GI s xs n (gF s x n xs)
  | 0, _ => ⟨⟨[], by simp [gF_zero]⟩, hxs, fun x hx => by simp [gF_zero] at hx, fun j h1 h2 => by simp only [gF_zero] at h2; omega, by simp [gF_zero], by simp [gF_zero], fun h => absurd h (by decide)⟩
  | n + 1, hn => by
    rw [gF_succ (by omega)]
    exact (gF_inv hs hx hxs n (by omega)).step (Sta.aft_ok hs hx (enb_in (List.getElem_mem _)))

/-- the graph after some states are done -/
def nxS (i : Nat) (l : List Int) : List Int := if l = [] then [(i : Int)] else l
def rnd (s : Sy) (i : Nat) (g : Gr) : Gr :=
  if h : i < g.states.length then ⟨(gF s g.states[i] (enb s g.states[i]).length g.states).1, g.next ++ [nxS i (gF s g.states[i] (enb s g.states[i]).length g.states).2]⟩ else g
def ini (s : Sy) : Sta := ⟨List.replicate s.procs.length 0, s.init⟩
def gN (s : Sy) : Nat → Gr
  | 0 => ⟨[ini s], []⟩
  | n + 1 => rnd s n (gN s n)
theorem gN_succ {s : Sy} {n : Nat} (h : n < (gN s n).states.length) : gN s (n + 1) = ⟨(gF s (gN s n).states[n] (enb s (gN s n).states[n]).length (gN s n).states).1, (gN s n).next ++ [nxS n (gF s (gN s n).states[n] (enb s (gN s n).states[n]).length (gN s n).states).2]⟩ := by
  rw [gN, rnd, dif_pos h]
theorem gN_stop {s : Sy} {n : Nat} (h : (gN s n).states.length ≤ n) : gN s (n + 1) = gN s n := by
  rw [gN, rnd, dif_neg (by omega)]
theorem ini_ok {s : Sy} (hs : s.Ok) : (ini s).Ok s :=
  ⟨by simp [ini], hs.vs, fun i h1 h2 => by
    have := (hs.at h2).n1
    simp only [ini, List.getElem_replicate]; omega⟩
structure GInv (s : Sy) (n : Nat) (g : Gr) : Prop where
  ok : ∀ st ∈ g.states, st.Ok s
  pos : 1 ≤ g.states.length
  nl : g.next.length = min n g.states.length
  ent : ∀ l ∈ g.next, l ≠ [] ∧ ∀ x ∈ l, 0 ≤ x ∧ x < g.states.length
  ll : ∀ l ∈ g.next, l.length ≤ 325
  rch : ∀ j : Nat, 1 ≤ j → j < g.states.length → ∃ (i : Nat) (hi : i < g.next.length), i < j ∧ (j : Int) ∈ g.next[i]
theorem gN_inv {s : Sy} (hs : s.Ok) : ∀ n, GInv s n (gN s n)
  | 0 => ⟨fun st h => by simp [gN] at h; subst h; exact ini_ok hs, by simp [gN], by simp [gN], fun l hl => by simp [gN] at hl, fun l hl => by simp [gN] at hl, fun j h1 h2 => by simp [gN] at h2; omega⟩
  | n + 1 => by
    have ih := gN_inv hs n
    by_cases h : n < (gN s n).states.length
    case neg =>
      rw [gN_stop (by omega)]
      exact ⟨ih.ok, ih.pos, by rw [ih.nl]; omega, ih.ent, ih.ll, ih.rch⟩
    rw [gN_succ h]
    have hxo := ih.ok _ (List.getElem_mem h)
    have gi := gF_inv hs hxo ih.ok _ (Nat.le_refl (enb s (gN s n).states[n]).length)
    have hge := gi.ge
    have hel := enb_len' (st := (gN s n).states[n]) hs
    have hnl : (gN s n).next.length = n := by rw [ih.nl]; omega
    generalize gF s (gN s n).states[n] (enb s (gN s n).states[n]).length (gN s n).states = p at gi hge
    have hnx : ∀ j : Nat, (gN s n).states.length ≤ j → j < p.1.length → (j : Int) ∈ nxS n p.2 := fun j h1 h2 => by
      have h3 := gi.new j h1 h2
      unfold nxS
      split
      · rename_i e; rw [e] at h3; simp at h3
      · exact h3
    refine ⟨gi.ok, by have := ih.pos; simp only; omega, by simp [hnl]; omega, fun l hl => ?_, fun l hl => ?_, fun j h1 h2 => ?_⟩
    · simp only [List.mem_append, List.mem_singleton] at hl
      rcases hl with hl | rfl
      · have := ih.ent l hl
        exact ⟨this.1, fun x hx => by have := this.2 x hx; simp only; omega⟩
      · unfold nxS
        split
        · exact ⟨by simp, fun x hx => by simp at hx; subst hx; simp only; omega⟩
        · exact ⟨by assumption, gi.rng⟩
    · simp only [List.mem_append, List.mem_singleton] at hl
      rcases hl with hl | rfl
      · exact ih.ll l hl
      · unfold nxS
        split
        · simp
        · have := gi.l2; omega
    · by_cases hj : j < (gN s n).states.length
      · obtain ⟨i, hi, h3, h4⟩ := ih.rch j h1 hj
        refine ⟨i, by simp; omega, h3, ?_⟩
        simp only [List.getElem_append_left hi]
        exact h4
      · refine ⟨n, by simp; omega, by omega, ?_⟩
        have : ((gN s n).next ++ [nxS n p.2])[n]'(by simp; omega) = nxS n p.2 := by
          rw [List.getElem_append_right (by omega)]
          simp
        simp only [this]
        exact hnx j (by omega) h2
theorem gN_mono {s : Sy} (hs : s.Ok) {n m : Nat} (h : n ≤ m) : (gN s n).states.length ≤ (gN s m).states.length := by
  induction m with
  | zero => have : n = 0 := by omega
            subst this; exact Nat.le_refl _
  | succ m ih =>
    by_cases e : n = m + 1
    · subst e; exact Nat.le_refl _
    refine Nat.le_trans (ih (by omega)) ?_
    by_cases h2 : m < (gN s m).states.length
    · rw [gN_succ h2]
      exact (gF_inv hs ((gN_inv hs m).ok _ (List.getElem_mem h2)) (gN_inv hs m).ok _ (Nat.le_refl _)).ge
    · rw [gN_stop (by omega)]
      exact Nat.le_refl _
theorem gN_fix {s : Sy} {n m : Nat} (h : (gN s n).states.length ≤ n) (hm : n ≤ m) : gN s m = gN s n := by
  induction m with
  | zero => have : n = 0 := by omega
            subst this; rfl
  | succ m ih =>
    by_cases e : n = m + 1
    · subst e; rfl
    have := ih (by omega)
    rw [gN_stop (by rw [this]; omega), this]
def Gr.zero : Gr := ⟨[], []⟩
/-- small graphs -/
def bgOk (s : Sy) : Prop := s.Ok ∧ (gN s 60).states.length ≤ 60
noncomputable instance {s : Sy} : Decidable (bgOk s) := Classical.propDecidable _
noncomputable def bgR (s : Sy) : Gr := if bgOk s then gN s 60 else Gr.zero
structure Gr.Fin (s : Sy) (g : Gr) : Prop where
  ok : ∀ st ∈ g.states, st.Ok s
  pos : 1 ≤ g.states.length
  n60 : g.states.length ≤ 60
  nl : g.next.length = g.states.length
  ent : ∀ l ∈ g.next, l ≠ [] ∧ ∀ x ∈ l, 0 ≤ x ∧ x < g.states.length
  ll : ∀ l ∈ g.next, l.length ≤ 325
  rch : ∀ j : Nat, 1 ≤ j → j < g.states.length → ∃ (i : Nat) (hi : i < g.next.length), i < j ∧ (j : Int) ∈ g.next[i]
theorem bgR_fin {s : Sy} (h : bgOk s) : (bgR s).Fin s := by
  have hi := gN_inv h.1 60
  have h2 := h.2
  rw [bgR, if_pos h]
  exact ⟨hi.ok, hi.pos, h.2, by rw [hi.nl]; omega, hi.ent, hi.ll, hi.rch⟩
theorem bg_big {s : Sy} {n : Nat} (hs : s.Ok) (hn : n ≤ 60) (h : 60 < (gN s n).states.length) : ¬ bgOk s := fun hb => by
  have := gN_mono hs hn
  have := hb.2
  omega
theorem bg_end {s : Sy} {n : Nat} (hs : s.Ok) (hn : (gN s n).states.length ≤ n) (h : n ≤ 60) : bgOk s ∧ gN s n = bgR s := by
  have h1 := gN_fix hn h
  have h2 : bgOk s := ⟨hs, by rw [h1]; omega⟩
  exact ⟨h2, by rw [bgR, if_pos h2, h1]⟩
end Go.Proofs.Ytmpgkijhhocfcaa

/-
  Equal states, and where a state lies in a list: by the program and by the reference.
-/
namespace Go.Proofs.Ytmpgkijhhocfcaa
open Go
set_option linter.all false
set_option linter.unusedVariables false
set_option linter.unusedSimpArgs false
set_option linter.defProp false
set_option maxRecDepth 1000000

theorem c_Equal_int {h : Heap} {a b : Value} {x y : List Int} (Ra : Rep h a x) (Rb : Rep h b y) : CallE Try.prog fn_slices_Equal_S_int_int [a, b] h (fun u h' => h' = h ∧ u = .bool (decide (x = y))) := by
  have hL := Ra.lt
  refine CallE.gen fun k hk => EN_slices_Equal_S_int_int rfl ?_
  by_cases hl : (x.length : Int) = y.length
  case neg =>
    simp -implicitDefEqProofs (disch := first | omega | (simp only [List.length_set, List.length_replicate, List.length_append, List.length_map, List.length_take, List.length_cons, List.length_nil]; omega)) [wrap64, Ra.len, Rb.len, hl]
    exact RetK.keep (hk _ _ ⟨rfl, by congr 1; rw [eq_comm, decide_eq_false_iff_not]; intro e; subst e; exact hl rfl⟩)
  simp -implicitDefEqProofs (disch := first | omega | (simp only [List.length_set, List.length_replicate, List.length_append, List.length_map, List.length_take, List.length_cons, List.length_nil]; omega)) [wrap64, Ra.len, Rb.len, hl]
  refine wp_count x.length (fun i e h' => e = [some a, some b, none, none, some (.int .i64 x.length), some (.int .i64 i)] ∧ h' = h ∧ x.take i = y.take i) ⟨by simp [hl], rfl, rfl⟩ ?_
  rintro J i _ h1 hJ hi ⟨rfl, rfl, hq⟩
  simp -implicitDefEqProofs (disch := first | omega | (simp only [List.length_set, List.length_replicate, List.length_append, List.length_map, List.length_take, List.length_cons, List.length_nil]; omega)) [wrap64]
  refine IteW.mk (fun hlt => ?_) (fun hge => ?_)
  · have hlx : i < x.length := by omega
    have hly : i < y.length := by omega
    by_cases he : x[i] = y[i]
    · simp -implicitDefEqProofs (disch := first | omega | (simp only [List.length_set, List.length_replicate, List.length_append, List.length_map, List.length_take, List.length_cons, List.length_nil]; omega)) [wrap64, Ra.I, Rb.I, he]
      exact hJ _ _ hlx ⟨rfl, rfl, take_step hq hlx hly he⟩
    · simp -implicitDefEqProofs (disch := first | omega | (simp only [List.length_set, List.length_replicate, List.length_append, List.length_map, List.length_take, List.length_cons, List.length_nil]; omega)) [wrap64, Ra.I, Rb.I, he]
      exact RetK.keep (hk _ _ ⟨rfl, by congr 1; rw [eq_comm, decide_eq_false_iff_not]; intro e; subst e; exact he rfl⟩)
  · simp -implicitDefEqProofs (disch := first | omega | (simp only [List.length_set, List.length_replicate, List.length_append, List.length_map, List.length_take, List.length_cons, List.length_nil]; omega)) [wrap64]
    rw [List.take_of_length_le (by omega), List.take_of_length_le (by omega)] at hq
    exact RetK.keep (hk _ _ ⟨rfl, by simp [hq]⟩)
theorem c_l2Ints {h : Heap} {a b : Value} {x y : List Int} (Ra : Rep h a x) (Rb : Rep h b y) : CallE Try.prog fn_spec_l2Ints [a, b] h (fun u h' => h' = h ∧ u = .bool (decide (x = y))) := by
  have hL := Ra.lt
  refine CallE.gen fun k hk => EN_spec_l2Ints rfl ?_
  by_cases hl : (x.length : Int) = y.length
  case neg =>
    simp -implicitDefEqProofs (disch := first | omega | (simp only [List.length_set, List.length_replicate, List.length_append, List.length_map, List.length_take, List.length_cons, List.length_nil]; omega)) [wrap64, Ra.len, Rb.len, hl]
    exact RetK.keep (hk _ _ ⟨rfl, by congr 1; rw [eq_comm, decide_eq_false_iff_not]; intro e; subst e; exact hl rfl⟩)
  simp -implicitDefEqProofs (disch := first | omega | (simp only [List.length_set, List.length_replicate, List.length_append, List.length_map, List.length_take, List.length_cons, List.length_nil]; omega)) [wrap64, Ra.len, Rb.len, hl]
  refine wp_count x.length (fun i e h' => e = [some a, some b, none, some (.int .i64 i)] ∧ h' = h ∧ x.take i = y.take i) ⟨by simp, rfl, rfl⟩ ?_
  rintro J i _ h1 hJ hi ⟨rfl, rfl, hq⟩
  simp -implicitDefEqProofs (disch := first | omega | (simp only [List.length_set, List.length_replicate, List.length_append, List.length_map, List.length_take, List.length_cons, List.length_nil]; omega)) [wrap64, Ra.len]
  refine IteW.mk (fun hlt => ?_) (fun hge => ?_)
  · have hlx : i < x.length := by omega
    have hly : i < y.length := by omega
    by_cases he : x[i] = y[i]
    · simp -implicitDefEqProofs (disch := first | omega | (simp only [List.length_set, List.length_replicate, List.length_append, List.length_map, List.length_take, List.length_cons, List.length_nil]; omega)) [wrap64, Ra.I, Rb.I, he]
      exact hJ _ _ hlx ⟨rfl, rfl, take_step hq hlx hly he⟩
    · simp -implicitDefEqProofs (disch := first | omega | (simp only [List.length_set, List.length_replicate, List.length_append, List.length_map, List.length_take, List.length_cons, List.length_nil]; omega)) [wrap64, Ra.I, Rb.I, he]
      exact RetK.keep (hk _ _ ⟨rfl, by congr 1; rw [eq_comm, decide_eq_false_iff_not]; intro e; subst e; exact he rfl⟩)
  · simp -implicitDefEqProofs (disch := first | omega | (simp only [List.length_set, List.length_replicate, List.length_append, List.length_map, List.length_take, List.length_cons, List.length_nil]; omega)) [wrap64]
    rw [List.take_of_length_le (by omega), List.take_of_length_le (by omega)] at hq
    exact RetK.keep (hk _ _ ⟨rfl, by simp [hq]⟩)
theorem c_StateSame {h : Heap} {v w : Value} {a b : Sta} (Ra : Rep h v a) (Rb : Rep h w b) : CallE Try.prog fn_impl_StateSame [v, w] h (fun u h' => h' = h ∧ u = .bool (decide (a = b))) := by
  obtain ⟨v1, v2, rfl, R1, R2⟩ := Rep_Sta.1 Ra
  obtain ⟨w1, w2, rfl, S1, S2⟩ := Rep_Sta.1 Rb
  refine CallE.gen fun k hk => EN_impl_StateSame rfl ?_
  simp -implicitDefEqProofs (disch := first | omega | (simp only [List.length_set, List.length_replicate, List.length_append, List.length_map, List.length_take, List.length_cons, List.length_nil]; omega)) [wrap64]
  refine (c_Equal_int R1 S1).go ?_
  rintro _ h ⟨rfl, rfl⟩
  by_cases h1 : a.locs = b.locs
  case neg =>
    simp -implicitDefEqProofs (disch := first | omega | (simp only [List.length_set, List.length_replicate, List.length_append, List.length_map, List.length_take, List.length_cons, List.length_nil]; omega)) [wrap64, h1]
    exact RetK.keep (hk _ _ ⟨rfl, by simp [Sta.ext_iff', h1]⟩)
  simp -implicitDefEqProofs (disch := first | omega | (simp only [List.length_set, List.length_replicate, List.length_append, List.length_map, List.length_take, List.length_cons, List.length_nil]; omega)) [wrap64, h1]
  refine (c_Equal_int R2 S2).go ?_
  rintro _ h ⟨rfl, rfl⟩
  simp -implicitDefEqProofs (disch := first | omega | (simp only [List.length_set, List.length_replicate, List.length_append, List.length_map, List.length_take, List.length_cons, List.length_nil]; omega)) [wrap64]
  exact RetK.keep (hk _ _ ⟨rfl, by simp [Sta.ext_iff', h1]⟩)
theorem c_spec_StateSame {h : Heap} {v w : Value} {a b : Sta} (Ra : Rep h v a) (Rb : Rep h w b) : CallE Try.prog fn_spec_StateSame [v, w] h (fun u h' => h' = h ∧ u = .bool (decide (a = b))) := by
  obtain ⟨v1, v2, rfl, R1, R2⟩ := Rep_Sta.1 Ra
  obtain ⟨w1, w2, rfl, S1, S2⟩ := Rep_Sta.1 Rb
  refine CallE.gen fun k hk => EN_spec_StateSame rfl ?_
  simp -implicitDefEqProofs (disch := first | omega | (simp only [List.length_set, List.length_replicate, List.length_append, List.length_map, List.length_take, List.length_cons, List.length_nil]; omega)) [wrap64]
  refine (c_l2Ints R1 S1).go ?_
  rintro _ h ⟨rfl, rfl⟩
  by_cases h1 : a.locs = b.locs
  case neg =>
    simp -implicitDefEqProofs (disch := first | omega | (simp only [List.length_set, List.length_replicate, List.length_append, List.length_map, List.length_take, List.length_cons, List.length_nil]; omega)) [wrap64, h1]
    exact RetK.keep (hk _ _ ⟨rfl, by simp [Sta.ext_iff', h1]⟩)
  simp -implicitDefEqProofs (disch := first | omega | (simp only [List.length_set, List.length_replicate, List.length_append, List.length_map, List.length_take, List.length_cons, List.length_nil]; omega)) [wrap64, h1]
  refine (c_l2Ints R2 S2).go ?_
  rintro _ h ⟨rfl, rfl⟩
  simp -implicitDefEqProofs (disch := first | omega | (simp only [List.length_set, List.length_replicate, List.length_append, List.length_map, List.length_take, List.length_cons, List.length_nil]; omega)) [wrap64]
  exact RetK.keep (hk _ _ ⟨rfl, by simp [Sta.ext_iff', h1]⟩)
theorem fx_at {xs : List Sta} {st : Sta} {i : Nat} (hi : i < xs.length) (he : xs[i] = st) (hn : ∀ (j : Nat) (hj : j < xs.length), j < i → xs[j] ≠ st) : fx xs st = i := by
  have : xs.findIdx? (fun y => decide (y = st)) = some i := by
    rw [List.findIdx?_eq_some_iff_getElem]
    exact ⟨hi, by simp [he], fun j hj => by simpa using hn j (by omega) hj⟩
  rw [fx, this]
theorem c_l4Find {h : Heap} {v w : Value} {xs : List Sta} {st : Sta} (R : Rep h v xs) (Rt : Rep h w st) : CallE Try.prog fn_spec_l4Find [v, w] h (fun u h' => h' = h ∧ u = .int .i64 (fx xs st)) := by
  have hL := R.lt
  have FT := Rt.aSta
  refine CallE.gen fun k hk => EN_spec_l4Find rfl ?_
  simp -implicitDefEqProofs (disch := first | omega | (simp only [List.length_set, List.length_replicate, List.length_append, List.length_map, List.length_take, List.length_cons, List.length_nil]; omega)) [wrap64]
  refine wp_count xs.length (fun i e h' => e = [some v, none, some w, none, some (.int .i64 i)] ∧ h' = h ∧ ∀ (j : Nat) (hj : j < xs.length), j < i → xs[j] ≠ st) ⟨by simp, rfl, fun j _ hj => absurd hj (Nat.not_lt_zero j)⟩ ?_
  rintro J i _ h hJ hi ⟨rfl, rfl, hn⟩
  simp -implicitDefEqProofs (disch := first | omega | (simp only [List.length_set, List.length_replicate, List.length_append, List.length_map, List.length_take, List.length_cons, List.length_nil]; omega)) [wrap64, R.len]
  refine IteW.mk (fun hlt => ?_) (fun hge => ?_)
  · have hlx : i < xs.length := by omega
    obtain ⟨u, hu, Ru⟩ := R.ld hlx
    change hload _ (some (elp 2 v i)) (some 2) = some u at hu
    simp -implicitDefEqProofs (disch := first | omega | (simp only [List.length_set, List.length_replicate, List.length_append, List.length_map, List.length_take, List.length_cons, List.length_nil]; omega)) [wrap64, R.X (n := 2) rfl, hu, FT, Ru.aSta]
    refine (c_spec_StateSame Ru Rt).go ?_
    rintro _ h ⟨rfl, rfl⟩
    by_cases e : xs[i] = st
    · simp -implicitDefEqProofs (disch := first | omega | (simp only [List.length_set, List.length_replicate, List.length_append, List.length_map, List.length_take, List.length_cons, List.length_nil]; omega)) [wrap64, e]
      exact RetK.keep (hk _ _ ⟨rfl, by rw [fx_at hlx e hn]⟩)
    · simp -implicitDefEqProofs (disch := first | omega | (simp only [List.length_set, List.length_replicate, List.length_append, List.length_map, List.length_take, List.length_cons, List.length_nil]; omega)) [wrap64, e]
      refine hJ _ _ hlx ⟨by simp, rfl, fun j hj hji => ?_⟩
      by_cases hji2 : j = i
      · subst hji2; exact e
      · exact hn j hj (by omega)
  · simp -implicitDefEqProofs (disch := first | omega | (simp only [List.length_set, List.length_replicate, List.length_append, List.length_map, List.length_take, List.length_cons, List.length_nil]; omega)) [wrap64]
    refine RetK.keep (hk _ _ ⟨rfl, ?_⟩)
    rw [fx_not]
    intro hm
    obtain ⟨j, hj, h1⟩ := List.mem_iff_getElem.1 hm
    exact hn j hj (by omega) h1
end Go.Proofs.Ytmpgkijhhocfcaa

/-
  Instances of functions over slices: copies, and whether some element meets a condition. Printed by a program.
-/
namespace Go.Proofs.Ytmpgkijhhocfcaa
open Go
set_option linter.all false
set_option linter.unusedVariables false
set_option linter.unusedSimpArgs false
set_option linter.defProp false
set_option maxRecDepth 1000000

theorem c_Clip_impl_State {g h : Heap} {Γ : List HP} {a : Value} {x : List (Sta)} (H : HS g (ow a x :: Γ) h) : CallE Try.prog fn_slices_Clip_S_impl_State_impl_State [a] h (fun v h' => HS g (ow v x :: Γ) h') := by
  refine CallE.gen fun k hk => EN_slices_Clip_S_impl_State_impl_State rfl ?_
  obtain ⟨v', h1, h2⟩ := H.clip (esz := 2) (k := .i64)
  simp -implicitDefEqProofs (disch := first | omega | (simp only [List.length_set, List.length_replicate, List.length_append, List.length_map, List.length_take, List.length_cons, List.length_nil]; omega)) [wrap64, H.rep.len, h1]
  exact RetK.keep (hk _ _ h2)

theorem c_Clip_S_int {g h : Heap} {Γ : List HP} {a : Value} {x : List (List Int)} (H : HS g (ow a x :: Γ) h) : CallE Try.prog fn_slices_Clip_S_S_int_S_int [a] h (fun v h' => HS g (ow v x :: Γ) h') := by
  refine CallE.gen fun k hk => EN_slices_Clip_S_S_int_S_int rfl ?_
  obtain ⟨v', h1, h2⟩ := H.clip (esz := 1) (k := .i64)
  simp -implicitDefEqProofs (disch := first | omega | (simp only [List.length_set, List.length_replicate, List.length_append, List.length_map, List.length_take, List.length_cons, List.length_nil]; omega)) [wrap64, H.rep.len, h1]
  exact RetK.keep (hk _ _ h2)

end Go.Proofs.Ytmpgkijhhocfcaa

/-
  The initial state, by the reference.
-/
namespace Go.Proofs.Ytmpgkijhhocfcaa
open Go
set_option linter.all false
set_option linter.unusedVariables false
set_option linter.unusedSimpArgs false
set_option linter.defProp false
set_option maxRecDepth 1000000

theorem c_spec_InitialState {h : Heap} {v : Value} {s : Sy} (R : Rep h v s) : CallE Try.prog fn_spec_InitialState [v] h (R2 (decide s.Ok) (if s.Ok then ini s else Sta.zero) h) := by
  have FS := R.aSy
  have R0 := R
  obtain ⟨v1, v2, rfl, R1, R2'⟩ := Rep_Sy.1 R
  refine CallE.gen fun k hk => EN_spec_InitialState rfl ?_
  simp -implicitDefEqProofs (disch := first | omega | (simp only [List.length_set, List.length_replicate, List.length_append, List.length_map, List.length_take, List.length_cons, List.length_nil]; omega)) [wrap64, FS]
  refine (c_spec_SystemValid R0).go ?_
  rintro _ h ⟨rfl, rfl⟩
  by_cases hs : s.Ok
  case neg =>
    simp -implicitDefEqProofs (disch := first | omega | (simp only [List.length_set, List.length_replicate, List.length_append, List.length_map, List.length_take, List.length_cons, List.length_nil]; omega)) [wrap64, hs, setC]
    exact RetK.keep (hk _ _ ⟨_, by rw [decide_eq_false hs], by rw [if_neg hs]; exact zero_St (Γ := []) (Heap.le.refl _)⟩)
  have hp3 := hs.p3
  have hvl := hs.vs.len
  simp -implicitDefEqProofs (disch := first | omega | (simp only [List.length_set, List.length_replicate, List.length_append, List.length_map, List.length_take, List.length_cons, List.length_nil]; omega)) [wrap64, hs, R2'.len]
  refine ⟨?_, ?_⟩
  · simp -implicitDefEqProofs (disch := first | omega | (simp only [List.length_set, List.length_replicate, List.length_append, List.length_map, List.length_take, List.length_cons, List.length_nil]; omega)) [wrap64]
    refine HS.init.mks (α := Int) (z := (0 : Int)) rfl rfl (own_zero (by decide) (by decide)) (Nat.le_refl _) (by omega) (by omega) fun o h1 H => ?_
    simp -implicitDefEqProofs (disch := first | omega | (simp only [List.length_set, List.length_replicate, List.length_append, List.length_map, List.length_take, List.length_cons, List.length_nil]; omega)) [wrap64]
    refine HS.appPL (α := Int) (l2 := s.init) H rfl rfl (R1.on H) rfl rfl (by omega) fun o2 h1 H => ?_
    simp -implicitDefEqProofs (disch := first | omega | (simp only [List.length_set, List.length_replicate, List.length_append, List.length_map, List.length_take, List.length_cons, List.length_nil]; omega)) [wrap64, setC, H.rep.cells, H.rep.one, H.sw1.rep.cells, H.sw1.rep.one]
    exact RetK.keep (hk _ _ ⟨_, by rw [decide_eq_true hs], by rw [if_pos hs]; exact HS.mkSta (a := ini s) H.sw1⟩)
  · simp -implicitDefEqProofs (disch := first | omega | (simp only [List.length_set, List.length_replicate, List.length_append, List.length_map, List.length_take, List.length_cons, List.length_nil]; omega)) [wrap64]
    refine HS.appPL (α := Int) (l2 := s.init) HS.init rfl rfl R1 rfl rfl (by omega) fun o2 h1 H => ?_
    simp -implicitDefEqProofs (disch := first | omega | (simp only [List.length_set, List.length_replicate, List.length_append, List.length_map, List.length_take, List.length_cons, List.length_nil]; omega)) [wrap64]
    refine H.mks (α := Int) (z := (0 : Int)) rfl rfl (own_zero (by decide) (by decide)) (Nat.le_refl _) (by omega) (by omega) fun o h1 H => ?_
    simp -implicitDefEqProofs (disch := first | omega | (simp only [List.length_set, List.length_replicate, List.length_append, List.length_map, List.length_take, List.length_cons, List.length_nil]; omega)) [wrap64, setC, H.rep.cells, H.rep.one, H.sw1.rep.cells, H.sw1.rep.one]
    exact RetK.keep (hk _ _ ⟨_, by rw [decide_eq_true hs], by rw [if_pos hs]; exact HS.mkSta (a := ini s) H⟩)
end Go.Proofs.Ytmpgkijhhocfcaa

/-
  The graph of a system: by the program.
-/
namespace Go.Proofs.Ytmpgkijhhocfcaa
open Go
set_option linter.all false
set_option linter.unusedVariables false
set_option linter.unusedSimpArgs false
set_option linter.defProp false
set_option maxRecDepth 1000000

theorem c_initial {h : Heap} {v : Value} {s : Sy} (hs : s.Ok) (R : Rep h v s) : CallE Try.prog fn_impl_System_initial [v] h (fun u h' => HS h [ow u (ini s)] h') := by
  obtain ⟨v1, v2, rfl, R1, R2'⟩ := Rep_Sy.1 R
  have hp3 := hs.p3
  have hvl := hs.vs.len
  refine CallE.gen fun k hk => EN_impl_System_initial rfl ?_
  simp -implicitDefEqProofs (disch := first | omega | (simp only [List.length_set, List.length_replicate, List.length_append, List.length_map, List.length_take, List.length_cons, List.length_nil]; omega)) [wrap64, R2'.len]
  refine ⟨?_, ?_⟩
  · simp -implicitDefEqProofs (disch := first | omega | (simp only [List.length_set, List.length_replicate, List.length_append, List.length_map, List.length_take, List.length_cons, List.length_nil]; omega)) [wrap64]
    refine HS.init.mks (α := Int) (z := (0 : Int)) rfl rfl (own_zero (by decide) (by decide)) (Nat.le_refl _) (by omega) (by omega) fun o h1 H => ?_
    simp -implicitDefEqProofs (disch := first | omega | (simp only [List.length_set, List.length_replicate, List.length_append, List.length_map, List.length_take, List.length_cons, List.length_nil]; omega)) [wrap64]
    refine (c_clone_int (R1.on H) (by omega)).go ?_
    intro u h2 G
    have H := G.app H
    simp -implicitDefEqProofs (disch := first | omega | (simp only [List.length_set, List.length_replicate, List.length_append, List.length_map, List.length_take, List.length_cons, List.length_nil]; omega)) [wrap64, setC, H.rep.cells, H.rep.one, H.sw1.rep.cells, H.sw1.rep.one]
    exact RetK.keep (hk _ _ (HS.mkSta (a := ini s) H.sw1))
  · simp -implicitDefEqProofs (disch := first | omega | (simp only [List.length_set, List.length_replicate, List.length_append, List.length_map, List.length_take, List.length_cons, List.length_nil]; omega)) [wrap64]
    refine (c_clone_int R1 (by omega)).go ?_
    intro u h2 H
    simp -implicitDefEqProofs (disch := first | omega | (simp only [List.length_set, List.length_replicate, List.length_append, List.length_map, List.length_take, List.length_cons, List.length_nil]; omega)) [wrap64]
    refine H.mks (α := Int) (z := (0 : Int)) rfl rfl (own_zero (by decide) (by decide)) (Nat.le_refl _) (by omega) (by omega) fun o h1 H => ?_
    simp -implicitDefEqProofs (disch := first | omega | (simp only [List.length_set, List.length_replicate, List.length_append, List.length_map, List.length_take, List.length_cons, List.length_nil]; omega)) [wrap64, setC, H.rep.cells, H.rep.one, H.sw1.rep.cells, H.sw1.rep.one]
    exact RetK.keep (hk _ _ (HS.mkSta (a := ini s) H))
theorem c_build_1 {h : Heap} {v w : Value} {a st : Sta} {b : Nat} (R : Rep h v a) (Rt : Rep h w st) (hb : hload h (some (.pointer (some ⟨b, 0, none⟩))) (some 2) = some w) :
    CallE Try.prog fn_impl_System_build_1 [v, .pointer (some ⟨b, 0, none⟩)] h (fun u h' => h.le h' ∧ u = .bool (decide (a = st))) := by
  have FS := R.aSta
  refine CallE.gen fun k hk => EN_impl_System_build_1 rfl ?_
  simp -implicitDefEqProofs (disch := first | omega | (simp only [List.length_set, List.length_replicate, List.length_append, List.length_map, List.length_take, List.length_cons, List.length_nil]; omega)) [wrap64, FS, hb]
  refine (c_StateSame R Rt).go ?_
  rintro _ h ⟨rfl, rfl⟩
  simp -implicitDefEqProofs (disch := first | omega | (simp only [List.length_set, List.length_replicate, List.length_append, List.length_map, List.length_take, List.length_cons, List.length_nil]; omega)) [wrap64]
  exact RetK.keep (hk _ _ ⟨Heap.le.refl _, rfl⟩)

theorem gN_at {s : Sy} {x : Sta} {n i : Nat} {xs : List Sta} {p : List Sta × List Int} (gi : GI s xs n p) (hi : i < xs.length) : ∃ h : i < p.1.length, p.1[i] = xs[i] := by
  obtain ⟨t, e⟩ := gi.pre
  have hl : i < p.1.length := by have := gi.ge; omega
  refine ⟨hl, ?_⟩
  have : p.1[i]? = xs[i]? := by rw [e, List.getElem?_append_left hi]
  rw [List.getElem?_eq_getElem hl, List.getElem?_eq_getElem hi] at this
  exact Option.some.inj this
theorem zero_Gr {g h : Heap} {Γ : List HP} (H : HS g Γ h) : HS g (ow (.agg #[.slice none 0 0, .slice none 0 0]) Gr.zero :: Γ) h := HS.mkGr (a := Gr.zero) H.nil_ow.nil_ow

theorem c_build {h : Heap} {v : Value} {s : Sy} (hs : s.Ok) (R : Rep h v s) : CallE Try.prog fn_impl_System_build [v] h (R2 (decide (bgOk s)) (bgR s) h) := by
  have FS := R.aSy
  have R0 := R
  obtain ⟨v1, v2, rfl, R1, R2'⟩ := Rep_Sy.1 R
  refine CallE.gen fun k hk => EN_impl_System_build rfl ?_
  have hno : ¬ bgOk s → ∀ {h'}, h.le h' → k (.tuple #[.agg #[.slice none 0 0, .slice none 0 0], .bool false]) h' := fun hn h' hl => hk _ _ ⟨_, by rw [decide_eq_false hn], by rw [bgR, if_neg hn]; exact zero_Gr (Γ := []) hl⟩
  simp -implicitDefEqProofs (disch := first | omega | (simp only [List.length_set, List.length_replicate, List.length_append, List.length_map, List.length_take, List.length_cons, List.length_nil]; omega)) [wrap64, FS]
  refine (c_initial hs R0).go ?_
  intro u h1 H
  obtain ⟨o1, o2, rfl, H'⟩ := H.unSta
  have hc1 := H'.rep.one
  have hc2 := H'.sw1.rep.one
  simp -implicitDefEqProofs (disch := first | omega | (simp only [List.length_set, List.length_replicate, List.length_append, List.length_map, List.length_take, List.length_cons, List.length_nil]; omega)) [wrap64, setC, hc1, hc2]
  refine HS.blsO1 H rfl fun xs h2 H => ?_
  simp -implicitDefEqProofs (disch := first | omega | (simp only [List.length_set, List.length_replicate, List.length_append, List.length_map, List.length_take, List.length_cons, List.length_nil]; omega)) [wrap64, setC, H.rep.cells, H.rep.one]
  refine wp_while (σ := Nat) (fun i e h' => ∃ xs nx, e = [none, some (.agg #[v1, v2]), some (.agg #[.slice none 0 0, .slice none 0 0]), none, some (.agg #[xs, nx]), some (.int .i64 i), none, none, none, none, none, none, none] ∧ HS h [ow xs (gN s i).states, ow nx (gN s i).next] h' ∧ i ≤ (gN s i).states.length ∧ (gN s i).states.length ≤ 60) (fun i => 61 - i) 0 ⟨xs, .slice none 0 0, by simp, H.nil_ow.sw1, by simp [gN], by simp [gN]⟩ ?_
  clear H hc1 hc2 H'
  rintro J i _ h3 hJ ⟨xs, nx, rfl, H, hi, h60⟩
  have inv := gN_inv hs i
  have hnl := inv.nl
  simp -implicitDefEqProofs (disch := first | omega | (simp only [List.length_set, List.length_replicate, List.length_append, List.length_map, List.length_take, List.length_cons, List.length_nil]; omega)) [wrap64, H.rep.len]
  refine IteW.mk (fun hlt => ?_) (fun hge => ?_)
  · have hlt : i < (gN s i).states.length := by omega
    have hxo := inv.ok _ (List.getElem_mem hlt)
    have hsucc := gN_succ hlt
    generalize hg : gN s i = g at *
    obtain ⟨x, hx⟩ : ∃ x, x = g.states[i] := ⟨_, rfl⟩
    rw [← hx] at hxo hsucc
    obtain ⟨u, hu, Ru⟩ := H.rep.ld hlt
    change hload _ (some (elp 2 xs i)) (some 2) = some u at hu
    rw [← hx] at Ru
    simp -implicitDefEqProofs (disch := first | omega | (simp only [List.length_set, List.length_replicate, List.length_append, List.length_map, List.length_take, List.length_cons, List.length_nil]; omega)) [wrap64, H.rep.X (n := 2) rfl, hu, Ru.aSta, FS]
    have hel := enb_len' (st := x) hs
    refine pl_cut (fun e' h' => ∃ el r, e' = none :: some (.agg #[v1, v2]) :: some (.agg #[.slice none 0 0, .slice none 0 0]) :: none :: some (.agg #[xs, nx]) :: some (.int .i64 i) :: some (.slice none 0 0) :: none :: none :: none :: some el :: some (.int .i64 (enb s x).length) :: some (.int .i64 0) :: r ∧ HS h [ow el (enb s x), ow xs g.states, ow nx g.next] h') (fun K hK => ?_) ?_
    · refine ⟨?_, ?_⟩
      · simp -implicitDefEqProofs (disch := first | omega | (simp only [List.length_set, List.length_replicate, List.length_append, List.length_map, List.length_take, List.length_cons, List.length_nil]; omega)) [wrap64]
        refine (c_enabled hs hxo (R0.on H) Ru).go ?_
        intro el h4 G
        have hu2 := hload_le G.base hu
        have H := G.app H
        refine ⟨?_, ?_⟩
        · simp -implicitDefEqProofs (disch := first | omega | (simp only [List.length_set, List.length_replicate, List.length_append, List.length_map, List.length_take, List.length_cons, List.length_nil]; omega)) [wrap64, H.rep.len, hu2]
          exact hK _ _ ⟨_, _, rfl, H⟩
        · simp -implicitDefEqProofs (disch := first | omega | (simp only [List.length_set, List.length_replicate, List.length_append, List.length_map, List.length_take, List.length_cons, List.length_nil]; omega)) [wrap64, H.rep.len, hu2]
          exact hK _ _ ⟨_, _, rfl, H⟩
      · simp -implicitDefEqProofs (disch := first | omega | (simp only [List.length_set, List.length_replicate, List.length_append, List.length_map, List.length_take, List.length_cons, List.length_nil]; omega)) [wrap64, hu]
        refine (c_enabled hs hxo (R0.on H) Ru).go ?_
        intro el h4 G
        have H := G.app H
        simp -implicitDefEqProofs (disch := first | omega | (simp only [List.length_set, List.length_replicate, List.length_append, List.length_map, List.length_take, List.length_cons, List.length_nil]; omega)) [wrap64, H.rep.len]
        exact hK _ _ ⟨_, _, rfl, H⟩
    clear H hu Ru u
    rintro _ h4 ⟨el, r, rfl, H⟩
    simp -implicitDefEqProofs (disch := first | omega | (simp only [List.length_set, List.length_replicate, List.length_append, List.length_map, List.length_take, List.length_cons, List.length_nil]; omega)) [wrap64]
    refine wp_count (enb s x).length (fun m e h' => ∃ xs q, e = [none, some (.agg #[v1, v2]), some (.agg #[.slice none 0 0, .slice none 0 0]), none, some (.agg #[xs, nx]), some (.int .i64 i), some q, none, none, none, some el, some (.int .i64 (enb s x).length), some (.int .i64 m)] ∧ HS h [ow xs (gF s x m g.states).1, ow q (gF s x m g.states).2, ow nx g.next, ow el (enb s x)] h') ⟨xs, .slice none 0 0, by simp, by rw [gF_zero]; exact (H.bk2.nil_ow (α := Int)).sw1⟩ ?_
    clear H r xs
    rintro J1 m _ h5 hJ1 hm ⟨xs, q, rfl, H⟩
    simp -implicitDefEqProofs (disch := first | omega | (simp only [List.length_set, List.length_replicate, List.length_append, List.length_map, List.length_take, List.length_cons, List.length_nil]; omega)) [wrap64]
    refine IteW.mk (fun hlt1 => ?_) (fun hge1 => ?_)
    · have hm : m < (enb s x).length := by omega
      have gi := gF_inv (xs := g.states) hs hxo inv.ok m (by omega)
      have hsu := gF_succ (xs := g.states) hm
      have hin := enb_in (List.getElem_mem hm)
      obtain ⟨t, ht⟩ : ∃ t, t = (enb s x)[m] := ⟨_, rfl⟩
      generalize gF s x m g.states = p at gi hsu H
      obtain ⟨hip, hxp⟩ := gN_at (x := x) gi hlt
      rw [← hx] at hxp
      rw [← ht] at hsu hin
      obtain ⟨u, hu, Ru⟩ := H.rep.ld hip
      change hload _ (some (elp 2 xs i)) (some 2) = some u at hu
      rw [hxp] at Ru
      have hst := Sta.aft_ok hs hxo hin
      have hl1 := gi.l1
      have hl2 := gi.l2
      simp -implicitDefEqProofs (disch := first | omega | (simp only [List.length_set, List.length_replicate, List.length_append, List.length_map, List.length_take, List.length_cons, List.length_nil]; omega)) [wrap64, H.sw3.rep.xStp, ← ht, H.rep.X (n := 2) rfl, hu, Stp.v, setC]
      refine pl_cut (fun e' h' => ∃ b o1 o2 r, e' = none :: some (.agg #[v1, v2]) :: some (.agg #[.slice none 0 0, .slice none 0 0]) :: none :: some (.agg #[xs, nx]) :: some (.int .i64 i) :: some q :: some t.v :: some (.pointer (some ⟨b, 0, none⟩)) :: none :: some el :: some (.int .i64 (enb s x).length) :: some (.int .i64 m) :: r ∧ HS h [bx b [o1, o2], ow (.agg #[o1, o2]) (x.aft s t), ow xs p.1, ow q p.2, ow nx g.next, ow el (enb s x)] h') (fun K hK => ?_) ?_
      · refine ⟨?_, ?_⟩
        · simp -implicitDefEqProofs (disch := first | omega | (simp only [List.length_set, List.length_replicate, List.length_append, List.length_map, List.length_take, List.length_cons, List.length_nil]; omega)) [wrap64, Stp.v]
          refine (c_after hs hxo hin (R0.on H) Ru).go ?_
          intro o h6 HO
          obtain ⟨o1, o2, rfl, HO2⟩ := HO.unSta
          have hC1 := HO2.rep.one
          have hC2 := HO2.sw1.rep.one
          simp -implicitDefEqProofs (disch := first | omega | (simp only [List.length_set, List.length_replicate, List.length_append, List.length_map, List.length_take, List.length_cons, List.length_nil]; omega)) [wrap64]
          refine HO.alloc rfl fun b h7 HO => ?_
          have hu2 := hload_le HO.base hu
          have H := HO.app H
          simp -implicitDefEqProofs (disch := first | omega | (simp only [List.length_set, List.length_replicate, List.length_append, List.length_map, List.length_take, List.length_cons, List.length_nil]; omega)) [wrap64, hu2]
          refine HS.bxst (o := 0) (sz := 2) (u := .agg #[o1, o2]) H rfl rfl rfl (by simp [hC1, hC2]) (by simp) fun h8 H => ?_
          simp -implicitDefEqProofs (disch := first | omega | (simp only [List.length_set, List.length_replicate, List.length_append, List.length_map, List.length_take, List.length_cons, List.length_nil]; omega)) [wrap64]
          exact hK _ _ ⟨b, o1, o2, _, rfl, H⟩
        · simp -implicitDefEqProofs (disch := first | omega | (simp only [List.length_set, List.length_replicate, List.length_append, List.length_map, List.length_take, List.length_cons, List.length_nil]; omega)) [wrap64, Stp.v]
          refine (HS.init (h := h5)).alloc rfl fun b h6 G => ?_
          have hu2 := hload_le G.base hu
          have H := G.app H
          simp -implicitDefEqProofs (disch := first | omega | (simp only [List.length_set, List.length_replicate, List.length_append, List.length_map, List.length_take, List.length_cons, List.length_nil]; omega)) [wrap64, hu2]
          refine (c_after hs hxo hin (R0.on H) (Ru.on G)).go ?_
          intro o h6 HO
          obtain ⟨o1, o2, rfl, HO2⟩ := HO.unSta
          have hC1 := HO2.rep.one
          have hC2 := HO2.sw1.rep.one
          have H := (HO.app H).sw1
          simp -implicitDefEqProofs (disch := first | omega | (simp only [List.length_set, List.length_replicate, List.length_append, List.length_map, List.length_take, List.length_cons, List.length_nil]; omega)) [wrap64]
          refine HS.bxst (o := 0) (sz := 2) (u := .agg #[o1, o2]) H rfl rfl rfl (by simp [hC1, hC2]) (by simp) fun h8 H => ?_
          simp -implicitDefEqProofs (disch := first | omega | (simp only [List.length_set, List.length_replicate, List.length_append, List.length_map, List.length_take, List.length_cons, List.length_nil]; omega)) [wrap64]
          exact hK _ _ ⟨b, o1, o2, _, rfl, H⟩
      rintro _ h6 ⟨b, o1, o2, r, rfl, H⟩
      have hb : hload h6 (some (.pointer (some ⟨b, 0, none⟩))) (some 2) = some (.agg #[o1, o2]) := H.bxlds (o := 0) (n := 2) (by simp)
      simp -implicitDefEqProofs (disch := first | omega | (simp only [List.length_set, List.length_replicate, List.length_append, List.length_map, List.length_take, List.length_cons, List.length_nil]; omega)) [wrap64]
      refine (c_IndexFunc_impl_State H.sw2.rep (c1 := []) (c2 := [.pointer (some ⟨b, 0, none⟩)]) (f := fn_impl_System_build_1) rfl (fun y => decide (y = x.aft s t)) ?_).go ?_
      · intro h7 hl j hj w Rw
        exact c_build_1 Rw (H.sw1.rep.le hl) (hload_le hl hb)
      rintro _ h7 ⟨l7, hv⟩
      have hv : _ = Value.int .i64 (fx p.1 (x.aft s t)) := hv
      subst hv
      have hb := hload_le l7 hb
      have H := H.le l7
      by_cases q1 : x.aft s t ∈ p.1
      · obtain ⟨i', hi', e1, e2⟩ := fx_mem q1
        simp -implicitDefEqProofs (disch := first | omega | (simp only [List.length_set, List.length_replicate, List.length_append, List.length_map, List.length_take, List.length_cons, List.length_nil]; omega)) [wrap64, e1, show ¬ ((i' : Int) < 0) by omega]
        refine (c_Contains_int H.sw3.rep).go ?_
        rintro _ h8 ⟨rfl, rfl⟩
        by_cases q2 : (i' : Int) ∈ p.2
        · simp -implicitDefEqProofs (disch := first | omega | (simp only [List.length_set, List.length_replicate, List.length_append, List.length_map, List.length_take, List.length_cons, List.length_nil]; omega)) [wrap64, q2]
          refine hJ1 _ _ hm ⟨xs, q, by simp, ?_⟩
          rw [hsu, g1]
          simp only [adS, atS, q1, if_pos, if_neg, not_false_eq_true, e1, adI, q2]
          exact H.drop.drop
        · simp -implicitDefEqProofs (disch := first | omega | (simp only [List.length_set, List.length_replicate, List.length_append, List.length_map, List.length_take, List.length_cons, List.length_nil]; omega)) [wrap64, q2, setC]
          refine HS.app1 (bytes := 8) H.sw3 (i' : Int) rfl rfl rfl (by exact ⟨by omega, by omega⟩) rfl rfl (by omega) (by omega) fun q' h9 H => ?_
          simp -implicitDefEqProofs (disch := first | omega | (simp only [List.length_set, List.length_replicate, List.length_append, List.length_map, List.length_take, List.length_cons, List.length_nil]; omega)) [wrap64]
          refine hJ1 _ _ hm ⟨xs, q', by simp, ?_⟩
          rw [hsu, g1]
          simp only [adS, atS, q1, if_pos, if_neg, not_false_eq_true, e1, adI, q2]
          exact H.bk3.drop.drop
      · have e1 : (p.1.length : Int) = p.1.length := rfl
        have hC1 := H.sw1.rep.aSta
        simp -implicitDefEqProofs (disch := first | omega | (simp only [List.length_set, List.length_replicate, List.length_append, List.length_map, List.length_take, List.length_cons, List.length_nil]; omega)) [wrap64, fx_not q1, H.sw2.rep.len, hb, setC, hC1]
        refine HS.appO (bytes := 48) (H.drop.sw1.bk1) rfl rfl rfl rfl rfl (by omega) (by omega) fun xs' h8 H => ?_
        simp -implicitDefEqProofs (disch := first | omega | (simp only [List.length_set, List.length_replicate, List.length_append, List.length_map, List.length_take, List.length_cons, List.length_nil]; omega)) [wrap64, setC, H.rep.cells, H.rep.one]
        refine (c_Contains_int H.sw1.rep).go ?_
        rintro _ h8 ⟨rfl, rfl⟩
        by_cases q2 : (p.1.length : Int) ∈ p.2
        · simp -implicitDefEqProofs (disch := first | omega | (simp only [List.length_set, List.length_replicate, List.length_append, List.length_map, List.length_take, List.length_cons, List.length_nil]; omega)) [wrap64, q2]
          refine hJ1 _ _ hm ⟨xs', q, by simp, ?_⟩
          rw [hsu, g1]
          simp only [adS, atS, q1, if_pos, if_neg, not_false_eq_true, e1, adI, q2]
          exact H
        · simp -implicitDefEqProofs (disch := first | omega | (simp only [List.length_set, List.length_replicate, List.length_append, List.length_map, List.length_take, List.length_cons, List.length_nil]; omega)) [wrap64, q2, setC]
          refine HS.app1 (bytes := 8) H.sw1 (p.1.length : Int) rfl rfl rfl (by exact ⟨by omega, by omega⟩) rfl rfl (by omega) (by omega) fun q' h9 H => ?_
          simp -implicitDefEqProofs (disch := first | omega | (simp only [List.length_set, List.length_replicate, List.length_append, List.length_map, List.length_take, List.length_cons, List.length_nil]; omega)) [wrap64]
          refine hJ1 _ _ hm ⟨xs', q', by simp, ?_⟩
          rw [hsu, g1]
          simp only [adS, atS, q1, if_pos, if_neg, not_false_eq_true, e1, adI, q2]
          exact H.sw1
    obtain rfl : m = (enb s x).length := by omega
    have gi := gF_inv (xs := g.states) hs hxo inv.ok _ (Nat.le_refl (enb s x).length)
    generalize gF s x (enb s x).length g.states = p at gi hsucc H
    have hge := gi.ge
    have hl2 := gi.l2
    by_cases q0 : p.2 = []
    · have hl0 : (p.2.length : Int) = 0 := by rw [q0]; rfl
      simp -implicitDefEqProofs (disch := first | omega | (simp only [List.length_set, List.length_replicate, List.length_append, List.length_map, List.length_take, List.length_cons, List.length_nil]; omega)) [wrap64, H.sw1.rep.len, hl0]
      refine H.bls [(i : Int)] rfl rfl (by simp; exact ⟨by omega, by omega⟩) (by decide) fun q' h6 H => ?_
      simp -implicitDefEqProofs (disch := first | omega | (simp only [List.length_set, List.length_replicate, List.length_append, List.length_map, List.length_take, List.length_cons, List.length_nil]; omega)) [wrap64]
      have H : HS h [ow q' (nxS i p.2), ow xs p.1, ow q p.2, ow nx g.next, ow el (enb s x)] h6 := by rw [nxS, if_pos q0]; exact H
      replace H := H.sw2.drop
      refine (c_Clip_int (x := nxS i p.2) H).go ?_
      intro q' h6 H
      have hcl := H.rep.cells
      simp -implicitDefEqProofs (disch := first | omega | (simp only [List.length_set, List.length_replicate, List.length_append, List.length_map, List.length_take, List.length_cons, List.length_nil]; omega)) [wrap64, setC, H.rep.cells, H.rep.one]
      refine HS.appO (bytes := 24) H.sw2.sw1 rfl rfl (by rw [hcl]) rfl rfl (by omega) (by omega) fun nx' h7 H => ?_
      simp -implicitDefEqProofs (disch := first | omega | (simp only [List.length_set, List.length_replicate, List.length_append, List.length_map, List.length_take, List.length_cons, List.length_nil]; omega)) [wrap64, setC, H.rep.cells, H.rep.one, H.sw1.rep.len]
      by_cases q2 : 60 < (p.1.length : Int)
      · simp -implicitDefEqProofs (disch := first | omega | (simp only [List.length_set, List.length_replicate, List.length_append, List.length_map, List.length_take, List.length_cons, List.length_nil]; omega)) [wrap64, q2, setC]
        exact RetK.keep (hno (bg_big (n := i + 1) hs (by omega) (by rw [hsucc]; simp only; omega)) H.base)
      · simp -implicitDefEqProofs (disch := first | omega | (simp only [List.length_set, List.length_replicate, List.length_append, List.length_map, List.length_take, List.length_cons, List.length_nil]; omega)) [wrap64, q2]
        exact hJ (i + 1) _ _ (by omega) ⟨xs, nx', by simp, by rw [hsucc]; exact H.sw1.sw2.drop, by rw [hsucc]; simp only; omega, by rw [hsucc]; simp only; omega⟩
    · have hl0 : ¬ (p.2.length : Int) = 0 := fun e => q0 (List.length_eq_zero_iff.1 (by omega))
      simp -implicitDefEqProofs (disch := first | omega | (simp only [List.length_set, List.length_replicate, List.length_append, List.length_map, List.length_take, List.length_cons, List.length_nil]; omega)) [wrap64, H.sw1.rep.len, q0]
      have H : HS h [ow q (nxS i p.2), ow xs p.1, ow nx g.next, ow el (enb s x)] h5 := by rw [nxS, if_neg q0]; exact H.sw1
      refine (c_Clip_int (x := nxS i p.2) H).go ?_
      intro q' h6 H
      have hcl := H.rep.cells
      simp -implicitDefEqProofs (disch := first | omega | (simp only [List.length_set, List.length_replicate, List.length_append, List.length_map, List.length_take, List.length_cons, List.length_nil]; omega)) [wrap64, setC, H.rep.cells, H.rep.one]
      refine HS.appO (bytes := 24) H.sw2.sw1 rfl rfl (by rw [hcl]) rfl rfl (by omega) (by omega) fun nx' h7 H => ?_
      simp -implicitDefEqProofs (disch := first | omega | (simp only [List.length_set, List.length_replicate, List.length_append, List.length_map, List.length_take, List.length_cons, List.length_nil]; omega)) [wrap64, setC, H.rep.cells, H.rep.one, H.sw1.rep.len]
      by_cases q2 : 60 < (p.1.length : Int)
      · simp -implicitDefEqProofs (disch := first | omega | (simp only [List.length_set, List.length_replicate, List.length_append, List.length_map, List.length_take, List.length_cons, List.length_nil]; omega)) [wrap64, q2, setC]
        exact RetK.keep (hno (bg_big (n := i + 1) hs (by omega) (by rw [hsucc]; simp only; omega)) H.base)
      · simp -implicitDefEqProofs (disch := first | omega | (simp only [List.length_set, List.length_replicate, List.length_append, List.length_map, List.length_take, List.length_cons, List.length_nil]; omega)) [wrap64, q2]
        exact hJ (i + 1) _ _ (by omega) ⟨xs, nx', by simp, by rw [hsucc]; exact H.sw1.sw2.drop, by rw [hsucc]; simp only; omega, by rw [hsucc]; simp only; omega⟩
  · simp -implicitDefEqProofs (disch := first | omega | (simp only [List.length_set, List.length_replicate, List.length_append, List.length_map, List.length_take, List.length_cons, List.length_nil]; omega)) [wrap64]
    obtain ⟨b1, b2⟩ := bg_end (n := i) hs (by omega) (by omega)
    rw [b2] at H
    refine (c_Clip_impl_State H).go ?_
    intro xs' h4 H
    simp -implicitDefEqProofs (disch := first | omega | (simp only [List.length_set, List.length_replicate, List.length_append, List.length_map, List.length_take, List.length_cons, List.length_nil]; omega)) [wrap64]
    refine (c_Clip_S_int H.sw1).go ?_
    intro nx' h5 H
    simp -implicitDefEqProofs (disch := first | omega | (simp only [List.length_set, List.length_replicate, List.length_append, List.length_map, List.length_take, List.length_cons, List.length_nil]; omega)) [wrap64, setC, H.rep.cells, H.rep.one, H.sw1.rep.cells, H.sw1.rep.one]
    exact RetK.keep (hk _ _ ⟨_, by rw [decide_eq_true b1], HS.mkGr H.sw1⟩)
end Go.Proofs.Ytmpgkijhhocfcaa

/-
  The graph of a system: by the reference; both as functions of the package.
-/
namespace Go.Proofs.Ytmpgkijhhocfcaa
open Go
set_option linter.all false
set_option linter.unusedVariables false
set_option linter.unusedSimpArgs false
set_option linter.defProp false
set_option maxRecDepth 1000000

theorem gF_mono {s : Sy} {x : Sta} {xs : List Sta} {n m : Nat} (h : n ≤ m) (hm : m ≤ (enb s x).length) : (gF s x n xs).1.length ≤ (gF s x m xs).1.length := by
  induction m with
  | zero => have : n = 0 := by omega
            subst this; exact Nat.le_refl _
  | succ m ih =>
    by_cases e : n = m + 1
    · subst e; exact Nat.le_refl _
    refine Nat.le_trans (ih (by omega) (by omega)) ?_
    rw [gF_succ (by omega)]
    exact adS_ge
theorem c_spec_BuildGraph {h : Heap} {v : Value} {s : Sy} (R : Rep h v s) : CallE Try.prog fn_spec_BuildGraph [v] h (R2 (decide (bgOk s)) (bgR s) h) := by
  have FS := R.aSy
  have R0 := R
  obtain ⟨v1, v2, rfl, R1, R2'⟩ := Rep_Sy.1 R
  refine CallE.gen fun k hk => EN_spec_BuildGraph rfl ?_
  have hno : ¬ bgOk s → ∀ {h'}, h.le h' → k (.tuple #[.agg #[.slice none 0 0, .slice none 0 0], .bool false]) h' := fun hn h' hl => hk _ _ ⟨_, by rw [decide_eq_false hn], by rw [bgR, if_neg hn]; exact zero_Gr (Γ := []) hl⟩
  simp -implicitDefEqProofs (disch := first | omega | (simp only [List.length_set, List.length_replicate, List.length_append, List.length_map, List.length_take, List.length_cons, List.length_nil]; omega)) [wrap64, FS]
  refine (c_spec_InitialState R0).go ?_
  rintro _ h1 ⟨u, rfl, H⟩
  obtain ⟨o1, o2, rfl, H'⟩ := H.unSta
  have hc1 := H'.rep.one
  have hc2 := H'.sw1.rep.one
  by_cases hs : s.Ok
  case neg =>
    simp -implicitDefEqProofs (disch := first | omega | (simp only [List.length_set, List.length_replicate, List.length_append, List.length_map, List.length_take, List.length_cons, List.length_nil]; omega)) [wrap64, hs, setC, hc1, hc2]
    exact RetK.keep (hno (fun hb => hs hb.1) H.base)
  rw [if_pos hs] at H
  simp -implicitDefEqProofs (disch := first | omega | (simp only [List.length_set, List.length_replicate, List.length_append, List.length_map, List.length_take, List.length_cons, List.length_nil]; omega)) [wrap64, hs, setC, hc1, hc2]
  refine HS.blsO1 H rfl fun xs h2 H => ?_
  simp -implicitDefEqProofs (disch := first | omega | (simp only [List.length_set, List.length_replicate, List.length_append, List.length_map, List.length_take, List.length_cons, List.length_nil]; omega)) [wrap64, setC, H.rep.cells, H.rep.one]
  refine wp_while (σ := Nat) (fun i e h' => ∃ xs nx, e = [none, some (.agg #[v1, v2]), some (.agg #[.slice none 0 0, .slice none 0 0]), none, none, none, some (.agg #[xs, nx]), some (.int .i64 i), none, none, none, none, none] ∧ HS h [ow xs (gN s i).states, ow nx (gN s i).next] h' ∧ i ≤ (gN s i).states.length ∧ (gN s i).states.length ≤ 60) (fun i => 61 - i) 0 ⟨xs, .slice none 0 0, by simp, H.nil_ow.sw1, by simp [gN], by simp [gN]⟩ ?_
  clear H hc1 hc2 H'
  rintro J i _ h3 hJ ⟨xs, nx, rfl, H, hi, h60⟩
  have inv := gN_inv hs i
  have hnl := inv.nl
  simp -implicitDefEqProofs (disch := first | omega | (simp only [List.length_set, List.length_replicate, List.length_append, List.length_map, List.length_take, List.length_cons, List.length_nil]; omega)) [wrap64, H.rep.len]
  refine IteW.mk (fun hlt => ?_) (fun hge => ?_)
  · have hlt : i < (gN s i).states.length := by omega
    have hxo := inv.ok _ (List.getElem_mem hlt)
    have hsucc := gN_succ hlt
    generalize hg : gN s i = g at *
    obtain ⟨x, hx⟩ : ∃ x, x = g.states[i] := ⟨_, rfl⟩
    rw [← hx] at hxo hsucc
    obtain ⟨u, hu, Ru⟩ := H.rep.ld hlt
    change hload _ (some (elp 2 xs i)) (some 2) = some u at hu
    rw [← hx] at Ru
    have hel := enb_len' (st := x) hs
    simp -implicitDefEqProofs (disch := first | omega | (simp only [List.length_set, List.length_replicate, List.length_append, List.length_map, List.length_take, List.length_cons, List.length_nil]; omega)) [wrap64, H.rep.X (n := 2) rfl, hu, Ru.aSta, FS]
    refine (c_l3Steps hs hxo (R0.on H) Ru).go ?_
    intro el h4 G
    have H := G.app H
    simp -implicitDefEqProofs (disch := first | omega | (simp only [List.length_set, List.length_replicate, List.length_append, List.length_map, List.length_take, List.length_cons, List.length_nil]; omega)) [wrap64]
    refine H.bls0 Int fun q h5 H => ?_
    simp -implicitDefEqProofs (disch := first | omega | (simp only [List.length_set, List.length_replicate, List.length_append, List.length_map, List.length_take, List.length_cons, List.length_nil]; omega)) [wrap64]
    refine wp_count (enb s x).length (fun m e h' => ∃ xs q, e = [none, some (.agg #[v1, v2]), some (.agg #[.slice none 0 0, .slice none 0 0]), none, none, none, some (.agg #[xs, nx]), some (.int .i64 i), some el, some q, some (.int .i64 m), none, none] ∧ HS h [ow xs (gF s x m g.states).1, ow q (gF s x m g.states).2, ow nx g.next, ow el (enb s x)] h' ∧ (gF s x m g.states).1.length ≤ 60) ⟨xs, q, by simp, by rw [gF_zero]; exact H.sw1.bk3.sw1, by rw [gF_zero]; exact h60⟩ ?_
    clear H
    rintro J1 m _ h5 hJ1 hm ⟨xs, q, rfl, H, hp60⟩
    simp -implicitDefEqProofs (disch := first | omega | (simp only [List.length_set, List.length_replicate, List.length_append, List.length_map, List.length_take, List.length_cons, List.length_nil]; omega)) [wrap64, H.sw3.rep.len]
    refine IteW.mk (fun hlt1 => ?_) (fun hge1 => ?_)
    · have hm : m < (enb s x).length := by omega
      have gi := gF_inv (xs := g.states) hs hxo inv.ok m (by omega)
      have hsu := gF_succ (xs := g.states) hm
      have hin := enb_in (List.getElem_mem hm)
      have hmo := gF_mono (s := s) (x := x) (xs := g.states) (show m + 1 ≤ (enb s x).length by omega) (Nat.le_refl _)
      obtain ⟨t, ht⟩ : ∃ t, t = (enb s x)[m] := ⟨_, rfl⟩
      generalize gF s x m g.states = p at gi hsu H hp60
      obtain ⟨hip, hxp⟩ := gN_at (x := x) gi hlt
      rw [← hx] at hxp
      rw [← ht] at hsu hin
      have hbig : 60 < (g1 p (x.aft s t)).1.length → ¬ bgOk s := fun hh => bg_big (n := i + 1) hs (by omega) (by rw [hsucc]; rw [hsu] at hmo; simp only; omega)
      obtain ⟨u, hu, Ru⟩ := H.rep.ld hip
      change hload _ (some (elp 2 xs i)) (some 2) = some u at hu
      rw [hxp] at Ru
      have hst := Sta.aft_ok hs hxo hin
      have hl1 := gi.l1
      have hl2 := gi.l2
      simp -implicitDefEqProofs (disch := first | omega | (simp only [List.length_set, List.length_replicate, List.length_append, List.length_map, List.length_take, List.length_cons, List.length_nil]; omega)) [wrap64, H.sw3.rep.xStp, ← ht, H.rep.X (n := 2) rfl, hu, Stp.v, setC, Ru.aSta, FS]
      refine (c_l3Apply hs hxo hin (R0.on H) Ru).go ?_
      intro o h6 HO
      have hC0 := HO.rep.aSta
      obtain ⟨o1, o2, rfl, HO2⟩ := HO.unSta
      have hC1 := HO2.rep.one
      have hC2 := HO2.sw1.rep.one
      have H := HO.app H
      simp -implicitDefEqProofs (disch := first | omega | (simp only [List.length_set, List.length_replicate, List.length_append, List.length_map, List.length_take, List.length_cons, List.length_nil]; omega)) [wrap64, hC1, hC2, setC]
      refine (c_l4Find H.sw1.rep H.rep).go ?_
      rintro _ h6 ⟨rfl, rfl⟩
      by_cases q1 : x.aft s t ∈ p.1
      · obtain ⟨i', hi', e1, e2⟩ := fx_mem q1
        simp -implicitDefEqProofs (disch := first | omega | (simp only [List.length_set, List.length_replicate, List.length_append, List.length_map, List.length_take, List.length_cons, List.length_nil]; omega)) [wrap64, e1, show ¬ ((i' : Int) < 0) by omega]
        by_cases q3 : (60 : Int) ≤ (i' : Int)
        · simp -implicitDefEqProofs (disch := first | omega | (simp only [List.length_set, List.length_replicate, List.length_append, List.length_map, List.length_take, List.length_cons, List.length_nil]; omega)) [wrap64, q3, setC]
          exact RetK.keep (hno (hbig (by omega)) H.base)
        simp -implicitDefEqProofs (disch := first | omega | (simp only [List.length_set, List.length_replicate, List.length_append, List.length_map, List.length_take, List.length_cons, List.length_nil]; omega)) [wrap64, q3]
        refine (c_l4In H.sw2.rep).go ?_
        rintro _ h8 ⟨rfl, rfl⟩
        by_cases q2 : (i' : Int) ∈ p.2
        · simp -implicitDefEqProofs (disch := first | omega | (simp only [List.length_set, List.length_replicate, List.length_append, List.length_map, List.length_take, List.length_cons, List.length_nil]; omega)) [wrap64, q2]
          refine hJ1 _ _ hm ⟨xs, q, by simp, ?_, ?_⟩
          · rw [hsu, g1]
            simp only [adS, atS, q1, if_pos, if_neg, not_false_eq_true, e1, adI, q2]
            exact H.drop
          · rw [hsu, g1]
            simp only [adS, q1, if_pos, if_neg, not_false_eq_true]
            exact hp60
        · simp -implicitDefEqProofs (disch := first | omega | (simp only [List.length_set, List.length_replicate, List.length_append, List.length_map, List.length_take, List.length_cons, List.length_nil]; omega)) [wrap64, q2, setC]
          refine HS.app1 (bytes := 8) H.sw2 (i' : Int) rfl rfl rfl ⟨by omega, by omega⟩ rfl rfl (by omega) (by omega) fun q' h9 H => ?_
          simp -implicitDefEqProofs (disch := first | omega | (simp only [List.length_set, List.length_replicate, List.length_append, List.length_map, List.length_take, List.length_cons, List.length_nil]; omega)) [wrap64]
          refine hJ1 _ _ hm ⟨xs, q', by simp, ?_, ?_⟩
          · rw [hsu, g1]
            simp only [adS, atS, q1, if_pos, if_neg, not_false_eq_true, e1, adI, q2]
            exact H.bk2.drop
          · rw [hsu, g1]
            simp only [adS, q1, if_pos, if_neg, not_false_eq_true]
            exact hp60
      · have e1 : (p.1.length : Int) = p.1.length := rfl
        simp -implicitDefEqProofs (disch := first | omega | (simp only [List.length_set, List.length_replicate, List.length_append, List.length_map, List.length_take, List.length_cons, List.length_nil]; omega)) [wrap64, fx_not q1, H.sw1.rep.len, hC1, hC2, setC]
        refine HS.appO (bytes := 48) H rfl rfl rfl rfl rfl (by omega) (by omega) fun xs' h8 H => ?_
        simp -implicitDefEqProofs (disch := first | omega | (simp only [List.length_set, List.length_replicate, List.length_append, List.length_map, List.length_take, List.length_cons, List.length_nil]; omega)) [wrap64, setC, H.rep.cells, H.rep.one]
        by_cases q3 : (60 : Int) ≤ (p.1.length : Int)
        · simp -implicitDefEqProofs (disch := first | omega | (simp only [List.length_set, List.length_replicate, List.length_append, List.length_map, List.length_take, List.length_cons, List.length_nil]; omega)) [wrap64, q3, setC]
          exact RetK.keep (hno (hbig (by simp only [g1, adS, if_neg q1, List.length_append, List.length_singleton]; omega)) H.base)
        simp -implicitDefEqProofs (disch := first | omega | (simp only [List.length_set, List.length_replicate, List.length_append, List.length_map, List.length_take, List.length_cons, List.length_nil]; omega)) [wrap64, q3]
        refine (c_l4In H.sw1.rep).go ?_
        rintro _ h8 ⟨rfl, rfl⟩
        by_cases q2 : (p.1.length : Int) ∈ p.2
        · simp -implicitDefEqProofs (disch := first | omega | (simp only [List.length_set, List.length_replicate, List.length_append, List.length_map, List.length_take, List.length_cons, List.length_nil]; omega)) [wrap64, q2]
          refine hJ1 _ _ hm ⟨xs', q, by simp, ?_, ?_⟩
          · rw [hsu, g1]
            simp only [adS, atS, q1, if_pos, if_neg, not_false_eq_true, e1, adI, q2]
            exact H
          · rw [hsu, g1]
            simp only [adS, q1, if_pos, if_neg, not_false_eq_true]
            simp only [List.length_append, List.length_singleton]; omega
        · simp -implicitDefEqProofs (disch := first | omega | (simp only [List.length_set, List.length_replicate, List.length_append, List.length_map, List.length_take, List.length_cons, List.length_nil]; omega)) [wrap64, q2, setC]
          refine HS.app1 (bytes := 8) H.sw1 (p.1.length : Int) rfl rfl rfl ⟨by omega, by omega⟩ rfl rfl (by omega) (by omega) fun q' h9 H => ?_
          simp -implicitDefEqProofs (disch := first | omega | (simp only [List.length_set, List.length_replicate, List.length_append, List.length_map, List.length_take, List.length_cons, List.length_nil]; omega)) [wrap64]
          refine hJ1 _ _ hm ⟨xs', q', by simp, ?_, ?_⟩
          · rw [hsu, g1]
            simp only [adS, atS, q1, if_pos, if_neg, not_false_eq_true, e1, adI, q2]
            exact H.sw1
          · rw [hsu, g1]
            simp only [adS, q1, if_pos, if_neg, not_false_eq_true]
            simp only [List.length_append, List.length_singleton]; omega
    obtain rfl : m = (enb s x).length := by omega
    have gi := gF_inv (xs := g.states) hs hxo inv.ok _ (Nat.le_refl (enb s x).length)
    generalize gF s x (enb s x).length g.states = p at gi hsucc H hp60
    have hge := gi.ge
    have hl2 := gi.l2
    by_cases q0 : (enb s x).length = 0
    · have hp : p.2 = [] := List.length_eq_zero_iff.1 (by omega)
      simp -implicitDefEqProofs (disch := first | omega | (simp only [List.length_set, List.length_replicate, List.length_append, List.length_map, List.length_take, List.length_cons, List.length_nil]; omega)) [wrap64, H.sw3.rep.len, q0, setC]
      refine HS.app1 (bytes := 8) H.sw1 (i : Int) rfl rfl rfl ⟨by omega, by omega⟩ rfl rfl (by omega) (by omega) fun q h7 H => ?_
      have H : HS h [ow q (nxS i p.2), ow xs p.1, ow nx g.next, ow el (enb s x)] h7 := by rw [nxS, if_pos hp]; rw [hp] at H; exact H
      simp -implicitDefEqProofs (disch := first | omega | (simp only [List.length_set, List.length_replicate, List.length_append, List.length_map, List.length_take, List.length_cons, List.length_nil]; omega)) [wrap64]
      have hcl := H.rep.cells
      simp -implicitDefEqProofs (disch := first | omega | (simp only [List.length_set, List.length_replicate, List.length_append, List.length_map, List.length_take, List.length_cons, List.length_nil]; omega)) [wrap64, setC, H.rep.cells, H.rep.one]
      refine HS.appO (bytes := 24) H.sw2.sw1 rfl rfl (by rw [hcl]) rfl rfl (by omega) (by omega) fun nx' h7 H => ?_
      simp -implicitDefEqProofs (disch := first | omega | (simp only [List.length_set, List.length_replicate, List.length_append, List.length_map, List.length_take, List.length_cons, List.length_nil]; omega)) [wrap64, setC, H.rep.cells, H.rep.one]
      exact hJ (i + 1) _ _ (by omega) ⟨xs, nx', by simp, by rw [hsucc]; exact H.sw1.sw2.drop, by rw [hsucc]; simp only; omega, by rw [hsucc]; exact hp60⟩
    · have hp : p.2 ≠ [] := gi.ne (by omega)
      have q0' : ¬ (enb s x) = [] := fun e => q0 (by rw [e]; rfl)
      simp -implicitDefEqProofs (disch := first | omega | (simp only [List.length_set, List.length_replicate, List.length_append, List.length_map, List.length_take, List.length_cons, List.length_nil]; omega)) [wrap64, H.sw3.rep.len, q0, q0']
      have H : HS h [ow q (nxS i p.2), ow xs p.1, ow nx g.next, ow el (enb s x)] h5 := by rw [nxS, if_neg hp]; exact H.sw1
      have hcl := H.rep.cells
      simp -implicitDefEqProofs (disch := first | omega | (simp only [List.length_set, List.length_replicate, List.length_append, List.length_map, List.length_take, List.length_cons, List.length_nil]; omega)) [wrap64, setC, H.rep.cells, H.rep.one]
      refine HS.appO (bytes := 24) H.sw2.sw1 rfl rfl (by rw [hcl]) rfl rfl (by omega) (by omega) fun nx' h7 H => ?_
      simp -implicitDefEqProofs (disch := first | omega | (simp only [List.length_set, List.length_replicate, List.length_append, List.length_map, List.length_take, List.length_cons, List.length_nil]; omega)) [wrap64, setC, H.rep.cells, H.rep.one]
      exact hJ (i + 1) _ _ (by omega) ⟨xs, nx', by simp, by rw [hsucc]; exact H.sw1.sw2.drop, by rw [hsucc]; simp only; omega, by rw [hsucc]; exact hp60⟩
  · obtain ⟨b1, b2⟩ := bg_end (n := i) hs (by omega) (by omega)
    rw [b2] at H
    simp -implicitDefEqProofs (disch := first | omega | (simp only [List.length_set, List.length_replicate, List.length_append, List.length_map, List.length_take, List.length_cons, List.length_nil]; omega)) [wrap64, setC, H.rep.cells, H.rep.one, H.sw1.rep.cells, H.sw1.rep.one]
    exact RetK.keep (hk _ _ ⟨_, by rw [decide_eq_true b1], HS.mkGr H⟩)
end Go.Proofs.Ytmpgkijhhocfcaa

/-
  Searching graphs in plain Lean: shortest paths from the first node.
-/
namespace Go.Proofs.Ytmpgkijhhocfcaa
open Go
set_option linter.all false
set_option linter.unusedVariables false
set_option linter.unusedSimpArgs false
set_option linter.defProp false
set_option maxRecDepth 1000000

def bs1 (at' : Int) (p : List Int × List Int) (to : Int) : List Int × List Int := if p.1.getD to.toNat 0 = -2 then (p.1.set to.toNat at', p.2 ++ [to]) else p
def bsF (l : List Int) (at' : Int) (p : List Int × List Int) (n : Nat) : List Int × List Int := (l.take n).foldl (bs1 at') p
def bsR (next : List (List Int)) (i : Nat) (p : List Int × List Int) : List Int × List Int :=
  if i < p.2.length then bsF (next.getD (p.2.getD i 0).toNat []) (p.2.getD i 0) p (next.getD (p.2.getD i 0).toNat []).length else p
def bsN (next : List (List Int)) : Nat → List Int × List Int
  | 0 => ((List.replicate next.length (-2)).set 0 (-1), [0])
  | n + 1 => bsR next n (bsN next n)
theorem bsF_zero {l : List Int} {a : Int} {p : List Int × List Int} : bsF l a p 0 = p := rfl
theorem bsF_succ {l : List Int} {a : Int} {p : List Int × List Int} {n : Nat} (hn : n < l.length) : bsF l a p (n + 1) = bs1 a (bsF l a p n) l[n] := by
  unfold bsF
  rw [List.take_add_one, List.getElem?_eq_getElem hn, List.foldl_append]
  rfl

/-- what holds of a search -/
structure BI (N : Nat) (p : List Int × List Int) : Prop where
  fl : p.1.length = N
  q0 : ∃ t, p.2 = 0 :: t
  z0 : ∃ t, p.1 = -1 :: t
  inq : ∀ x ∈ p.2, 0 ≤ x ∧ x < N ∧ p.1.getD x.toNat 0 ≠ -2
  vis : ∀ j : Nat, j < N → p.1.getD j 0 ≠ -2 → (j : Int) ∈ p.2
  val : ∀ j : Nat, 1 ≤ j → j < N → p.1.getD j 0 = -2 ∨ 0 ≤ p.1.getD j 0
  par : ∀ q : Nat, 1 ≤ q → q < p.2.length → ∃ r : Nat, r < q ∧ p.1.getD (p.2.getD q 0).toNat 0 = p.2.getD r 0
  cnt : p.2.length + p.1.count (-2) = N
/-- one search goes on from another -/
structure BL (p p' : List Int × List Int) : Prop where
  keep : ∀ j : Nat, p.1.getD j 0 ≠ -2 → p'.1.getD j 0 = p.1.getD j 0
  pre : ∃ t, p'.2 = p.2 ++ t
theorem BL.refl {p : List Int × List Int} : BL p p := ⟨fun _ _ => rfl, ⟨[], by simp⟩⟩
theorem BL.trans {p q r : List Int × List Int} (h : BL p q) (h' : BL q r) : BL p r := by
  refine ⟨fun j hj => ?_, ?_⟩
  · have e := h.keep j hj
    rw [h'.keep j (by rw [e]; exact hj), e]
  · obtain ⟨t, e⟩ := h.pre
    obtain ⟨t', e'⟩ := h'.pre
    exact ⟨t ++ t', by rw [e', e, List.append_assoc]⟩
theorem BL.len {p q : List Int × List Int} (h : BL p q) : p.2.length ≤ q.2.length := by
  obtain ⟨t, e⟩ := h.pre
  rw [e]; simp
theorem BL.at {p q : List Int × List Int} (h : BL p q) {i : Nat} (hi : i < p.2.length) : q.2.getD i 0 = p.2.getD i 0 := by
  obtain ⟨t, e⟩ := h.pre
  rw [e, List.getD_eq_getElem?_getD, List.getD_eq_getElem?_getD, List.getElem?_append_left hi]
theorem count_set {l : List Int} : ∀ {k : Nat} (hk : k < l.length) {a b : Int}, l[k] = a → a ≠ b → (l.set k b).count a + 1 = l.count a := by
  induction l with
  | nil => intro k hk; exact absurd hk (Nat.not_lt_zero k)
  | cons x l ih =>
    intro k hk a b h1 h2
    cases k with
    | zero =>
      simp only [List.getElem_cons_zero] at h1
      subst h1
      simp only [List.set_cons_zero, List.count_cons_self]
      rw [List.count_cons_of_ne (Ne.symm h2)]
    | succ k =>
      simp only [List.getElem_cons_succ] at h1
      have := ih (k := k) (by simpa using hk) h1 h2
      simp only [List.set_cons_succ, List.count_cons]
      omega
theorem getD_setI {l : List Int} {k j : Nat} {a : Int} (hk : k < l.length) : (l.set k a).getD j 0 = if k = j then a else l.getD j 0 := by
  rw [List.getD_eq_getElem?_getD, List.getElem?_set]
  split
  · rename_i e; subst e; simp [hk]
  · rw [List.getD_eq_getElem?_getD]
theorem BI.le {N : Nat} {p : List Int × List Int} (h : BI N p) : p.2.length ≤ N := by have := h.cnt; omega
theorem BI.pos {N : Nat} {p : List Int × List Int} (h : BI N p) : 1 ≤ p.2.length := by
  obtain ⟨t, e⟩ := h.q0
  rw [e]; simp
theorem BI.at {N : Nat} {p : List Int × List Int} (h : BI N p) {i : Nat} (hi : i < p.2.length) : 0 ≤ p.2.getD i 0 ∧ p.2.getD i 0 < N ∧ p.1.getD (p.2.getD i 0).toNat 0 ≠ -2 := by
  have e : p.2.getD i 0 = p.2[i] := by simp [hi]
  rw [e]
  exact h.inq _ (List.getElem_mem hi)
theorem BI.step {N : Nat} {p : List Int × List Int} (h : BI N p) {i : Nat} (hi : i < p.2.length) {to : Int} (h0 : 0 ≤ to) (h1 : to < N) : BI N (bs1 (p.2.getD i 0) p to) ∧ BL p (bs1 (p.2.getD i 0) p to) ∧ (bs1 (p.2.getD i 0) p to).1.getD to.toNat 0 ≠ -2 := by
  obtain ⟨a, ha⟩ : ∃ a, a = p.2.getD i 0 := ⟨_, rfl⟩
  have hat := h.at hi
  rw [← ha] at hat ⊢
  unfold bs1
  split
  case isFalse e => exact ⟨h, BL.refl, e⟩
  rename_i e
  obtain ⟨k, rfl⟩ : ∃ k : Nat, to = k := ⟨to.toNat, (Int.toNat_of_nonneg h0).symm⟩
  simp only [Int.toNat_natCast] at e ⊢
  have hkN : k < p.1.length := by rw [h.fl]; omega
  obtain ⟨t0, e0⟩ := h.z0
  obtain ⟨tq, eq⟩ := h.q0
  have hk0 : k ≠ 0 := by
    rintro rfl
    rw [e0] at e
    simp at e
  have hkq : (k : Int) ∉ p.2 := fun hm => by
    have := (h.inq _ hm).2.2
    rw [Int.toNat_natCast] at this
    exact this e
  have hge : p.1[k] = -2 := by rw [← e]; simp [hkN]
  refine ⟨⟨by simp [h.fl], ⟨tq ++ [(k : Int)], by rw [eq]; simp⟩, ?_, ?_, ?_, ?_, ?_, ?_⟩, ⟨fun j hj => ?_, ⟨_, rfl⟩⟩, ?_⟩
  · obtain ⟨k', rfl⟩ : ∃ k', k = k' + 1 := ⟨k - 1, by omega⟩
    exact ⟨t0.set k' a, by simp [e0]⟩
  · intro x hx
    simp only [List.mem_append, List.mem_singleton] at hx
    simp only [getD_setI hkN]
    rcases hx with hx | rfl
    · have := h.inq x hx
      refine ⟨this.1, this.2.1, ?_⟩
      split
      · omega
      · exact this.2.2
    · refine ⟨by omega, by omega, ?_⟩
      simp; omega
  · intro j hj h2
    simp only [getD_setI hkN] at h2
    simp only [List.mem_append, List.mem_singleton]
    split at h2
    · rename_i e2; right; omega
    · exact .inl (h.vis j hj h2)
  · intro j h2 h3
    simp only [getD_setI hkN]
    split
    · right; omega
    · exact h.val j h2 h3
  · intro q h2 h3
    simp only [List.length_append, List.length_singleton] at h3
    by_cases hq : q < p.2.length
    · obtain ⟨r, hr, e2⟩ := h.par q h2 hq
      have e3 : (p.2 ++ [(k : Int)]).getD q 0 = p.2.getD q 0 := by rw [List.getD_eq_getElem?_getD, List.getElem?_append_left hq, List.getD_eq_getElem?_getD]
      have e4 : (p.2 ++ [(k : Int)]).getD r 0 = p.2.getD r 0 := by rw [List.getD_eq_getElem?_getD, List.getElem?_append_left (by omega), List.getD_eq_getElem?_getD]
      refine ⟨r, hr, ?_⟩
      simp only [e3, e4, getD_setI hkN]
      have := h.at hq
      rw [if_neg (fun e5 => hkq (by
        have e6 : p.2.getD q 0 = p.2[q] := by simp [hq]
        have e7 : (k : Int) = p.2[q] := by rw [← e6]; omega
        rw [e7]; exact List.getElem_mem hq)), e2]
    · have hq2 : q = p.2.length := by omega
      subst hq2
      refine ⟨i, hi, ?_⟩
      have e3 : (p.2 ++ [(k : Int)]).getD p.2.length 0 = k := by simp
      have e4 : (p.2 ++ [(k : Int)]).getD i 0 = a := by rw [List.getD_eq_getElem?_getD, List.getElem?_append_left hi, ← List.getD_eq_getElem?_getD, ha]
      simp only [e3, e4, getD_setI hkN, Int.toNat_natCast, if_pos]
  · have h2 := h.cnt
    have h3 := count_set hkN hge (b := a) (by omega)
    simp only [List.length_append, List.length_singleton]
    omega
  · simp only [getD_setI hkN]
    rw [if_neg]
    rintro rfl
    exact hj e
  · simp only [getD_setI hkN, if_pos]
    omega
theorem BI.fold {N : Nat} {p : List Int × List Int} (h : BI N p) {i : Nat} (hi : i < p.2.length) {l : List Int} (hl : ∀ x ∈ l, 0 ≤ x ∧ x < N) : ∀ n, n ≤ l.length → BI N (bsF l (p.2.getD i 0) p n) ∧ BL p (bsF l (p.2.getD i 0) p n) ∧ ∀ (m : Nat) (hm : m < l.length), m < n → (bsF l (p.2.getD i 0) p n).1.getD l[m].toNat 0 ≠ -2
  | 0, _ => ⟨h, BL.refl, fun m _ hm => absurd hm (Nat.not_lt_zero m)⟩
  | n + 1, hn => by
    obtain ⟨h1, h2, h3⟩ := BI.fold h hi hl n (by omega)
    have hx := hl _ (List.getElem_mem (show n < l.length by omega))
    have hi' : i < (bsF l (p.2.getD i 0) p n).2.length := by have := h2.len; omega
    have := h1.step hi' hx.1 hx.2
    rw [h2.at hi] at this
    rw [bsF_succ (by omega)]
    refine ⟨this.1, h2.trans this.2.1, fun m hm hmn => ?_⟩
    by_cases e : m = n
    · subst e; exact this.2.2
    · have h4 := h3 m hm (by omega)
      rw [this.2.1.keep _ h4]
      exact h4

/-- a graph's edges -/
structure NOk (next : List (List Int)) : Prop where
  pos : 1 ≤ next.length
  n60 : next.length ≤ 60
  ent : ∀ l ∈ next, ∀ x ∈ l, 0 ≤ x ∧ x < next.length
  ll : ∀ l ∈ next, l.length ≤ 325
theorem NOk.get {next : List (List Int)} (h : NOk next) {k : Nat} (hk : k < next.length) : next.getD k [] = next[k] ∧ next[k] ∈ next := ⟨by simp [hk], List.getElem_mem hk⟩
theorem bsN_inv {next : List (List Int)} (hn : NOk next) : ∀ n, BI next.length (bsN next n) ∧ ∀ q : Nat, q < n → q < (bsN next n).2.length → ∀ x ∈ next.getD ((bsN next n).2.getD q 0).toNat [], (bsN next n).1.getD x.toNat 0 ≠ -2
  | 0 => by
    refine ⟨?_, fun q hq => absurd hq (Nat.not_lt_zero q)⟩
    have hp := hn.pos
    obtain ⟨m, hm⟩ : ∃ m, next.length = m + 1 := ⟨next.length - 1, by omega⟩
    have e : (bsN next 0).1 = -1 :: List.replicate m (-2) := by simp [bsN, hm, List.replicate_succ]
    have e2 : (bsN next 0).2 = [0] := rfl
    refine ⟨by rw [e, hm]; simp, ⟨[], e2⟩, ⟨_, e⟩, ?_, ?_, ?_, ?_, ?_⟩
    · intro x hx
      rw [e2, List.mem_singleton] at hx
      subst hx
      refine ⟨by omega, by omega, ?_⟩
      rw [e]; simp
    · intro j hj h1
      rw [e] at h1
      rw [e2, List.mem_singleton]
      cases j with
      | zero => rfl
      | succ j =>
        refine absurd ?_ h1
        rw [List.getD_cons_succ]
        simp [show j < m by omega]
    · intro j h1 h2
      left
      rw [e]
      obtain ⟨j', rfl⟩ : ∃ j', j = j' + 1 := ⟨j - 1, by omega⟩
      rw [List.getD_cons_succ]
      simp [show j' < m by omega]
    · intro q h1 h2
      rw [e2] at h2
      simp at h2
      omega
    · rw [e, e2, hm, List.count_cons_of_ne (by decide), List.count_replicate_self]
      simp; omega
  | n + 1 => by
    obtain ⟨h1, h2⟩ := bsN_inv hn n
    rw [bsN, bsR]
    split
    case isFalse hlt => exact ⟨h1, fun q hq hq2 => h2 q (by omega) hq2⟩
    rename_i hlt
    have hat := h1.at hlt
    obtain ⟨k, hk⟩ : ∃ k : Nat, (bsN next n).2.getD n 0 = k := ⟨_, (Int.toNat_of_nonneg hat.1).symm⟩
    have hg := hn.get (k := k) (by omega)
    have hf := h1.fold hlt (l := next.getD ((bsN next n).2.getD n 0).toNat []) (fun x hx => by
      rw [hk, Int.toNat_natCast, hg.1] at hx
      exact hn.ent _ hg.2 x hx) _ (Nat.le_refl _)
    obtain ⟨f1, f2, f3⟩ := hf
    refine ⟨f1, fun q hq hq2 x hx => ?_⟩
    by_cases e : q = n
    · subst e
      rw [f2.at hlt] at hx
      obtain ⟨m, hm, rfl⟩ := List.mem_iff_getElem.1 hx
      exact f3 m hm hm
    · have hq3 : q < (bsN next n).2.length := by omega
      rw [f2.at hq3] at hx
      have := h2 q (by omega) hq3 x hx
      rw [f2.keep _ this]
      exact this
theorem bsN_succ {next : List (List Int)} {n : Nat} (h : n < (bsN next n).2.length) : bsN next (n + 1) = bsF (next.getD ((bsN next n).2.getD n 0).toNat []) ((bsN next n).2.getD n 0) (bsN next n) (next.getD ((bsN next n).2.getD n 0).toNat []).length := by
  rw [bsN, bsR, if_pos h]
theorem bsN_stop {next : List (List Int)} {n : Nat} (h : (bsN next n).2.length ≤ n) : bsN next (n + 1) = bsN next n := by
  rw [bsN, bsR, if_neg (by omega)]
theorem bsN_bl {next : List (List Int)} (hn : NOk next) {n m : Nat} (h : n ≤ m) : BL (bsN next n) (bsN next m) := by
  induction m with
  | zero => have : n = 0 := by omega
            subst this; exact BL.refl
  | succ m ih =>
    by_cases e : n = m + 1
    · subst e; exact BL.refl
    refine (ih (by omega)).trans ?_
    have hi := (bsN_inv hn m).1
    by_cases hlt : m < (bsN next m).2.length
    · rw [bsN_succ hlt]
      have hat := hi.at hlt
      obtain ⟨k, hk⟩ : ∃ k : Nat, (bsN next m).2.getD m 0 = k := ⟨_, (Int.toNat_of_nonneg hat.1).symm⟩
      have hg := hn.get (k := k) (by omega)
      exact (hi.fold hlt (fun x hx => by
        rw [hk, Int.toNat_natCast, hg.1] at hx
        exact hn.ent _ hg.2 x hx) _ (Nat.le_refl _)).2.1
    · rw [bsN_stop (by omega)]; exact BL.refl
theorem bsN_fix {next : List (List Int)} {n m : Nat} (h : (bsN next n).2.length ≤ n) (hm : n ≤ m) : bsN next m = bsN next n := by
  induction m with
  | zero => have : n = 0 := by omega
            subst this; rfl
  | succ m ih =>
    by_cases e : n = m + 1
    · subst e; rfl
    have := ih (by omega)
    rw [bsN_stop (by rw [this]; omega), this]

/-- the way back to the first node -/
inductive Chn (f : List Int) : Int → List Int → Prop where
  | z : Chn f (-1) []
  | s {a : Int} {l : List Int} : 0 ≤ a → a < f.length → Chn f (f.getD a.toNat 0) l → Chn f a (l ++ [a])
theorem Chn.neg {f : List Int} {l : List Int} (h : Chn f (-1) l) : l = [] := by
  generalize hx : (-1 : Int) = x at h
  cases h with
  | z => rfl
  | s h0 _ _ => omega
theorem Chn.un {f : List Int} {a : Int} {l : List Int} (h : Chn f a l) (h0 : 0 ≤ a) : ∃ l', l = l' ++ [a] ∧ a < f.length ∧ Chn f (f.getD a.toNat 0) l' := by
  cases h with
  | z => omega
  | s h1 h2 h3 => exact ⟨_, rfl, h2, h3⟩
theorem Chn.ge {f : List Int} {a : Int} {l : List Int} (h : Chn f a l) : -1 ≤ a := by
  cases h with
  | z => decide
  | s h1 _ _ => omega
theorem Chn.det {f : List Int} {a : Int} {l : List Int} (h : Chn f a l) : ∀ {l'}, Chn f a l' → l = l' := by
  induction h with
  | z => exact fun h' => h'.neg.symm
  | s h1 h2 h3 ih =>
    intro l' h'
    obtain ⟨l2, rfl, _, h4⟩ := h'.un h1
    rw [ih h4]
theorem Chn.bl {p p' : List Int × List Int} (hb : BL p p') (hl : p.1.length = p'.1.length) {a : Int} {l : List Int} (h : Chn p.1 a l) : Chn p'.1 a l := by
  induction h with
  | z => exact .z
  | s h1 h2 h3 ih =>
    refine .s h1 (by omega) ?_
    have := h3.ge
    rw [hb.keep _ (by omega)]
    exact ih
theorem Chn.all {f : List Int} {a : Int} {l : List Int} (h : Chn f a l) : ∀ x ∈ l, 0 ≤ x ∧ x < f.length := by
  induction h with
  | z => simp
  | s h1 h2 h3 ih =>
    intro x hx
    simp only [List.mem_append, List.mem_singleton] at hx
    rcases hx with hx | rfl
    · exact ih x hx
    · exact ⟨h1, h2⟩
theorem BI.chn {N : Nat} {p : List Int × List Int} (h : BI N p) : ∀ (q : Nat), q < p.2.length → ∃ l, Chn p.1 (p.2.getD q 0) l ∧ l.length ≤ q + 1 := by
  intro q
  induction q using Nat.strongRecOn with
  | _ q ih =>
    intro hq
    obtain ⟨tz, ez⟩ := h.z0
    obtain ⟨tq, eq⟩ := h.q0
    have hat := h.at hq
    by_cases e : q = 0
    · subst e
      have e1 : p.2.getD 0 0 = 0 := by rw [eq]; simp
      rw [e1]
      refine ⟨[] ++ [0], .s (by decide) (by rw [ez]; simp) ?_, by simp⟩
      rw [ez]
      exact .z
    · obtain ⟨r, hr, e1⟩ := h.par q (by omega) hq
      obtain ⟨l, h1, h2⟩ := ih r hr (by omega)
      refine ⟨l ++ [p.2.getD q 0], .s hat.1 (by rw [h.fl]; exact hat.2.1) (by rw [e1]; exact h1), by simp; omega⟩

/-- all nodes are found -/
theorem bs_all {next : List (List Int)} (hn : NOk next) (hr : ∀ j : Nat, 1 ≤ j → j < next.length → ∃ (i : Nat) (hi : i < next.length), i < j ∧ (j : Int) ∈ next[i]) {n : Nat} (hd : (bsN next n).2.length ≤ n) : ∀ j : Nat, j < next.length → (j : Int) ∈ (bsN next n).2 := by
  intro j
  obtain ⟨h1, h2⟩ := bsN_inv hn n
  induction j using Nat.strongRecOn with
  | _ j ih =>
    intro hj
    by_cases e : j = 0
    · subst e
      obtain ⟨t, e⟩ := h1.q0
      rw [e]; simp
    · obtain ⟨i, hi, hij, hm⟩ := hr j (by omega) hj
      obtain ⟨q, hq, e1⟩ := List.mem_iff_getElem.1 (ih i hij hi)
      have e2 : (bsN next n).2.getD q 0 = i := by rw [← e1]; simp [hq]
      have := h2 q (by omega) hq (j : Int) (by rw [e2, Int.toNat_natCast, (hn.get hi).1]; exact hm)
      rw [Int.toNat_natCast] at this
      exact h1.vis j hj this
noncomputable def pth (next : List (List Int)) (a : Int) : List Int := open Classical in if h : ∃ l, Chn (bsN next next.length).1 a l then h.choose else []
theorem pth_eq {next : List (List Int)} (hn : NOk next) {n : Nat} {a : Int} {l : List Int} (h : Chn (bsN next n).1 a l) (hle : n ≤ next.length) : pth next a = l := by
  have h2 := Chn.bl (bsN_bl hn hle) (by rw [(bsN_inv hn n).1.fl, (bsN_inv hn next.length).1.fl]) h
  have h3 : ∃ l, Chn (bsN next next.length).1 a l := ⟨l, h2⟩
  unfold pth
  rw [dif_pos h3]
  exact h3.choose_spec.det h2
theorem bs_done {next : List (List Int)} (hn : NOk next) : (bsN next next.length).2.length ≤ next.length := (bsN_inv hn _).1.le
theorem pth_chn {next : List (List Int)} (hn : NOk next) (hr : ∀ j : Nat, 1 ≤ j → j < next.length → ∃ (i : Nat) (hi : i < next.length), i < j ∧ (j : Int) ∈ next[i]) {j : Nat} (hj : j < next.length) : Chn (bsN next next.length).1 j (pth next j) ∧ (pth next j).length ≤ 60 := by
  have h1 := bs_all hn hr (bs_done hn) j hj
  obtain ⟨q, hq, e⟩ := List.mem_iff_getElem.1 h1
  obtain ⟨l, h2, h3⟩ := (bsN_inv hn next.length).1.chn q hq
  have e2 : (bsN next next.length).2.getD q 0 = j := by rw [← e]; simp [hq]
  rw [e2] at h2
  rw [pth_eq hn h2 (Nat.le_refl _)]
  have := bs_done hn
  have := hn.n60
  exact ⟨h2, by omega⟩
end Go.Proofs.Ytmpgkijhhocfcaa

/-
  Shortest paths: by the program.
-/
namespace Go.Proofs.Ytmpgkijhhocfcaa
open Go
set_option linter.all false
set_option linter.unusedVariables false
set_option linter.unusedSimpArgs false
set_option linter.defProp false
set_option maxRecDepth 1000000

theorem Gr.Fin.nok {s : Sy} {g : Gr} (h : g.Fin s) : NOk g.next := ⟨by rw [h.nl]; exact h.pos, by rw [h.nl]; exact h.n60, fun l hl x hx => by rw [h.nl]; exact (h.ent l hl).2 x hx, h.ll⟩
def Rch (next : List (List Int)) : Prop := ∀ j : Nat, 1 ≤ j → j < next.length → ∃ (i : Nat) (hi : i < next.length), i < j ∧ (j : Int) ∈ next[i]
theorem Gr.Fin.rr {s : Sy} {g : Gr} (h : g.Fin s) : Rch g.next := fun j h1 h2 => h.rch j h1 (by rw [← h.nl]; exact h2)

theorem c_Reverse_int {g h : Heap} {Γ : List HP} {v : Value} {x : List Int} (H : HS g (ow v x :: Γ) h) : CallE Try.prog fn_slices_Reverse_S_int_int [v] h (fun _ h' => HS g (ow v x.reverse :: Γ) h') := by
  have hL := H.rep.lt
  have hok := fun {i : Nat} (hi : i < x.length) => H.rep.okI hi
  refine CallE.gen fun k hk => EN_slices_Reverse_S_int_int rfl ?_
  simp -implicitDefEqProofs (disch := first | omega | (simp only [List.length_set, List.length_replicate, List.length_append, List.length_map, List.length_take, List.length_cons, List.length_nil]; omega)) [wrap64, H.rep.len]
  refine wp_while (σ := Nat) (fun i e h' => e = [some v, some (.int .i64 i), some (.int .i64 ((x.length : Int) - 1 - i))] ∧ i ≤ x.length ∧ ∃ y, HS g (ow v y :: Γ) h' ∧ y.length = x.length ∧ (i = 0 ∨ 2 * i ≤ x.length) ∧ ∀ (k : Nat), k < x.length → y.getD k 0 = if k < i ∨ x.length - 1 - i < k then x.getD (x.length - 1 - k) 0 else x.getD k 0) (fun i => x.length - i) 0 ⟨by simp, by omega, x, H, rfl, .inl rfl, fun k hk => by rw [if_neg (by omega)]⟩ ?_
  clear H
  rintro J i _ h1 hJ ⟨rfl, hi, y, H, hl, h0, hy⟩
  simp -implicitDefEqProofs (disch := first | omega | (simp only [List.length_set, List.length_replicate, List.length_append, List.length_map, List.length_take, List.length_cons, List.length_nil]; omega)) [wrap64]
  refine IteW.mk (fun hlt => ?_) (fun hge => ?_)
  · have hin : 2 * i + 1 < x.length := by omega
    have hiy : i < y.length := by omega
    have hjy : x.length - 1 - i < y.length := by omega
    have hcast : (x.length : Int) - 1 - i = ((x.length - 1 - i : Nat) : Int) := by omega
    have o1 := H.rep.okI hiy
    have o2 := H.rep.okI hjy
    rw [hcast]
    simp -implicitDefEqProofs (disch := first | omega | (simp only [List.length_set, List.length_replicate, List.length_append, List.length_map, List.length_take, List.length_cons, List.length_nil]; omega)) [wrap64, H.rep.I]
    refine H.storeF y[x.length - 1 - i] (i := i) hiy rfl rfl ⟨o2.1, o2.2⟩ rfl fun h2 H => ?_
    simp -implicitDefEqProofs (disch := first | omega | (simp only [List.length_set, List.length_replicate, List.length_append, List.length_map, List.length_take, List.length_cons, List.length_nil]; omega)) [wrap64, H.rep.I]
    refine H.storeF y[i] (i := x.length - 1 - i) (by simpa using hjy) rfl rfl ⟨o1.1, o1.2⟩ rfl fun h3 H => ?_
    simp -implicitDefEqProofs (disch := first | omega | (simp only [List.length_set, List.length_replicate, List.length_append, List.length_map, List.length_take, List.length_cons, List.length_nil]; omega)) [wrap64]
    refine hJ (i + 1) _ _ (by omega) ⟨by simp; omega, by omega, _, H, by simp [hl], .inr (by omega), fun k hk => ?_⟩
    have e1 : y[i] = x.getD i 0 := by
      have := hy i (by omega)
      rw [if_neg (by omega)] at this
      rw [← this]; simp [hiy]
    have e2 : y[x.length - 1 - i] = x.getD (x.length - 1 - i) 0 := by
      have := hy (x.length - 1 - i) (by omega)
      rw [if_neg (by omega)] at this
      rw [← this]; simp [hjy]
    rw [getD_setI (by simpa using hjy), getD_setI hiy, e1, e2, hy k hk]
    by_cases c1 : x.length - 1 - i = k
    · rw [if_pos c1, if_pos (by omega)]
      congr 1; omega
    · rw [if_neg c1]
      by_cases c2 : i = k
      · rw [if_pos c2, if_pos (by omega)]
        congr 1; omega
      · rw [if_neg c2]
        by_cases c3 : k < i ∨ x.length - 1 - i < k
        · rw [if_pos c3, if_pos (by omega)]
        · rw [if_neg c3, if_neg (by omega)]
  · simp -implicitDefEqProofs (disch := first | omega | (simp only [List.length_set, List.length_replicate, List.length_append, List.length_map, List.length_take, List.length_cons, List.length_nil]; omega)) [wrap64]
    have he : y = x.reverse := by
      refine List.ext_getElem (by simp [hl]) fun k h1 h2 => ?_
      have hk : k < x.length := by omega
      have := hy k hk
      rw [List.getElem_reverse]
      have e1 : y.getD k 0 = y[k] := by simp [h1]
      rw [← e1, this]
      split
      · simp [show x.length - 1 - k < x.length by omega]
      · have e2 : k = x.length - 1 - k := by omega
        have e3 : x[x.length - 1 - k]'(by omega) = x.getD (x.length - 1 - k) 0 := by simp [show x.length - 1 - k < x.length by omega]
        rw [e3, ← e2]
    exact RetK.keep (hk _ _ (he ▸ H))

theorem c_shortest {h : Heap} {v w fv : Value} {next : List (List Int)} (hn : NOk next) (hr : Rch next) (R : Rep h v next) (Rs : Rep h w [(0 : Int)]) {to : Nat} (hto : to < next.length) {f : FuncId} {c1 c2 : List Value} (hf : fnOf fv = some (f, c1, c2))
    (hp : ∀ h1, h.le h1 → ∀ a : Int, 0 ≤ a → a < 60 → CallE Try.prog f (c1 ++ .int .i64 a :: c2) h1 (fun u h' => h1.le h' ∧ u = .bool (decide (a = to)))) :
    CallE Try.prog fn_impl_shortest [v, w, fv] h (fun u h' => HS h [ow u (pth next to)] h') := by
  have hL := R.lt
  have h60 := hn.n60
  have hpos := hn.pos
  refine CallE.gen fun k hk => EN_impl_shortest rfl ?_
  simp -implicitDefEqProofs (disch := first | omega | (simp only [List.length_set, List.length_replicate, List.length_append, List.length_map, List.length_take, List.length_cons, List.length_nil]; omega)) [wrap64, R.len]
  refine HS.init.mks (α := Int) (z := (0 : Int)) rfl rfl (own_zero (by decide) (by decide)) (Nat.le_refl _) (by omega) (by omega) fun o h1 H => ?_
  simp -implicitDefEqProofs (disch := first | omega | (simp only [List.length_set, List.length_replicate, List.length_append, List.length_map, List.length_take, List.length_cons, List.length_nil]; omega)) [wrap64, H.rep.len]
  refine wp_count next.length (fun i e h' => e = [some v, some w, some fv, none, some o, none, none, none, none, none, none, none, some (.int .i64 next.length), some (.int .i64 i), none, none, none, none, none, none] ∧ ∃ y, HS h [ow o y] h' ∧ y.length = next.length ∧ y.take i = (List.replicate next.length (-2)).take i) ⟨by simp, _, H, by simp, by simp⟩ ?_
  clear H
  rintro J i _ h1 hJ hi ⟨rfl, y, H, hl, hy⟩
  simp -implicitDefEqProofs (disch := first | omega | (simp only [List.length_set, List.length_replicate, List.length_append, List.length_map, List.length_take, List.length_cons, List.length_nil]; omega)) [wrap64]
  refine IteW.mk (fun hlt => ?_) (fun hge => ?_)
  · have hlx : i < next.length := by omega
    simp -implicitDefEqProofs (disch := first | omega | (simp only [List.length_set, List.length_replicate, List.length_append, List.length_map, List.length_take, List.length_cons, List.length_nil]; omega)) [wrap64, H.rep.I]
    refine H.storeF (-2) (i := i) (by omega) rfl rfl ⟨by omega, by omega⟩ rfl fun h2 H => ?_
    simp -implicitDefEqProofs (disch := first | omega | (simp only [List.length_set, List.length_replicate, List.length_append, List.length_map, List.length_take, List.length_cons, List.length_nil]; omega)) [wrap64]
    refine hJ _ _ hlx ⟨by simp, _, H, by simp [hl], ?_⟩
    have := take_set_succ (x := List.replicate next.length (-2 : Int)) hy (by simpa using hlx) (by simpa using hl)
    simpa using this
  have he : y = List.replicate next.length (-2) := eq_of_take hy (by simp; omega) (by simpa using hl)
  subst he
  simp -implicitDefEqProofs (disch := first | omega | (simp only [List.length_set, List.length_replicate, List.length_append, List.length_map, List.length_take, List.length_cons, List.length_nil]; omega)) [wrap64, (Rs.on H).len]
  refine wp_count 1 (fun i e h' => ∃ q, e = [some v, none, some fv, none, some o, none, some q, none, none, none, none, none, none, none, some w, some (.int .i64 1), some (.int .i64 i), none, none, none] ∧ (i = 0 → HS h [ow o (List.replicate next.length (-2)), ow q ([] : List Int)] h') ∧ (i = 1 → HS h [ow o (bsN next 0).1, ow q (bsN next 0).2] h')) ⟨.slice none 0 0, by simp, fun _ => H.nil_ow.sw1, fun h => absurd h (by decide)⟩ ?_
  clear H hy hl
  rintro J1 i1 _ h1 hJ1 hi1 ⟨q, rfl, Ha, Hb⟩
  simp -implicitDefEqProofs (disch := first | omega | (simp only [List.length_set, List.length_replicate, List.length_append, List.length_map, List.length_take, List.length_cons, List.length_nil]; omega)) [wrap64]
  refine IteW.mk (fun hlt1 => ?_) (fun hge1 => ?_)
  · obtain rfl : i1 = 0 := by omega
    have H := Ha rfl
    simp -implicitDefEqProofs (disch := first | omega | (simp only [List.length_set, List.length_replicate, List.length_append, List.length_map, List.length_take, List.length_cons, List.length_nil]; omega)) [wrap64, (Rs.on H).I, H.rep.I]
    refine H.storeF (-1) (i := 0) (by simp; omega) rfl rfl ⟨by omega, by omega⟩ rfl fun h2 H => ?_
    simp -implicitDefEqProofs (disch := first | omega | (simp only [List.length_set, List.length_replicate, List.length_append, List.length_map, List.length_take, List.length_cons, List.length_nil]; omega)) [wrap64, setC]
    refine HS.app1 (bytes := 8) H.sw1 (0 : Int) rfl rfl rfl ⟨by omega, by omega⟩ rfl rfl (by simp) (by simp) fun q' h3 H => ?_
    simp -implicitDefEqProofs (disch := first | omega | (simp only [List.length_set, List.length_replicate, List.length_append, List.length_map, List.length_take, List.length_cons, List.length_nil]; omega)) [wrap64]
    exact hJ1 _ _ (by omega) ⟨q', by simp, fun h => absurd h (by decide), fun _ => H.sw1⟩
  have H := Hb (by omega)
  clear Ha Hb
  simp -implicitDefEqProofs (disch := first | omega | (simp only [List.length_set, List.length_replicate, List.length_append, List.length_map, List.length_take, List.length_cons, List.length_nil]; omega)) [wrap64]
  refine wp_while (σ := Nat) (fun i e h' => ∃ q, e = [some v, none, some fv, none, some o, none, some q, none, some (.int .i64 i), none, none, none, none, none, none, none, none, none, none, none] ∧ HS h [ow o (bsN next i).1, ow q (bsN next i).2] h' ∧ i ≤ (bsN next i).2.length ∧ ∀ j : Nat, j < i → (bsN next i).2.getD j 0 ≠ to) (fun i => 61 - i) 0 ⟨q, by simp, H, by omega, fun j hj => absurd hj (Nat.not_lt_zero j)⟩ ?_
  clear H
  rintro J2 i _ h1 hJ2 ⟨q, rfl, H, hi, hnot⟩
  obtain ⟨bi, bd⟩ := bsN_inv hn i
  have hle := bi.le
  have hql := H.sw1.rep.lt
  simp -implicitDefEqProofs (disch := first | omega | (simp only [List.length_set, List.length_replicate, List.length_append, List.length_map, List.length_take, List.length_cons, List.length_nil]; omega)) [wrap64, H.sw1.rep.len]
  refine IteW.mk (fun hlt => ?_) (fun hge => ?_)
  · have hlt : i < (bsN next i).2.length := by omega
    have hat := bi.at hlt
    have hsucc := bsN_succ hlt
    obtain ⟨a, ha⟩ : ∃ a : Nat, (bsN next i).2.getD i 0 = a := ⟨_, (Int.toNat_of_nonneg hat.1).symm⟩
    have ha' : (bsN next i).2[i] = a := by rw [← ha]; simp [hlt]
    rw [ha] at hat hsucc
    rw [Int.toNat_natCast] at hat hsucc
    have haN : a < next.length := by omega
    have hg := hn.get haN
    rw [hg.1] at hsucc
    simp -implicitDefEqProofs (disch := first | omega | (simp only [List.length_set, List.length_replicate, List.length_append, List.length_map, List.length_take, List.length_cons, List.length_nil]; omega)) [wrap64, H.sw1.rep.I, ha', hf]
    refine (hp h1 H.base a (by omega) (by omega)).go ?_
    rintro _ h2 ⟨l2, rfl⟩
    have H := H.le l2
    by_cases q1 : (a : Int) = to
    · obtain ⟨l, c1, c2⟩ := bi.chn i hlt
      rw [ha, q1] at c1
      have hpe := pth_eq hn c1 (by omega)
      have hca := c1.all
      simp -implicitDefEqProofs (disch := first | omega | (simp only [List.length_set, List.length_replicate, List.length_append, List.length_map, List.length_take, List.length_cons, List.length_nil]; omega)) [wrap64, q1]
      refine wp_while (σ := List Int × List Int × Int) (fun t e h' => ∃ u, e = [none, none, none, none, some o, none, none, none, none, some (.int .i64 t.2.2), some u, none, none, none, none, none, none, none, none, none] ∧ HS h [ow u t.2.1, ow o (bsN next i).1, ow q (bsN next i).2] h' ∧ Chn (bsN next i).1 t.2.2 t.1 ∧ t.1 ++ t.2.1.reverse = l) (fun t => t.1.length) (l, [], (to : Int)) ⟨.slice none 0 0, by simp, H.nil_ow, c1, by simp⟩ ?_
      clear H
      rintro J3 ⟨l1, l2', b⟩ _ h3 hJ3 ⟨u, rfl, H, c3, c4⟩
      simp only at c3 c4 H ⊢
      by_cases hb : 0 ≤ b
      · obtain ⟨l1', rfl, hbl, c5⟩ := c3.un hb
        obtain ⟨b', rfl⟩ : ∃ b' : Nat, b = b' := ⟨b.toNat, (Int.toNat_of_nonneg hb).symm⟩
        have hlen : l2'.length ≤ 60 := by
          have := congrArg List.length c4
          simp at this
          omega
        have hbl' : b' < (bsN next i).1.length := by omega
        have hge2 := c5.ge
        have hbd : (bsN next i).1.getD b' 0 = (bsN next i).1[b'] := by simp [hbl']
        rw [Int.toNat_natCast, hbd] at c5
        have hok := H.sw1.rep.okI hbl'
        have hfl0 := bi.fl
        simp -implicitDefEqProofs (disch := first | omega | (simp only [List.length_set, List.length_replicate, List.length_append, List.length_map, List.length_take, List.length_cons, List.length_nil]; omega)) [wrap64, setC]
        refine HS.app1 (bytes := 8) H (b' : Int) rfl rfl rfl ⟨by omega, by omega⟩ rfl rfl (by omega) (by omega) fun u' h4 H => ?_
        simp -implicitDefEqProofs (disch := first | omega | (simp only [List.length_set, List.length_replicate, List.length_append, List.length_map, List.length_take, List.length_cons, List.length_nil]; omega)) [wrap64, H.sw1.rep.I]
        exact hJ3 (l1', l2' ++ [(b' : Int)], (bsN next i).1[b']) _ _ (by simp) ⟨u', by simp, H, c5, by rw [← c4]; simp⟩
      · have hb1 : b = -1 := by have := c3.ge; omega
        subst hb1
        have hl1 := c3.neg
        subst hl1
        simp -implicitDefEqProofs (disch := first | omega | (simp only [List.length_set, List.length_replicate, List.length_append, List.length_map, List.length_take, List.length_cons, List.length_nil]; omega)) [wrap64]
        refine (c_Reverse_int H).go ?_
        intro _ h4 H
        simp -implicitDefEqProofs (disch := first | omega | (simp only [List.length_set, List.length_replicate, List.length_append, List.length_map, List.length_take, List.length_cons, List.length_nil]; omega)) [wrap64]
        refine (c_Clip_int H).go ?_
        intro u' h5 H
        simp -implicitDefEqProofs (disch := first | omega | (simp only [List.length_set, List.length_replicate, List.length_append, List.length_map, List.length_take, List.length_cons, List.length_nil]; omega)) [wrap64]
        refine RetK.keep (hk _ _ ?_)
        have hfin : pth next to = l2'.reverse := by rw [hpe, ← c4]; simp
        rw [hfin]
        exact H.only
    · obtain ⟨u, hu, Ru⟩ := R.ldL haN
      have hu := hload_le H.base hu
      have hul := Ru.len
      have hll := hn.ll _ hg.2
      have hent := hn.ent _ hg.2
      simp -implicitDefEqProofs (disch := first | omega | (simp only [List.length_set, List.length_replicate, List.length_append, List.length_map, List.length_take, List.length_cons, List.length_nil]; omega)) [wrap64, q1, H.sw1.rep.I, ha', R.X (n := 1) rfl, hu, hul]
      refine wp_count next[a].length (fun m e h' => ∃ q, e = [some v, none, some fv, none, some o, none, some q, none, some (.int .i64 i), none, none, none, none, none, none, none, none, some u, some (.int .i64 next[a].length), some (.int .i64 m)] ∧ HS h [ow o (bsF next[a] a (bsN next i) m).1, ow q (bsF next[a] a (bsN next i) m).2] h') ⟨q, by simp, by rw [bsF_zero]; exact H⟩ ?_
      clear H
      rintro J4 m _ h3 hJ4 hm ⟨q, rfl, H⟩
      simp -implicitDefEqProofs (disch := first | omega | (simp only [List.length_set, List.length_replicate, List.length_append, List.length_map, List.length_take, List.length_cons, List.length_nil]; omega)) [wrap64]
      refine IteW.mk (fun hlt4 => ?_) (fun hge4 => ?_)
      · have hm : m < next[a].length := by omega
        have hfo := bi.fold hlt (l := next[a]) hent m (by omega)
        rw [ha] at hfo
        obtain ⟨f1, f2, _⟩ := hfo
        have hfs := bsF_succ (a := (a : Int)) (p := bsN next i) hm
        have hxr := hent _ (List.getElem_mem hm)
        have hqi : (bsF next[a] a (bsN next i) m).2.getD i 0 = a := by rw [f2.at hlt, ha]
        have hil : i < (bsF next[a] a (bsN next i) m).2.length := by have := f2.len; omega
        have hfl := f1.fl
        have hfle := f1.le
        generalize bsF next[a] a (bsN next i) m = p at *
        obtain ⟨x, hx⟩ : ∃ x : Nat, next[a][m] = x := ⟨_, (Int.toNat_of_nonneg hxr.1).symm⟩
        rw [hx] at hxr
        have hxl : x < p.1.length := by omega
        have hqi' : p.2[i] = a := by rw [← hqi]; simp [hil]
        have hxd : p.1.getD x 0 = p.1[x] := by simp [hxl]
        rw [bs1, hx, Int.toNat_natCast, hxd] at hfs
        have RuI := (Ru.on H).I
        by_cases q2 : p.1[x] = -2
        · rw [if_pos q2] at hfs
          simp -implicitDefEqProofs (disch := first | omega | (simp only [List.length_set, List.length_replicate, List.length_append, List.length_map, List.length_take, List.length_cons, List.length_nil]; omega)) [wrap64, RuI, hx, H.rep.I, q2, H.sw1.rep.I, hqi']
          refine H.storeF (a : Int) (i := x) hxl rfl rfl ⟨by omega, by omega⟩ rfl fun h4 H => ?_
          simp -implicitDefEqProofs (disch := first | omega | (simp only [List.length_set, List.length_replicate, List.length_append, List.length_map, List.length_take, List.length_cons, List.length_nil]; omega)) [wrap64, setC]
          refine HS.app1 (bytes := 8) H.sw1 (x : Int) rfl rfl rfl ⟨by omega, by omega⟩ rfl rfl (by omega) (by omega) fun q' h5 H => ?_
          simp -implicitDefEqProofs (disch := first | omega | (simp only [List.length_set, List.length_replicate, List.length_append, List.length_map, List.length_take, List.length_cons, List.length_nil]; omega)) [wrap64]
          exact hJ4 _ _ hm ⟨q', by simp, by rw [hfs]; exact H.sw1⟩
        · rw [if_neg q2] at hfs
          simp -implicitDefEqProofs (disch := first | omega | (simp only [List.length_set, List.length_replicate, List.length_append, List.length_map, List.length_take, List.length_cons, List.length_nil]; omega)) [wrap64, RuI, hx, H.rep.I, q2]
          exact hJ4 _ _ hm ⟨q, by simp, by rw [hfs]; exact H⟩
      simp -implicitDefEqProofs (disch := first | omega | (simp only [List.length_set, List.length_replicate, List.length_append, List.length_map, List.length_take, List.length_cons, List.length_nil]; omega)) [wrap64]
      obtain rfl : m = next[a].length := by omega
      rw [← hsucc] at H
      have hbl := bsN_bl hn (show i ≤ i + 1 by omega)
      have hlen := hbl.len
      refine hJ2 (i + 1) _ _ (by omega) ⟨q, by simp, H, by omega, fun j hj => ?_⟩
      rw [hbl.at (by omega)]
      by_cases hji : j = i
      · subst hji; rw [ha]; exact q1
      · exact hnot j (by omega)
  · have hin := bs_all hn hr (n := i) (by omega) to hto
    obtain ⟨j, hj, e⟩ := List.mem_iff_getElem.1 hin
    exact absurd (by rw [← e]; simp [hj]) (hnot j (by omega))
end Go.Proofs.Ytmpgkijhhocfcaa

/-
  Shortest paths: by the reference; states along paths, by the program and by the reference.
-/
namespace Go.Proofs.Ytmpgkijhhocfcaa
open Go
set_option linter.all false
set_option linter.unusedVariables false
set_option linter.unusedSimpArgs false
set_option linter.defProp false
set_option maxRecDepth 1000000

def prn (f : List Int) : List Int := f.map fun x => if x = -2 then -1 else x
def sen (f : List Int) : List Bool := f.map fun x => decide (x ≠ -2)
@[simp] theorem prn_len {f : List Int} : (prn f).length = f.length := by simp [prn]
@[simp] theorem sen_len {f : List Int} : (sen f).length = f.length := by simp [sen]
theorem prn_at {f : List Int} {x : Nat} (hx : x < f.length) : (prn f)[x]'(by simpa using hx) = if f[x] = -2 then -1 else f[x] := by simp [prn]
theorem sen_at {f : List Int} {x : Nat} (hx : x < f.length) : (sen f)[x]'(by simpa using hx) = decide (f[x] ≠ -2) := by simp [sen]
theorem prn_set {f : List Int} {x : Nat} {a : Int} (ha : 0 ≤ a) : prn (f.set x a) = (prn f).set x a := by
  unfold prn
  rw [List.map_set, if_neg (by omega)]
theorem sen_set {f : List Int} {x : Nat} {a : Int} (ha : 0 ≤ a) : sen (f.set x a) = (sen f).set x true := by
  unfold sen
  rw [List.map_set, decide_eq_true (by omega)]
theorem prn_zero {next : List (List Int)} : prn (bsN next 0).1 = List.replicate next.length (-1) := by
  simp only [bsN, prn, List.map_set, List.map_replicate, if_pos, show ¬ ((-1 : Int) = -2) by decide, if_false]
  rcases hn : next.length with _ | n
  · rfl
  · rfl
theorem sen_zero {next : List (List Int)} : sen (bsN next 0).1 = (List.replicate next.length false).set 0 true := by
  simp [bsN, sen, List.map_set, List.map_replicate]

theorem c_l4Search {h : Heap} {v : Value} {next : List (List Int)} (hn : NOk next) (R : Rep h v next) :
    CallE Try.prog fn_spec_l4Search [v, .int .i64 0] h (fun u h' => ∃ p q, u = .tuple #[p, q] ∧ HS h [ow p (prn (bsN next next.length).1), ow q (bsN next next.length).2] h') := by
  have hL := R.lt
  have h60 := hn.n60
  have hpos := hn.pos
  refine CallE.gen fun k hk => EN_spec_l4Search rfl ?_
  simp -implicitDefEqProofs (disch := first | omega | (simp only [List.length_set, List.length_replicate, List.length_append, List.length_map, List.length_take, List.length_cons, List.length_nil]; omega)) [wrap64]
  refine HS.init.bls0 Int fun p h1 H => ?_
  simp -implicitDefEqProofs (disch := first | omega | (simp only [List.length_set, List.length_replicate, List.length_append, List.length_map, List.length_take, List.length_cons, List.length_nil]; omega)) [wrap64, (R.on H).len]
  refine H.mks (α := Bool) (z := false) rfl rfl (own_false) (Nat.le_refl _) (by omega) (by omega) fun o h2 H => ?_
  simp -implicitDefEqProofs (disch := first | omega | (simp only [List.length_set, List.length_replicate, List.length_append, List.length_map, List.length_take, List.length_cons, List.length_nil]; omega)) [wrap64]
  refine wp_count next.length (fun i e h' => ∃ p, e = [some v, some (.int .i64 0), none, none, some p, some o, some (.int .i64 i), none, none, none, none] ∧ HS h [ow p (List.replicate i (-1 : Int)), ow o (List.replicate next.length false)] h') ⟨p, by simp, H.sw1⟩ ?_
  clear H
  rintro J i _ h1 hJ hi ⟨p, rfl, H⟩
  simp -implicitDefEqProofs (disch := first | omega | (simp only [List.length_set, List.length_replicate, List.length_append, List.length_map, List.length_take, List.length_cons, List.length_nil]; omega)) [wrap64, (R.on H).len]
  refine IteW.mk (fun hlt => ?_) (fun hge => ?_)
  · have hlx : i < next.length := by omega
    simp -implicitDefEqProofs (disch := first | omega | (simp only [List.length_set, List.length_replicate, List.length_append, List.length_map, List.length_take, List.length_cons, List.length_nil]; omega)) [wrap64, setC]
    refine HS.app1 (bytes := 8) H (-1 : Int) rfl rfl rfl ⟨by omega, by omega⟩ rfl rfl (by simp; omega) (by simp; omega) fun p' h3 H => ?_
    simp -implicitDefEqProofs (disch := first | omega | (simp only [List.length_set, List.length_replicate, List.length_append, List.length_map, List.length_take, List.length_cons, List.length_nil]; omega)) [wrap64]
    exact hJ _ _ hlx ⟨p', by simp, by rw [List.replicate_succ']; exact H⟩
  obtain rfl : i = next.length := by omega
  simp -implicitDefEqProofs (disch := first | omega | (simp only [List.length_set, List.length_replicate, List.length_append, List.length_map, List.length_take, List.length_cons, List.length_nil]; omega)) [wrap64]
  refine H.bls [(0 : Int)] rfl rfl (by simp; exact ⟨by omega, by omega⟩) (by decide) fun q h2 H => ?_
  simp -implicitDefEqProofs (disch := first | omega | (simp only [List.length_set, List.length_replicate, List.length_append, List.length_map, List.length_take, List.length_cons, List.length_nil]; omega)) [wrap64, H.sw2.rep.B]
  refine HS.storeF H.sw2 true (i := 0) (by simp; omega) rfl rfl trivial rfl fun h3 H => ?_
  simp -implicitDefEqProofs (disch := first | omega | (simp only [List.length_set, List.length_replicate, List.length_append, List.length_map, List.length_take, List.length_cons, List.length_nil]; omega)) [wrap64]
  have H : HS h [ow p (prn (bsN next 0).1), ow o (sen (bsN next 0).1), ow q (bsN next 0).2] h3 := by rw [prn_zero, sen_zero]; exact H.sw2
  refine wp_while (σ := Nat) (fun i e h' => ∃ q, e = [some v, none, none, none, some p, some o, none, some q, some (.int .i64 i), none, none] ∧ HS h [ow p (prn (bsN next i).1), ow o (sen (bsN next i).1), ow q (bsN next i).2] h' ∧ i ≤ (bsN next i).2.length) (fun i => 61 - i) 0 ⟨q, by simp, H, by omega⟩ ?_
  clear H
  rintro J2 i _ h1 hJ2 ⟨q, rfl, H, hi⟩
  obtain ⟨bi, bd⟩ := bsN_inv hn i
  have hle := bi.le
  simp -implicitDefEqProofs (disch := first | omega | (simp only [List.length_set, List.length_replicate, List.length_append, List.length_map, List.length_take, List.length_cons, List.length_nil]; omega)) [wrap64, H.sw2.rep.len]
  refine IteW.mk (fun hlt => ?_) (fun hge => ?_)
  · have hlt : i < (bsN next i).2.length := by omega
    have hat := bi.at hlt
    have hsucc := bsN_succ hlt
    obtain ⟨a, ha⟩ : ∃ a : Nat, (bsN next i).2.getD i 0 = a := ⟨_, (Int.toNat_of_nonneg hat.1).symm⟩
    have ha' : (bsN next i).2[i] = a := by rw [← ha]; simp [hlt]
    rw [ha] at hat hsucc
    rw [Int.toNat_natCast] at hat hsucc
    have haN : a < next.length := by omega
    have hg := hn.get haN
    rw [hg.1] at hsucc
    obtain ⟨u, hu, Ru⟩ := R.ldL haN
    have hll := hn.ll _ hg.2
    have hent := hn.ent _ hg.2
    simp -implicitDefEqProofs (disch := first | omega | (simp only [List.length_set, List.length_replicate, List.length_append, List.length_map, List.length_take, List.length_cons, List.length_nil]; omega)) [wrap64]
    refine wp_count next[a].length (fun m e h' => ∃ q, e = [some v, none, none, none, some p, some o, none, some q, some (.int .i64 i), some (.int .i64 m), none] ∧ HS h [ow p (prn (bsF next[a] a (bsN next i) m).1), ow o (sen (bsF next[a] a (bsN next i) m).1), ow q (bsF next[a] a (bsN next i) m).2] h') ⟨q, by simp, by rw [bsF_zero]; exact H⟩ ?_
    clear H
    rintro J4 m _ h3 hJ4 hm ⟨q, rfl, H⟩
    have hfo := bi.fold hlt (l := next[a]) hent m (by omega)
    rw [ha] at hfo
    obtain ⟨f1, f2, _⟩ := hfo
    have hqi : (bsF next[a] a (bsN next i) m).2.getD i 0 = a := by rw [f2.at hlt, ha]
    have hil : i < (bsF next[a] a (bsN next i) m).2.length := by have := f2.len; omega
    have hqi' : (bsF next[a] a (bsN next i) m).2[i] = a := by simpa [hil] using hqi
    have hu := hload_le H.base hu
    have RuI := (Ru.on H).I
    have hul := (Ru.on H).len
    simp -implicitDefEqProofs (disch := first | omega | (simp only [List.length_set, List.length_replicate, List.length_append, List.length_map, List.length_take, List.length_cons, List.length_nil]; omega)) [wrap64, R.X (n := 1) rfl, H.sw2.rep.I, hqi', hu, hul]
    refine IteW.mk (fun hlt4 => ?_) (fun hge4 => ?_)
    · have hm : m < next[a].length := by omega
      have hfs := bsF_succ (a := (a : Int)) (p := bsN next i) hm
      have hxr := hent _ (List.getElem_mem hm)
      have hfl := f1.fl
      have hfle := f1.le
      generalize bsF next[a] a (bsN next i) m = P at *
      obtain ⟨x, hx⟩ : ∃ x : Nat, next[a][m] = x := ⟨_, (Int.toNat_of_nonneg hxr.1).symm⟩
      rw [hx] at hxr
      have hxl : x < P.1.length := by omega
      have hxd : P.1.getD x 0 = P.1[x] := by simp [hxl]
      rw [bs1, hx, Int.toNat_natCast, hxd] at hfs
      have hsx := sen_at hxl
      have hsl : (sen P.1).length = P.1.length := sen_len
      have hpl : (prn P.1).length = P.1.length := prn_len
      by_cases q2 : P.1[x] = -2
      · rw [if_pos q2] at hfs
        rw [decide_eq_false (by simpa using q2)] at hsx
        simp -implicitDefEqProofs (disch := first | omega | (simp only [List.length_set, List.length_replicate, List.length_append, List.length_map, List.length_take, List.length_cons, List.length_nil]; omega)) [wrap64, R.X (n := 1) rfl, H.sw2.rep.I, hqi', hu, RuI, hx, H.sw1.rep.B, hsx]
        refine HS.storeF H.sw1 true (i := x) (by simpa using hxl) rfl rfl trivial rfl fun h4 H => ?_
        simp -implicitDefEqProofs (disch := first | omega | (simp only [List.length_set, List.length_replicate, List.length_append, List.length_map, List.length_take, List.length_cons, List.length_nil]; omega)) [wrap64, H.sw1.rep.I, H.sw2.rep.I, hqi']
        refine HS.storeF H.sw1 (a : Int) (i := x) (by simpa using hxl) rfl rfl ⟨by omega, by omega⟩ rfl fun h5 H => ?_
        simp -implicitDefEqProofs (disch := first | omega | (simp only [List.length_set, List.length_replicate, List.length_append, List.length_map, List.length_take, List.length_cons, List.length_nil]; omega)) [wrap64, setC]
        refine HS.app1 (bytes := 8) H.sw2 (x : Int) rfl rfl rfl ⟨by omega, by omega⟩ rfl rfl (by omega) (by omega) fun q' h6 H => ?_
        simp -implicitDefEqProofs (disch := first | omega | (simp only [List.length_set, List.length_replicate, List.length_append, List.length_map, List.length_take, List.length_cons, List.length_nil]; omega)) [wrap64]
        exact hJ4 _ _ hm ⟨q', by simp, by rw [hfs, prn_set (by omega), sen_set (by omega)]; exact H.bk2⟩
      · rw [if_neg q2] at hfs
        rw [decide_eq_true (by simpa using q2)] at hsx
        simp -implicitDefEqProofs (disch := first | omega | (simp only [List.length_set, List.length_replicate, List.length_append, List.length_map, List.length_take, List.length_cons, List.length_nil]; omega)) [wrap64, R.X (n := 1) rfl, H.sw2.rep.I, hqi', hu, RuI, hx, H.sw1.rep.B, hsx]
        exact hJ4 _ _ hm ⟨q, by simp, by rw [hfs]; exact H⟩
    obtain rfl : m = next[a].length := by omega
    simp -implicitDefEqProofs (disch := first | omega | (simp only [List.length_set, List.length_replicate, List.length_append, List.length_map, List.length_take, List.length_cons, List.length_nil]; omega)) [wrap64]
    rw [← hsucc] at H
    have hbl := bsN_bl hn (show i ≤ i + 1 by omega)
    have hlen := hbl.len
    exact hJ2 (i + 1) _ _ (by omega) ⟨q, by simp, H, by omega⟩
  · simp -implicitDefEqProofs (disch := first | omega | (simp only [List.length_set, List.length_replicate, List.length_append, List.length_map, List.length_take, List.length_cons, List.length_nil]; omega)) [wrap64]
    have hfx := bsN_fix (next := next) (n := i) (m := next.length) (by omega) (by omega)
    rw [← hfx] at H
    exact RetK.keep (hk _ _ ⟨p, q, rfl, H.sw1.drop⟩)

theorem c_l4Path {h : Heap} {v : Value} {next : List (List Int)} (hn : NOk next) (hr : Rch next) {to : Nat} (hto : to < next.length) (R : Rep h v (prn (bsN next next.length).1)) :
    CallE Try.prog fn_spec_l4Path [v, .int .i64 0, .int .i64 to] h (fun u h' => HS h [ow u (pth next to)] h') := by
  obtain ⟨c1, c2⟩ := pth_chn hn hr hto
  obtain ⟨bi, _⟩ := bsN_inv hn next.length
  have hfl := bi.fl
  have h60 := hn.n60
  obtain ⟨tz, ez⟩ := bi.z0
  obtain ⟨F, hF⟩ : ∃ F, F = (bsN next next.length).1 := ⟨_, rfl⟩
  have hval := bi.val
  rw [← hF] at c1 hfl R ez hval
  refine CallE.gen fun k hk => EN_spec_l4Path rfl ?_
  simp -implicitDefEqProofs (disch := first | omega | (simp only [List.length_set, List.length_replicate, List.length_append, List.length_map, List.length_take, List.length_cons, List.length_nil]; omega)) [wrap64]
  refine HS.init.bls [(to : Int)] rfl rfl (by simp; exact ⟨by omega, by omega⟩) (by decide) fun q h2 H => ?_
  simp -implicitDefEqProofs (disch := first | omega | (simp only [List.length_set, List.length_replicate, List.length_append, List.length_map, List.length_take, List.length_cons, List.length_nil]; omega)) [wrap64]
  obtain ⟨l0, e0, hlt0, c3⟩ := c1.un (by omega)
  refine wp_while (σ := List Int × Nat × List Int) (fun t e h' => ∃ u, e = [some v, some (.int .i64 0), none, none, some u] ∧ HS h [ow u ((t.2.1 : Int) :: t.2.2)] h' ∧ t.2.1 < F.length ∧ Chn F (F.getD t.2.1 0) t.1 ∧ t.1 ++ ((t.2.1 : Int) :: t.2.2) = pth next to) (fun t => t.1.length) (l0, to, []) ⟨q, by simp, H, by dsimp only; omega, by rw [Int.toNat_natCast] at c3; exact c3, e0.symm⟩ ?_
  clear H
  rintro J ⟨l, a, r⟩ _ h3 hJ ⟨u, rfl, H, hal, c4, e4⟩
  simp only at c4 e4 H hal ⊢
  have hle : r.length ≤ 60 := by
    have := congrArg List.length e4
    simp at this
    omega
  by_cases ha : a = 0
  · subst ha
    have h0 : F.getD 0 0 = -1 := by rw [ez]; rfl
    rw [h0] at c4
    have hl := c4.neg
    subst hl
    simp -implicitDefEqProofs (disch := first | omega | (simp only [List.length_set, List.length_replicate, List.length_append, List.length_map, List.length_take, List.length_cons, List.length_nil]; omega)) [wrap64, H.rep.I]
    exact RetK.keep (hk _ _ (by rw [← e4]; exact H))
  · have hge := c4.ge
    have hv := hval a (by omega) (by omega)
    have hb0 : 0 ≤ F.getD a 0 := by omega
    obtain ⟨l', rfl, hbl, c5⟩ := c4.un hb0
    obtain ⟨b, hb⟩ : ∃ b : Nat, F.getD a 0 = b := ⟨_, (Int.toNat_of_nonneg hb0).symm⟩
    rw [hb] at hbl c5 e4
    rw [Int.toNat_natCast] at c5
    have hFa : F.getD a 0 = F[a] := by simp [hal]
    have hpa : (prn F)[a]'(by simpa using hal) = b := by rw [prn_at hal, if_neg (by omega), ← hFa, hb]
    have hpl : (prn F).length = F.length := prn_len
    have hbl2 : b < 60 := by omega
    simp -implicitDefEqProofs (disch := first | omega | (simp only [List.length_set, List.length_replicate, List.length_append, List.length_map, List.length_take, List.length_cons, List.length_nil]; omega)) [wrap64, H.rep.I, ha, (R.on H).I, hpa, setC]
    refine H.bls [(b : Int)] rfl rfl (by simp; exact ⟨by omega, by omega⟩) (by decide) fun q h4 H => ?_
    simp -implicitDefEqProofs (disch := first | omega | (simp only [List.length_set, List.length_replicate, List.length_append, List.length_map, List.length_take, List.length_cons, List.length_nil]; omega)) [wrap64]
    refine HS.appL (u := u) (l2 := (a : Int) :: r) H rfl rfl H.sw1.rep rfl rfl (by simp; omega) (by simp; omega) fun u' h5 H => ?_
    simp -implicitDefEqProofs (disch := first | omega | (simp only [List.length_set, List.length_replicate, List.length_append, List.length_map, List.length_take, List.length_cons, List.length_nil]; omega)) [wrap64]
    exact hJ (l', b, (a : Int) :: r) _ _ (by simp) ⟨u', by simp, H.only, by simpa using hbl, c5, by simpa using e4⟩
end Go.Proofs.Ytmpgkijhhocfcaa

/-
  Checking reachable states: by the program and by the reference.
-/
namespace Go.Proofs.Ytmpgkijhhocfcaa
open Go
set_option linter.all false
set_option linter.unusedVariables false
set_option linter.unusedSimpArgs false
set_option linter.defProp false
set_option maxRecDepth 1000000

def sof (g : Gr) (l : List Int) : List Sta := l.map fun x => g.states.getD x.toNat Sta.zero
theorem sof_len {g : Gr} {l : List Int} : (sof g l).length = l.length := by simp [sof]

theorem c_statesOf {h : Heap} {v w : Value} {s : Sy} {g : Gr} {l : List Int} (hs : s.Ok) (hg : g.Fin s) (Rg : Rep h v g) (Rl : Rep h w l) (hl : ∀ x ∈ l, 0 ≤ x ∧ x < g.states.length) (hn : l.length ≤ 60) :
    CallE Try.prog fn_impl_Graph_statesOf [v, w] h (fun u h' => HS h [ow u (sof g l)] h') := by
  obtain ⟨v1, v2, rfl, R1, R2'⟩ := Rep_Gr.1 Rg
  have hp3 := hs.p3
  refine CallE.gen fun k hk => EN_impl_Graph_statesOf rfl ?_
  simp -implicitDefEqProofs (disch := first | omega | (simp only [List.length_set, List.length_replicate, List.length_append, List.length_map, List.length_take, List.length_cons, List.length_nil]; omega)) [wrap64, Rl.len]
  refine HS.init.mks (α := Sta) (z := Sta.zero) rfl rfl (own_zeroSt) (Nat.le_refl _) (by omega) (by omega) fun o h1 H => ?_
  simp -implicitDefEqProofs (disch := first | omega | (simp only [List.length_set, List.length_replicate, List.length_append, List.length_map, List.length_take, List.length_cons, List.length_nil]; omega)) [wrap64, (Rl.on H).len]
  refine wp_count l.length (fun i e h' => e = [none, none, some (.agg #[v1, v2]), none, some o, none, none, some w, some (.int .i64 l.length), some (.int .i64 i)] ∧ ∃ y, HS h [ow o y] h' ∧ y.length = l.length ∧ y.take i = (sof g l).take i) ⟨by simp, _, H, by simp, by simp⟩ ?_
  clear H
  rintro J i _ h2 hJ hi ⟨rfl, y, H, hyl, hy⟩
  simp -implicitDefEqProofs (disch := first | omega | (simp only [List.length_set, List.length_replicate, List.length_append, List.length_map, List.length_take, List.length_cons, List.length_nil]; omega)) [wrap64]
  refine IteW.mk (fun hlt => ?_) (fun hge => ?_)
  · have hlx : i < l.length := by omega
    obtain ⟨x0, x1⟩ := hl _ (List.getElem_mem hlx)
    obtain ⟨x, hx⟩ : ∃ x : Nat, l[i] = x := ⟨_, (Int.toNat_of_nonneg x0).symm⟩
    have hxg : x < g.states.length := by omega
    obtain ⟨u, hu, Ru⟩ := (R1.on H).ld hxg
    change hload _ (some (elp 2 v1 x)) (some 2) = some u at hu
    have hok := hg.ok _ (List.getElem_mem hxg)
    have h5 := hok.len
    have h6 := hok.vs.len
    simp -implicitDefEqProofs (disch := first | omega | (simp only [List.length_set, List.length_replicate, List.length_append, List.length_map, List.length_take, List.length_cons, List.length_nil]; omega)) [wrap64, (Rl.on H).I, hx, (R1.on H).X (n := 2) rfl, hu, Ru.aSta]
    refine (c_State_copyOf Ru (by omega) (by omega)).go ?_
    intro c h3 G
    have H := G.app H
    simp -implicitDefEqProofs (disch := first | omega | (simp only [List.length_set, List.length_replicate, List.length_append, List.length_map, List.length_take, List.length_cons, List.length_nil]; omega)) [wrap64, H.sw1.rep.X (n := 2) rfl, G.rep.aSta]
    refine HS.store H (i := i) (by omega) rfl rfl rfl fun h4 H => ?_
    simp -implicitDefEqProofs (disch := first | omega | (simp only [List.length_set, List.length_replicate, List.length_append, List.length_map, List.length_take, List.length_cons, List.length_nil]; omega)) [wrap64]
    refine hJ _ _ hlx ⟨by simp, _, H, by simp [hyl], ?_⟩
    have := take_set_succ (x := sof g l) hy (by simpa [sof] using hlx) (by simpa [sof] using hyl)
    simpa [sof, hx, hxg] using this
  · simp -implicitDefEqProofs (disch := first | omega | (simp only [List.length_set, List.length_replicate, List.length_append, List.length_map, List.length_take, List.length_cons, List.length_nil]; omega)) [wrap64]
    have he : y = sof g l := eq_of_take hy (by simpa [sof] using by omega) (by simpa [sof] using hyl)
    exact RetK.keep (hk _ _ (he ▸ H))

theorem c_l4States {h : Heap} {v w : Value} {s : Sy} {g : Gr} {l : List Int} (hs : s.Ok) (hg : g.Fin s) (Rg : Rep h v g) (Rl : Rep h w l) (hl : ∀ x ∈ l, 0 ≤ x ∧ x < g.states.length) (hn : l.length ≤ 60) :
    CallE Try.prog fn_spec_l4States [v, w] h (fun u h' => HS h [ow u (sof g l)] h') := by
  obtain ⟨v1, v2, rfl, R1, R2'⟩ := Rep_Gr.1 Rg
  have hp3 := hs.p3
  refine CallE.gen fun k hk => EN_spec_l4States rfl ?_
  simp -implicitDefEqProofs (disch := first | omega | (simp only [List.length_set, List.length_replicate, List.length_append, List.length_map, List.length_take, List.length_cons, List.length_nil]; omega)) [wrap64]
  refine HS.init.bls0 Sta fun o h1 H => ?_
  simp -implicitDefEqProofs (disch := first | omega | (simp only [List.length_set, List.length_replicate, List.length_append, List.length_map, List.length_take, List.length_cons, List.length_nil]; omega)) [wrap64]
  refine wp_count l.length (fun i e h' => ∃ o, e = [none, some w, some (.agg #[v1, v2]), none, some o, some (.int .i64 i), none] ∧ HS h [ow o ((sof g l).take i)] h') ⟨o, by simp, by simpa using H⟩ ?_
  clear H
  rintro J i _ h2 hJ hi ⟨o, rfl, H⟩
  simp -implicitDefEqProofs (disch := first | omega | (simp only [List.length_set, List.length_replicate, List.length_append, List.length_map, List.length_take, List.length_cons, List.length_nil]; omega)) [wrap64, (Rl.on H).len]
  refine IteW.mk (fun hlt => ?_) (fun hge => ?_)
  · have hlx : i < l.length := by omega
    obtain ⟨x0, x1⟩ := hl _ (List.getElem_mem hlx)
    obtain ⟨x, hx⟩ : ∃ x : Nat, l[i] = x := ⟨_, (Int.toNat_of_nonneg x0).symm⟩
    have hxg : x < g.states.length := by omega
    obtain ⟨u, hu, Ru⟩ := R1.ld hxg
    change hload _ (some (elp 2 v1 x)) (some 2) = some u at hu
    have hu := hload_le H.base hu
    have hok := hg.ok _ (List.getElem_mem hxg)
    have h5 := hok.len
    have h6 := hok.vs.len
    have hsl : ((sof g l).take i).length = i := by simp [sof]; omega
    obtain ⟨t1, t2, rfl, T1, T2⟩ := Rep_Sta.1 Ru
    have hO1 := T1.one
    have hO2 := T2.one
    have hst : (sof g l).take (i + 1) = (sof g l).take i ++ [g.states[x]] := by
      rw [List.take_add_one, List.getElem?_eq_getElem (by simpa [sof] using hlx)]
      simp [sof, hx, hxg]
    obtain ⟨D, hD⟩ : ∃ D, D = (sof g l).take i := ⟨_, rfl⟩
    rw [← hD] at H hsl hst
    simp -implicitDefEqProofs (disch := first | omega | (simp only [List.length_set, List.length_replicate, List.length_append, List.length_map, List.length_take, List.length_cons, List.length_nil]; omega)) [wrap64, (Rl.on H).I, hx, (R1.on H).X (n := 2) rfl, hu, setC, hO1, hO2]
    refine HS.appPL (α := Int) (l2 := g.states[x].locs) H rfl rfl (T1.on H) rfl rfl (by omega) fun o1 h3 H => ?_
    simp -implicitDefEqProofs (disch := first | omega | (simp only [List.length_set, List.length_replicate, List.length_append, List.length_map, List.length_take, List.length_cons, List.length_nil]; omega)) [wrap64]
    refine HS.appPL (α := Int) (l2 := g.states[x].vals) H rfl rfl (T2.on H) rfl rfl (by omega) fun o2 h4 H => ?_
    simp -implicitDefEqProofs (disch := first | omega | (simp only [List.length_set, List.length_replicate, List.length_append, List.length_map, List.length_take, List.length_cons, List.length_nil]; omega)) [wrap64, setC, H.rep.cells, H.rep.one, H.sw1.rep.cells, H.sw1.rep.one]
    refine HS.appO (bytes := 48) (HS.mkSta (a := g.states[x]) H.sw1) rfl rfl (by simp [setC, H.rep.cells, H.rep.one, H.sw1.rep.cells, H.sw1.rep.one]) rfl rfl (by omega) (by omega) fun o' h5 H => ?_
    simp -implicitDefEqProofs (disch := first | omega | (simp only [List.length_set, List.length_replicate, List.length_append, List.length_map, List.length_take, List.length_cons, List.length_nil]; omega)) [wrap64]
    exact hJ _ _ hlx ⟨o', by simp, by rw [hst]; exact H⟩
  · simp -implicitDefEqProofs (disch := first | omega | (simp only [List.length_set, List.length_replicate, List.length_append, List.length_map, List.length_take, List.length_cons, List.length_nil]; omega)) [wrap64]
    rw [List.take_of_length_le (by rw [sof_len]; omega)] at H
    exact RetK.keep (hk _ _ H)
end Go.Proofs.Ytmpgkijhhocfcaa

/-
  Checking reachable states: invariants and deadlocks, by the program and by the reference.
-/
namespace Go.Proofs.Ytmpgkijhhocfcaa
open Go
set_option linter.all false
set_option linter.unusedVariables false
set_option linter.unusedSimpArgs false
set_option linter.defProp false
set_option maxRecDepth 1000000

theorem c_path_1 {h : Heap} {a : Int} {b to : Nat} (hb : hload h (some (.pointer (some ⟨b, 0, none⟩))) none = some (.int .i64 to)) :
    CallE Try.prog fn_impl_Graph_path_1 [.int .i64 a, .pointer (some ⟨b, 0, none⟩)] h (fun u h' => h.le h' ∧ u = .bool (decide (a = to))) := by
  refine CallE.gen fun k hk => EN_impl_Graph_path_1 rfl ?_
  simp -implicitDefEqProofs (disch := first | omega | (simp only [List.length_set, List.length_replicate, List.length_append, List.length_map, List.length_take, List.length_cons, List.length_nil]; omega)) [wrap64, hb]
  exact RetK.keep (hk _ _ ⟨Heap.le.refl _, rfl⟩)
theorem c_path {h : Heap} {v : Value} {s : Sy} {g : Gr} (hg : g.Fin s) (Rg : Rep h v g) {to : Nat} (hto : to < g.states.length) :
    CallE Try.prog fn_impl_Graph_path [v, .int .i64 0, .int .i64 to] h (fun u h' => HS h [ow u (pth g.next to)] h') := by
  obtain ⟨v1, v2, rfl, R1, R2'⟩ := Rep_Gr.1 Rg
  have h60 := hg.n60
  refine CallE.gen fun k hk => EN_impl_Graph_path rfl ?_
  simp -implicitDefEqProofs (disch := first | omega | (simp only [List.length_set, List.length_replicate, List.length_append, List.length_map, List.length_take, List.length_cons, List.length_nil]; omega)) [wrap64]
  refine HS.init.alloc rfl fun b h1 H => ?_
  simp only [cells_int] at H
  have hb := H.bxld0
  simp -implicitDefEqProofs (disch := first | omega | (simp only [List.length_set, List.length_replicate, List.length_append, List.length_map, List.length_take, List.length_cons, List.length_nil]; omega)) [wrap64]
  refine H.bls [(0 : Int)] rfl rfl (by simp; exact ⟨by omega, by omega⟩) (by decide) fun q h2 H => ?_
  have hb := H.sw1.bxld0
  simp -implicitDefEqProofs (disch := first | omega | (simp only [List.length_set, List.length_replicate, List.length_append, List.length_map, List.length_take, List.length_cons, List.length_nil]; omega)) [wrap64]
  refine (c_shortest (f := fn_impl_Graph_path_1) (c1 := []) (c2 := [.pointer (some ⟨b, 0, none⟩)]) hg.nok hg.rr (R2'.on H) H.rep (to := to) (by rw [hg.nl]; exact hto) rfl ?_).go ?_
  · intro h3 hl a _ _
    exact c_path_1 (hload_le hl hb)
  intro u h3 G
  simp -implicitDefEqProofs (disch := first | omega | (simp only [List.length_set, List.length_replicate, List.length_append, List.length_map, List.length_take, List.length_cons, List.length_nil]; omega)) [wrap64]
  exact RetK.keep (hk _ _ (G.app (Γ := []) H.base))

noncomputable def ckV (s : Sy) (b : Prop) (bad : Sta → Bool) : Int := open Classical in if ¬ (b ∧ s.Ok) then 3 else if ¬ bgOk s then 2 else if (bgR s).states.any bad then 1 else 0
noncomputable def ckL (s : Sy) (b : Prop) (bad : Sta → Bool) : List Sta := open Classical in if ¬ (b ∧ s.Ok) then [] else if ¬ bgOk s then [] else match (bgR s).states.findIdx? bad with | some i => sof (bgR s) (pth (bgR s).next i) | none => []
def RI2 (n : Int) (l : List Sta) (h : Heap) : Value → Heap → Prop := fun u h' => ∃ x, u = .tuple #[.int .i64 n, x] ∧ HS h [ow x l] h'

theorem c_check {h : Heap} {v fv : Value} {s : Sy} {b : Prop} [Decidable b] {bad : Sta → Bool} (R : Rep h v s) {f : FuncId} {c1 c2 : List Value} (hf : fnOf fv = some (f, c1, c2))
    (hbad : b → s.Ok → ∀ h1, h.le h1 → ∀ (st : Sta) (u : Value), st.Ok s → Rep h1 u st → CallE Try.prog f (c1 ++ u :: c2) h1 (fun r h' => h1.le h' ∧ r = .bool (bad st))) :
    CallE Try.prog fn_impl_check [v, .bool (decide b), fv] h (RI2 (ckV s b bad) (ckL s b bad) h) := by
  have FS := R.aSy
  refine CallE.gen fun k hk => EN_impl_check rfl ?_
  by_cases hb : b
  case neg =>
    simp -implicitDefEqProofs (disch := first | omega | (simp only [List.length_set, List.length_replicate, List.length_append, List.length_map, List.length_take, List.length_cons, List.length_nil]; omega)) [wrap64, FS, hb]
    have hn : ¬ (b ∧ s.Ok) := fun hh => hb hh.1
    exact RetK.keep (hk _ _ ⟨_, by rw [ckV, if_pos hn], by rw [ckL, if_pos hn]; exact HS.init.nil_ow⟩)
  simp -implicitDefEqProofs (disch := first | omega | (simp only [List.length_set, List.length_replicate, List.length_append, List.length_map, List.length_take, List.length_cons, List.length_nil]; omega)) [wrap64, FS, hb]
  refine (c_SystemValid R).go ?_
  rintro _ h1 ⟨l1, rfl⟩
  by_cases hs : s.Ok
  case neg =>
    simp -implicitDefEqProofs (disch := first | omega | (simp only [List.length_set, List.length_replicate, List.length_append, List.length_map, List.length_take, List.length_cons, List.length_nil]; omega)) [wrap64, hs]
    have hn : ¬ (b ∧ s.Ok) := fun hh => hs hh.2
    exact RetK.keep (hk _ _ ⟨_, by rw [ckV, if_pos hn], by rw [ckL, if_pos hn]; exact HS.nil_ow (Γ := []) l1⟩)
  have hy : ¬ ¬ (b ∧ s.Ok) := fun hh => hh ⟨hb, hs⟩
  simp -implicitDefEqProofs (disch := first | omega | (simp only [List.length_set, List.length_replicate, List.length_append, List.length_map, List.length_take, List.length_cons, List.length_nil]; omega)) [wrap64, hs, FS]
  refine (c_build hs (R.le l1)).go ?_
  rintro _ h2 ⟨u, rfl, H⟩
  have l2 := H.base
  have hA := H.rep.aGr
  by_cases q1 : bgOk s
  case neg =>
    simp -implicitDefEqProofs (disch := first | omega | (simp only [List.length_set, List.length_replicate, List.length_append, List.length_map, List.length_take, List.length_cons, List.length_nil]; omega)) [wrap64, q1, hA, setC]
    exact RetK.keep (hk _ _ ⟨_, by rw [ckV, if_neg hy, if_pos q1], by rw [ckL, if_neg hy, if_pos q1]; exact HS.nil_ow (Γ := []) (l1.trans l2)⟩)
  have hfin := bgR_fin q1
  have q1' : ¬ ¬ bgOk s := fun hh => hh q1
  obtain ⟨xs, nx, rfl, H'⟩ := H.unGr
  have hO1 := H'.rep.one
  have hO2 := H'.sw1.rep.one
  simp -implicitDefEqProofs (disch := first | omega | (simp only [List.length_set, List.length_replicate, List.length_append, List.length_map, List.length_take, List.length_cons, List.length_nil]; omega)) [wrap64, q1, hA, setC, hO1, hO2]
  refine (c_IndexFunc_impl_State H'.rep (f := f) (c1 := c1) (c2 := c2) hf bad ?_).go ?_
  · intro h3 hl j hj w Rw
    exact hbad hb hs h3 (l1.trans (l2.trans hl)) _ _ (hfin.ok _ (List.getElem_mem hj)) Rw
  rintro _ h3 ⟨l3, hv⟩
  have RG : Rep h3 (.agg #[xs, nx]) (bgR s) := H.rep.le l3
  rcases hfi : (bgR s).states.findIdx? bad with _ | i
  · rw [hfi] at hv
    simp only at hv
    subst hv
    have hany : (bgR s).states.any bad = false := by
      rw [← List.findIdx?_isSome, hfi]; rfl
    simp -implicitDefEqProofs (disch := first | omega | (simp only [List.length_set, List.length_replicate, List.length_append, List.length_map, List.length_take, List.length_cons, List.length_nil]; omega)) [wrap64]
    exact RetK.keep (hk _ _ ⟨_, by rw [ckV, if_neg hy, if_neg q1', hany]; rfl, by rw [ckL, if_neg hy, if_neg q1', hfi]; exact HS.nil_ow (Γ := []) (l1.trans (l2.trans l3))⟩)
  · rw [hfi] at hv
    simp only at hv
    subst hv
    have hany : (bgR s).states.any bad = true := by
      rw [← List.findIdx?_isSome, hfi]; rfl
    have hi : i < (bgR s).states.length := by
      rw [List.findIdx?_eq_some_iff_getElem] at hfi
      exact hfi.1
    have hi2 : i < (bgR s).next.length := by rw [hfin.nl]; exact hi
    obtain ⟨p1, p2⟩ := pth_chn hfin.nok hfin.rr hi2
    have hall := p1.all
    rw [(bsN_inv hfin.nok _).1.fl, hfin.nl] at hall
    simp -implicitDefEqProofs (disch := first | omega | (simp only [List.length_set, List.length_replicate, List.length_append, List.length_map, List.length_take, List.length_cons, List.length_nil]; omega)) [wrap64, RG.aGr]
    refine (c_path hfin RG hi).go ?_
    intro q h4 G
    simp -implicitDefEqProofs (disch := first | omega | (simp only [List.length_set, List.length_replicate, List.length_append, List.length_map, List.length_take, List.length_cons, List.length_nil]; omega)) [wrap64, RG.aGr]
    refine (c_statesOf hs hfin (RG.on G) G.rep hall p2).go ?_
    intro o h5 G2
    simp -implicitDefEqProofs (disch := first | omega | (simp only [List.length_set, List.length_replicate, List.length_append, List.length_map, List.length_take, List.length_cons, List.length_nil]; omega)) [wrap64]
    exact RetK.keep (hk _ _ ⟨_, by rw [ckV, if_neg hy, if_neg q1', hany]; rfl, by rw [ckL, if_neg hy, if_neg q1', hfi]; exact HS.app (Γ := []) G2 (l1.trans (l2.trans (l3.trans G.base)))⟩)

def badE (e : Exq) (st : Sta) : Bool := decide (e.ev st.vals = 0)
def badD (s : Sy) (st : Sta) : Bool := decide (enb s st = [])
theorem HS.bxall {g h : Heap} {Γ : List HP} {b n : Nat} {u : Value} (H : HS g (bx b u.cells.toList :: Γ) h) (hn : u.cells.size = n) (hu : Value.agg u.cells = u) : hload h (some (.pointer (some ⟨b, 0, none⟩))) (some n) = some u := by
  rw [H.bxlds (o := 0) (n := n) (by simp [← hn]), List.drop_zero, List.take_of_length_le (by simp [← hn])]
  simpa using hu
theorem c_CheckInvariant_1 {h : Heap} {v w : Value} {st : Sta} {e : Exq} {b : Nat} (hv : VOk st.vals) (he : e.Ok) (Rt : Rep h v st) (Re : Rep h w e) (hb : hload h (some (.pointer (some ⟨b, 0, none⟩))) (some 3) = some w) :
    CallE Try.prog fn_impl_CheckInvariant_1 [v, .pointer (some ⟨b, 0, none⟩)] h (fun u h' => h.le h' ∧ u = .bool (badE e st)) := by
  obtain ⟨v1, v2, rfl, R1, R2⟩ := Rep_Sta.1 Rt
  refine CallE.gen fun k hk => EN_impl_CheckInvariant_1 rfl ?_
  simp -implicitDefEqProofs (disch := first | omega | (simp only [List.length_set, List.length_replicate, List.length_append, List.length_map, List.length_take, List.length_cons, List.length_nil]; omega)) [wrap64, hb]
  refine (c_eval _ hv he.1 Re R2).go ?_
  rintro _ h ⟨rfl, rfl⟩
  simp -implicitDefEqProofs (disch := first | omega | (simp only [List.length_set, List.length_replicate, List.length_append, List.length_map, List.length_take, List.length_cons, List.length_nil]; omega)) [wrap64]
  exact RetK.keep (hk _ _ ⟨Heap.le.refl _, rfl⟩)
theorem c_CheckInvariant {h : Heap} {v w : Value} {s : Sy} {e : Exq} (R : Rep h v s) (Re : Rep h w e) : CallE Try.prog fn_impl_CheckInvariant [v, w] h (RI2 (ckV s e.Ok (badE e)) (ckL s e.Ok (badE e)) h) := by
  have FS := R.aSy
  have FE := Re.aExq
  refine CallE.gen fun k hk => EN_impl_CheckInvariant rfl ?_
  simp -implicitDefEqProofs (disch := first | omega | (simp only [List.length_set, List.length_replicate, List.length_append, List.length_map, List.length_take, List.length_cons, List.length_nil]; omega)) [wrap64, FS, FE]
  refine HS.init.alloc rfl fun b h1 H => ?_
  have hb := H.bxall FE.2.1 FE.2.2.2
  simp -implicitDefEqProofs (disch := first | omega | (simp only [List.length_set, List.length_replicate, List.length_append, List.length_map, List.length_take, List.length_cons, List.length_nil]; omega)) [wrap64, FS, FE, hb]
  refine (c_ExprValid (Re.on H)).go ?_
  rintro _ h2 ⟨l2, rfl⟩
  have l1 := H.base
  simp -implicitDefEqProofs (disch := first | omega | (simp only [List.length_set, List.length_replicate, List.length_append, List.length_map, List.length_take, List.length_cons, List.length_nil]; omega)) [wrap64]
  refine (c_check (b := e.Ok) (bad := badE e) (f := fn_impl_CheckInvariant_1) (c1 := []) (c2 := [.pointer (some ⟨b, 0, none⟩)]) (R.le (l1.trans l2)) rfl ?_).go ?_
  · intro he hs h3 l3 st u hst Ru
    exact c_CheckInvariant_1 hst.vs he Ru (Re.le (l1.trans (l2.trans l3))) (hload_le (l2.trans l3) hb)
  rintro _ h3 ⟨x, rfl, G⟩
  simp -implicitDefEqProofs (disch := first | omega | (simp only [List.length_set, List.length_replicate, List.length_append, List.length_map, List.length_take, List.length_cons, List.length_nil]; omega)) [wrap64]
  exact RetK.keep (hk _ _ ⟨x, rfl, G.app (Γ := []) (l1.trans l2)⟩)
theorem c_l4First {h : Heap} {v w : Value} {s : Sy} {g : Gr} {bad : Sta → Bool} (hs : s.Ok) (hg : g.Fin s) (Rg : Rep h v g) (Rb : Rep h w (g.states.map bad)) :
    CallE Try.prog fn_spec_l4First [v, w] h (RI2 (if g.states.any bad then 1 else 0) (match g.states.findIdx? bad with | some i => sof g (pth g.next i) | none => []) h) := by
  have FG := Rg.aGr
  have Rg0 := Rg
  obtain ⟨v1, v2, rfl, R1, R2'⟩ := Rep_Gr.1 Rg
  have h60 := hg.n60
  refine CallE.gen fun k hk => EN_spec_l4First rfl ?_
  simp -implicitDefEqProofs (disch := first | omega | (simp only [List.length_set, List.length_replicate, List.length_append, List.length_map, List.length_take, List.length_cons, List.length_nil]; omega)) [wrap64]
  refine (c_l4Search hg.nok R2').go ?_
  rintro _ h1 ⟨p, q, rfl, H⟩
  simp -implicitDefEqProofs (disch := first | omega | (simp only [List.length_set, List.length_replicate, List.length_append, List.length_map, List.length_take, List.length_cons, List.length_nil]; omega)) [wrap64]
  refine wp_count g.states.length (fun i e h' => e = [none, some w, some (.agg #[v1, v2]), none, none, some p, some (.int .i64 i)] ∧ HS h [ow p (prn (bsN g.next g.next.length).1)] h' ∧ ∀ (j : Nat) (hj : j < g.states.length), j < i → bad g.states[j] = false) ⟨by simp, H.sw1.drop, fun j _ hj => absurd hj (Nat.not_lt_zero j)⟩ ?_
  clear H
  rintro J i _ h2 hJ hi ⟨rfl, H, hn⟩
  simp -implicitDefEqProofs (disch := first | omega | (simp only [List.length_set, List.length_replicate, List.length_append, List.length_map, List.length_take, List.length_cons, List.length_nil]; omega)) [wrap64, (R1.on H).len]
  refine IteW.mk (fun hlt => ?_) (fun hge => ?_)
  · have hlx : i < g.states.length := by omega
    have hml : (g.states.map bad).length = g.states.length := by simp
    have hmi : (g.states.map bad)[i]'(by omega) = bad g.states[i] := by simp
    by_cases hb : bad g.states[i] = true
    · have hfi : g.states.findIdx? bad = some i := by
        rw [List.findIdx?_eq_some_iff_getElem]
        exact ⟨hlx, hb, fun j hj => by rw [hn j (by omega) hj]; simp⟩
      have hany : g.states.any bad = true := by
        rw [← List.findIdx?_isSome, hfi]; rfl
      have hi2 : i < g.next.length := by rw [hg.nl]; exact hlx
      obtain ⟨p1, p2⟩ := pth_chn hg.nok hg.rr hi2
      have hall := p1.all
      rw [(bsN_inv hg.nok _).1.fl, hg.nl] at hall
      simp -implicitDefEqProofs (disch := first | omega | (simp only [List.length_set, List.length_replicate, List.length_append, List.length_map, List.length_take, List.length_cons, List.length_nil]; omega)) [wrap64, (Rb.on H).B, hmi, hb, FG]
      refine (c_l4Path hg.nok hg.rr hi2 H.rep).go ?_
      intro o h3 G
      have H := G.app H
      simp -implicitDefEqProofs (disch := first | omega | (simp only [List.length_set, List.length_replicate, List.length_append, List.length_map, List.length_take, List.length_cons, List.length_nil]; omega)) [wrap64, FG]
      refine (c_l4States hs hg (Rg0.on H) H.rep hall p2).go ?_
      intro x h4 G2
      have H := G2.app H
      simp -implicitDefEqProofs (disch := first | omega | (simp only [List.length_set, List.length_replicate, List.length_append, List.length_map, List.length_take, List.length_cons, List.length_nil]; omega)) [wrap64]
      exact RetK.keep (hk _ _ ⟨x, by rw [hany]; rfl, by rw [hfi]; exact H.only⟩)
    · simp -implicitDefEqProofs (disch := first | omega | (simp only [List.length_set, List.length_replicate, List.length_append, List.length_map, List.length_take, List.length_cons, List.length_nil]; omega)) [wrap64, (Rb.on H).B, hmi, hb]
      refine hJ _ _ hlx ⟨by simp, H, fun j hj hji => ?_⟩
      by_cases hji2 : j = i
      · subst hji2; simpa using hb
      · exact hn j hj (by omega)
  · have hfi : g.states.findIdx? bad = none := by
      rw [List.findIdx?_eq_none_iff]
      intro y hy
      obtain ⟨j, hj, rfl⟩ := List.mem_iff_getElem.1 hy
      exact hn j hj (by omega)
    have hany : g.states.any bad = false := by
      rw [← List.findIdx?_isSome, hfi]; rfl
    simp -implicitDefEqProofs (disch := first | omega | (simp only [List.length_set, List.length_replicate, List.length_append, List.length_map, List.length_take, List.length_cons, List.length_nil]; omega)) [wrap64]
    refine H.bls0 Sta fun x h3 H => ?_
    simp -implicitDefEqProofs (disch := first | omega | (simp only [List.length_set, List.length_replicate, List.length_append, List.length_map, List.length_take, List.length_cons, List.length_nil]; omega)) [wrap64]
    exact RetK.keep (hk _ _ ⟨x, by rw [hany]; rfl, by rw [hfi]; exact H.only⟩)
end Go.Proofs.Ytmpgkijhhocfcaa

/-
  Marks in lists of states and in lists of lists of numbers.
-/
namespace Go.Proofs.Ytmpgkijhhocfcaa
open Go
set_option linter.all false
set_option linter.unusedVariables false
set_option linter.unusedSimpArgs false
set_option linter.defProp false
set_option maxRecDepth 1000000

end Go.Proofs.Ytmpgkijhhocfcaa

/-
  What the helpers of the laws do: copying, counting, comparing, marking. Printed by a program.
-/
namespace Go.Proofs.Ytmpgkijhhocfcaa
open Go
set_option linter.all false
set_option linter.unusedVariables false
set_option linter.unusedSimpArgs false
set_option linter.defProp false
set_option maxRecDepth 1000000

end Go.Proofs.Ytmpgkijhhocfcaa

/-
  How much a graph holds.
-/
namespace Go.Proofs.Ytmpgkijhhocfcaa
open Go
set_option linter.all false
set_option linter.unusedVariables false
set_option linter.unusedSimpArgs false
set_option linter.defProp false
set_option maxRecDepth 1000000
end Go.Proofs.Ytmpgkijhhocfcaa

/-
  Checking reachable states: by the reference; how much the answers hold.
-/
namespace Go.Proofs.Ytmpgkijhhocfcaa
open Go
set_option linter.all false
set_option linter.unusedVariables false
set_option linter.unusedSimpArgs false
set_option linter.defProp false
set_option maxRecDepth 1000000

theorem c_spec_CheckInvariant {h : Heap} {v w : Value} {s : Sy} {e : Exq} (R : Rep h v s) (Re : Rep h w e) : CallE Try.prog fn_spec_CheckInvariant [v, w] h (RI2 (ckV s e.Ok (badE e)) (ckL s e.Ok (badE e)) h) := by
  have FS := R.aSy
  have FE := Re.aExq
  refine CallE.gen fun k hk => EN_spec_CheckInvariant rfl ?_
  have hno : ¬ (e.Ok ∧ s.Ok) → ∀ {u h'}, HS h [ow u ([] : List Sta)] h' → k (.tuple #[.int .i64 3, u]) h' := fun hn u h' H => hk _ _ ⟨_, by rw [ckV, if_pos hn], by rw [ckL, if_pos hn]; exact H⟩
  simp -implicitDefEqProofs (disch := first | omega | (simp only [List.length_set, List.length_replicate, List.length_append, List.length_map, List.length_take, List.length_cons, List.length_nil]; omega)) [wrap64, FS]
  refine (c_spec_SystemValid R).go ?_
  rintro _ h ⟨rfl, rfl⟩
  by_cases hs : s.Ok
  case neg =>
    simp -implicitDefEqProofs (disch := first | omega | (simp only [List.length_set, List.length_replicate, List.length_append, List.length_map, List.length_take, List.length_cons, List.length_nil]; omega)) [wrap64, hs]
    refine HS.init.bls0 Sta fun o h1 H => ?_
    simp -implicitDefEqProofs (disch := first | omega | (simp only [List.length_set, List.length_replicate, List.length_append, List.length_map, List.length_take, List.length_cons, List.length_nil]; omega)) [wrap64]
    exact RetK.keep (hno (fun hh => hs hh.2) H)
  simp -implicitDefEqProofs (disch := first | omega | (simp only [List.length_set, List.length_replicate, List.length_append, List.length_map, List.length_take, List.length_cons, List.length_nil]; omega)) [wrap64, hs, FE]
  refine (c_spec_ExprValid Re).go ?_
  rintro _ h ⟨rfl, rfl⟩
  by_cases he : e.Ok
  case neg =>
    simp -implicitDefEqProofs (disch := first | omega | (simp only [List.length_set, List.length_replicate, List.length_append, List.length_map, List.length_take, List.length_cons, List.length_nil]; omega)) [wrap64, he]
    refine HS.init.bls0 Sta fun o h1 H => ?_
    simp -implicitDefEqProofs (disch := first | omega | (simp only [List.length_set, List.length_replicate, List.length_append, List.length_map, List.length_take, List.length_cons, List.length_nil]; omega)) [wrap64]
    exact RetK.keep (hno (fun hh => he hh.1) H)
  have hy : ¬ ¬ (e.Ok ∧ s.Ok) := fun hh => hh ⟨he, hs⟩
  simp -implicitDefEqProofs (disch := first | omega | (simp only [List.length_set, List.length_replicate, List.length_append, List.length_map, List.length_take, List.length_cons, List.length_nil]; omega)) [wrap64, he, FS]
  refine (c_spec_BuildGraph R).go ?_
  rintro _ h1 ⟨u, rfl, H⟩
  have hA := H.rep.aGr
  by_cases q1 : bgOk s
  case neg =>
    simp -implicitDefEqProofs (disch := first | omega | (simp only [List.length_set, List.length_replicate, List.length_append, List.length_map, List.length_take, List.length_cons, List.length_nil]; omega)) [wrap64, q1, hA, setC]
    refine H.bls0 Sta fun o h1 H => ?_
    simp -implicitDefEqProofs (disch := first | omega | (simp only [List.length_set, List.length_replicate, List.length_append, List.length_map, List.length_take, List.length_cons, List.length_nil]; omega)) [wrap64]
    exact RetK.keep (hk _ _ ⟨_, by rw [ckV, if_neg hy, if_pos q1], by rw [ckL, if_neg hy, if_pos q1]; exact H.only⟩)
  have hfin := bgR_fin q1
  have q1' : ¬ ¬ bgOk s := fun hh => hh q1
  have h60 := hfin.n60
  simp -implicitDefEqProofs (disch := first | omega | (simp only [List.length_set, List.length_replicate, List.length_append, List.length_map, List.length_take, List.length_cons, List.length_nil]; omega)) [wrap64, q1, hA, setC]
  refine H.bls0 Bool fun o h2 H => ?_
  obtain ⟨xs, nx, rfl, H'⟩ := H.sw1.unGr
  simp -implicitDefEqProofs (disch := first | omega | (simp only [List.length_set, List.length_replicate, List.length_append, List.length_map, List.length_take, List.length_cons, List.length_nil]; omega)) [wrap64]
  generalize hg : bgR s = g at *
  refine wp_count g.states.length (fun i e' h' => ∃ o, e' = [none, none, none, some w, none, none, some (.agg #[xs, nx]), none, some o, some (.int .i64 i)] ∧ HS h [ow o ((g.states.map (badE e)).take i), ow xs g.states, ow nx g.next] h') ⟨o, by simp, by simpa using H'.sw2⟩ ?_
  clear H H'
  rintro J i _ h2 hJ hi ⟨o, rfl, H⟩
  simp -implicitDefEqProofs (disch := first | omega | (simp only [List.length_set, List.length_replicate, List.length_append, List.length_map, List.length_take, List.length_cons, List.length_nil]; omega)) [wrap64, H.sw1.rep.len]
  refine IteW.mk (fun hlt => ?_) (fun hge => ?_)
  · have hlx : i < g.states.length := by omega
    have hst := hfin.ok _ (List.getElem_mem hlx)
    obtain ⟨u, hu, Ru⟩ := H.sw1.rep.ld hlx
    change hload _ (some (elp 2 xs i)) (some 2) = some u at hu
    obtain ⟨t1, t2, rfl, T1, T2⟩ := Rep_Sta.1 Ru
    have hP := hld_parts (cs := [t1, t2]) hu
    have hl : ((g.states.map (badE e)).take i).length = i := by simp; omega
    have hstep : (g.states.map (badE e)).take (i + 1) = (g.states.map (badE e)).take i ++ [badE e g.states[i]] := by
      rw [List.take_add_one, List.getElem?_eq_getElem (by simpa using hlx)]; simp
    generalize (g.states.map (badE e)).take i = D at *
    simp -implicitDefEqProofs (disch := first | omega | (simp only [List.length_set, List.length_replicate, List.length_append, List.length_map, List.length_take, List.length_cons, List.length_nil]; omega)) [wrap64, H.sw1.rep.X (n := 2) rfl, hP.1, hP.2.2.1, FE]
    refine (c_l1Eval _ hst.vs he.1 (Re.on H) T2).go ?_
    rintro _ h2 ⟨rfl, rfl⟩
    simp -implicitDefEqProofs (disch := first | omega | (simp only [List.length_set, List.length_replicate, List.length_append, List.length_map, List.length_take, List.length_cons, List.length_nil]; omega)) [wrap64, setC]
    refine HS.app1 (bytes := 1) H (badE e g.states[i]) rfl rfl rfl trivial rfl rfl (by omega) (by omega) fun o' h3 H => ?_
    simp -implicitDefEqProofs (disch := first | omega | (simp only [List.length_set, List.length_replicate, List.length_append, List.length_map, List.length_take, List.length_cons, List.length_nil]; omega)) [wrap64]
    exact hJ _ _ hlx ⟨o', by simp, by rw [hstep]; exact H⟩
  · have hl : (g.states.map (badE e)).take i = g.states.map (badE e) := List.take_of_length_le (by simp; omega)
    rw [hl] at H
    have hO1 := H.sw1.rep.one
    have hO2 := H.sw2.rep.one
    have RG : Rep h2 (.agg #[xs, nx]) g := Rep_Gr.2 ⟨xs, nx, rfl, H.sw1.rep, H.sw2.rep⟩
    simp -implicitDefEqProofs (disch := first | omega | (simp only [List.length_set, List.length_replicate, List.length_append, List.length_map, List.length_take, List.length_cons, List.length_nil]; omega)) [wrap64, hO1, hO2]
    refine (c_l4First hs hfin RG H.rep).go ?_
    rintro _ h3 ⟨x, rfl, G⟩
    simp -implicitDefEqProofs (disch := first | omega | (simp only [List.length_set, List.length_replicate, List.length_append, List.length_map, List.length_take, List.length_cons, List.length_nil]; omega)) [wrap64]
    exact RetK.keep (hk _ _ ⟨x, by rw [ckV, if_neg hy, if_neg q1', hg]; simp only [List.any_eq_true], by rw [ckL, if_neg hy, if_neg q1', hg]; exact (G.app H).only⟩)
end Go.Proofs.Ytmpgkijhhocfcaa

/-
  Edges that are never taken: by the program and by the reference.
-/
namespace Go.Proofs.Ytmpgkijhhocfcaa
open Go
set_option linter.all false
set_option linter.unusedVariables false
set_option linter.unusedSimpArgs false
set_option linter.defProp false
set_option maxRecDepth 1000000

def ddS (p : Int) (l : List Bool) (t : Stp) : List Bool := if t.partner = p then (if t.proc = p then l.set t.edge.toNat false else l).set t.pedge.toNat false else if t.proc = p then l.set t.edge.toNat false else l
def ddF (s : Sy) (p : Int) (st : Sta) (n : Nat) (l : List Bool) : List Bool := ((enb s st).take n).foldl (ddS p) l
def ddG (s : Sy) (p : Int) (xs : List Sta) (n : Nat) (l : List Bool) : List Bool := (xs.take n).foldl (fun l st => ddF s p st (enb s st).length l) l
def dOk (s : Sy) (p : Int) : Prop := bgOk s ∧ 0 ≤ p ∧ p < s.procs.length
noncomputable instance instDecDOk {s : Sy} {p : Int} : Decidable (dOk s p) := Classical.propDecidable _
def Sy.dead (s : Sy) (p : Int) (g : Gr) : List Bool := ddG s p g.states g.states.length (List.replicate (s.procs.getD p.toNat ⟨0, []⟩).edges.length true)
noncomputable def deadR (s : Sy) (p : Int) : List Bool := if dOk s p then s.dead p (bgR s) else []
end Go.Proofs.Ytmpgkijhhocfcaa

/-
  Invariants and conjunctions; dead edges: in plain Lean.
-/
namespace Go.Proofs.Ytmpgkijhhocfcaa
open Go
set_option linter.all false
set_option linter.unusedVariables false
set_option linter.unusedSimpArgs false
set_option linter.defProp false
set_option maxRecDepth 1000000

theorem ckV_lt {s : Sy} {b : Prop} {bad : Sta → Bool} (h : ckV s b bad < 2) : b ∧ s.Ok ∧ bgOk s ∧ ckV s b bad = if (bgR s).states.any bad then 1 else 0 := by
  unfold ckV at *
  by_cases h1 : b ∧ s.Ok
  · rw [if_neg (fun hh => hh h1)] at *
    by_cases h2 : bgOk s
    · rw [if_neg (fun hh => hh h2)] at *
      exact ⟨h1.1, h1.2, h2, rfl⟩
    · rw [if_pos h2] at h; omega
  · rw [if_pos h1] at h; omega
theorem badE_and {e f : Exq} {st : Sta} : badE (Exq.mk 4 0 [e, f]) st = (badE e st || badE f st) := by
  unfold badE
  simp only [Exq.ev, Exq.evs, Exq.evk, Exq.tr]
  by_cases h1 : e.ev st.vals = 0 <;> by_cases h2 : f.ev st.vals = 0 <;> simp [h1, h2]
theorem inv_and {s : Sy} {e f : Exq} (h1 : ckV s e.Ok (badE e) < 2) (h2 : ckV s f.Ok (badE f) < 2) (h3 : ckV s (Exq.mk 4 0 [e, f]).Ok (badE (Exq.mk 4 0 [e, f])) < 2) :
    ckV s (Exq.mk 4 0 [e, f]).Ok (badE (Exq.mk 4 0 [e, f])) = 0 ↔ (ckV s e.Ok (badE e) = 0 ∧ ckV s f.Ok (badE f) = 0) := by
  rw [(ckV_lt h1).2.2.2, (ckV_lt h2).2.2.2, (ckV_lt h3).2.2.2]
  have hx : (bgR s).states.any (badE (Exq.mk 4 0 [e, f])) = ((bgR s).states.any (badE e) || (bgR s).states.any (badE f)) := by
    generalize (bgR s).states = l
    induction l with
    | nil => rfl
    | cons x l ih =>
      simp only [List.any_cons, ih, badE_and]
      cases badE e x <;> cases badE f x <;> cases l.any (badE e) <;> cases l.any (badE f) <;> rfl
  rw [hx]
  cases (bgR s).states.any (badE e) <;> cases (bgR s).states.any (badE f) <;> simp

end Go.Proofs.Ytmpgkijhhocfcaa

/-
  The law: invariants are closed under conjunction.
-/
namespace Go.Proofs.Ytmpgkijhhocfcaa
open Go
set_option linter.all false
set_option linter.unusedVariables false
set_option linter.unusedSimpArgs false
set_option linter.defProp false
set_option maxRecDepth 1000000

set_option maxHeartbeats 2000000 in
theorem c_FnInvariantAnd {h : Heap} {v w : Value} {l m : List (BitVec 8)} (R : Rep h v l) (RM : Rep h w m) : CallE Try.prog fn_laws_FnInvariantAnd [v, w] h (fun u h' => h.le h' ∧ u = .bool true) := by
  have i4 : I64 4 := ⟨by decide, by decide⟩
  have i0 : I64 0 := ⟨by decide, by decide⟩
  refine CallE.gen fun k hk => EN_laws_FnInvariantAnd rfl ?_
  by_cases a1 : (1048576 : Int) < l.length
  · simp -implicitDefEqProofs (disch := first | omega | (simp only [List.length_set, List.length_replicate, List.length_append, List.length_map, List.length_take, List.length_cons, List.length_nil]; omega)) [wrap64, R.len, a1]
    exact RetK.keep (hk _ _ ⟨Heap.le.refl _, rfl⟩)
  by_cases a2 : (1048576 : Int) < m.length
  · simp -implicitDefEqProofs (disch := first | omega | (simp only [List.length_set, List.length_replicate, List.length_append, List.length_map, List.length_take, List.length_cons, List.length_nil]; omega)) [wrap64, R.len, RM.len, a1, a2]
    exact RetK.keep (hk _ _ ⟨Heap.le.refl _, rfl⟩)
  simp -implicitDefEqProofs (disch := first | omega | (simp only [List.length_set, List.length_replicate, List.length_append, List.length_map, List.length_take, List.length_cons, List.length_nil]; omega)) [wrap64, R.len, RM.len, a1, a2]
  refine (c_DrawCheckInvariant R).go ?_
  rintro _ h1 ⟨u1, u2, s, e, rfl, H⟩
  have FS := H.rep.aSy
  obtain ⟨we, rfl, k1, k2, Re⟩ := Rep_Exq.1 H.sw1.rep
  have Re0 := H.sw1.rep
  have FE := Re0.aExq
  have hO1 := Re.one
  have hC1 := Re.cells
  have l1 := H.base
  have Rs := H.rep
  simp -implicitDefEqProofs (disch := first | omega | (simp only [List.length_set, List.length_replicate, List.length_append, List.length_map, List.length_take, List.length_cons, List.length_nil]; omega)) [wrap64, FS, FE, setC, hO1, hC1]
  refine (c_DrawCheckInvariant (RM.le l1)).go ?_
  rintro _ h2 ⟨w1, w2, s2, f, rfl, G⟩
  have FS2 := G.rep.aSy
  obtain ⟨wf, rfl, k3, k4, Rf⟩ := Rep_Exq.1 G.sw1.rep
  have Rf0 := G.sw1.rep
  have FF := Rf0.aExq
  have hO2 := Rf.one
  have hC2 := Rf.cells
  have l2 := G.base
  simp -implicitDefEqProofs (disch := first | omega | (simp only [List.length_set, List.length_replicate, List.length_append, List.length_map, List.length_take, List.length_cons, List.length_nil]; omega)) [wrap64, FS, FE, FS2, FF, setC, hO1, hC1, hO2, hC2]
  refine (c_CheckInvariant (Rs.le l2) (Re0.le l2)).go ?_
  rintro _ h3 ⟨x1, rfl, G1⟩
  have l3 := G1.base
  simp -implicitDefEqProofs (disch := first | omega | (simp only [List.length_set, List.length_replicate, List.length_append, List.length_map, List.length_take, List.length_cons, List.length_nil]; omega)) [wrap64, FS, FE, setC, hO1, hC1]
  refine (c_spec_CheckInvariant (Rs.le (l2.trans l3)) (Re0.le (l2.trans l3))).go ?_
  rintro _ h4 ⟨x2, rfl, G2⟩
  have l4 := G2.base
  simp -implicitDefEqProofs (disch := first | omega | (simp only [List.length_set, List.length_replicate, List.length_append, List.length_map, List.length_take, List.length_cons, List.length_nil]; omega)) [wrap64, FS, FF, setC, hO2, hC2]
  refine (c_CheckInvariant (Rs.le (l2.trans (l3.trans l4))) (Rf0.le (l3.trans l4))).go ?_
  rintro _ h5 ⟨x3, rfl, G3⟩
  have l5 := G3.base
  simp -implicitDefEqProofs (disch := first | omega | (simp only [List.length_set, List.length_replicate, List.length_append, List.length_map, List.length_take, List.length_cons, List.length_nil]; omega)) [wrap64, FS, FE, FF, setC, hO1, hC1, hO2, hC2]
  refine bls_R2 (Re0.le (l2.trans (l3.trans (l4.trans l5)))) (Rf0.le (l3.trans (l4.trans l5))) rfl fun q h6 l6 RQ => ?_
  have RA : Rep h6 (.agg #[.int .i64 4, .int .i64 0, q]) (Exq.mk 4 0 [e, f]) := Rep_Exq.2 ⟨q, rfl, i4, i0, RQ⟩
  simp -implicitDefEqProofs (disch := first | omega | (simp only [List.length_set, List.length_replicate, List.length_append, List.length_map, List.length_take, List.length_cons, List.length_nil]; omega)) [wrap64, FS, RQ.one, RQ.cells, setC]
  refine (c_CheckInvariant (Rs.le (l2.trans (l3.trans (l4.trans (l5.trans l6))))) RA).go ?_
  rintro _ h7 ⟨x4, rfl, G4⟩
  have l7 := G4.base
  have lall := l1.trans (l2.trans (l3.trans (l4.trans (l5.trans (l6.trans l7)))))
  obtain ⟨V, hV⟩ : ∃ V, V = ckV s e.Ok (badE e) := ⟨_, rfl⟩
  obtain ⟨W, hW⟩ : ∃ W, W = ckV s f.Ok (badE f) := ⟨_, rfl⟩
  obtain ⟨X, hX⟩ : ∃ X, X = ckV s (Exq.mk 4 0 [e, f]).Ok (badE (Exq.mk 4 0 [e, f])) := ⟨_, rfl⟩
  rw [← hV, ← hW, ← hX]
  by_cases b1 : 2 ≤ V
  · simp -implicitDefEqProofs (disch := first | omega | (simp only [List.length_set, List.length_replicate, List.length_append, List.length_map, List.length_take, List.length_cons, List.length_nil]; omega)) [wrap64, b1]
    exact RetK.keep (hk _ _ ⟨lall, rfl⟩)
  by_cases b2 : 2 ≤ W
  · simp -implicitDefEqProofs (disch := first | omega | (simp only [List.length_set, List.length_replicate, List.length_append, List.length_map, List.length_take, List.length_cons, List.length_nil]; omega)) [wrap64, b1, b2]
    exact RetK.keep (hk _ _ ⟨lall, rfl⟩)
  by_cases b3 : 2 ≤ X
  · simp -implicitDefEqProofs (disch := first | omega | (simp only [List.length_set, List.length_replicate, List.length_append, List.length_map, List.length_take, List.length_cons, List.length_nil]; omega)) [wrap64, b1, b2, b3]
    exact RetK.keep (hk _ _ ⟨lall, rfl⟩)
  have hiff := inv_and (s := s) (e := e) (f := f) (by rw [← hV]; omega) (by rw [← hW]; omega) (by rw [← hX]; omega)
  rw [← hV, ← hW, ← hX] at hiff
  by_cases c1 : V = 0
  · by_cases c2 : W = 0
    · have c3 := hiff.2 ⟨c1, c2⟩
      simp -implicitDefEqProofs (disch := first | omega | (simp only [List.length_set, List.length_replicate, List.length_append, List.length_map, List.length_take, List.length_cons, List.length_nil]; omega)) [wrap64, b1, b2, b3, c1, c2, c3]
      exact RetK.keep (hk _ _ ⟨lall, rfl⟩)
    · have c3 : ¬ X = 0 := fun hh => c2 (hiff.1 hh).2
      simp -implicitDefEqProofs (disch := first | omega | (simp only [List.length_set, List.length_replicate, List.length_append, List.length_map, List.length_take, List.length_cons, List.length_nil]; omega)) [wrap64, b1, b2, b3, c1, c2, c3]
      exact RetK.keep (hk _ _ ⟨lall, rfl⟩)
  · have c3 : ¬ X = 0 := fun hh => c1 (hiff.1 hh).1
    simp -implicitDefEqProofs (disch := first | omega | (simp only [List.length_set, List.length_replicate, List.length_append, List.length_map, List.length_take, List.length_cons, List.length_nil]; omega)) [wrap64, b1, b2, b3, c1, c3]
    exact RetK.keep (hk _ _ ⟨lall, rfl⟩)
end Go.Proofs.Ytmpgkijhhocfcaa
