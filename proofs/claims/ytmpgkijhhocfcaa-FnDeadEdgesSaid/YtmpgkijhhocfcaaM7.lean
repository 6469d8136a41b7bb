/-
  Texts of this proof, one behind the other.
-/
import Derived.Test.YtmpgkijhhocfcaaM6
/-
  Steps by the reference; the state after a step, by the program and by the reference.
-/
namespace Go.Proofs.Ytmpgkijhhocfcaa
open Go
set_option linter.all false
set_option linter.unusedVariables false
set_option linter.unusedSimpArgs false
set_option linter.defProp false
set_option maxRecDepth 1000000

theorem c_l3Partners {h : Heap} {v w : Value} {s : Sy} {st : Sta} (hs : s.Ok) (ht : st.Ok s) (R : Rep h v s) (Rt : Rep h w st) {i m : Nat} (hi : i < s.procs.length) (hm : m < s.procs[i].edges.length) :
    CallE Try.prog fn_spec_l3Partners [v, w, .int .i64 i, .int .i64 m] h (fun u h' => HS h [ow u (prt s st i m s.procs[i].edges[m].sync)] h') := by
  have R0 := R
  have Rt0 := Rt
  obtain ⟨v1, v2, rfl, R1, R2'⟩ := Rep_Sy.1 R
  obtain ⟨t1, t2, rfl, T1, T2⟩ := Rep_Sta.1 Rt
  have hp3 := hs.p3
  have heo := (hs.at hi).at hm
  have hs0 := heo.s0
  have hs1 := heo.s1
  obtain ⟨we, w1, w2, hu, R3, hu2, ok, G1, G2⟩ := R2'.edge hi hm
  obtain ⟨c, hc⟩ : ∃ c, c = s.procs[i].edges[m].sync := ⟨_, rfl⟩
  refine CallE.gen fun k hk => EN_spec_l3Partners rfl ?_
  rw [← hc] at hk hs0 hs1
  simp -implicitDefEqProofs (disch := first | omega | (simp only [List.length_set, List.length_replicate, List.length_append, List.length_map, List.length_take, List.length_cons, List.length_nil]; omega)) [wrap64]
  refine HS.init.bls0 Stp fun o h1 H => ?_
  have hP := hld_parts (hload_le H.base hu)
  have hQ := hld_parts (hload_le H.base hu2)
  simp -implicitDefEqProofs (disch := first | omega | (simp only [List.length_set, List.length_replicate, List.length_append, List.length_map, List.length_take, List.length_cons, List.length_nil]; omega)) [wrap64, R2'.X (n := 2) rfl, hP.1, hP.2.2.1, R3.X (n := 10) rfl, hQ.1, hQ.2.2.1, Ed.cs]
  refine wp_count s.procs.length (fun j e h' => ∃ o, e = [none, none, some (.int .i64 i), some (.int .i64 m), some (.agg #[v1, v2]), some (.agg #[t1, t2]), none, some o, some (.int .i64 c), some (.int .i64 j), none] ∧ HS h [ow o ((s.procs.zipIdx.take j).flatMap (prt1 st i m c))] h') ⟨o, by simp [hc], by simpa using H⟩ ?_
  clear H hP hQ
  rintro J2 j _ h3 hJ2 hj ⟨o, rfl, H⟩
  simp -implicitDefEqProofs (disch := first | omega | (simp only [List.length_set, List.length_replicate, List.length_append, List.length_map, List.length_take, List.length_cons, List.length_nil]; omega)) [wrap64, R2'.len]
  refine IteW.mk (fun hlt2 => ?_) (fun hge2 => ?_)
  · have hj : j < s.procs.length := by omega
    obtain ⟨D, hD⟩ : ∃ D, D = (s.procs.zipIdx.take j).flatMap (prt1 st i m c) := ⟨_, rfl⟩
    have hDl : D.length ≤ 18 := by rw [hD]; exact prt_len hs
    rw [← hD] at H
    obtain ⟨u, hu, Ru⟩ := R2'.ld hj
    change hload _ (some (elp 2 v2 j)) (some 2) = some u at hu
    obtain ⟨wf, rfl, k2, R4⟩ := Rep_Pr.1 Ru
    have hpj := hs.at hj
    have hej := hpj.el
    have hP : ∀ {h'}, h.le h' → _ := fun {h'} (hl : h.le h') => hld_parts (hload_le hl hu)
    simp -implicitDefEqProofs (disch := first | omega | (simp only [List.length_set, List.length_replicate, List.length_append, List.length_map, List.length_take, List.length_cons, List.length_nil]; omega)) [wrap64]
    refine wp_count s.procs[j].edges.length (fun n e h' => ∃ o, e = [none, none, some (.int .i64 i), some (.int .i64 m), some (.agg #[v1, v2]), some (.agg #[t1, t2]), none, some o, some (.int .i64 c), some (.int .i64 j), some (.int .i64 n)] ∧ HS h [ow o (D ++ (s.procs[j].edges.zipIdx.take n).flatMap (prt2 st i m c j))] h') ⟨o, by simp, by simpa using H⟩ ?_
    clear H
    rintro J3 n _ h4 hJ3 hn ⟨o, rfl, H⟩
    have hP1 := (hP H.base).1
    have hP2 := (hP H.base).2.2.1
    simp -implicitDefEqProofs (disch := first | omega | (simp only [List.length_set, List.length_replicate, List.length_append, List.length_map, List.length_take, List.length_cons, List.length_nil]; omega)) [wrap64, R2'.X (n := 2) rfl, hP1, hP2, R4.len]
    refine IteW.mk (fun hlt3 => ?_) (fun hge3 => ?_)
    · have hn : n < s.procs[j].edges.length := by omega
      obtain ⟨E, hE⟩ : ∃ E, E = D ++ (s.procs[j].edges.zipIdx.take n).flatMap (prt2 st i m c j) := ⟨_, rfl⟩
      have hEl : E.length ≤ 24 := by
        rw [hE, List.length_append]
        have := prt1_len (st := st) (i := i) (k := m) (c := c) (j := j) (n := n) hpj
        omega
      have hstep2 : D ++ (s.procs[j].edges.zipIdx.take (n + 1)).flatMap (prt2 st i m c j) = E ++ prt2 st i m c j (s.procs[j].edges[n], n) := by rw [fm_tk hn, ← List.append_assoc, ← hE]
      rw [← hE] at H
      obtain ⟨u, hu, Ru⟩ := R4.ld hn
      have hu2 := hload_le H.base hu
      change hload _ (some (elp 10 wf n)) (some 10) = some u at hu2
      obtain ⟨x1, x2, rfl, okf, X1, X2⟩ := Rep_Ed.1 Ru
      have hQ := hld_parts hu2
      have hgo2 : ∀ {o' h'}, HS h [ow o' (E ++ prt2 st i m c j (s.procs[j].edges[n], n))] h' → J3 [none, none, some (.int .i64 i), some (.int .i64 m), some (.agg #[v1, v2]), some (.agg #[t1, t2]), none, some o', some (.int .i64 c), some (.int .i64 j), some (.int .i64 ((n + 1 : Nat) : Int))] h' :=
        fun {o' h'} H => hJ3 _ _ hn ⟨o', by simp, by rw [hstep2]; exact H⟩
      by_cases b1 : j = i
      · simp -implicitDefEqProofs (disch := first | omega | (simp only [List.length_set, List.length_replicate, List.length_append, List.length_map, List.length_take, List.length_cons, List.length_nil]; omega)) [wrap64, b1]
        subst b1
        exact hgo2 (by rw [prt2, if_neg (fun hh => hh.1 rfl)]; simpa using H)
      have b1' : ¬ ((j : Int) = i) := by omega
      by_cases b2 : s.procs[j].edges[n].sync = -c
      case neg =>
        simp -implicitDefEqProofs (disch := first | omega | (simp only [List.length_set, List.length_replicate, List.length_append, List.length_map, List.length_take, List.length_cons, List.length_nil]; omega)) [wrap64, R2'.X (n := 2) rfl, hP1, hP2, R4.X (n := 10) rfl, hQ.1, hQ.2.2.1, Ed.cs, b1, b1', b2]
        exact hgo2 (by rw [prt2, if_neg (fun hh => b2 hh.2.1)]; simpa using H)
      simp -implicitDefEqProofs (disch := first | omega | (simp only [List.length_set, List.length_replicate, List.length_append, List.length_map, List.length_take, List.length_cons, List.length_nil]; omega)) [wrap64, R2'.X (n := 2) rfl, hP1, hP2, R4.X (n := 10) rfl, hQ.1, hQ.2.2.1, Ed.cs, b1, b1', b2]
      refine (c_l3Ready hs ht (R0.on H) (Rt0.on H) hj hn).go ?_
      rintro _ h4 ⟨rfl, rfl⟩
      by_cases b3 : s.procs[j].edges[n].rdy st j = true
      case neg =>
        simp -implicitDefEqProofs (disch := first | omega | (simp only [List.length_set, List.length_replicate, List.length_append, List.length_map, List.length_take, List.length_cons, List.length_nil]; omega)) [wrap64, b3]
        exact hgo2 (by rw [prt2, if_neg (fun hh => b3 hh.2.2)]; simpa using H)
      have hel := (hs.at hi).el
      simp -implicitDefEqProofs (disch := first | omega | (simp only [List.length_set, List.length_replicate, List.length_append, List.length_map, List.length_take, List.length_cons, List.length_nil]; omega)) [wrap64, b3, setC]
      refine H.app1 (bytes := 32) (⟨i, m, j, n⟩ : Stp) rfl rfl rfl (Stp.ok_iff.2 ⟨by dsimp only; omega, by dsimp only; omega, by dsimp only; omega, by dsimp only; omega⟩) rfl rfl (by omega) (by omega) fun o' h5 H => ?_
      simp -implicitDefEqProofs (disch := first | omega | (simp only [List.length_set, List.length_replicate, List.length_append, List.length_map, List.length_take, List.length_cons, List.length_nil]; omega)) [wrap64]
      refine hgo2 ?_
      rw [prt2, if_pos ⟨b1, b2, b3⟩]; exact H
    simp -implicitDefEqProofs (disch := first | omega | (simp only [List.length_set, List.length_replicate, List.length_append, List.length_map, List.length_take, List.length_cons, List.length_nil]; omega)) [wrap64]
    rw [fm_all (by omega)] at H
    exact hJ2 _ _ hj ⟨o, by simp, by rw [fm_tk hj, ← hD]; exact H⟩
  simp -implicitDefEqProofs (disch := first | omega | (simp only [List.length_set, List.length_replicate, List.length_append, List.length_map, List.length_take, List.length_cons, List.length_nil]; omega)) [wrap64]
  rw [fm_all (by omega)] at H
  exact RetK.keep (hk _ _ H)

theorem c_l3Steps {h : Heap} {v w : Value} {s : Sy} {st : Sta} (hs : s.Ok) (ht : st.Ok s) (R : Rep h v s) (Rt : Rep h w st) : CallE Try.prog fn_spec_l3Steps [v, w] h (fun u h' => HS h [ow u (enb s st)] h') := by
  have FS := R.aSy
  have FT := Rt.aSta
  have R0 := R
  have Rt0 := Rt
  obtain ⟨v1, v2, rfl, R1, R2'⟩ := Rep_Sy.1 R
  obtain ⟨t1, t2, rfl, T1, T2⟩ := Rep_Sta.1 Rt
  have hp3 := hs.p3
  refine CallE.gen fun k hk => EN_spec_l3Steps rfl ?_
  simp -implicitDefEqProofs (disch := first | omega | (simp only [List.length_set, List.length_replicate, List.length_append, List.length_map, List.length_take, List.length_cons, List.length_nil]; omega)) [wrap64]
  refine HS.init.bls0 Stp fun o h1 H => ?_
  simp -implicitDefEqProofs (disch := first | omega | (simp only [List.length_set, List.length_replicate, List.length_append, List.length_map, List.length_take, List.length_cons, List.length_nil]; omega)) [wrap64]
  refine wp_count s.procs.length (fun i e h' => ∃ o, e = [none, none, some (.agg #[v1, v2]), some (.agg #[t1, t2]), none, some o, some (.int .i64 i), none, none] ∧ HS h [ow o ((s.procs.zipIdx.take i).flatMap (enb1 s st))] h') ⟨o, by simp, by simpa using H⟩ ?_
  clear H
  rintro J0 i _ h1 hJ0 hi ⟨o, rfl, H⟩
  simp -implicitDefEqProofs (disch := first | omega | (simp only [List.length_set, List.length_replicate, List.length_append, List.length_map, List.length_take, List.length_cons, List.length_nil]; omega)) [wrap64, R2'.len]
  refine IteW.mk (fun hlt => ?_) (fun hge => ?_)
  · have hi : i < s.procs.length := by omega
    obtain ⟨A, hA⟩ : ∃ A, A = (s.procs.zipIdx.take i).flatMap (enb1 s st) := ⟨_, rfl⟩
    have hAl : A.length ≤ 324 := by rw [hA]; exact enb_len hs
    obtain ⟨u, hu, Ru⟩ := R2'.ld hi
    change hload _ (some (elp 2 v2 i)) (some 2) = some u at hu
    obtain ⟨we, rfl, k1, R3⟩ := Rep_Pr.1 Ru
    have hpo := hs.at hi
    have hel := hpo.el
    have hP : ∀ {h'}, h.le h' → _ := fun {h'} (hl : h.le h') => hld_parts (hload_le hl hu)
    rw [← hA] at H
    simp -implicitDefEqProofs (disch := first | omega | (simp only [List.length_set, List.length_replicate, List.length_append, List.length_map, List.length_take, List.length_cons, List.length_nil]; omega)) [wrap64]
    refine wp_count s.procs[i].edges.length (fun m e h' => ∃ o, e = [none, none, some (.agg #[v1, v2]), some (.agg #[t1, t2]), none, some o, some (.int .i64 i), some (.int .i64 m), none] ∧ HS h [ow o (A ++ (s.procs[i].edges.zipIdx.take m).flatMap (enb2 s st i))] h') ⟨o, by simp, by simpa using H⟩ ?_
    clear H
    rintro J1 m _ h2 hJ1 hm ⟨o, rfl, H⟩
    have hP1 := (hP H.base).1
    have hP2 := (hP H.base).2.2.1
    simp -implicitDefEqProofs (disch := first | omega | (simp only [List.length_set, List.length_replicate, List.length_append, List.length_map, List.length_take, List.length_cons, List.length_nil]; omega)) [wrap64, R2'.X (n := 2) rfl, hP1, hP2, R3.len]
    refine IteW.mk (fun hlt1 => ?_) (fun hge1 => ?_)
    · have hm : m < s.procs[i].edges.length := by omega
      obtain ⟨B, hB⟩ : ∃ B, B = A ++ (s.procs[i].edges.zipIdx.take m).flatMap (enb2 s st i) := ⟨_, rfl⟩
      have hBl : B.length ≤ 432 := by
        rw [hB, List.length_append]
        have := enb1_len (st := st) (i := i) (n := m) hs hpo
        omega
      have hstep : A ++ (s.procs[i].edges.zipIdx.take (m + 1)).flatMap (enb2 s st i) = B ++ enb2 s st i (s.procs[i].edges[m], m) := by rw [fm_tk hm, ← List.append_assoc, ← hB]
      rw [← hB] at H
      obtain ⟨u, hu, Ru⟩ := R3.ld hm
      have hu2 := hload_le H.base hu
      change hload _ (some (elp 10 we m)) (some 10) = some u at hu2
      obtain ⟨w1, w2, rfl, ok, G1, G2⟩ := Rep_Ed.1 Ru
      have heo := hpo.at hm
      have hQ := hld_parts hu2
      have hgo : ∀ {o' h'}, HS h [ow o' (B ++ enb2 s st i (s.procs[i].edges[m], m))] h' → J1 [none, none, some (.agg #[v1, v2]), some (.agg #[t1, t2]), none, some o', some (.int .i64 i), some (.int .i64 ((m + 1 : Nat) : Int)), none] h' :=
        fun {o' h'} H => hJ1 _ _ hm ⟨o', by simp, by rw [hstep]; exact H⟩
      by_cases a2 : s.procs[i].edges[m].sync < 0
      · simp -implicitDefEqProofs (disch := first | omega | (simp only [List.length_set, List.length_replicate, List.length_append, List.length_map, List.length_take, List.length_cons, List.length_nil]; omega)) [wrap64, R2'.X (n := 2) rfl, hP1, hP2, R3.X (n := 10) rfl, hQ.1, hQ.2.2.1, Ed.cs, a2]
        exact hgo (by rw [enb2, if_pos (.inl a2)]; simpa using H)
      simp -implicitDefEqProofs (disch := first | omega | (simp only [List.length_set, List.length_replicate, List.length_append, List.length_map, List.length_take, List.length_cons, List.length_nil]; omega)) [wrap64, R2'.X (n := 2) rfl, hP1, hP2, R3.X (n := 10) rfl, hQ.1, hQ.2.2.1, Ed.cs, a2]
      refine (c_l3Ready hs ht (R0.on H) (Rt0.on H) hi hm).go ?_
      rintro _ h2 ⟨rfl, rfl⟩
      by_cases a1 : s.procs[i].edges[m].rdy st i = true
      case neg =>
        simp -implicitDefEqProofs (disch := first | omega | (simp only [List.length_set, List.length_replicate, List.length_append, List.length_map, List.length_take, List.length_cons, List.length_nil]; omega)) [wrap64, a1]
        exact hgo (by rw [enb2, if_pos (.inr (by simpa using a1))]; simpa using H)
      by_cases a3 : s.procs[i].edges[m].sync = 0
      · simp -implicitDefEqProofs (disch := first | omega | (simp only [List.length_set, List.length_replicate, List.length_append, List.length_map, List.length_take, List.length_cons, List.length_nil]; omega)) [wrap64, a1, a2, a3, setC]
        refine H.app1 (bytes := 32) (⟨i, m, -1, -1⟩ : Stp) rfl rfl rfl (Stp.ok_iff.2 ⟨by dsimp only; omega, by dsimp only; omega, by dsimp only; omega, by dsimp only; omega⟩) rfl rfl (by omega) (by omega) fun o' h3 H => ?_
        simp -implicitDefEqProofs (disch := first | omega | (simp only [List.length_set, List.length_replicate, List.length_append, List.length_map, List.length_take, List.length_cons, List.length_nil]; omega)) [wrap64]
        refine hgo ?_
        rw [enb2, if_neg (by simp [a2, a1]), if_pos a3]; exact H
      have hen : enb2 s st i (s.procs[i].edges[m], m) = prt s st i m s.procs[i].edges[m].sync := by rw [enb2, if_neg (by simp [a2, a1]), if_neg a3]
      have hpl := prt_len' (st := st) (i := i) (k := m) (c := s.procs[i].edges[m].sync) hs
      rw [hen] at hgo
      simp -implicitDefEqProofs (disch := first | omega | (simp only [List.length_set, List.length_replicate, List.length_append, List.length_map, List.length_take, List.length_cons, List.length_nil]; omega)) [wrap64, a1, a2, a3]
      refine (c_l3Partners hs ht (R0.on H) (Rt0.on H) hi hm).go ?_
      intro p h3 G
      have H := G.app H
      simp -implicitDefEqProofs (disch := first | omega | (simp only [List.length_set, List.length_replicate, List.length_append, List.length_map, List.length_take, List.length_cons, List.length_nil]; omega)) [wrap64]
      refine HS.appL (u := p) (l2 := prt s st i m s.procs[i].edges[m].sync) H.sw1 rfl rfl H.rep rfl rfl (by omega) (by omega) fun o' h4 H => ?_
      simp -implicitDefEqProofs (disch := first | omega | (simp only [List.length_set, List.length_replicate, List.length_append, List.length_map, List.length_take, List.length_cons, List.length_nil]; omega)) [wrap64]
      exact hgo H.only
    simp -implicitDefEqProofs (disch := first | omega | (simp only [List.length_set, List.length_replicate, List.length_append, List.length_map, List.length_take, List.length_cons, List.length_nil]; omega)) [wrap64]
    rw [fm_all (by omega)] at H
    exact hJ0 _ _ hi ⟨o, by simp, by rw [fm_tk hi, ← hA]; exact H⟩
  simp -implicitDefEqProofs (disch := first | omega | (simp only [List.length_set, List.length_replicate, List.length_append, List.length_map, List.length_take, List.length_cons, List.length_nil]; omega)) [wrap64]
  rw [fm_all (by omega)] at H
  exact RetK.keep (hk _ _ H)

theorem c_StateValid {h : Heap} {v w : Value} {s : Sy} {st : Sta} (R : Rep h v s) (Rt : Rep h w st) : CallE Try.prog fn_impl_StateValid [v, w] h (fun u h' => h.le h' ∧ u = .bool (decide (s.Ok ∧ st.Ok s))) := by
  have FS := R.aSy
  have FT := Rt.aSta
  refine CallE.gen fun k hk => EN_impl_StateValid rfl ?_
  simp -implicitDefEqProofs (disch := first | omega | (simp only [List.length_set, List.length_replicate, List.length_append, List.length_map, List.length_take, List.length_cons, List.length_nil]; omega)) [wrap64, FS, FT]
  refine (c_SystemValid R).go ?_
  rintro _ h1 ⟨l1, rfl⟩
  by_cases hs : s.Ok
  case neg => simp -implicitDefEqProofs (disch := first | omega | (simp only [List.length_set, List.length_replicate, List.length_append, List.length_map, List.length_take, List.length_cons, List.length_nil]; omega)) [wrap64, hs]; exact RetK.keep (hk _ _ ⟨l1, by rw [decide_eq_false (fun hh => hs hh.1)]⟩)
  simp -implicitDefEqProofs (disch := first | omega | (simp only [List.length_set, List.length_replicate, List.length_append, List.length_map, List.length_take, List.length_cons, List.length_nil]; omega)) [wrap64, hs, FS, FT]
  refine (c_has hs (R.le l1) (Rt.le l1)).go ?_
  rintro _ h2 ⟨l2, rfl⟩
  simp -implicitDefEqProofs (disch := first | omega | (simp only [List.length_set, List.length_replicate, List.length_append, List.length_map, List.length_take, List.length_cons, List.length_nil]; omega)) [wrap64]
  exact RetK.keep (hk _ _ ⟨l1.trans l2, by congr 1; rw [Bool.eq_iff_iff]; simp [hs]⟩)
theorem c_EnabledSteps {h : Heap} {v w : Value} {s : Sy} {st : Sta} (R : Rep h v s) (Rt : Rep h w st) : CallE Try.prog fn_impl_EnabledSteps [v, w] h (fun u h' => HS h [ow u (ens s st)] h') := by
  have FS := R.aSy
  have FT := Rt.aSta
  refine CallE.gen fun k hk => EN_impl_EnabledSteps rfl ?_
  have hno : ¬ (s.Ok ∧ st.Ok s) → ∀ {h'}, h.le h' → k (.slice none 0 0) h' := fun hn h' hl => hk _ _ (by rw [ens, if_neg hn]; exact HS.nil_ow (Γ := []) hl)
  simp -implicitDefEqProofs (disch := first | omega | (simp only [List.length_set, List.length_replicate, List.length_append, List.length_map, List.length_take, List.length_cons, List.length_nil]; omega)) [wrap64, FS, FT]
  refine (c_StateValid R Rt).go ?_
  rintro _ h1 ⟨l1, rfl⟩
  by_cases q : s.Ok ∧ st.Ok s
  case neg => simp -implicitDefEqProofs (disch := first | omega | (simp only [List.length_set, List.length_replicate, List.length_append, List.length_map, List.length_take, List.length_cons, List.length_nil]; omega)) [wrap64, q]; exact RetK.keep (hno q l1)
  simp -implicitDefEqProofs (disch := first | omega | (simp only [List.length_set, List.length_replicate, List.length_append, List.length_map, List.length_take, List.length_cons, List.length_nil]; omega)) [wrap64, q, FS, FT]
  refine (c_enabled q.1 q.2 (R.le l1) (Rt.le l1)).go ?_
  intro u h2 H
  simp -implicitDefEqProofs (disch := first | omega | (simp only [List.length_set, List.length_replicate, List.length_append, List.length_map, List.length_take, List.length_cons, List.length_nil]; omega)) [wrap64]
  exact RetK.keep (hk _ _ (by rw [ens, if_pos q]; exact HS.app (Γ := []) H l1))
theorem c_take {g h : Heap} {Γ : List HP} {t1 t2 v : Value} {s : Sy} {st : Sta} {e : Ed} {i : Nat} (hi : i < s.procs.length) (ht : st.Ok s) (he : e.Ok s.procs[i].locs) (R : Rep g v e) (H : HS g (ow t1 st.locs :: ow t2 st.vals :: Γ) h) :
    CallE Try.prog fn_impl_State_take [.agg #[t1, t2], .int .i64 i, v] h (fun _ h' => HS g (ow t1 (st.tk i e).locs :: ow t2 (st.tk i e).vals :: Γ) h') := by
  obtain ⟨w1, w2, rfl, ok, G1, G2⟩ := Rep_Ed.1 R
  have hil : i < st.locs.length := by rw [ht.len]; exact hi
  have hvl := ht.vs.len
  refine CallE.gen fun k hk => EN_impl_State_take rfl ?_
  simp -implicitDefEqProofs (disch := first | omega | (simp only [List.length_set, List.length_replicate, List.length_append, List.length_map, List.length_take, List.length_cons, List.length_nil]; omega)) [wrap64, Ed.cs, H.rep.I]
  refine H.storeF e.to (i := i) hil rfl rfl ok.to rfl fun h1 H => ?_
  by_cases a1 : 0 ≤ e.var
  case neg =>
    simp -implicitDefEqProofs (disch := first | omega | (simp only [List.length_set, List.length_replicate, List.length_append, List.length_map, List.length_take, List.length_cons, List.length_nil]; omega)) [wrap64, a1]
    exact RetK.keep (hk _ _ (by simp only [Sta.tk]; rw [if_neg a1]; exact H))
  have hvo : e.value.Ok := he.vl.elim (fun hh => hh.2) (fun hh => absurd hh.1 (by omega))
  have hv1 := he.v1
  obtain ⟨q, hq⟩ : ∃ q : Nat, e.var = q := ⟨_, (Int.toNat_of_nonneg a1).symm⟩
  have hb := Exq.ev_bnd ht.vs hvo.1
  simp -implicitDefEqProofs (disch := first | omega | (simp only [List.length_set, List.length_replicate, List.length_append, List.length_map, List.length_take, List.length_cons, List.length_nil]; omega)) [wrap64, a1, hq]
  refine (c_eval _ ht.vs hvo.1 ((Rep.vl ok G2).on H) H.sw1.rep).go ?_
  rintro _ h1 ⟨rfl, rfl⟩
  simp -implicitDefEqProofs (disch := first | omega | (simp only [List.length_set, List.length_replicate, List.length_append, List.length_map, List.length_take, List.length_cons, List.length_nil]; omega)) [wrap64, H.sw1.rep.I]
  refine H.sw1.storeF (e.value.ev st.vals) (i := q) (by omega) rfl rfl ⟨by omega, by omega⟩ rfl fun h2 H => ?_
  simp -implicitDefEqProofs (disch := first | omega | (simp only [List.length_set, List.length_replicate, List.length_append, List.length_map, List.length_take, List.length_cons, List.length_nil]; omega)) [wrap64]
  exact RetK.keep (hk _ _ (by simp only [Sta.tk]; rw [if_pos a1, hq, Int.toNat_natCast]; exact H.sw1))
theorem c_l3Take {g h : Heap} {Γ : List HP} {t1 t2 v : Value} {s : Sy} {st : Sta} {e : Ed} {i : Nat} (hi : i < s.procs.length) (ht : st.Ok s) (he : e.Ok s.procs[i].locs) (R : Rep g v e) (H : HS g (ow t1 st.locs :: ow t2 st.vals :: Γ) h) :
    CallE Try.prog fn_spec_l3Take [.agg #[t1, t2], .int .i64 i, v] h (fun u h' => u = .agg #[t1, t2] ∧ HS g (ow t1 (st.tk i e).locs :: ow t2 (st.tk i e).vals :: Γ) h') := by
  obtain ⟨w1, w2, rfl, ok, G1, G2⟩ := Rep_Ed.1 R
  have hil : i < st.locs.length := by rw [ht.len]; exact hi
  have hvl := ht.vs.len
  have hO1 := H.rep.one
  have hO2 := H.sw1.rep.one
  refine CallE.gen fun k hk => EN_spec_l3Take rfl ?_
  simp -implicitDefEqProofs (disch := first | omega | (simp only [List.length_set, List.length_replicate, List.length_append, List.length_map, List.length_take, List.length_cons, List.length_nil]; omega)) [wrap64, Ed.cs, H.rep.I]
  refine H.storeF e.to (i := i) hil rfl rfl ok.to rfl fun h1 H => ?_
  by_cases a1 : 0 ≤ e.var
  case neg =>
    simp -implicitDefEqProofs (disch := first | omega | (simp only [List.length_set, List.length_replicate, List.length_append, List.length_map, List.length_take, List.length_cons, List.length_nil]; omega)) [wrap64, a1, setC, hO1, hO2]
    exact RetK.keep (hk _ _ ⟨rfl, by simp only [Sta.tk]; rw [if_neg a1]; exact H⟩)
  have hvo : e.value.Ok := he.vl.elim (fun hh => hh.2) (fun hh => absurd hh.1 (by omega))
  have hv1 := he.v1
  obtain ⟨q, hq⟩ : ∃ q : Nat, e.var = q := ⟨_, (Int.toNat_of_nonneg a1).symm⟩
  have hb := Exq.ev_bnd ht.vs hvo.1
  simp -implicitDefEqProofs (disch := first | omega | (simp only [List.length_set, List.length_replicate, List.length_append, List.length_map, List.length_take, List.length_cons, List.length_nil]; omega)) [wrap64, a1, hq]
  refine (c_l1Eval _ ht.vs hvo.1 ((Rep.vl ok G2).on H) H.sw1.rep).go ?_
  rintro _ h1 ⟨rfl, rfl⟩
  simp -implicitDefEqProofs (disch := first | omega | (simp only [List.length_set, List.length_replicate, List.length_append, List.length_map, List.length_take, List.length_cons, List.length_nil]; omega)) [wrap64, H.sw1.rep.I]
  refine H.sw1.storeF (e.value.ev st.vals) (i := q) (by omega) rfl rfl ⟨by omega, by omega⟩ rfl fun h2 H => ?_
  simp -implicitDefEqProofs (disch := first | omega | (simp only [List.length_set, List.length_replicate, List.length_append, List.length_map, List.length_take, List.length_cons, List.length_nil]; omega)) [wrap64, setC, hO1, hO2]
  exact RetK.keep (hk _ _ ⟨rfl, by simp only [Sta.tk]; rw [if_pos a1, hq, Int.toNat_natCast]; exact H.sw1⟩)

theorem c_after {h : Heap} {v w : Value} {s : Sy} {st : Sta} {t : Stp} (hs : s.Ok) (ht : st.Ok s) (hin : t.In s) (R : Rep h v s) (Rt : Rep h w st) : CallE Try.prog fn_impl_System_after [v, w, t.v] h (fun u h' => HS h [ow u (st.aft s t)] h') := by
  have FT := Rt.aSta
  obtain ⟨v1, v2, rfl, R1, R2'⟩ := Rep_Sy.1 R
  obtain ⟨⟨i, m, hi, hm, e1, e2⟩, hpt⟩ := hin
  have hp3 := hs.p3
  have hll := ht.len
  have hvl := ht.vs.len
  have hed : s.ed t.proc.toNat t.edge.toNat = s.procs[i].edges[m] := by rw [e1, e2, Int.toNat_natCast, Int.toNat_natCast, Sy.ed_eq hi hm]
  refine CallE.gen fun k hk => EN_impl_System_after rfl ?_
  simp -implicitDefEqProofs (disch := first | omega | (simp only [List.length_set, List.length_replicate, List.length_append, List.length_map, List.length_take, List.length_cons, List.length_nil]; omega)) [wrap64, FT]
  refine (c_State_copyOf Rt (by omega) (by omega)).go ?_
  intro o h1 HO
  obtain ⟨o1, o2, rfl, H⟩ := HO.unSta
  obtain ⟨we, w1, w2, hu, R3, hu2, ok, G1, G2⟩ := R2'.edge hi hm
  have hP := hld_parts (hload_le H.base hu)
  have hu3 := hload_le H.base hu2
  have hC1 := H.rep.one
  have hC2 := H.sw1.rep.one
  have heo := (hs.at hi).at hm
  have Re : Rep h (.agg (s.procs[i].edges[m].cs w1 w2).toArray) s.procs[i].edges[m] := Rep_Ed.2 ⟨w1, w2, rfl, ok, G1, G2⟩
  simp -implicitDefEqProofs (disch := first | omega | (simp only [List.length_set, List.length_replicate, List.length_append, List.length_map, List.length_take, List.length_cons, List.length_nil]; omega)) [wrap64, setC, hC1, hC2, Stp.v, e1, e2, R2'.X (n := 2) rfl, hP.1, hP.2.2.1, R3.X (n := 10) rfl, hu3]
  refine (c_take (s := s) hi ht heo Re H).go ?_
  intro _ h2 H
  have ht2 := Sta.tk_ok ht hi heo
  have hC1 := H.rep.one
  have hC2 := H.sw1.rep.one
  rcases hpt with hpt | ⟨j, n, hj, hn, e3, e4⟩
  · simp -implicitDefEqProofs (disch := first | omega | (simp only [List.length_set, List.length_replicate, List.length_append, List.length_map, List.length_take, List.length_cons, List.length_nil]; omega)) [wrap64, Stp.v, hpt, setC, hC1, hC2]
    refine RetK.keep (hk _ _ ?_)
    rw [Sta.aft, if_neg (by omega), hed, e1, Int.toNat_natCast]
    exact H.mkSta
  · have hed2 : s.ed t.partner.toNat t.pedge.toNat = s.procs[j].edges[n] := by rw [e3, e4, Int.toNat_natCast, Int.toNat_natCast, Sy.ed_eq hj hn]
    have heo2 := (hs.at hj).at hn
    obtain ⟨wf, x1, x2, hu, R3, hu2, ok, X1, X2⟩ := R2'.edge hj hn
    have hP := hld_parts (hload_le H.base hu)
    have hu3 := hload_le H.base hu2
    have Rf : Rep h (.agg (s.procs[j].edges[n].cs x1 x2).toArray) s.procs[j].edges[n] := Rep_Ed.2 ⟨x1, x2, rfl, ok, X1, X2⟩
    simp -implicitDefEqProofs (disch := first | omega | (simp only [List.length_set, List.length_replicate, List.length_append, List.length_map, List.length_take, List.length_cons, List.length_nil]; omega)) [wrap64, setC, hC1, hC2, Stp.v, e3, e4, R2'.X (n := 2) rfl, hP.1, hP.2.2.1, R3.X (n := 10) rfl, hu3]
    refine (c_take (s := s) hj ht2 heo2 Rf H).go ?_
    intro _ h3 H
    simp -implicitDefEqProofs (disch := first | omega | (simp only [List.length_set, List.length_replicate, List.length_append, List.length_map, List.length_take, List.length_cons, List.length_nil]; omega)) [wrap64, setC, hC1, hC2]
    refine RetK.keep (hk _ _ ?_)
    rw [Sta.aft, if_pos (by omega), hed, hed2, e1, e3, Int.toNat_natCast, Int.toNat_natCast]
    exact H.mkSta
theorem c_l3Apply {h : Heap} {v w : Value} {s : Sy} {st : Sta} {t : Stp} (hs : s.Ok) (ht : st.Ok s) (hin : t.In s) (R : Rep h v s) (Rt : Rep h w st) : CallE Try.prog fn_spec_l3Apply [v, w, t.v] h (fun u h' => HS h [ow u (st.aft s t)] h') := by
  have FT := Rt.aSta
  obtain ⟨v1, v2, rfl, R1, R2'⟩ := Rep_Sy.1 R
  obtain ⟨⟨i, m, hi, hm, e1, e2⟩, hpt⟩ := hin
  have hp3 := hs.p3
  have hll := ht.len
  have hvl := ht.vs.len
  have hed : s.ed t.proc.toNat t.edge.toNat = s.procs[i].edges[m] := by rw [e1, e2, Int.toNat_natCast, Int.toNat_natCast, Sy.ed_eq hi hm]
  refine CallE.gen fun k hk => EN_spec_l3Apply rfl ?_
  obtain ⟨t1, t2, rfl, T1, T2⟩ := Rep_Sta.1 Rt
  simp -implicitDefEqProofs (disch := first | omega | (simp only [List.length_set, List.length_replicate, List.length_append, List.length_map, List.length_take, List.length_cons, List.length_nil]; omega)) [wrap64]
  refine HS.appPL (α := Int) (l2 := st.locs) HS.init rfl rfl T1 rfl rfl (by omega) fun o1 h1 H => ?_
  simp -implicitDefEqProofs (disch := first | omega | (simp only [List.length_set, List.length_replicate, List.length_append, List.length_map, List.length_take, List.length_cons, List.length_nil]; omega)) [wrap64]
  refine HS.appPL (α := Int) (l2 := st.vals) H rfl rfl (T2.on H) rfl rfl (by omega) fun o2 h1 H => ?_
  replace H := H.sw1
  have hK1 := H.rep.cells
  have hK2 := H.sw1.rep.cells
  obtain ⟨we, w1, w2, hu, R3, hu2, ok, G1, G2⟩ := R2'.edge hi hm
  have hP := hld_parts (hload_le H.base hu)
  have hu3 := hload_le H.base hu2
  have hC1 := H.rep.one
  have hC2 := H.sw1.rep.one
  have heo := (hs.at hi).at hm
  have Re : Rep h (.agg (s.procs[i].edges[m].cs w1 w2).toArray) s.procs[i].edges[m] := Rep_Ed.2 ⟨w1, w2, rfl, ok, G1, G2⟩
  simp -implicitDefEqProofs (disch := first | omega | (simp only [List.length_set, List.length_replicate, List.length_append, List.length_map, List.length_take, List.length_cons, List.length_nil]; omega)) [wrap64, setC, hC1, hC2, hK1, hK2, Stp.v, e1, e2, R2'.X (n := 2) rfl, hP.1, hP.2.2.1, R3.X (n := 10) rfl, hu3]
  refine (c_l3Take (s := s) hi ht heo Re H).go ?_
  rintro _ h2 ⟨rfl, H⟩
  have ht2 := Sta.tk_ok ht hi heo
  have hC1 := H.rep.one
  have hC2 := H.sw1.rep.one
  rcases hpt with hpt | ⟨j, n, hj, hn, e3, e4⟩
  · simp -implicitDefEqProofs (disch := first | omega | (simp only [List.length_set, List.length_replicate, List.length_append, List.length_map, List.length_take, List.length_cons, List.length_nil]; omega)) [wrap64, Stp.v, hpt, setC, hC1, hC2]
    refine RetK.keep (hk _ _ ?_)
    rw [Sta.aft, if_neg (by omega), hed, e1, Int.toNat_natCast]
    exact H.mkSta
  · have hed2 : s.ed t.partner.toNat t.pedge.toNat = s.procs[j].edges[n] := by rw [e3, e4, Int.toNat_natCast, Int.toNat_natCast, Sy.ed_eq hj hn]
    have heo2 := (hs.at hj).at hn
    obtain ⟨wf, x1, x2, hu, R3, hu2, ok, X1, X2⟩ := R2'.edge hj hn
    have hP := hld_parts (hload_le H.base hu)
    have hu3 := hload_le H.base hu2
    have Rf : Rep h (.agg (s.procs[j].edges[n].cs x1 x2).toArray) s.procs[j].edges[n] := Rep_Ed.2 ⟨x1, x2, rfl, ok, X1, X2⟩
    simp -implicitDefEqProofs (disch := first | omega | (simp only [List.length_set, List.length_replicate, List.length_append, List.length_map, List.length_take, List.length_cons, List.length_nil]; omega)) [wrap64, setC, hC1, hC2, Stp.v, e3, e4, R2'.X (n := 2) rfl, hP.1, hP.2.2.1, R3.X (n := 10) rfl, hu3]
    refine (c_l3Take (s := s) hj ht2 heo2 Rf H).go ?_
    rintro _ h3 ⟨rfl, H⟩
    simp -implicitDefEqProofs (disch := first | omega | (simp only [List.length_set, List.length_replicate, List.length_append, List.length_map, List.length_take, List.length_cons, List.length_nil]; omega)) [wrap64, setC, hC1, hC2]
    refine RetK.keep (hk _ _ ?_)
    rw [Sta.aft, if_pos (by omega), hed, hed2, e1, e3, Int.toNat_natCast, Int.toNat_natCast]
    exact H.mkSta

end Go.Proofs.Ytmpgkijhhocfcaa

/-
  Graphs of systems in plain Lean: how they are built.
-/
namespace Go.Proofs.Ytmpgkijhhocfcaa
open Go
set_option linter.all false
set_option linter.unusedVariables false
set_option linter.unusedSimpArgs false
set_option linter.defProp false
set_option maxRecDepth 1000000

/-- where a state lies -/
def fx (xs : List Sta) (st : Sta) : Int := match xs.findIdx? (fun y => decide (y = st)) with | some i => (i : Int) | none => -1
theorem fx_mem {xs : List Sta} {st : Sta} (h : st ∈ xs) : ∃ (i : Nat) (hi : i < xs.length), fx xs st = i ∧ xs[i] = st := by
  obtain ⟨i, hi⟩ : ∃ i, xs.findIdx? (fun y => decide (y = st)) = some i := by
    rcases hf : xs.findIdx? (fun y => decide (y = st)) with _ | i
    · rw [List.findIdx?_eq_none_iff] at hf
      have := hf st h
      simp at this
    · exact ⟨i, rfl⟩
  have h2 := hi
  rw [List.findIdx?_eq_some_iff_getElem] at h2
  obtain ⟨h3, h4, _⟩ := h2
  exact ⟨i, h3, by rw [fx, hi], by simpa using h4⟩
theorem fx_not {xs : List Sta} {st : Sta} (h : st ∉ xs) : fx xs st = -1 := by
  have : xs.findIdx? (fun y => decide (y = st)) = none := by
    rw [List.findIdx?_eq_none_iff]
    intro y hy
    simp only [decide_eq_false_iff_not]
    rintro rfl
    exact h hy
  rw [fx, this]
def adS (xs : List Sta) (st : Sta) : List Sta := if st ∈ xs then xs else xs ++ [st]
def atS (xs : List Sta) (st : Sta) : Int := if st ∈ xs then fx xs st else xs.length
def adI (l : List Int) (n : Int) : List Int := if n ∈ l then l else l ++ [n]
def g1 (p : List Sta × List Int) (st : Sta) : List Sta × List Int := (adS p.1 st, adI p.2 (atS p.1 st))
theorem mem_adI {l : List Int} {n x : Int} : x ∈ adI l n ↔ x ∈ l ∨ x = n := by
  unfold adI
  split
  · constructor
    · exact .inl
    · rintro (h | rfl) <;> assumption
  · simp
theorem adI_len {l : List Int} {n : Int} : (adI l n).length ≤ l.length + 1 := by
  unfold adI; split <;> simp
theorem adI_ne {l : List Int} {n : Int} : adI l n ≠ [] := by
  unfold adI
  split
  · rename_i h; rintro rfl; simp at h
  · simp
theorem adS_len {xs : List Sta} {st : Sta} : (adS xs st).length ≤ xs.length + 1 := by
  unfold adS; split <;> simp
theorem adS_ge {xs : List Sta} {st : Sta} : xs.length ≤ (adS xs st).length := by
  unfold adS; split <;> simp
theorem atS_rng {xs : List Sta} {st : Sta} : 0 ≤ atS xs st ∧ atS xs st < (adS xs st).length := by
  unfold atS adS
  split
  · rename_i h
    obtain ⟨i, hi, e, _⟩ := fx_mem h
    omega
  · simp; omega

/-- one state's steps -/
def gF (s : Sy) (x : Sta) (n : Nat) (xs : List Sta) : List Sta × List Int := ((enb s x).take n).foldl (fun p t => g1 p (x.aft s t)) (xs, [])
theorem gF_zero {s : Sy} {x : Sta} {xs : List Sta} : gF s x 0 xs = (xs, []) := rfl
theorem gF_succ {s : Sy} {x : Sta} {n : Nat} {xs : List Sta} (hn : n < (enb s x).length) : gF s x (n + 1) xs = g1 (gF s x n xs) (x.aft s (enb s x)[n]) := by
  unfold gF
  rw [List.take_add_one, List.getElem?_eq_getElem hn, List.foldl_append]
  rfl
structure GI (s : Sy) (xs : List Sta) (n : Nat) (p : List Sta × List Int) : Prop where
  pre : ∃ t, p.1 = xs ++ t
  ok : ∀ st ∈ p.1, st.Ok s
  rng : ∀ x ∈ p.2, 0 ≤ x ∧ x < p.1.length
  new : ∀ j : Nat, xs.length ≤ j → j < p.1.length → (j : Int) ∈ p.2
  l1 : p.1.length ≤ xs.length + n
  l2 : p.2.length ≤ n
  ne : 1 ≤ n → p.2 ≠ []
theorem GI.ge {s : Sy} {xs : List Sta} {n : Nat} {p : List Sta × List Int} (h : GI s xs n p) : xs.length ≤ p.1.length := by
  obtain ⟨t, e⟩ := h.pre
  rw [e]; simp
theorem GI.step {s : Sy} {xs : List Sta} {n : Nat} {p : List Sta × List Int} {st : Sta} (h : GI s xs n p) (hst : st.Ok s) : GI s xs (n + 1) (g1 p st) := by
  have hr := atS_rng (xs := p.1) (st := st)
  have hl := adS_len (xs := p.1) (st := st)
  have hg := adS_ge (xs := p.1) (st := st)
  have hl2 := adI_len (l := p.2) (n := atS p.1 st)
  refine ⟨?_, ?_, ?_, ?_, ?_, ?_, fun _ => adI_ne⟩
  · obtain ⟨t, e⟩ := h.pre
    unfold g1 adS
    simp only
    split
    · exact ⟨t, e⟩
    · exact ⟨t ++ [st], by rw [e, List.append_assoc]⟩
  · intro y hy
    simp only [g1, adS] at hy
    split at hy
    · exact h.ok y hy
    · simp only [List.mem_append, List.mem_singleton] at hy
      rcases hy with hy | rfl
      · exact h.ok y hy
      · exact hst
  · intro x hx
    simp only [g1, mem_adI] at hx
    rcases hx with hx | rfl
    · have := h.rng x hx
      simp only [g1]; omega
    · exact hr
  · intro j h1 h2
    simp only [g1] at h2 ⊢
    rw [mem_adI]
    by_cases hj : j < p.1.length
    · exact .inl (h.new j h1 hj)
    · right
      unfold adS at h2
      unfold atS
      split at h2
      · omega
      · rename_i q
        rw [if_neg q]
        simp at h2; omega
  · have := h.l1; simp only [g1]; omega
  · have := h.l2; simp only [g1]; omega
theorem gF_inv {s : Sy} {x : Sta} {xs : List Sta} (hs : s.Ok) (hx : x.Ok s) (hxs : ∀ st ∈ xs, st.Ok s) : ∀ n, n ≤ (enb s x).length → GI s xs n (gF s x n xs)
  | 0, _ => ⟨⟨[], by simp [gF_zero]⟩, hxs, fun x hx => by simp [gF_zero] at hx, fun j h1 h2 => by simp only [gF_zero] at h2; omega, by simp [gF_zero], by simp [gF_zero], fun h => absurd h (by decide)⟩
  | n + 1, hn => by
    rw [gF_succ (by omega)]
    exact (gF_inv hs hx hxs n (by omega)).step (Sta.aft_ok hs hx (enb_in (List.getElem_mem _)))

/-- the graph after some states are done -/
def nxS (i : Nat) (l : List Int) : List Int := if l = [] then [(i : Int)] else l
def rnd (s : Sy) (i : Nat) (g : Gr) : Gr :=
  if h : i < g.states.length then ⟨(gF s g.states[i] (enb s g.states[i]).length g.states).1, g.next ++ [nxS i (gF s g.states[i] (enb s g.states[i]).length g.states).2]⟩ else g
def ini (s : Sy) : Sta := ⟨List.replicate s.procs.length 0, s.init⟩
def gN (s : Sy) : Nat → Gr
  | 0 => ⟨[ini s], []⟩
  | n + 1 => rnd s n (gN s n)
theorem gN_succ {s : Sy} {n : Nat} (h : n < (gN s n).states.length) : gN s (n + 1) = ⟨(gF s (gN s n).states[n] (enb s (gN s n).states[n]).length (gN s n).states).1, (gN s n).next ++ [nxS n (gF s (gN s n).states[n] (enb s (gN s n).states[n]).length (gN s n).states).2]⟩ := by
  rw [gN, rnd, dif_pos h]
theorem gN_stop {s : Sy} {n : Nat} (h : (gN s n).states.length ≤ n) : gN s (n + 1) = gN s n := by
  rw [gN, rnd, dif_neg (by omega)]
theorem ini_ok {s : Sy} (hs : s.Ok) : (ini s).Ok s :=
  ⟨by simp [ini], hs.vs, fun i h1 h2 => by
    have := (hs.at h2).n1
    simp only [ini, List.getElem_replicate]; omega⟩
structure GInv (s : Sy) (n : Nat) (g : Gr) : Prop where
  ok : ∀ st ∈ g.states, st.Ok s
  pos : 1 ≤ g.states.length
  nl : g.next.length = min n g.states.length
  ent : ∀ l ∈ g.next, l ≠ [] ∧ ∀ x ∈ l, 0 ≤ x ∧ x < g.states.length
  ll : ∀ l ∈ g.next, l.length ≤ 325
  rch : ∀ j : Nat, 1 ≤ j → j < g.states.length → ∃ (i : Nat) (hi : i < g.next.length), i < j ∧ (j : Int) ∈ g.next[i]
theorem gN_inv {s : Sy} (hs : s.Ok) : ∀ n, GInv s n (gN s n)
  | 0 => ⟨fun st h => by simp [gN] at h; subst h; exact ini_ok hs, by simp [gN], by simp [gN], fun l hl => by simp [gN] at hl, fun l hl => by simp [gN] at hl, fun j h1 h2 => by simp [gN] at h2; omega⟩
  | n + 1 => by
    have ih := gN_inv hs n
    by_cases h : n < (gN s n).states.length
    case neg =>
      rw [gN_stop (by omega)]
      exact ⟨ih.ok, ih.pos, by rw [ih.nl]; omega, ih.ent, ih.ll, ih.rch⟩
    rw [gN_succ h]
    have hxo := ih.ok _ (List.getElem_mem h)
    have gi := gF_inv hs hxo ih.ok _ (Nat.le_refl (enb s (gN s n).states[n]).length)
    have hge := gi.ge
    have hel := enb_len' (st := (gN s n).states[n]) hs
    have hnl : (gN s n).next.length = n := by rw [ih.nl]; omega
    generalize gF s (gN s n).states[n] (enb s (gN s n).states[n]).length (gN s n).states = p at gi hge
    have hnx : ∀ j : Nat, (gN s n).states.length ≤ j → j < p.1.length → (j : Int) ∈ nxS n p.2 := fun j h1 h2 => by
      have h3 := gi.new j h1 h2
      unfold nxS
      split
      · rename_i e; rw [e] at h3; simp at h3
      · exact h3
    refine ⟨gi.ok, by have := ih.pos; simp only; omega, by simp [hnl]; omega, fun l hl => ?_, fun l hl => ?_, fun j h1 h2 => ?_⟩
    · simp only [List.mem_append, List.mem_singleton] at hl
      rcases hl with hl | rfl
      · have := ih.ent l hl
        exact ⟨this.1, fun x hx => by have := this.2 x hx; simp only; omega⟩
      · unfold nxS
        split
        · exact ⟨by simp, fun x hx => by simp at hx; subst hx; simp only; omega⟩
        · exact ⟨by assumption, gi.rng⟩
    · simp only [List.mem_append, List.mem_singleton] at hl
      rcases hl with hl | rfl
      · exact ih.ll l hl
      · unfold nxS
        split
        · simp
        · have := gi.l2; omega
    · by_cases hj : j < (gN s n).states.length
      · obtain ⟨i, hi, h3, h4⟩ := ih.rch j h1 hj
        refine ⟨i, by simp; omega, h3, ?_⟩
        simp only [List.getElem_append_left hi]
        exact h4
      · refine ⟨n, by simp; omega, by omega, ?_⟩
        have : ((gN s n).next ++ [nxS n p.2])[n]'(by simp; omega) = nxS n p.2 := by
          rw [List.getElem_append_right (by omega)]
          simp
        simp only [this]
        exact hnx j (by omega) h2
theorem gN_mono {s : Sy} (hs : s.Ok) {n m : Nat} (h : n ≤ m) : (gN s n).states.length ≤ (gN s m).states.length := by
  induction m with
  | zero => have : n = 0 := by omega
            subst this; exact Nat.le_refl _
  | succ m ih =>
    by_cases e : n = m + 1
    · subst e; exact Nat.le_refl _
    refine Nat.le_trans (ih (by omega)) ?_
    by_cases h2 : m < (gN s m).states.length
    · rw [gN_succ h2]
      exact (gF_inv hs ((gN_inv hs m).ok _ (List.getElem_mem h2)) (gN_inv hs m).ok _ (Nat.le_refl _)).ge
    · rw [gN_stop (by omega)]
      exact Nat.le_refl _
theorem gN_fix {s : Sy} {n m : Nat} (h : (gN s n).states.length ≤ n) (hm : n ≤ m) : gN s m = gN s n := by
  induction m with
  | zero => have : n = 0 := by omega
            subst this; rfl
  | succ m ih =>
    by_cases e : n = m + 1
    · subst e; rfl
    have := ih (by omega)
    rw [gN_stop (by rw [this]; omega), this]
def Gr.zero : Gr := ⟨[], []⟩
/-- small graphs -/
def bgOk (s : Sy) : Prop := s.Ok ∧ (gN s 60).states.length ≤ 60
noncomputable instance {s : Sy} : Decidable (bgOk s) := Classical.propDecidable _
noncomputable def bgR (s : Sy) : Gr := if bgOk s then gN s 60 else Gr.zero
structure Gr.Fin (s : Sy) (g : Gr) : Prop where
  ok : ∀ st ∈ g.states, st.Ok s
  pos : 1 ≤ g.states.length
  n60 : g.states.length ≤ 60
  nl : g.next.length = g.states.length
  ent : ∀ l ∈ g.next, l ≠ [] ∧ ∀ x ∈ l, 0 ≤ x ∧ x < g.states.length
  ll : ∀ l ∈ g.next, l.length ≤ 325
  rch : ∀ j : Nat, 1 ≤ j → j < g.states.length → ∃ (i : Nat) (hi : i < g.next.length), i < j ∧ (j : Int) ∈ g.next[i]
theorem bgR_fin {s : Sy} (h : bgOk s) : (bgR s).Fin s := by
  have hi := gN_inv h.1 60
  have h2 := h.2
  rw [bgR, if_pos h]
  exact ⟨hi.ok, hi.pos, h.2, by rw [hi.nl]; omega, hi.ent, hi.ll, hi.rch⟩
theorem bg_big {s : Sy} {n : Nat} (hs : s.Ok) (hn : n ≤ 60) (h : 60 < (gN s n).states.length) : ¬ bgOk s := fun hb => by
  have := gN_mono hs hn
  have := hb.2
  omega
theorem bg_end {s : Sy} {n : Nat} (hs : s.Ok) (hn : (gN s n).states.length ≤ n) (h : n ≤ 60) : bgOk s ∧ gN s n = bgR s := by
  have h1 := gN_fix hn h
  have h2 : bgOk s := ⟨hs, by rw [h1]; omega⟩
  exact ⟨h2, by rw [bgR, if_pos h2, h1]⟩
end Go.Proofs.Ytmpgkijhhocfcaa

/-
  Equal states, and where a state lies in a list: by the program and by the reference.
-/
namespace Go.Proofs.Ytmpgkijhhocfcaa
open Go
set_option linter.all false
set_option linter.unusedVariables false
set_option linter.unusedSimpArgs false
set_option linter.defProp false
set_option maxRecDepth 1000000

theorem c_Equal_int {h : Heap} {a b : Value} {x y : List Int} (Ra : Rep h a x) (Rb : Rep h b y) : CallE Try.prog fn_slices_Equal_S_int_int [a, b] h (fun u h' => h' = h ∧ u = .bool (decide (x = y))) := by
  have hL := Ra.lt
  refine CallE.gen fun k hk => EN_slices_Equal_S_int_int rfl ?_
  by_cases hl : (x.length : Int) = y.length
  case neg =>
    simp -implicitDefEqProofs (disch := first | omega | (simp only [List.length_set, List.length_replicate, List.length_append, List.length_map, List.length_take, List.length_cons, List.length_nil]; omega)) [wrap64, Ra.len, Rb.len, hl]
    exact RetK.keep (hk _ _ ⟨rfl, by congr 1; rw [eq_comm, decide_eq_false_iff_not]; intro e; subst e; exact hl rfl⟩)
  simp -implicitDefEqProofs (disch := first | omega | (simp only [List.length_set, List.length_replicate, List.length_append, List.length_map, List.length_take, List.length_cons, List.length_nil]; omega)) [wrap64, Ra.len, Rb.len, hl]
  refine wp_count x.length (fun i e h' => e = [some a, some b, none, none, some (.int .i64 x.length), some (.int .i64 i)] ∧ h' = h ∧ x.take i = y.take i) ⟨by simp [hl], rfl, rfl⟩ ?_
  rintro J i _ h1 hJ hi ⟨rfl, rfl, hq⟩
  simp -implicitDefEqProofs (disch := first | omega | (simp only [List.length_set, List.length_replicate, List.length_append, List.length_map, List.length_take, List.length_cons, List.length_nil]; omega)) [wrap64]
  refine IteW.mk (fun hlt => ?_) (fun hge => ?_)
  · have hlx : i < x.length := by omega
    have hly : i < y.length := by omega
    by_cases he : x[i] = y[i]
    · simp -implicitDefEqProofs (disch := first | omega | (simp only [List.length_set, List.length_replicate, List.length_append, List.length_map, List.length_take, List.length_cons, List.length_nil]; omega)) [wrap64, Ra.I, Rb.I, he]
      exact hJ _ _ hlx ⟨rfl, rfl, take_step hq hlx hly he⟩
    · simp -implicitDefEqProofs (disch := first | omega | (simp only [List.length_set, List.length_replicate, List.length_append, List.length_map, List.length_take, List.length_cons, List.length_nil]; omega)) [wrap64, Ra.I, Rb.I, he]
      exact RetK.keep (hk _ _ ⟨rfl, by congr 1; rw [eq_comm, decide_eq_false_iff_not]; intro e; subst e; exact he rfl⟩)
  · simp -implicitDefEqProofs (disch := first | omega | (simp only [List.length_set, List.length_replicate, List.length_append, List.length_map, List.length_take, List.length_cons, List.length_nil]; omega)) [wrap64]
    rw [List.take_of_length_le (by omega), List.take_of_length_le (by omega)] at hq
    exact RetK.keep (hk _ _ ⟨rfl, by simp [hq]⟩)
theorem c_l2Ints {h : Heap} {a b : Value} {x y : List Int} (Ra : Rep h a x) (Rb : Rep h b y) : CallE Try.prog fn_spec_l2Ints [a, b] h (fun u h' => h' = h ∧ u = .bool (decide (x = y))) := by
  have hL := Ra.lt
  refine CallE.gen fun k hk => EN_spec_l2Ints rfl ?_
  by_cases hl : (x.length : Int) = y.length
  case neg =>
    simp -implicitDefEqProofs (disch := first | omega | (simp only [List.length_set, List.length_replicate, List.length_append, List.length_map, List.length_take, List.length_cons, List.length_nil]; omega)) [wrap64, Ra.len, Rb.len, hl]
    exact RetK.keep (hk _ _ ⟨rfl, by congr 1; rw [eq_comm, decide_eq_false_iff_not]; intro e; subst e; exact hl rfl⟩)
  simp -implicitDefEqProofs (disch := first | omega | (simp only [List.length_set, List.length_replicate, List.length_append, List.length_map, List.length_take, List.length_cons, List.length_nil]; omega)) [wrap64, Ra.len, Rb.len, hl]
  refine wp_count x.length (fun i e h' => e = [some a, some b, none, some (.int .i64 i)] ∧ h' = h ∧ x.take i = y.take i) ⟨by simp, rfl, rfl⟩ ?_
  rintro J i _ h1 hJ hi ⟨rfl, rfl, hq⟩
  simp -implicitDefEqProofs (disch := first | omega | (simp only [List.length_set, List.length_replicate, List.length_append, List.length_map, List.length_take, List.length_cons, List.length_nil]; omega)) [wrap64, Ra.len]
  refine IteW.mk (fun hlt => ?_) (fun hge => ?_)
  · have hlx : i < x.length := by omega
    have hly : i < y.length := by omega
    by_cases he : x[i] = y[i]
    · simp -implicitDefEqProofs (disch := first | omega | (simp only [List.length_set, List.length_replicate, List.length_append, List.length_map, List.length_take, List.length_cons, List.length_nil]; omega)) [wrap64, Ra.I, Rb.I, he]
      exact hJ _ _ hlx ⟨rfl, rfl, take_step hq hlx hly he⟩
    · simp -implicitDefEqProofs (disch := first | omega | (simp only [List.length_set, List.length_replicate, List.length_append, List.length_map, List.length_take, List.length_cons, List.length_nil]; omega)) [wrap64, Ra.I, Rb.I, he]
      exact RetK.keep (hk _ _ ⟨rfl, by congr 1; rw [eq_comm, decide_eq_false_iff_not]; intro e; subst e; exact he rfl⟩)
  · simp -implicitDefEqProofs (disch := first | omega | (simp only [List.length_set, List.length_replicate, List.length_append, List.length_map, List.length_take, List.length_cons, List.length_nil]; omega)) [wrap64]
    rw [List.take_of_length_le (by omega), List.take_of_length_le (by omega)] at hq
    exact RetK.keep (hk _ _ ⟨rfl, by simp [hq]⟩)
theorem c_StateSame {h : Heap} {v w : Value} {a b : Sta} (Ra : Rep h v a) (Rb : Rep h w b) : CallE Try.prog fn_impl_StateSame [v, w] h (fun u h' => h' = h ∧ u = .bool (decide (a = b))) := by
  obtain ⟨v1, v2, rfl, R1, R2⟩ := Rep_Sta.1 Ra
  obtain ⟨w1, w2, rfl, S1, S2⟩ := Rep_Sta.1 Rb
  refine CallE.gen fun k hk => EN_impl_StateSame rfl ?_
  simp -implicitDefEqProofs (disch := first | omega | (simp only [List.length_set, List.length_replicate, List.length_append, List.length_map, List.length_take, List.length_cons, List.length_nil]; omega)) [wrap64]
  refine (c_Equal_int R1 S1).go ?_
  rintro _ h ⟨rfl, rfl⟩
  by_cases h1 : a.locs = b.locs
  case neg =>
    simp -implicitDefEqProofs (disch := first | omega | (simp only [List.length_set, List.length_replicate, List.length_append, List.length_map, List.length_take, List.length_cons, List.length_nil]; omega)) [wrap64, h1]
    exact RetK.keep (hk _ _ ⟨rfl, by simp [Sta.ext_iff', h1]⟩)
  simp -implicitDefEqProofs (disch := first | omega | (simp only [List.length_set, List.length_replicate, List.length_append, List.length_map, List.length_take, List.length_cons, List.length_nil]; omega)) [wrap64, h1]
  refine (c_Equal_int R2 S2).go ?_
  rintro _ h ⟨rfl, rfl⟩
  simp -implicitDefEqProofs (disch := first | omega | (simp only [List.length_set, List.length_replicate, List.length_append, List.length_map, List.length_take, List.length_cons, List.length_nil]; omega)) [wrap64]
  exact RetK.keep (hk _ _ ⟨rfl, by simp [Sta.ext_iff', h1]⟩)
theorem c_spec_StateSame {h : Heap} {v w : Value} {a b : Sta} (Ra : Rep h v a) (Rb : Rep h w b) : CallE Try.prog fn_spec_StateSame [v, w] h (fun u h' => h' = h ∧ u = .bool (decide (a = b))) := by
  obtain ⟨v1, v2, rfl, R1, R2⟩ := Rep_Sta.1 Ra
  obtain ⟨w1, w2, rfl, S1, S2⟩ := Rep_Sta.1 Rb
  refine CallE.gen fun k hk => EN_spec_StateSame rfl ?_
  simp -implicitDefEqProofs (disch := first | omega | (simp only [List.length_set, List.length_replicate, List.length_append, List.length_map, List.length_take, List.length_cons, List.length_nil]; omega)) [wrap64]
  refine (c_l2Ints R1 S1).go ?_
  rintro _ h ⟨rfl, rfl⟩
  by_cases h1 : a.locs = b.locs
  case neg =>
    simp -implicitDefEqProofs (disch := first | omega | (simp only [List.length_set, List.length_replicate, List.length_append, List.length_map, List.length_take, List.length_cons, List.length_nil]; omega)) [wrap64, h1]
    exact RetK.keep (hk _ _ ⟨rfl, by simp [Sta.ext_iff', h1]⟩)
  simp -implicitDefEqProofs (disch := first | omega | (simp only [List.length_set, List.length_replicate, List.length_append, List.length_map, List.length_take, List.length_cons, List.length_nil]; omega)) [wrap64, h1]
  refine (c_l2Ints R2 S2).go ?_
  rintro _ h ⟨rfl, rfl⟩
  simp -implicitDefEqProofs (disch := first | omega | (simp only [List.length_set, List.length_replicate, List.length_append, List.length_map, List.length_take, List.length_cons, List.length_nil]; omega)) [wrap64]
  exact RetK.keep (hk _ _ ⟨rfl, by simp [Sta.ext_iff', h1]⟩)
theorem fx_at {xs : List Sta} {st : Sta} {i : Nat} (hi : i < xs.length) (he : xs[i] = st) (hn : ∀ (j : Nat) (hj : j < xs.length), j < i → xs[j] ≠ st) : fx xs st = i := by
  have : xs.findIdx? (fun y => decide (y = st)) = some i := by
    rw [List.findIdx?_eq_some_iff_getElem]
    exact ⟨hi, by simp [he], fun j hj => by simpa using hn j (by omega) hj⟩
  rw [fx, this]
theorem c_l4Find {h : Heap} {v w : Value} {xs : List Sta} {st : Sta} (R : Rep h v xs) (Rt : Rep h w st) : CallE Try.prog fn_spec_l4Find [v, w] h (fun u h' => h' = h ∧ u = .int .i64 (fx xs st)) := by
  have hL := R.lt
  have FT := Rt.aSta
  refine CallE.gen fun k hk => EN_spec_l4Find rfl ?_
  simp -implicitDefEqProofs (disch := first | omega | (simp only [List.length_set, List.length_replicate, List.length_append, List.length_map, List.length_take, List.length_cons, List.length_nil]; omega)) [wrap64]
  refine wp_count xs.length (fun i e h' => e = [some v, none, some w, none, some (.int .i64 i)] ∧ h' = h ∧ ∀ (j : Nat) (hj : j < xs.length), j < i → xs[j] ≠ st) ⟨by simp, rfl, fun j _ hj => absurd hj (Nat.not_lt_zero j)⟩ ?_
  rintro J i _ h hJ hi ⟨rfl, rfl, hn⟩
  simp -implicitDefEqProofs (disch := first | omega | (simp only [List.length_set, List.length_replicate, List.length_append, List.length_map, List.length_take, List.length_cons, List.length_nil]; omega)) [wrap64, R.len]
  refine IteW.mk (fun hlt => ?_) (fun hge => ?_)
  · have hlx : i < xs.length := by omega
    obtain ⟨u, hu, Ru⟩ := R.ld hlx
    change hload _ (some (elp 2 v i)) (some 2) = some u at hu
    simp -implicitDefEqProofs (disch := first | omega | (simp only [List.length_set, List.length_replicate, List.length_append, List.length_map, List.length_take, List.length_cons, List.length_nil]; omega)) [wrap64, R.X (n := 2) rfl, hu, FT, Ru.aSta]
    refine (c_spec_StateSame Ru Rt).go ?_
    rintro _ h ⟨rfl, rfl⟩
    by_cases e : xs[i] = st
    · simp -implicitDefEqProofs (disch := first | omega | (simp only [List.length_set, List.length_replicate, List.length_append, List.length_map, List.length_take, List.length_cons, List.length_nil]; omega)) [wrap64, e]
      exact RetK.keep (hk _ _ ⟨rfl, by rw [fx_at hlx e hn]⟩)
    · simp -implicitDefEqProofs (disch := first | omega | (simp only [List.length_set, List.length_replicate, List.length_append, List.length_map, List.length_take, List.length_cons, List.length_nil]; omega)) [wrap64, e]
      refine hJ _ _ hlx ⟨by simp, rfl, fun j hj hji => ?_⟩
      by_cases hji2 : j = i
      · subst hji2; exact e
      · exact hn j hj (by omega)
  · simp -implicitDefEqProofs (disch := first | omega | (simp only [List.length_set, List.length_replicate, List.length_append, List.length_map, List.length_take, List.length_cons, List.length_nil]; omega)) [wrap64]
    refine RetK.keep (hk _ _ ⟨rfl, ?_⟩)
    rw [fx_not]
    intro hm
    obtain ⟨j, hj, h1⟩ := List.mem_iff_getElem.1 hm
    exact hn j hj (by omega) h1
end Go.Proofs.Ytmpgkijhhocfcaa

/-
  Instances of functions over slices: copies, and whether some element meets a condition. Printed by a program.
-/
namespace Go.Proofs.Ytmpgkijhhocfcaa
open Go
set_option linter.all false
set_option linter.unusedVariables false
set_option linter.unusedSimpArgs false
set_option linter.defProp false
set_option maxRecDepth 1000000

theorem c_Clip_impl_State {g h : Heap} {Γ : List HP} {a : Value} {x : List (Sta)} (H : HS g (ow a x :: Γ) h) : CallE Try.prog fn_slices_Clip_S_impl_State_impl_State [a] h (fun v h' => HS g (ow v x :: Γ) h') := by
  refine CallE.gen fun k hk => EN_slices_Clip_S_impl_State_impl_State rfl ?_
  obtain ⟨v', h1, h2⟩ := H.clip (esz := 2) (k := .i64)
  simp -implicitDefEqProofs (disch := first | omega | (simp only [List.length_set, List.length_replicate, List.length_append, List.length_map, List.length_take, List.length_cons, List.length_nil]; omega)) [wrap64, H.rep.len, h1]
  exact RetK.keep (hk _ _ h2)

theorem c_Clip_S_int {g h : Heap} {Γ : List HP} {a : Value} {x : List (List Int)} (H : HS g (ow a x :: Γ) h) : CallE Try.prog fn_slices_Clip_S_S_int_S_int [a] h (fun v h' => HS g (ow v x :: Γ) h') := by
  refine CallE.gen fun k hk => EN_slices_Clip_S_S_int_S_int rfl ?_
  obtain ⟨v', h1, h2⟩ := H.clip (esz := 1) (k := .i64)
  simp -implicitDefEqProofs (disch := first | omega | (simp only [List.length_set, List.length_replicate, List.length_append, List.length_map, List.length_take, List.length_cons, List.length_nil]; omega)) [wrap64, H.rep.len, h1]
  exact RetK.keep (hk _ _ h2)

end Go.Proofs.Ytmpgkijhhocfcaa

/-
  The initial state, by the reference.
-/
namespace Go.Proofs.Ytmpgkijhhocfcaa
open Go
set_option linter.all false
set_option linter.unusedVariables false
set_option linter.unusedSimpArgs false
set_option linter.defProp false
set_option maxRecDepth 1000000

theorem c_spec_InitialState {h : Heap} {v : Value} {s : Sy} (R : Rep h v s) : CallE Try.prog fn_spec_InitialState [v] h (R2 (decide s.Ok) (if s.Ok then ini s else Sta.zero) h) := by
  have FS := R.aSy
  have R0 := R
  obtain ⟨v1, v2, rfl, R1, R2'⟩ := Rep_Sy.1 R
  refine CallE.gen fun k hk => EN_spec_InitialState rfl ?_
  simp -implicitDefEqProofs (disch := first | omega | (simp only [List.length_set, List.length_replicate, List.length_append, List.length_map, List.length_take, List.length_cons, List.length_nil]; omega)) [wrap64, FS]
  refine (c_spec_SystemValid R0).go ?_
  rintro _ h ⟨rfl, rfl⟩
  by_cases hs : s.Ok
  case neg =>
    simp -implicitDefEqProofs (disch := first | omega | (simp only [List.length_set, List.length_replicate, List.length_append, List.length_map, List.length_take, List.length_cons, List.length_nil]; omega)) [wrap64, hs, setC]
    exact RetK.keep (hk _ _ ⟨_, by rw [decide_eq_false hs], by rw [if_neg hs]; exact zero_St (Γ := []) (Heap.le.refl _)⟩)
  have hp3 := hs.p3
  have hvl := hs.vs.len
  simp -implicitDefEqProofs (disch := first | omega | (simp only [List.length_set, List.length_replicate, List.length_append, List.length_map, List.length_take, List.length_cons, List.length_nil]; omega)) [wrap64, hs, R2'.len]
  refine ⟨?_, ?_⟩
  · simp -implicitDefEqProofs (disch := first | omega | (simp only [List.length_set, List.length_replicate, List.length_append, List.length_map, List.length_take, List.length_cons, List.length_nil]; omega)) [wrap64]
    refine HS.init.mks (α := Int) (z := (0 : Int)) rfl rfl (own_zero (by decide) (by decide)) (Nat.le_refl _) (by omega) (by omega) fun o h1 H => ?_
    simp -implicitDefEqProofs (disch := first | omega | (simp only [List.length_set, List.length_replicate, List.length_append, List.length_map, List.length_take, List.length_cons, List.length_nil]; omega)) [wrap64]
    refine HS.appPL (α := Int) (l2 := s.init) H rfl rfl (R1.on H) rfl rfl (by omega) fun o2 h1 H => ?_
    simp -implicitDefEqProofs (disch := first | omega | (simp only [List.length_set, List.length_replicate, List.length_append, List.length_map, List.length_take, List.length_cons, List.length_nil]; omega)) [wrap64, setC, H.rep.cells, H.rep.one, H.sw1.rep.cells, H.sw1.rep.one]
    exact RetK.keep (hk _ _ ⟨_, by rw [decide_eq_true hs], by rw [if_pos hs]; exact HS.mkSta (a := ini s) H.sw1⟩)
  · simp -implicitDefEqProofs (disch := first | omega | (simp only [List.length_set, List.length_replicate, List.length_append, List.length_map, List.length_take, List.length_cons, List.length_nil]; omega)) [wrap64]
    refine HS.appPL (α := Int) (l2 := s.init) HS.init rfl rfl R1 rfl rfl (by omega) fun o2 h1 H => ?_
    simp -implicitDefEqProofs (disch := first | omega | (simp only [List.length_set, List.length_replicate, List.length_append, List.length_map, List.length_take, List.length_cons, List.length_nil]; omega)) [wrap64]
    refine H.mks (α := Int) (z := (0 : Int)) rfl rfl (own_zero (by decide) (by decide)) (Nat.le_refl _) (by omega) (by omega) fun o h1 H => ?_
    simp -implicitDefEqProofs (disch := first | omega | (simp only [List.length_set, List.length_replicate, List.length_append, List.length_map, List.length_take, List.length_cons, List.length_nil]; omega)) [wrap64, setC, H.rep.cells, H.rep.one, H.sw1.rep.cells, H.sw1.rep.one]
    exact RetK.keep (hk _ _ ⟨_, by rw [decide_eq_true hs], by rw [if_pos hs]; exact HS.mkSta (a := ini s) H⟩)
end Go.Proofs.Ytmpgkijhhocfcaa

/-
  The graph of a system: by the program.
-/
namespace Go.Proofs.Ytmpgkijhhocfcaa
open Go
set_option linter.all false
set_option linter.unusedVariables false
set_option linter.unusedSimpArgs false
set_option linter.defProp false
set_option maxRecDepth 1000000

theorem c_initial {h : Heap} {v : Value} {s : Sy} (hs : s.Ok) (R : Rep h v s) : CallE Try.prog fn_impl_System_initial [v] h (fun u h' => HS h [ow u (ini s)] h') := by
  obtain ⟨v1, v2, rfl, R1, R2'⟩ := Rep_Sy.1 R
  have hp3 := hs.p3
  have hvl := hs.vs.len
  refine CallE.gen fun k hk => EN_impl_System_initial rfl ?_
  simp -implicitDefEqProofs (disch := first | omega | (simp only [List.length_set, List.length_replicate, List.length_append, List.length_map, List.length_take, List.length_cons, List.length_nil]; omega)) [wrap64, R2'.len]
  refine ⟨?_, ?_⟩
  · simp -implicitDefEqProofs (disch := first | omega | (simp only [List.length_set, List.length_replicate, List.length_append, List.length_map, List.length_take, List.length_cons, List.length_nil]; omega)) [wrap64]
    refine HS.init.mks (α := Int) (z := (0 : Int)) rfl rfl (own_zero (by decide) (by decide)) (Nat.le_refl _) (by omega) (by omega) fun o h1 H => ?_
    simp -implicitDefEqProofs (disch := first | omega | (simp only [List.length_set, List.length_replicate, List.length_append, List.length_map, List.length_take, List.length_cons, List.length_nil]; omega)) [wrap64]
    refine (c_clone_int (R1.on H) (by omega)).go ?_
    intro u h2 G
    have H := G.app H
    simp -implicitDefEqProofs (disch := first | omega | (simp only [List.length_set, List.length_replicate, List.length_append, List.length_map, List.length_take, List.length_cons, List.length_nil]; omega)) [wrap64, setC, H.rep.cells, H.rep.one, H.sw1.rep.cells, H.sw1.rep.one]
    exact RetK.keep (hk _ _ (HS.mkSta (a := ini s) H.sw1))
  · simp -implicitDefEqProofs (disch := first | omega | (simp only [List.length_set, List.length_replicate, List.length_append, List.length_map, List.length_take, List.length_cons, List.length_nil]; omega)) [wrap64]
    refine (c_clone_int R1 (by omega)).go ?_
    intro u h2 H
    simp -implicitDefEqProofs (disch := first | omega | (simp only [List.length_set, List.length_replicate, List.length_append, List.length_map, List.length_take, List.length_cons, List.length_nil]; omega)) [wrap64]
    refine H.mks (α := Int) (z := (0 : Int)) rfl rfl (own_zero (by decide) (by decide)) (Nat.le_refl _) (by omega) (by omega) fun o h1 H => ?_
    simp -implicitDefEqProofs (disch := first | omega | (simp only [List.length_set, List.length_replicate, List.length_append, List.length_map, List.length_take, List.length_cons, List.length_nil]; omega)) [wrap64, setC, H.rep.cells, H.rep.one, H.sw1.rep.cells, H.sw1.rep.one]
    exact RetK.keep (hk _ _ (HS.mkSta (a := ini s) H))
theorem c_build_1 {h : Heap} {v w : Value} {a st : Sta} {b : Nat} (R : Rep h v a) (Rt : Rep h w st) (hb : hload h (some (.pointer (some ⟨b, 0, none⟩))) (some 2) = some w) :
    CallE Try.prog fn_impl_System_build_1 [v, .pointer (some ⟨b, 0, none⟩)] h (fun u h' => h.le h' ∧ u = .bool (decide (a = st))) := by
  have FS := R.aSta
  refine CallE.gen fun k hk => EN_impl_System_build_1 rfl ?_
  simp -implicitDefEqProofs (disch := first | omega | (simp only [List.length_set, List.length_replicate, List.length_append, List.length_map, List.length_take, List.length_cons, List.length_nil]; omega)) [wrap64, FS, hb]
  refine (c_StateSame R Rt).go ?_
  rintro _ h ⟨rfl, rfl⟩
  simp -implicitDefEqProofs (disch := first | omega | (simp only [List.length_set, List.length_replicate, List.length_append, List.length_map, List.length_take, List.length_cons, List.length_nil]; omega)) [wrap64]
  exact RetK.keep (hk _ _ ⟨Heap.le.refl _, rfl⟩)

theorem gN_at {s : Sy} {x : Sta} {n i : Nat} {xs : List Sta} {p : List Sta × List Int} (gi : GI s xs n p) (hi : i < xs.length) : ∃ h : i < p.1.length, p.1[i] = xs[i] := by
  obtain ⟨t, e⟩ := gi.pre
  have hl : i < p.1.length := by have := gi.ge; omega
  refine ⟨hl, ?_⟩
  have : p.1[i]? = xs[i]? := by rw [e, List.getElem?_append_left hi]
  rw [List.getElem?_eq_getElem hl, List.getElem?_eq_getElem hi] at this
  exact Option.some.inj this
theorem zero_Gr {g h : Heap} {Γ : List HP} (H : HS g Γ h) : HS g (ow (.agg #[.slice none 0 0, .slice none 0 0]) Gr.zero :: Γ) h := HS.mkGr (a := Gr.zero) H.nil_ow.nil_ow

theorem c_build {h : Heap} {v : Value} {s : Sy} (hs : s.Ok) (R : Rep h v s) : CallE Try.prog fn_impl_System_build [v] h (R2 (decide (bgOk s)) (bgR s) h) := by
  have FS := R.aSy
  have R0 := R
  obtain ⟨v1, v2, rfl, R1, R2'⟩ := Rep_Sy.1 R
  refine CallE.gen fun k hk => EN_impl_System_build rfl ?_
  have hno : ¬ bgOk s → ∀ {h'}, h.le h' → k (.tuple #[.agg #[.slice none 0 0, .slice none 0 0], .bool false]) h' := fun hn h' hl => hk _ _ ⟨_, by rw [decide_eq_false hn], by rw [bgR, if_neg hn]; exact zero_Gr (Γ := []) hl⟩
  simp -implicitDefEqProofs (disch := first | omega | (simp only [List.length_set, List.length_replicate, List.length_append, List.length_map, List.length_take, List.length_cons, List.length_nil]; omega)) [wrap64, FS]
  refine (c_initial hs R0).go ?_
  intro u h1 H
  obtain ⟨o1, o2, rfl, H'⟩ := H.unSta
  have hc1 := H'.rep.one
  have hc2 := H'.sw1.rep.one
  simp -implicitDefEqProofs (disch := first | omega | (simp only [List.length_set, List.length_replicate, List.length_append, List.length_map, List.length_take, List.length_cons, List.length_nil]; omega)) [wrap64, setC, hc1, hc2]
  refine HS.blsO1 H rfl fun xs h2 H => ?_
  simp -implicitDefEqProofs (disch := first | omega | (simp only [List.length_set, List.length_replicate, List.length_append, List.length_map, List.length_take, List.length_cons, List.length_nil]; omega)) [wrap64, setC, H.rep.cells, H.rep.one]
  refine wp_while (σ := Nat) (fun i e h' => ∃ xs nx, e = [none, some (.agg #[v1, v2]), some (.agg #[.slice none 0 0, .slice none 0 0]), none, some (.agg #[xs, nx]), some (.int .i64 i), none, none, none, none, none, none, none] ∧ HS h [ow xs (gN s i).states, ow nx (gN s i).next] h' ∧ i ≤ (gN s i).states.length ∧ (gN s i).states.length ≤ 60) (fun i => 61 - i) 0 ⟨xs, .slice none 0 0, by simp, H.nil_ow.sw1, by simp [gN], by simp [gN]⟩ ?_
  clear H hc1 hc2 H'
  rintro J i _ h3 hJ ⟨xs, nx, rfl, H, hi, h60⟩
  have inv := gN_inv hs i
  have hnl := inv.nl
  simp -implicitDefEqProofs (disch := first | omega | (simp only [List.length_set, List.length_replicate, List.length_append, List.length_map, List.length_take, List.length_cons, List.length_nil]; omega)) [wrap64, H.rep.len]
  refine IteW.mk (fun hlt => ?_) (fun hge => ?_)
  · have hlt : i < (gN s i).states.length := by omega
    have hxo := inv.ok _ (List.getElem_mem hlt)
    have hsucc := gN_succ hlt
    generalize hg : gN s i = g at *
    obtain ⟨x, hx⟩ : ∃ x, x = g.states[i] := ⟨_, rfl⟩
    rw [← hx] at hxo hsucc
    obtain ⟨u, hu, Ru⟩ := H.rep.ld hlt
    change hload _ (some (elp 2 xs i)) (some 2) = some u at hu
    rw [← hx] at Ru
    simp -implicitDefEqProofs (disch := first | omega | (simp only [List.length_set, List.length_replicate, List.length_append, List.length_map, List.length_take, List.length_cons, List.length_nil]; omega)) [wrap64, H.rep.X (n := 2) rfl, hu, Ru.aSta, FS]
    have hel := enb_len' (st := x) hs
    refine pl_cut (fun e' h' => ∃ el r, e' = none :: some (.agg #[v1, v2]) :: some (.agg #[.slice none 0 0, .slice none 0 0]) :: none :: some (.agg #[xs, nx]) :: some (.int .i64 i) :: some (.slice none 0 0) :: none :: none :: none :: some el :: some (.int .i64 (enb s x).length) :: some (.int .i64 0) :: r ∧ HS h [ow el (enb s x), ow xs g.states, ow nx g.next] h') (fun K hK => ?_) ?_
    · refine ⟨?_, ?_⟩
      · simp -implicitDefEqProofs (disch := first | omega | (simp only [List.length_set, List.length_replicate, List.length_append, List.length_map, List.length_take, List.length_cons, List.length_nil]; omega)) [wrap64]
        refine (c_enabled hs hxo (R0.on H) Ru).go ?_
        intro el h4 G
        have hu2 := hload_le G.base hu
        have H := G.app H
        refine ⟨?_, ?_⟩
        · simp -implicitDefEqProofs (disch := first | omega | (simp only [List.length_set, List.length_replicate, List.length_append, List.length_map, List.length_take, List.length_cons, List.length_nil]; omega)) [wrap64, H.rep.len, hu2]
          exact hK _ _ ⟨_, _, rfl, H⟩
        · simp -implicitDefEqProofs (disch := first | omega | (simp only [List.length_set, List.length_replicate, List.length_append, List.length_map, List.length_take, List.length_cons, List.length_nil]; omega)) [wrap64, H.rep.len, hu2]
          exact hK _ _ ⟨_, _, rfl, H⟩
      · simp -implicitDefEqProofs (disch := first | omega | (simp only [List.length_set, List.length_replicate, List.length_append, List.length_map, List.length_take, List.length_cons, List.length_nil]; omega)) [wrap64, hu]
        refine (c_enabled hs hxo (R0.on H) Ru).go ?_
        intro el h4 G
        have H := G.app H
        simp -implicitDefEqProofs (disch := first | omega | (simp only [List.length_set, List.length_replicate, List.length_append, List.length_map, List.length_take, List.length_cons, List.length_nil]; omega)) [wrap64, H.rep.len]
        exact hK _ _ ⟨_, _, rfl, H⟩
    clear H hu Ru u
    rintro _ h4 ⟨el, r, rfl, H⟩
    simp -implicitDefEqProofs (disch := first | omega | (simp only [List.length_set, List.length_replicate, List.length_append, List.length_map, List.length_take, List.length_cons, List.length_nil]; omega)) [wrap64]
    refine wp_count (enb s x).length (fun m e h' => ∃ xs q, e = [none, some (.agg #[v1, v2]), some (.agg #[.slice none 0 0, .slice none 0 0]), none, some (.agg #[xs, nx]), some (.int .i64 i), some q, none, none, none, some el, some (.int .i64 (enb s x).length), some (.int .i64 m)] ∧ HS h [ow xs (gF s x m g.states).1, ow q (gF s x m g.states).2, ow nx g.next, ow el (enb s x)] h') ⟨xs, .slice none 0 0, by simp, by rw [gF_zero]; exact (H.bk2.nil_ow (α := Int)).sw1⟩ ?_
    clear H r xs
    rintro J1 m _ h5 hJ1 hm ⟨xs, q, rfl, H⟩
    simp -implicitDefEqProofs (disch := first | omega | (simp only [List.length_set, List.length_replicate, List.length_append, List.length_map, List.length_take, List.length_cons, List.length_nil]; omega)) [wrap64]
    refine IteW.mk (fun hlt1 => ?_) (fun hge1 => ?_)
    · have hm : m < (enb s x).length := by omega
      have gi := gF_inv (xs := g.states) hs hxo inv.ok m (by omega)
      have hsu := gF_succ (xs := g.states) hm
      have hin := enb_in (List.getElem_mem hm)
      obtain ⟨t, ht⟩ : ∃ t, t = (enb s x)[m] := ⟨_, rfl⟩
      generalize gF s x m g.states = p at gi hsu H
      obtain ⟨hip, hxp⟩ := gN_at (x := x) gi hlt
      rw [← hx] at hxp
      rw [← ht] at hsu hin
      obtain ⟨u, hu, Ru⟩ := H.rep.ld hip
      change hload _ (some (elp 2 xs i)) (some 2) = some u at hu
      rw [hxp] at Ru
      have hst := Sta.aft_ok hs hxo hin
      have hl1 := gi.l1
      have hl2 := gi.l2
      simp -implicitDefEqProofs (disch := first | omega | (simp only [List.length_set, List.length_replicate, List.length_append, List.length_map, List.length_take, List.length_cons, List.length_nil]; omega)) [wrap64, H.sw3.rep.xStp, ← ht, H.rep.X (n := 2) rfl, hu, Stp.v, setC]
      refine pl_cut (fun e' h' => ∃ b o1 o2 r, e' = none :: some (.agg #[v1, v2]) :: some (.agg #[.slice none 0 0, .slice none 0 0]) :: none :: some (.agg #[xs, nx]) :: some (.int .i64 i) :: some q :: some t.v :: some (.pointer (some ⟨b, 0, none⟩)) :: none :: some el :: some (.int .i64 (enb s x).length) :: some (.int .i64 m) :: r ∧ HS h [bx b [o1, o2], ow (.agg #[o1, o2]) (x.aft s t), ow xs p.1, ow q p.2, ow nx g.next, ow el (enb s x)] h') (fun K hK => ?_) ?_
      · refine ⟨?_, ?_⟩
        · simp -implicitDefEqProofs (disch := first | omega | (simp only [List.length_set, List.length_replicate, List.length_append, List.length_map, List.length_take, List.length_cons, List.length_nil]; omega)) [wrap64, Stp.v]
          refine (c_after hs hxo hin (R0.on H) Ru).go ?_
          intro o h6 HO
          obtain ⟨o1, o2, rfl, HO2⟩ := HO.unSta
          have hC1 := HO2.rep.one
          have hC2 := HO2.sw1.rep.one
          simp -implicitDefEqProofs (disch := first | omega | (simp only [List.length_set, List.length_replicate, List.length_append, List.length_map, List.length_take, List.length_cons, List.length_nil]; omega)) [wrap64]
          refine HO.alloc rfl fun b h7 HO => ?_
          have hu2 := hload_le HO.base hu
          have H := HO.app H
          simp -implicitDefEqProofs (disch := first | omega | (simp only [List.length_set, List.length_replicate, List.length_append, List.length_map, List.length_take, List.length_cons, List.length_nil]; omega)) [wrap64, hu2]
          refine HS.bxst (o := 0) (sz := 2) (u := .agg #[o1, o2]) H rfl rfl rfl (by simp [hC1, hC2]) (by simp) fun h8 H => ?_
          simp -implicitDefEqProofs (disch := first | omega | (simp only [List.length_set, List.length_replicate, List.length_append, List.length_map, List.length_take, List.length_cons, List.length_nil]; omega)) [wrap64]
          exact hK _ _ ⟨b, o1, o2, _, rfl, H⟩
        · simp -implicitDefEqProofs (disch := first | omega | (simp only [List.length_set, List.length_replicate, List.length_append, List.length_map, List.length_take, List.length_cons, List.length_nil]; omega)) [wrap64, Stp.v]
          refine (HS.init (h := h5)).alloc rfl fun b h6 G => ?_
          have hu2 := hload_le G.base hu
          have H := G.app H
          simp -implicitDefEqProofs (disch := first | omega | (simp only [List.length_set, List.length_replicate, List.length_append, List.length_map, List.length_take, List.length_cons, List.length_nil]; omega)) [wrap64, hu2]
          refine (c_after hs hxo hin (R0.on H) (Ru.on G)).go ?_
          intro o h6 HO
          obtain ⟨o1, o2, rfl, HO2⟩ := HO.unSta
          have hC1 := HO2.rep.one
          have hC2 := HO2.sw1.rep.one
          have H := (HO.app H).sw1
          simp -implicitDefEqProofs (disch := first | omega | (simp only [List.length_set, List.length_replicate, List.length_append, List.length_map, List.length_take, List.length_cons, List.length_nil]; omega)) [wrap64]
          refine HS.bxst (o := 0) (sz := 2) (u := .agg #[o1, o2]) H rfl rfl rfl (by simp [hC1, hC2]) (by simp) fun h8 H => ?_
          simp -implicitDefEqProofs (disch := first | omega | (simp only [List.length_set, List.length_replicate, List.length_append, List.length_map, List.length_take, List.length_cons, List.length_nil]; omega)) [wrap64]
          exact hK _ _ ⟨b, o1, o2, _, rfl, H⟩
      rintro _ h6 ⟨b, o1, o2, r, rfl, H⟩
      have hb : hload h6 (some (.pointer (some ⟨b, 0, none⟩))) (some 2) = some (.agg #[o1, o2]) := H.bxlds (o := 0) (n := 2) (by simp)
      simp -implicitDefEqProofs (disch := first | omega | (simp only [List.length_set, List.length_replicate, List.length_append, List.length_map, List.length_take, List.length_cons, List.length_nil]; omega)) [wrap64]
      refine (c_IndexFunc_impl_State H.sw2.rep (c1 := []) (c2 := [.pointer (some ⟨b, 0, none⟩)]) (f := fn_impl_System_build_1) rfl (fun y => decide (y = x.aft s t)) ?_).go ?_
      · intro h7 hl j hj w Rw
        exact c_build_1 Rw (H.sw1.rep.le hl) (hload_le hl hb)
      rintro _ h7 ⟨l7, hv⟩
      have hv : _ = Value.int .i64 (fx p.1 (x.aft s t)) := hv
      subst hv
      have hb := hload_le l7 hb
      have H := H.le l7
      by_cases q1 : x.aft s t ∈ p.1
      · obtain ⟨i', hi', e1, e2⟩ := fx_mem q1
        simp -implicitDefEqProofs (disch := first | omega | (simp only [List.length_set, List.length_replicate, List.length_append, List.length_map, List.length_take, List.length_cons, List.length_nil]; omega)) [wrap64, e1, show ¬ ((i' : Int) < 0) by omega]
        refine (c_Contains_int H.sw3.rep).go ?_
        rintro _ h8 ⟨rfl, rfl⟩
        by_cases q2 : (i' : Int) ∈ p.2
        · simp -implicitDefEqProofs (disch := first | omega | (simp only [List.length_set, List.length_replicate, List.length_append, List.length_map, List.length_take, List.length_cons, List.length_nil]; omega)) [wrap64, q2]
          refine hJ1 _ _ hm ⟨xs, q, by simp, ?_⟩
          rw [hsu, g1]
          simp only [adS, atS, q1, if_pos, if_neg, not_false_eq_true, e1, adI, q2]
          exact H.drop.drop
        · simp -implicitDefEqProofs (disch := first | omega | (simp only [List.length_set, List.length_replicate, List.length_append, List.length_map, List.length_take, List.length_cons, List.length_nil]; omega)) [wrap64, q2, setC]
          refine HS.app1 (bytes := 8) H.sw3 (i' : Int) rfl rfl rfl (by exact ⟨by omega, by omega⟩) rfl rfl (by omega) (by omega) fun q' h9 H => ?_
          simp -implicitDefEqProofs (disch := first | omega | (simp only [List.length_set, List.length_replicate, List.length_append, List.length_map, List.length_take, List.length_cons, List.length_nil]; omega)) [wrap64]
          refine hJ1 _ _ hm ⟨xs, q', by simp, ?_⟩
          rw [hsu, g1]
          simp only [adS, atS, q1, if_pos, if_neg, not_false_eq_true, e1, adI, q2]
          exact H.bk3.drop.drop
      · have e1 : (p.1.length : Int) = p.1.length := rfl
        have hC1 := H.sw1.rep.aSta
        simp -implicitDefEqProofs (disch := first | omega | (simp only [List.length_set, List.length_replicate, List.length_append, List.length_map, List.length_take, List.length_cons, List.length_nil]; omega)) [wrap64, fx_not q1, H.sw2.rep.len, hb, setC, hC1]
        refine HS.appO (bytes := 48) (H.drop.sw1.bk1) rfl rfl rfl rfl rfl (by omega) (by omega) fun xs' h8 H => ?_
        simp -implicitDefEqProofs (disch := first | omega | (simp only [List.length_set, List.length_replicate, List.length_append, List.length_map, List.length_take, List.length_cons, List.length_nil]; omega)) [wrap64, setC, H.rep.cells, H.rep.one]
        refine (c_Contains_int H.sw1.rep).go ?_
        rintro _ h8 ⟨rfl, rfl⟩
        by_cases q2 : (p.1.length : Int) ∈ p.2
        · simp -implicitDefEqProofs (disch := first | omega | (simp only [List.length_set, List.length_replicate, List.length_append, List.length_map, List.length_take, List.length_cons, List.length_nil]; omega)) [wrap64, q2]
          refine hJ1 _ _ hm ⟨xs', q, by simp, ?_⟩
          rw [hsu, g1]
          simp only [adS, atS, q1, if_pos, if_neg, not_false_eq_true, e1, adI, q2]
          exact H
        · simp -implicitDefEqProofs (disch := first | omega | (simp only [List.length_set, List.length_replicate, List.length_append, List.length_map, List.length_take, List.length_cons, List.length_nil]; omega)) [wrap64, q2, setC]
          refine HS.app1 (bytes := 8) H.sw1 (p.1.length : Int) rfl rfl rfl (by exact ⟨by omega, by omega⟩) rfl rfl (by omega) (by omega) fun q' h9 H => ?_
          simp -implicitDefEqProofs (disch := first | omega | (simp only [List.length_set, List.length_replicate, List.length_append, List.length_map, List.length_take, List.length_cons, List.length_nil]; omega)) [wrap64]
          refine hJ1 _ _ hm ⟨xs', q', by simp, ?_⟩
          rw [hsu, g1]
          simp only [adS, atS, q1, if_pos, if_neg, not_false_eq_true, e1, adI, q2]
          exact H.sw1
    obtain rfl : m = (enb s x).length := by omega
    have gi := gF_inv (xs := g.states) hs hxo inv.ok _ (Nat.le_refl (enb s x).length)
    generalize gF s x (enb s x).length g.states = p at gi hsucc H
    have hge := gi.ge
    have hl2 := gi.l2
    by_cases q0 : p.2 = []
    · have hl0 : (p.2.length : Int) = 0 := by rw [q0]; rfl
      simp -implicitDefEqProofs (disch := first | omega | (simp only [List.length_set, List.length_replicate, List.length_append, List.length_map, List.length_take, List.length_cons, List.length_nil]; omega)) [wrap64, H.sw1.rep.len, hl0]
      refine H.bls [(i : Int)] rfl rfl (by simp; exact ⟨by omega, by omega⟩) (by decide) fun q' h6 H => ?_
      simp -implicitDefEqProofs (disch := first | omega | (simp only [List.length_set, List.length_replicate, List.length_append, List.length_map, List.length_take, List.length_cons, List.length_nil]; omega)) [wrap64]
      have H : HS h [ow q' (nxS i p.2), ow xs p.1, ow q p.2, ow nx g.next, ow el (enb s x)] h6 := by rw [nxS, if_pos q0]; exact H
      replace H := H.sw2.drop
      refine (c_Clip_int (x := nxS i p.2) H).go ?_
      intro q' h6 H
      have hcl := H.rep.cells
      simp -implicitDefEqProofs (disch := first | omega | (simp only [List.length_set, List.length_replicate, List.length_append, List.length_map, List.length_take, List.length_cons, List.length_nil]; omega)) [wrap64, setC, H.rep.cells, H.rep.one]
      refine HS.appO (bytes := 24) H.sw2.sw1 rfl rfl (by rw [hcl]) rfl rfl (by omega) (by omega) fun nx' h7 H => ?_
      simp -implicitDefEqProofs (disch := first | omega | (simp only [List.length_set, List.length_replicate, List.length_append, List.length_map, List.length_take, List.length_cons, List.length_nil]; omega)) [wrap64, setC, H.rep.cells, H.rep.one, H.sw1.rep.len]
      by_cases q2 : 60 < (p.1.length : Int)
      · simp -implicitDefEqProofs (disch := first | omega | (simp only [List.length_set, List.length_replicate, List.length_append, List.length_map, List.length_take, List.length_cons, List.length_nil]; omega)) [wrap64, q2, setC]
        exact RetK.keep (hno (bg_big (n := i + 1) hs (by omega) (by rw [hsucc]; simp only; omega)) H.base)
      · simp -implicitDefEqProofs (disch := first | omega | (simp only [List.length_set, List.length_replicate, List.length_append, List.length_map, List.length_take, List.length_cons, List.length_nil]; omega)) [wrap64, q2]
        exact hJ (i + 1) _ _ (by omega) ⟨xs, nx', by simp, by rw [hsucc]; exact H.sw1.sw2.drop, by rw [hsucc]; simp only; omega, by rw [hsucc]; simp only; omega⟩
    · have hl0 : ¬ (p.2.length : Int) = 0 := fun e => q0 (List.length_eq_zero_iff.1 (by omega))
      simp -implicitDefEqProofs (disch := first | omega | (simp only [List.length_set, List.length_replicate, List.length_append, List.length_map, List.length_take, List.length_cons, List.length_nil]; omega)) [wrap64, H.sw1.rep.len, q0]
      have H : HS h [ow q (nxS i p.2), ow xs p.1, ow nx g.next, ow el (enb s x)] h5 := by rw [nxS, if_neg q0]; exact H.sw1
      refine (c_Clip_int (x := nxS i p.2) H).go ?_
      intro q' h6 H
      have hcl := H.rep.cells
      simp -implicitDefEqProofs (disch := first | omega | (simp only [List.length_set, List.length_replicate, List.length_append, List.length_map, List.length_take, List.length_cons, List.length_nil]; omega)) [wrap64, setC, H.rep.cells, H.rep.one]
      refine HS.appO (bytes := 24) H.sw2.sw1 rfl rfl (by rw [hcl]) rfl rfl (by omega) (by omega) fun nx' h7 H => ?_
      simp -implicitDefEqProofs (disch := first | omega | (simp only [List.length_set, List.length_replicate, List.length_append, List.length_map, List.length_take, List.length_cons, List.length_nil]; omega)) [wrap64, setC, H.rep.cells, H.rep.one, H.sw1.rep.len]
      by_cases q2 : 60 < (p.1.length : Int)
      · simp -implicitDefEqProofs (disch := first | omega | (simp only [List.length_set, List.length_replicate, List.length_append, List.length_map, List.length_take, List.length_cons, List.length_nil]; omega)) [wrap64, q2, setC]
        exact RetK.keep (hno (bg_big (n := i + 1) hs (by omega) (by rw [hsucc]; simp only; omega)) H.base)
      · simp -implicitDefEqProofs (disch := first | omega | (simp only [List.length_set, List.length_replicate, List.length_append, List.length_map, List.length_take, List.length_cons, List.length_nil]; omega)) [wrap64, q2]
        exact hJ (i + 1) _ _ (by omega) ⟨xs, nx', by simp, by rw [hsucc]; exact H.sw1.sw2.drop, by rw [hsucc]; simp only; omega, by rw [hsucc]; simp only; omega⟩
  · simp -implicitDefEqProofs (disch := first | omega | (simp only [List.length_set, List.length_replicate, List.length_append, List.length_map, List.length_take, List.length_cons, List.length_nil]; omega)) [wrap64]
    obtain ⟨b1, b2⟩ := bg_end (n := i) hs (by omega) (by omega)
    rw [b2] at H
    refine (c_Clip_impl_State H).go ?_
    intro xs' h4 H
    simp -implicitDefEqProofs (disch := first | omega | (simp only [List.length_set, List.length_replicate, List.length_append, List.length_map, List.length_take, List.length_cons, List.length_nil]; omega)) [wrap64]
    refine (c_Clip_S_int H.sw1).go ?_
    intro nx' h5 H
    simp -implicitDefEqProofs (disch := first | omega | (simp only [List.length_set, List.length_replicate, List.length_append, List.length_map, List.length_take, List.length_cons, List.length_nil]; omega)) [wrap64, setC, H.rep.cells, H.rep.one, H.sw1.rep.cells, H.sw1.rep.one]
    exact RetK.keep (hk _ _ ⟨_, by rw [decide_eq_true b1], HS.mkGr H.sw1⟩)
end Go.Proofs.Ytmpgkijhhocfcaa

/-
  The graph of a system: by the reference; both as functions of the package.
-/
namespace Go.Proofs.Ytmpgkijhhocfcaa
open Go
set_option linter.all false
set_option linter.unusedVariables false
set_option linter.unusedSimpArgs false
set_option linter.defProp false
set_option maxRecDepth 1000000

theorem gF_mono {s : Sy} {x : Sta} {xs : List Sta} {n m : Nat} (h : n ≤ m) (hm : m ≤ (enb s x).length) : (gF s x n xs).1.length ≤ (gF s x m xs).1.length := by
  induction m with
  | zero => have : n = 0 := by omega
            subst this; exact Nat.le_refl _
  | succ m ih =>
    by_cases e : n = m + 1
    · subst e; exact Nat.le_refl _
    refine Nat.le_trans (ih (by omega) (by omega)) ?_
    rw [gF_succ (by omega)]
    exact adS_ge
theorem c_spec_BuildGraph {h : Heap} {v : Value} {s : Sy} (R : Rep h v s) : CallE Try.prog fn_spec_BuildGraph [v] h (R2 (decide (bgOk s)) (bgR s) h) := by
  have FS := R.aSy
  have R0 := R
  obtain ⟨v1, v2, rfl, R1, R2'⟩ := Rep_Sy.1 R
  refine CallE.gen fun k hk => EN_spec_BuildGraph rfl ?_
  have hno : ¬ bgOk s → ∀ {h'}, h.le h' → k (.tuple #[.agg #[.slice none 0 0, .slice none 0 0], .bool false]) h' := fun hn h' hl => hk _ _ ⟨_, by rw [decide_eq_false hn], by rw [bgR, if_neg hn]; exact zero_Gr (Γ := []) hl⟩
  simp -implicitDefEqProofs (disch := first | omega | (simp only [List.length_set, List.length_replicate, List.length_append, List.length_map, List.length_take, List.length_cons, List.length_nil]; omega)) [wrap64, FS]
  refine (c_spec_InitialState R0).go ?_
  rintro _ h1 ⟨u, rfl, H⟩
  obtain ⟨o1, o2, rfl, H'⟩ := H.unSta
  have hc1 := H'.rep.one
  have hc2 := H'.sw1.rep.one
  by_cases hs : s.Ok
  case neg =>
    simp -implicitDefEqProofs (disch := first | omega | (simp only [List.length_set, List.length_replicate, List.length_append, List.length_map, List.length_take, List.length_cons, List.length_nil]; omega)) [wrap64, hs, setC, hc1, hc2]
    exact RetK.keep (hno (fun hb => hs hb.1) H.base)
  rw [if_pos hs] at H
  simp -implicitDefEqProofs (disch := first | omega | (simp only [List.length_set, List.length_replicate, List.length_append, List.length_map, List.length_take, List.length_cons, List.length_nil]; omega)) [wrap64, hs, setC, hc1, hc2]
  refine HS.blsO1 H rfl fun xs h2 H => ?_
  simp -implicitDefEqProofs (disch := first | omega | (simp only [List.length_set, List.length_replicate, List.length_append, List.length_map, List.length_take, List.length_cons, List.length_nil]; omega)) [wrap64, setC, H.rep.cells, H.rep.one]
  refine wp_while (σ := Nat) (fun i e h' => ∃ xs nx, e = [none, some (.agg #[v1, v2]), some (.agg #[.slice none 0 0, .slice none 0 0]), none, none, none, some (.agg #[xs, nx]), some (.int .i64 i), none, none, none, none, none] ∧ HS h [ow xs (gN s i).states, ow nx (gN s i).next] h' ∧ i ≤ (gN s i).states.length ∧ (gN s i).states.length ≤ 60) (fun i => 61 - i) 0 ⟨xs, .slice none 0 0, by simp, H.nil_ow.sw1, by simp [gN], by simp [gN]⟩ ?_
  clear H hc1 hc2 H'
  rintro J i _ h3 hJ ⟨xs, nx, rfl, H, hi, h60⟩
  have inv := gN_inv hs i
  have hnl := inv.nl
  simp -implicitDefEqProofs (disch := first | omega | (simp only [List.length_set, List.length_replicate, List.length_append, List.length_map, List.length_take, List.length_cons, List.length_nil]; omega)) [wrap64, H.rep.len]
  refine IteW.mk (fun hlt => ?_) (fun hge => ?_)
  · have hlt : i < (gN s i).states.length := by omega
    have hxo := inv.ok _ (List.getElem_mem hlt)
    have hsucc := gN_succ hlt
    generalize hg : gN s i = g at *
    obtain ⟨x, hx⟩ : ∃ x, x = g.states[i] := ⟨_, rfl⟩
    rw [← hx] at hxo hsucc
    obtain ⟨u, hu, Ru⟩ := H.rep.ld hlt
    change hload _ (some (elp 2 xs i)) (some 2) = some u at hu
    rw [← hx] at Ru
    have hel := enb_len' (st := x) hs
    simp -implicitDefEqProofs (disch := first | omega | (simp only [List.length_set, List.length_replicate, List.length_append, List.length_map, List.length_take, List.length_cons, List.length_nil]; omega)) [wrap64, H.rep.X (n := 2) rfl, hu, Ru.aSta, FS]
    refine (c_l3Steps hs hxo (R0.on H) Ru).go ?_
    intro el h4 G
    have H := G.app H
    simp -implicitDefEqProofs (disch := first | omega | (simp only [List.length_set, List.length_replicate, List.length_append, List.length_map, List.length_take, List.length_cons, List.length_nil]; omega)) [wrap64]
    refine H.bls0 Int fun q h5 H => ?_
    simp -implicitDefEqProofs (disch := first | omega | (simp only [List.length_set, List.length_replicate, List.length_append, List.length_map, List.length_take, List.length_cons, List.length_nil]; omega)) [wrap64]
    refine wp_count (enb s x).length (fun m e h' => ∃ xs q, e = [none, some (.agg #[v1, v2]), some (.agg #[.slice none 0 0, .slice none 0 0]), none, none, none, some (.agg #[xs, nx]), some (.int .i64 i), some el, some q, some (.int .i64 m), none, none] ∧ HS h [ow xs (gF s x m g.states).1, ow q (gF s x m g.states).2, ow nx g.next, ow el (enb s x)] h' ∧ (gF s x m g.states).1.length ≤ 60) ⟨xs, q, by simp, by rw [gF_zero]; exact H.sw1.bk3.sw1, by rw [gF_zero]; exact h60⟩ ?_
    clear H
    rintro J1 m _ h5 hJ1 hm ⟨xs, q, rfl, H, hp60⟩
    simp -implicitDefEqProofs (disch := first | omega | (simp only [List.length_set, List.length_replicate, List.length_append, List.length_map, List.length_take, List.length_cons, List.length_nil]; omega)) [wrap64, H.sw3.rep.len]
    refine IteW.mk (fun hlt1 => ?_) (fun hge1 => ?_)
    · have hm : m < (enb s x).length := by omega
      have gi := gF_inv (xs := g.states) hs hxo inv.ok m (by omega)
      have hsu := gF_succ (xs := g.states) hm
      have hin := enb_in (List.getElem_mem hm)
      have hmo := gF_mono (s := s) (x := x) (xs := g.states) (show m + 1 ≤ (enb s x).length by omega) (Nat.le_refl _)
      obtain ⟨t, ht⟩ : ∃ t, t = (enb s x)[m] := ⟨_, rfl⟩
      generalize gF s x m g.states = p at gi hsu H hp60
      obtain ⟨hip, hxp⟩ := gN_at (x := x) gi hlt
      rw [← hx] at hxp
      rw [← ht] at hsu hin
      have hbig : 60 < (g1 p (x.aft s t)).1.length → ¬ bgOk s := fun hh => bg_big (n := i + 1) hs (by omega) (by rw [hsucc]; rw [hsu] at hmo; simp only; omega)
      obtain ⟨u, hu, Ru⟩ := H.rep.ld hip
      change hload _ (some (elp 2 xs i)) (some 2) = some u at hu
      rw [hxp] at Ru
      have hst := Sta.aft_ok hs hxo hin
      have hl1 := gi.l1
      have hl2 := gi.l2
      simp -implicitDefEqProofs (disch := first | omega | (simp only [List.length_set, List.length_replicate, List.length_append, List.length_map, List.length_take, List.length_cons, List.length_nil]; omega)) [wrap64, H.sw3.rep.xStp, ← ht, H.rep.X (n := 2) rfl, hu, Stp.v, setC, Ru.aSta, FS]
      refine (c_l3Apply hs hxo hin (R0.on H) Ru).go ?_
      intro o h6 HO
      have hC0 := HO.rep.aSta
      obtain ⟨o1, o2, rfl, HO2⟩ := HO.unSta
      have hC1 := HO2.rep.one
      have hC2 := HO2.sw1.rep.one
      have H := HO.app H
      simp -implicitDefEqProofs (disch := first | omega | (simp only [List.length_set, List.length_replicate, List.length_append, List.length_map, List.length_take, List.length_cons, List.length_nil]; omega)) [wrap64, hC1, hC2, setC]
      refine (c_l4Find H.sw1.rep H.rep).go ?_
      rintro _ h6 ⟨rfl, rfl⟩
      by_cases q1 : x.aft s t ∈ p.1
      · obtain ⟨i', hi', e1, e2⟩ := fx_mem q1
        simp -implicitDefEqProofs (disch := first | omega | (simp only [List.length_set, List.length_replicate, List.length_append, List.length_map, List.length_take, List.length_cons, List.length_nil]; omega)) [wrap64, e1, show ¬ ((i' : Int) < 0) by omega]
        by_cases q3 : (60 : Int) ≤ (i' : Int)
        · simp -implicitDefEqProofs (disch := first | omega | (simp only [List.length_set, List.length_replicate, List.length_append, List.length_map, List.length_take, List.length_cons, List.length_nil]; omega)) [wrap64, q3, setC]
          exact RetK.keep (hno (hbig (by omega)) H.base)
        simp -implicitDefEqProofs (disch := first | omega | (simp only [List.length_set, List.length_replicate, List.length_append, List.length_map, List.length_take, List.length_cons, List.length_nil]; omega)) [wrap64, q3]
        refine (c_l4In H.sw2.rep).go ?_
        rintro _ h8 ⟨rfl, rfl⟩
        by_cases q2 : (i' : Int) ∈ p.2
        · simp -implicitDefEqProofs (disch := first | omega | (simp only [List.length_set, List.length_replicate, List.length_append, List.length_map, List.length_take, List.length_cons, List.length_nil]; omega)) [wrap64, q2]
          refine hJ1 _ _ hm ⟨xs, q, by simp, ?_, ?_⟩
          · rw [hsu, g1]
            simp only [adS, atS, q1, if_pos, if_neg, not_false_eq_true, e1, adI, q2]
            exact H.drop
          · rw [hsu, g1]
            simp only [adS, q1, if_pos, if_neg, not_false_eq_true]
            exact hp60
        · simp -implicitDefEqProofs (disch := first | omega | (simp only [List.length_set, List.length_replicate, List.length_append, List.length_map, List.length_take, List.length_cons, List.length_nil]; omega)) [wrap64, q2, setC]
          refine HS.app1 (bytes := 8) H.sw2 (i' : Int) rfl rfl rfl ⟨by omega, by omega⟩ rfl rfl (by omega) (by omega) fun q' h9 H => ?_
          simp -implicitDefEqProofs (disch := first | omega | (simp only [List.length_set, List.length_replicate, List.length_append, List.length_map, List.length_take, List.length_cons, List.length_nil]; omega)) [wrap64]
          refine hJ1 _ _ hm ⟨xs, q', by simp, ?_, ?_⟩
          · rw [hsu, g1]
            simp only [adS, atS, q1, if_pos, if_neg, not_false_eq_true, e1, adI, q2]
            exact H.bk2.drop
          · rw [hsu, g1]
            simp only [adS, q1, if_pos, if_neg, not_false_eq_true]
            exact hp60
      · have e1 : (p.1.length : Int) = p.1.length := rfl
        simp -implicitDefEqProofs (disch := first | omega | (simp only [List.length_set, List.length_replicate, List.length_append, List.length_map, List.length_take, List.length_cons, List.length_nil]; omega)) [wrap64, fx_not q1, H.sw1.rep.len, hC1, hC2, setC]
        refine HS.appO (bytes := 48) H rfl rfl rfl rfl rfl (by omega) (by omega) fun xs' h8 H => ?_
        simp -implicitDefEqProofs (disch := first | omega | (simp only [List.length_set, List.length_replicate, List.length_append, List.length_map, List.length_take, List.length_cons, List.length_nil]; omega)) [wrap64, setC, H.rep.cells, H.rep.one]
        by_cases q3 : (60 : Int) ≤ (p.1.length : Int)
        · simp -implicitDefEqProofs (disch := first | omega | (simp only [List.length_set, List.length_replicate, List.length_append, List.length_map, List.length_take, List.length_cons, List.length_nil]; omega)) [wrap64, q3, setC]
          exact RetK.keep (hno (hbig (by simp only [g1, adS, if_neg q1, List.length_append, List.length_singleton]; omega)) H.base)
        simp -implicitDefEqProofs (disch := first | omega | (simp only [List.length_set, List.length_replicate, List.length_append, List.length_map, List.length_take, List.length_cons, List.length_nil]; omega)) [wrap64, q3]
        refine (c_l4In H.sw1.rep).go ?_
        rintro _ h8 ⟨rfl, rfl⟩
        by_cases q2 : (p.1.length : Int) ∈ p.2
        · simp -implicitDefEqProofs (disch := first | omega | (simp only [List.length_set, List.length_replicate, List.length_append, List.length_map, List.length_take, List.length_cons, List.length_nil]; omega)) [wrap64, q2]
          refine hJ1 _ _ hm ⟨xs', q, by simp, ?_, ?_⟩
          · rw [hsu, g1]
            simp only [adS, atS, q1, if_pos, if_neg, not_false_eq_true, e1, adI, q2]
            exact H
          · rw [hsu, g1]
            simp only [adS, q1, if_pos, if_neg, not_false_eq_true]
            simp only [List.length_append, List.length_singleton]; omega
        · simp -implicitDefEqProofs (disch := first | omega | (simp only [List.length_set, List.length_replicate, List.length_append, List.length_map, List.length_take, List.length_cons, List.length_nil]; omega)) [wrap64, q2, setC]
          refine HS.app1 (bytes := 8) H.sw1 (p.1.length : Int) rfl rfl rfl ⟨by omega, by omega⟩ rfl rfl (by omega) (by omega) fun q' h9 H => ?_
          simp -implicitDefEqProofs (disch := first | omega | (simp only [List.length_set, List.length_replicate, List.length_append, List.length_map, List.length_take, List.length_cons, List.length_nil]; omega)) [wrap64]
          refine hJ1 _ _ hm ⟨xs', q', by simp, ?_, ?_⟩
          · rw [hsu, g1]
            simp only [adS, atS, q1, if_pos, if_neg, not_false_eq_true, e1, adI, q2]
            exact H.sw1
          · rw [hsu, g1]
            simp only [adS, q1, if_pos, if_neg, not_false_eq_true]
            simp only [List.length_append, List.length_singleton]; omega
    obtain rfl : m = (enb s x).length := by omega
    have gi := gF_inv (xs := g.states) hs hxo inv.ok _ (Nat.le_refl (enb s x).length)
    generalize gF s x (enb s x).length g.states = p at gi hsucc H hp60
    have hge := gi.ge
    have hl2 := gi.l2
    by_cases q0 : (enb s x).length = 0
    · have hp : p.2 = [] := List.length_eq_zero_iff.1 (by omega)
      simp -implicitDefEqProofs (disch := first | omega | (simp only [List.length_set, List.length_replicate, List.length_append, List.length_map, List.length_take, List.length_cons, List.length_nil]; omega)) [wrap64, H.sw3.rep.len, q0, setC]
      refine HS.app1 (bytes := 8) H.sw1 (i : Int) rfl rfl rfl ⟨by omega, by omega⟩ rfl rfl (by omega) (by omega) fun q h7 H => ?_
      have H : HS h [ow q (nxS i p.2), ow xs p.1, ow nx g.next, ow el (enb s x)] h7 := by rw [nxS, if_pos hp]; rw [hp] at H; exact H
      simp -implicitDefEqProofs (disch := first | omega | (simp only [List.length_set, List.length_replicate, List.length_append, List.length_map, List.length_take, List.length_cons, List.length_nil]; omega)) [wrap64]
      have hcl := H.rep.cells
      simp -implicitDefEqProofs (disch := first | omega | (simp only [List.length_set, List.length_replicate, List.length_append, List.length_map, List.length_take, List.length_cons, List.length_nil]; omega)) [wrap64, setC, H.rep.cells, H.rep.one]
      refine HS.appO (bytes := 24) H.sw2.sw1 rfl rfl (by rw [hcl]) rfl rfl (by omega) (by omega) fun nx' h7 H => ?_
      simp -implicitDefEqProofs (disch := first | omega | (simp only [List.length_set, List.length_replicate, List.length_append, List.length_map, List.length_take, List.length_cons, List.length_nil]; omega)) [wrap64, setC, H.rep.cells, H.rep.one]
      exact hJ (i + 1) _ _ (by omega) ⟨xs, nx', by simp, by rw [hsucc]; exact H.sw1.sw2.drop, by rw [hsucc]; simp only; omega, by rw [hsucc]; exact hp60⟩
    · have hp : p.2 ≠ [] := gi.ne (by omega)
      have q0' : ¬ (enb s x) = [] := fun e => q0 (by rw [e]; rfl)
      simp -implicitDefEqProofs (disch := first | omega | (simp only [List.length_set, List.length_replicate, List.length_append, List.length_map, List.length_take, List.length_cons, List.length_nil]; omega)) [wrap64, H.sw3.rep.len, q0, q0']
      have H : HS h [ow q (nxS i p.2), ow xs p.1, ow nx g.next, ow el (enb s x)] h5 := by rw [nxS, if_neg hp]; exact H.sw1
      have hcl := H.rep.cells
      simp -implicitDefEqProofs (disch := first | omega | (simp only [List.length_set, List.length_replicate, List.length_append, List.length_map, List.length_take, List.length_cons, List.length_nil]; omega)) [wrap64, setC, H.rep.cells, H.rep.one]
      refine HS.appO (bytes := 24) H.sw2.sw1 rfl rfl (by rw [hcl]) rfl rfl (by omega) (by omega) fun nx' h7 H => ?_
      simp -implicitDefEqProofs (disch := first | omega | (simp only [List.length_set, List.length_replicate, List.length_append, List.length_map, List.length_take, List.length_cons, List.length_nil]; omega)) [wrap64, setC, H.rep.cells, H.rep.one]
      exact hJ (i + 1) _ _ (by omega) ⟨xs, nx', by simp, by rw [hsucc]; exact H.sw1.sw2.drop, by rw [hsucc]; simp only; omega, by rw [hsucc]; exact hp60⟩
  · obtain ⟨b1, b2⟩ := bg_end (n := i) hs (by omega) (by omega)
    rw [b2] at H
    simp -implicitDefEqProofs (disch := first | omega | (simp only [List.length_set, List.length_replicate, List.length_append, List.length_map, List.length_take, List.length_cons, List.length_nil]; omega)) [wrap64, setC, H.rep.cells, H.rep.one, H.sw1.rep.cells, H.sw1.rep.one]
    exact RetK.keep (hk _ _ ⟨_, by rw [decide_eq_true b1], HS.mkGr H⟩)
theorem c_BuildGraph {h : Heap} {v : Value} {s : Sy} (R : Rep h v s) : CallE Try.prog fn_impl_BuildGraph [v] h (R2 (decide (bgOk s)) (bgR s) h) := by
  have FS := R.aSy
  refine CallE.gen fun k hk => EN_impl_BuildGraph rfl ?_
  simp -implicitDefEqProofs (disch := first | omega | (simp only [List.length_set, List.length_replicate, List.length_append, List.length_map, List.length_take, List.length_cons, List.length_nil]; omega)) [wrap64, FS]
  refine (c_SystemValid R).go ?_
  rintro _ h1 ⟨l1, rfl⟩
  by_cases hs : s.Ok
  case neg =>
    simp -implicitDefEqProofs (disch := first | omega | (simp only [List.length_set, List.length_replicate, List.length_append, List.length_map, List.length_take, List.length_cons, List.length_nil]; omega)) [wrap64, hs, setC]
    have hn : ¬ bgOk s := fun hb => hs hb.1
    exact RetK.keep (hk _ _ ⟨_, by rw [decide_eq_false hn], by rw [bgR, if_neg hn]; exact zero_Gr (Γ := []) l1⟩)
  simp -implicitDefEqProofs (disch := first | omega | (simp only [List.length_set, List.length_replicate, List.length_append, List.length_map, List.length_take, List.length_cons, List.length_nil]; omega)) [wrap64, hs, FS]
  refine (c_build hs (R.le l1)).go ?_
  rintro _ h2 ⟨u, rfl, H⟩
  have hA := H.rep.aGr
  simp -implicitDefEqProofs (disch := first | omega | (simp only [List.length_set, List.length_replicate, List.length_append, List.length_map, List.length_take, List.length_cons, List.length_nil]; omega)) [wrap64, setC, hA]
  exact RetK.keep (hk _ _ ⟨u, rfl, HS.app (Γ := []) H l1⟩)
end Go.Proofs.Ytmpgkijhhocfcaa

/-
  Searching graphs in plain Lean: shortest paths from the first node.
-/
namespace Go.Proofs.Ytmpgkijhhocfcaa
open Go
set_option linter.all false
set_option linter.unusedVariables false
set_option linter.unusedSimpArgs false
set_option linter.defProp false
set_option maxRecDepth 1000000

def bs1 (at' : Int) (p : List Int × List Int) (to : Int) : List Int × List Int := if p.1.getD to.toNat 0 = -2 then (p.1.set to.toNat at', p.2 ++ [to]) else p
def bsF (l : List Int) (at' : Int) (p : List Int × List Int) (n : Nat) : List Int × List Int := (l.take n).foldl (bs1 at') p
def bsR (next : List (List Int)) (i : Nat) (p : List Int × List Int) : List Int × List Int :=
  if i < p.2.length then bsF (next.getD (p.2.getD i 0).toNat []) (p.2.getD i 0) p (next.getD (p.2.getD i 0).toNat []).length else p
def bsN (next : List (List Int)) : Nat → List Int × List Int
  | 0 => ((List.replicate next.length (-2)).set 0 (-1), [0])
  | n + 1 => bsR next n (bsN next n)
/-- what holds of a search -/
structure BI (N : Nat) (p : List Int × List Int) : Prop where
  fl : p.1.length = N
  q0 : ∃ t, p.2 = 0 :: t
  z0 : ∃ t, p.1 = -1 :: t
  inq : ∀ x ∈ p.2, 0 ≤ x ∧ x < N ∧ p.1.getD x.toNat 0 ≠ -2
  vis : ∀ j : Nat, j < N → p.1.getD j 0 ≠ -2 → (j : Int) ∈ p.2
  val : ∀ j : Nat, 1 ≤ j → j < N → p.1.getD j 0 = -2 ∨ 0 ≤ p.1.getD j 0
  par : ∀ q : Nat, 1 ≤ q → q < p.2.length → ∃ r : Nat, r < q ∧ p.1.getD (p.2.getD q 0).toNat 0 = p.2.getD r 0
  cnt : p.2.length + p.1.count (-2) = N
/-- one search goes on from another -/
structure BL (p p' : List Int × List Int) : Prop where
  keep : ∀ j : Nat, p.1.getD j 0 ≠ -2 → p'.1.getD j 0 = p.1.getD j 0
  pre : ∃ t, p'.2 = p.2 ++ t
theorem BL.refl {p : List Int × List Int} : BL p p := ⟨fun _ _ => rfl, ⟨[], by simp⟩⟩
theorem BL.trans {p q r : List Int × List Int} (h : BL p q) (h' : BL q r) : BL p r := by
  refine ⟨fun j hj => ?_, ?_⟩
  · have e := h.keep j hj
    rw [h'.keep j (by rw [e]; exact hj), e]
  · obtain ⟨t, e⟩ := h.pre
    obtain ⟨t', e'⟩ := h'.pre
    exact ⟨t ++ t', by rw [e', e, List.append_assoc]⟩
theorem BL.len {p q : List Int × List Int} (h : BL p q) : p.2.length ≤ q.2.length := by
  obtain ⟨t, e⟩ := h.pre
  rw [e]; simp
theorem BL.at {p q : List Int × List Int} (h : BL p q) {i : Nat} (hi : i < p.2.length) : q.2.getD i 0 = p.2.getD i 0 := by
  obtain ⟨t, e⟩ := h.pre
  rw [e, List.getD_eq_getElem?_getD, List.getD_eq_getElem?_getD, List.getElem?_append_left hi]
theorem count_set {l : List Int} : ∀ {k : Nat} (hk : k < l.length) {a b : Int}, l[k] = a → a ≠ b → (l.set k b).count a + 1 = l.count a := by
  induction l with
  | nil => intro k hk; exact absurd hk (Nat.not_lt_zero k)
  | cons x l ih =>
    intro k hk a b h1 h2
    cases k with
    | zero =>
      simp only [List.getElem_cons_zero] at h1
      subst h1
      simp only [List.set_cons_zero, List.count_cons_self]
      rw [List.count_cons_of_ne (Ne.symm h2)]
    | succ k =>
      simp only [List.getElem_cons_succ] at h1
      have := ih (k := k) (by simpa using hk) h1 h2
      simp only [List.set_cons_succ, List.count_cons]
      omega
theorem getD_setI {l : List Int} {k j : Nat} {a : Int} (hk : k < l.length) : (l.set k a).getD j 0 = if k = j then a else l.getD j 0 := by
  rw [List.getD_eq_getElem?_getD, List.getElem?_set]
  split
  · rename_i e; subst e; simp [hk]
  · rw [List.getD_eq_getElem?_getD]
theorem BI.le {N : Nat} {p : List Int × List Int} (h : BI N p) : p.2.length ≤ N := by have := h.cnt; omega
theorem BI.pos {N : Nat} {p : List Int × List Int} (h : BI N p) : 1 ≤ p.2.length := by
  obtain ⟨t, e⟩ := h.q0
  rw [e]; simp
theorem BI.at {N : Nat} {p : List Int × List Int} (h : BI N p) {i : Nat} (hi : i < p.2.length) : 0 ≤ p.2.getD i 0 ∧ p.2.getD i 0 < N ∧ p.1.getD (p.2.getD i 0).toNat 0 ≠ -2 := by
  have e : p.2.getD i 0 = p.2[i] := by simp [hi]
  rw [e]
  exact h.inq _ (List.getElem_mem hi)
theorem BI.step {N : Nat} {p : List Int × List Int} (h : BI N p) {i : Nat} (hi : i < p.2.length) {to : Int} (h0 : 0 ≤ to) (h1 : to < N) : BI N (bs1 (p.2.getD i 0) p to) ∧ BL p (bs1 (p.2.getD i 0) p to) ∧ (bs1 (p.2.getD i 0) p to).1.getD to.toNat 0 ≠ -2 := by
  obtain ⟨a, ha⟩ : ∃ a, a = p.2.getD i 0 := ⟨_, rfl⟩
  have hat := h.at hi
  rw [← ha] at hat ⊢
  unfold bs1
  split
  case isFalse e => exact ⟨h, BL.refl, e⟩
  rename_i e
  obtain ⟨k, rfl⟩ : ∃ k : Nat, to = k := ⟨to.toNat, (Int.toNat_of_nonneg h0).symm⟩
  simp only [Int.toNat_natCast] at e ⊢
  have hkN : k < p.1.length := by rw [h.fl]; omega
  obtain ⟨t0, e0⟩ := h.z0
  obtain ⟨tq, eq⟩ := h.q0
  have hk0 : k ≠ 0 := by
    rintro rfl
    rw [e0] at e
    simp at e
  have hkq : (k : Int) ∉ p.2 := fun hm => by
    have := (h.inq _ hm).2.2
    rw [Int.toNat_natCast] at this
    exact this e
  have hge : p.1[k] = -2 := by rw [← e]; simp [hkN]
  refine ⟨⟨by simp [h.fl], ⟨tq ++ [(k : Int)], by rw [eq]; simp⟩, ?_, ?_, ?_, ?_, ?_, ?_⟩, ⟨fun j hj => ?_, ⟨_, rfl⟩⟩, ?_⟩
  · obtain ⟨k', rfl⟩ : ∃ k', k = k' + 1 := ⟨k - 1, by omega⟩
    exact ⟨t0.set k' a, by simp [e0]⟩
  · intro x hx
    simp only [List.mem_append, List.mem_singleton] at hx
    simp only [getD_setI hkN]
    rcases hx with hx | rfl
    · have := h.inq x hx
      refine ⟨this.1, this.2.1, ?_⟩
      split
      · omega
      · exact this.2.2
    · refine ⟨by omega, by omega, ?_⟩
      simp; omega
  · intro j hj h2
    simp only [getD_setI hkN] at h2
    simp only [List.mem_append, List.mem_singleton]
    split at h2
    · rename_i e2; right; omega
    · exact .inl (h.vis j hj h2)
  · intro j h2 h3
    simp only [getD_setI hkN]
    split
    · right; omega
    · exact h.val j h2 h3
  · intro q h2 h3
    simp only [List.length_append, List.length_singleton] at h3
    by_cases hq : q < p.2.length
    · obtain ⟨r, hr, e2⟩ := h.par q h2 hq
      have e3 : (p.2 ++ [(k : Int)]).getD q 0 = p.2.getD q 0 := by rw [List.getD_eq_getElem?_getD, List.getElem?_append_left hq, List.getD_eq_getElem?_getD]
      have e4 : (p.2 ++ [(k : Int)]).getD r 0 = p.2.getD r 0 := by rw [List.getD_eq_getElem?_getD, List.getElem?_append_left (by omega), List.getD_eq_getElem?_getD]
      refine ⟨r, hr, ?_⟩
      simp only [e3, e4, getD_setI hkN]
      have := h.at hq
      rw [if_neg (fun e5 => hkq (by
        have e6 : p.2.getD q 0 = p.2[q] := by simp [hq]
        have e7 : (k : Int) = p.2[q] := by rw [← e6]; omega
        rw [e7]; exact List.getElem_mem hq)), e2]
    · have hq2 : q = p.2.length := by omega
      subst hq2
      refine ⟨i, hi, ?_⟩
      have e3 : (p.2 ++ [(k : Int)]).getD p.2.length 0 = k := by simp
      have e4 : (p.2 ++ [(k : Int)]).getD i 0 = a := by rw [List.getD_eq_getElem?_getD, List.getElem?_append_left hi, ← List.getD_eq_getElem?_getD, ha]
      simp only [e3, e4, getD_setI hkN, Int.toNat_natCast, if_pos]
  · have h2 := h.cnt
    have h3 := count_set hkN hge (b := a) (by omega)
    simp only [List.length_append, List.length_singleton]
    omega
  · simp only [getD_setI hkN]
    rw [if_neg]
    rintro rfl
    exact hj e
  · simp only [getD_setI hkN, if_pos]
    omega
/-- a graph's edges -/
structure NOk (next : List (List Int)) : Prop where
  pos : 1 ≤ next.length
  n60 : next.length ≤ 60
  ent : ∀ l ∈ next, ∀ x ∈ l, 0 ≤ x ∧ x < next.length
  ll : ∀ l ∈ next, l.length ≤ 325
theorem NOk.get {next : List (List Int)} (h : NOk next) {k : Nat} (hk : k < next.length) : next.getD k [] = next[k] ∧ next[k] ∈ next := ⟨by simp [hk], List.getElem_mem hk⟩
/-- the way back to the first node -/
inductive Chn (f : List Int) : Int → List Int → Prop where
  | z : Chn f (-1) []
  | s {a : Int} {l : List Int} : 0 ≤ a → a < f.length → Chn f (f.getD a.toNat 0) l → Chn f a (l ++ [a])
theorem Chn.neg {f : List Int} {l : List Int} (h : Chn f (-1) l) : l = [] := by
  generalize hx : (-1 : Int) = x at h
  cases h with
  | z => rfl
  | s h0 _ _ => omega
theorem Chn.un {f : List Int} {a : Int} {l : List Int} (h : Chn f a l) (h0 : 0 ≤ a) : ∃ l', l = l' ++ [a] ∧ a < f.length ∧ Chn f (f.getD a.toNat 0) l' := by
  cases h with
  | z => omega
  | s h1 h2 h3 => exact ⟨_, rfl, h2, h3⟩
theorem Chn.ge {f : List Int} {a : Int} {l : List Int} (h : Chn f a l) : -1 ≤ a := by
  cases h with
  | z => decide
  | s h1 _ _ => omega
theorem Chn.bl {p p' : List Int × List Int} (hb : BL p p') (hl : p.1.length = p'.1.length) {a : Int} {l : List Int} (h : Chn p.1 a l) : Chn p'.1 a l := by
  induction h with
  | z => exact .z
  | s h1 h2 h3 ih =>
    refine .s h1 (by omega) ?_
    have := h3.ge
    rw [hb.keep _ (by omega)]
    exact ih
theorem Chn.all {f : List Int} {a : Int} {l : List Int} (h : Chn f a l) : ∀ x ∈ l, 0 ≤ x ∧ x < f.length := by
  induction h with
  | z => simp
  | s h1 h2 h3 ih =>
    intro x hx
    simp only [List.mem_append, List.mem_singleton] at hx
    rcases hx with hx | rfl
    · exact ih x hx
    · exact ⟨h1, h2⟩
noncomputable def pth (next : List (List Int)) (a : Int) : List Int := open Classical in if h : ∃ l, Chn (bsN next next.length).1 a l then h.choose else []
end Go.Proofs.Ytmpgkijhhocfcaa

/-
  Shortest paths: by the program.
-/
namespace Go.Proofs.Ytmpgkijhhocfcaa
open Go
set_option linter.all false
set_option linter.unusedVariables false
set_option linter.unusedSimpArgs false
set_option linter.defProp false
set_option maxRecDepth 1000000

def Rch (next : List (List Int)) : Prop := ∀ j : Nat, 1 ≤ j → j < next.length → ∃ (i : Nat) (hi : i < next.length), i < j ∧ (j : Int) ∈ next[i]
end Go.Proofs.Ytmpgkijhhocfcaa

/-
  Shortest paths: by the reference; states along paths, by the program and by the reference.
-/
namespace Go.Proofs.Ytmpgkijhhocfcaa
open Go
set_option linter.all false
set_option linter.unusedVariables false
set_option linter.unusedSimpArgs false
set_option linter.defProp false
set_option maxRecDepth 1000000

def prn (f : List Int) : List Int := f.map fun x => if x = -2 then -1 else x
def sen (f : List Int) : List Bool := f.map fun x => decide (x ≠ -2)
@[simp] theorem prn_len {f : List Int} : (prn f).length = f.length := by simp [prn]
@[simp] theorem sen_len {f : List Int} : (sen f).length = f.length := by simp [sen]
end Go.Proofs.Ytmpgkijhhocfcaa

/-
  Checking reachable states: by the program and by the reference.
-/
namespace Go.Proofs.Ytmpgkijhhocfcaa
open Go
set_option linter.all false
set_option linter.unusedVariables false
set_option linter.unusedSimpArgs false
set_option linter.defProp false
set_option maxRecDepth 1000000

def sof (g : Gr) (l : List Int) : List Sta := l.map fun x => g.states.getD x.toNat Sta.zero
end Go.Proofs.Ytmpgkijhhocfcaa

/-
  Checking reachable states: invariants and deadlocks, by the program and by the reference.
-/
namespace Go.Proofs.Ytmpgkijhhocfcaa
open Go
set_option linter.all false
set_option linter.unusedVariables false
set_option linter.unusedSimpArgs false
set_option linter.defProp false
set_option maxRecDepth 1000000

noncomputable def ckV (s : Sy) (b : Prop) (bad : Sta → Bool) : Int := open Classical in if ¬ (b ∧ s.Ok) then 3 else if ¬ bgOk s then 2 else if (bgR s).states.any bad then 1 else 0
noncomputable def ckL (s : Sy) (b : Prop) (bad : Sta → Bool) : List Sta := open Classical in if ¬ (b ∧ s.Ok) then [] else if ¬ bgOk s then [] else match (bgR s).states.findIdx? bad with | some i => sof (bgR s) (pth (bgR s).next i) | none => []
def RI2 (n : Int) (l : List Sta) (h : Heap) : Value → Heap → Prop := fun u h' => ∃ x, u = .tuple #[.int .i64 n, x] ∧ HS h [ow x l] h'

def badE (e : Exq) (st : Sta) : Bool := decide (e.ev st.vals = 0)
def badD (s : Sy) (st : Sta) : Bool := decide (enb s st = [])
end Go.Proofs.Ytmpgkijhhocfcaa

/-
  Marks in lists of states and in lists of lists of numbers.
-/
namespace Go.Proofs.Ytmpgkijhhocfcaa
open Go
set_option linter.all false
set_option linter.unusedVariables false
set_option linter.unusedSimpArgs false
set_option linter.defProp false
set_option maxRecDepth 1000000

end Go.Proofs.Ytmpgkijhhocfcaa

/-
  What the helpers of the laws do: copying, counting, comparing, marking. Printed by a program.
-/
namespace Go.Proofs.Ytmpgkijhhocfcaa
open Go
set_option linter.all false
set_option linter.unusedVariables false
set_option linter.unusedSimpArgs false
set_option linter.defProp false
set_option maxRecDepth 1000000

end Go.Proofs.Ytmpgkijhhocfcaa

/-
  How much a graph holds.
-/
namespace Go.Proofs.Ytmpgkijhhocfcaa
open Go
set_option linter.all false
set_option linter.unusedVariables false
set_option linter.unusedSimpArgs false
set_option linter.defProp false
set_option maxRecDepth 1000000
end Go.Proofs.Ytmpgkijhhocfcaa

/-
  Checking reachable states: by the reference; how much the answers hold.
-/
namespace Go.Proofs.Ytmpgkijhhocfcaa
open Go
set_option linter.all false
set_option linter.unusedVariables false
set_option linter.unusedSimpArgs false
set_option linter.defProp false
set_option maxRecDepth 1000000

end Go.Proofs.Ytmpgkijhhocfcaa

/-
  Edges that are never taken: by the program and by the reference.
-/
namespace Go.Proofs.Ytmpgkijhhocfcaa
open Go
set_option linter.all false
set_option linter.unusedVariables false
set_option linter.unusedSimpArgs false
set_option linter.defProp false
set_option maxRecDepth 1000000

def ddS (p : Int) (l : List Bool) (t : Stp) : List Bool := if t.partner = p then (if t.proc = p then l.set t.edge.toNat false else l).set t.pedge.toNat false else if t.proc = p then l.set t.edge.toNat false else l
def ddF (s : Sy) (p : Int) (st : Sta) (n : Nat) (l : List Bool) : List Bool := ((enb s st).take n).foldl (ddS p) l
def ddG (s : Sy) (p : Int) (xs : List Sta) (n : Nat) (l : List Bool) : List Bool := (xs.take n).foldl (fun l st => ddF s p st (enb s st).length l) l
theorem ddS_len {p : Int} {l : List Bool} {t : Stp} : (ddS p l t).length = l.length := by
  unfold ddS; split <;> split <;> simp
theorem ddF_zero {s : Sy} {p : Int} {st : Sta} {l : List Bool} : ddF s p st 0 l = l := rfl
theorem ddF_succ {s : Sy} {p : Int} {st : Sta} {n : Nat} {l : List Bool} (hn : n < (enb s st).length) : ddF s p st (n + 1) l = ddS p (ddF s p st n l) (enb s st)[n] := by
  unfold ddF
  rw [List.take_add_one, List.getElem?_eq_getElem hn, List.foldl_append]
  rfl
theorem ddF_len {s : Sy} {p : Int} {st : Sta} {l : List Bool} : ∀ n, n ≤ (enb s st).length → (ddF s p st n l).length = l.length
  | 0, _ => rfl
  | n + 1, h => by rw [ddF_succ (by omega), ddS_len, ddF_len n (by omega)]
theorem ddG_zero {s : Sy} {p : Int} {xs : List Sta} {l : List Bool} : ddG s p xs 0 l = l := rfl
theorem ddG_succ {s : Sy} {p : Int} {xs : List Sta} {n : Nat} {l : List Bool} (hn : n < xs.length) : ddG s p xs (n + 1) l = ddF s p xs[n] (enb s xs[n]).length (ddG s p xs n l) := by
  unfold ddG
  rw [List.take_add_one, List.getElem?_eq_getElem hn, List.foldl_append]
  rfl
theorem ddG_len {s : Sy} {p : Int} {xs : List Sta} {l : List Bool} : ∀ n, n ≤ xs.length → (ddG s p xs n l).length = l.length
  | 0, _ => rfl
  | n + 1, h => by rw [ddG_succ (by omega), ddF_len _ (Nat.le_refl _), ddG_len n (by omega)]
def dOk (s : Sy) (p : Int) : Prop := bgOk s ∧ 0 ≤ p ∧ p < s.procs.length
noncomputable instance instDecDOk {s : Sy} {p : Int} : Decidable (dOk s p) := Classical.propDecidable _
def Sy.dead (s : Sy) (p : Int) (g : Gr) : List Bool := ddG s p g.states g.states.length (List.replicate (s.procs.getD p.toNat ⟨0, []⟩).edges.length true)
noncomputable def deadR (s : Sy) (p : Int) : List Bool := if dOk s p then s.dead p (bgR s) else []
theorem dd_rng {s : Sy} {t : Stp} (h : t.In s) {i : Nat} (hi : i < s.procs.length) : (t.proc = i → 0 ≤ t.edge ∧ t.edge < s.procs[i].edges.length) ∧ (t.partner = i → 0 ≤ t.pedge ∧ t.pedge < s.procs[i].edges.length) := by
  obtain ⟨⟨a, b, ha, hb, e1, e2⟩, hp⟩ := h
  constructor
  · intro e
    have : a = i := by omega
    subst this
    omega
  · intro e
    rcases hp with hp | ⟨c, d, hc, hd, e3, e4⟩
    · omega
    · have : c = i := by omega
      subst this
      omega

theorem c_DeadEdges {h : Heap} {v : Value} {s : Sy} {p : Int} (R : Rep h v s) (hp : I64 p) : CallE Try.prog fn_impl_DeadEdges [v, .int .i64 p] h (R2 (decide (dOk s p)) (deadR s p) h) := by
  have FS := R.aSy
  have R0 := R
  obtain ⟨v1, v2, rfl, R1, R2'⟩ := Rep_Sy.1 R
  have hL := R2'.lt
  refine CallE.gen fun k hk => EN_impl_DeadEdges rfl ?_
  have hno : ¬ dOk s p → ∀ {h'}, h.le h' → k (.tuple #[.slice none 0 0, .bool false]) h' := fun hn h' hl => hk _ _ ⟨_, by rw [decide_eq_false hn], by rw [deadR, if_neg hn]; exact HS.nil_ow (Γ := []) hl⟩
  simp -implicitDefEqProofs (disch := first | omega | (simp only [List.length_set, List.length_replicate, List.length_append, List.length_map, List.length_take, List.length_cons, List.length_nil]; omega)) [wrap64, FS]
  refine (c_BuildGraph R0).go ?_
  rintro _ h1 ⟨u, rfl, H⟩
  have hA := H.rep.aGr
  by_cases q1 : bgOk s
  case neg =>
    simp -implicitDefEqProofs (disch := first | omega | (simp only [List.length_set, List.length_replicate, List.length_append, List.length_map, List.length_take, List.length_cons, List.length_nil]; omega)) [wrap64, q1, hA, setC]
    exact RetK.keep (hno (fun hh => q1 hh.1) H.base)
  simp -implicitDefEqProofs (disch := first | omega | (simp only [List.length_set, List.length_replicate, List.length_append, List.length_map, List.length_take, List.length_cons, List.length_nil]; omega)) [wrap64, q1, hA, setC, (R2'.on H).len]
  refine c_in.go ?_
  rintro _ h1 ⟨rfl, rfl⟩
  by_cases q2 : 0 ≤ p ∧ p ≤ (s.procs.length : Int) - 1
  case neg =>
    simp -implicitDefEqProofs (disch := first | omega | (simp only [List.length_set, List.length_replicate, List.length_append, List.length_map, List.length_take, List.length_cons, List.length_nil]; omega)) [wrap64, q2]
    exact RetK.keep (hno (fun hh => q2 ⟨hh.2.1, by have := hh.2.2; omega⟩) H.base)
  obtain ⟨i, rfl⟩ : ∃ i : Nat, p = i := ⟨p.toNat, (Int.toNat_of_nonneg q2.1).symm⟩
  have hi : i < s.procs.length := by omega
  have dok : dOk s i := ⟨q1, by omega, by omega⟩
  have hfin := bgR_fin q1
  have hs := q1.1
  have hpl := (hs.at hi).el
  obtain ⟨w, hw, Rw⟩ := (R2'.on H).ld hi
  change hload _ (some (elp 2 v2 i)) (some 2) = some w at hw
  obtain ⟨we, rfl, k1, R3⟩ := Rep_Pr.1 Rw
  have hP := hld_parts hw
  have hdead : s.dead i (bgR s) = ddG s i (bgR s).states (bgR s).states.length (List.replicate s.procs[i].edges.length true) := by simp [Sy.dead, hi]
  obtain ⟨E, hE⟩ : ∃ E, E = List.replicate s.procs[i].edges.length true := ⟨_, rfl⟩
  simp -implicitDefEqProofs (disch := first | omega | (simp only [List.length_set, List.length_replicate, List.length_append, List.length_map, List.length_take, List.length_cons, List.length_nil]; omega)) [wrap64, q2, R2'.X (n := 2) rfl, hP.1, hP.2.2.1, R3.len]
  refine H.mks (α := Bool) (z := false) rfl rfl own_false (Nat.le_refl _) (by omega) (by omega) fun o h2 H => ?_
  obtain ⟨xs, nx, rfl, H'⟩ := H.sw1.unGr
  simp -implicitDefEqProofs (disch := first | omega | (simp only [List.length_set, List.length_replicate, List.length_append, List.length_map, List.length_take, List.length_cons, List.length_nil]; omega)) [wrap64, H.rep.len]
  refine wp_count s.procs[i].edges.length (fun m e h' => e = [none, some (.int .i64 i), some (.agg #[v1, v2]), none, none, some (.agg #[xs, nx]), none, some o, none, none, none, some (.int .i64 s.procs[i].edges.length), some (.int .i64 m), none, none, none, none, none, none] ∧ ∃ y, HS h [ow o y, ow xs (bgR s).states] h' ∧ y.length = E.length ∧ y.take m = E.take m) ⟨by simp, _, (H'.sw2.bk1.sw2.drop).sw1, by simp [hE], by simp⟩ ?_
  clear H H' hw hP
  rintro J m _ h3 hJ hm ⟨rfl, y, H, hyl, hy⟩
  have hEl : E.length = s.procs[i].edges.length := by rw [hE]; simp
  simp -implicitDefEqProofs (disch := first | omega | (simp only [List.length_set, List.length_replicate, List.length_append, List.length_map, List.length_take, List.length_cons, List.length_nil]; omega)) [wrap64]
  refine IteW.mk (fun hlt => ?_) (fun hge => ?_)
  · have hm : m < s.procs[i].edges.length := by omega
    simp -implicitDefEqProofs (disch := first | omega | (simp only [List.length_set, List.length_replicate, List.length_append, List.length_map, List.length_take, List.length_cons, List.length_nil]; omega)) [wrap64, H.rep.B]
    refine H.storeF true (i := m) (by omega) rfl rfl trivial rfl fun h4 H => ?_
    simp -implicitDefEqProofs (disch := first | omega | (simp only [List.length_set, List.length_replicate, List.length_append, List.length_map, List.length_take, List.length_cons, List.length_nil]; omega)) [wrap64]
    refine hJ _ _ hm ⟨by simp, _, H, by simp [hyl], ?_⟩
    have := take_set_succ (x := E) hy (by omega) hyl
    simpa [hE] using this
  have he : y = E := eq_of_take hy (by omega) hyl
  subst he
  simp -implicitDefEqProofs (disch := first | omega | (simp only [List.length_set, List.length_replicate, List.length_append, List.length_map, List.length_take, List.length_cons, List.length_nil]; omega)) [wrap64, H.sw1.rep.len]
  generalize hg : (bgR s).states = gs at *
  have hgok : ∀ st ∈ gs, st.Ok s := hg ▸ hfin.ok
  have hg60 : gs.length ≤ 60 := hg ▸ hfin.n60
  refine wp_count gs.length (fun n e h' => e = [none, some (.int .i64 i), some (.agg #[v1, v2]), none, none, none, none, some o, none, none, none, none, none, some xs, some (.int .i64 gs.length), some (.int .i64 n), none, none, none] ∧ HS h [ow o (ddG s i gs n y), ow xs gs] h') ⟨by simp, by rw [ddG_zero]; exact H⟩ ?_
  clear H
  rintro J1 n _ h3 hJ1 hn ⟨rfl, H⟩
  simp -implicitDefEqProofs (disch := first | omega | (simp only [List.length_set, List.length_replicate, List.length_append, List.length_map, List.length_take, List.length_cons, List.length_nil]; omega)) [wrap64]
  refine IteW.mk (fun hlt1 => ?_) (fun hge1 => ?_)
  · have hn : n < gs.length := by omega
    have hgl := ddG_len (s := s) (p := i) (l := y) n (show n ≤ gs.length by omega)
    have hgs := ddG_succ (s := s) (p := i) (l := y) hn
    have hxo := hgok _ (List.getElem_mem hn)
    generalize ddG s i gs n y = D at *
    obtain ⟨x, hx⟩ : ∃ x, x = gs[n] := ⟨_, rfl⟩
    rw [← hx] at hxo hgs
    obtain ⟨u, hu, Ru⟩ := H.sw1.rep.ld hn
    change hload _ (some (elp 2 xs n)) (some 2) = some u at hu
    rw [← hx] at Ru
    have hel := enb_len' (st := x) hs
    simp -implicitDefEqProofs (disch := first | omega | (simp only [List.length_set, List.length_replicate, List.length_append, List.length_map, List.length_take, List.length_cons, List.length_nil]; omega)) [wrap64, H.sw1.rep.X (n := 2) rfl, hu, Ru.aSta, FS, setC]
    refine (c_enabled hs hxo (R0.on H) Ru).go ?_
    intro el h4 G
    have H := G.app H
    simp -implicitDefEqProofs (disch := first | omega | (simp only [List.length_set, List.length_replicate, List.length_append, List.length_map, List.length_take, List.length_cons, List.length_nil]; omega)) [wrap64, H.rep.len]
    refine wp_count (enb s x).length (fun m e h' => e = [none, some (.int .i64 i), some (.agg #[v1, v2]), none, none, none, none, some o, none, none, none, none, none, some xs, some (.int .i64 gs.length), some (.int .i64 n), some el, some (.int .i64 (enb s x).length), some (.int .i64 m)] ∧ HS h [ow el (enb s x), ow o (ddF s i x m D), ow xs gs] h') ⟨by simp, by rw [ddF_zero]; exact H⟩ ?_
    clear H G Ru hu
    rintro J2 m _ h5 hJ2 hm ⟨rfl, H⟩
    simp -implicitDefEqProofs (disch := first | omega | (simp only [List.length_set, List.length_replicate, List.length_append, List.length_map, List.length_take, List.length_cons, List.length_nil]; omega)) [wrap64]
    refine IteW.mk (fun hlt2 => ?_) (fun hge2 => ?_)
    · have hm : m < (enb s x).length := by omega
      have hfl := ddF_len (s := s) (p := i) (st := x) (l := D) m (by omega)
      have hfs := ddF_succ (p := i) (l := D) hm
      have hin := enb_in (List.getElem_mem hm)
      obtain ⟨t, ht⟩ : ∃ t, t = (enb s x)[m] := ⟨_, rfl⟩
      rw [← ht] at hfs hin
      generalize ddF s i x m D = F at *
      obtain ⟨r1, r2⟩ := dd_rng hin hi
      have hFl : F.length = s.procs[i].edges.length := by omega
      by_cases a1 : t.proc = i
      · obtain ⟨e, he⟩ : ∃ e : Nat, t.edge = e := ⟨t.edge.toNat, (Int.toNat_of_nonneg (r1 a1).1).symm⟩
        have hel := (r1 a1).2
        simp -implicitDefEqProofs (disch := first | omega | (simp only [List.length_set, List.length_replicate, List.length_append, List.length_map, List.length_take, List.length_cons, List.length_nil]; omega)) [wrap64, H.rep.xStp, ← ht, Stp.v, setC, a1, he, H.sw1.rep.B]
        refine H.sw1.storeF false (i := e) (by omega) rfl rfl trivial rfl fun h6 H => ?_
        simp -implicitDefEqProofs (disch := first | omega | (simp only [List.length_set, List.length_replicate, List.length_append, List.length_map, List.length_take, List.length_cons, List.length_nil]; omega)) [wrap64]
        by_cases a2 : t.partner = i
        · obtain ⟨e', he'⟩ : ∃ e' : Nat, t.pedge = e' := ⟨t.pedge.toNat, (Int.toNat_of_nonneg (r2 a2).1).symm⟩
          have hel' := (r2 a2).2
          simp -implicitDefEqProofs (disch := first | omega | (simp only [List.length_set, List.length_replicate, List.length_append, List.length_map, List.length_take, List.length_cons, List.length_nil]; omega)) [wrap64, a2, he', H.rep.B]
          refine HS.storeF H false (i := e') (by first | omega | (simp; omega)) rfl rfl trivial rfl fun h7 H => ?_
          simp -implicitDefEqProofs (disch := first | omega | (simp only [List.length_set, List.length_replicate, List.length_append, List.length_map, List.length_take, List.length_cons, List.length_nil]; omega)) [wrap64]
          exact hJ2 _ _ hm ⟨by simp, by rw [hfs, ddS, if_pos a2, if_pos a1, he, Int.toNat_natCast, he', Int.toNat_natCast]; exact H.sw1⟩
        · simp -implicitDefEqProofs (disch := first | omega | (simp only [List.length_set, List.length_replicate, List.length_append, List.length_map, List.length_take, List.length_cons, List.length_nil]; omega)) [wrap64, a2]
          exact hJ2 _ _ hm ⟨by simp, by rw [hfs, ddS, if_neg a2, if_pos a1, he, Int.toNat_natCast]; exact H.sw1⟩
      · simp -implicitDefEqProofs (disch := first | omega | (simp only [List.length_set, List.length_replicate, List.length_append, List.length_map, List.length_take, List.length_cons, List.length_nil]; omega)) [wrap64, H.rep.xStp, ← ht, Stp.v, setC, a1]
        by_cases a2 : t.partner = i
        · obtain ⟨e', he'⟩ : ∃ e' : Nat, t.pedge = e' := ⟨t.pedge.toNat, (Int.toNat_of_nonneg (r2 a2).1).symm⟩
          have hel' := (r2 a2).2
          simp -implicitDefEqProofs (disch := first | omega | (simp only [List.length_set, List.length_replicate, List.length_append, List.length_map, List.length_take, List.length_cons, List.length_nil]; omega)) [wrap64, a2, he', H.sw1.rep.B]
          refine HS.storeF H.sw1 false (i := e') (by first | omega | (simp; omega)) rfl rfl trivial rfl fun h7 H => ?_
          simp -implicitDefEqProofs (disch := first | omega | (simp only [List.length_set, List.length_replicate, List.length_append, List.length_map, List.length_take, List.length_cons, List.length_nil]; omega)) [wrap64]
          exact hJ2 _ _ hm ⟨by simp, by rw [hfs, ddS, if_pos a2, if_neg a1, he', Int.toNat_natCast]; exact H.sw1⟩
        · simp -implicitDefEqProofs (disch := first | omega | (simp only [List.length_set, List.length_replicate, List.length_append, List.length_map, List.length_take, List.length_cons, List.length_nil]; omega)) [wrap64, a2]
          exact hJ2 _ _ hm ⟨by simp, by rw [hfs, ddS, if_neg a2, if_neg a1]; exact H⟩
    obtain rfl : m = (enb s x).length := by omega
    simp -implicitDefEqProofs (disch := first | omega | (simp only [List.length_set, List.length_replicate, List.length_append, List.length_map, List.length_take, List.length_cons, List.length_nil]; omega)) [wrap64]
    exact hJ1 _ _ hn ⟨by simp, by rw [hgs]; exact H.drop⟩
  obtain rfl : n = gs.length := by omega
  simp -implicitDefEqProofs (disch := first | omega | (simp only [List.length_set, List.length_replicate, List.length_append, List.length_map, List.length_take, List.length_cons, List.length_nil]; omega)) [wrap64]
  exact RetK.keep (hk _ _ ⟨_, by rw [decide_eq_true dok], by rw [deadR, if_pos dok, hdead, ← hE]; exact H.only⟩)
theorem c_spec_DeadEdges {h : Heap} {v : Value} {s : Sy} {p : Int} (R : Rep h v s) (hp : I64 p) : CallE Try.prog fn_spec_DeadEdges [v, .int .i64 p] h (R2 (decide (dOk s p)) (deadR s p) h) := by
  have FS := R.aSy
  have R0 := R
  obtain ⟨v1, v2, rfl, R1, R2'⟩ := Rep_Sy.1 R
  have hL := R2'.lt
  refine CallE.gen fun k hk => EN_spec_DeadEdges rfl ?_
  have hno : ¬ dOk s p → ∀ {h'}, h.le h' → ∀ {u}, HS h [ow u ([] : List Bool)] h' → k (.tuple #[u, .bool false]) h' := fun hn h' hl u H => hk _ _ ⟨_, by rw [decide_eq_false hn], by rw [deadR, if_neg hn]; exact H⟩
  simp -implicitDefEqProofs (disch := first | omega | (simp only [List.length_set, List.length_replicate, List.length_append, List.length_map, List.length_take, List.length_cons, List.length_nil]; omega)) [wrap64, FS]
  refine (c_spec_BuildGraph R0).go ?_
  rintro _ h1 ⟨u, rfl, H⟩
  have hA := H.rep.aGr
  by_cases q1 : bgOk s
  case neg =>
    simp -implicitDefEqProofs (disch := first | omega | (simp only [List.length_set, List.length_replicate, List.length_append, List.length_map, List.length_take, List.length_cons, List.length_nil]; omega)) [wrap64, q1, hA, setC]
    refine H.bls0 Bool fun o h2 H => ?_
    simp -implicitDefEqProofs (disch := first | omega | (simp only [List.length_set, List.length_replicate, List.length_append, List.length_map, List.length_take, List.length_cons, List.length_nil]; omega)) [wrap64]
    exact RetK.keep (hno (fun hh => q1 hh.1) H.base H.only)
  by_cases q2 : p < 0
  · simp -implicitDefEqProofs (disch := first | omega | (simp only [List.length_set, List.length_replicate, List.length_append, List.length_map, List.length_take, List.length_cons, List.length_nil]; omega)) [wrap64, q1, hA, setC, q2]
    refine H.bls0 Bool fun o h2 H => ?_
    simp -implicitDefEqProofs (disch := first | omega | (simp only [List.length_set, List.length_replicate, List.length_append, List.length_map, List.length_take, List.length_cons, List.length_nil]; omega)) [wrap64]
    exact RetK.keep (hno (fun hh => by have := hh.2.1; omega) H.base H.only)
  by_cases q3 : (s.procs.length : Int) ≤ p
  · simp -implicitDefEqProofs (disch := first | omega | (simp only [List.length_set, List.length_replicate, List.length_append, List.length_map, List.length_take, List.length_cons, List.length_nil]; omega)) [wrap64, q1, hA, setC, q2, q3, (R2'.on H).len]
    refine H.bls0 Bool fun o h2 H => ?_
    simp -implicitDefEqProofs (disch := first | omega | (simp only [List.length_set, List.length_replicate, List.length_append, List.length_map, List.length_take, List.length_cons, List.length_nil]; omega)) [wrap64]
    exact RetK.keep (hno (fun hh => by have := hh.2.2; omega) H.base H.only)
  obtain ⟨i, rfl⟩ : ∃ i : Nat, p = i := ⟨p.toNat, (Int.toNat_of_nonneg (by omega)).symm⟩
  have hi : i < s.procs.length := by omega
  have dok : dOk s i := ⟨q1, by omega, by omega⟩
  have hfin := bgR_fin q1
  have hs := q1.1
  have hpl := (hs.at hi).el
  obtain ⟨w, hw0, Rw⟩ := R2'.ld hi
  change hload _ (some (elp 2 v2 i)) (some 2) = some w at hw0
  obtain ⟨we, rfl, k1, R3⟩ := Rep_Pr.1 Rw
  have hdead : s.dead i (bgR s) = ddG s i (bgR s).states (bgR s).states.length (List.replicate s.procs[i].edges.length true) := by simp [Sy.dead, hi]
  simp -implicitDefEqProofs (disch := first | omega | (simp only [List.length_set, List.length_replicate, List.length_append, List.length_map, List.length_take, List.length_cons, List.length_nil]; omega)) [wrap64, q1, hA, setC, q2, q3, (R2'.on H).len]
  refine H.bls0 Bool fun o h2 H => ?_
  obtain ⟨xs, nx, rfl, H'⟩ := H.sw1.unGr
  simp -implicitDefEqProofs (disch := first | omega | (simp only [List.length_set, List.length_replicate, List.length_append, List.length_map, List.length_take, List.length_cons, List.length_nil]; omega)) [wrap64]
  refine wp_count s.procs[i].edges.length (fun m e h' => ∃ o, e = [none, some (.int .i64 i), some (.agg #[v1, v2]), none, none, some (.agg #[xs, nx]), none, some o, some (.int .i64 m), none, none, none] ∧ HS h [ow o (List.replicate m true), ow xs (bgR s).states] h') ⟨o, by simp, (H'.sw2.bk1.sw2.drop).sw1⟩ ?_
  have l1 := H'.base
  clear H H'
  rintro J m _ h3 hJ hm ⟨o, rfl, H⟩
  have hw := hload_le H.base hw0
  have hP := hld_parts hw
  simp -implicitDefEqProofs (disch := first | omega | (simp only [List.length_set, List.length_replicate, List.length_append, List.length_map, List.length_take, List.length_cons, List.length_nil]; omega)) [wrap64, R2'.X (n := 2) rfl, hP.1, hP.2.2.1, R3.len]
  refine IteW.mk (fun hlt => ?_) (fun hge => ?_)
  · have hm : m < s.procs[i].edges.length := by omega
    simp -implicitDefEqProofs (disch := first | omega | (simp only [List.length_set, List.length_replicate, List.length_append, List.length_map, List.length_take, List.length_cons, List.length_nil]; omega)) [wrap64, setC]
    refine HS.app1 (bytes := 1) H true rfl rfl rfl trivial rfl rfl (by simp; omega) (by simp; omega) fun o' h4 H => ?_
    simp -implicitDefEqProofs (disch := first | omega | (simp only [List.length_set, List.length_replicate, List.length_append, List.length_map, List.length_take, List.length_cons, List.length_nil]; omega)) [wrap64]
    exact hJ _ _ hm ⟨o', by simp, by rw [List.replicate_succ']; exact H⟩
  obtain rfl : m = s.procs[i].edges.length := by omega
  have hyl : (List.replicate s.procs[i].edges.length true).length = s.procs[i].edges.length := by simp
  generalize hE : List.replicate s.procs[i].edges.length true = y at *
  generalize hg : (bgR s).states = gs at *
  have hgok : ∀ st ∈ gs, st.Ok s := hg ▸ hfin.ok
  have hg60 : gs.length ≤ 60 := hg ▸ hfin.n60
  simp -implicitDefEqProofs (disch := first | omega | (simp only [List.length_set, List.length_replicate, List.length_append, List.length_map, List.length_take, List.length_cons, List.length_nil]; omega)) [wrap64]
  refine wp_count gs.length (fun n e h' => e = [none, some (.int .i64 i), some (.agg #[v1, v2]), none, none, some (.agg #[xs, nx]), none, some o, none, some (.int .i64 n), none, none] ∧ HS h [ow o (ddG s i gs n y), ow xs gs] h') ⟨by simp, by rw [ddG_zero]; exact H⟩ ?_
  clear H
  rintro J1 n _ h3 hJ1 hn ⟨rfl, H⟩
  simp -implicitDefEqProofs (disch := first | omega | (simp only [List.length_set, List.length_replicate, List.length_append, List.length_map, List.length_take, List.length_cons, List.length_nil]; omega)) [wrap64, H.sw1.rep.len]
  refine IteW.mk (fun hlt1 => ?_) (fun hge1 => ?_)
  · have hn : n < gs.length := by omega
    have hgl := ddG_len (s := s) (p := i) (l := y) n (show n ≤ gs.length by omega)
    have hgs := ddG_succ (s := s) (p := i) (l := y) hn
    have hxo := hgok _ (List.getElem_mem hn)
    generalize ddG s i gs n y = D at *
    obtain ⟨x, hx⟩ : ∃ x, x = gs[n] := ⟨_, rfl⟩
    rw [← hx] at hxo hgs
    obtain ⟨u, hu, Ru⟩ := H.sw1.rep.ld hn
    change hload _ (some (elp 2 xs n)) (some 2) = some u at hu
    rw [← hx] at Ru
    have hel := enb_len' (st := x) hs
    simp -implicitDefEqProofs (disch := first | omega | (simp only [List.length_set, List.length_replicate, List.length_append, List.length_map, List.length_take, List.length_cons, List.length_nil]; omega)) [wrap64, H.sw1.rep.X (n := 2) rfl, hu, Ru.aSta, FS, setC]
    refine (c_l3Steps hs hxo (R0.on H) Ru).go ?_
    intro el h4 G
    have H := G.app H
    simp -implicitDefEqProofs (disch := first | omega | (simp only [List.length_set, List.length_replicate, List.length_append, List.length_map, List.length_take, List.length_cons, List.length_nil]; omega)) [wrap64]
    refine wp_count (enb s x).length (fun m e h' => e = [none, some (.int .i64 i), some (.agg #[v1, v2]), none, none, some (.agg #[xs, nx]), none, some o, none, some (.int .i64 n), some el, some (.int .i64 m)] ∧ HS h [ow el (enb s x), ow o (ddF s i x m D), ow xs gs] h') ⟨by simp, by rw [ddF_zero]; exact H⟩ ?_
    clear H G Ru hu
    rintro J2 m _ h5 hJ2 hm ⟨rfl, H⟩
    simp -implicitDefEqProofs (disch := first | omega | (simp only [List.length_set, List.length_replicate, List.length_append, List.length_map, List.length_take, List.length_cons, List.length_nil]; omega)) [wrap64, H.rep.len]
    refine IteW.mk (fun hlt2 => ?_) (fun hge2 => ?_)
    · have hm : m < (enb s x).length := by omega
      have hfl := ddF_len (s := s) (p := i) (st := x) (l := D) m (by omega)
      have hfs := ddF_succ (p := i) (l := D) hm
      have hin := enb_in (List.getElem_mem hm)
      obtain ⟨t, ht⟩ : ∃ t, t = (enb s x)[m] := ⟨_, rfl⟩
      rw [← ht] at hfs hin
      generalize ddF s i x m D = F at *
      obtain ⟨r1, r2⟩ := dd_rng hin hi
      have hFl : F.length = s.procs[i].edges.length := by omega
      by_cases a1 : t.proc = i
      · obtain ⟨e, he⟩ : ∃ e : Nat, t.edge = e := ⟨t.edge.toNat, (Int.toNat_of_nonneg (r1 a1).1).symm⟩
        have hel := (r1 a1).2
        simp -implicitDefEqProofs (disch := first | omega | (simp only [List.length_set, List.length_replicate, List.length_append, List.length_map, List.length_take, List.length_cons, List.length_nil]; omega)) [wrap64, H.rep.xStp, H.rep.fStp, ← ht, Stp.v, setC, a1, he, H.sw1.rep.B]
        refine H.sw1.storeF false (i := e) (by omega) rfl rfl trivial rfl fun h6 H => ?_
        simp -implicitDefEqProofs (disch := first | omega | (simp only [List.length_set, List.length_replicate, List.length_append, List.length_map, List.length_take, List.length_cons, List.length_nil]; omega)) [wrap64]
        by_cases a2 : t.partner = i
        · obtain ⟨e', he'⟩ : ∃ e' : Nat, t.pedge = e' := ⟨t.pedge.toNat, (Int.toNat_of_nonneg (r2 a2).1).symm⟩
          have hel' := (r2 a2).2
          simp -implicitDefEqProofs (disch := first | omega | (simp only [List.length_set, List.length_replicate, List.length_append, List.length_map, List.length_take, List.length_cons, List.length_nil]; omega)) [wrap64, H.sw1.rep.xStp, H.sw1.rep.fStp, ← ht, a2, he', H.rep.B]
          refine HS.storeF H false (i := e') (by first | omega | (simp; omega)) rfl rfl trivial rfl fun h7 H => ?_
          simp -implicitDefEqProofs (disch := first | omega | (simp only [List.length_set, List.length_replicate, List.length_append, List.length_map, List.length_take, List.length_cons, List.length_nil]; omega)) [wrap64]
          exact hJ2 _ _ hm ⟨by simp, by rw [hfs, ddS, if_pos a2, if_pos a1, he, Int.toNat_natCast, he', Int.toNat_natCast]; exact H.sw1⟩
        · simp -implicitDefEqProofs (disch := first | omega | (simp only [List.length_set, List.length_replicate, List.length_append, List.length_map, List.length_take, List.length_cons, List.length_nil]; omega)) [wrap64, H.sw1.rep.xStp, H.sw1.rep.fStp, ← ht, a2]
          exact hJ2 _ _ hm ⟨by simp, by rw [hfs, ddS, if_neg a2, if_pos a1, he, Int.toNat_natCast]; exact H.sw1⟩
      · simp -implicitDefEqProofs (disch := first | omega | (simp only [List.length_set, List.length_replicate, List.length_append, List.length_map, List.length_take, List.length_cons, List.length_nil]; omega)) [wrap64, H.rep.xStp, H.rep.fStp, ← ht, Stp.v, setC, a1]
        by_cases a2 : t.partner = i
        · obtain ⟨e', he'⟩ : ∃ e' : Nat, t.pedge = e' := ⟨t.pedge.toNat, (Int.toNat_of_nonneg (r2 a2).1).symm⟩
          have hel' := (r2 a2).2
          simp -implicitDefEqProofs (disch := first | omega | (simp only [List.length_set, List.length_replicate, List.length_append, List.length_map, List.length_take, List.length_cons, List.length_nil]; omega)) [wrap64, H.rep.xStp, H.rep.fStp, ← ht, a2, he', H.sw1.rep.B]
          refine HS.storeF H.sw1 false (i := e') (by first | omega | (simp; omega)) rfl rfl trivial rfl fun h7 H => ?_
          simp -implicitDefEqProofs (disch := first | omega | (simp only [List.length_set, List.length_replicate, List.length_append, List.length_map, List.length_take, List.length_cons, List.length_nil]; omega)) [wrap64]
          exact hJ2 _ _ hm ⟨by simp, by rw [hfs, ddS, if_pos a2, if_neg a1, he', Int.toNat_natCast]; exact H.sw1⟩
        · simp -implicitDefEqProofs (disch := first | omega | (simp only [List.length_set, List.length_replicate, List.length_append, List.length_map, List.length_take, List.length_cons, List.length_nil]; omega)) [wrap64, H.rep.xStp, H.rep.fStp, ← ht, a2]
          exact hJ2 _ _ hm ⟨by simp, by rw [hfs, ddS, if_neg a2, if_neg a1]; exact H⟩
    obtain rfl : m = (enb s x).length := by omega
    simp -implicitDefEqProofs (disch := first | omega | (simp only [List.length_set, List.length_replicate, List.length_append, List.length_map, List.length_take, List.length_cons, List.length_nil]; omega)) [wrap64]
    exact hJ1 _ _ hn ⟨by simp, by rw [hgs]; exact H.drop⟩
  obtain rfl : n = gs.length := by omega
  simp -implicitDefEqProofs (disch := first | omega | (simp only [List.length_set, List.length_replicate, List.length_append, List.length_map, List.length_take, List.length_cons, List.length_nil]; omega)) [wrap64]
  exact RetK.keep (hk _ _ ⟨_, by rw [decide_eq_true dok], by rw [deadR, if_pos dok, hdead]; exact H.only⟩)
end Go.Proofs.Ytmpgkijhhocfcaa

/-
  Invariants and conjunctions; dead edges: in plain Lean.
-/
namespace Go.Proofs.Ytmpgkijhhocfcaa
open Go
set_option linter.all false
set_option linter.unusedVariables false
set_option linter.unusedSimpArgs false
set_option linter.defProp false
set_option maxRecDepth 1000000

theorem set_keep {l : List Bool} {i k : Nat} (h : l.getD i false = false) : (l.set k false).getD i false = false := by
  rw [List.getD_eq_getElem?_getD, List.getElem?_set]
  split
  · split <;> rfl
  · rw [← List.getD_eq_getElem?_getD]; exact h
theorem set_hit {l : List Bool} {k : Nat} : (l.set k false).getD k false = false := by
  rw [List.getD_eq_getElem?_getD, List.getElem?_set, if_pos rfl]
  split <;> rfl
theorem dd_keep {p : Int} {l : List Bool} {t : Stp} {i : Nat} (h : l.getD i false = false) : (ddS p l t).getD i false = false := by
  unfold ddS
  split <;> split
  · exact set_keep (set_keep h)
  · exact set_keep h
  · exact set_keep h
  · exact h
theorem dd_hit {p : Int} {l : List Bool} {t : Stp} (h : t.proc = p) : (ddS p l t).getD t.edge.toNat false = false := by
  unfold ddS
  rw [if_pos h]
  split
  · exact set_keep set_hit
  · exact set_hit
theorem dd_hit2 {p : Int} {l : List Bool} {t : Stp} (h : t.partner = p) : (ddS p l t).getD t.pedge.toNat false = false := by
  unfold ddS
  rw [if_pos h]
  exact set_hit
theorem foldS {α β : Type} {f : β → α → β} {P : β → Prop} : ∀ {l : List α} {b : β}, (∀ b a, P b → P (f b a)) → P b → P (l.foldl f b)
  | [], _, _, h => h
  | a :: l, b, hk, h => foldS (l := l) hk (hk b a h)
theorem foldM {α β : Type} {f : β → α → β} {P : β → Prop} : ∀ {l : List α} {b : β} {x : α}, x ∈ l → (∀ b a, P b → P (f b a)) → (∀ b, P (f b x)) → P (l.foldl f b)
  | [], _, _, hx, _, _ => by simp at hx
  | a :: l, b, x, hx, hk, hh => by
    rcases List.mem_cons.1 hx with rfl | hx
    · exact foldS (l := l) hk (hh b)
    · exact foldM (l := l) hx hk hh
theorem dead_hit {s : Sy} {p : Int} {g : Gr} {st : Sta} {t : Stp} (hst : st ∈ g.states) (ht : t ∈ enb s st) : (t.proc = p → (s.dead p g).getD t.edge.toNat false = false) ∧ (t.partner = p → (s.dead p g).getD t.pedge.toNat false = false) := by
  unfold Sy.dead ddG
  rw [List.take_of_length_le (Nat.le_refl _)]
  constructor
  · intro h
    refine foldM (P := fun (l : List Bool) => l.getD t.edge.toNat false = false) hst (fun l x hl => ?_) (fun l => ?_)
    · unfold ddF
      exact foldS (P := fun (l : List Bool) => l.getD t.edge.toNat false = false) (fun b a hb => dd_keep hb) hl
    · unfold ddF
      rw [List.take_of_length_le (Nat.le_refl _)]
      exact foldM (P := fun (l : List Bool) => l.getD t.edge.toNat false = false) ht (fun b a hb => dd_keep hb) (fun b => dd_hit h)
  · intro h
    refine foldM (P := fun (l : List Bool) => l.getD t.pedge.toNat false = false) hst (fun l x hl => ?_) (fun l => ?_)
    · unfold ddF
      exact foldS (P := fun (l : List Bool) => l.getD t.pedge.toNat false = false) (fun b a hb => dd_keep hb) hl
    · unfold ddF
      rw [List.take_of_length_le (Nat.le_refl _)]
      exact foldM (P := fun (l : List Bool) => l.getD t.pedge.toNat false = false) ht (fun b a hb => dd_keep hb) (fun b => dd_hit2 h)
theorem dead_len {s : Sy} {g : Gr} {i : Nat} (hi : i < s.procs.length) : (s.dead i g).length = s.procs[i].edges.length := by
  unfold Sy.dead
  rw [ddG_len _ (Nat.le_refl _)]
  simp [hi]
end Go.Proofs.Ytmpgkijhhocfcaa

/-
  Relevance is closed: in plain Lean.
-/
namespace Go.Proofs.Ytmpgkijhhocfcaa
open Go
set_option linter.all false
set_option linter.unusedVariables false
set_option linter.unusedSimpArgs false
set_option linter.defProp false
set_option maxRecDepth 1000000

def LeB (M M' : List Bool) : Prop := M.length = M'.length ∧ ∀ i : Nat, M.getD i false = true → M'.getD i false = true
theorem LeB.refl {M : List Bool} : LeB M M := ⟨rfl, fun _ h => h⟩
theorem LeB.trans {a b c : List Bool} (h : LeB a b) (h' : LeB b c) : LeB a c := ⟨h.1.trans h'.1, fun i hi => h'.2 i (h.2 i hi)⟩
theorem LeB.set {M : List Bool} {k : Nat} : LeB M (M.set k true) := by
  refine ⟨by simp, fun i hi => ?_⟩
  rw [List.getD_eq_getElem?_getD, List.getElem?_set]
  split
  · rename_i e
    subst e
    by_cases hk : k < M.length
    · simp [hk]
    · rw [List.getD_eq_getElem?_getD, List.getElem?_eq_none (by omega)] at hi; simp at hi
  · rw [← List.getD_eq_getElem?_getD]; exact hi
section
variable {α : Type} {f : List Bool → α → List Bool}
end
def occB (x : Exq) (v : Nat) : Bool := (x.mkv [false, false, false]).getD v false
theorem bool3 {M : List Bool} (h : M.length = 3) : ∃ a b c, M = [a, b, c] := by
  match M, h with
  | [a, b, c], _ => exact ⟨a, b, c, rfl⟩
theorem LeB.cnt {M M' : List Bool} (h : LeB M M') (hM : M.length = 3) (hne : M ≠ M') : M.count true < M'.count true := by
  obtain ⟨a, b, c, rfl⟩ := bool3 hM
  obtain ⟨a', b', c', rfl⟩ := bool3 (by rw [← h.1]; rfl)
  have h0 := h.2 0
  have h1 := h.2 1
  have h2 := h.2 2
  simp at h0 h1 h2
  clear h hM
  revert a b c a' b' c'
  decide
end Go.Proofs.Ytmpgkijhhocfcaa

/-
  Arguments of laws: labels that are drawn.
-/
namespace Go.Proofs.Ytmpgkijhhocfcaa
open Go
set_option linter.all false
set_option linter.unusedVariables false
set_option linter.unusedSimpArgs false
set_option linter.defProp false
set_option maxRecDepth 1000000

end Go.Proofs.Ytmpgkijhhocfcaa

/-
  Arguments of laws: systems with labels.
-/
namespace Go.Proofs.Ytmpgkijhhocfcaa
open Go
set_option linter.all false
set_option linter.unusedVariables false
set_option linter.unusedSimpArgs false
set_option linter.defProp false
set_option maxRecDepth 1000000

end Go.Proofs.Ytmpgkijhhocfcaa

/-
  Arguments of laws: systems with labels, drawn from bytes.
-/
namespace Go.Proofs.Ytmpgkijhhocfcaa
open Go
set_option linter.all false
set_option linter.unusedVariables false
set_option linter.unusedSimpArgs false
set_option linter.defProp false
set_option maxRecDepth 1000000

/-- two lists as a function's results -/
def RD2 (h : Heap) : Value → Heap → Prop := fun u h' => ∃ (u1 u2 : Value) (s : Sy) (L : List Exq), u = .tuple #[u1, u2] ∧ HS h [ow u1 s, ow u2 L] h' ∧ L.length ≤ 3
end Go.Proofs.Ytmpgkijhhocfcaa

/-
  What variables occur in expressions: by the program; equal lists of truth values.
-/
namespace Go.Proofs.Ytmpgkijhhocfcaa
open Go
set_option linter.all false
set_option linter.unusedVariables false
set_option linter.unusedSimpArgs false
set_option linter.defProp false
set_option maxRecDepth 1000000

theorem c_wpBools {h : Heap} {v w : Value} {a b : List Bool} (Ra : Rep h v a) (Rb : Rep h w b) : CallE Try.prog fn_laws_wpBools [v, w] h (fun u h' => h' = h ∧ u = .bool (decide (a = b))) := by
  have hL := Ra.lt
  refine CallE.gen fun k hk => EN_laws_wpBools rfl ?_
  by_cases hl : (a.length : Int) = b.length
  case neg =>
    simp -implicitDefEqProofs (disch := first | omega | (simp only [List.length_set, List.length_replicate, List.length_append, List.length_map, List.length_take, List.length_cons, List.length_nil]; omega)) [wrap64, Ra.len, Rb.len, hl]
    exact RetK.keep (hk _ _ ⟨rfl, by congr 1; rw [eq_comm, decide_eq_false_iff_not]; intro e; subst e; exact hl rfl⟩)
  simp -implicitDefEqProofs (disch := first | omega | (simp only [List.length_set, List.length_replicate, List.length_append, List.length_map, List.length_take, List.length_cons, List.length_nil]; omega)) [wrap64, Ra.len, Rb.len, hl]
  refine wp_count a.length (fun i e h' => e = [some v, some w, none, some (.int .i64 i)] ∧ h' = h ∧ a.take i = b.take i) ⟨by simp, rfl, rfl⟩ ?_
  rintro J i _ h hJ hi ⟨rfl, rfl, hq⟩
  simp -implicitDefEqProofs (disch := first | omega | (simp only [List.length_set, List.length_replicate, List.length_append, List.length_map, List.length_take, List.length_cons, List.length_nil]; omega)) [wrap64, Ra.len]
  refine IteW.mk (fun hlt => ?_) (fun hge => ?_)
  · have hlx : i < a.length := by omega
    have hly : i < b.length := by omega
    by_cases he : a[i] = b[i]
    · simp -implicitDefEqProofs (disch := first | omega | (simp only [List.length_set, List.length_replicate, List.length_append, List.length_map, List.length_take, List.length_cons, List.length_nil]; omega)) [wrap64, Ra.B, Rb.B, he]
      exact hJ _ _ hlx ⟨rfl, rfl, take_step hq hlx hly he⟩
    · simp -implicitDefEqProofs (disch := first | omega | (simp only [List.length_set, List.length_replicate, List.length_append, List.length_map, List.length_take, List.length_cons, List.length_nil]; omega)) [wrap64, Ra.B, Rb.B, he]
      exact RetK.keep (hk _ _ ⟨rfl, by congr 1; rw [eq_comm, decide_eq_false_iff_not]; intro e; subst e; exact he rfl⟩)
  · simp -implicitDefEqProofs (disch := first | omega | (simp only [List.length_set, List.length_replicate, List.length_append, List.length_map, List.length_take, List.length_cons, List.length_nil]; omega)) [wrap64]
    rw [List.take_of_length_le (by omega), List.take_of_length_le (by omega)] at hq
    exact RetK.keep (hk _ _ ⟨rfl, by simp [hq]⟩)
end Go.Proofs.Ytmpgkijhhocfcaa

/-
  The law: dead edges are never taken.
-/
namespace Go.Proofs.Ytmpgkijhhocfcaa
open Go
set_option linter.all false
set_option linter.unusedVariables false
set_option linter.unusedSimpArgs false
set_option linter.defProp false
set_option maxRecDepth 1000000

set_option maxHeartbeats 2000000 in
theorem c_FnDeadEdges {h : Heap} {v : Value} {l : List (BitVec 8)} (R : Rep h v l) : CallE Try.prog fn_laws_FnDeadEdges [v] h (fun u h' => h.le h' ∧ u = .bool true) := by
  refine CallE.gen fun k hk => EN_laws_FnDeadEdges rfl ?_
  simp -implicitDefEqProofs (disch := first | omega | (simp only [List.length_set, List.length_replicate, List.length_append, List.length_map, List.length_take, List.length_cons, List.length_nil]; omega)) [wrap64, R.len]
  refine IteW.mk (fun hlt => ?_) (fun hge => ?_)
  · simp -implicitDefEqProofs (disch := first | omega | (simp only [List.length_set, List.length_replicate, List.length_append, List.length_map, List.length_take, List.length_cons, List.length_nil]; omega)) [wrap64]
    exact RetK.keep (hk _ _ ⟨Heap.le.refl _, rfl⟩)
  simp -implicitDefEqProofs (disch := first | omega | (simp only [List.length_set, List.length_replicate, List.length_append, List.length_map, List.length_take, List.length_cons, List.length_nil]; omega)) [wrap64]
  refine (c_DrawDeadEdges R).go ?_
  rintro _ h1 ⟨u1, s, p, rfl, okp, H⟩
  have FS := H.rep.aSy
  simp -implicitDefEqProofs (disch := first | omega | (simp only [List.length_set, List.length_replicate, List.length_append, List.length_map, List.length_take, List.length_cons, List.length_nil]; omega)) [wrap64, FS, setC]
  refine (c_DeadEdges H.rep okp).go ?_
  rintro _ h2 ⟨a, rfl, G⟩
  have H := G.app H
  simp -implicitDefEqProofs (disch := first | omega | (simp only [List.length_set, List.length_replicate, List.length_append, List.length_map, List.length_take, List.length_cons, List.length_nil]; omega)) [wrap64, FS]
  refine (c_spec_DeadEdges H.sw1.rep okp).go ?_
  rintro _ h3 ⟨b, rfl, G⟩
  have H := G.app H
  simp -implicitDefEqProofs (disch := first | omega | (simp only [List.length_set, List.length_replicate, List.length_append, List.length_map, List.length_take, List.length_cons, List.length_nil]; omega)) [wrap64]
  refine (c_wpBools H.sw1.rep H.rep).go ?_
  rintro _ h3 ⟨rfl, rfl⟩
  by_cases q : dOk s p
  case neg =>
    simp -implicitDefEqProofs (disch := first | omega | (simp only [List.length_set, List.length_replicate, List.length_append, List.length_map, List.length_take, List.length_cons, List.length_nil]; omega)) [wrap64, q]
    refine (c_wpBools H.sw1.rep H.rep).go ?_
    rintro _ h3 ⟨rfl, rfl⟩
    simp -implicitDefEqProofs (disch := first | omega | (simp only [List.length_set, List.length_replicate, List.length_append, List.length_map, List.length_take, List.length_cons, List.length_nil]; omega)) [wrap64]
    exact RetK.keep (hk _ _ ⟨H.base, rfl⟩)
  have hs := q.1.1
  have hbg := q.1
  have hfin := bgR_fin q.1
  obtain ⟨i, rfl⟩ : ∃ i : Nat, p = i := ⟨p.toNat, (Int.toNat_of_nonneg q.2.1).symm⟩
  have hi : i < s.procs.length := by have := q.2.2; omega
  have hdl := dead_len (g := bgR s) hi
  rw [deadR, if_pos q] at H
  simp -implicitDefEqProofs (disch := first | omega | (simp only [List.length_set, List.length_replicate, List.length_append, List.length_map, List.length_take, List.length_cons, List.length_nil]; omega)) [wrap64, q, FS]
  refine (c_BuildGraph H.sw2.rep).go ?_
  rintro _ h4 ⟨g, rfl, G⟩
  have H := G.app H
  have hA := H.rep.aGr
  have Rg := H.rep
  have Ra := H.sw2.rep
  have Rs := H.sw3.rep
  have l4 := H.base
  clear H G
  simp -implicitDefEqProofs (disch := first | omega | (simp only [List.length_set, List.length_replicate, List.length_append, List.length_map, List.length_take, List.length_cons, List.length_nil]; omega)) [wrap64, hbg, hA, setC]
  obtain ⟨xs, nx, rfl, X1, X2⟩ := Rep_Gr.1 Rg
  have h60 := hfin.n60
  obtain ⟨D, hD⟩ : ∃ D, D = s.dead i (bgR s) := ⟨_, rfl⟩
  rw [← hD] at Ra hdl
  refine wp_count (bgR s).states.length (fun n e h' => e = [none, none, some u1, some (.int .i64 i), some a, none, none, none, some (.agg #[xs, nx]), some (.bool true), some (.int .i64 n), none, none] ∧ h4.le h') ⟨by simp, Heap.le.refl _⟩ ?_
  rintro J n _ h5 hJ hn ⟨rfl, l5⟩
  simp -implicitDefEqProofs (disch := first | omega | (simp only [List.length_set, List.length_replicate, List.length_append, List.length_map, List.length_take, List.length_cons, List.length_nil]; omega)) [wrap64, (X1.le l5).len]
  refine IteW.mk (fun hlt1 => ?_) (fun hge1 => ?_)
  · have hn : n < (bgR s).states.length := by omega
    have hst := hfin.ok _ (List.getElem_mem hn)
    have hmem := List.getElem_mem hn
    have hdd : ∀ t ∈ enb s (bgR s).states[n], (t.proc = i → D.getD t.edge.toNat false = false) ∧ (t.partner = i → D.getD t.pedge.toNat false = false) := fun t ht => by rw [hD]; exact dead_hit hmem ht
    obtain ⟨u, hu, Ru⟩ := (X1.le l5).ld hn
    change hload _ (some (elp 2 xs n)) (some 2) = some u at hu
    generalize (bgR s).states[n] = x at *
    have hel := enb_len' (st := x) hs
    have hens : ens s x = enb s x := by rw [ens, if_pos ⟨hs, hst⟩]
    simp -implicitDefEqProofs (disch := first | omega | (simp only [List.length_set, List.length_replicate, List.length_append, List.length_map, List.length_take, List.length_cons, List.length_nil]; omega)) [wrap64, (X1.le l5).X (n := 2) rfl, hu, Ru.aSta, FS]
    refine (c_EnabledSteps (Rs.le l5) Ru).go ?_
    intro el h6 H
    rw [hens] at H
    have Rl := H.rep
    have l6 := l5.trans H.base
    clear H
    simp -implicitDefEqProofs (disch := first | omega | (simp only [List.length_set, List.length_replicate, List.length_append, List.length_map, List.length_take, List.length_cons, List.length_nil]; omega)) [wrap64]
    refine wp_count (enb s x).length (fun m e h' => e = [none, none, some u1, some (.int .i64 i), some a, none, none, none, some (.agg #[xs, nx]), some (.bool true), some (.int .i64 n), some el, some (.int .i64 m)] ∧ h' = h6) ⟨by simp, rfl⟩ ?_
    rintro J2 m _ h7 hJ2 hm ⟨rfl, rfl⟩
    simp -implicitDefEqProofs (disch := first | omega | (simp only [List.length_set, List.length_replicate, List.length_append, List.length_map, List.length_take, List.length_cons, List.length_nil]; omega)) [wrap64, Rl.len]
    refine IteW.mk (fun hlt2 => ?_) (fun hge2 => ?_)
    · have hm : m < (enb s x).length := by omega
      have hmm := List.getElem_mem hm
      have hin := enb_in hmm
      obtain ⟨h8, h9⟩ := hdd _ hmm
      obtain ⟨r1, r2⟩ := dd_rng hin hi
      obtain ⟨t, ht⟩ : ∃ t, t = (enb s x)[m] := ⟨_, rfl⟩
      rw [← ht] at h8 h9 r1 r2
      have RaB := (Ra.le l6).B
      by_cases c1 : t.proc = i
      · obtain ⟨e1, he1⟩ : ∃ e1 : Nat, t.edge = e1 := ⟨t.edge.toNat, (Int.toNat_of_nonneg (r1 c1).1).symm⟩
        have hl1 := (r1 c1).2
        have hl1' : e1 < D.length := by omega
        have hz1 : D[e1] = false := by have := h8 c1; rw [he1, Int.toNat_natCast] at this; simpa [hl1'] using this
        by_cases c2 : t.partner = i
        · obtain ⟨e2, he2⟩ : ∃ e2 : Nat, t.pedge = e2 := ⟨t.pedge.toNat, (Int.toNat_of_nonneg (r2 c2).1).symm⟩
          have hl2 := (r2 c2).2
          have hl2' : e2 < D.length := by omega
          have hz2 : D[e2] = false := by have := h9 c2; rw [he2, Int.toNat_natCast] at this; simpa [hl2'] using this
          simp -implicitDefEqProofs (disch := first | omega | (simp only [List.length_set, List.length_replicate, List.length_append, List.length_map, List.length_take, List.length_cons, List.length_nil]; omega)) [wrap64, Rl.xStp, Rl.fStp, ← ht, c1, he1, RaB, hz1, c2, he2, hz2]
          exact hJ2 _ _ hm ⟨by simp, rfl⟩
        · simp -implicitDefEqProofs (disch := first | omega | (simp only [List.length_set, List.length_replicate, List.length_append, List.length_map, List.length_take, List.length_cons, List.length_nil]; omega)) [wrap64, Rl.xStp, Rl.fStp, ← ht, c1, he1, RaB, hz1, c2]
          exact hJ2 _ _ hm ⟨by simp, rfl⟩
      · by_cases c2 : t.partner = i
        · obtain ⟨e2, he2⟩ : ∃ e2 : Nat, t.pedge = e2 := ⟨t.pedge.toNat, (Int.toNat_of_nonneg (r2 c2).1).symm⟩
          have hl2 := (r2 c2).2
          have hl2' : e2 < D.length := by omega
          have hz2 : D[e2] = false := by have := h9 c2; rw [he2, Int.toNat_natCast] at this; simpa [hl2'] using this
          simp -implicitDefEqProofs (disch := first | omega | (simp only [List.length_set, List.length_replicate, List.length_append, List.length_map, List.length_take, List.length_cons, List.length_nil]; omega)) [wrap64, Rl.xStp, Rl.fStp, ← ht, c1, RaB, c2, he2, hz2]
          exact hJ2 _ _ hm ⟨by simp, rfl⟩
        · simp -implicitDefEqProofs (disch := first | omega | (simp only [List.length_set, List.length_replicate, List.length_append, List.length_map, List.length_take, List.length_cons, List.length_nil]; omega)) [wrap64, Rl.xStp, Rl.fStp, ← ht, c1, c2]
          exact hJ2 _ _ hm ⟨by simp, rfl⟩
    simp -implicitDefEqProofs (disch := first | omega | (simp only [List.length_set, List.length_replicate, List.length_append, List.length_map, List.length_take, List.length_cons, List.length_nil]; omega)) [wrap64]
    exact hJ _ _ hn ⟨by simp, l6⟩
  obtain ⟨s1, s2, rfl, S1, S2⟩ := Rep_Sy.1 (Rs.le l5)
  obtain ⟨u, hu, Ru⟩ := S2.ld hi
  change hload _ (some (elp 2 s2 i)) (some 2) = some u at hu
  obtain ⟨we, rfl, kl, R3⟩ := Rep_Pr.1 Ru
  have hP := hld_parts (cs := [.int .i64 s.procs[i].locs, we]) hu
  simp -implicitDefEqProofs (disch := first | omega | (simp only [List.length_set, List.length_replicate, List.length_append, List.length_map, List.length_take, List.length_cons, List.length_nil]; omega)) [wrap64, (Ra.le l5).len, S2.X (n := 2) rfl, hP.1, hP.2.2.1, R3.len, hdl]
  exact RetK.keep (hk _ _ ⟨l4.trans l5, rfl⟩)
end Go.Proofs.Ytmpgkijhhocfcaa
