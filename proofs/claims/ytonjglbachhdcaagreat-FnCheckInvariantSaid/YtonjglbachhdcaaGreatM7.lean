/-
  Texts of this proof, one behind the other.
-/
import Derived.Test.YtonjglbachhdcaaGreatM6
/-
  Steps: which are enabled, by the program and by the reference.
-/
namespace Go.Proofs.YtonjglbachhdcaaGreat
open Go
set_option linter.all false
set_option linter.unusedVariables false
set_option linter.unusedSimpArgs false
set_option linter.defProp false
set_option maxRecDepth 1000000

/-- where an edge of a system lies -/
theorem Rep.edge {h : Heap} {v : Value} {l : List Pr} (R : Rep h v l) {i k : Nat} (hi : i < l.length) (hk : k < l[i].edges.length) :
    ∃ we w1 w2, hload h (some (elp 2 v i)) (some 2) = some (.agg ([.int .i64 l[i].locs, we] : List Value).toArray) ∧ Rep h we l[i].edges ∧ hload h (some (elp 10 we k)) (some 10) = some (.agg (l[i].edges[k].cs w1 w2).toArray) ∧
      l[i].edges[k].ok ∧ Rep h w1 l[i].edges[k].guard.kids ∧ Rep h w2 l[i].edges[k].value.kids := by
  obtain ⟨u, hu, Ru⟩ := R.ld hi
  obtain ⟨we, rfl, k1, R3⟩ := Rep_Pr.1 Ru
  obtain ⟨u2, hu2, Ru2⟩ := R3.ld hk
  obtain ⟨w1, w2, rfl, ok, G1, G2⟩ := Rep_Ed.1 Ru2
  exact ⟨we, w1, w2, hu, R3, hu2, ok, G1, G2⟩

theorem c_ready {h : Heap} {v w : Value} {s : Sy} {st : Sta} (hs : s.Ok) (ht : st.Ok s) (R : Rep h v s) (Rt : Rep h w st) {i m : Nat} (hi : i < s.procs.length) (hm : m < s.procs[i].edges.length) :
    CallE Tryz.prog fn_impl_System_ready [v, w, .int .i64 i, .int .i64 m] h (fun u h' => h' = h ∧ u = .bool (s.procs[i].edges[m].rdy st i)) := by
  obtain ⟨v1, v2, rfl, R1, R2'⟩ := Rep_Sy.1 R
  obtain ⟨t1, t2, rfl, T1, T2⟩ := Rep_Sta.1 Rt
  obtain ⟨we, w1, w2, hu, R3, hu2, ok, G1, G2⟩ := R2'.edge hi hm
  have hP := hld_parts hu
  have heo := (hs.at hi).at hm
  have hil : i < st.locs.length := by rw [ht.len]; exact hi
  have hF3 := G1.one
  have hF4 := G2.one
  refine CallE.gen fun k hk => EN_impl_System_ready rfl ?_
  by_cases a1 : st.locs[i] = s.procs[i].edges[m].frm
  case neg =>
    simp -implicitDefEqProofs (disch := first | omega | (simp only [List.length_set, List.length_replicate, List.length_append, List.length_map, List.length_take, List.length_cons, List.length_nil]; omega)) [wrap64, R2'.X (n := 2) rfl, hP.1, hP.2.2.1, R3.X (n := 10) rfl, hu2, Ed.cs, setC, hF3, hF4, T1.I, a1]
    exact RetK.keep (hk _ _ ⟨rfl, by simp [Ed.rdy, hil, a1]⟩)
  simp -implicitDefEqProofs (disch := first | omega | (simp only [List.length_set, List.length_replicate, List.length_append, List.length_map, List.length_take, List.length_cons, List.length_nil]; omega)) [wrap64, R2'.X (n := 2) rfl, hP.1, hP.2.2.1, R3.X (n := 10) rfl, hu2, Ed.cs, setC, hF3, hF4, T1.I, a1]
  refine (c_eval _ ht.vs heo.gd.1 (Rep.gd (w2 := w2) ok G1) T2).go ?_
  rintro _ h ⟨rfl, rfl⟩
  simp -implicitDefEqProofs (disch := first | omega | (simp only [List.length_set, List.length_replicate, List.length_append, List.length_map, List.length_take, List.length_cons, List.length_nil]; omega)) [wrap64]
  exact RetK.keep (hk _ _ ⟨rfl, by simp [Ed.rdy, hil, a1]⟩)
theorem c_l3Ready {h : Heap} {v w : Value} {s : Sy} {st : Sta} (hs : s.Ok) (ht : st.Ok s) (R : Rep h v s) (Rt : Rep h w st) {i m : Nat} (hi : i < s.procs.length) (hm : m < s.procs[i].edges.length) :
    CallE Tryz.prog fn_spec_l3Ready [v, w, .int .i64 i, .int .i64 m] h (fun u h' => h' = h ∧ u = .bool (s.procs[i].edges[m].rdy st i)) := by
  obtain ⟨v1, v2, rfl, R1, R2'⟩ := Rep_Sy.1 R
  obtain ⟨t1, t2, rfl, T1, T2⟩ := Rep_Sta.1 Rt
  obtain ⟨we, w1, w2, hu, R3, hu2, ok, G1, G2⟩ := R2'.edge hi hm
  have hP := hld_parts hu
  have heo := (hs.at hi).at hm
  have hil : i < st.locs.length := by rw [ht.len]; exact hi
  have hF3 := G1.one
  have hF4 := G2.one
  refine CallE.gen fun k hk => EN_spec_l3Ready rfl ?_
  by_cases a1 : s.procs[i].edges[m].frm = st.locs[i]
  case neg =>
    simp -implicitDefEqProofs (disch := first | omega | (simp only [List.length_set, List.length_replicate, List.length_append, List.length_map, List.length_take, List.length_cons, List.length_nil]; omega)) [wrap64, R2'.X (n := 2) rfl, hP.1, hP.2.2.1, R3.X (n := 10) rfl, hu2, Ed.cs, setC, hF3, hF4, T1.I, a1]
    exact RetK.keep (hk _ _ ⟨rfl, by simp [Ed.rdy, hil, Ne.symm a1]⟩)
  simp -implicitDefEqProofs (disch := first | omega | (simp only [List.length_set, List.length_replicate, List.length_append, List.length_map, List.length_take, List.length_cons, List.length_nil]; omega)) [wrap64, R2'.X (n := 2) rfl, hP.1, hP.2.2.1, R3.X (n := 10) rfl, hu2, Ed.cs, setC, hF3, hF4, T1.I, a1]
  refine (c_l1Eval _ ht.vs heo.gd.1 (Rep.gd (w2 := w2) ok G1) T2).go ?_
  rintro _ h ⟨rfl, rfl⟩
  simp -implicitDefEqProofs (disch := first | omega | (simp only [List.length_set, List.length_replicate, List.length_append, List.length_map, List.length_take, List.length_cons, List.length_nil]; omega)) [wrap64]
  exact RetK.keep (hk _ _ ⟨rfl, by simp [Ed.rdy, hil, a1]⟩)

theorem c_enabled {h : Heap} {v w : Value} {s : Sy} {st : Sta} (hs : s.Ok) (ht : st.Ok s) (R : Rep h v s) (Rt : Rep h w st) : CallE Tryz.prog fn_impl_System_enabled [v, w] h (fun u h' => HS h [ow u (enb s st)] h') := by
  have FS := R.aSy
  have FT := Rt.aSta
  have R0 := R
  have Rt0 := Rt
  obtain ⟨v1, v2, rfl, R1, R2'⟩ := Rep_Sy.1 R
  obtain ⟨t1, t2, rfl, T1, T2⟩ := Rep_Sta.1 Rt
  have hp3 := hs.p3
  refine CallE.gen fun k hk => EN_impl_System_enabled rfl ?_
  simp -implicitDefEqProofs (disch := first | omega | (simp only [List.length_set, List.length_replicate, List.length_append, List.length_map, List.length_take, List.length_cons, List.length_nil]; omega)) [wrap64, R2'.len]
  refine wp_count s.procs.length (fun i e h' => ∃ o, e = [none, none, some (.agg #[v1, v2]), some (.agg #[t1, t2]), none, some o, none, none, none, none, none, none, none, none, some v2, some (.int .i64 s.procs.length), some (.int .i64 i), none, none, none, none, none, none, none, none, none] ∧ HS h [ow o ((s.procs.zipIdx.take i).flatMap (enb1 s st))] h') ⟨.slice none 0 0, by simp, by simpa using HS.init.nil_ow (α := Stp)⟩ ?_
  rintro J0 i _ h1 hJ0 hi ⟨o, rfl, H⟩
  simp -implicitDefEqProofs (disch := first | omega | (simp only [List.length_set, List.length_replicate, List.length_append, List.length_map, List.length_take, List.length_cons, List.length_nil]; omega)) [wrap64]
  refine IteW.mk (fun hlt => ?_) (fun hge => ?_)
  · have hi : i < s.procs.length := by omega
    obtain ⟨A, hA⟩ : ∃ A, A = (s.procs.zipIdx.take i).flatMap (enb1 s st) := ⟨_, rfl⟩
    have hAl : A.length ≤ 324 := by rw [hA]; exact enb_len hs
    obtain ⟨u, hu, Ru⟩ := R2'.ld hi
    have hu2 := hload_le H.base hu
    change hload _ (some (elp 2 v2 i)) (some 2) = some u at hu2
    obtain ⟨we, rfl, k1, R3⟩ := Rep_Pr.1 Ru
    have hpo := hs.at hi
    have hel := hpo.el
    have hF1 := R3.cells
    have hF2 := R3.one
    rw [← hA] at H
    simp -implicitDefEqProofs (disch := first | omega | (simp only [List.length_set, List.length_replicate, List.length_append, List.length_map, List.length_take, List.length_cons, List.length_nil]; omega)) [wrap64, R2'.X (n := 2) rfl, hu2, hF1, hF2, setC, R3.len]
    refine wp_count s.procs[i].edges.length (fun m e h' => ∃ o, e = [none, none, some (.agg #[v1, v2]), some (.agg #[t1, t2]), none, some o, some (.int .i64 i), none, none, none, none, none, none, none, some v2, some (.int .i64 s.procs.length), some (.int .i64 i), some we, some (.int .i64 s.procs[i].edges.length), some (.int .i64 m), none, none, none, none, none, none] ∧ HS h [ow o (A ++ (s.procs[i].edges.zipIdx.take m).flatMap (enb2 s st i))] h') ⟨o, by simp, by simpa using H⟩ ?_
    clear H
    rintro J1 m _ h2 hJ1 hm ⟨o, rfl, H⟩
    simp -implicitDefEqProofs (disch := first | omega | (simp only [List.length_set, List.length_replicate, List.length_append, List.length_map, List.length_take, List.length_cons, List.length_nil]; omega)) [wrap64]
    refine IteW.mk (fun hlt1 => ?_) (fun hge1 => ?_)
    · have hm : m < s.procs[i].edges.length := by omega
      obtain ⟨B, hB⟩ : ∃ B, B = A ++ (s.procs[i].edges.zipIdx.take m).flatMap (enb2 s st i) := ⟨_, rfl⟩
      have hBl : B.length ≤ 432 := by
        rw [hB, List.length_append]
        have := enb1_len (st := st) (i := i) (n := m) hs hpo
        omega
      have hstep : A ++ (s.procs[i].edges.zipIdx.take (m + 1)).flatMap (enb2 s st i) = B ++ enb2 s st i (s.procs[i].edges[m], m) := by rw [fm_tk hm, ← List.append_assoc, ← hB]
      rw [← hB] at H
      obtain ⟨u, hu, Ru⟩ := R3.ld hm
      have hu2 := hload_le H.base hu
      change hload _ (some (elp 10 we m)) (some 10) = some u at hu2
      obtain ⟨w1, w2, rfl, ok, G1, G2⟩ := Rep_Ed.1 Ru
      have heo := hpo.at hm
      have hF3 := G1.one
      have hF4 := G2.one
      have hgo : ∀ {o' h'}, HS h [ow o' (B ++ enb2 s st i (s.procs[i].edges[m], m))] h' → J1 [none, none, some (.agg #[v1, v2]), some (.agg #[t1, t2]), none, some o', some (.int .i64 i), none, none, none, none, none, none, none, some v2, some (.int .i64 s.procs.length), some (.int .i64 i), some we, some (.int .i64 s.procs[i].edges.length), some (.int .i64 ((m + 1 : Nat) : Int)), none, none, none, none, none, none] h' :=
        fun {o' h'} H => hJ1 _ _ hm ⟨o', by simp, by rw [hstep]; exact H⟩
      simp -implicitDefEqProofs (disch := first | omega | (simp only [List.length_set, List.length_replicate, List.length_append, List.length_map, List.length_take, List.length_cons, List.length_nil]; omega)) [wrap64, R3.X (n := 10) rfl, hu2, Ed.cs, setC, hF3, hF4]
      refine (c_ready hs ht (R0.on H) (Rt0.on H) hi hm).go ?_
      rintro _ h2 ⟨rfl, rfl⟩
      by_cases a1 : s.procs[i].edges[m].rdy st i = true
      case neg =>
        simp -implicitDefEqProofs (disch := first | omega | (simp only [List.length_set, List.length_replicate, List.length_append, List.length_map, List.length_take, List.length_cons, List.length_nil]; omega)) [wrap64, a1]
        exact hgo (by rw [enb2, if_pos (.inr (by simpa using a1))]; simpa using H)
      by_cases a2 : s.procs[i].edges[m].sync < 0
      · simp -implicitDefEqProofs (disch := first | omega | (simp only [List.length_set, List.length_replicate, List.length_append, List.length_map, List.length_take, List.length_cons, List.length_nil]; omega)) [wrap64, a1, a2]
        exact hgo (by rw [enb2, if_pos (.inl a2)]; simpa using H)
      by_cases a3 : s.procs[i].edges[m].sync = 0
      · simp -implicitDefEqProofs (disch := first | omega | (simp only [List.length_set, List.length_replicate, List.length_append, List.length_map, List.length_take, List.length_cons, List.length_nil]; omega)) [wrap64, a1, a2, a3, setC]
        refine H.app1 (bytes := 32) (⟨i, m, -1, -1⟩ : Stp) rfl rfl rfl (Stp.ok_iff.2 ⟨by dsimp only; omega, by dsimp only; omega, by dsimp only; omega, by dsimp only; omega⟩) rfl rfl (by omega) (by omega) fun o' h3 H => ?_
        simp -implicitDefEqProofs (disch := first | omega | (simp only [List.length_set, List.length_replicate, List.length_append, List.length_map, List.length_take, List.length_cons, List.length_nil]; omega)) [wrap64]
        refine hgo ?_
        rw [enb2, if_neg (by simp [a2, a1]), if_pos a3]; exact H
      simp -implicitDefEqProofs (disch := first | omega | (simp only [List.length_set, List.length_replicate, List.length_append, List.length_map, List.length_take, List.length_cons, List.length_nil]; omega)) [wrap64, a1, a2, a3, R2'.len]
      have hen : enb2 s st i (s.procs[i].edges[m], m) = prt s st i m s.procs[i].edges[m].sync := by rw [enb2, if_neg (by simp [a2, a1]), if_neg a3]
      rw [hen] at hgo
      obtain ⟨c, hc⟩ : ∃ c, c = s.procs[i].edges[m].sync := ⟨_, rfl⟩
      rw [← hc] at hgo
      have hs0 := heo.s0
      have hs1 := heo.s1
      refine wp_count s.procs.length (fun j e h' => ∃ o, e = [none, none, some (.agg #[v1, v2]), some (.agg #[t1, t2]), none, some o, some (.int .i64 i), none, some (.int .i64 m), some (.agg (s.procs[i].edges[m].cs w1 w2).toArray), none, none, none, none, some v2, some (.int .i64 s.procs.length), some (.int .i64 i), some we, some (.int .i64 s.procs[i].edges.length), some (.int .i64 m), some v2, some (.int .i64 s.procs.length), some (.int .i64 j), none, none, none] ∧ HS h [ow o (B ++ (s.procs.zipIdx.take j).flatMap (prt1 st i m c))] h') ⟨o, by simp [Ed.cs], by simpa using H⟩ ?_
      clear H
      rintro J2 j _ h3 hJ2 hj ⟨o, rfl, H⟩
      simp -implicitDefEqProofs (disch := first | omega | (simp only [List.length_set, List.length_replicate, List.length_append, List.length_map, List.length_take, List.length_cons, List.length_nil]; omega)) [wrap64]
      refine IteW.mk (fun hlt2 => ?_) (fun hge2 => ?_)
      · have hj : j < s.procs.length := by omega
        obtain ⟨D, hD⟩ : ∃ D, D = B ++ (s.procs.zipIdx.take j).flatMap (prt1 st i m c) := ⟨_, rfl⟩
        have hDl : D.length ≤ 450 := by
          rw [hD, List.length_append]
          have := prt_len (st := st) (i := i) (k := m) (c := c) (n := j) hs
          omega
        rw [← hD] at H
        obtain ⟨u, hu, Ru⟩ := R2'.ld hj
        have hu2 := hload_le H.base hu
        change hload _ (some (elp 2 v2 j)) (some 2) = some u at hu2
        obtain ⟨wf, rfl, k2, R4⟩ := Rep_Pr.1 Ru
        have hpj := hs.at hj
        have hej := hpj.el
        have hF5 := R4.cells
        have hF6 := R4.one
        simp -implicitDefEqProofs (disch := first | omega | (simp only [List.length_set, List.length_replicate, List.length_append, List.length_map, List.length_take, List.length_cons, List.length_nil]; omega)) [wrap64, R2'.X (n := 2) rfl, hu2, hF5, hF6, setC, R4.len]
        refine wp_count s.procs[j].edges.length (fun n e h' => ∃ o, e = [none, none, some (.agg #[v1, v2]), some (.agg #[t1, t2]), none, some o, some (.int .i64 i), none, some (.int .i64 m), some (.agg (s.procs[i].edges[m].cs w1 w2).toArray), some (.int .i64 j), none, none, none, some v2, some (.int .i64 s.procs.length), some (.int .i64 i), some we, some (.int .i64 s.procs[i].edges.length), some (.int .i64 m), some v2, some (.int .i64 s.procs.length), some (.int .i64 j), some wf, some (.int .i64 s.procs[j].edges.length), some (.int .i64 n)] ∧ HS h [ow o (D ++ (s.procs[j].edges.zipIdx.take n).flatMap (prt2 st i m c j))] h') ⟨o, by simp, by simpa using H⟩ ?_
        clear H
        rintro J3 n _ h4 hJ3 hn ⟨o, rfl, H⟩
        simp -implicitDefEqProofs (disch := first | omega | (simp only [List.length_set, List.length_replicate, List.length_append, List.length_map, List.length_take, List.length_cons, List.length_nil]; omega)) [wrap64]
        refine IteW.mk (fun hlt3 => ?_) (fun hge3 => ?_)
        · have hn : n < s.procs[j].edges.length := by omega
          obtain ⟨E, hE⟩ : ∃ E, E = D ++ (s.procs[j].edges.zipIdx.take n).flatMap (prt2 st i m c j) := ⟨_, rfl⟩
          have hEl : E.length ≤ 456 := by
            rw [hE, List.length_append]
            have := prt1_len (st := st) (i := i) (k := m) (c := c) (j := j) (n := n) hpj
            omega
          have hstep2 : D ++ (s.procs[j].edges.zipIdx.take (n + 1)).flatMap (prt2 st i m c j) = E ++ prt2 st i m c j (s.procs[j].edges[n], n) := by rw [fm_tk hn, ← List.append_assoc, ← hE]
          rw [← hE] at H
          obtain ⟨u, hu, Ru⟩ := R4.ld hn
          have hu2 := hload_le H.base hu
          change hload _ (some (elp 10 wf n)) (some 10) = some u at hu2
          obtain ⟨x1, x2, rfl, okf, X1, X2⟩ := Rep_Ed.1 Ru
          have hF7 := X1.one
          have hF8 := X2.one
          have hgo2 : ∀ {o' h'}, HS h [ow o' (E ++ prt2 st i m c j (s.procs[j].edges[n], n))] h' → J3 [none, none, some (.agg #[v1, v2]), some (.agg #[t1, t2]), none, some o', some (.int .i64 i), none, some (.int .i64 m), some (.agg (s.procs[i].edges[m].cs w1 w2).toArray), some (.int .i64 j), none, none, none, some v2, some (.int .i64 s.procs.length), some (.int .i64 i), some we, some (.int .i64 s.procs[i].edges.length), some (.int .i64 m), some v2, some (.int .i64 s.procs.length), some (.int .i64 j), some wf, some (.int .i64 s.procs[j].edges.length), some (.int .i64 ((n + 1 : Nat) : Int))] h' :=
            fun {o' h'} H => hJ3 _ _ hn ⟨o', by simp, by rw [hstep2]; exact H⟩
          simp only [Ed.cs] at hgo2
          by_cases b1 : j = i
          · simp -implicitDefEqProofs (disch := first | omega | (simp only [List.length_set, List.length_replicate, List.length_append, List.length_map, List.length_take, List.length_cons, List.length_nil]; omega)) [wrap64, R4.X (n := 10) rfl, hu2, Ed.cs, setC, hF7, hF8, b1]
            subst b1
            exact hgo2 (by rw [prt2, if_neg (fun hh => hh.1 rfl)]; simpa using H)
          have b1' : ¬ ((j : Int) = i) := by omega
          by_cases b2 : s.procs[j].edges[n].sync = -c
          case neg =>
            have b2' := b2
            rw [hc] at b2'
            simp -implicitDefEqProofs (disch := first | omega | (simp only [List.length_set, List.length_replicate, List.length_append, List.length_map, List.length_take, List.length_cons, List.length_nil]; omega)) [wrap64, R4.X (n := 10) rfl, hu2, Ed.cs, setC, hF7, hF8, b1, b1', b2']
            exact hgo2 (by rw [prt2, if_neg (fun hh => b2 hh.2.1)]; simpa using H)
          have b2' := b2
          rw [hc] at b2'
          simp -implicitDefEqProofs (disch := first | omega | (simp only [List.length_set, List.length_replicate, List.length_append, List.length_map, List.length_take, List.length_cons, List.length_nil]; omega)) [wrap64, R4.X (n := 10) rfl, hu2, Ed.cs, setC, hF7, hF8, b1, b1', b2']
          refine (c_ready hs ht (R0.on H) (Rt0.on H) hj hn).go ?_
          rintro _ h4 ⟨rfl, rfl⟩
          by_cases b3 : s.procs[j].edges[n].rdy st j = true
          case neg =>
            simp -implicitDefEqProofs (disch := first | omega | (simp only [List.length_set, List.length_replicate, List.length_append, List.length_map, List.length_take, List.length_cons, List.length_nil]; omega)) [wrap64, b3]
            exact hgo2 (by rw [prt2, if_neg (fun hh => b3 hh.2.2)]; simpa using H)
          simp -implicitDefEqProofs (disch := first | omega | (simp only [List.length_set, List.length_replicate, List.length_append, List.length_map, List.length_take, List.length_cons, List.length_nil]; omega)) [wrap64, b3, setC]
          refine H.app1 (bytes := 32) (⟨i, m, j, n⟩ : Stp) rfl rfl rfl (Stp.ok_iff.2 ⟨by dsimp only; omega, by dsimp only; omega, by dsimp only; omega, by dsimp only; omega⟩) rfl rfl (by omega) (by omega) fun o' h5 H => ?_
          simp -implicitDefEqProofs (disch := first | omega | (simp only [List.length_set, List.length_replicate, List.length_append, List.length_map, List.length_take, List.length_cons, List.length_nil]; omega)) [wrap64]
          refine hgo2 ?_
          rw [prt2, if_pos ⟨b1, b2, b3⟩]; exact H
        simp -implicitDefEqProofs (disch := first | omega | (simp only [List.length_set, List.length_replicate, List.length_append, List.length_map, List.length_take, List.length_cons, List.length_nil]; omega)) [wrap64]
        rw [fm_all (by omega)] at H
        exact hJ2 _ _ hj ⟨o, by simp, by rw [fm_tk hj, ← List.append_assoc, ← hD]; exact H⟩
      simp -implicitDefEqProofs (disch := first | omega | (simp only [List.length_set, List.length_replicate, List.length_append, List.length_map, List.length_take, List.length_cons, List.length_nil]; omega)) [wrap64]
      rw [fm_all (by omega)] at H
      exact hgo H
    simp -implicitDefEqProofs (disch := first | omega | (simp only [List.length_set, List.length_replicate, List.length_append, List.length_map, List.length_take, List.length_cons, List.length_nil]; omega)) [wrap64]
    rw [fm_all (by omega)] at H
    exact hJ0 _ _ hi ⟨o, by simp, by rw [fm_tk hi, ← hA]; exact H⟩
  simp -implicitDefEqProofs (disch := first | omega | (simp only [List.length_set, List.length_replicate, List.length_append, List.length_map, List.length_take, List.length_cons, List.length_nil]; omega)) [wrap64]
  rw [fm_all (by omega)] at H
  refine (c_Clip_impl_Step H).go ?_
  intro o' h2 H
  simp -implicitDefEqProofs (disch := first | omega | (simp only [List.length_set, List.length_replicate, List.length_append, List.length_map, List.length_take, List.length_cons, List.length_nil]; omega)) [wrap64]
  exact RetK.keep (hk _ _ H)
end Go.Proofs.YtonjglbachhdcaaGreat

/-
  Steps by the reference; the state after a step, by the program and by the reference.
-/
namespace Go.Proofs.YtonjglbachhdcaaGreat
open Go
set_option linter.all false
set_option linter.unusedVariables false
set_option linter.unusedSimpArgs false
set_option linter.defProp false
set_option maxRecDepth 1000000

theorem c_l3Partners {h : Heap} {v w : Value} {s : Sy} {st : Sta} (hs : s.Ok) (ht : st.Ok s) (R : Rep h v s) (Rt : Rep h w st) {i m : Nat} (hi : i < s.procs.length) (hm : m < s.procs[i].edges.length) :
    CallE Tryz.prog fn_spec_l3Partners [v, w, .int .i64 i, .int .i64 m] h (fun u h' => HS h [ow u (prt s st i m s.procs[i].edges[m].sync)] h') := by
  have R0 := R
  have Rt0 := Rt
  obtain ⟨v1, v2, rfl, R1, R2'⟩ := Rep_Sy.1 R
  obtain ⟨t1, t2, rfl, T1, T2⟩ := Rep_Sta.1 Rt
  have hp3 := hs.p3
  have heo := (hs.at hi).at hm
  have hs0 := heo.s0
  have hs1 := heo.s1
  obtain ⟨we, w1, w2, hu, R3, hu2, ok, G1, G2⟩ := R2'.edge hi hm
  obtain ⟨c, hc⟩ : ∃ c, c = s.procs[i].edges[m].sync := ⟨_, rfl⟩
  refine CallE.gen fun k hk => EN_spec_l3Partners rfl ?_
  rw [← hc] at hk hs0 hs1
  simp -implicitDefEqProofs (disch := first | omega | (simp only [List.length_set, List.length_replicate, List.length_append, List.length_map, List.length_take, List.length_cons, List.length_nil]; omega)) [wrap64]
  refine HS.init.bls0 Stp fun o h1 H => ?_
  have hP := hld_parts (hload_le H.base hu)
  have hQ := hld_parts (hload_le H.base hu2)
  simp -implicitDefEqProofs (disch := first | omega | (simp only [List.length_set, List.length_replicate, List.length_append, List.length_map, List.length_take, List.length_cons, List.length_nil]; omega)) [wrap64, R2'.X (n := 2) rfl, hP.1, hP.2.2.1, R3.X (n := 10) rfl, hQ.1, hQ.2.2.1, Ed.cs]
  refine wp_count s.procs.length (fun j e h' => ∃ o, e = [none, none, some (.int .i64 i), some (.int .i64 m), some (.agg #[v1, v2]), some (.agg #[t1, t2]), none, some o, some (.int .i64 c), some (.int .i64 j), none] ∧ HS h [ow o ((s.procs.zipIdx.take j).flatMap (prt1 st i m c))] h') ⟨o, by simp [hc], by simpa using H⟩ ?_
  clear H hP hQ
  rintro J2 j _ h3 hJ2 hj ⟨o, rfl, H⟩
  simp -implicitDefEqProofs (disch := first | omega | (simp only [List.length_set, List.length_replicate, List.length_append, List.length_map, List.length_take, List.length_cons, List.length_nil]; omega)) [wrap64, R2'.len]
  refine IteW.mk (fun hlt2 => ?_) (fun hge2 => ?_)
  · have hj : j < s.procs.length := by omega
    obtain ⟨D, hD⟩ : ∃ D, D = (s.procs.zipIdx.take j).flatMap (prt1 st i m c) := ⟨_, rfl⟩
    have hDl : D.length ≤ 18 := by rw [hD]; exact prt_len hs
    rw [← hD] at H
    obtain ⟨u, hu, Ru⟩ := R2'.ld hj
    change hload _ (some (elp 2 v2 j)) (some 2) = some u at hu
    obtain ⟨wf, rfl, k2, R4⟩ := Rep_Pr.1 Ru
    have hpj := hs.at hj
    have hej := hpj.el
    have hP : ∀ {h'}, h.le h' → _ := fun {h'} (hl : h.le h') => hld_parts (hload_le hl hu)
    simp -implicitDefEqProofs (disch := first | omega | (simp only [List.length_set, List.length_replicate, List.length_append, List.length_map, List.length_take, List.length_cons, List.length_nil]; omega)) [wrap64]
    refine wp_count s.procs[j].edges.length (fun n e h' => ∃ o, e = [none, none, some (.int .i64 i), some (.int .i64 m), some (.agg #[v1, v2]), some (.agg #[t1, t2]), none, some o, some (.int .i64 c), some (.int .i64 j), some (.int .i64 n)] ∧ HS h [ow o (D ++ (s.procs[j].edges.zipIdx.take n).flatMap (prt2 st i m c j))] h') ⟨o, by simp, by simpa using H⟩ ?_
    clear H
    rintro J3 n _ h4 hJ3 hn ⟨o, rfl, H⟩
    have hP1 := (hP H.base).1
    have hP2 := (hP H.base).2.2.1
    simp -implicitDefEqProofs (disch := first | omega | (simp only [List.length_set, List.length_replicate, List.length_append, List.length_map, List.length_take, List.length_cons, List.length_nil]; omega)) [wrap64, R2'.X (n := 2) rfl, hP1, hP2, R4.len]
    refine IteW.mk (fun hlt3 => ?_) (fun hge3 => ?_)
    · have hn : n < s.procs[j].edges.length := by omega
      obtain ⟨E, hE⟩ : ∃ E, E = D ++ (s.procs[j].edges.zipIdx.take n).flatMap (prt2 st i m c j) := ⟨_, rfl⟩
      have hEl : E.length ≤ 24 := by
        rw [hE, List.length_append]
        have := prt1_len (st := st) (i := i) (k := m) (c := c) (j := j) (n := n) hpj
        omega
      have hstep2 : D ++ (s.procs[j].edges.zipIdx.take (n + 1)).flatMap (prt2 st i m c j) = E ++ prt2 st i m c j (s.procs[j].edges[n], n) := by rw [fm_tk hn, ← List.append_assoc, ← hE]
      rw [← hE] at H
      obtain ⟨u, hu, Ru⟩ := R4.ld hn
      have hu2 := hload_le H.base hu
      change hload _ (some (elp 10 wf n)) (some 10) = some u at hu2
      obtain ⟨x1, x2, rfl, okf, X1, X2⟩ := Rep_Ed.1 Ru
      have hQ := hld_parts hu2
      have hgo2 : ∀ {o' h'}, HS h [ow o' (E ++ prt2 st i m c j (s.procs[j].edges[n], n))] h' → J3 [none, none, some (.int .i64 i), some (.int .i64 m), some (.agg #[v1, v2]), some (.agg #[t1, t2]), none, some o', some (.int .i64 c), some (.int .i64 j), some (.int .i64 ((n + 1 : Nat) : Int))] h' :=
        fun {o' h'} H => hJ3 _ _ hn ⟨o', by simp, by rw [hstep2]; exact H⟩
      by_cases b1 : j = i
      · simp -implicitDefEqProofs (disch := first | omega | (simp only [List.length_set, List.length_replicate, List.length_append, List.length_map, List.length_take, List.length_cons, List.length_nil]; omega)) [wrap64, b1]
        subst b1
        exact hgo2 (by rw [prt2, if_neg (fun hh => hh.1 rfl)]; simpa using H)
      have b1' : ¬ ((j : Int) = i) := by omega
      by_cases b2 : s.procs[j].edges[n].sync = -c
      case neg =>
        simp -implicitDefEqProofs (disch := first | omega | (simp only [List.length_set, List.length_replicate, List.length_append, List.length_map, List.length_take, List.length_cons, List.length_nil]; omega)) [wrap64, R2'.X (n := 2) rfl, hP1, hP2, R4.X (n := 10) rfl, hQ.1, hQ.2.2.1, Ed.cs, b1, b1', b2]
        exact hgo2 (by rw [prt2, if_neg (fun hh => b2 hh.2.1)]; simpa using H)
      simp -implicitDefEqProofs (disch := first | omega | (simp only [List.length_set, List.length_replicate, List.length_append, List.length_map, List.length_take, List.length_cons, List.length_nil]; omega)) [wrap64, R2'.X (n := 2) rfl, hP1, hP2, R4.X (n := 10) rfl, hQ.1, hQ.2.2.1, Ed.cs, b1, b1', b2]
      refine (c_l3Ready hs ht (R0.on H) (Rt0.on H) hj hn).go ?_
      rintro _ h4 ⟨rfl, rfl⟩
      by_cases b3 : s.procs[j].edges[n].rdy st j = true
      case neg =>
        simp -implicitDefEqProofs (disch := first | omega | (simp only [List.length_set, List.length_replicate, List.length_append, List.length_map, List.length_take, List.length_cons, List.length_nil]; omega)) [wrap64, b3]
        exact hgo2 (by rw [prt2, if_neg (fun hh => b3 hh.2.2)]; simpa using H)
      have hel := (hs.at hi).el
      simp -implicitDefEqProofs (disch := first | omega | (simp only [List.length_set, List.length_replicate, List.length_append, List.length_map, List.length_take, List.length_cons, List.length_nil]; omega)) [wrap64, b3, setC]
      refine H.app1 (bytes := 32) (⟨i, m, j, n⟩ : Stp) rfl rfl rfl (Stp.ok_iff.2 ⟨by dsimp only; omega, by dsimp only; omega, by dsimp only; omega, by dsimp only; omega⟩) rfl rfl (by omega) (by omega) fun o' h5 H => ?_
      simp -implicitDefEqProofs (disch := first | omega | (simp only [List.length_set, List.length_replicate, List.length_append, List.length_map, List.length_take, List.length_cons, List.length_nil]; omega)) [wrap64]
      refine hgo2 ?_
      rw [prt2, if_pos ⟨b1, b2, b3⟩]; exact H
    simp -implicitDefEqProofs (disch := first | omega | (simp only [List.length_set, List.length_replicate, List.length_append, List.length_map, List.length_take, List.length_cons, List.length_nil]; omega)) [wrap64]
    rw [fm_all (by omega)] at H
    exact hJ2 _ _ hj ⟨o, by simp, by rw [fm_tk hj, ← hD]; exact H⟩
  simp -implicitDefEqProofs (disch := first | omega | (simp only [List.length_set, List.length_replicate, List.length_append, List.length_map, List.length_take, List.length_cons, List.length_nil]; omega)) [wrap64]
  rw [fm_all (by omega)] at H
  exact RetK.keep (hk _ _ H)

theorem c_l3Steps {h : Heap} {v w : Value} {s : Sy} {st : Sta} (hs : s.Ok) (ht : st.Ok s) (R : Rep h v s) (Rt : Rep h w st) : CallE Tryz.prog fn_spec_l3Steps [v, w] h (fun u h' => HS h [ow u (enb s st)] h') := by
  have FS := R.aSy
  have FT := Rt.aSta
  have R0 := R
  have Rt0 := Rt
  obtain ⟨v1, v2, rfl, R1, R2'⟩ := Rep_Sy.1 R
  obtain ⟨t1, t2, rfl, T1, T2⟩ := Rep_Sta.1 Rt
  have hp3 := hs.p3
  refine CallE.gen fun k hk => EN_spec_l3Steps rfl ?_
  simp -implicitDefEqProofs (disch := first | omega | (simp only [List.length_set, List.length_replicate, List.length_append, List.length_map, List.length_take, List.length_cons, List.length_nil]; omega)) [wrap64]
  refine HS.init.bls0 Stp fun o h1 H => ?_
  simp -implicitDefEqProofs (disch := first | omega | (simp only [List.length_set, List.length_replicate, List.length_append, List.length_map, List.length_take, List.length_cons, List.length_nil]; omega)) [wrap64]
  refine wp_count s.procs.length (fun i e h' => ∃ o, e = [none, none, some (.agg #[v1, v2]), some (.agg #[t1, t2]), none, some o, some (.int .i64 i), none, none] ∧ HS h [ow o ((s.procs.zipIdx.take i).flatMap (enb1 s st))] h') ⟨o, by simp, by simpa using H⟩ ?_
  clear H
  rintro J0 i _ h1 hJ0 hi ⟨o, rfl, H⟩
  simp -implicitDefEqProofs (disch := first | omega | (simp only [List.length_set, List.length_replicate, List.length_append, List.length_map, List.length_take, List.length_cons, List.length_nil]; omega)) [wrap64, R2'.len]
  refine IteW.mk (fun hlt => ?_) (fun hge => ?_)
  · have hi : i < s.procs.length := by omega
    obtain ⟨A, hA⟩ : ∃ A, A = (s.procs.zipIdx.take i).flatMap (enb1 s st) := ⟨_, rfl⟩
    have hAl : A.length ≤ 324 := by rw [hA]; exact enb_len hs
    obtain ⟨u, hu, Ru⟩ := R2'.ld hi
    change hload _ (some (elp 2 v2 i)) (some 2) = some u at hu
    obtain ⟨we, rfl, k1, R3⟩ := Rep_Pr.1 Ru
    have hpo := hs.at hi
    have hel := hpo.el
    have hP : ∀ {h'}, h.le h' → _ := fun {h'} (hl : h.le h') => hld_parts (hload_le hl hu)
    rw [← hA] at H
    simp -implicitDefEqProofs (disch := first | omega | (simp only [List.length_set, List.length_replicate, List.length_append, List.length_map, List.length_take, List.length_cons, List.length_nil]; omega)) [wrap64]
    refine wp_count s.procs[i].edges.length (fun m e h' => ∃ o, e = [none, none, some (.agg #[v1, v2]), some (.agg #[t1, t2]), none, some o, some (.int .i64 i), some (.int .i64 m), none] ∧ HS h [ow o (A ++ (s.procs[i].edges.zipIdx.take m).flatMap (enb2 s st i))] h') ⟨o, by simp, by simpa using H⟩ ?_
    clear H
    rintro J1 m _ h2 hJ1 hm ⟨o, rfl, H⟩
    have hP1 := (hP H.base).1
    have hP2 := (hP H.base).2.2.1
    simp -implicitDefEqProofs (disch := first | omega | (simp only [List.length_set, List.length_replicate, List.length_append, List.length_map, List.length_take, List.length_cons, List.length_nil]; omega)) [wrap64, R2'.X (n := 2) rfl, hP1, hP2, R3.len]
    refine IteW.mk (fun hlt1 => ?_) (fun hge1 => ?_)
    · have hm : m < s.procs[i].edges.length := by omega
      obtain ⟨B, hB⟩ : ∃ B, B = A ++ (s.procs[i].edges.zipIdx.take m).flatMap (enb2 s st i) := ⟨_, rfl⟩
      have hBl : B.length ≤ 432 := by
        rw [hB, List.length_append]
        have := enb1_len (st := st) (i := i) (n := m) hs hpo
        omega
      have hstep : A ++ (s.procs[i].edges.zipIdx.take (m + 1)).flatMap (enb2 s st i) = B ++ enb2 s st i (s.procs[i].edges[m], m) := by rw [fm_tk hm, ← List.append_assoc, ← hB]
      rw [← hB] at H
      obtain ⟨u, hu, Ru⟩ := R3.ld hm
      have hu2 := hload_le H.base hu
      change hload _ (some (elp 10 we m)) (some 10) = some u at hu2
      obtain ⟨w1, w2, rfl, ok, G1, G2⟩ := Rep_Ed.1 Ru
      have heo := hpo.at hm
      have hQ := hld_parts hu2
      have hgo : ∀ {o' h'}, HS h [ow o' (B ++ enb2 s st i (s.procs[i].edges[m], m))] h' → J1 [none, none, some (.agg #[v1, v2]), some (.agg #[t1, t2]), none, some o', some (.int .i64 i), some (.int .i64 ((m + 1 : Nat) : Int)), none] h' :=
        fun {o' h'} H => hJ1 _ _ hm ⟨o', by simp, by rw [hstep]; exact H⟩
      by_cases a2 : s.procs[i].edges[m].sync < 0
      · simp -implicitDefEqProofs (disch := first | omega | (simp only [List.length_set, List.length_replicate, List.length_append, List.length_map, List.length_take, List.length_cons, List.length_nil]; omega)) [wrap64, R2'.X (n := 2) rfl, hP1, hP2, R3.X (n := 10) rfl, hQ.1, hQ.2.2.1, Ed.cs, a2]
        exact hgo (by rw [enb2, if_pos (.inl a2)]; simpa using H)
      simp -implicitDefEqProofs (disch := first | omega | (simp only [List.length_set, List.length_replicate, List.length_append, List.length_map, List.length_take, List.length_cons, List.length_nil]; omega)) [wrap64, R2'.X (n := 2) rfl, hP1, hP2, R3.X (n := 10) rfl, hQ.1, hQ.2.2.1, Ed.cs, a2]
      refine (c_l3Ready hs ht (R0.on H) (Rt0.on H) hi hm).go ?_
      rintro _ h2 ⟨rfl, rfl⟩
      by_cases a1 : s.procs[i].edges[m].rdy st i = true
      case neg =>
        simp -implicitDefEqProofs (disch := first | omega | (simp only [List.length_set, List.length_replicate, List.length_append, List.length_map, List.length_take, List.length_cons, List.length_nil]; omega)) [wrap64, a1]
        exact hgo (by rw [enb2, if_pos (.inr (by simpa using a1))]; simpa using H)
      by_cases a3 : s.procs[i].edges[m].sync = 0
      · simp -implicitDefEqProofs (disch := first | omega | (simp only [List.length_set, List.length_replicate, List.length_append, List.length_map, List.length_take, List.length_cons, List.length_nil]; omega)) [wrap64, a1, a2, a3, setC]
        refine H.app1 (bytes := 32) (⟨i, m, -1, -1⟩ : Stp) rfl rfl rfl (Stp.ok_iff.2 ⟨by dsimp only; omega, by dsimp only; omega, by dsimp only; omega, by dsimp only; omega⟩) rfl rfl (by omega) (by omega) fun o' h3 H => ?_
        simp -implicitDefEqProofs (disch := first | omega | (simp only [List.length_set, List.length_replicate, List.length_append, List.length_map, List.length_take, List.length_cons, List.length_nil]; omega)) [wrap64]
        refine hgo ?_
        rw [enb2, if_neg (by simp [a2, a1]), if_pos a3]; exact H
      have hen : enb2 s st i (s.procs[i].edges[m], m) = prt s st i m s.procs[i].edges[m].sync := by rw [enb2, if_neg (by simp [a2, a1]), if_neg a3]
      have hpl := prt_len' (st := st) (i := i) (k := m) (c := s.procs[i].edges[m].sync) hs
      rw [hen] at hgo
      simp -implicitDefEqProofs (disch := first | omega | (simp only [List.length_set, List.length_replicate, List.length_append, List.length_map, List.length_take, List.length_cons, List.length_nil]; omega)) [wrap64, a1, a2, a3]
      refine (c_l3Partners hs ht (R0.on H) (Rt0.on H) hi hm).go ?_
      intro p h3 G
      have H := G.app H
      simp -implicitDefEqProofs (disch := first | omega | (simp only [List.length_set, List.length_replicate, List.length_append, List.length_map, List.length_take, List.length_cons, List.length_nil]; omega)) [wrap64]
      refine HS.appL (u := p) (l2 := prt s st i m s.procs[i].edges[m].sync) H.sw1 rfl rfl H.rep rfl rfl (by omega) (by omega) fun o' h4 H => ?_
      simp -implicitDefEqProofs (disch := first | omega | (simp only [List.length_set, List.length_replicate, List.length_append, List.length_map, List.length_take, List.length_cons, List.length_nil]; omega)) [wrap64]
      exact hgo H.only
    simp -implicitDefEqProofs (disch := first | omega | (simp only [List.length_set, List.length_replicate, List.length_append, List.length_map, List.length_take, List.length_cons, List.length_nil]; omega)) [wrap64]
    rw [fm_all (by omega)] at H
    exact hJ0 _ _ hi ⟨o, by simp, by rw [fm_tk hi, ← hA]; exact H⟩
  simp -implicitDefEqProofs (disch := first | omega | (simp only [List.length_set, List.length_replicate, List.length_append, List.length_map, List.length_take, List.length_cons, List.length_nil]; omega)) [wrap64]
  rw [fm_all (by omega)] at H
  exact RetK.keep (hk _ _ H)

theorem c_StateValid {h : Heap} {v w : Value} {s : Sy} {st : Sta} (R : Rep h v s) (Rt : Rep h w st) : CallE Tryz.prog fn_impl_StateValid [v, w] h (fun u h' => h.le h' ∧ u = .bool (decide (s.Ok ∧ st.Ok s))) := by
  have FS := R.aSy
  have FT := Rt.aSta
  refine CallE.gen fun k hk => EN_impl_StateValid rfl ?_
  simp -implicitDefEqProofs (disch := first | omega | (simp only [List.length_set, List.length_replicate, List.length_append, List.length_map, List.length_take, List.length_cons, List.length_nil]; omega)) [wrap64, FS, FT]
  refine (c_SystemValid R).go ?_
  rintro _ h1 ⟨l1, rfl⟩
  by_cases hs : s.Ok
  case neg => simp -implicitDefEqProofs (disch := first | omega | (simp only [List.length_set, List.length_replicate, List.length_append, List.length_map, List.length_take, List.length_cons, List.length_nil]; omega)) [wrap64, hs]; exact RetK.keep (hk _ _ ⟨l1, by rw [decide_eq_false (fun hh => hs hh.1)]⟩)
  simp -implicitDefEqProofs (disch := first | omega | (simp only [List.length_set, List.length_replicate, List.length_append, List.length_map, List.length_take, List.length_cons, List.length_nil]; omega)) [wrap64, hs, FS, FT]
  refine (c_has hs (R.le l1) (Rt.le l1)).go ?_
  rintro _ h2 ⟨l2, rfl⟩
  simp -implicitDefEqProofs (disch := first | omega | (simp only [List.length_set, List.length_replicate, List.length_append, List.length_map, List.length_take, List.length_cons, List.length_nil]; omega)) [wrap64]
  exact RetK.keep (hk _ _ ⟨l1.trans l2, by congr 1; rw [Bool.eq_iff_iff]; simp [hs]⟩)
theorem c_EnabledSteps {h : Heap} {v w : Value} {s : Sy} {st : Sta} (R : Rep h v s) (Rt : Rep h w st) : CallE Tryz.prog fn_impl_EnabledSteps [v, w] h (fun u h' => HS h [ow u (ens s st)] h') := by
  have FS := R.aSy
  have FT := Rt.aSta
  refine CallE.gen fun k hk => EN_impl_EnabledSteps rfl ?_
  have hno : ¬ (s.Ok ∧ st.Ok s) → ∀ {h'}, h.le h' → k (.slice none 0 0) h' := fun hn h' hl => hk _ _ (by rw [ens, if_neg hn]; exact HS.nil_ow (Γ := []) hl)
  simp -implicitDefEqProofs (disch := first | omega | (simp only [List.length_set, List.length_replicate, List.length_append, List.length_map, List.length_take, List.length_cons, List.length_nil]; omega)) [wrap64, FS, FT]
  refine (c_StateValid R Rt).go ?_
  rintro _ h1 ⟨l1, rfl⟩
  by_cases q : s.Ok ∧ st.Ok s
  case neg => simp -implicitDefEqProofs (disch := first | omega | (simp only [List.length_set, List.length_replicate, List.length_append, List.length_map, List.length_take, List.length_cons, List.length_nil]; omega)) [wrap64, q]; exact RetK.keep (hno q l1)
  simp -implicitDefEqProofs (disch := first | omega | (simp only [List.length_set, List.length_replicate, List.length_append, List.length_map, List.length_take, List.length_cons, List.length_nil]; omega)) [wrap64, q, FS, FT]
  refine (c_enabled q.1 q.2 (R.le l1) (Rt.le l1)).go ?_
  intro u h2 H
  simp -implicitDefEqProofs (disch := first | omega | (simp only [List.length_set, List.length_replicate, List.length_append, List.length_map, List.length_take, List.length_cons, List.length_nil]; omega)) [wrap64]
  exact RetK.keep (hk _ _ (by rw [ens, if_pos q]; exact HS.app (Γ := []) H l1))
theorem c_take {g h : Heap} {Γ : List HP} {t1 t2 v : Value} {s : Sy} {st : Sta} {e : Ed} {i : Nat} (hi : i < s.procs.length) (ht : st.Ok s) (he : e.Ok s.procs[i].locs) (R : Rep g v e) (H : HS g (ow t1 st.locs :: ow t2 st.vals :: Γ) h) :
    CallE Tryz.prog fn_impl_State_take [.agg #[t1, t2], .int .i64 i, v] h (fun _ h' => HS g (ow t1 (st.tk i e).locs :: ow t2 (st.tk i e).vals :: Γ) h') := by
  obtain ⟨w1, w2, rfl, ok, G1, G2⟩ := Rep_Ed.1 R
  have hil : i < st.locs.length := by rw [ht.len]; exact hi
  have hvl := ht.vs.len
  refine CallE.gen fun k hk => EN_impl_State_take rfl ?_
  simp -implicitDefEqProofs (disch := first | omega | (simp only [List.length_set, List.length_replicate, List.length_append, List.length_map, List.length_take, List.length_cons, List.length_nil]; omega)) [wrap64, Ed.cs, H.rep.I]
  refine H.storeF e.to (i := i) hil rfl rfl ok.to rfl fun h1 H => ?_
  by_cases a1 : 0 ≤ e.var
  case neg =>
    simp -implicitDefEqProofs (disch := first | omega | (simp only [List.length_set, List.length_replicate, List.length_append, List.length_map, List.length_take, List.length_cons, List.length_nil]; omega)) [wrap64, a1]
    exact RetK.keep (hk _ _ (by simp only [Sta.tk]; rw [if_neg a1]; exact H))
  have hvo : e.value.Ok := he.vl.elim (fun hh => hh.2) (fun hh => absurd hh.1 (by omega))
  have hv1 := he.v1
  obtain ⟨q, hq⟩ : ∃ q : Nat, e.var = q := ⟨_, (Int.toNat_of_nonneg a1).symm⟩
  have hb := Exq.ev_bnd ht.vs hvo.1
  simp -implicitDefEqProofs (disch := first | omega | (simp only [List.length_set, List.length_replicate, List.length_append, List.length_map, List.length_take, List.length_cons, List.length_nil]; omega)) [wrap64, a1, hq]
  refine (c_eval _ ht.vs hvo.1 ((Rep.vl ok G2).on H) H.sw1.rep).go ?_
  rintro _ h1 ⟨rfl, rfl⟩
  simp -implicitDefEqProofs (disch := first | omega | (simp only [List.length_set, List.length_replicate, List.length_append, List.length_map, List.length_take, List.length_cons, List.length_nil]; omega)) [wrap64, H.sw1.rep.I]
  refine H.sw1.storeF (e.value.ev st.vals) (i := q) (by omega) rfl rfl ⟨by omega, by omega⟩ rfl fun h2 H => ?_
  simp -implicitDefEqProofs (disch := first | omega | (simp only [List.length_set, List.length_replicate, List.length_append, List.length_map, List.length_take, List.length_cons, List.length_nil]; omega)) [wrap64]
  exact RetK.keep (hk _ _ (by simp only [Sta.tk]; rw [if_pos a1, hq, Int.toNat_natCast]; exact H.sw1))
theorem c_l3Take {g h : Heap} {Γ : List HP} {t1 t2 v : Value} {s : Sy} {st : Sta} {e : Ed} {i : Nat} (hi : i < s.procs.length) (ht : st.Ok s) (he : e.Ok s.procs[i].locs) (R : Rep g v e) (H : HS g (ow t1 st.locs :: ow t2 st.vals :: Γ) h) :
    CallE Tryz.prog fn_spec_l3Take [.agg #[t1, t2], .int .i64 i, v] h (fun u h' => u = .agg #[t1, t2] ∧ HS g (ow t1 (st.tk i e).locs :: ow t2 (st.tk i e).vals :: Γ) h') := by
  obtain ⟨w1, w2, rfl, ok, G1, G2⟩ := Rep_Ed.1 R
  have hil : i < st.locs.length := by rw [ht.len]; exact hi
  have hvl := ht.vs.len
  have hO1 := H.rep.one
  have hO2 := H.sw1.rep.one
  refine CallE.gen fun k hk => EN_spec_l3Take rfl ?_
  simp -implicitDefEqProofs (disch := first | omega | (simp only [List.length_set, List.length_replicate, List.length_append, List.length_map, List.length_take, List.length_cons, List.length_nil]; omega)) [wrap64, Ed.cs, H.rep.I]
  refine H.storeF e.to (i := i) hil rfl rfl ok.to rfl fun h1 H => ?_
  by_cases a1 : 0 ≤ e.var
  case neg =>
    simp -implicitDefEqProofs (disch := first | omega | (simp only [List.length_set, List.length_replicate, List.length_append, List.length_map, List.length_take, List.length_cons, List.length_nil]; omega)) [wrap64, a1, setC, hO1, hO2]
    exact RetK.keep (hk _ _ ⟨rfl, by simp only [Sta.tk]; rw [if_neg a1]; exact H⟩)
  have hvo : e.value.Ok := he.vl.elim (fun hh => hh.2) (fun hh => absurd hh.1 (by omega))
  have hv1 := he.v1
  obtain ⟨q, hq⟩ : ∃ q : Nat, e.var = q := ⟨_, (Int.toNat_of_nonneg a1).symm⟩
  have hb := Exq.ev_bnd ht.vs hvo.1
  simp -implicitDefEqProofs (disch := first | omega | (simp only [List.length_set, List.length_replicate, List.length_append, List.length_map, List.length_take, List.length_cons, List.length_nil]; omega)) [wrap64, a1, hq]
  refine (c_l1Eval _ ht.vs hvo.1 ((Rep.vl ok G2).on H) H.sw1.rep).go ?_
  rintro _ h1 ⟨rfl, rfl⟩
  simp -implicitDefEqProofs (disch := first | omega | (simp only [List.length_set, List.length_replicate, List.length_append, List.length_map, List.length_take, List.length_cons, List.length_nil]; omega)) [wrap64, H.sw1.rep.I]
  refine H.sw1.storeF (e.value.ev st.vals) (i := q) (by omega) rfl rfl ⟨by omega, by omega⟩ rfl fun h2 H => ?_
  simp -implicitDefEqProofs (disch := first | omega | (simp only [List.length_set, List.length_replicate, List.length_append, List.length_map, List.length_take, List.length_cons, List.length_nil]; omega)) [wrap64, setC, hO1, hO2]
  exact RetK.keep (hk _ _ ⟨rfl, by simp only [Sta.tk]; rw [if_pos a1, hq, Int.toNat_natCast]; exact H.sw1⟩)

theorem c_after {h : Heap} {v w : Value} {s : Sy} {st : Sta} {t : Stp} (hs : s.Ok) (ht : st.Ok s) (hin : t.In s) (R : Rep h v s) (Rt : Rep h w st) : CallE Tryz.prog fn_impl_System_after [v, w, t.v] h (fun u h' => HS h [ow u (st.aft s t)] h') := by
  have FT := Rt.aSta
  obtain ⟨v1, v2, rfl, R1, R2'⟩ := Rep_Sy.1 R
  obtain ⟨⟨i, m, hi, hm, e1, e2⟩, hpt⟩ := hin
  have hp3 := hs.p3
  have hll := ht.len
  have hvl := ht.vs.len
  have hed : s.ed t.proc.toNat t.edge.toNat = s.procs[i].edges[m] := by rw [e1, e2, Int.toNat_natCast, Int.toNat_natCast, Sy.ed_eq hi hm]
  refine CallE.gen fun k hk => EN_impl_System_after rfl ?_
  simp -implicitDefEqProofs (disch := first | omega | (simp only [List.length_set, List.length_replicate, List.length_append, List.length_map, List.length_take, List.length_cons, List.length_nil]; omega)) [wrap64, FT]
  refine (c_State_copyOf Rt (by omega) (by omega)).go ?_
  intro o h1 HO
  obtain ⟨o1, o2, rfl, H⟩ := HO.unSta
  obtain ⟨we, w1, w2, hu, R3, hu2, ok, G1, G2⟩ := R2'.edge hi hm
  have hP := hld_parts (hload_le H.base hu)
  have hu3 := hload_le H.base hu2
  have hC1 := H.rep.one
  have hC2 := H.sw1.rep.one
  have heo := (hs.at hi).at hm
  have Re : Rep h (.agg (s.procs[i].edges[m].cs w1 w2).toArray) s.procs[i].edges[m] := Rep_Ed.2 ⟨w1, w2, rfl, ok, G1, G2⟩
  simp -implicitDefEqProofs (disch := first | omega | (simp only [List.length_set, List.length_replicate, List.length_append, List.length_map, List.length_take, List.length_cons, List.length_nil]; omega)) [wrap64, setC, hC1, hC2, Stp.v, e1, e2, R2'.X (n := 2) rfl, hP.1, hP.2.2.1, R3.X (n := 10) rfl, hu3]
  refine (c_take (s := s) hi ht heo Re H).go ?_
  intro _ h2 H
  have ht2 := Sta.tk_ok ht hi heo
  have hC1 := H.rep.one
  have hC2 := H.sw1.rep.one
  rcases hpt with hpt | ⟨j, n, hj, hn, e3, e4⟩
  · simp -implicitDefEqProofs (disch := first | omega | (simp only [List.length_set, List.length_replicate, List.length_append, List.length_map, List.length_take, List.length_cons, List.length_nil]; omega)) [wrap64, Stp.v, hpt, setC, hC1, hC2]
    refine RetK.keep (hk _ _ ?_)
    rw [Sta.aft, if_neg (by omega), hed, e1, Int.toNat_natCast]
    exact H.mkSta
  · have hed2 : s.ed t.partner.toNat t.pedge.toNat = s.procs[j].edges[n] := by rw [e3, e4, Int.toNat_natCast, Int.toNat_natCast, Sy.ed_eq hj hn]
    have heo2 := (hs.at hj).at hn
    obtain ⟨wf, x1, x2, hu, R3, hu2, ok, X1, X2⟩ := R2'.edge hj hn
    have hP := hld_parts (hload_le H.base hu)
    have hu3 := hload_le H.base hu2
    have Rf : Rep h (.agg (s.procs[j].edges[n].cs x1 x2).toArray) s.procs[j].edges[n] := Rep_Ed.2 ⟨x1, x2, rfl, ok, X1, X2⟩
    simp -implicitDefEqProofs (disch := first | omega | (simp only [List.length_set, List.length_replicate, List.length_append, List.length_map, List.length_take, List.length_cons, List.length_nil]; omega)) [wrap64, setC, hC1, hC2, Stp.v, e3, e4, R2'.X (n := 2) rfl, hP.1, hP.2.2.1, R3.X (n := 10) rfl, hu3]
    refine (c_take (s := s) hj ht2 heo2 Rf H).go ?_
    intro _ h3 H
    simp -implicitDefEqProofs (disch := first | omega | (simp only [List.length_set, List.length_replicate, List.length_append, List.length_map, List.length_take, List.length_cons, List.length_nil]; omega)) [wrap64, setC, hC1, hC2]
    refine RetK.keep (hk _ _ ?_)
    rw [Sta.aft, if_pos (by omega), hed, hed2, e1, e3, Int.toNat_natCast, Int.toNat_natCast]
    exact H.mkSta
theorem c_l3Apply {h : Heap} {v w : Value} {s : Sy} {st : Sta} {t : Stp} (hs : s.Ok) (ht : st.Ok s) (hin : t.In s) (R : Rep h v s) (Rt : Rep h w st) : CallE Tryz.prog fn_spec_l3Apply [v, w, t.v] h (fun u h' => HS h [ow u (st.aft s t)] h') := by
  have FT := Rt.aSta
  obtain ⟨v1, v2, rfl, R1, R2'⟩ := Rep_Sy.1 R
  obtain ⟨⟨i, m, hi, hm, e1, e2⟩, hpt⟩ := hin
  have hp3 := hs.p3
  have hll := ht.len
  have hvl := ht.vs.len
  have hed : s.ed t.proc.toNat t.edge.toNat = s.procs[i].edges[m] := by rw [e1, e2, Int.toNat_natCast, Int.toNat_natCast, Sy.ed_eq hi hm]
  refine CallE.gen fun k hk => EN_spec_l3Apply rfl ?_
  obtain ⟨t1, t2, rfl, T1, T2⟩ := Rep_Sta.1 Rt
  simp -implicitDefEqProofs (disch := first | omega | (simp only [List.length_set, List.length_replicate, List.length_append, List.length_map, List.length_take, List.length_cons, List.length_nil]; omega)) [wrap64]
  refine HS.appPL (α := Int) (l2 := st.locs) HS.init rfl rfl T1 rfl rfl (by omega) fun o1 h1 H => ?_
  simp -implicitDefEqProofs (disch := first | omega | (simp only [List.length_set, List.length_replicate, List.length_append, List.length_map, List.length_take, List.length_cons, List.length_nil]; omega)) [wrap64]
  refine HS.appPL (α := Int) (l2 := st.vals) H rfl rfl (T2.on H) rfl rfl (by omega) fun o2 h1 H => ?_
  replace H := H.sw1
  have hK1 := H.rep.cells
  have hK2 := H.sw1.rep.cells
  obtain ⟨we, w1, w2, hu, R3, hu2, ok, G1, G2⟩ := R2'.edge hi hm
  have hP := hld_parts (hload_le H.base hu)
  have hu3 := hload_le H.base hu2
  have hC1 := H.rep.one
  have hC2 := H.sw1.rep.one
  have heo := (hs.at hi).at hm
  have Re : Rep h (.agg (s.procs[i].edges[m].cs w1 w2).toArray) s.procs[i].edges[m] := Rep_Ed.2 ⟨w1, w2, rfl, ok, G1, G2⟩
  simp -implicitDefEqProofs (disch := first | omega | (simp only [List.length_set, List.length_replicate, List.length_append, List.length_map, List.length_take, List.length_cons, List.length_nil]; omega)) [wrap64, setC, hC1, hC2, hK1, hK2, Stp.v, e1, e2, R2'.X (n := 2) rfl, hP.1, hP.2.2.1, R3.X (n := 10) rfl, hu3]
  refine (c_l3Take (s := s) hi ht heo Re H).go ?_
  rintro _ h2 ⟨rfl, H⟩
  have ht2 := Sta.tk_ok ht hi heo
  have hC1 := H.rep.one
  have hC2 := H.sw1.rep.one
  rcases hpt with hpt | ⟨j, n, hj, hn, e3, e4⟩
  · simp -implicitDefEqProofs (disch := first | omega | (simp only [List.length_set, List.length_replicate, List.length_append, List.length_map, List.length_take, List.length_cons, List.length_nil]; omega)) [wrap64, Stp.v, hpt, setC, hC1, hC2]
    refine RetK.keep (hk _ _ ?_)
    rw [Sta.aft, if_neg (by omega), hed, e1, Int.toNat_natCast]
    exact H.mkSta
  · have hed2 : s.ed t.partner.toNat t.pedge.toNat = s.procs[j].edges[n] := by rw [e3, e4, Int.toNat_natCast, Int.toNat_natCast, Sy.ed_eq hj hn]
    have heo2 := (hs.at hj).at hn
    obtain ⟨wf, x1, x2, hu, R3, hu2, ok, X1, X2⟩ := R2'.edge hj hn
    have hP := hld_parts (hload_le H.base hu)
    have hu3 := hload_le H.base hu2
    have Rf : Rep h (.agg (s.procs[j].edges[n].cs x1 x2).toArray) s.procs[j].edges[n] := Rep_Ed.2 ⟨x1, x2, rfl, ok, X1, X2⟩
    simp -implicitDefEqProofs (disch := first | omega | (simp only [List.length_set, List.length_replicate, List.length_append, List.length_map, List.length_take, List.length_cons, List.length_nil]; omega)) [wrap64, setC, hC1, hC2, Stp.v, e3, e4, R2'.X (n := 2) rfl, hP.1, hP.2.2.1, R3.X (n := 10) rfl, hu3]
    refine (c_l3Take (s := s) hj ht2 heo2 Rf H).go ?_
    rintro _ h3 ⟨rfl, H⟩
    simp -implicitDefEqProofs (disch := first | omega | (simp only [List.length_set, List.length_replicate, List.length_append, List.length_map, List.length_take, List.length_cons, List.length_nil]; omega)) [wrap64, setC, hC1, hC2]
    refine RetK.keep (hk _ _ ?_)
    rw [Sta.aft, if_pos (by omega), hed, hed2, e1, e3, Int.toNat_natCast, Int.toNat_natCast]
    exact H.mkSta

end Go.Proofs.YtonjglbachhdcaaGreat

/-
  Equal states, and where a state lies in a list: by the program and by the reference.
-/
namespace Go.Proofs.YtonjglbachhdcaaGreat
open Go
set_option linter.all false
set_option linter.unusedVariables false
set_option linter.unusedSimpArgs false
set_option linter.defProp false
set_option maxRecDepth 1000000

theorem c_Equal_int {h : Heap} {a b : Value} {x y : List Int} (Ra : Rep h a x) (Rb : Rep h b y) : CallE Tryz.prog fn_slices_Equal_S_int_int [a, b] h (fun u h' => h' = h ∧ u = .bool (decide (x = y))) := by
  have hL := Ra.lt
  refine CallE.gen fun k hk => EN_slices_Equal_S_int_int rfl ?_
  by_cases hl : (x.length : Int) = y.length
  case neg =>
    simp -implicitDefEqProofs (disch := first | omega | (simp only [List.length_set, List.length_replicate, List.length_append, List.length_map, List.length_take, List.length_cons, List.length_nil]; omega)) [wrap64, Ra.len, Rb.len, hl]
    exact RetK.keep (hk _ _ ⟨rfl, by congr 1; rw [eq_comm, decide_eq_false_iff_not]; intro e; subst e; exact hl rfl⟩)
  simp -implicitDefEqProofs (disch := first | omega | (simp only [List.length_set, List.length_replicate, List.length_append, List.length_map, List.length_take, List.length_cons, List.length_nil]; omega)) [wrap64, Ra.len, Rb.len, hl]
  refine wp_count x.length (fun i e h' => e = [some a, some b, none, none, some (.int .i64 x.length), some (.int .i64 i)] ∧ h' = h ∧ x.take i = y.take i) ⟨by simp [hl], rfl, rfl⟩ ?_
  rintro J i _ h1 hJ hi ⟨rfl, rfl, hq⟩
  simp -implicitDefEqProofs (disch := first | omega | (simp only [List.length_set, List.length_replicate, List.length_append, List.length_map, List.length_take, List.length_cons, List.length_nil]; omega)) [wrap64]
  refine IteW.mk (fun hlt => ?_) (fun hge => ?_)
  · have hlx : i < x.length := by omega
    have hly : i < y.length := by omega
    by_cases he : x[i] = y[i]
    · simp -implicitDefEqProofs (disch := first | omega | (simp only [List.length_set, List.length_replicate, List.length_append, List.length_map, List.length_take, List.length_cons, List.length_nil]; omega)) [wrap64, Ra.I, Rb.I, he]
      exact hJ _ _ hlx ⟨rfl, rfl, take_step hq hlx hly he⟩
    · simp -implicitDefEqProofs (disch := first | omega | (simp only [List.length_set, List.length_replicate, List.length_append, List.length_map, List.length_take, List.length_cons, List.length_nil]; omega)) [wrap64, Ra.I, Rb.I, he]
      exact RetK.keep (hk _ _ ⟨rfl, by congr 1; rw [eq_comm, decide_eq_false_iff_not]; intro e; subst e; exact he rfl⟩)
  · simp -implicitDefEqProofs (disch := first | omega | (simp only [List.length_set, List.length_replicate, List.length_append, List.length_map, List.length_take, List.length_cons, List.length_nil]; omega)) [wrap64]
    rw [List.take_of_length_le (by omega), List.take_of_length_le (by omega)] at hq
    exact RetK.keep (hk _ _ ⟨rfl, by simp [hq]⟩)
theorem c_l2Ints {h : Heap} {a b : Value} {x y : List Int} (Ra : Rep h a x) (Rb : Rep h b y) : CallE Tryz.prog fn_spec_l2Ints [a, b] h (fun u h' => h' = h ∧ u = .bool (decide (x = y))) := by
  have hL := Ra.lt
  refine CallE.gen fun k hk => EN_spec_l2Ints rfl ?_
  by_cases hl : (x.length : Int) = y.length
  case neg =>
    simp -implicitDefEqProofs (disch := first | omega | (simp only [List.length_set, List.length_replicate, List.length_append, List.length_map, List.length_take, List.length_cons, List.length_nil]; omega)) [wrap64, Ra.len, Rb.len, hl]
    exact RetK.keep (hk _ _ ⟨rfl, by congr 1; rw [eq_comm, decide_eq_false_iff_not]; intro e; subst e; exact hl rfl⟩)
  simp -implicitDefEqProofs (disch := first | omega | (simp only [List.length_set, List.length_replicate, List.length_append, List.length_map, List.length_take, List.length_cons, List.length_nil]; omega)) [wrap64, Ra.len, Rb.len, hl]
  refine wp_count x.length (fun i e h' => e = [some a, some b, none, some (.int .i64 i)] ∧ h' = h ∧ x.take i = y.take i) ⟨by simp, rfl, rfl⟩ ?_
  rintro J i _ h1 hJ hi ⟨rfl, rfl, hq⟩
  simp -implicitDefEqProofs (disch := first | omega | (simp only [List.length_set, List.length_replicate, List.length_append, List.length_map, List.length_take, List.length_cons, List.length_nil]; omega)) [wrap64, Ra.len]
  refine IteW.mk (fun hlt => ?_) (fun hge => ?_)
  · have hlx : i < x.length := by omega
    have hly : i < y.length := by omega
    by_cases he : x[i] = y[i]
    · simp -implicitDefEqProofs (disch := first | omega | (simp only [List.length_set, List.length_replicate, List.length_append, List.length_map, List.length_take, List.length_cons, List.length_nil]; omega)) [wrap64, Ra.I, Rb.I, he]
      exact hJ _ _ hlx ⟨rfl, rfl, take_step hq hlx hly he⟩
    · simp -implicitDefEqProofs (disch := first | omega | (simp only [List.length_set, List.length_replicate, List.length_append, List.length_map, List.length_take, List.length_cons, List.length_nil]; omega)) [wrap64, Ra.I, Rb.I, he]
      exact RetK.keep (hk _ _ ⟨rfl, by congr 1; rw [eq_comm, decide_eq_false_iff_not]; intro e; subst e; exact he rfl⟩)
  · simp -implicitDefEqProofs (disch := first | omega | (simp only [List.length_set, List.length_replicate, List.length_append, List.length_map, List.length_take, List.length_cons, List.length_nil]; omega)) [wrap64]
    rw [List.take_of_length_le (by omega), List.take_of_length_le (by omega)] at hq
    exact RetK.keep (hk _ _ ⟨rfl, by simp [hq]⟩)
theorem c_StateSame {h : Heap} {v w : Value} {a b : Sta} (Ra : Rep h v a) (Rb : Rep h w b) : CallE Tryz.prog fn_impl_StateSame [v, w] h (fun u h' => h' = h ∧ u = .bool (decide (a = b))) := by
  obtain ⟨v1, v2, rfl, R1, R2⟩ := Rep_Sta.1 Ra
  obtain ⟨w1, w2, rfl, S1, S2⟩ := Rep_Sta.1 Rb
  refine CallE.gen fun k hk => EN_impl_StateSame rfl ?_
  simp -implicitDefEqProofs (disch := first | omega | (simp only [List.length_set, List.length_replicate, List.length_append, List.length_map, List.length_take, List.length_cons, List.length_nil]; omega)) [wrap64]
  refine (c_Equal_int R1 S1).go ?_
  rintro _ h ⟨rfl, rfl⟩
  by_cases h1 : a.locs = b.locs
  case neg =>
    simp -implicitDefEqProofs (disch := first | omega | (simp only [List.length_set, List.length_replicate, List.length_append, List.length_map, List.length_take, List.length_cons, List.length_nil]; omega)) [wrap64, h1]
    exact RetK.keep (hk _ _ ⟨rfl, by simp [Sta.ext_iff', h1]⟩)
  simp -implicitDefEqProofs (disch := first | omega | (simp only [List.length_set, List.length_replicate, List.length_append, List.length_map, List.length_take, List.length_cons, List.length_nil]; omega)) [wrap64, h1]
  refine (c_Equal_int R2 S2).go ?_
  rintro _ h ⟨rfl, rfl⟩
  simp -implicitDefEqProofs (disch := first | omega | (simp only [List.length_set, List.length_replicate, List.length_append, List.length_map, List.length_take, List.length_cons, List.length_nil]; omega)) [wrap64]
  exact RetK.keep (hk _ _ ⟨rfl, by simp [Sta.ext_iff', h1]⟩)
theorem c_spec_StateSame {h : Heap} {v w : Value} {a b : Sta} (Ra : Rep h v a) (Rb : Rep h w b) : CallE Tryz.prog fn_spec_StateSame [v, w] h (fun u h' => h' = h ∧ u = .bool (decide (a = b))) := by
  obtain ⟨v1, v2, rfl, R1, R2⟩ := Rep_Sta.1 Ra
  obtain ⟨w1, w2, rfl, S1, S2⟩ := Rep_Sta.1 Rb
  refine CallE.gen fun k hk => EN_spec_StateSame rfl ?_
  simp -implicitDefEqProofs (disch := first | omega | (simp only [List.length_set, List.length_replicate, List.length_append, List.length_map, List.length_take, List.length_cons, List.length_nil]; omega)) [wrap64]
  refine (c_l2Ints R1 S1).go ?_
  rintro _ h ⟨rfl, rfl⟩
  by_cases h1 : a.locs = b.locs
  case neg =>
    simp -implicitDefEqProofs (disch := first | omega | (simp only [List.length_set, List.length_replicate, List.length_append, List.length_map, List.length_take, List.length_cons, List.length_nil]; omega)) [wrap64, h1]
    exact RetK.keep (hk _ _ ⟨rfl, by simp [Sta.ext_iff', h1]⟩)
  simp -implicitDefEqProofs (disch := first | omega | (simp only [List.length_set, List.length_replicate, List.length_append, List.length_map, List.length_take, List.length_cons, List.length_nil]; omega)) [wrap64, h1]
  refine (c_l2Ints R2 S2).go ?_
  rintro _ h ⟨rfl, rfl⟩
  simp -implicitDefEqProofs (disch := first | omega | (simp only [List.length_set, List.length_replicate, List.length_append, List.length_map, List.length_take, List.length_cons, List.length_nil]; omega)) [wrap64]
  exact RetK.keep (hk _ _ ⟨rfl, by simp [Sta.ext_iff', h1]⟩)
theorem fx_at {xs : List Sta} {st : Sta} {i : Nat} (hi : i < xs.length) (he : xs[i] = st) (hn : ∀ (j : Nat) (hj : j < xs.length), j < i → xs[j] ≠ st) : fx xs st = i := by
  have : xs.findIdx? (fun y => decide (y = st)) = some i := by
    rw [List.findIdx?_eq_some_iff_getElem]
    exact ⟨hi, by simp [he], fun j hj => by simpa using hn j (by omega) hj⟩
  rw [fx, this]
theorem c_l4Find {h : Heap} {v w : Value} {xs : List Sta} {st : Sta} (R : Rep h v xs) (Rt : Rep h w st) : CallE Tryz.prog fn_spec_l4Find [v, w] h (fun u h' => h' = h ∧ u = .int .i64 (fx xs st)) := by
  have hL := R.lt
  have FT := Rt.aSta
  refine CallE.gen fun k hk => EN_spec_l4Find rfl ?_
  simp -implicitDefEqProofs (disch := first | omega | (simp only [List.length_set, List.length_replicate, List.length_append, List.length_map, List.length_take, List.length_cons, List.length_nil]; omega)) [wrap64]
  refine wp_count xs.length (fun i e h' => e = [some v, none, some w, none, some (.int .i64 i)] ∧ h' = h ∧ ∀ (j : Nat) (hj : j < xs.length), j < i → xs[j] ≠ st) ⟨by simp, rfl, fun j _ hj => absurd hj (Nat.not_lt_zero j)⟩ ?_
  rintro J i _ h hJ hi ⟨rfl, rfl, hn⟩
  simp -implicitDefEqProofs (disch := first | omega | (simp only [List.length_set, List.length_replicate, List.length_append, List.length_map, List.length_take, List.length_cons, List.length_nil]; omega)) [wrap64, R.len]
  refine IteW.mk (fun hlt => ?_) (fun hge => ?_)
  · have hlx : i < xs.length := by omega
    obtain ⟨u, hu, Ru⟩ := R.ld hlx
    change hload _ (some (elp 2 v i)) (some 2) = some u at hu
    simp -implicitDefEqProofs (disch := first | omega | (simp only [List.length_set, List.length_replicate, List.length_append, List.length_map, List.length_take, List.length_cons, List.length_nil]; omega)) [wrap64, R.X (n := 2) rfl, hu, FT, Ru.aSta]
    refine (c_spec_StateSame Ru Rt).go ?_
    rintro _ h ⟨rfl, rfl⟩
    by_cases e : xs[i] = st
    · simp -implicitDefEqProofs (disch := first | omega | (simp only [List.length_set, List.length_replicate, List.length_append, List.length_map, List.length_take, List.length_cons, List.length_nil]; omega)) [wrap64, e]
      exact RetK.keep (hk _ _ ⟨rfl, by rw [fx_at hlx e hn]⟩)
    · simp -implicitDefEqProofs (disch := first | omega | (simp only [List.length_set, List.length_replicate, List.length_append, List.length_map, List.length_take, List.length_cons, List.length_nil]; omega)) [wrap64, e]
      refine hJ _ _ hlx ⟨by simp, rfl, fun j hj hji => ?_⟩
      by_cases hji2 : j = i
      · subst hji2; exact e
      · exact hn j hj (by omega)
  · simp -implicitDefEqProofs (disch := first | omega | (simp only [List.length_set, List.length_replicate, List.length_append, List.length_map, List.length_take, List.length_cons, List.length_nil]; omega)) [wrap64]
    refine RetK.keep (hk _ _ ⟨rfl, ?_⟩)
    rw [fx_not]
    intro hm
    obtain ⟨j, hj, h1⟩ := List.mem_iff_getElem.1 hm
    exact hn j hj (by omega) h1
end Go.Proofs.YtonjglbachhdcaaGreat

/-
  Instances of functions over slices: copies, and whether some element meets a condition. Printed by a program.
-/
namespace Go.Proofs.YtonjglbachhdcaaGreat
open Go
set_option linter.all false
set_option linter.unusedVariables false
set_option linter.unusedSimpArgs false
set_option linter.defProp false
set_option maxRecDepth 1000000

theorem c_Clip_impl_State {g h : Heap} {Γ : List HP} {a : Value} {x : List (Sta)} (H : HS g (ow a x :: Γ) h) : CallE Tryz.prog fn_slices_Clip_S_impl_State_impl_State [a] h (fun v h' => HS g (ow v x :: Γ) h') := by
  refine CallE.gen fun k hk => EN_slices_Clip_S_impl_State_impl_State rfl ?_
  obtain ⟨v', h1, h2⟩ := H.clip (esz := 2) (k := .i64)
  simp -implicitDefEqProofs (disch := first | omega | (simp only [List.length_set, List.length_replicate, List.length_append, List.length_map, List.length_take, List.length_cons, List.length_nil]; omega)) [wrap64, H.rep.len, h1]
  exact RetK.keep (hk _ _ h2)

theorem c_Clip_S_int {g h : Heap} {Γ : List HP} {a : Value} {x : List (List Int)} (H : HS g (ow a x :: Γ) h) : CallE Tryz.prog fn_slices_Clip_S_S_int_S_int [a] h (fun v h' => HS g (ow v x :: Γ) h') := by
  refine CallE.gen fun k hk => EN_slices_Clip_S_S_int_S_int rfl ?_
  obtain ⟨v', h1, h2⟩ := H.clip (esz := 1) (k := .i64)
  simp -implicitDefEqProofs (disch := first | omega | (simp only [List.length_set, List.length_replicate, List.length_append, List.length_map, List.length_take, List.length_cons, List.length_nil]; omega)) [wrap64, H.rep.len, h1]
  exact RetK.keep (hk _ _ h2)

end Go.Proofs.YtonjglbachhdcaaGreat

/-
  Slices that are written out, with elements that are owned; a step in between.
-/
namespace Go.Proofs.YtonjglbachhdcaaGreat
open Go
set_option linter.all false
set_option linter.unusedVariables false
set_option linter.unusedSimpArgs false
set_option linter.defProp false
set_option maxRecDepth 1000000

/-- a slice that is written out, with one element that is owned -/
theorem HS.blsO1 {α : Type} [Ty α] {P : Program} {k : Env → Heap → Prop} {e : Env} {g h : Heap} {Γ : List HP} {u : Value} {y : α} (H : HS g (ow u y :: Γ) h) {esz : Nat} {zero : List Value} {parts : List (Nat × Nat × O)} {dst : Nat} (hf : fillP e (reps 1 zero) parts = some u.cells.toList)
    (K : ∀ v' h', HS g (ow v' [y] :: Γ) h' → k (eset e dst (some v')) h') : (A.ex (some dst) (.bls esz 1 zero parts)).wp P k e h := by
  obtain ⟨g1, ru, rfl, d2, ⟨cs, rfl, ho⟩, H⟩ := H
  have h1 := Ty.len (Ty.own_rep ho)
  rw [rep_cells (Ty.own_rep ho)] at hf
  refine ⟨_, hf, fun b el hb => Fgt.keep ?_⟩
  rw [set_new hb]
  have n1 : g1 b = none ∧ ru b = none := by simpa [Heap.add] using hb
  rw [add_assoc]
  refine K _ _ ⟨g1, _, rfl, Dj_add.2 ⟨d2, Dj_one.2 n1.1⟩, ?_, H⟩
  rw [(Dj_one.2 n1.2).comm]
  refine Own_list.2 (.inr ⟨b, 0, 1, cs, el, ru, rfl, ⟨Nat.le_refl _, by simp⟩, by simp [h1], rfl, n1.2, ?_⟩)
  exact ⟨ru, Heap.nil, by simp, by simp, by simpa [← h1] using ho, rfl⟩

theorem HS.blsO2 {α : Type} [Ty α] {P : Program} {k : Env → Heap → Prop} {e : Env} {g h : Heap} {Γ : List HP} {u u2 : Value} {y y2 : α} (H : HS g (ow u y :: ow u2 y2 :: Γ) h) {esz : Nat} {zero : List Value} {parts : List (Nat × Nat × O)} {dst : Nat} (hf : fillP e (reps 2 zero) parts = some (u.cells.toList ++ u2.cells.toList))
    (K : ∀ v' h', HS g (ow v' [y, y2] :: Γ) h' → k (eset e dst (some v')) h') : (A.ex (some dst) (.bls esz 2 zero parts)).wp P k e h := by
  obtain ⟨g0, ru, rfl, d2, ⟨cs, rfl, ho⟩, g1, ru2, rfl, d3, ⟨cs2, rfl, ho2⟩, H⟩ := H
  have h1 := Ty.len (Ty.own_rep ho)
  have h2 := Ty.len (Ty.own_rep ho2)
  rw [rep_cells (Ty.own_rep ho), rep_cells (Ty.own_rep ho2)] at hf
  obtain ⟨d4, d5⟩ := add_Dj.1 d2
  refine ⟨_, hf, fun b el hb => Fgt.keep ?_⟩
  rw [set_new hb]
  have n1 : (g1 b = none ∧ ru2 b = none) ∧ ru b = none := by simpa [Heap.add] using hb
  rw [add_assoc, add_assoc]
  refine K _ _ ⟨g1, _, rfl, Dj_add.2 ⟨d3, Dj_add.2 ⟨d4, Dj_one.2 n1.1.1⟩⟩, ?_, H⟩
  rw [← add_assoc, (Dj_one.2 (show (ru2.add ru) b = none by simp [Heap.add, n1])).comm]
  refine Own_list.2 (.inr ⟨b, 0, 2, cs ++ cs2, el, ru2.add ru, rfl, ⟨Nat.le_refl _, by simp⟩, by simp [h1, h2]; omega, rfl, by simp [Heap.add, n1], ?_⟩)
  rw [d5.comm]
  refine ⟨ru, ru2, rfl, d5.symm, by simpa [← h1] using ho, ru2, Heap.nil, by simp, by simp, ?_, rfl⟩
  have e1 : List.drop (Ty.sz α) (cs ++ cs2) = cs2 := by rw [← h1, List.drop_left]
  simp only [List.drop_zero]
  rw [e1, List.take_of_length_le (by omega)]
  exact ho2

/-- a step in between, within a region -/
theorem pl_cut {P : Program} {k : Env → Heap → Prop} {p : Pl} {e : Env} {h : Heap} (M : Env → Heap → Prop) (ha : ∀ J : Env → Heap → Prop, (∀ e h, M e h → J e h) → p.wp P J e h) (hb : ∀ e h, M e h → k e h) : p.wp P k e h := ha k hb

end Go.Proofs.YtonjglbachhdcaaGreat

/-
  The initial state, by the reference.
-/
namespace Go.Proofs.YtonjglbachhdcaaGreat
open Go
set_option linter.all false
set_option linter.unusedVariables false
set_option linter.unusedSimpArgs false
set_option linter.defProp false
set_option maxRecDepth 1000000

theorem c_spec_InitialState {h : Heap} {v : Value} {s : Sy} (R : Rep h v s) : CallE Tryz.prog fn_spec_InitialState [v] h (R2 (decide s.Ok) (if s.Ok then ini s else Sta.zero) h) := by
  have FS := R.aSy
  have R0 := R
  obtain ⟨v1, v2, rfl, R1, R2'⟩ := Rep_Sy.1 R
  refine CallE.gen fun k hk => EN_spec_InitialState rfl ?_
  simp -implicitDefEqProofs (disch := first | omega | (simp only [List.length_set, List.length_replicate, List.length_append, List.length_map, List.length_take, List.length_cons, List.length_nil]; omega)) [wrap64, FS]
  refine (c_spec_SystemValid R0).go ?_
  rintro _ h ⟨rfl, rfl⟩
  by_cases hs : s.Ok
  case neg =>
    simp -implicitDefEqProofs (disch := first | omega | (simp only [List.length_set, List.length_replicate, List.length_append, List.length_map, List.length_take, List.length_cons, List.length_nil]; omega)) [wrap64, hs, setC]
    exact RetK.keep (hk _ _ ⟨_, by rw [decide_eq_false hs], by rw [if_neg hs]; exact zero_St (Γ := []) (Heap.le.refl _)⟩)
  have hp3 := hs.p3
  have hvl := hs.vs.len
  simp -implicitDefEqProofs (disch := first | omega | (simp only [List.length_set, List.length_replicate, List.length_append, List.length_map, List.length_take, List.length_cons, List.length_nil]; omega)) [wrap64, hs, R2'.len]
  refine ⟨?_, ?_⟩
  · simp -implicitDefEqProofs (disch := first | omega | (simp only [List.length_set, List.length_replicate, List.length_append, List.length_map, List.length_take, List.length_cons, List.length_nil]; omega)) [wrap64]
    refine HS.init.mks (α := Int) (z := (0 : Int)) rfl rfl (own_zero (by decide) (by decide)) (Nat.le_refl _) (by omega) (by omega) fun o h1 H => ?_
    simp -implicitDefEqProofs (disch := first | omega | (simp only [List.length_set, List.length_replicate, List.length_append, List.length_map, List.length_take, List.length_cons, List.length_nil]; omega)) [wrap64]
    refine HS.appPL (α := Int) (l2 := s.init) H rfl rfl (R1.on H) rfl rfl (by omega) fun o2 h1 H => ?_
    simp -implicitDefEqProofs (disch := first | omega | (simp only [List.length_set, List.length_replicate, List.length_append, List.length_map, List.length_take, List.length_cons, List.length_nil]; omega)) [wrap64, setC, H.rep.cells, H.rep.one, H.sw1.rep.cells, H.sw1.rep.one]
    exact RetK.keep (hk _ _ ⟨_, by rw [decide_eq_true hs], by rw [if_pos hs]; exact HS.mkSta (a := ini s) H.sw1⟩)
  · simp -implicitDefEqProofs (disch := first | omega | (simp only [List.length_set, List.length_replicate, List.length_append, List.length_map, List.length_take, List.length_cons, List.length_nil]; omega)) [wrap64]
    refine HS.appPL (α := Int) (l2 := s.init) HS.init rfl rfl R1 rfl rfl (by omega) fun o2 h1 H => ?_
    simp -implicitDefEqProofs (disch := first | omega | (simp only [List.length_set, List.length_replicate, List.length_append, List.length_map, List.length_take, List.length_cons, List.length_nil]; omega)) [wrap64]
    refine H.mks (α := Int) (z := (0 : Int)) rfl rfl (own_zero (by decide) (by decide)) (Nat.le_refl _) (by omega) (by omega) fun o h1 H => ?_
    simp -implicitDefEqProofs (disch := first | omega | (simp only [List.length_set, List.length_replicate, List.length_append, List.length_map, List.length_take, List.length_cons, List.length_nil]; omega)) [wrap64, setC, H.rep.cells, H.rep.one, H.sw1.rep.cells, H.sw1.rep.one]
    exact RetK.keep (hk _ _ ⟨_, by rw [decide_eq_true hs], by rw [if_pos hs]; exact HS.mkSta (a := ini s) H⟩)
end Go.Proofs.YtonjglbachhdcaaGreat

/-
  The graph of a system: by the program.
-/
namespace Go.Proofs.YtonjglbachhdcaaGreat
open Go
set_option linter.all false
set_option linter.unusedVariables false
set_option linter.unusedSimpArgs false
set_option linter.defProp false
set_option maxRecDepth 1000000

theorem c_initial {h : Heap} {v : Value} {s : Sy} (hs : s.Ok) (R : Rep h v s) : CallE Tryz.prog fn_impl_System_initial [v] h (fun u h' => HS h [ow u (ini s)] h') := by
  obtain ⟨v1, v2, rfl, R1, R2'⟩ := Rep_Sy.1 R
  have hp3 := hs.p3
  have hvl := hs.vs.len
  refine CallE.gen fun k hk => EN_impl_System_initial rfl ?_
  simp -implicitDefEqProofs (disch := first | omega | (simp only [List.length_set, List.length_replicate, List.length_append, List.length_map, List.length_take, List.length_cons, List.length_nil]; omega)) [wrap64, R2'.len]
  refine ⟨?_, ?_⟩
  · simp -implicitDefEqProofs (disch := first | omega | (simp only [List.length_set, List.length_replicate, List.length_append, List.length_map, List.length_take, List.length_cons, List.length_nil]; omega)) [wrap64]
    refine HS.init.mks (α := Int) (z := (0 : Int)) rfl rfl (own_zero (by decide) (by decide)) (Nat.le_refl _) (by omega) (by omega) fun o h1 H => ?_
    simp -implicitDefEqProofs (disch := first | omega | (simp only [List.length_set, List.length_replicate, List.length_append, List.length_map, List.length_take, List.length_cons, List.length_nil]; omega)) [wrap64]
    refine (c_clone_int (R1.on H) (by omega)).go ?_
    intro u h2 G
    have H := G.app H
    simp -implicitDefEqProofs (disch := first | omega | (simp only [List.length_set, List.length_replicate, List.length_append, List.length_map, List.length_take, List.length_cons, List.length_nil]; omega)) [wrap64, setC, H.rep.cells, H.rep.one, H.sw1.rep.cells, H.sw1.rep.one]
    exact RetK.keep (hk _ _ (HS.mkSta (a := ini s) H.sw1))
  · simp -implicitDefEqProofs (disch := first | omega | (simp only [List.length_set, List.length_replicate, List.length_append, List.length_map, List.length_take, List.length_cons, List.length_nil]; omega)) [wrap64]
    refine (c_clone_int R1 (by omega)).go ?_
    intro u h2 H
    simp -implicitDefEqProofs (disch := first | omega | (simp only [List.length_set, List.length_replicate, List.length_append, List.length_map, List.length_take, List.length_cons, List.length_nil]; omega)) [wrap64]
    refine H.mks (α := Int) (z := (0 : Int)) rfl rfl (own_zero (by decide) (by decide)) (Nat.le_refl _) (by omega) (by omega) fun o h1 H => ?_
    simp -implicitDefEqProofs (disch := first | omega | (simp only [List.length_set, List.length_replicate, List.length_append, List.length_map, List.length_take, List.length_cons, List.length_nil]; omega)) [wrap64, setC, H.rep.cells, H.rep.one, H.sw1.rep.cells, H.sw1.rep.one]
    exact RetK.keep (hk _ _ (HS.mkSta (a := ini s) H))
theorem c_build_1 {h : Heap} {v w : Value} {a st : Sta} {b : Nat} (R : Rep h v a) (Rt : Rep h w st) (hb : hload h (some (.pointer (some ⟨b, 0, none⟩))) (some 2) = some w) :
    CallE Tryz.prog fn_impl_System_build_1 [v, .pointer (some ⟨b, 0, none⟩)] h (fun u h' => h.le h' ∧ u = .bool (decide (a = st))) := by
  have FS := R.aSta
  refine CallE.gen fun k hk => EN_impl_System_build_1 rfl ?_
  simp -implicitDefEqProofs (disch := first | omega | (simp only [List.length_set, List.length_replicate, List.length_append, List.length_map, List.length_take, List.length_cons, List.length_nil]; omega)) [wrap64, FS, hb]
  refine (c_StateSame R Rt).go ?_
  rintro _ h ⟨rfl, rfl⟩
  simp -implicitDefEqProofs (disch := first | omega | (simp only [List.length_set, List.length_replicate, List.length_append, List.length_map, List.length_take, List.length_cons, List.length_nil]; omega)) [wrap64]
  exact RetK.keep (hk _ _ ⟨Heap.le.refl _, rfl⟩)

theorem gN_at {s : Sy} {x : Sta} {n i : Nat} {xs : List Sta} {p : List Sta × List Int} (gi : GI s xs n p) (hi : i < xs.length) : ∃ h : i < p.1.length, p.1[i] = xs[i] := by
  obtain ⟨t, e⟩ := gi.pre
  have hl : i < p.1.length := by have := gi.ge; omega
  refine ⟨hl, ?_⟩
  have : p.1[i]? = xs[i]? := by rw [e, List.getElem?_append_left hi]
  rw [List.getElem?_eq_getElem hl, List.getElem?_eq_getElem hi] at this
  exact Option.some.inj this
theorem zero_Gr {g h : Heap} {Γ : List HP} (H : HS g Γ h) : HS g (ow (.agg #[.slice none 0 0, .slice none 0 0]) Gr.zero :: Γ) h := HS.mkGr (a := Gr.zero) H.nil_ow.nil_ow

theorem c_build {h : Heap} {v : Value} {s : Sy} (hs : s.Ok) (R : Rep h v s) : CallE Tryz.prog fn_impl_System_build [v] h (R2 (decide (bgOk s)) (bgR s) h) := by
  have FS := R.aSy
  have R0 := R
  obtain ⟨v1, v2, rfl, R1, R2'⟩ := Rep_Sy.1 R
  refine CallE.gen fun k hk => EN_impl_System_build rfl ?_
  have hno : ¬ bgOk s → ∀ {h'}, h.le h' → k (.tuple #[.agg #[.slice none 0 0, .slice none 0 0], .bool false]) h' := fun hn h' hl => hk _ _ ⟨_, by rw [decide_eq_false hn], by rw [bgR, if_neg hn]; exact zero_Gr (Γ := []) hl⟩
  simp -implicitDefEqProofs (disch := first | omega | (simp only [List.length_set, List.length_replicate, List.length_append, List.length_map, List.length_take, List.length_cons, List.length_nil]; omega)) [wrap64, FS]
  refine (c_initial hs R0).go ?_
  intro u h1 H
  obtain ⟨o1, o2, rfl, H'⟩ := H.unSta
  have hc1 := H'.rep.one
  have hc2 := H'.sw1.rep.one
  simp -implicitDefEqProofs (disch := first | omega | (simp only [List.length_set, List.length_replicate, List.length_append, List.length_map, List.length_take, List.length_cons, List.length_nil]; omega)) [wrap64, setC, hc1, hc2]
  refine HS.blsO1 H rfl fun xs h2 H => ?_
  simp -implicitDefEqProofs (disch := first | omega | (simp only [List.length_set, List.length_replicate, List.length_append, List.length_map, List.length_take, List.length_cons, List.length_nil]; omega)) [wrap64, setC, H.rep.cells, H.rep.one]
  refine wp_while (σ := Nat) (fun i e h' => ∃ xs nx, e = [none, some (.agg #[v1, v2]), some (.agg #[.slice none 0 0, .slice none 0 0]), none, some (.agg #[xs, nx]), some (.int .i64 i), none, none, none, none, none, none, none] ∧ HS h [ow xs (gN s i).states, ow nx (gN s i).next] h' ∧ i ≤ (gN s i).states.length ∧ (gN s i).states.length ≤ 60) (fun i => 61 - i) 0 ⟨xs, .slice none 0 0, by simp, H.nil_ow.sw1, by simp [gN], by simp [gN]⟩ ?_
  clear H hc1 hc2 H'
  rintro J i _ h3 hJ ⟨xs, nx, rfl, H, hi, h60⟩
  have inv := gN_inv hs i
  have hnl := inv.nl
  simp -implicitDefEqProofs (disch := first | omega | (simp only [List.length_set, List.length_replicate, List.length_append, List.length_map, List.length_take, List.length_cons, List.length_nil]; omega)) [wrap64, H.rep.len]
  refine IteW.mk (fun hlt => ?_) (fun hge => ?_)
  · have hlt : i < (gN s i).states.length := by omega
    have hxo := inv.ok _ (List.getElem_mem hlt)
    have hsucc := gN_succ hlt
    generalize hg : gN s i = g at *
    obtain ⟨x, hx⟩ : ∃ x, x = g.states[i] := ⟨_, rfl⟩
    rw [← hx] at hxo hsucc
    obtain ⟨u, hu, Ru⟩ := H.rep.ld hlt
    change hload _ (some (elp 2 xs i)) (some 2) = some u at hu
    rw [← hx] at Ru
    simp -implicitDefEqProofs (disch := first | omega | (simp only [List.length_set, List.length_replicate, List.length_append, List.length_map, List.length_take, List.length_cons, List.length_nil]; omega)) [wrap64, H.rep.X (n := 2) rfl, hu, Ru.aSta, FS]
    have hel := enb_len' (st := x) hs
    refine pl_cut (fun e' h' => ∃ el r, e' = none :: some (.agg #[v1, v2]) :: some (.agg #[.slice none 0 0, .slice none 0 0]) :: none :: some (.agg #[xs, nx]) :: some (.int .i64 i) :: some (.slice none 0 0) :: none :: none :: none :: some el :: some (.int .i64 (enb s x).length) :: some (.int .i64 0) :: r ∧ HS h [ow el (enb s x), ow xs g.states, ow nx g.next] h') (fun K hK => ?_) ?_
    · refine ⟨?_, ?_⟩
      · simp -implicitDefEqProofs (disch := first | omega | (simp only [List.length_set, List.length_replicate, List.length_append, List.length_map, List.length_take, List.length_cons, List.length_nil]; omega)) [wrap64]
        refine (c_enabled hs hxo (R0.on H) Ru).go ?_
        intro el h4 G
        have hu2 := hload_le G.base hu
        have H := G.app H
        refine ⟨?_, ?_⟩
        · simp -implicitDefEqProofs (disch := first | omega | (simp only [List.length_set, List.length_replicate, List.length_append, List.length_map, List.length_take, List.length_cons, List.length_nil]; omega)) [wrap64, H.rep.len, hu2]
          exact hK _ _ ⟨_, _, rfl, H⟩
        · simp -implicitDefEqProofs (disch := first | omega | (simp only [List.length_set, List.length_replicate, List.length_append, List.length_map, List.length_take, List.length_cons, List.length_nil]; omega)) [wrap64, H.rep.len, hu2]
          exact hK _ _ ⟨_, _, rfl, H⟩
      · simp -implicitDefEqProofs (disch := first | omega | (simp only [List.length_set, List.length_replicate, List.length_append, List.length_map, List.length_take, List.length_cons, List.length_nil]; omega)) [wrap64, hu]
        refine (c_enabled hs hxo (R0.on H) Ru).go ?_
        intro el h4 G
        have H := G.app H
        simp -implicitDefEqProofs (disch := first | omega | (simp only [List.length_set, List.length_replicate, List.length_append, List.length_map, List.length_take, List.length_cons, List.length_nil]; omega)) [wrap64, H.rep.len]
        exact hK _ _ ⟨_, _, rfl, H⟩
    clear H hu Ru u
    rintro _ h4 ⟨el, r, rfl, H⟩
    simp -implicitDefEqProofs (disch := first | omega | (simp only [List.length_set, List.length_replicate, List.length_append, List.length_map, List.length_take, List.length_cons, List.length_nil]; omega)) [wrap64]
    refine wp_count (enb s x).length (fun m e h' => ∃ xs q, e = [none, some (.agg #[v1, v2]), some (.agg #[.slice none 0 0, .slice none 0 0]), none, some (.agg #[xs, nx]), some (.int .i64 i), some q, none, none, none, some el, some (.int .i64 (enb s x).length), some (.int .i64 m)] ∧ HS h [ow xs (gF s x m g.states).1, ow q (gF s x m g.states).2, ow nx g.next, ow el (enb s x)] h') ⟨xs, .slice none 0 0, by simp, by rw [gF_zero]; exact (H.bk2.nil_ow (α := Int)).sw1⟩ ?_
    clear H r xs
    rintro J1 m _ h5 hJ1 hm ⟨xs, q, rfl, H⟩
    simp -implicitDefEqProofs (disch := first | omega | (simp only [List.length_set, List.length_replicate, List.length_append, List.length_map, List.length_take, List.length_cons, List.length_nil]; omega)) [wrap64]
    refine IteW.mk (fun hlt1 => ?_) (fun hge1 => ?_)
    · have hm : m < (enb s x).length := by omega
      have gi := gF_inv (xs := g.states) hs hxo inv.ok m (by omega)
      have hsu := gF_succ (xs := g.states) hm
      have hin := enb_in (List.getElem_mem hm)
      obtain ⟨t, ht⟩ : ∃ t, t = (enb s x)[m] := ⟨_, rfl⟩
      generalize gF s x m g.states = p at gi hsu H
      obtain ⟨hip, hxp⟩ := gN_at (x := x) gi hlt
      rw [← hx] at hxp
      rw [← ht] at hsu hin
      obtain ⟨u, hu, Ru⟩ := H.rep.ld hip
      change hload _ (some (elp 2 xs i)) (some 2) = some u at hu
      rw [hxp] at Ru
      have hst := Sta.aft_ok hs hxo hin
      have hl1 := gi.l1
      have hl2 := gi.l2
      simp -implicitDefEqProofs (disch := first | omega | (simp only [List.length_set, List.length_replicate, List.length_append, List.length_map, List.length_take, List.length_cons, List.length_nil]; omega)) [wrap64, H.sw3.rep.xStp, ← ht, H.rep.X (n := 2) rfl, hu, Stp.v, setC]
      refine pl_cut (fun e' h' => ∃ b o1 o2 r, e' = none :: some (.agg #[v1, v2]) :: some (.agg #[.slice none 0 0, .slice none 0 0]) :: none :: some (.agg #[xs, nx]) :: some (.int .i64 i) :: some q :: some t.v :: some (.pointer (some ⟨b, 0, none⟩)) :: none :: some el :: some (.int .i64 (enb s x).length) :: some (.int .i64 m) :: r ∧ HS h [bx b [o1, o2], ow (.agg #[o1, o2]) (x.aft s t), ow xs p.1, ow q p.2, ow nx g.next, ow el (enb s x)] h') (fun K hK => ?_) ?_
      · refine ⟨?_, ?_⟩
        · simp -implicitDefEqProofs (disch := first | omega | (simp only [List.length_set, List.length_replicate, List.length_append, List.length_map, List.length_take, List.length_cons, List.length_nil]; omega)) [wrap64, Stp.v]
          refine (c_after hs hxo hin (R0.on H) Ru).go ?_
          intro o h6 HO
          obtain ⟨o1, o2, rfl, HO2⟩ := HO.unSta
          have hC1 := HO2.rep.one
          have hC2 := HO2.sw1.rep.one
          simp -implicitDefEqProofs (disch := first | omega | (simp only [List.length_set, List.length_replicate, List.length_append, List.length_map, List.length_take, List.length_cons, List.length_nil]; omega)) [wrap64]
          refine HO.alloc rfl fun b h7 HO => ?_
          have hu2 := hload_le HO.base hu
          have H := HO.app H
          simp -implicitDefEqProofs (disch := first | omega | (simp only [List.length_set, List.length_replicate, List.length_append, List.length_map, List.length_take, List.length_cons, List.length_nil]; omega)) [wrap64, hu2]
          refine HS.bxst (o := 0) (sz := 2) (u := .agg #[o1, o2]) H rfl rfl rfl (by simp [hC1, hC2]) (by simp) fun h8 H => ?_
          simp -implicitDefEqProofs (disch := first | omega | (simp only [List.length_set, List.length_replicate, List.length_append, List.length_map, List.length_take, List.length_cons, List.length_nil]; omega)) [wrap64]
          exact hK _ _ ⟨b, o1, o2, _, rfl, H⟩
        · simp -implicitDefEqProofs (disch := first | omega | (simp only [List.length_set, List.length_replicate, List.length_append, List.length_map, List.length_take, List.length_cons, List.length_nil]; omega)) [wrap64, Stp.v]
          refine (HS.init (h := h5)).alloc rfl fun b h6 G => ?_
          have hu2 := hload_le G.base hu
          have H := G.app H
          simp -implicitDefEqProofs (disch := first | omega | (simp only [List.length_set, List.length_replicate, List.length_append, List.length_map, List.length_take, List.length_cons, List.length_nil]; omega)) [wrap64, hu2]
          refine (c_after hs hxo hin (R0.on H) (Ru.on G)).go ?_
          intro o h6 HO
          obtain ⟨o1, o2, rfl, HO2⟩ := HO.unSta
          have hC1 := HO2.rep.one
          have hC2 := HO2.sw1.rep.one
          have H := (HO.app H).sw1
          simp -implicitDefEqProofs (disch := first | omega | (simp only [List.length_set, List.length_replicate, List.length_append, List.length_map, List.length_take, List.length_cons, List.length_nil]; omega)) [wrap64]
          refine HS.bxst (o := 0) (sz := 2) (u := .agg #[o1, o2]) H rfl rfl rfl (by simp [hC1, hC2]) (by simp) fun h8 H => ?_
          simp -implicitDefEqProofs (disch := first | omega | (simp only [List.length_set, List.length_replicate, List.length_append, List.length_map, List.length_take, List.length_cons, List.length_nil]; omega)) [wrap64]
          exact hK _ _ ⟨b, o1, o2, _, rfl, H⟩
      rintro _ h6 ⟨b, o1, o2, r, rfl, H⟩
      have hb : hload h6 (some (.pointer (some ⟨b, 0, none⟩))) (some 2) = some (.agg #[o1, o2]) := H.bxlds (o := 0) (n := 2) (by simp)
      simp -implicitDefEqProofs (disch := first | omega | (simp only [List.length_set, List.length_replicate, List.length_append, List.length_map, List.length_take, List.length_cons, List.length_nil]; omega)) [wrap64]
      refine (c_IndexFunc_impl_State H.sw2.rep (c1 := []) (c2 := [.pointer (some ⟨b, 0, none⟩)]) (f := fn_impl_System_build_1) rfl (fun y => decide (y = x.aft s t)) ?_).go ?_
      · intro h7 hl j hj w Rw
        exact c_build_1 Rw (H.sw1.rep.le hl) (hload_le hl hb)
      rintro _ h7 ⟨l7, hv⟩
      have hv : _ = Value.int .i64 (fx p.1 (x.aft s t)) := hv
      subst hv
      have hb := hload_le l7 hb
      have H := H.le l7
      by_cases q1 : x.aft s t ∈ p.1
      · obtain ⟨i', hi', e1, e2⟩ := fx_mem q1
        simp -implicitDefEqProofs (disch := first | omega | (simp only [List.length_set, List.length_replicate, List.length_append, List.length_map, List.length_take, List.length_cons, List.length_nil]; omega)) [wrap64, e1, show ¬ ((i' : Int) < 0) by omega]
        refine (c_Contains_int H.sw3.rep).go ?_
        rintro _ h8 ⟨rfl, rfl⟩
        by_cases q2 : (i' : Int) ∈ p.2
        · simp -implicitDefEqProofs (disch := first | omega | (simp only [List.length_set, List.length_replicate, List.length_append, List.length_map, List.length_take, List.length_cons, List.length_nil]; omega)) [wrap64, q2]
          refine hJ1 _ _ hm ⟨xs, q, by simp, ?_⟩
          rw [hsu, g1]
          simp only [adS, atS, q1, if_pos, if_neg, not_false_eq_true, e1, adI, q2]
          exact H.drop.drop
        · simp -implicitDefEqProofs (disch := first | omega | (simp only [List.length_set, List.length_replicate, List.length_append, List.length_map, List.length_take, List.length_cons, List.length_nil]; omega)) [wrap64, q2, setC]
          refine HS.app1 (bytes := 8) H.sw3 (i' : Int) rfl rfl rfl (by exact ⟨by omega, by omega⟩) rfl rfl (by omega) (by omega) fun q' h9 H => ?_
          simp -implicitDefEqProofs (disch := first | omega | (simp only [List.length_set, List.length_replicate, List.length_append, List.length_map, List.length_take, List.length_cons, List.length_nil]; omega)) [wrap64]
          refine hJ1 _ _ hm ⟨xs, q', by simp, ?_⟩
          rw [hsu, g1]
          simp only [adS, atS, q1, if_pos, if_neg, not_false_eq_true, e1, adI, q2]
          exact H.bk3.drop.drop
      · have e1 : (p.1.length : Int) = p.1.length := rfl
        have hC1 := H.sw1.rep.aSta
        simp -implicitDefEqProofs (disch := first | omega | (simp only [List.length_set, List.length_replicate, List.length_append, List.length_map, List.length_take, List.length_cons, List.length_nil]; omega)) [wrap64, fx_not q1, H.sw2.rep.len, hb, setC, hC1]
        refine HS.appO (bytes := 48) (H.drop.sw1.bk1) rfl rfl rfl rfl rfl (by omega) (by omega) fun xs' h8 H => ?_
        simp -implicitDefEqProofs (disch := first | omega | (simp only [List.length_set, List.length_replicate, List.length_append, List.length_map, List.length_take, List.length_cons, List.length_nil]; omega)) [wrap64, setC, H.rep.cells, H.rep.one]
        refine (c_Contains_int H.sw1.rep).go ?_
        rintro _ h8 ⟨rfl, rfl⟩
        by_cases q2 : (p.1.length : Int) ∈ p.2
        · simp -implicitDefEqProofs (disch := first | omega | (simp only [List.length_set, List.length_replicate, List.length_append, List.length_map, List.length_take, List.length_cons, List.length_nil]; omega)) [wrap64, q2]
          refine hJ1 _ _ hm ⟨xs', q, by simp, ?_⟩
          rw [hsu, g1]
          simp only [adS, atS, q1, if_pos, if_neg, not_false_eq_true, e1, adI, q2]
          exact H
        · simp -implicitDefEqProofs (disch := first | omega | (simp only [List.length_set, List.length_replicate, List.length_append, List.length_map, List.length_take, List.length_cons, List.length_nil]; omega)) [wrap64, q2, setC]
          refine HS.app1 (bytes := 8) H.sw1 (p.1.length : Int) rfl rfl rfl (by exact ⟨by omega, by omega⟩) rfl rfl (by omega) (by omega) fun q' h9 H => ?_
          simp -implicitDefEqProofs (disch := first | omega | (simp only [List.length_set, List.length_replicate, List.length_append, List.length_map, List.length_take, List.length_cons, List.length_nil]; omega)) [wrap64]
          refine hJ1 _ _ hm ⟨xs', q', by simp, ?_⟩
          rw [hsu, g1]
          simp only [adS, atS, q1, if_pos, if_neg, not_false_eq_true, e1, adI, q2]
          exact H.sw1
    obtain rfl : m = (enb s x).length := by omega
    have gi := gF_inv (xs := g.states) hs hxo inv.ok _ (Nat.le_refl (enb s x).length)
    generalize gF s x (enb s x).length g.states = p at gi hsucc H
    have hge := gi.ge
    have hl2 := gi.l2
    by_cases q0 : p.2 = []
    · have hl0 : (p.2.length : Int) = 0 := by rw [q0]; rfl
      simp -implicitDefEqProofs (disch := first | omega | (simp only [List.length_set, List.length_replicate, List.length_append, List.length_map, List.length_take, List.length_cons, List.length_nil]; omega)) [wrap64, H.sw1.rep.len, hl0]
      refine H.bls [(i : Int)] rfl rfl (by simp; exact ⟨by omega, by omega⟩) (by decide) fun q' h6 H => ?_
      simp -implicitDefEqProofs (disch := first | omega | (simp only [List.length_set, List.length_replicate, List.length_append, List.length_map, List.length_take, List.length_cons, List.length_nil]; omega)) [wrap64]
      have H : HS h [ow q' (nxS i p.2), ow xs p.1, ow q p.2, ow nx g.next, ow el (enb s x)] h6 := by rw [nxS, if_pos q0]; exact H
      replace H := H.sw2.drop
      refine (c_Clip_int (x := nxS i p.2) H).go ?_
      intro q' h6 H
      have hcl := H.rep.cells
      simp -implicitDefEqProofs (disch := first | omega | (simp only [List.length_set, List.length_replicate, List.length_append, List.length_map, List.length_take, List.length_cons, List.length_nil]; omega)) [wrap64, setC, H.rep.cells, H.rep.one]
      refine HS.appO (bytes := 24) H.sw2.sw1 rfl rfl (by rw [hcl]) rfl rfl (by omega) (by omega) fun nx' h7 H => ?_
      simp -implicitDefEqProofs (disch := first | omega | (simp only [List.length_set, List.length_replicate, List.length_append, List.length_map, List.length_take, List.length_cons, List.length_nil]; omega)) [wrap64, setC, H.rep.cells, H.rep.one, H.sw1.rep.len]
      by_cases q2 : 60 < (p.1.length : Int)
      · simp -implicitDefEqProofs (disch := first | omega | (simp only [List.length_set, List.length_replicate, List.length_append, List.length_map, List.length_take, List.length_cons, List.length_nil]; omega)) [wrap64, q2, setC]
        exact RetK.keep (hno (bg_big (n := i + 1) hs (by omega) (by rw [hsucc]; simp only; omega)) H.base)
      · simp -implicitDefEqProofs (disch := first | omega | (simp only [List.length_set, List.length_replicate, List.length_append, List.length_map, List.length_take, List.length_cons, List.length_nil]; omega)) [wrap64, q2]
        exact hJ (i + 1) _ _ (by omega) ⟨xs, nx', by simp, by rw [hsucc]; exact H.sw1.sw2.drop, by rw [hsucc]; simp only; omega, by rw [hsucc]; simp only; omega⟩
    · have hl0 : ¬ (p.2.length : Int) = 0 := fun e => q0 (List.length_eq_zero_iff.1 (by omega))
      simp -implicitDefEqProofs (disch := first | omega | (simp only [List.length_set, List.length_replicate, List.length_append, List.length_map, List.length_take, List.length_cons, List.length_nil]; omega)) [wrap64, H.sw1.rep.len, q0]
      have H : HS h [ow q (nxS i p.2), ow xs p.1, ow nx g.next, ow el (enb s x)] h5 := by rw [nxS, if_neg q0]; exact H.sw1
      refine (c_Clip_int (x := nxS i p.2) H).go ?_
      intro q' h6 H
      have hcl := H.rep.cells
      simp -implicitDefEqProofs (disch := first | omega | (simp only [List.length_set, List.length_replicate, List.length_append, List.length_map, List.length_take, List.length_cons, List.length_nil]; omega)) [wrap64, setC, H.rep.cells, H.rep.one]
      refine HS.appO (bytes := 24) H.sw2.sw1 rfl rfl (by rw [hcl]) rfl rfl (by omega) (by omega) fun nx' h7 H => ?_
      simp -implicitDefEqProofs (disch := first | omega | (simp only [List.length_set, List.length_replicate, List.length_append, List.length_map, List.length_take, List.length_cons, List.length_nil]; omega)) [wrap64, setC, H.rep.cells, H.rep.one, H.sw1.rep.len]
      by_cases q2 : 60 < (p.1.length : Int)
      · simp -implicitDefEqProofs (disch := first | omega | (simp only [List.length_set, List.length_replicate, List.length_append, List.length_map, List.length_take, List.length_cons, List.length_nil]; omega)) [wrap64, q2, setC]
        exact RetK.keep (hno (bg_big (n := i + 1) hs (by omega) (by rw [hsucc]; simp only; omega)) H.base)
      · simp -implicitDefEqProofs (disch := first | omega | (simp only [List.length_set, List.length_replicate, List.length_append, List.length_map, List.length_take, List.length_cons, List.length_nil]; omega)) [wrap64, q2]
        exact hJ (i + 1) _ _ (by omega) ⟨xs, nx', by simp, by rw [hsucc]; exact H.sw1.sw2.drop, by rw [hsucc]; simp only; omega, by rw [hsucc]; simp only; omega⟩
  · simp -implicitDefEqProofs (disch := first | omega | (simp only [List.length_set, List.length_replicate, List.length_append, List.length_map, List.length_take, List.length_cons, List.length_nil]; omega)) [wrap64]
    obtain ⟨b1, b2⟩ := bg_end (n := i) hs (by omega) (by omega)
    rw [b2] at H
    refine (c_Clip_impl_State H).go ?_
    intro xs' h4 H
    simp -implicitDefEqProofs (disch := first | omega | (simp only [List.length_set, List.length_replicate, List.length_append, List.length_map, List.length_take, List.length_cons, List.length_nil]; omega)) [wrap64]
    refine (c_Clip_S_int H.sw1).go ?_
    intro nx' h5 H
    simp -implicitDefEqProofs (disch := first | omega | (simp only [List.length_set, List.length_replicate, List.length_append, List.length_map, List.length_take, List.length_cons, List.length_nil]; omega)) [wrap64, setC, H.rep.cells, H.rep.one, H.sw1.rep.cells, H.sw1.rep.one]
    exact RetK.keep (hk _ _ ⟨_, by rw [decide_eq_true b1], HS.mkGr H.sw1⟩)
end Go.Proofs.YtonjglbachhdcaaGreat

/-
  The graph of a system: by the reference; both as functions of the package.
-/
namespace Go.Proofs.YtonjglbachhdcaaGreat
open Go
set_option linter.all false
set_option linter.unusedVariables false
set_option linter.unusedSimpArgs false
set_option linter.defProp false
set_option maxRecDepth 1000000

theorem gF_mono {s : Sy} {x : Sta} {xs : List Sta} {n m : Nat} (h : n ≤ m) (hm : m ≤ (enb s x).length) : (gF s x n xs).1.length ≤ (gF s x m xs).1.length := by
  induction m with
  | zero => have : n = 0 := by omega
            subst this; exact Nat.le_refl _
  | succ m ih =>
    by_cases e : n = m + 1
    · subst e; exact Nat.le_refl _
    refine Nat.le_trans (ih (by omega) (by omega)) ?_
    rw [gF_succ (by omega)]
    exact adS_ge
theorem c_spec_BuildGraph {h : Heap} {v : Value} {s : Sy} (R : Rep h v s) : CallE Tryz.prog fn_spec_BuildGraph [v] h (R2 (decide (bgOk s)) (bgR s) h) := by
  have FS := R.aSy
  have R0 := R
  obtain ⟨v1, v2, rfl, R1, R2'⟩ := Rep_Sy.1 R
  refine CallE.gen fun k hk => EN_spec_BuildGraph rfl ?_
  have hno : ¬ bgOk s → ∀ {h'}, h.le h' → k (.tuple #[.agg #[.slice none 0 0, .slice none 0 0], .bool false]) h' := fun hn h' hl => hk _ _ ⟨_, by rw [decide_eq_false hn], by rw [bgR, if_neg hn]; exact zero_Gr (Γ := []) hl⟩
  simp -implicitDefEqProofs (disch := first | omega | (simp only [List.length_set, List.length_replicate, List.length_append, List.length_map, List.length_take, List.length_cons, List.length_nil]; omega)) [wrap64, FS]
  refine (c_spec_InitialState R0).go ?_
  rintro _ h1 ⟨u, rfl, H⟩
  obtain ⟨o1, o2, rfl, H'⟩ := H.unSta
  have hc1 := H'.rep.one
  have hc2 := H'.sw1.rep.one
  by_cases hs : s.Ok
  case neg =>
    simp -implicitDefEqProofs (disch := first | omega | (simp only [List.length_set, List.length_replicate, List.length_append, List.length_map, List.length_take, List.length_cons, List.length_nil]; omega)) [wrap64, hs, setC, hc1, hc2]
    exact RetK.keep (hno (fun hb => hs hb.1) H.base)
  rw [if_pos hs] at H
  simp -implicitDefEqProofs (disch := first | omega | (simp only [List.length_set, List.length_replicate, List.length_append, List.length_map, List.length_take, List.length_cons, List.length_nil]; omega)) [wrap64, hs, setC, hc1, hc2]
  refine HS.blsO1 H rfl fun xs h2 H => ?_
  simp -implicitDefEqProofs (disch := first | omega | (simp only [List.length_set, List.length_replicate, List.length_append, List.length_map, List.length_take, List.length_cons, List.length_nil]; omega)) [wrap64, setC, H.rep.cells, H.rep.one]
  refine wp_while (σ := Nat) (fun i e h' => ∃ xs nx, e = [none, some (.agg #[v1, v2]), some (.agg #[.slice none 0 0, .slice none 0 0]), none, none, none, some (.agg #[xs, nx]), some (.int .i64 i), none, none, none, none, none] ∧ HS h [ow xs (gN s i).states, ow nx (gN s i).next] h' ∧ i ≤ (gN s i).states.length ∧ (gN s i).states.length ≤ 60) (fun i => 61 - i) 0 ⟨xs, .slice none 0 0, by simp, H.nil_ow.sw1, by simp [gN], by simp [gN]⟩ ?_
  clear H hc1 hc2 H'
  rintro J i _ h3 hJ ⟨xs, nx, rfl, H, hi, h60⟩
  have inv := gN_inv hs i
  have hnl := inv.nl
  simp -implicitDefEqProofs (disch := first | omega | (simp only [List.length_set, List.length_replicate, List.length_append, List.length_map, List.length_take, List.length_cons, List.length_nil]; omega)) [wrap64, H.rep.len]
  refine IteW.mk (fun hlt => ?_) (fun hge => ?_)
  · have hlt : i < (gN s i).states.length := by omega
    have hxo := inv.ok _ (List.getElem_mem hlt)
    have hsucc := gN_succ hlt
    generalize hg : gN s i = g at *
    obtain ⟨x, hx⟩ : ∃ x, x = g.states[i] := ⟨_, rfl⟩
    rw [← hx] at hxo hsucc
    obtain ⟨u, hu, Ru⟩ := H.rep.ld hlt
    change hload _ (some (elp 2 xs i)) (some 2) = some u at hu
    rw [← hx] at Ru
    have hel := enb_len' (st := x) hs
    simp -implicitDefEqProofs (disch := first | omega | (simp only [List.length_set, List.length_replicate, List.length_append, List.length_map, List.length_take, List.length_cons, List.length_nil]; omega)) [wrap64, H.rep.X (n := 2) rfl, hu, Ru.aSta, FS]
    refine (c_l3Steps hs hxo (R0.on H) Ru).go ?_
    intro el h4 G
    have H := G.app H
    simp -implicitDefEqProofs (disch := first | omega | (simp only [List.length_set, List.length_replicate, List.length_append, List.length_map, List.length_take, List.length_cons, List.length_nil]; omega)) [wrap64]
    refine H.bls0 Int fun q h5 H => ?_
    simp -implicitDefEqProofs (disch := first | omega | (simp only [List.length_set, List.length_replicate, List.length_append, List.length_map, List.length_take, List.length_cons, List.length_nil]; omega)) [wrap64]
    refine wp_count (enb s x).length (fun m e h' => ∃ xs q, e = [none, some (.agg #[v1, v2]), some (.agg #[.slice none 0 0, .slice none 0 0]), none, none, none, some (.agg #[xs, nx]), some (.int .i64 i), some el, some q, some (.int .i64 m), none, none] ∧ HS h [ow xs (gF s x m g.states).1, ow q (gF s x m g.states).2, ow nx g.next, ow el (enb s x)] h' ∧ (gF s x m g.states).1.length ≤ 60) ⟨xs, q, by simp, by rw [gF_zero]; exact H.sw1.bk3.sw1, by rw [gF_zero]; exact h60⟩ ?_
    clear H
    rintro J1 m _ h5 hJ1 hm ⟨xs, q, rfl, H, hp60⟩
    simp -implicitDefEqProofs (disch := first | omega | (simp only [List.length_set, List.length_replicate, List.length_append, List.length_map, List.length_take, List.length_cons, List.length_nil]; omega)) [wrap64, H.sw3.rep.len]
    refine IteW.mk (fun hlt1 => ?_) (fun hge1 => ?_)
    · have hm : m < (enb s x).length := by omega
      have gi := gF_inv (xs := g.states) hs hxo inv.ok m (by omega)
      have hsu := gF_succ (xs := g.states) hm
      have hin := enb_in (List.getElem_mem hm)
      have hmo := gF_mono (s := s) (x := x) (xs := g.states) (show m + 1 ≤ (enb s x).length by omega) (Nat.le_refl _)
      obtain ⟨t, ht⟩ : ∃ t, t = (enb s x)[m] := ⟨_, rfl⟩
      generalize gF s x m g.states = p at gi hsu H hp60
      obtain ⟨hip, hxp⟩ := gN_at (x := x) gi hlt
      rw [← hx] at hxp
      rw [← ht] at hsu hin
      have hbig : 60 < (g1 p (x.aft s t)).1.length → ¬ bgOk s := fun hh => bg_big (n := i + 1) hs (by omega) (by rw [hsucc]; rw [hsu] at hmo; simp only; omega)
      obtain ⟨u, hu, Ru⟩ := H.rep.ld hip
      change hload _ (some (elp 2 xs i)) (some 2) = some u at hu
      rw [hxp] at Ru
      have hst := Sta.aft_ok hs hxo hin
      have hl1 := gi.l1
      have hl2 := gi.l2
      simp -implicitDefEqProofs (disch := first | omega | (simp only [List.length_set, List.length_replicate, List.length_append, List.length_map, List.length_take, List.length_cons, List.length_nil]; omega)) [wrap64, H.sw3.rep.xStp, ← ht, H.rep.X (n := 2) rfl, hu, Stp.v, setC, Ru.aSta, FS]
      refine (c_l3Apply hs hxo hin (R0.on H) Ru).go ?_
      intro o h6 HO
      have hC0 := HO.rep.aSta
      obtain ⟨o1, o2, rfl, HO2⟩ := HO.unSta
      have hC1 := HO2.rep.one
      have hC2 := HO2.sw1.rep.one
      have H := HO.app H
      simp -implicitDefEqProofs (disch := first | omega | (simp only [List.length_set, List.length_replicate, List.length_append, List.length_map, List.length_take, List.length_cons, List.length_nil]; omega)) [wrap64, hC1, hC2, setC]
      refine (c_l4Find H.sw1.rep H.rep).go ?_
      rintro _ h6 ⟨rfl, rfl⟩
      by_cases q1 : x.aft s t ∈ p.1
      · obtain ⟨i', hi', e1, e2⟩ := fx_mem q1
        simp -implicitDefEqProofs (disch := first | omega | (simp only [List.length_set, List.length_replicate, List.length_append, List.length_map, List.length_take, List.length_cons, List.length_nil]; omega)) [wrap64, e1, show ¬ ((i' : Int) < 0) by omega]
        by_cases q3 : (60 : Int) ≤ (i' : Int)
        · simp -implicitDefEqProofs (disch := first | omega | (simp only [List.length_set, List.length_replicate, List.length_append, List.length_map, List.length_take, List.length_cons, List.length_nil]; omega)) [wrap64, q3, setC]
          exact RetK.keep (hno (hbig (by omega)) H.base)
        simp -implicitDefEqProofs (disch := first | omega | (simp only [List.length_set, List.length_replicate, List.length_append, List.length_map, List.length_take, List.length_cons, List.length_nil]; omega)) [wrap64, q3]
        refine (c_l4In H.sw2.rep).go ?_
        rintro _ h8 ⟨rfl, rfl⟩
        by_cases q2 : (i' : Int) ∈ p.2
        · simp -implicitDefEqProofs (disch := first | omega | (simp only [List.length_set, List.length_replicate, List.length_append, List.length_map, List.length_take, List.length_cons, List.length_nil]; omega)) [wrap64, q2]
          refine hJ1 _ _ hm ⟨xs, q, by simp, ?_, ?_⟩
          · rw [hsu, g1]
            simp only [adS, atS, q1, if_pos, if_neg, not_false_eq_true, e1, adI, q2]
            exact H.drop
          · rw [hsu, g1]
            simp only [adS, q1, if_pos, if_neg, not_false_eq_true]
            exact hp60
        · simp -implicitDefEqProofs (disch := first | omega | (simp only [List.length_set, List.length_replicate, List.length_append, List.length_map, List.length_take, List.length_cons, List.length_nil]; omega)) [wrap64, q2, setC]
          refine HS.app1 (bytes := 8) H.sw2 (i' : Int) rfl rfl rfl ⟨by omega, by omega⟩ rfl rfl (by omega) (by omega) fun q' h9 H => ?_
          simp -implicitDefEqProofs (disch := first | omega | (simp only [List.length_set, List.length_replicate, List.length_append, List.length_map, List.length_take, List.length_cons, List.length_nil]; omega)) [wrap64]
          refine hJ1 _ _ hm ⟨xs, q', by simp, ?_, ?_⟩
          · rw [hsu, g1]
            simp only [adS, atS, q1, if_pos, if_neg, not_false_eq_true, e1, adI, q2]
            exact H.bk2.drop
          · rw [hsu, g1]
            simp only [adS, q1, if_pos, if_neg, not_false_eq_true]
            exact hp60
      · have e1 : (p.1.length : Int) = p.1.length := rfl
        simp -implicitDefEqProofs (disch := first | omega | (simp only [List.length_set, List.length_replicate, List.length_append, List.length_map, List.length_take, List.length_cons, List.length_nil]; omega)) [wrap64, fx_not q1, H.sw1.rep.len, hC1, hC2, setC]
        refine HS.appO (bytes := 48) H rfl rfl rfl rfl rfl (by omega) (by omega) fun xs' h8 H => ?_
        simp -implicitDefEqProofs (disch := first | omega | (simp only [List.length_set, List.length_replicate, List.length_append, List.length_map, List.length_take, List.length_cons, List.length_nil]; omega)) [wrap64, setC, H.rep.cells, H.rep.one]
        by_cases q3 : (60 : Int) ≤ (p.1.length : Int)
        · simp -implicitDefEqProofs (disch := first | omega | (simp only [List.length_set, List.length_replicate, List.length_append, List.length_map, List.length_take, List.length_cons, List.length_nil]; omega)) [wrap64, q3, setC]
          exact RetK.keep (hno (hbig (by simp only [g1, adS, if_neg q1, List.length_append, List.length_singleton]; omega)) H.base)
        simp -implicitDefEqProofs (disch := first | omega | (simp only [List.length_set, List.length_replicate, List.length_append, List.length_map, List.length_take, List.length_cons, List.length_nil]; omega)) [wrap64, q3]
        refine (c_l4In H.sw1.rep).go ?_
        rintro _ h8 ⟨rfl, rfl⟩
        by_cases q2 : (p.1.length : Int) ∈ p.2
        · simp -implicitDefEqProofs (disch := first | omega | (simp only [List.length_set, List.length_replicate, List.length_append, List.length_map, List.length_take, List.length_cons, List.length_nil]; omega)) [wrap64, q2]
          refine hJ1 _ _ hm ⟨xs', q, by simp, ?_, ?_⟩
          · rw [hsu, g1]
            simp only [adS, atS, q1, if_pos, if_neg, not_false_eq_true, e1, adI, q2]
            exact H
          · rw [hsu, g1]
            simp only [adS, q1, if_pos, if_neg, not_false_eq_true]
            simp only [List.length_append, List.length_singleton]; omega
        · simp -implicitDefEqProofs (disch := first | omega | (simp only [List.length_set, List.length_replicate, List.length_append, List.length_map, List.length_take, List.length_cons, List.length_nil]; omega)) [wrap64, q2, setC]
          refine HS.app1 (bytes := 8) H.sw1 (p.1.length : Int) rfl rfl rfl ⟨by omega, by omega⟩ rfl rfl (by omega) (by omega) fun q' h9 H => ?_
          simp -implicitDefEqProofs (disch := first | omega | (simp only [List.length_set, List.length_replicate, List.length_append, List.length_map, List.length_take, List.length_cons, List.length_nil]; omega)) [wrap64]
          refine hJ1 _ _ hm ⟨xs', q', by simp, ?_, ?_⟩
          · rw [hsu, g1]
            simp only [adS, atS, q1, if_pos, if_neg, not_false_eq_true, e1, adI, q2]
            exact H.sw1
          · rw [hsu, g1]
            simp only [adS, q1, if_pos, if_neg, not_false_eq_true]
            simp only [List.length_append, List.length_singleton]; omega
    obtain rfl : m = (enb s x).length := by omega
    have gi := gF_inv (xs := g.states) hs hxo inv.ok _ (Nat.le_refl (enb s x).length)
    generalize gF s x (enb s x).length g.states = p at gi hsucc H hp60
    have hge := gi.ge
    have hl2 := gi.l2
    by_cases q0 : (enb s x).length = 0
    · have hp : p.2 = [] := List.length_eq_zero_iff.1 (by omega)
      simp -implicitDefEqProofs (disch := first | omega | (simp only [List.length_set, List.length_replicate, List.length_append, List.length_map, List.length_take, List.length_cons, List.length_nil]; omega)) [wrap64, H.sw3.rep.len, q0, setC]
      refine HS.app1 (bytes := 8) H.sw1 (i : Int) rfl rfl rfl ⟨by omega, by omega⟩ rfl rfl (by omega) (by omega) fun q h7 H => ?_
      have H : HS h [ow q (nxS i p.2), ow xs p.1, ow nx g.next, ow el (enb s x)] h7 := by rw [nxS, if_pos hp]; rw [hp] at H; exact H
      simp -implicitDefEqProofs (disch := first | omega | (simp only [List.length_set, List.length_replicate, List.length_append, List.length_map, List.length_take, List.length_cons, List.length_nil]; omega)) [wrap64]
      have hcl := H.rep.cells
      simp -implicitDefEqProofs (disch := first | omega | (simp only [List.length_set, List.length_replicate, List.length_append, List.length_map, List.length_take, List.length_cons, List.length_nil]; omega)) [wrap64, setC, H.rep.cells, H.rep.one]
      refine HS.appO (bytes := 24) H.sw2.sw1 rfl rfl (by rw [hcl]) rfl rfl (by omega) (by omega) fun nx' h7 H => ?_
      simp -implicitDefEqProofs (disch := first | omega | (simp only [List.length_set, List.length_replicate, List.length_append, List.length_map, List.length_take, List.length_cons, List.length_nil]; omega)) [wrap64, setC, H.rep.cells, H.rep.one]
      exact hJ (i + 1) _ _ (by omega) ⟨xs, nx', by simp, by rw [hsucc]; exact H.sw1.sw2.drop, by rw [hsucc]; simp only; omega, by rw [hsucc]; exact hp60⟩
    · have hp : p.2 ≠ [] := gi.ne (by omega)
      have q0' : ¬ (enb s x) = [] := fun e => q0 (by rw [e]; rfl)
      simp -implicitDefEqProofs (disch := first | omega | (simp only [List.length_set, List.length_replicate, List.length_append, List.length_map, List.length_take, List.length_cons, List.length_nil]; omega)) [wrap64, H.sw3.rep.len, q0, q0']
      have H : HS h [ow q (nxS i p.2), ow xs p.1, ow nx g.next, ow el (enb s x)] h5 := by rw [nxS, if_neg hp]; exact H.sw1
      have hcl := H.rep.cells
      simp -implicitDefEqProofs (disch := first | omega | (simp only [List.length_set, List.length_replicate, List.length_append, List.length_map, List.length_take, List.length_cons, List.length_nil]; omega)) [wrap64, setC, H.rep.cells, H.rep.one]
      refine HS.appO (bytes := 24) H.sw2.sw1 rfl rfl (by rw [hcl]) rfl rfl (by omega) (by omega) fun nx' h7 H => ?_
      simp -implicitDefEqProofs (disch := first | omega | (simp only [List.length_set, List.length_replicate, List.length_append, List.length_map, List.length_take, List.length_cons, List.length_nil]; omega)) [wrap64, setC, H.rep.cells, H.rep.one]
      exact hJ (i + 1) _ _ (by omega) ⟨xs, nx', by simp, by rw [hsucc]; exact H.sw1.sw2.drop, by rw [hsucc]; simp only; omega, by rw [hsucc]; exact hp60⟩
  · obtain ⟨b1, b2⟩ := bg_end (n := i) hs (by omega) (by omega)
    rw [b2] at H
    simp -implicitDefEqProofs (disch := first | omega | (simp only [List.length_set, List.length_replicate, List.length_append, List.length_map, List.length_take, List.length_cons, List.length_nil]; omega)) [wrap64, setC, H.rep.cells, H.rep.one, H.sw1.rep.cells, H.sw1.rep.one]
    exact RetK.keep (hk _ _ ⟨_, by rw [decide_eq_true b1], HS.mkGr H⟩)
theorem c_BuildGraph {h : Heap} {v : Value} {s : Sy} (R : Rep h v s) : CallE Tryz.prog fn_impl_BuildGraph [v] h (R2 (decide (bgOk s)) (bgR s) h) := by
  have FS := R.aSy
  refine CallE.gen fun k hk => EN_impl_BuildGraph rfl ?_
  simp -implicitDefEqProofs (disch := first | omega | (simp only [List.length_set, List.length_replicate, List.length_append, List.length_map, List.length_take, List.length_cons, List.length_nil]; omega)) [wrap64, FS]
  refine (c_SystemValid R).go ?_
  rintro _ h1 ⟨l1, rfl⟩
  by_cases hs : s.Ok
  case neg =>
    simp -implicitDefEqProofs (disch := first | omega | (simp only [List.length_set, List.length_replicate, List.length_append, List.length_map, List.length_take, List.length_cons, List.length_nil]; omega)) [wrap64, hs, setC]
    have hn : ¬ bgOk s := fun hb => hs hb.1
    exact RetK.keep (hk _ _ ⟨_, by rw [decide_eq_false hn], by rw [bgR, if_neg hn]; exact zero_Gr (Γ := []) l1⟩)
  simp -implicitDefEqProofs (disch := first | omega | (simp only [List.length_set, List.length_replicate, List.length_append, List.length_map, List.length_take, List.length_cons, List.length_nil]; omega)) [wrap64, hs, FS]
  refine (c_build hs (R.le l1)).go ?_
  rintro _ h2 ⟨u, rfl, H⟩
  have hA := H.rep.aGr
  simp -implicitDefEqProofs (disch := first | omega | (simp only [List.length_set, List.length_replicate, List.length_append, List.length_map, List.length_take, List.length_cons, List.length_nil]; omega)) [wrap64, setC, hA]
  exact RetK.keep (hk _ _ ⟨u, rfl, HS.app (Γ := []) H l1⟩)
end Go.Proofs.YtonjglbachhdcaaGreat

/-
  Shortest paths: by the program.
-/
namespace Go.Proofs.YtonjglbachhdcaaGreat
open Go
set_option linter.all false
set_option linter.unusedVariables false
set_option linter.unusedSimpArgs false
set_option linter.defProp false
set_option maxRecDepth 1000000

theorem Gr.Fin.nok {s : Sy} {g : Gr} (h : g.Fin s) : NOk g.next := ⟨by rw [h.nl]; exact h.pos, by rw [h.nl]; exact h.n60, fun l hl x hx => by rw [h.nl]; exact (h.ent l hl).2 x hx, h.ll⟩
def Rch (next : List (List Int)) : Prop := ∀ j : Nat, 1 ≤ j → j < next.length → ∃ (i : Nat) (hi : i < next.length), i < j ∧ (j : Int) ∈ next[i]
theorem Gr.Fin.rr {s : Sy} {g : Gr} (h : g.Fin s) : Rch g.next := fun j h1 h2 => h.rch j h1 (by rw [← h.nl]; exact h2)

theorem c_Reverse_int {g h : Heap} {Γ : List HP} {v : Value} {x : List Int} (H : HS g (ow v x :: Γ) h) : CallE Tryz.prog fn_slices_Reverse_S_int_int [v] h (fun _ h' => HS g (ow v x.reverse :: Γ) h') := by
  have hL := H.rep.lt
  have hok := fun {i : Nat} (hi : i < x.length) => H.rep.okI hi
  refine CallE.gen fun k hk => EN_slices_Reverse_S_int_int rfl ?_
  simp -implicitDefEqProofs (disch := first | omega | (simp only [List.length_set, List.length_replicate, List.length_append, List.length_map, List.length_take, List.length_cons, List.length_nil]; omega)) [wrap64, H.rep.len]
  refine wp_while (σ := Nat) (fun i e h' => e = [some v, some (.int .i64 i), some (.int .i64 ((x.length : Int) - 1 - i))] ∧ i ≤ x.length ∧ ∃ y, HS g (ow v y :: Γ) h' ∧ y.length = x.length ∧ (i = 0 ∨ 2 * i ≤ x.length) ∧ ∀ (k : Nat), k < x.length → y.getD k 0 = if k < i ∨ x.length - 1 - i < k then x.getD (x.length - 1 - k) 0 else x.getD k 0) (fun i => x.length - i) 0 ⟨by simp, by omega, x, H, rfl, .inl rfl, fun k hk => by rw [if_neg (by omega)]⟩ ?_
  clear H
  rintro J i _ h1 hJ ⟨rfl, hi, y, H, hl, h0, hy⟩
  simp -implicitDefEqProofs (disch := first | omega | (simp only [List.length_set, List.length_replicate, List.length_append, List.length_map, List.length_take, List.length_cons, List.length_nil]; omega)) [wrap64]
  refine IteW.mk (fun hlt => ?_) (fun hge => ?_)
  · have hin : 2 * i + 1 < x.length := by omega
    have hiy : i < y.length := by omega
    have hjy : x.length - 1 - i < y.length := by omega
    have hcast : (x.length : Int) - 1 - i = ((x.length - 1 - i : Nat) : Int) := by omega
    have o1 := H.rep.okI hiy
    have o2 := H.rep.okI hjy
    rw [hcast]
    simp -implicitDefEqProofs (disch := first | omega | (simp only [List.length_set, List.length_replicate, List.length_append, List.length_map, List.length_take, List.length_cons, List.length_nil]; omega)) [wrap64, H.rep.I]
    refine H.storeF y[x.length - 1 - i] (i := i) hiy rfl rfl ⟨o2.1, o2.2⟩ rfl fun h2 H => ?_
    simp -implicitDefEqProofs (disch := first | omega | (simp only [List.length_set, List.length_replicate, List.length_append, List.length_map, List.length_take, List.length_cons, List.length_nil]; omega)) [wrap64, H.rep.I]
    refine H.storeF y[i] (i := x.length - 1 - i) (by simpa using hjy) rfl rfl ⟨o1.1, o1.2⟩ rfl fun h3 H => ?_
    simp -implicitDefEqProofs (disch := first | omega | (simp only [List.length_set, List.length_replicate, List.length_append, List.length_map, List.length_take, List.length_cons, List.length_nil]; omega)) [wrap64]
    refine hJ (i + 1) _ _ (by omega) ⟨by simp; omega, by omega, _, H, by simp [hl], .inr (by omega), fun k hk => ?_⟩
    have e1 : y[i] = x.getD i 0 := by
      have := hy i (by omega)
      rw [if_neg (by omega)] at this
      rw [← this]; simp [hiy]
    have e2 : y[x.length - 1 - i] = x.getD (x.length - 1 - i) 0 := by
      have := hy (x.length - 1 - i) (by omega)
      rw [if_neg (by omega)] at this
      rw [← this]; simp [hjy]
    rw [getD_setI (by simpa using hjy), getD_setI hiy, e1, e2, hy k hk]
    by_cases c1 : x.length - 1 - i = k
    · rw [if_pos c1, if_pos (by omega)]
      congr 1; omega
    · rw [if_neg c1]
      by_cases c2 : i = k
      · rw [if_pos c2, if_pos (by omega)]
        congr 1; omega
      · rw [if_neg c2]
        by_cases c3 : k < i ∨ x.length - 1 - i < k
        · rw [if_pos c3, if_pos (by omega)]
        · rw [if_neg c3, if_neg (by omega)]
  · simp -implicitDefEqProofs (disch := first | omega | (simp only [List.length_set, List.length_replicate, List.length_append, List.length_map, List.length_take, List.length_cons, List.length_nil]; omega)) [wrap64]
    have he : y = x.reverse := by
      refine List.ext_getElem (by simp [hl]) fun k h1 h2 => ?_
      have hk : k < x.length := by omega
      have := hy k hk
      rw [List.getElem_reverse]
      have e1 : y.getD k 0 = y[k] := by simp [h1]
      rw [← e1, this]
      split
      · simp [show x.length - 1 - k < x.length by omega]
      · have e2 : k = x.length - 1 - k := by omega
        have e3 : x[x.length - 1 - k]'(by omega) = x.getD (x.length - 1 - k) 0 := by simp [show x.length - 1 - k < x.length by omega]
        rw [e3, ← e2]
    exact RetK.keep (hk _ _ (he ▸ H))

theorem c_shortest {h : Heap} {v w fv : Value} {next : List (List Int)} (hn : NOk next) (hr : Rch next) (R : Rep h v next) (Rs : Rep h w [(0 : Int)]) {to : Nat} (hto : to < next.length) {f : FuncId} {c1 c2 : List Value} (hf : fnOf fv = some (f, c1, c2))
    (hp : ∀ h1, h.le h1 → ∀ a : Int, 0 ≤ a → a < 60 → CallE Tryz.prog f (c1 ++ .int .i64 a :: c2) h1 (fun u h' => h1.le h' ∧ u = .bool (decide (a = to)))) :
    CallE Tryz.prog fn_impl_shortest [v, w, fv] h (fun u h' => HS h [ow u (pth next to)] h') := by
  have hL := R.lt
  have h60 := hn.n60
  have hpos := hn.pos
  refine CallE.gen fun k hk => EN_impl_shortest rfl ?_
  simp -implicitDefEqProofs (disch := first | omega | (simp only [List.length_set, List.length_replicate, List.length_append, List.length_map, List.length_take, List.length_cons, List.length_nil]; omega)) [wrap64, R.len]
  refine HS.init.mks (α := Int) (z := (0 : Int)) rfl rfl (own_zero (by decide) (by decide)) (Nat.le_refl _) (by omega) (by omega) fun o h1 H => ?_
  simp -implicitDefEqProofs (disch := first | omega | (simp only [List.length_set, List.length_replicate, List.length_append, List.length_map, List.length_take, List.length_cons, List.length_nil]; omega)) [wrap64, H.rep.len]
  refine wp_count next.length (fun i e h' => e = [some v, some w, some fv, none, some o, none, none, none, none, none, none, none, some (.int .i64 next.length), some (.int .i64 i), none, none, none, none, none, none] ∧ ∃ y, HS h [ow o y] h' ∧ y.length = next.length ∧ y.take i = (List.replicate next.length (-2)).take i) ⟨by simp, _, H, by simp, by simp⟩ ?_
  clear H
  rintro J i _ h1 hJ hi ⟨rfl, y, H, hl, hy⟩
  simp -implicitDefEqProofs (disch := first | omega | (simp only [List.length_set, List.length_replicate, List.length_append, List.length_map, List.length_take, List.length_cons, List.length_nil]; omega)) [wrap64]
  refine IteW.mk (fun hlt => ?_) (fun hge => ?_)
  · have hlx : i < next.length := by omega
    simp -implicitDefEqProofs (disch := first | omega | (simp only [List.length_set, List.length_replicate, List.length_append, List.length_map, List.length_take, List.length_cons, List.length_nil]; omega)) [wrap64, H.rep.I]
    refine H.storeF (-2) (i := i) (by omega) rfl rfl ⟨by omega, by omega⟩ rfl fun h2 H => ?_
    simp -implicitDefEqProofs (disch := first | omega | (simp only [List.length_set, List.length_replicate, List.length_append, List.length_map, List.length_take, List.length_cons, List.length_nil]; omega)) [wrap64]
    refine hJ _ _ hlx ⟨by simp, _, H, by simp [hl], ?_⟩
    have := take_set_succ (x := List.replicate next.length (-2 : Int)) hy (by simpa using hlx) (by simpa using hl)
    simpa using this
  have he : y = List.replicate next.length (-2) := eq_of_take hy (by simp; omega) (by simpa using hl)
  subst he
  simp -implicitDefEqProofs (disch := first | omega | (simp only [List.length_set, List.length_replicate, List.length_append, List.length_map, List.length_take, List.length_cons, List.length_nil]; omega)) [wrap64, (Rs.on H).len]
  refine wp_count 1 (fun i e h' => ∃ q, e = [some v, none, some fv, none, some o, none, some q, none, none, none, none, none, none, none, some w, some (.int .i64 1), some (.int .i64 i), none, none, none] ∧ (i = 0 → HS h [ow o (List.replicate next.length (-2)), ow q ([] : List Int)] h') ∧ (i = 1 → HS h [ow o (bsN next 0).1, ow q (bsN next 0).2] h')) ⟨.slice none 0 0, by simp, fun _ => H.nil_ow.sw1, fun h => absurd h (by decide)⟩ ?_
  clear H hy hl
  rintro J1 i1 _ h1 hJ1 hi1 ⟨q, rfl, Ha, Hb⟩
  simp -implicitDefEqProofs (disch := first | omega | (simp only [List.length_set, List.length_replicate, List.length_append, List.length_map, List.length_take, List.length_cons, List.length_nil]; omega)) [wrap64]
  refine IteW.mk (fun hlt1 => ?_) (fun hge1 => ?_)
  · obtain rfl : i1 = 0 := by omega
    have H := Ha rfl
    simp -implicitDefEqProofs (disch := first | omega | (simp only [List.length_set, List.length_replicate, List.length_append, List.length_map, List.length_take, List.length_cons, List.length_nil]; omega)) [wrap64, (Rs.on H).I, H.rep.I]
    refine H.storeF (-1) (i := 0) (by simp; omega) rfl rfl ⟨by omega, by omega⟩ rfl fun h2 H => ?_
    simp -implicitDefEqProofs (disch := first | omega | (simp only [List.length_set, List.length_replicate, List.length_append, List.length_map, List.length_take, List.length_cons, List.length_nil]; omega)) [wrap64, setC]
    refine HS.app1 (bytes := 8) H.sw1 (0 : Int) rfl rfl rfl ⟨by omega, by omega⟩ rfl rfl (by simp) (by simp) fun q' h3 H => ?_
    simp -implicitDefEqProofs (disch := first | omega | (simp only [List.length_set, List.length_replicate, List.length_append, List.length_map, List.length_take, List.length_cons, List.length_nil]; omega)) [wrap64]
    exact hJ1 _ _ (by omega) ⟨q', by simp, fun h => absurd h (by decide), fun _ => H.sw1⟩
  have H := Hb (by omega)
  clear Ha Hb
  simp -implicitDefEqProofs (disch := first | omega | (simp only [List.length_set, List.length_replicate, List.length_append, List.length_map, List.length_take, List.length_cons, List.length_nil]; omega)) [wrap64]
  refine wp_while (σ := Nat) (fun i e h' => ∃ q, e = [some v, none, some fv, none, some o, none, some q, none, some (.int .i64 i), none, none, none, none, none, none, none, none, none, none, none] ∧ HS h [ow o (bsN next i).1, ow q (bsN next i).2] h' ∧ i ≤ (bsN next i).2.length ∧ ∀ j : Nat, j < i → (bsN next i).2.getD j 0 ≠ to) (fun i => 61 - i) 0 ⟨q, by simp, H, by omega, fun j hj => absurd hj (Nat.not_lt_zero j)⟩ ?_
  clear H
  rintro J2 i _ h1 hJ2 ⟨q, rfl, H, hi, hnot⟩
  obtain ⟨bi, bd⟩ := bsN_inv hn i
  have hle := bi.le
  have hql := H.sw1.rep.lt
  simp -implicitDefEqProofs (disch := first | omega | (simp only [List.length_set, List.length_replicate, List.length_append, List.length_map, List.length_take, List.length_cons, List.length_nil]; omega)) [wrap64, H.sw1.rep.len]
  refine IteW.mk (fun hlt => ?_) (fun hge => ?_)
  · have hlt : i < (bsN next i).2.length := by omega
    have hat := bi.at hlt
    have hsucc := bsN_succ hlt
    obtain ⟨a, ha⟩ : ∃ a : Nat, (bsN next i).2.getD i 0 = a := ⟨_, (Int.toNat_of_nonneg hat.1).symm⟩
    have ha' : (bsN next i).2[i] = a := by rw [← ha]; simp [hlt]
    rw [ha] at hat hsucc
    rw [Int.toNat_natCast] at hat hsucc
    have haN : a < next.length := by omega
    have hg := hn.get haN
    rw [hg.1] at hsucc
    simp -implicitDefEqProofs (disch := first | omega | (simp only [List.length_set, List.length_replicate, List.length_append, List.length_map, List.length_take, List.length_cons, List.length_nil]; omega)) [wrap64, H.sw1.rep.I, ha', hf]
    refine (hp h1 H.base a (by omega) (by omega)).go ?_
    rintro _ h2 ⟨l2, rfl⟩
    have H := H.le l2
    by_cases q1 : (a : Int) = to
    · obtain ⟨l, c1, c2⟩ := bi.chn i hlt
      rw [ha, q1] at c1
      have hpe := pth_eq hn c1 (by omega)
      have hca := c1.all
      simp -implicitDefEqProofs (disch := first | omega | (simp only [List.length_set, List.length_replicate, List.length_append, List.length_map, List.length_take, List.length_cons, List.length_nil]; omega)) [wrap64, q1]
      refine wp_while (σ := List Int × List Int × Int) (fun t e h' => ∃ u, e = [none, none, none, none, some o, none, none, none, none, some (.int .i64 t.2.2), some u, none, none, none, none, none, none, none, none, none] ∧ HS h [ow u t.2.1, ow o (bsN next i).1, ow q (bsN next i).2] h' ∧ Chn (bsN next i).1 t.2.2 t.1 ∧ t.1 ++ t.2.1.reverse = l) (fun t => t.1.length) (l, [], (to : Int)) ⟨.slice none 0 0, by simp, H.nil_ow, c1, by simp⟩ ?_
      clear H
      rintro J3 ⟨l1, l2', b⟩ _ h3 hJ3 ⟨u, rfl, H, c3, c4⟩
      simp only at c3 c4 H ⊢
      by_cases hb : 0 ≤ b
      · obtain ⟨l1', rfl, hbl, c5⟩ := c3.un hb
        obtain ⟨b', rfl⟩ : ∃ b' : Nat, b = b' := ⟨b.toNat, (Int.toNat_of_nonneg hb).symm⟩
        have hlen : l2'.length ≤ 60 := by
          have := congrArg List.length c4
          simp at this
          omega
        have hbl' : b' < (bsN next i).1.length := by omega
        have hge2 := c5.ge
        have hbd : (bsN next i).1.getD b' 0 = (bsN next i).1[b'] := by simp [hbl']
        rw [Int.toNat_natCast, hbd] at c5
        have hok := H.sw1.rep.okI hbl'
        have hfl0 := bi.fl
        simp -implicitDefEqProofs (disch := first | omega | (simp only [List.length_set, List.length_replicate, List.length_append, List.length_map, List.length_take, List.length_cons, List.length_nil]; omega)) [wrap64, setC]
        refine HS.app1 (bytes := 8) H (b' : Int) rfl rfl rfl ⟨by omega, by omega⟩ rfl rfl (by omega) (by omega) fun u' h4 H => ?_
        simp -implicitDefEqProofs (disch := first | omega | (simp only [List.length_set, List.length_replicate, List.length_append, List.length_map, List.length_take, List.length_cons, List.length_nil]; omega)) [wrap64, H.sw1.rep.I]
        exact hJ3 (l1', l2' ++ [(b' : Int)], (bsN next i).1[b']) _ _ (by simp) ⟨u', by simp, H, c5, by rw [← c4]; simp⟩
      · have hb1 : b = -1 := by have := c3.ge; omega
        subst hb1
        have hl1 := c3.neg
        subst hl1
        simp -implicitDefEqProofs (disch := first | omega | (simp only [List.length_set, List.length_replicate, List.length_append, List.length_map, List.length_take, List.length_cons, List.length_nil]; omega)) [wrap64]
        refine (c_Reverse_int H).go ?_
        intro _ h4 H
        simp -implicitDefEqProofs (disch := first | omega | (simp only [List.length_set, List.length_replicate, List.length_append, List.length_map, List.length_take, List.length_cons, List.length_nil]; omega)) [wrap64]
        refine (c_Clip_int H).go ?_
        intro u' h5 H
        simp -implicitDefEqProofs (disch := first | omega | (simp only [List.length_set, List.length_replicate, List.length_append, List.length_map, List.length_take, List.length_cons, List.length_nil]; omega)) [wrap64]
        refine RetK.keep (hk _ _ ?_)
        have hfin : pth next to = l2'.reverse := by rw [hpe, ← c4]; simp
        rw [hfin]
        exact H.only
    · obtain ⟨u, hu, Ru⟩ := R.ldL haN
      have hu := hload_le H.base hu
      have hul := Ru.len
      have hll := hn.ll _ hg.2
      have hent := hn.ent _ hg.2
      simp -implicitDefEqProofs (disch := first | omega | (simp only [List.length_set, List.length_replicate, List.length_append, List.length_map, List.length_take, List.length_cons, List.length_nil]; omega)) [wrap64, q1, H.sw1.rep.I, ha', R.X (n := 1) rfl, hu, hul]
      refine wp_count next[a].length (fun m e h' => ∃ q, e = [some v, none, some fv, none, some o, none, some q, none, some (.int .i64 i), none, none, none, none, none, none, none, none, some u, some (.int .i64 next[a].length), some (.int .i64 m)] ∧ HS h [ow o (bsF next[a] a (bsN next i) m).1, ow q (bsF next[a] a (bsN next i) m).2] h') ⟨q, by simp, by rw [bsF_zero]; exact H⟩ ?_
      clear H
      rintro J4 m _ h3 hJ4 hm ⟨q, rfl, H⟩
      simp -implicitDefEqProofs (disch := first | omega | (simp only [List.length_set, List.length_replicate, List.length_append, List.length_map, List.length_take, List.length_cons, List.length_nil]; omega)) [wrap64]
      refine IteW.mk (fun hlt4 => ?_) (fun hge4 => ?_)
      · have hm : m < next[a].length := by omega
        have hfo := bi.fold hlt (l := next[a]) hent m (by omega)
        rw [ha] at hfo
        obtain ⟨f1, f2, _⟩ := hfo
        have hfs := bsF_succ (a := (a : Int)) (p := bsN next i) hm
        have hxr := hent _ (List.getElem_mem hm)
        have hqi : (bsF next[a] a (bsN next i) m).2.getD i 0 = a := by rw [f2.at hlt, ha]
        have hil : i < (bsF next[a] a (bsN next i) m).2.length := by have := f2.len; omega
        have hfl := f1.fl
        have hfle := f1.le
        generalize bsF next[a] a (bsN next i) m = p at *
        obtain ⟨x, hx⟩ : ∃ x : Nat, next[a][m] = x := ⟨_, (Int.toNat_of_nonneg hxr.1).symm⟩
        rw [hx] at hxr
        have hxl : x < p.1.length := by omega
        have hqi' : p.2[i] = a := by rw [← hqi]; simp [hil]
        have hxd : p.1.getD x 0 = p.1[x] := by simp [hxl]
        rw [bs1, hx, Int.toNat_natCast, hxd] at hfs
        have RuI := (Ru.on H).I
        by_cases q2 : p.1[x] = -2
        · rw [if_pos q2] at hfs
          simp -implicitDefEqProofs (disch := first | omega | (simp only [List.length_set, List.length_replicate, List.length_append, List.length_map, List.length_take, List.length_cons, List.length_nil]; omega)) [wrap64, RuI, hx, H.rep.I, q2, H.sw1.rep.I, hqi']
          refine H.storeF (a : Int) (i := x) hxl rfl rfl ⟨by omega, by omega⟩ rfl fun h4 H => ?_
          simp -implicitDefEqProofs (disch := first | omega | (simp only [List.length_set, List.length_replicate, List.length_append, List.length_map, List.length_take, List.length_cons, List.length_nil]; omega)) [wrap64, setC]
          refine HS.app1 (bytes := 8) H.sw1 (x : Int) rfl rfl rfl ⟨by omega, by omega⟩ rfl rfl (by omega) (by omega) fun q' h5 H => ?_
          simp -implicitDefEqProofs (disch := first | omega | (simp only [List.length_set, List.length_replicate, List.length_append, List.length_map, List.length_take, List.length_cons, List.length_nil]; omega)) [wrap64]
          exact hJ4 _ _ hm ⟨q', by simp, by rw [hfs]; exact H.sw1⟩
        · rw [if_neg q2] at hfs
          simp -implicitDefEqProofs (disch := first | omega | (simp only [List.length_set, List.length_replicate, List.length_append, List.length_map, List.length_take, List.length_cons, List.length_nil]; omega)) [wrap64, RuI, hx, H.rep.I, q2]
          exact hJ4 _ _ hm ⟨q, by simp, by rw [hfs]; exact H⟩
      simp -implicitDefEqProofs (disch := first | omega | (simp only [List.length_set, List.length_replicate, List.length_append, List.length_map, List.length_take, List.length_cons, List.length_nil]; omega)) [wrap64]
      obtain rfl : m = next[a].length := by omega
      rw [← hsucc] at H
      have hbl := bsN_bl hn (show i ≤ i + 1 by omega)
      have hlen := hbl.len
      refine hJ2 (i + 1) _ _ (by omega) ⟨q, by simp, H, by omega, fun j hj => ?_⟩
      rw [hbl.at (by omega)]
      by_cases hji : j = i
      · subst hji; rw [ha]; exact q1
      · exact hnot j (by omega)
  · have hin := bs_all hn hr (n := i) (by omega) to hto
    obtain ⟨j, hj, e⟩ := List.mem_iff_getElem.1 hin
    exact absurd (by rw [← e]; simp [hj]) (hnot j (by omega))
end Go.Proofs.YtonjglbachhdcaaGreat

/-
  Shortest paths: by the reference; states along paths, by the program and by the reference.
-/
namespace Go.Proofs.YtonjglbachhdcaaGreat
open Go
set_option linter.all false
set_option linter.unusedVariables false
set_option linter.unusedSimpArgs false
set_option linter.defProp false
set_option maxRecDepth 1000000

def prn (f : List Int) : List Int := f.map fun x => if x = -2 then -1 else x
def sen (f : List Int) : List Bool := f.map fun x => decide (x ≠ -2)
@[simp] theorem prn_len {f : List Int} : (prn f).length = f.length := by simp [prn]
@[simp] theorem sen_len {f : List Int} : (sen f).length = f.length := by simp [sen]
theorem prn_at {f : List Int} {x : Nat} (hx : x < f.length) : (prn f)[x]'(by simpa using hx) = if f[x] = -2 then -1 else f[x] := by simp [prn]
theorem sen_at {f : List Int} {x : Nat} (hx : x < f.length) : (sen f)[x]'(by simpa using hx) = decide (f[x] ≠ -2) := by simp [sen]
theorem prn_set {f : List Int} {x : Nat} {a : Int} (ha : 0 ≤ a) : prn (f.set x a) = (prn f).set x a := by
  unfold prn
  rw [List.map_set, if_neg (by omega)]
theorem sen_set {f : List Int} {x : Nat} {a : Int} (ha : 0 ≤ a) : sen (f.set x a) = (sen f).set x true := by
  unfold sen
  rw [List.map_set, decide_eq_true (by omega)]
theorem prn_zero {next : List (List Int)} : prn (bsN next 0).1 = List.replicate next.length (-1) := by
  simp only [bsN, prn, List.map_set, List.map_replicate, if_pos, show ¬ ((-1 : Int) = -2) by decide, if_false]
  rcases hn : next.length with _ | n
  · rfl
  · rfl
theorem sen_zero {next : List (List Int)} : sen (bsN next 0).1 = (List.replicate next.length false).set 0 true := by
  simp [bsN, sen, List.map_set, List.map_replicate]

theorem c_l4Search {h : Heap} {v : Value} {next : List (List Int)} (hn : NOk next) (R : Rep h v next) :
    CallE Tryz.prog fn_spec_l4Search [v, .int .i64 0] h (fun u h' => ∃ p q, u = .tuple #[p, q] ∧ HS h [ow p (prn (bsN next next.length).1), ow q (bsN next next.length).2] h') := by
  have hL := R.lt
  have h60 := hn.n60
  have hpos := hn.pos
  refine CallE.gen fun k hk => EN_spec_l4Search rfl ?_
  simp -implicitDefEqProofs (disch := first | omega | (simp only [List.length_set, List.length_replicate, List.length_append, List.length_map, List.length_take, List.length_cons, List.length_nil]; omega)) [wrap64]
  refine HS.init.bls0 Int fun p h1 H => ?_
  simp -implicitDefEqProofs (disch := first | omega | (simp only [List.length_set, List.length_replicate, List.length_append, List.length_map, List.length_take, List.length_cons, List.length_nil]; omega)) [wrap64, (R.on H).len]
  refine H.mks (α := Bool) (z := false) rfl rfl (own_false) (Nat.le_refl _) (by omega) (by omega) fun o h2 H => ?_
  simp -implicitDefEqProofs (disch := first | omega | (simp only [List.length_set, List.length_replicate, List.length_append, List.length_map, List.length_take, List.length_cons, List.length_nil]; omega)) [wrap64]
  refine wp_count next.length (fun i e h' => ∃ p, e = [some v, some (.int .i64 0), none, none, some p, some o, some (.int .i64 i), none, none, none, none] ∧ HS h [ow p (List.replicate i (-1 : Int)), ow o (List.replicate next.length false)] h') ⟨p, by simp, H.sw1⟩ ?_
  clear H
  rintro J i _ h1 hJ hi ⟨p, rfl, H⟩
  simp -implicitDefEqProofs (disch := first | omega | (simp only [List.length_set, List.length_replicate, List.length_append, List.length_map, List.length_take, List.length_cons, List.length_nil]; omega)) [wrap64, (R.on H).len]
  refine IteW.mk (fun hlt => ?_) (fun hge => ?_)
  · have hlx : i < next.length := by omega
    simp -implicitDefEqProofs (disch := first | omega | (simp only [List.length_set, List.length_replicate, List.length_append, List.length_map, List.length_take, List.length_cons, List.length_nil]; omega)) [wrap64, setC]
    refine HS.app1 (bytes := 8) H (-1 : Int) rfl rfl rfl ⟨by omega, by omega⟩ rfl rfl (by simp; omega) (by simp; omega) fun p' h3 H => ?_
    simp -implicitDefEqProofs (disch := first | omega | (simp only [List.length_set, List.length_replicate, List.length_append, List.length_map, List.length_take, List.length_cons, List.length_nil]; omega)) [wrap64]
    exact hJ _ _ hlx ⟨p', by simp, by rw [List.replicate_succ']; exact H⟩
  obtain rfl : i = next.length := by omega
  simp -implicitDefEqProofs (disch := first | omega | (simp only [List.length_set, List.length_replicate, List.length_append, List.length_map, List.length_take, List.length_cons, List.length_nil]; omega)) [wrap64]
  refine H.bls [(0 : Int)] rfl rfl (by simp; exact ⟨by omega, by omega⟩) (by decide) fun q h2 H => ?_
  simp -implicitDefEqProofs (disch := first | omega | (simp only [List.length_set, List.length_replicate, List.length_append, List.length_map, List.length_take, List.length_cons, List.length_nil]; omega)) [wrap64, H.sw2.rep.B]
  refine HS.storeF H.sw2 true (i := 0) (by simp; omega) rfl rfl trivial rfl fun h3 H => ?_
  simp -implicitDefEqProofs (disch := first | omega | (simp only [List.length_set, List.length_replicate, List.length_append, List.length_map, List.length_take, List.length_cons, List.length_nil]; omega)) [wrap64]
  have H : HS h [ow p (prn (bsN next 0).1), ow o (sen (bsN next 0).1), ow q (bsN next 0).2] h3 := by rw [prn_zero, sen_zero]; exact H.sw2
  refine wp_while (σ := Nat) (fun i e h' => ∃ q, e = [some v, none, none, none, some p, some o, none, some q, some (.int .i64 i), none, none] ∧ HS h [ow p (prn (bsN next i).1), ow o (sen (bsN next i).1), ow q (bsN next i).2] h' ∧ i ≤ (bsN next i).2.length) (fun i => 61 - i) 0 ⟨q, by simp, H, by omega⟩ ?_
  clear H
  rintro J2 i _ h1 hJ2 ⟨q, rfl, H, hi⟩
  obtain ⟨bi, bd⟩ := bsN_inv hn i
  have hle := bi.le
  simp -implicitDefEqProofs (disch := first | omega | (simp only [List.length_set, List.length_replicate, List.length_append, List.length_map, List.length_take, List.length_cons, List.length_nil]; omega)) [wrap64, H.sw2.rep.len]
  refine IteW.mk (fun hlt => ?_) (fun hge => ?_)
  · have hlt : i < (bsN next i).2.length := by omega
    have hat := bi.at hlt
    have hsucc := bsN_succ hlt
    obtain ⟨a, ha⟩ : ∃ a : Nat, (bsN next i).2.getD i 0 = a := ⟨_, (Int.toNat_of_nonneg hat.1).symm⟩
    have ha' : (bsN next i).2[i] = a := by rw [← ha]; simp [hlt]
    rw [ha] at hat hsucc
    rw [Int.toNat_natCast] at hat hsucc
    have haN : a < next.length := by omega
    have hg := hn.get haN
    rw [hg.1] at hsucc
    obtain ⟨u, hu, Ru⟩ := R.ldL haN
    have hll := hn.ll _ hg.2
    have hent := hn.ent _ hg.2
    simp -implicitDefEqProofs (disch := first | omega | (simp only [List.length_set, List.length_replicate, List.length_append, List.length_map, List.length_take, List.length_cons, List.length_nil]; omega)) [wrap64]
    refine wp_count next[a].length (fun m e h' => ∃ q, e = [some v, none, none, none, some p, some o, none, some q, some (.int .i64 i), some (.int .i64 m), none] ∧ HS h [ow p (prn (bsF next[a] a (bsN next i) m).1), ow o (sen (bsF next[a] a (bsN next i) m).1), ow q (bsF next[a] a (bsN next i) m).2] h') ⟨q, by simp, by rw [bsF_zero]; exact H⟩ ?_
    clear H
    rintro J4 m _ h3 hJ4 hm ⟨q, rfl, H⟩
    have hfo := bi.fold hlt (l := next[a]) hent m (by omega)
    rw [ha] at hfo
    obtain ⟨f1, f2, _⟩ := hfo
    have hqi : (bsF next[a] a (bsN next i) m).2.getD i 0 = a := by rw [f2.at hlt, ha]
    have hil : i < (bsF next[a] a (bsN next i) m).2.length := by have := f2.len; omega
    have hqi' : (bsF next[a] a (bsN next i) m).2[i] = a := by simpa [hil] using hqi
    have hu := hload_le H.base hu
    have RuI := (Ru.on H).I
    have hul := (Ru.on H).len
    simp -implicitDefEqProofs (disch := first | omega | (simp only [List.length_set, List.length_replicate, List.length_append, List.length_map, List.length_take, List.length_cons, List.length_nil]; omega)) [wrap64, R.X (n := 1) rfl, H.sw2.rep.I, hqi', hu, hul]
    refine IteW.mk (fun hlt4 => ?_) (fun hge4 => ?_)
    · have hm : m < next[a].length := by omega
      have hfs := bsF_succ (a := (a : Int)) (p := bsN next i) hm
      have hxr := hent _ (List.getElem_mem hm)
      have hfl := f1.fl
      have hfle := f1.le
      generalize bsF next[a] a (bsN next i) m = P at *
      obtain ⟨x, hx⟩ : ∃ x : Nat, next[a][m] = x := ⟨_, (Int.toNat_of_nonneg hxr.1).symm⟩
      rw [hx] at hxr
      have hxl : x < P.1.length := by omega
      have hxd : P.1.getD x 0 = P.1[x] := by simp [hxl]
      rw [bs1, hx, Int.toNat_natCast, hxd] at hfs
      have hsx := sen_at hxl
      have hsl : (sen P.1).length = P.1.length := sen_len
      have hpl : (prn P.1).length = P.1.length := prn_len
      by_cases q2 : P.1[x] = -2
      · rw [if_pos q2] at hfs
        rw [decide_eq_false (by simpa using q2)] at hsx
        simp -implicitDefEqProofs (disch := first | omega | (simp only [List.length_set, List.length_replicate, List.length_append, List.length_map, List.length_take, List.length_cons, List.length_nil]; omega)) [wrap64, R.X (n := 1) rfl, H.sw2.rep.I, hqi', hu, RuI, hx, H.sw1.rep.B, hsx]
        refine HS.storeF H.sw1 true (i := x) (by simpa using hxl) rfl rfl trivial rfl fun h4 H => ?_
        simp -implicitDefEqProofs (disch := first | omega | (simp only [List.length_set, List.length_replicate, List.length_append, List.length_map, List.length_take, List.length_cons, List.length_nil]; omega)) [wrap64, H.sw1.rep.I, H.sw2.rep.I, hqi']
        refine HS.storeF H.sw1 (a : Int) (i := x) (by simpa using hxl) rfl rfl ⟨by omega, by omega⟩ rfl fun h5 H => ?_
        simp -implicitDefEqProofs (disch := first | omega | (simp only [List.length_set, List.length_replicate, List.length_append, List.length_map, List.length_take, List.length_cons, List.length_nil]; omega)) [wrap64, setC]
        refine HS.app1 (bytes := 8) H.sw2 (x : Int) rfl rfl rfl ⟨by omega, by omega⟩ rfl rfl (by omega) (by omega) fun q' h6 H => ?_
        simp -implicitDefEqProofs (disch := first | omega | (simp only [List.length_set, List.length_replicate, List.length_append, List.length_map, List.length_take, List.length_cons, List.length_nil]; omega)) [wrap64]
        exact hJ4 _ _ hm ⟨q', by simp, by rw [hfs, prn_set (by omega), sen_set (by omega)]; exact H.bk2⟩
      · rw [if_neg q2] at hfs
        rw [decide_eq_true (by simpa using q2)] at hsx
        simp -implicitDefEqProofs (disch := first | omega | (simp only [List.length_set, List.length_replicate, List.length_append, List.length_map, List.length_take, List.length_cons, List.length_nil]; omega)) [wrap64, R.X (n := 1) rfl, H.sw2.rep.I, hqi', hu, RuI, hx, H.sw1.rep.B, hsx]
        exact hJ4 _ _ hm ⟨q, by simp, by rw [hfs]; exact H⟩
    obtain rfl : m = next[a].length := by omega
    simp -implicitDefEqProofs (disch := first | omega | (simp only [List.length_set, List.length_replicate, List.length_append, List.length_map, List.length_take, List.length_cons, List.length_nil]; omega)) [wrap64]
    rw [← hsucc] at H
    have hbl := bsN_bl hn (show i ≤ i + 1 by omega)
    have hlen := hbl.len
    exact hJ2 (i + 1) _ _ (by omega) ⟨q, by simp, H, by omega⟩
  · simp -implicitDefEqProofs (disch := first | omega | (simp only [List.length_set, List.length_replicate, List.length_append, List.length_map, List.length_take, List.length_cons, List.length_nil]; omega)) [wrap64]
    have hfx := bsN_fix (next := next) (n := i) (m := next.length) (by omega) (by omega)
    rw [← hfx] at H
    exact RetK.keep (hk _ _ ⟨p, q, rfl, H.sw1.drop⟩)

theorem c_l4Path {h : Heap} {v : Value} {next : List (List Int)} (hn : NOk next) (hr : Rch next) {to : Nat} (hto : to < next.length) (R : Rep h v (prn (bsN next next.length).1)) :
    CallE Tryz.prog fn_spec_l4Path [v, .int .i64 0, .int .i64 to] h (fun u h' => HS h [ow u (pth next to)] h') := by
  obtain ⟨c1, c2⟩ := pth_chn hn hr hto
  obtain ⟨bi, _⟩ := bsN_inv hn next.length
  have hfl := bi.fl
  have h60 := hn.n60
  obtain ⟨tz, ez⟩ := bi.z0
  obtain ⟨F, hF⟩ : ∃ F, F = (bsN next next.length).1 := ⟨_, rfl⟩
  have hval := bi.val
  rw [← hF] at c1 hfl R ez hval
  refine CallE.gen fun k hk => EN_spec_l4Path rfl ?_
  simp -implicitDefEqProofs (disch := first | omega | (simp only [List.length_set, List.length_replicate, List.length_append, List.length_map, List.length_take, List.length_cons, List.length_nil]; omega)) [wrap64]
  refine HS.init.bls [(to : Int)] rfl rfl (by simp; exact ⟨by omega, by omega⟩) (by decide) fun q h2 H => ?_
  simp -implicitDefEqProofs (disch := first | omega | (simp only [List.length_set, List.length_replicate, List.length_append, List.length_map, List.length_take, List.length_cons, List.length_nil]; omega)) [wrap64]
  obtain ⟨l0, e0, hlt0, c3⟩ := c1.un (by omega)
  refine wp_while (σ := List Int × Nat × List Int) (fun t e h' => ∃ u, e = [some v, some (.int .i64 0), none, none, some u] ∧ HS h [ow u ((t.2.1 : Int) :: t.2.2)] h' ∧ t.2.1 < F.length ∧ Chn F (F.getD t.2.1 0) t.1 ∧ t.1 ++ ((t.2.1 : Int) :: t.2.2) = pth next to) (fun t => t.1.length) (l0, to, []) ⟨q, by simp, H, by dsimp only; omega, by rw [Int.toNat_natCast] at c3; exact c3, e0.symm⟩ ?_
  clear H
  rintro J ⟨l, a, r⟩ _ h3 hJ ⟨u, rfl, H, hal, c4, e4⟩
  simp only at c4 e4 H hal ⊢
  have hle : r.length ≤ 60 := by
    have := congrArg List.length e4
    simp at this
    omega
  by_cases ha : a = 0
  · subst ha
    have h0 : F.getD 0 0 = -1 := by rw [ez]; rfl
    rw [h0] at c4
    have hl := c4.neg
    subst hl
    simp -implicitDefEqProofs (disch := first | omega | (simp only [List.length_set, List.length_replicate, List.length_append, List.length_map, List.length_take, List.length_cons, List.length_nil]; omega)) [wrap64, H.rep.I]
    exact RetK.keep (hk _ _ (by rw [← e4]; exact H))
  · have hge := c4.ge
    have hv := hval a (by omega) (by omega)
    have hb0 : 0 ≤ F.getD a 0 := by omega
    obtain ⟨l', rfl, hbl, c5⟩ := c4.un hb0
    obtain ⟨b, hb⟩ : ∃ b : Nat, F.getD a 0 = b := ⟨_, (Int.toNat_of_nonneg hb0).symm⟩
    rw [hb] at hbl c5 e4
    rw [Int.toNat_natCast] at c5
    have hFa : F.getD a 0 = F[a] := by simp [hal]
    have hpa : (prn F)[a]'(by simpa using hal) = b := by rw [prn_at hal, if_neg (by omega), ← hFa, hb]
    have hpl : (prn F).length = F.length := prn_len
    have hbl2 : b < 60 := by omega
    simp -implicitDefEqProofs (disch := first | omega | (simp only [List.length_set, List.length_replicate, List.length_append, List.length_map, List.length_take, List.length_cons, List.length_nil]; omega)) [wrap64, H.rep.I, ha, (R.on H).I, hpa, setC]
    refine H.bls [(b : Int)] rfl rfl (by simp; exact ⟨by omega, by omega⟩) (by decide) fun q h4 H => ?_
    simp -implicitDefEqProofs (disch := first | omega | (simp only [List.length_set, List.length_replicate, List.length_append, List.length_map, List.length_take, List.length_cons, List.length_nil]; omega)) [wrap64]
    refine HS.appL (u := u) (l2 := (a : Int) :: r) H rfl rfl H.sw1.rep rfl rfl (by simp; omega) (by simp; omega) fun u' h5 H => ?_
    simp -implicitDefEqProofs (disch := first | omega | (simp only [List.length_set, List.length_replicate, List.length_append, List.length_map, List.length_take, List.length_cons, List.length_nil]; omega)) [wrap64]
    exact hJ (l', b, (a : Int) :: r) _ _ (by simp) ⟨u', by simp, H.only, by simpa using hbl, c5, by simpa using e4⟩
end Go.Proofs.YtonjglbachhdcaaGreat

/-
  Checking reachable states: by the program and by the reference.
-/
namespace Go.Proofs.YtonjglbachhdcaaGreat
open Go
set_option linter.all false
set_option linter.unusedVariables false
set_option linter.unusedSimpArgs false
set_option linter.defProp false
set_option maxRecDepth 1000000

def sof (g : Gr) (l : List Int) : List Sta := l.map fun x => g.states.getD x.toNat Sta.zero
theorem sof_len {g : Gr} {l : List Int} : (sof g l).length = l.length := by simp [sof]

theorem c_statesOf {h : Heap} {v w : Value} {s : Sy} {g : Gr} {l : List Int} (hs : s.Ok) (hg : g.Fin s) (Rg : Rep h v g) (Rl : Rep h w l) (hl : ∀ x ∈ l, 0 ≤ x ∧ x < g.states.length) (hn : l.length ≤ 60) :
    CallE Tryz.prog fn_impl_Graph_statesOf [v, w] h (fun u h' => HS h [ow u (sof g l)] h') := by
  obtain ⟨v1, v2, rfl, R1, R2'⟩ := Rep_Gr.1 Rg
  have hp3 := hs.p3
  refine CallE.gen fun k hk => EN_impl_Graph_statesOf rfl ?_
  simp -implicitDefEqProofs (disch := first | omega | (simp only [List.length_set, List.length_replicate, List.length_append, List.length_map, List.length_take, List.length_cons, List.length_nil]; omega)) [wrap64, Rl.len]
  refine HS.init.mks (α := Sta) (z := Sta.zero) rfl rfl (own_zeroSt) (Nat.le_refl _) (by omega) (by omega) fun o h1 H => ?_
  simp -implicitDefEqProofs (disch := first | omega | (simp only [List.length_set, List.length_replicate, List.length_append, List.length_map, List.length_take, List.length_cons, List.length_nil]; omega)) [wrap64, (Rl.on H).len]
  refine wp_count l.length (fun i e h' => e = [none, none, some (.agg #[v1, v2]), none, some o, none, none, some w, some (.int .i64 l.length), some (.int .i64 i)] ∧ ∃ y, HS h [ow o y] h' ∧ y.length = l.length ∧ y.take i = (sof g l).take i) ⟨by simp, _, H, by simp, by simp⟩ ?_
  clear H
  rintro J i _ h2 hJ hi ⟨rfl, y, H, hyl, hy⟩
  simp -implicitDefEqProofs (disch := first | omega | (simp only [List.length_set, List.length_replicate, List.length_append, List.length_map, List.length_take, List.length_cons, List.length_nil]; omega)) [wrap64]
  refine IteW.mk (fun hlt => ?_) (fun hge => ?_)
  · have hlx : i < l.length := by omega
    obtain ⟨x0, x1⟩ := hl _ (List.getElem_mem hlx)
    obtain ⟨x, hx⟩ : ∃ x : Nat, l[i] = x := ⟨_, (Int.toNat_of_nonneg x0).symm⟩
    have hxg : x < g.states.length := by omega
    obtain ⟨u, hu, Ru⟩ := (R1.on H).ld hxg
    change hload _ (some (elp 2 v1 x)) (some 2) = some u at hu
    have hok := hg.ok _ (List.getElem_mem hxg)
    have h5 := hok.len
    have h6 := hok.vs.len
    simp -implicitDefEqProofs (disch := first | omega | (simp only [List.length_set, List.length_replicate, List.length_append, List.length_map, List.length_take, List.length_cons, List.length_nil]; omega)) [wrap64, (Rl.on H).I, hx, (R1.on H).X (n := 2) rfl, hu, Ru.aSta]
    refine (c_State_copyOf Ru (by omega) (by omega)).go ?_
    intro c h3 G
    have H := G.app H
    simp -implicitDefEqProofs (disch := first | omega | (simp only [List.length_set, List.length_replicate, List.length_append, List.length_map, List.length_take, List.length_cons, List.length_nil]; omega)) [wrap64, H.sw1.rep.X (n := 2) rfl, G.rep.aSta]
    refine HS.store H (i := i) (by omega) rfl rfl rfl fun h4 H => ?_
    simp -implicitDefEqProofs (disch := first | omega | (simp only [List.length_set, List.length_replicate, List.length_append, List.length_map, List.length_take, List.length_cons, List.length_nil]; omega)) [wrap64]
    refine hJ _ _ hlx ⟨by simp, _, H, by simp [hyl], ?_⟩
    have := take_set_succ (x := sof g l) hy (by simpa [sof] using hlx) (by simpa [sof] using hyl)
    simpa [sof, hx, hxg] using this
  · simp -implicitDefEqProofs (disch := first | omega | (simp only [List.length_set, List.length_replicate, List.length_append, List.length_map, List.length_take, List.length_cons, List.length_nil]; omega)) [wrap64]
    have he : y = sof g l := eq_of_take hy (by simpa [sof] using by omega) (by simpa [sof] using hyl)
    exact RetK.keep (hk _ _ (he ▸ H))

theorem c_l4States {h : Heap} {v w : Value} {s : Sy} {g : Gr} {l : List Int} (hs : s.Ok) (hg : g.Fin s) (Rg : Rep h v g) (Rl : Rep h w l) (hl : ∀ x ∈ l, 0 ≤ x ∧ x < g.states.length) (hn : l.length ≤ 60) :
    CallE Tryz.prog fn_spec_l4States [v, w] h (fun u h' => HS h [ow u (sof g l)] h') := by
  obtain ⟨v1, v2, rfl, R1, R2'⟩ := Rep_Gr.1 Rg
  have hp3 := hs.p3
  refine CallE.gen fun k hk => EN_spec_l4States rfl ?_
  simp -implicitDefEqProofs (disch := first | omega | (simp only [List.length_set, List.length_replicate, List.length_append, List.length_map, List.length_take, List.length_cons, List.length_nil]; omega)) [wrap64]
  refine HS.init.bls0 Sta fun o h1 H => ?_
  simp -implicitDefEqProofs (disch := first | omega | (simp only [List.length_set, List.length_replicate, List.length_append, List.length_map, List.length_take, List.length_cons, List.length_nil]; omega)) [wrap64]
  refine wp_count l.length (fun i e h' => ∃ o, e = [none, some w, some (.agg #[v1, v2]), none, some o, some (.int .i64 i), none] ∧ HS h [ow o ((sof g l).take i)] h') ⟨o, by simp, by simpa using H⟩ ?_
  clear H
  rintro J i _ h2 hJ hi ⟨o, rfl, H⟩
  simp -implicitDefEqProofs (disch := first | omega | (simp only [List.length_set, List.length_replicate, List.length_append, List.length_map, List.length_take, List.length_cons, List.length_nil]; omega)) [wrap64, (Rl.on H).len]
  refine IteW.mk (fun hlt => ?_) (fun hge => ?_)
  · have hlx : i < l.length := by omega
    obtain ⟨x0, x1⟩ := hl _ (List.getElem_mem hlx)
    obtain ⟨x, hx⟩ : ∃ x : Nat, l[i] = x := ⟨_, (Int.toNat_of_nonneg x0).symm⟩
    have hxg : x < g.states.length := by omega
    obtain ⟨u, hu, Ru⟩ := R1.ld hxg
    change hload _ (some (elp 2 v1 x)) (some 2) = some u at hu
    have hu := hload_le H.base hu
    have hok := hg.ok _ (List.getElem_mem hxg)
    have h5 := hok.len
    have h6 := hok.vs.len
    have hsl : ((sof g l).take i).length = i := by simp [sof]; omega
    obtain ⟨t1, t2, rfl, T1, T2⟩ := Rep_Sta.1 Ru
    have hO1 := T1.one
    have hO2 := T2.one
    have hst : (sof g l).take (i + 1) = (sof g l).take i ++ [g.states[x]] := by
      rw [List.take_add_one, List.getElem?_eq_getElem (by simpa [sof] using hlx)]
      simp [sof, hx, hxg]
    obtain ⟨D, hD⟩ : ∃ D, D = (sof g l).take i := ⟨_, rfl⟩
    rw [← hD] at H hsl hst
    simp -implicitDefEqProofs (disch := first | omega | (simp only [List.length_set, List.length_replicate, List.length_append, List.length_map, List.length_take, List.length_cons, List.length_nil]; omega)) [wrap64, (Rl.on H).I, hx, (R1.on H).X (n := 2) rfl, hu, setC, hO1, hO2]
    refine HS.appPL (α := Int) (l2 := g.states[x].locs) H rfl rfl (T1.on H) rfl rfl (by omega) fun o1 h3 H => ?_
    simp -implicitDefEqProofs (disch := first | omega | (simp only [List.length_set, List.length_replicate, List.length_append, List.length_map, List.length_take, List.length_cons, List.length_nil]; omega)) [wrap64]
    refine HS.appPL (α := Int) (l2 := g.states[x].vals) H rfl rfl (T2.on H) rfl rfl (by omega) fun o2 h4 H => ?_
    simp -implicitDefEqProofs (disch := first | omega | (simp only [List.length_set, List.length_replicate, List.length_append, List.length_map, List.length_take, List.length_cons, List.length_nil]; omega)) [wrap64, setC, H.rep.cells, H.rep.one, H.sw1.rep.cells, H.sw1.rep.one]
    refine HS.appO (bytes := 48) (HS.mkSta (a := g.states[x]) H.sw1) rfl rfl (by simp [setC, H.rep.cells, H.rep.one, H.sw1.rep.cells, H.sw1.rep.one]) rfl rfl (by omega) (by omega) fun o' h5 H => ?_
    simp -implicitDefEqProofs (disch := first | omega | (simp only [List.length_set, List.length_replicate, List.length_append, List.length_map, List.length_take, List.length_cons, List.length_nil]; omega)) [wrap64]
    exact hJ _ _ hlx ⟨o', by simp, by rw [hst]; exact H⟩
  · simp -implicitDefEqProofs (disch := first | omega | (simp only [List.length_set, List.length_replicate, List.length_append, List.length_map, List.length_take, List.length_cons, List.length_nil]; omega)) [wrap64]
    rw [List.take_of_length_le (by rw [sof_len]; omega)] at H
    exact RetK.keep (hk _ _ H)
end Go.Proofs.YtonjglbachhdcaaGreat

/-
  Paths of graphs are executions.
-/
namespace Go.Proofs.YtonjglbachhdcaaGreat
open Go
set_option linter.all false
set_option linter.unusedVariables false
set_option linter.unusedSimpArgs false
set_option linter.defProp false
set_option maxRecDepth 1000000

structure Exec (s : Sy) (P : List Sta) : Prop where
  ne : 0 < P.length
  st0 : P.getD 0 Sta.zero = ini s
  step : ∀ i : Nat, i + 1 < P.length → ∃ t ∈ enb s (P.getD i Sta.zero), P.getD (i + 1) Sta.zero = (P.getD i Sta.zero).aft s t
theorem sof_get {g : Gr} {l : List Int} {j : Nat} (hj : j < l.length) : (sof g l).getD j Sta.zero = g.states.getD (l.getD j 0).toNat Sta.zero := by
  simp [sof, hj]
theorem pth_exec {s : Sy} (h : bgOk s) {i : Nat} (hi : i < (bgR s).states.length) : Exec s (sof (bgR s) (pth (bgR s).next i)) ∧ (sof (bgR s) (pth (bgR s).next i)).getD ((sof (bgR s) (pth (bgR s).next i)).length - 1) Sta.zero = (bgR s).states.getD i Sta.zero := by
  have hfin := bgR_fin h
  have hi2 : i < (bgR s).next.length := by rw [hfin.nl]; exact hi
  obtain ⟨p1, p2⟩ := pth_chn hfin.nok hfin.rr hi2
  obtain ⟨hE, hini⟩ := bgR_edge h
  have hBE := bsN_BE hfin.nok (bgR s).next.length
  obtain ⟨bi, _⟩ := bsN_inv hfin.nok (bgR s).next.length
  obtain ⟨k1, k2, k3⟩ := p1.link
  obtain ⟨k4, k5⟩ := k2 (by omega)
  have hall := p1.all
  rw [bi.fl] at hall
  have hr : ∀ {j : Nat}, j < (pth (bgR s).next i).length → 0 ≤ (pth (bgR s).next i).getD j 0 ∧ (pth (bgR s).next i).getD j 0 < (bgR s).next.length := fun {j} hj => by
    have e : (pth (bgR s).next i).getD j 0 = (pth (bgR s).next i)[j] := by simp [hj]
    rw [e]
    exact hall _ (List.getElem_mem hj)
  have hnl := hfin.nl
  have hent := hfin.ent
  generalize hl : pth (bgR s).next i = l at *
  generalize bgR s = g at *
  refine ⟨⟨by rw [sof_len]; exact k5, ?_, fun j hj => ?_⟩, ?_⟩
  · rw [sof_get k5]
    have h0 := k3 k5
    obtain ⟨r0, r1⟩ := hr k5
    have : (l.getD 0 0).toNat = 0 := by
      by_cases hz : (l.getD 0 0).toNat = 0
      · exact hz
      · have := bi.val (l.getD 0 0).toNat (by omega) (by omega)
        omega
    rw [this]
    exact hini
  · rw [sof_len] at hj
    rw [sof_get hj, sof_get (show j < l.length by omega)]
    have hb := k1 j hj
    obtain ⟨r0, r1⟩ := hr hj
    obtain ⟨q0, q1⟩ := hr (show j < l.length by omega)
    obtain ⟨a, ha⟩ : ∃ a : Nat, l.getD (j + 1) 0 = a := ⟨_, (Int.toNat_of_nonneg r0).symm⟩
    obtain ⟨b, hb2⟩ : ∃ b : Nat, l.getD j 0 = b := ⟨_, (Int.toNat_of_nonneg q0).symm⟩
    rw [ha, hb2, Int.toNat_natCast] at hb
    rw [ha, hb2, Int.toNat_natCast, Int.toNat_natCast]
    obtain ⟨m1, m2⟩ := hBE a (by rw [hb]; omega) (by omega)
    rw [hb, Int.toNat_natCast] at m1
    rw [hb] at m2
    have hbn : b < g.next.length := by omega
    have e1 : g.next.getD b [] = g.next[b] := by simp [hbn]
    rw [e1] at m1
    rcases hE b hbn _ m1 with ⟨t, ht, e2⟩ | e2
    · rw [Int.toNat_natCast] at e2
      exact ⟨t, ht, e2⟩
    · exact absurd e2.symm m2
  · rw [sof_len, sof_get (by omega), k4, Int.toNat_natCast]
end Go.Proofs.YtonjglbachhdcaaGreat

/-
  What the helpers of the laws do: copying, counting, comparing, marking. Printed by a program.
-/
namespace Go.Proofs.YtonjglbachhdcaaGreat
open Go
set_option linter.all false
set_option linter.unusedVariables false
set_option linter.unusedSimpArgs false
set_option linter.defProp false
set_option maxRecDepth 1000000

end Go.Proofs.YtonjglbachhdcaaGreat

/-
  The state after a step: the functions of the packages.
-/
namespace Go.Proofs.YtonjglbachhdcaaGreat
open Go
set_option linter.all false
set_option linter.unusedVariables false
set_option linter.unusedSimpArgs false
set_option linter.defProp false
set_option maxRecDepth 1000000

theorem Stp.rep {h : Heap} {t : Stp} (ok : t.ok) : Rep h t.v t := Rep_Stp.2 ⟨rfl, ok⟩
theorem c_Index_Step {h : Heap} {a : Value} {x : List Stp} (Ra : Rep h a x) {t : Stp} : CallE Tryz.prog fn_slices_Index_S_impl_Step_impl_Step [a, t.v] h (fun v h' => h' = h ∧ ∃ r : Int, v = .int .i64 r ∧ (0 ≤ r ↔ t ∈ x)) := by
  refine CallE.gen fun k hk => EN_slices_Index_S_impl_Step_impl_Step rfl ?_
  have hL := Ra.lt
  simp -implicitDefEqProofs (disch := first | omega | (simp only [List.length_set, List.length_replicate, List.length_append, List.length_map, List.length_take, List.length_cons, List.length_nil]; omega)) [wrap64, Ra.len]
  refine wp_count x.length (fun i e h' => e = [some a, none, some t.v, none, none, some (.int .i64 x.length), some (.int .i64 i)] ∧ h' = h ∧ ∀ (j : Nat) (hj : j < x.length), j < i → x[j] ≠ t) ⟨by simp, rfl, fun j _ hj => absurd hj (Nat.not_lt_zero j)⟩ ?_
  rintro J i _ h1 hJ hi ⟨rfl, rfl, hn⟩
  simp -implicitDefEqProofs (disch := first | omega | (simp only [List.length_set, List.length_replicate, List.length_append, List.length_map, List.length_take, List.length_cons, List.length_nil]; omega)) [wrap64]
  refine IteW.mk (fun hlt => ?_) (fun hge => ?_)
  · have hlx : i < x.length := by omega
    by_cases he : x[i] = t
    · simp -implicitDefEqProofs (disch := first | omega | (simp only [List.length_set, List.length_replicate, List.length_append, List.length_map, List.length_take, List.length_cons, List.length_nil]; omega)) [wrap64, Ra.xStp, Stp.v, he]
      exact RetK.keep (hk _ _ ⟨rfl, i, rfl, by simp only [Int.natCast_nonneg, true_iff]; rw [← he]; exact List.getElem_mem hlx⟩)
    · have he2 : ¬ (t.proc = x[i].proc ∧ t.edge = x[i].edge ∧ t.partner = x[i].partner ∧ t.pedge = x[i].pedge) := fun hh => he (by rw [Stp.ext_iff']; exact ⟨hh.1.symm, hh.2.1.symm, hh.2.2.1.symm, hh.2.2.2.symm⟩)
      simp -implicitDefEqProofs (disch := first | omega | (simp only [List.length_set, List.length_replicate, List.length_append, List.length_map, List.length_take, List.length_cons, List.length_nil]; omega)) [wrap64, Ra.xStp, Stp.v]
      refine IteW.mk (fun hh => absurd hh ?_) (fun _ => ?_)
      · simpa using he2
      · simp -implicitDefEqProofs (disch := first | omega | (simp only [List.length_set, List.length_replicate, List.length_append, List.length_map, List.length_take, List.length_cons, List.length_nil]; omega)) [wrap64]
        refine hJ _ _ hlx ⟨by simp [Stp.v], rfl, fun j hj hji => ?_⟩
        by_cases hji2 : j = i
        · subst hji2; exact he
        · exact hn j hj (by omega)
  · simp -implicitDefEqProofs (disch := first | omega | (simp only [List.length_set, List.length_replicate, List.length_append, List.length_map, List.length_take, List.length_cons, List.length_nil]; omega)) [wrap64]
    refine RetK.keep (hk _ _ ⟨rfl, -1, rfl, ?_⟩)
    simp only [show ¬ (0 : Int) ≤ -1 by decide, false_iff]
    intro hm
    obtain ⟨j, hj, h1⟩ := List.mem_iff_getElem.1 hm
    exact hn j hj (by omega) h1
theorem c_Contains_Step {h : Heap} {a : Value} {x : List Stp} (Ra : Rep h a x) {t : Stp} : CallE Tryz.prog fn_slices_Contains_S_impl_Step_impl_Step [a, t.v] h (fun v h' => h' = h ∧ v = .bool (decide (t ∈ x))) := by
  refine CallE.gen fun k hk => EN_slices_Contains_S_impl_Step_impl_Step rfl ?_
  simp -implicitDefEqProofs (disch := first | omega | (simp only [List.length_set, List.length_replicate, List.length_append, List.length_map, List.length_take, List.length_cons, List.length_nil]; omega)) [wrap64, Stp.v]
  refine (c_Index_Step Ra (t := t)).go ?_
  rintro _ h1 ⟨rfl, r, rfl, hr⟩
  simp -implicitDefEqProofs (disch := first | omega | (simp only [List.length_set, List.length_replicate, List.length_append, List.length_map, List.length_take, List.length_cons, List.length_nil]; omega)) [wrap64]
  exact RetK.keep (hk _ _ ⟨rfl, by congr 1; rw [Bool.eq_iff_iff]; simp [hr]⟩)

theorem ens_mem {s : Sy} {st : Sta} {t : Stp} (h : t ∈ ens s st) : s.Ok ∧ st.Ok s ∧ t.In s := by
  unfold ens at h
  split at h
  · rename_i q; exact ⟨q.1, q.2, enb_in h⟩
  · simp at h
noncomputable def aplR (s : Sy) (st : Sta) (t : Stp) : Sta := if t ∈ ens s st then st.aft s t else Sta.zero
theorem c_ApplyStep {h : Heap} {v w : Value} {s : Sy} {st : Sta} {t : Stp} (R : Rep h v s) (Rt : Rep h w st) (ok : t.ok) : CallE Tryz.prog fn_impl_ApplyStep [v, w, t.v] h (R2 (decide (t ∈ ens s st)) (aplR s st t) h) := by
  have FS := R.aSy
  have FT := Rt.aSta
  have FE := (Stp.rep (h := h) ok).aStp
  refine CallE.gen fun k hk => EN_impl_ApplyStep rfl ?_
  simp -implicitDefEqProofs (disch := first | omega | (simp only [List.length_set, List.length_replicate, List.length_append, List.length_map, List.length_take, List.length_cons, List.length_nil]; omega)) [wrap64, FS, FT, FE]
  refine (c_EnabledSteps R Rt).go ?_
  intro l h1 H
  simp -implicitDefEqProofs (disch := first | omega | (simp only [List.length_set, List.length_replicate, List.length_append, List.length_map, List.length_take, List.length_cons, List.length_nil]; omega)) [wrap64]
  refine (c_Contains_Step H.rep).go ?_
  rintro _ h1 ⟨rfl, rfl⟩
  by_cases q : t ∈ ens s st
  case neg =>
    simp -implicitDefEqProofs (disch := first | omega | (simp only [List.length_set, List.length_replicate, List.length_append, List.length_map, List.length_take, List.length_cons, List.length_nil]; omega)) [wrap64, q, setC]
    exact RetK.keep (hk _ _ ⟨_, by rw [decide_eq_false q], by rw [aplR, if_neg q]; exact zero_St (Γ := []) H.base⟩)
  obtain ⟨q1, q2, q3⟩ := ens_mem q
  simp -implicitDefEqProofs (disch := first | omega | (simp only [List.length_set, List.length_replicate, List.length_append, List.length_map, List.length_take, List.length_cons, List.length_nil]; omega)) [wrap64, q, FS, FT, FE]
  refine (c_after q1 q2 q3 (R.on H) (Rt.on H)).go ?_
  intro o h2 HO
  obtain ⟨o1, o2, rfl, HO2⟩ := HO.unSta
  have hC1 := HO2.rep.one
  have hC2 := HO2.sw1.rep.one
  have H := HO.app H
  simp -implicitDefEqProofs (disch := first | omega | (simp only [List.length_set, List.length_replicate, List.length_append, List.length_map, List.length_take, List.length_cons, List.length_nil]; omega)) [wrap64, hC1, hC2, setC]
  exact RetK.keep (hk _ _ ⟨_, by rw [decide_eq_true q], by rw [aplR, if_pos q]; exact H.only⟩)
end Go.Proofs.YtonjglbachhdcaaGreat

/-
  Whether states are an execution: by the laws' helper. (not built yet: the places of the loops are guesses)
-/
namespace Go.Proofs.YtonjglbachhdcaaGreat
open Go
set_option linter.all false
set_option linter.unusedVariables false
set_option linter.unusedSimpArgs false
set_option linter.defProp false
set_option maxRecDepth 1000000

theorem c_InitialState {h : Heap} {v : Value} {s : Sy} (R : Rep h v s) : CallE Tryz.prog fn_impl_InitialState [v] h (R2 (decide s.Ok) (if s.Ok then ini s else Sta.zero) h) := by
  have FS := R.aSy
  refine CallE.gen fun k hk => EN_impl_InitialState rfl ?_
  simp -implicitDefEqProofs (disch := first | omega | (simp only [List.length_set, List.length_replicate, List.length_append, List.length_map, List.length_take, List.length_cons, List.length_nil]; omega)) [wrap64, FS]
  refine (c_SystemValid R).go ?_
  rintro _ h1 ⟨l1, rfl⟩
  by_cases hs : s.Ok
  case neg =>
    simp -implicitDefEqProofs (disch := first | omega | (simp only [List.length_set, List.length_replicate, List.length_append, List.length_map, List.length_take, List.length_cons, List.length_nil]; omega)) [wrap64, hs, setC]
    exact RetK.keep (hk _ _ ⟨_, by rw [decide_eq_false hs], by rw [if_neg hs]; exact zero_St (Γ := []) l1⟩)
  simp -implicitDefEqProofs (disch := first | omega | (simp only [List.length_set, List.length_replicate, List.length_append, List.length_map, List.length_take, List.length_cons, List.length_nil]; omega)) [wrap64, hs, FS]
  refine (c_initial hs (R.le l1)).go ?_
  intro u h2 H
  have FT := H.rep.aSta
  simp -implicitDefEqProofs (disch := first | omega | (simp only [List.length_set, List.length_replicate, List.length_append, List.length_map, List.length_take, List.length_cons, List.length_nil]; omega)) [wrap64, FT, setC]
  exact RetK.keep (hk _ _ ⟨u, by rw [decide_eq_true hs], by rw [if_pos hs]; exact HS.app (Γ := []) H l1⟩)
end Go.Proofs.YtonjglbachhdcaaGreat

/-
  Helpers of the laws about graphs: where a state lies, lists, executions.
-/
namespace Go.Proofs.YtonjglbachhdcaaGreat
open Go
set_option linter.all false
set_option linter.unusedVariables false
set_option linter.unusedSimpArgs false
set_option linter.defProp false
set_option maxRecDepth 1000000

theorem ens_ok {s : Sy} {st : Sta} (hs : s.Ok) (hst : st.Ok s) : ens s st = enb s st := by rw [ens, if_pos ⟨hs, hst⟩]
theorem c_wpExecution {h : Heap} {v w : Value} {s : Sy} {P : List Sta} (hs : s.Ok) (R : Rep h v s) (RP : Rep h w P) (hE : Exec s P) (hok : ∀ st ∈ P, st.Ok s) : CallE Tryz.prog fn_laws_wpExecution [v, w] h (fun u h' => h.le h' ∧ u = .bool true) := by
  have FS := R.aSy
  have hL := RP.lt
  have hne := hE.ne
  refine CallE.gen fun k hk => EN_laws_wpExecution rfl ?_
  simp -implicitDefEqProofs (disch := first | omega | (simp only [List.length_set, List.length_replicate, List.length_append, List.length_map, List.length_take, List.length_cons, List.length_nil]; omega)) [wrap64, FS]
  refine (c_InitialState R).go ?_
  rintro _ h1 ⟨t, rfl, H⟩
  rw [if_pos hs] at H
  have l1 := H.base
  have FI := H.rep.aSta
  obtain ⟨u, hu, Ru⟩ := (RP.le l1).ld hne
  change hload _ (some (elp 2 w 0)) (some 2) = some u at hu
  have he0 : P[0] = ini s := by have := hE.st0; simpa [hne] using this
  have hz : ¬ ((P.length : Int) = 0) := by omega
  have hz' : ¬ P = [] := fun e => by rw [e] at hne; simp at hne
  simp -implicitDefEqProofs (disch := first | omega | (simp only [List.length_set, List.length_replicate, List.length_append, List.length_map, List.length_take, List.length_cons, List.length_nil]; omega)) [wrap64, hs, FI, (RP.le l1).len, hz, hz', (RP.le l1).X (n := 2) rfl, hu, Ru.aSta]
  refine (c_StateSame Ru H.rep).go ?_
  rintro _ h1 ⟨rfl, rfl⟩
  simp -implicitDefEqProofs (disch := first | omega | (simp only [List.length_set, List.length_replicate, List.length_append, List.length_map, List.length_take, List.length_cons, List.length_nil]; omega)) [wrap64, he0]
  clear H
  refine wp_count P.length (fun i e h' => e = [none, some w, some v, none, none, none, some (.int .i64 i), none, none, none, none, none] ∧ h.le h') ⟨by simp, l1⟩ ?_
  rintro J i _ h2 hJ hi ⟨rfl, l2⟩
  simp -implicitDefEqProofs (disch := first | omega | (simp only [List.length_set, List.length_replicate, List.length_append, List.length_map, List.length_take, List.length_cons, List.length_nil]; omega)) [wrap64, (RP.le l2).len]
  refine IteW.mk (fun hlt => ?_) (fun hge => ?_)
  · have hi0 : i < P.length := by omega
    have hi1 : i + 1 < P.length := by omega
    obtain ⟨t, ht, hte⟩ := hE.step i hi1
    rw [show P.getD i Sta.zero = P[i] by simp [hi0]] at ht hte
    rw [show P.getD (i + 1) Sta.zero = P[i + 1] by simp [hi1]] at hte
    have hst := hok _ (List.getElem_mem hi0)
    obtain ⟨y, hy, Ry⟩ := (RP.le l2).ld hi0
    change hload _ (some (elp 2 w i)) (some 2) = some y at hy
    obtain ⟨z, hz, Rz⟩ := (RP.le l2).ld hi1
    change hload _ (some (elp 2 w (i + 1))) (some 2) = some z at hz
    have FY := Ry.aSta
    have FZ := Rz.aSta
    have RX := (RP.le l2).X (n := 2) rfl
    generalize P[i] = x at *
    generalize hx' : P[i + 1] = x' at *
    have hel := enb_len' (st := x) hs
    simp -implicitDefEqProofs (disch := first | omega | (simp only [List.length_set, List.length_replicate, List.length_append, List.length_map, List.length_take, List.length_cons, List.length_nil]; omega)) [wrap64, RX, hy, FY, FS]
    refine (c_EnabledSteps (R.le l2) Ry).go ?_
    intro ls h3 G
    rw [ens_ok hs hst] at G
    have Rl := G.rep
    have l3 := G.base
    clear G
    simp -implicitDefEqProofs (disch := first | omega | (simp only [List.length_set, List.length_replicate, List.length_append, List.length_map, List.length_take, List.length_cons, List.length_nil]; omega)) [wrap64]
    refine wp_count (enb s x).length (fun k e h' => e = [none, some w, some v, none, none, none, some (.int .i64 i), some ls, some (.bool (((enb s x).take k).any fun t => decide (x.aft s t = x'))), some (.int .i64 k), none, none] ∧ h3.le h') ⟨by simp, Heap.le.refl _⟩ ?_
    rintro J2 k _ h4 hJ2 hk4 ⟨rfl, l4⟩
    simp -implicitDefEqProofs (disch := first | omega | (simp only [List.length_set, List.length_replicate, List.length_append, List.length_map, List.length_take, List.length_cons, List.length_nil]; omega)) [wrap64, (Rl.le l4).len]
    refine IteW.mk (fun hlt2 => ?_) (fun hge2 => ?_)
    · have hkl : k < (enb s x).length := by omega
      have l5 := l3.trans l4
      have hm : (enb s x)[k] ∈ ens s x := by rw [ens_ok hs hst]; exact List.getElem_mem hkl
      have okt : (enb s x)[k].ok := Rl.okStp hkl
      have htk : ((enb s x).take (k + 1)).any (fun t => decide (x.aft s t = x')) = (((enb s x).take k).any (fun t => decide (x.aft s t = x')) || decide (x.aft s (enb s x)[k] = x')) := by
        rw [List.take_succ, List.any_append, List.getElem?_eq_getElem hkl]; simp
      generalize ((enb s x).take k).any (fun t => decide (x.aft s t = x')) = fd at *
      have LS := (Rl.le l4).xStp
      obtain ⟨t, htd⟩ : ∃ t, t = (enb s x)[k] := ⟨_, rfl⟩
      rw [← htd] at hm okt htk
      have FE := (Stp.rep (h := h4) okt).aStp
      have hy' := hload_le l5 hy
      have hz' := hload_le l5 hz
      simp -implicitDefEqProofs (disch := first | omega | (simp only [List.length_set, List.length_replicate, List.length_append, List.length_map, List.length_take, List.length_cons, List.length_nil]; omega)) [wrap64, RX, hy', FY, FS, LS, ← htd, FE]
      refine (c_ApplyStep (R.le (l2.trans l5)) (Ry.le l5) okt).go ?_
      rintro _ h6 ⟨q, rfl, G⟩
      rw [aplR, if_pos hm] at G
      have FQ := G.rep.aSta
      have hz'' := hload_le G.base hz'
      cases fd with
      | true =>
        simp -implicitDefEqProofs (disch := first | omega | (simp only [List.length_set, List.length_replicate, List.length_append, List.length_map, List.length_take, List.length_cons, List.length_nil]; omega)) [wrap64, hm, FQ, setC]
        exact hJ2 _ _ hkl ⟨by simp [htk], l4.trans G.base⟩
      | false =>
        simp -implicitDefEqProofs (disch := first | omega | (simp only [List.length_set, List.length_replicate, List.length_append, List.length_map, List.length_take, List.length_cons, List.length_nil]; omega)) [wrap64, hm, FQ, setC, RX, hz'', FZ]
        refine (c_StateSame G.rep (Rz.le (l5.trans G.base))).go ?_
        rintro _ h6 ⟨rfl, rfl⟩
        simp -implicitDefEqProofs (disch := first | omega | (simp only [List.length_set, List.length_replicate, List.length_append, List.length_map, List.length_take, List.length_cons, List.length_nil]; omega)) [wrap64]
        exact hJ2 _ _ hkl ⟨by simp [htk], l4.trans G.base⟩
    · have hany : ((enb s x).take k).any (fun t => decide (x.aft s t = x')) = true := by
        rw [List.take_of_length_le (by omega), List.any_eq_true]
        exact ⟨t, ht, by simpa using hte.symm⟩
      simp -implicitDefEqProofs (disch := first | omega | (simp only [List.length_set, List.length_replicate, List.length_append, List.length_map, List.length_take, List.length_cons, List.length_nil]; omega)) [wrap64, hany]
      exact hJ _ _ (by omega) ⟨by simp, l2.trans (l3.trans l4)⟩
  · simp -implicitDefEqProofs (disch := first | omega | (simp only [List.length_set, List.length_replicate, List.length_append, List.length_map, List.length_take, List.length_cons, List.length_nil]; omega)) [wrap64]
    exact RetK.keep (hk _ _ ⟨l2, rfl⟩)
end Go.Proofs.YtonjglbachhdcaaGreat

/-
  Relevance is closed: in plain Lean.
-/
namespace Go.Proofs.YtonjglbachhdcaaGreat
open Go
set_option linter.all false
set_option linter.unusedVariables false
set_option linter.unusedSimpArgs false
set_option linter.defProp false
set_option maxRecDepth 1000000

def LeB (M M' : List Bool) : Prop := M.length = M'.length ∧ ∀ i : Nat, M.getD i false = true → M'.getD i false = true
theorem LeB.refl {M : List Bool} : LeB M M := ⟨rfl, fun _ h => h⟩
theorem LeB.trans {a b c : List Bool} (h : LeB a b) (h' : LeB b c) : LeB a c := ⟨h.1.trans h'.1, fun i hi => h'.2 i (h.2 i hi)⟩
theorem LeB.set {M : List Bool} {k : Nat} : LeB M (M.set k true) := by
  refine ⟨by simp, fun i hi => ?_⟩
  rw [List.getD_eq_getElem?_getD, List.getElem?_set]
  split
  · rename_i e
    subst e
    by_cases hk : k < M.length
    · simp [hk]
    · rw [List.getD_eq_getElem?_getD, List.getElem?_eq_none (by omega)] at hi; simp at hi
  · rw [← List.getD_eq_getElem?_getD]; exact hi
section
variable {α : Type} {f : List Bool → α → List Bool}
end
def occB (x : Exq) (v : Nat) : Bool := (x.mkv [false, false, false]).getD v false
theorem bool3 {M : List Bool} (h : M.length = 3) : ∃ a b c, M = [a, b, c] := by
  match M, h with
  | [a, b, c], _ => exact ⟨a, b, c, rfl⟩
theorem LeB.cnt {M M' : List Bool} (h : LeB M M') (hM : M.length = 3) (hne : M ≠ M') : M.count true < M'.count true := by
  obtain ⟨a, b, c, rfl⟩ := bool3 hM
  obtain ⟨a', b', c', rfl⟩ := bool3 (by rw [← h.1]; rfl)
  have h0 := h.2 0
  have h1 := h.2 1
  have h2 := h.2 2
  simp at h0 h1 h2
  clear h hM
  revert a b c a' b' c'
  decide
end Go.Proofs.YtonjglbachhdcaaGreat

/-
  Arguments of laws: expressions that are drawn.
-/
namespace Go.Proofs.YtonjglbachhdcaaGreat
open Go
set_option linter.all false
set_option linter.unusedVariables false
set_option linter.unusedSimpArgs false
set_option linter.defProp false
set_option maxRecDepth 1000000

theorem okL {xs : List Int} (h : ∀ x ∈ xs, -9223372036854775808 ≤ x ∧ x < 9223372036854775808) : ∀ x ∈ xs, Flat.ok x := h
theorem Exq.nods_append : ∀ {l l2 : List Exq}, Exq.nods (l ++ l2) = Exq.nods l + Exq.nods l2
  | [], _ => by simp [Exq.nods]
  | x :: l, l2 => by simp [Exq.nods, Exq.nods_append (l := l) (l2 := l2)]; omega
theorem Exq.arity_le {k : Int} : Exq.arity k ≤ 2 := by
  unfold Exq.arity; repeat' split
  all_goals omega
theorem Exq.arity_ge {k : Int} : -1 ≤ Exq.arity k := by
  unfold Exq.arity; repeat' split
  all_goals omega

theorem c_l1Random {b : Nat} {sl : Value} {l : List (BitVec 8)} : ∀ (d : Nat), d ≤ 4 → ∀ {g h : Heap} {Γ : List HP} {p : Int}, Rep g sl l → HS g (rb b sl p :: Γ) h → 0 ≤ p → p + 4 * (2 ^ d : Nat) ≤ 1000000000000 →
    CallE Tryz.prog fn_spec_l1Random [.pointer (some ⟨b, 0, none⟩), .int .i64 d] h (fun u h' => ∃ (y : Exq) (p' : Int), HS g (ow u y :: rb b sl p' :: Γ) h' ∧ y.nod < 2 ^ (d + 1) ∧ p ≤ p' ∧ p' ≤ p + (4 * (2 ^ d : Nat) - 2)) := by
  intro d
  induction d with
  | zero =>
    intro _ g h Γ p R H hp hp2
    refine CallE.gen fun k hk => EN_spec_l1Random rfl ?_
    simp -implicitDefEqProofs (disch := first | omega | (simp only [List.length_set, List.length_replicate, List.length_append, List.length_map, List.length_take, List.length_cons, List.length_nil]; omega)) [wrap64]
    refine (c_pick R H (by omega) (by omega) ⟨by decide, by decide⟩).go ?_
    rintro _ hL1 ⟨r1, rfl, o1, z1, y1, H⟩
    by_cases c1 : r1 = 0
    · simp -implicitDefEqProofs (disch := first | omega | (simp only [List.length_set, List.length_replicate, List.length_append, List.length_map, List.length_take, List.length_cons, List.length_nil]; omega)) [wrap64, c1]
      refine (c_pick R H (by omega) (by omega) ⟨by decide, by decide⟩).go ?_
      rintro _ hL2 ⟨r2, rfl, o2, z2, y2, H⟩
      simp -implicitDefEqProofs (disch := first | omega | (simp only [List.length_set, List.length_replicate, List.length_append, List.length_map, List.length_take, List.length_cons, List.length_nil]; omega)) [wrap64, setC]
      exact RetK.keep (hk _ _ ⟨Exq.mk 1 r2 [], _, HS.mkExq' H.nil_ow ⟨by decide, by decide⟩ o2, by simp [Exq.nod, Exq.nods] <;> omega, by omega, by omega⟩)
    · simp -implicitDefEqProofs (disch := first | omega | (simp only [List.length_set, List.length_replicate, List.length_append, List.length_map, List.length_take, List.length_cons, List.length_nil]; omega)) [wrap64, c1]
      refine H.bls [(0 : Int), 1, 0, 2] rfl rfl (okL (by decide)) (by decide) fun v hL2 H => ?_
      simp -implicitDefEqProofs (disch := first | omega | (simp only [List.length_set, List.length_replicate, List.length_append, List.length_map, List.length_take, List.length_cons, List.length_nil]; omega)) [wrap64]
      refine (c_num R H (by omega) (by omega) (by simp)).go ?_
      rintro _ hL3 ⟨r2, rfl, o2, _, H⟩
      simp -implicitDefEqProofs (disch := first | omega | (simp only [List.length_set, List.length_replicate, List.length_append, List.length_map, List.length_take, List.length_cons, List.length_nil]; omega)) [wrap64, setC]
      exact RetK.keep (hk _ _ ⟨Exq.mk 2 r2 [], _, HS.mkExq' H.nil_ow ⟨by decide, by decide⟩ o2, by simp [Exq.nod, Exq.nods] <;> omega, by omega, by omega⟩)
  | succ d ih =>
    intro hd g h Γ p R H hp hp2
    have hq0 : 2 ^ (d + 1) = 2 * 2 ^ d := by rw [Nat.pow_succ]; omega
    have hq1 : 2 ^ (d + 1 + 1) = 4 * 2 ^ d := by rw [Nat.pow_succ, Nat.pow_succ]; omega
    have hqp : 0 < 2 ^ d := Nat.two_pow_pos d
    refine CallE.gen fun k hk => EN_spec_l1Random rfl ?_
    rw [hq0, hq1] at hk
    rw [hq0] at ih
    generalize hQ : 2 ^ d = q at *
    by_cases h2 : d = 0
    · simp -implicitDefEqProofs (disch := first | omega | (simp only [List.length_set, List.length_replicate, List.length_append, List.length_map, List.length_take, List.length_cons, List.length_nil]; omega)) [wrap64, h2]
      refine (c_pick R H (by omega) (by omega) ⟨by decide, by decide⟩).go ?_
      rintro _ hL1 ⟨r1, rfl, o1, z1, y1, H⟩
      by_cases c1 : r1 = 0
      · simp -implicitDefEqProofs (disch := first | omega | (simp only [List.length_set, List.length_replicate, List.length_append, List.length_map, List.length_take, List.length_cons, List.length_nil]; omega)) [wrap64, c1]
        refine (c_pick R H (by omega) (by omega) ⟨by decide, by decide⟩).go ?_
        rintro _ hL2 ⟨r2, rfl, o2, z2, y2, H⟩
        simp -implicitDefEqProofs (disch := first | omega | (simp only [List.length_set, List.length_replicate, List.length_append, List.length_map, List.length_take, List.length_cons, List.length_nil]; omega)) [wrap64, setC]
        exact RetK.keep (hk _ _ ⟨Exq.mk 1 r2 [], _, HS.mkExq' H.nil_ow ⟨by decide, by decide⟩ o2, by simp [Exq.nod, Exq.nods] <;> omega, by omega, by omega⟩)
      · simp -implicitDefEqProofs (disch := first | omega | (simp only [List.length_set, List.length_replicate, List.length_append, List.length_map, List.length_take, List.length_cons, List.length_nil]; omega)) [wrap64, c1]
        refine H.bls [(0 : Int), 1, 0, 2] rfl rfl (okL (by decide)) (by decide) fun v hL2 H => ?_
        simp -implicitDefEqProofs (disch := first | omega | (simp only [List.length_set, List.length_replicate, List.length_append, List.length_map, List.length_take, List.length_cons, List.length_nil]; omega)) [wrap64]
        refine (c_num R H (by omega) (by omega) (by simp)).go ?_
        rintro _ hL3 ⟨r2, rfl, o2, _, H⟩
        simp -implicitDefEqProofs (disch := first | omega | (simp only [List.length_set, List.length_replicate, List.length_append, List.length_map, List.length_take, List.length_cons, List.length_nil]; omega)) [wrap64, setC]
        exact RetK.keep (hk _ _ ⟨Exq.mk 2 r2 [], _, HS.mkExq' H.nil_ow ⟨by decide, by decide⟩ o2, by simp [Exq.nod, Exq.nods] <;> omega, by omega, by omega⟩)
    · have h3 : ¬ ((d : Int) + 1 < 2) := by omega
      simp -implicitDefEqProofs (disch := first | omega | (simp only [List.length_set, List.length_replicate, List.length_append, List.length_map, List.length_take, List.length_cons, List.length_nil]; omega)) [wrap64, h3]
      refine (c_pick R H (by omega) (by omega) ⟨by decide, by decide⟩).go ?_
      rintro _ h1 ⟨r0, rfl, o0, z0, y0, H⟩
      by_cases c0 : r0 = 0
      · simp -implicitDefEqProofs (disch := first | omega | (simp only [List.length_set, List.length_replicate, List.length_append, List.length_map, List.length_take, List.length_cons, List.length_nil]; omega)) [wrap64, c0]
        refine (c_pick R H (by omega) (by omega) ⟨by decide, by decide⟩).go ?_
        rintro _ hL1 ⟨r1, rfl, o1, z1, y1, H⟩
        by_cases c1 : r1 = 0
        · simp -implicitDefEqProofs (disch := first | omega | (simp only [List.length_set, List.length_replicate, List.length_append, List.length_map, List.length_take, List.length_cons, List.length_nil]; omega)) [wrap64, c1]
          refine (c_pick R H (by omega) (by omega) ⟨by decide, by decide⟩).go ?_
          rintro _ hL2 ⟨r2, rfl, o2, z2, y2, H⟩
          simp -implicitDefEqProofs (disch := first | omega | (simp only [List.length_set, List.length_replicate, List.length_append, List.length_map, List.length_take, List.length_cons, List.length_nil]; omega)) [wrap64, setC]
          exact RetK.keep (hk _ _ ⟨Exq.mk 1 r2 [], _, HS.mkExq' H.nil_ow ⟨by decide, by decide⟩ o2, by simp [Exq.nod, Exq.nods] <;> omega, by omega, by omega⟩)
        · simp -implicitDefEqProofs (disch := first | omega | (simp only [List.length_set, List.length_replicate, List.length_append, List.length_map, List.length_take, List.length_cons, List.length_nil]; omega)) [wrap64, c1]
          refine H.bls [(0 : Int), 1, 0, 2] rfl rfl (okL (by decide)) (by decide) fun v hL2 H => ?_
          simp -implicitDefEqProofs (disch := first | omega | (simp only [List.length_set, List.length_replicate, List.length_append, List.length_map, List.length_take, List.length_cons, List.length_nil]; omega)) [wrap64]
          refine (c_num R H (by omega) (by omega) (by simp)).go ?_
          rintro _ hL3 ⟨r2, rfl, o2, _, H⟩
          simp -implicitDefEqProofs (disch := first | omega | (simp only [List.length_set, List.length_replicate, List.length_append, List.length_map, List.length_take, List.length_cons, List.length_nil]; omega)) [wrap64, setC]
          exact RetK.keep (hk _ _ ⟨Exq.mk 2 r2 [], _, HS.mkExq' H.nil_ow ⟨by decide, by decide⟩ o2, by simp [Exq.nod, Exq.nods] <;> omega, by omega, by omega⟩)
      · simp -implicitDefEqProofs (disch := first | omega | (simp only [List.length_set, List.length_replicate, List.length_append, List.length_map, List.length_take, List.length_cons, List.length_nil]; omega)) [wrap64, c0]
        refine H.bls [(6 : Int), 8, 7, 4, 3, 5, 9] rfl rfl (okL (by decide)) (by decide) fun v h2 H => ?_
        simp -implicitDefEqProofs (disch := first | omega | (simp only [List.length_set, List.length_replicate, List.length_append, List.length_map, List.length_take, List.length_cons, List.length_nil]; omega)) [wrap64]
        refine (c_num R H (by omega) (by omega) (by simp)).go ?_
        rintro _ h4 ⟨kd, rfl, okd, _, H⟩
        have ha := Exq.arity_le (k := kd)
        have ha2 := Exq.arity_ge (k := kd)
        simp -implicitDefEqProofs (disch := first | omega | (simp only [List.length_set, List.length_replicate, List.length_append, List.length_map, List.length_take, List.length_cons, List.length_nil]; omega)) [wrap64, setC]
        refine c_l1Arity.go ?_
        rintro _ h4 ⟨rfl, rfl⟩
        obtain ⟨ar, har⟩ : ∃ ar, ar = Exq.arity kd := ⟨_, rfl⟩
        rw [← har] at ha ha2
        simp -implicitDefEqProofs (disch := first | omega | (simp only [List.length_set, List.length_replicate, List.length_append, List.length_map, List.length_take, List.length_cons, List.length_nil]; omega)) [wrap64, ← har]
        refine wp_while (σ := Nat) (fun j e h' => ∃ (ks : List Exq) (w : Value) (p' : Int), e = [some (.pointer (some ⟨b, 0, none⟩)), some (.int .i64 ((d : Int) + 1)), some (.agg #[.int .i64 0, .int .i64 0, .slice none 0 0]), none, some (.agg #[.int .i64 kd, .int .i64 0, w]), some (.int .i64 (ar - j))] ∧ HS g (ow w ks :: rb b sl p' :: Γ) h' ∧ ks.length = j ∧ Exq.nods ks ≤ j * (2 * q - 1) ∧ j ≤ 2 ∧ p ≤ p' ∧ p' ≤ p + 2 + j * (4 * q - 2)) (fun j => 3 - j) 0 ⟨[], .slice none 0 0, _, by simp, H.nil_ow, rfl, by simp [Exq.nods], by omega, by omega, by omega⟩ ?_
        clear H
        rintro J j _ h5 hJ ⟨ks, w, p', rfl, H, hkl, hkn, hj, hp3, hp4⟩
        by_cases c2 : (j : Int) < ar
        · have hj2 : j = 0 ∨ j = 1 := by omega
          simp -implicitDefEqProofs (disch := first | omega | (simp only [List.length_set, List.length_replicate, List.length_append, List.length_map, List.length_take, List.length_cons, List.length_nil]; omega)) [wrap64, c2]
          refine (ih (by omega) R H.sw1 (by omega) (by rcases hj2 with rfl | rfl <;> omega)).go ?_
          rintro _ h6 ⟨y, p2, H, hy, hp5, hp6⟩
          obtain ⟨wy, rfl, k1, k2, H'⟩ := H.unExq
          have hO' := H'.rep.one
          have hC' := H'.rep.cells
          simp -implicitDefEqProofs (disch := first | omega | (simp only [List.length_set, List.length_replicate, List.length_append, List.length_map, List.length_take, List.length_cons, List.length_nil]; omega)) [wrap64, setC, hO', hC']
          refine HS.appO (bytes := 40) H.sw2.sw1 rfl rfl rfl rfl rfl (by omega) (by omega) fun w' h7 H => ?_
          have hO := H.rep.one
          have hC := H.rep.cells
          simp -implicitDefEqProofs (disch := first | omega | (simp only [List.length_set, List.length_replicate, List.length_append, List.length_map, List.length_take, List.length_cons, List.length_nil]; omega)) [wrap64, setC, hO, hC]
          refine hJ (j + 1) _ _ (by omega) ⟨ks ++ [y], w', p2, by simp; omega, H, by simp [hkl], ?_, by omega, by omega, ?_⟩
          · rw [Exq.nods_append, show Exq.nods [y] = y.nod by simp [Exq.nods]]
            rcases hj2 with rfl | rfl <;> omega
          · rcases hj2 with rfl | rfl <;> omega
        · have hO := H.rep.one
          have hC := H.rep.cells
          simp -implicitDefEqProofs (disch := first | omega | (simp only [List.length_set, List.length_replicate, List.length_append, List.length_map, List.length_take, List.length_cons, List.length_nil]; omega)) [wrap64, c2, setC, hO, hC]
          refine RetK.keep (hk _ _ ⟨Exq.mk kd 0 ks, p', HS.mkExq' H okd ⟨by decide, by decide⟩, ?_, by omega, ?_⟩)
          · rw [Exq.nod_eq, Exq.kids_mk]
            obtain rfl | rfl | rfl : j = 0 ∨ j = 1 ∨ j = 2 := by omega
            all_goals omega
          · obtain rfl | rfl | rfl : j = 0 ∨ j = 1 ∨ j = 2 := by omega
            all_goals omega
end Go.Proofs.YtonjglbachhdcaaGreat

/-
  Arguments of laws: valid expressions, copies, guards that are drawn.
-/
namespace Go.Proofs.YtonjglbachhdcaaGreat
open Go
set_option linter.all false
set_option linter.unusedVariables false
set_option linter.unusedSimpArgs false
set_option linter.defProp false
set_option maxRecDepth 1000000

theorem Exq.len_nods : ∀ {l : List Exq}, l.length ≤ Exq.nods l
  | [] => by simp
  | x :: l => by
    have := Exq.len_nods (l := l)
    have := x.nod_pos
    simp only [List.length_cons, Exq.nods]; omega
theorem HS.mkE0 {g h : Heap} {Γ : List HP} {kd vl : Int} (H : HS g Γ h) (h1 : I64 kd) (h2 : I64 vl) : HS g (ow (.agg #[.int .i64 kd, .int .i64 vl, .slice none 0 0]) (Exq.mk kd vl []) :: Γ) h := HS.mkExq' H.nil_ow h1 h2
theorem Exq.nod_mk0 {k v : Int} : (Exq.mk k v []).nod = 1 := rfl

theorem c_l1Expr {g h : Heap} {Γ : List HP} {b : Nat} {sl : Value} {l : List (BitVec 8)} {p : Int} (R : Rep g sl l) (H : HS g (rb b sl p :: Γ) h) (hp : 0 ≤ p) (hp2 : p + 100 ≤ 1000000000000) :
    CallE Tryz.prog fn_spec_l1Expr [.pointer (some ⟨b, 0, none⟩)] h (fun u h' => ∃ (y : Exq) (p' : Int), HS g (ow u y :: rb b sl p' :: Γ) h' ∧ y.nod ≤ 31 ∧ p ≤ p' ∧ p' ≤ p + 70) := by
  refine CallE.gen fun k hk => EN_spec_l1Expr rfl ?_
  simp -implicitDefEqProofs (disch := first | omega | (simp only [List.length_set, List.length_replicate, List.length_append, List.length_map, List.length_take, List.length_cons, List.length_nil]; omega)) [wrap64]
  refine H.bls [(3 : Int), 2, 3, 4] rfl rfl (okL (by decide)) (by decide) fun v h1 H => ?_
  simp -implicitDefEqProofs (disch := first | omega | (simp only [List.length_set, List.length_replicate, List.length_append, List.length_map, List.length_take, List.length_cons, List.length_nil]; omega)) [wrap64]
  refine (c_num R H (by omega) (by omega) (by simp)).go ?_
  rintro _ h2 ⟨r, rfl, _, hr, H⟩
  obtain ⟨d, rfl, hd, hpw⟩ : ∃ d : Nat, r = d ∧ d ≤ 4 ∧ 2 ^ d ≤ 16 := by
    simp at hr
    rcases hr with rfl | rfl | rfl | rfl
    · exact ⟨3, rfl, by decide, by decide⟩
    · exact ⟨2, rfl, by decide, by decide⟩
    · exact ⟨3, rfl, by decide, by decide⟩
    · exact ⟨4, rfl, by decide, by decide⟩
  simp -implicitDefEqProofs (disch := first | omega | (simp only [List.length_set, List.length_replicate, List.length_append, List.length_map, List.length_take, List.length_cons, List.length_nil]; omega)) [wrap64]
  refine (c_l1Random d hd R H (by omega) (by omega)).go ?_
  rintro _ h3 ⟨y, p1, H, hy, hp3, hp4⟩
  have hy2 : y.nod ≤ 31 := by rw [Nat.pow_succ] at hy; omega
  have FA := H.rep.aExq
  simp -implicitDefEqProofs (disch := first | omega | (simp only [List.length_set, List.length_replicate, List.length_append, List.length_map, List.length_take, List.length_cons, List.length_nil]; omega)) [wrap64, FA]
  refine (c_spec_ExprValid H.rep).go ?_
  rintro _ h3 ⟨rfl, rfl⟩
  by_cases q : y.Ok
  · simp -implicitDefEqProofs (disch := first | omega | (simp only [List.length_set, List.length_replicate, List.length_append, List.length_map, List.length_take, List.length_cons, List.length_nil]; omega)) [wrap64, q, FA, setC]
    exact RetK.keep (hk _ _ ⟨y, p1, H, hy2, by omega, by omega⟩)
  · simp -implicitDefEqProofs (disch := first | omega | (simp only [List.length_set, List.length_replicate, List.length_append, List.length_map, List.length_take, List.length_cons, List.length_nil]; omega)) [wrap64, q]
    refine (c_pick (n := 3) R H.sw1 (by omega) (by omega) ⟨by decide, by decide⟩).go ?_
    rintro _ h4 ⟨r1, rfl, o1, z1, y1, H⟩
    simp -implicitDefEqProofs (disch := first | omega | (simp only [List.length_set, List.length_replicate, List.length_append, List.length_map, List.length_take, List.length_cons, List.length_nil]; omega)) [wrap64, setC]
    exact RetK.keep (hk _ _ ⟨Exq.mk 2 r1 [], _, (H.sw1.drop).mkE0 ⟨by decide, by decide⟩ o1, by rw [Exq.nod_mk0]; omega, by omega, by omega⟩)

/-- expressions without parts -/
def ez : Value := .agg #[.int .i64 0, .int .i64 0, .slice none 0 0]
theorem c_l1SubstB0 {h : Heap} : CallE Tryz.prog fn_spec_l1Subst [ez, .int .i64 (-1), ez] h (fun u h' => HS h [ow u Exq.zero] h') := by
  refine CallE.gen fun k hk => EN_spec_l1Subst rfl ?_
  simp -implicitDefEqProofs (disch := first | omega | (simp only [List.length_set, List.length_replicate, List.length_append, List.length_map, List.length_take, List.length_cons, List.length_nil]; omega)) [wrap64, ez, setC]
  refine wp_count 0 (fun i e h' => e = [none, some (.int .i64 (-1)), none, some ez, some ez, some ez, some ez, some (.int .i64 i)] ∧ h' = h) ⟨by simp [ez], rfl⟩ ?_
  rintro J i _ h1 hJ hi ⟨rfl, rfl⟩
  obtain rfl : i = 0 := by omega
  have hL0 : lenVV (.slice none 0 0) = some (.int .i64 0) := rfl
  simp -implicitDefEqProofs (disch := first | omega | (simp only [List.length_set, List.length_replicate, List.length_append, List.length_map, List.length_take, List.length_cons, List.length_nil]; omega)) [wrap64, ez, setC, hL0]
  exact RetK.keep (hk _ _ (HS.mkE0 HS.init ⟨by decide, by decide⟩ ⟨by decide, by decide⟩))
theorem c_l1SubstB : ∀ (x : Exq) {h : Heap} {v : Value}, Rep h v x → x.nod ≤ 1000 → CallE Tryz.prog fn_spec_l1Subst [v, .int .i64 (-1), ez] h (fun u h' => ∃ y : Exq, HS h [ow u y] h' ∧ y.nod ≤ x.nod) := by
  refine Exq.ind fun x ih => ?_
  intro h v R hn
  have hne := Exq.nod_eq x
  obtain ⟨w, rfl, k1, k2, Rw⟩ := Rep_Exq.1 R
  have hR1 := Rw.one
  have hkl : x.kids.length ≤ Exq.nods x.kids := Exq.len_nods
  refine CallE.gen fun k hk => EN_spec_l1Subst rfl ?_
  by_cases c1 : x.kind = 2 ∧ x.val = -1
  · simp -implicitDefEqProofs (disch := first | omega | (simp only [List.length_set, List.length_replicate, List.length_append, List.length_map, List.length_take, List.length_cons, List.length_nil]; omega)) [wrap64, ez, setC, hR1, c1]
    refine c_l1SubstB0.go ?_
    intro u h1 H
    have hA := H.rep.aExq
    simp -implicitDefEqProofs (disch := first | omega | (simp only [List.length_set, List.length_replicate, List.length_append, List.length_map, List.length_take, List.length_cons, List.length_nil]; omega)) [wrap64, setC, hA]
    exact RetK.keep (hk _ _ ⟨_, H, by rw [show Exq.zero.nod = 1 from rfl]; omega⟩)
  · have c1' : x.kind = 2 → ¬ x.val = -1 := fun e e2 => c1 ⟨e, e2⟩
    by_cases c2 : x.kind = 2
    · have c3 := c1' c2
      simp -implicitDefEqProofs (disch := first | omega | (simp only [List.length_set, List.length_replicate, List.length_append, List.length_map, List.length_take, List.length_cons, List.length_nil]; omega)) [wrap64, ez, setC, hR1, c2, c3]
      refine wp_count x.kids.length (fun i e h' => ∃ (ks : List Exq) (w' : Value), e = [none, some (.int .i64 (-1)), none, some (.agg #[.int .i64 2, .int .i64 x.val, w]), some ez, some ez, some (.agg #[.int .i64 2, .int .i64 x.val, w']), some (.int .i64 i)] ∧ HS h [ow w' ks] h' ∧ ks.length = i ∧ Exq.nods ks ≤ Exq.nods (x.kids.take i)) ⟨[], .slice none 0 0, by simp [ez], HS.init.nil_ow, rfl, by simp [Exq.nods]⟩ ?_
      rintro J i _ h1 hJ hi ⟨ks, w', rfl, H, hkl2, hkn⟩
      have hO := H.rep.one
      have hC := H.rep.cells
      simp -implicitDefEqProofs (disch := first | omega | (simp only [List.length_set, List.length_replicate, List.length_append, List.length_map, List.length_take, List.length_cons, List.length_nil]; omega)) [wrap64, Rw.len]
      refine IteW.mk (fun hlt => ?_) (fun hge => ?_)
      · have hlx : i < x.kids.length := by omega
        obtain ⟨u, hu, Ru⟩ := (Rw.on H).ld hlx
        change hload _ (some (elp 3 w i)) (some 3) = some u at hu
        have hnt := Exq.nods_take hlx
        have hnl := Exq.nods_le x.kids (i + 1)
        simp -implicitDefEqProofs (disch := first | omega | (simp only [List.length_set, List.length_replicate, List.length_append, List.length_map, List.length_take, List.length_cons, List.length_nil]; omega)) [wrap64, ez, setC, (Rw.on H).X (n := 3) rfl, hu, Ru.aExq]
        refine (ih _ (List.getElem_mem hlx) Ru (by omega)).go ?_
        rintro o h2 ⟨y, G, hy⟩
        obtain ⟨wy, rfl, ky1, ky2, G'⟩ := G.unExq
        have hO' := G'.rep.one
        have hC' := G'.rep.cells
        have H := G.app H
        simp -implicitDefEqProofs (disch := first | omega | (simp only [List.length_set, List.length_replicate, List.length_append, List.length_map, List.length_take, List.length_cons, List.length_nil]; omega)) [wrap64, ez, setC, hO', hC']
        refine HS.appO (bytes := 40) H rfl rfl rfl rfl rfl (by omega) (by omega) fun w2 h3 H => ?_
        have hO2 := H.rep.one
        have hC2 := H.rep.cells
        simp -implicitDefEqProofs (disch := first | omega | (simp only [List.length_set, List.length_replicate, List.length_append, List.length_map, List.length_take, List.length_cons, List.length_nil]; omega)) [wrap64, ez, setC, hO2, hC2]
        refine hJ _ _ hlx ⟨ks ++ [y], w2, by simp [ez], H, by simp [hkl2], ?_⟩
        rw [Exq.nods_append, show Exq.nods [y] = y.nod by simp [Exq.nods]]
        omega
      · simp -implicitDefEqProofs (disch := first | omega | (simp only [List.length_set, List.length_replicate, List.length_append, List.length_map, List.length_take, List.length_cons, List.length_nil]; omega)) [wrap64, ez, setC, hO, hC]
        rw [List.take_of_length_le (by omega)] at hkn
        refine RetK.keep (hk _ _ ⟨Exq.mk 2 x.val ks, HS.mkExq' H ⟨by decide, by decide⟩ k2, ?_⟩)
        rw [Exq.nod_eq, Exq.kids_mk]; omega
    · simp -implicitDefEqProofs (disch := first | omega | (simp only [List.length_set, List.length_replicate, List.length_append, List.length_map, List.length_take, List.length_cons, List.length_nil]; omega)) [wrap64, ez, setC, hR1, c2]
      refine wp_count x.kids.length (fun i e h' => ∃ (ks : List Exq) (w' : Value), e = [none, some (.int .i64 (-1)), none, some (.agg #[.int .i64 x.kind, .int .i64 x.val, w]), some ez, some ez, some (.agg #[.int .i64 x.kind, .int .i64 x.val, w']), some (.int .i64 i)] ∧ HS h [ow w' ks] h' ∧ ks.length = i ∧ Exq.nods ks ≤ Exq.nods (x.kids.take i)) ⟨[], .slice none 0 0, by simp [ez], HS.init.nil_ow, rfl, by simp [Exq.nods]⟩ ?_
      rintro J i _ h1 hJ hi ⟨ks, w', rfl, H, hkl2, hkn⟩
      have hO := H.rep.one
      have hC := H.rep.cells
      simp -implicitDefEqProofs (disch := first | omega | (simp only [List.length_set, List.length_replicate, List.length_append, List.length_map, List.length_take, List.length_cons, List.length_nil]; omega)) [wrap64, Rw.len]
      refine IteW.mk (fun hlt => ?_) (fun hge => ?_)
      · have hlx : i < x.kids.length := by omega
        obtain ⟨u, hu, Ru⟩ := (Rw.on H).ld hlx
        change hload _ (some (elp 3 w i)) (some 3) = some u at hu
        have hnt := Exq.nods_take hlx
        have hnl := Exq.nods_le x.kids (i + 1)
        simp -implicitDefEqProofs (disch := first | omega | (simp only [List.length_set, List.length_replicate, List.length_append, List.length_map, List.length_take, List.length_cons, List.length_nil]; omega)) [wrap64, ez, setC, (Rw.on H).X (n := 3) rfl, hu, Ru.aExq]
        refine (ih _ (List.getElem_mem hlx) Ru (by omega)).go ?_
        rintro o h2 ⟨y, G, hy⟩
        obtain ⟨wy, rfl, ky1, ky2, G'⟩ := G.unExq
        have hO' := G'.rep.one
        have hC' := G'.rep.cells
        have H := G.app H
        simp -implicitDefEqProofs (disch := first | omega | (simp only [List.length_set, List.length_replicate, List.length_append, List.length_map, List.length_take, List.length_cons, List.length_nil]; omega)) [wrap64, ez, setC, hO', hC']
        refine HS.appO (bytes := 40) H rfl rfl rfl rfl rfl (by omega) (by omega) fun w2 h3 H => ?_
        have hO2 := H.rep.one
        have hC2 := H.rep.cells
        simp -implicitDefEqProofs (disch := first | omega | (simp only [List.length_set, List.length_replicate, List.length_append, List.length_map, List.length_take, List.length_cons, List.length_nil]; omega)) [wrap64, ez, setC, hO2, hC2]
        refine hJ _ _ hlx ⟨ks ++ [y], w2, by simp [ez], H, by simp [hkl2], ?_⟩
        rw [Exq.nods_append, show Exq.nods [y] = y.nod by simp [Exq.nods]]
        omega
      · simp -implicitDefEqProofs (disch := first | omega | (simp only [List.length_set, List.length_replicate, List.length_append, List.length_map, List.length_take, List.length_cons, List.length_nil]; omega)) [wrap64, ez, setC, hO, hC]
        rw [List.take_of_length_le (by omega)] at hkn
        refine RetK.keep (hk _ _ ⟨Exq.mk x.kind x.val ks, HS.mkExq' H k1 k2, ?_⟩)
        rw [Exq.nod_eq, Exq.kids_mk]; omega
end Go.Proofs.YtonjglbachhdcaaGreat

/-
  Arguments of laws: changed expressions, guards that are drawn.
-/
namespace Go.Proofs.YtonjglbachhdcaaGreat
open Go
set_option linter.all false
set_option linter.unusedVariables false
set_option linter.unusedSimpArgs false
set_option linter.defProp false
set_option maxRecDepth 1000000

theorem c_l1Mutate {g h : Heap} {Γ : List HP} {b : Nat} {sl v : Value} {l : List (BitVec 8)} {p : Int} {x : Exq} (R : Rep g sl l) (Rx : Rep g v x) (hx : x.nod ≤ 1000) (H : HS g (rb b sl p :: Γ) h) (hp : 0 ≤ p) (hp2 : p + 100 ≤ 1000000000000) :
    CallE Tryz.prog fn_spec_l1Mutate [.pointer (some ⟨b, 0, none⟩), v] h (fun u h' => ∃ (y : Exq) (p' : Int), HS g (ow u y :: rb b sl p' :: Γ) h' ∧ y.nod ≤ x.nod + 1 ∧ p ≤ p' ∧ p' ≤ p + 2) := by
  have FX := Rx.aExq
  have hnp := x.nod_pos
  refine CallE.gen fun k hk => EN_spec_l1Mutate rfl ?_
  simp -implicitDefEqProofs (disch := first | omega | (simp only [List.length_set, List.length_replicate, List.length_append, List.length_map, List.length_take, List.length_cons, List.length_nil]; omega)) [wrap64, FX]
  refine (c_l1SubstB x (Rx.on H) hx).go ?_
  rintro o h1 ⟨y, G, hy⟩
  obtain ⟨w, rfl, k1, k2, G'⟩ := G.unExq
  have hO := G'.rep.one
  have hC := G'.rep.cells
  have H := G'.app H
  have hyn := Exq.nod_eq y
  have hyl := Exq.len_nods (l := y.kids)
  simp -implicitDefEqProofs (disch := first | omega | (simp only [List.length_set, List.length_replicate, List.length_append, List.length_map, List.length_take, List.length_cons, List.length_nil]; omega)) [wrap64, setC, hO, hC]
  refine (c_pick (n := 40) R H.sw1 (by omega) (by omega) ⟨by decide, by decide⟩).go ?_
  rintro _ h2 ⟨r, rfl, o1, z1, y1, H⟩
  by_cases c0 : r = 0
  · simp -implicitDefEqProofs (disch := first | omega | (simp only [List.length_set, List.length_replicate, List.length_append, List.length_map, List.length_take, List.length_cons, List.length_nil]; omega)) [wrap64, c0]
    refine H.bls [(0 : Int), 10, -1, 1, 2, 3, 4] rfl rfl (okL (by decide)) (by decide) fun q h3 H => ?_
    simp -implicitDefEqProofs (disch := first | omega | (simp only [List.length_set, List.length_replicate, List.length_append, List.length_map, List.length_take, List.length_cons, List.length_nil]; omega)) [wrap64]
    refine (c_num R H (by omega) (by omega) (by simp)).go ?_
    rintro _ h4 ⟨r2, rfl, o2, _, H⟩
    simp -implicitDefEqProofs (disch := first | omega | (simp only [List.length_set, List.length_replicate, List.length_append, List.length_map, List.length_take, List.length_cons, List.length_nil]; omega)) [wrap64, setC, hO, hC]
    exact RetK.keep (hk _ _ ⟨Exq.mk r2 y.val y.kids, _, HS.mkExq' H.sw1 o2 k2, by rw [Exq.nod_eq, Exq.kids_mk]; omega, by omega, by omega⟩)
  by_cases c1 : r = 1
  · simp -implicitDefEqProofs (disch := first | omega | (simp only [List.length_set, List.length_replicate, List.length_append, List.length_map, List.length_take, List.length_cons, List.length_nil]; omega)) [wrap64, c0, c1]
    refine H.bls [(-1 : Int), 4, 3, 9223372036854775807] rfl rfl (okL (by decide)) (by decide) fun q h3 H => ?_
    simp -implicitDefEqProofs (disch := first | omega | (simp only [List.length_set, List.length_replicate, List.length_append, List.length_map, List.length_take, List.length_cons, List.length_nil]; omega)) [wrap64]
    refine (c_num R H (by omega) (by omega) (by simp)).go ?_
    rintro _ h4 ⟨r2, rfl, o2, _, H⟩
    simp -implicitDefEqProofs (disch := first | omega | (simp only [List.length_set, List.length_replicate, List.length_append, List.length_map, List.length_take, List.length_cons, List.length_nil]; omega)) [wrap64, setC, hO, hC]
    exact RetK.keep (hk _ _ ⟨Exq.mk y.kind r2 y.kids, _, HS.mkExq' H.sw1 k1 o2, by rw [Exq.nod_eq, Exq.kids_mk]; omega, by omega, by omega⟩)
  by_cases c2 : r = 2
  · simp -implicitDefEqProofs (disch := first | omega | (simp only [List.length_set, List.length_replicate, List.length_append, List.length_map, List.length_take, List.length_cons, List.length_nil]; omega)) [wrap64, c0, c1, c2, setC]
    refine HS.appO (bytes := 40) (H.sw1.mkE0 (kd := 1) (vl := 0) ⟨by decide, by decide⟩ ⟨by decide, by decide⟩) rfl rfl rfl rfl rfl (by omega) (by omega) fun w2 h3 H => ?_
    have hO2 := H.rep.one
    have hC2 := H.rep.cells
    simp -implicitDefEqProofs (disch := first | omega | (simp only [List.length_set, List.length_replicate, List.length_append, List.length_map, List.length_take, List.length_cons, List.length_nil]; omega)) [wrap64, setC, hO2, hC2]
    refine RetK.keep (hk _ _ ⟨Exq.mk y.kind y.val _, _, HS.mkExq' H k1 k2, ?_, by omega, by omega⟩)
    rw [Exq.nod_eq, Exq.kids_mk, Exq.nods_append, show Exq.nods [Exq.mk 1 0 []] = 1 from rfl]; omega
  by_cases c3 : r = 3
  · simp -implicitDefEqProofs (disch := first | omega | (simp only [List.length_set, List.length_replicate, List.length_append, List.length_map, List.length_take, List.length_cons, List.length_nil]; omega)) [wrap64, c0, c1, c2, c3, setC]
    exact RetK.keep (hk _ _ ⟨Exq.mk 0 0 [], _, (H.sw1.drop).mkE0 ⟨by decide, by decide⟩ ⟨by decide, by decide⟩, by rw [Exq.nod_mk0]; omega, by omega, by omega⟩)
  · simp -implicitDefEqProofs (disch := first | omega | (simp only [List.length_set, List.length_replicate, List.length_append, List.length_map, List.length_take, List.length_cons, List.length_nil]; omega)) [wrap64, c0, c1, c2, c3, setC, hO, hC]
    exact RetK.keep (hk _ _ ⟨y, _, HS.mkExq H.sw1 k1 k2, by omega, by omega, by omega⟩)

theorem c_l2Guard {g h : Heap} {Γ : List HP} {b : Nat} {sl : Value} {l : List (BitVec 8)} {p : Int} (R : Rep g sl l) (H : HS g (rb b sl p :: Γ) h) (hp : 0 ≤ p) (hp2 : p + 100 ≤ 1000000000000) :
    CallE Tryz.prog fn_spec_l2Guard [.pointer (some ⟨b, 0, none⟩)] h (fun u h' => ∃ (y : Exq) (p' : Int), HS g (ow u y :: rb b sl p' :: Γ) h' ∧ y.nod ≤ 4 ∧ p ≤ p' ∧ p' ≤ p + 5) := by
  refine CallE.gen fun k hk => EN_spec_l2Guard rfl ?_
  simp -implicitDefEqProofs (disch := first | omega | (simp only [List.length_set, List.length_replicate, List.length_append, List.length_map, List.length_take, List.length_cons, List.length_nil]; omega)) [wrap64]
  refine (c_pick (n := 3) R H (by omega) (by omega) ⟨by decide, by decide⟩).go ?_
  rintro _ h1 ⟨r1, rfl, o1, z1, y1, H⟩
  by_cases c1 : r1 = 0
  · simp -implicitDefEqProofs (disch := first | omega | (simp only [List.length_set, List.length_replicate, List.length_append, List.length_map, List.length_take, List.length_cons, List.length_nil]; omega)) [wrap64, c1, setC]
    exact RetK.keep (hk _ _ ⟨Exq.mk 1 1 [], _, H.mkE0 ⟨by decide, by decide⟩ ⟨by decide, by decide⟩, by rw [Exq.nod_mk0]; omega, by omega, by omega⟩)
  simp -implicitDefEqProofs (disch := first | omega | (simp only [List.length_set, List.length_replicate, List.length_append, List.length_map, List.length_take, List.length_cons, List.length_nil]; omega)) [wrap64, c1]
  refine H.bls [(0 : Int), 1, 0, 2] rfl rfl (okL (by decide)) (by decide) fun q h3 H => ?_
  simp -implicitDefEqProofs (disch := first | omega | (simp only [List.length_set, List.length_replicate, List.length_append, List.length_map, List.length_take, List.length_cons, List.length_nil]; omega)) [wrap64]
  refine (c_num R H (by omega) (by omega) (by simp)).go ?_
  rintro _ h4 ⟨r2, rfl, o2, _, H⟩
  simp -implicitDefEqProofs (disch := first | omega | (simp only [List.length_set, List.length_replicate, List.length_append, List.length_map, List.length_take, List.length_cons, List.length_nil]; omega)) [wrap64, setC]
  refine (c_pick (n := 3) R H (by omega) (by omega) ⟨by decide, by decide⟩).go ?_
  rintro _ h1 ⟨r3, rfl, o3, z3, y3, H⟩
  simp -implicitDefEqProofs (disch := first | omega | (simp only [List.length_set, List.length_replicate, List.length_append, List.length_map, List.length_take, List.length_cons, List.length_nil]; omega)) [wrap64, setC]
  refine pl_cut (fun e' h' => ∃ kd w r, e' = some (.pointer (some ⟨b, 0, none⟩)) :: some ez :: some (.agg #[.int .i64 2, .int .i64 r2, .slice none 0 0]) :: some (.agg #[.int .i64 1, .int .i64 r3, .slice none 0 0]) :: some (.agg #[.int .i64 kd, .int .i64 0, w]) :: r ∧ I64 kd ∧ HS g (ow w [Exq.mk 2 r2 [], Exq.mk 1 r3 []] :: rb b sl (p + 1 + 1 + 1 + 1) :: Γ) h') (fun K hK => ?_) ?_
  · refine ⟨?_, ?_⟩
    · simp -implicitDefEqProofs (disch := first | omega | (simp only [List.length_set, List.length_replicate, List.length_append, List.length_map, List.length_take, List.length_cons, List.length_nil]; omega)) [wrap64]
      refine H.bls [(6 : Int), 7, 6] rfl rfl (okL (by decide)) (by decide) fun q h6 H => ?_
      refine ⟨?_, ?_⟩
      · simp -implicitDefEqProofs (disch := first | omega | (simp only [List.length_set, List.length_replicate, List.length_append, List.length_map, List.length_take, List.length_cons, List.length_nil]; omega)) [wrap64]
        refine (c_num R H (by omega) (by omega) (by simp)).go ?_
        rintro _ h7 ⟨kd, rfl, okd, _, H⟩
        simp -implicitDefEqProofs (disch := first | omega | (simp only [List.length_set, List.length_replicate, List.length_append, List.length_map, List.length_take, List.length_cons, List.length_nil]; omega)) [wrap64]
        refine HS.blsO2 ((H.mkE0 (kd := 1) (vl := r3) ⟨by decide, by decide⟩ o3).mkE0 (kd := 2) (vl := r2) ⟨by decide, by decide⟩ o2) rfl fun w h8 H => ?_
        simp -implicitDefEqProofs (disch := first | omega | (simp only [List.length_set, List.length_replicate, List.length_append, List.length_map, List.length_take, List.length_cons, List.length_nil]; omega)) [wrap64, setC, H.rep.one, H.rep.cells]
        exact hK _ _ ⟨kd, w, _, rfl, okd, H⟩
      · simp -implicitDefEqProofs (disch := first | omega | (simp only [List.length_set, List.length_replicate, List.length_append, List.length_map, List.length_take, List.length_cons, List.length_nil]; omega)) [wrap64]
        refine HS.blsO2 ((H.mkE0 (kd := 1) (vl := r3) ⟨by decide, by decide⟩ o3).mkE0 (kd := 2) (vl := r2) ⟨by decide, by decide⟩ o2) rfl fun w h8 H => ?_
        simp -implicitDefEqProofs (disch := first | omega | (simp only [List.length_set, List.length_replicate, List.length_append, List.length_map, List.length_take, List.length_cons, List.length_nil]; omega)) [wrap64]
        refine (c_num R H.bk2 (by omega) (by omega) (by simp)).go ?_
        rintro _ h7 ⟨kd, rfl, okd, _, H⟩
        simp -implicitDefEqProofs (disch := first | omega | (simp only [List.length_set, List.length_replicate, List.length_append, List.length_map, List.length_take, List.length_cons, List.length_nil]; omega)) [wrap64, setC, H.sw1.rep.one, H.sw1.rep.cells]
        exact hK _ _ ⟨kd, w, _, rfl, okd, H.sw1⟩
    · simp -implicitDefEqProofs (disch := first | omega | (simp only [List.length_set, List.length_replicate, List.length_append, List.length_map, List.length_take, List.length_cons, List.length_nil]; omega)) [wrap64]
      refine HS.blsO2 ((H.mkE0 (kd := 1) (vl := r3) ⟨by decide, by decide⟩ o3).mkE0 (kd := 2) (vl := r2) ⟨by decide, by decide⟩ o2) rfl fun w h8 H => ?_
      simp -implicitDefEqProofs (disch := first | omega | (simp only [List.length_set, List.length_replicate, List.length_append, List.length_map, List.length_take, List.length_cons, List.length_nil]; omega)) [wrap64]
      refine H.bls [(6 : Int), 7, 6] rfl rfl (okL (by decide)) (by decide) fun q h6 H => ?_
      simp -implicitDefEqProofs (disch := first | omega | (simp only [List.length_set, List.length_replicate, List.length_append, List.length_map, List.length_take, List.length_cons, List.length_nil]; omega)) [wrap64]
      refine (c_num R H.sw1.bk2 (by omega) (by omega) (by simp)).go ?_
      rintro _ h7 ⟨kd, rfl, okd, _, H⟩
      simp -implicitDefEqProofs (disch := first | omega | (simp only [List.length_set, List.length_replicate, List.length_append, List.length_map, List.length_take, List.length_cons, List.length_nil]; omega)) [wrap64, setC, H.sw1.rep.one, H.sw1.rep.cells]
      exact hK _ _ ⟨kd, w, _, rfl, okd, H.sw1⟩
  rintro _ h5 ⟨kd, w, r, rfl, okd, H⟩
  have hO := H.rep.one
  have hC := H.rep.cells
  simp -implicitDefEqProofs (disch := first | omega | (simp only [List.length_set, List.length_replicate, List.length_append, List.length_map, List.length_take, List.length_cons, List.length_nil]; omega)) [wrap64]
  refine (c_pick (n := 5) R H.sw1 (by omega) (by omega) ⟨by decide, by decide⟩).go ?_
  rintro _ h6 ⟨r4, rfl, o4, z4, y4, H⟩
  by_cases c2 : r4 = 0
  · simp -implicitDefEqProofs (disch := first | omega | (simp only [List.length_set, List.length_replicate, List.length_append, List.length_map, List.length_take, List.length_cons, List.length_nil]; omega)) [wrap64, c2, setC, hO, hC]
    refine HS.blsO1 (HS.mkExq' (kd := kd) (vl := 0) H.sw1 okd ⟨by decide, by decide⟩) rfl fun w2 h7 H => ?_
    have hO2 := H.rep.one
    have hC2 := H.rep.cells
    simp -implicitDefEqProofs (disch := first | omega | (simp only [List.length_set, List.length_replicate, List.length_append, List.length_map, List.length_take, List.length_cons, List.length_nil]; omega)) [wrap64, setC, hO2, hC2, ez]
    exact RetK.keep (hk _ _ ⟨Exq.mk 3 0 _, _, HS.mkExq' H ⟨by decide, by decide⟩ ⟨by decide, by decide⟩, by simp [Exq.nods, Exq.nod], by omega, by omega⟩)
  · simp -implicitDefEqProofs (disch := first | omega | (simp only [List.length_set, List.length_replicate, List.length_append, List.length_map, List.length_take, List.length_cons, List.length_nil]; omega)) [wrap64, c2, setC, hO, hC, ez]
    exact RetK.keep (hk _ _ ⟨_, _, HS.mkExq' H.sw1 okd ⟨by decide, by decide⟩, by rw [Exq.nod_eq, Exq.kids_mk]; simp [Exq.nods, Exq.nod], by omega, by omega⟩)
end Go.Proofs.YtonjglbachhdcaaGreat
