/-
  Steps: which are enabled, by the program and by the reference.
-/
import Derived.Test.YthgimpheeemooaaGreatI2
import Derived.Test.YthgimpheeemooaaGreatI4
import Derived.Test.YthgimpheeemooaaGreatLS
import Derived.Test.YthgimpheeemooaaGreatE6
import Derived.Test.YthgimpheeemooaaGreatPN
namespace Go.Proofs.YthgimpheeemooaaGreat
open Go
set_option linter.all false
set_option linter.unusedVariables false
set_option linter.unusedSimpArgs false
set_option linter.defProp false
set_option maxRecDepth 1000000

/-- where an edge of a system lies -/
theorem Rep.edge {h : Heap} {v : Value} {l : List Pr} (R : Rep h v l) {i k : Nat} (hi : i < l.length) (hk : k < l[i].edges.length) :
    ∃ we w1 w2, hload h (some (elp 2 v i)) (some 2) = some (.agg ([.int .i64 l[i].locs, we] : List Value).toArray) ∧ Rep h we l[i].edges ∧ hload h (some (elp 10 we k)) (some 10) = some (.agg (l[i].edges[k].cs w1 w2).toArray) ∧
      l[i].edges[k].ok ∧ Rep h w1 l[i].edges[k].guard.kids ∧ Rep h w2 l[i].edges[k].value.kids := by
  obtain ⟨u, hu, Ru⟩ := R.ld hi
  obtain ⟨we, rfl, k1, R3⟩ := Rep_Pr.1 Ru
  obtain ⟨u2, hu2, Ru2⟩ := R3.ld hk
  obtain ⟨w1, w2, rfl, ok, G1, G2⟩ := Rep_Ed.1 Ru2
  exact ⟨we, w1, w2, hu, R3, hu2, ok, G1, G2⟩

theorem c_ready {h : Heap} {v w : Value} {s : Sy} {st : Sta} (hs : s.Ok) (ht : st.Ok s) (R : Rep h v s) (Rt : Rep h w st) {i m : Nat} (hi : i < s.procs.length) (hm : m < s.procs[i].edges.length) :
    CallE Tryz.prog fn_impl_System_ready [v, w, .int .i64 i, .int .i64 m] h (fun u h' => h' = h ∧ u = .bool (s.procs[i].edges[m].rdy st i)) := by
  obtain ⟨v1, v2, rfl, R1, R2'⟩ := Rep_Sy.1 R
  obtain ⟨t1, t2, rfl, T1, T2⟩ := Rep_Sta.1 Rt
  obtain ⟨we, w1, w2, hu, R3, hu2, ok, G1, G2⟩ := R2'.edge hi hm
  have hP := hld_parts hu
  have heo := (hs.at hi).at hm
  have hil : i < st.locs.length := by rw [ht.len]; exact hi
  have hF3 := G1.one
  have hF4 := G2.one
  refine CallE.gen fun k hk => EN_impl_System_ready rfl ?_
  by_cases a1 : st.locs[i] = s.procs[i].edges[m].frm
  case neg =>
    simp -implicitDefEqProofs (disch := first | omega | (simp only [List.length_set, List.length_replicate, List.length_append, List.length_map, List.length_take, List.length_cons, List.length_nil]; omega)) [wrap64, R2'.X (n := 2) rfl, hP.1, hP.2.2.1, R3.X (n := 10) rfl, hu2, Ed.cs, setC, hF3, hF4, T1.I, a1]
    exact RetK.keep (hk _ _ ⟨rfl, by simp [Ed.rdy, hil, a1]⟩)
  simp -implicitDefEqProofs (disch := first | omega | (simp only [List.length_set, List.length_replicate, List.length_append, List.length_map, List.length_take, List.length_cons, List.length_nil]; omega)) [wrap64, R2'.X (n := 2) rfl, hP.1, hP.2.2.1, R3.X (n := 10) rfl, hu2, Ed.cs, setC, hF3, hF4, T1.I, a1]
  refine (c_eval _ ht.vs heo.gd.1 (Rep.gd (w2 := w2) ok G1) T2).go ?_
  rintro _ h ⟨rfl, rfl⟩
  simp -implicitDefEqProofs (disch := first | omega | (simp only [List.length_set, List.length_replicate, List.length_append, List.length_map, List.length_take, List.length_cons, List.length_nil]; omega)) [wrap64]
  exact RetK.keep (hk _ _ ⟨rfl, by simp [Ed.rdy, hil, a1]⟩)
theorem c_l3Ready {h : Heap} {v w : Value} {s : Sy} {st : Sta} (hs : s.Ok) (ht : st.Ok s) (R : Rep h v s) (Rt : Rep h w st) {i m : Nat} (hi : i < s.procs.length) (hm : m < s.procs[i].edges.length) :
    CallE Tryz.prog fn_spec_l3Ready [v, w, .int .i64 i, .int .i64 m] h (fun u h' => h' = h ∧ u = .bool (s.procs[i].edges[m].rdy st i)) := by
  obtain ⟨v1, v2, rfl, R1, R2'⟩ := Rep_Sy.1 R
  obtain ⟨t1, t2, rfl, T1, T2⟩ := Rep_Sta.1 Rt
  obtain ⟨we, w1, w2, hu, R3, hu2, ok, G1, G2⟩ := R2'.edge hi hm
  have hP := hld_parts hu
  have heo := (hs.at hi).at hm
  have hil : i < st.locs.length := by rw [ht.len]; exact hi
  have hF3 := G1.one
  have hF4 := G2.one
  refine CallE.gen fun k hk => EN_spec_l3Ready rfl ?_
  by_cases a1 : s.procs[i].edges[m].frm = st.locs[i]
  case neg =>
    simp -implicitDefEqProofs (disch := first | omega | (simp only [List.length_set, List.length_replicate, List.length_append, List.length_map, List.length_take, List.length_cons, List.length_nil]; omega)) [wrap64, R2'.X (n := 2) rfl, hP.1, hP.2.2.1, R3.X (n := 10) rfl, hu2, Ed.cs, setC, hF3, hF4, T1.I, a1]
    exact RetK.keep (hk _ _ ⟨rfl, by simp [Ed.rdy, hil, Ne.symm a1]⟩)
  simp -implicitDefEqProofs (disch := first | omega | (simp only [List.length_set, List.length_replicate, List.length_append, List.length_map, List.length_take, List.length_cons, List.length_nil]; omega)) [wrap64, R2'.X (n := 2) rfl, hP.1, hP.2.2.1, R3.X (n := 10) rfl, hu2, Ed.cs, setC, hF3, hF4, T1.I, a1]
  refine (c_l1Eval _ ht.vs heo.gd.1 (Rep.gd (w2 := w2) ok G1) T2).go ?_
  rintro _ h ⟨rfl, rfl⟩
  simp -implicitDefEqProofs (disch := first | omega | (simp only [List.length_set, List.length_replicate, List.length_append, List.length_map, List.length_take, List.length_cons, List.length_nil]; omega)) [wrap64]
  exact RetK.keep (hk _ _ ⟨rfl, by simp [Ed.rdy, hil, a1]⟩)

theorem c_enabled {h : Heap} {v w : Value} {s : Sy} {st : Sta} (hs : s.Ok) (ht : st.Ok s) (R : Rep h v s) (Rt : Rep h w st) : CallE Tryz.prog fn_impl_System_enabled [v, w] h (fun u h' => HS h [ow u (enb s st)] h') := by
  have FS := R.aSy
  have FT := Rt.aSta
  have R0 := R
  have Rt0 := Rt
  obtain ⟨v1, v2, rfl, R1, R2'⟩ := Rep_Sy.1 R
  obtain ⟨t1, t2, rfl, T1, T2⟩ := Rep_Sta.1 Rt
  have hp3 := hs.p3
  refine CallE.gen fun k hk => EN_impl_System_enabled rfl ?_
  simp -implicitDefEqProofs (disch := first | omega | (simp only [List.length_set, List.length_replicate, List.length_append, List.length_map, List.length_take, List.length_cons, List.length_nil]; omega)) [wrap64, R2'.len]
  refine wp_count s.procs.length (fun i e h' => ∃ o, e = [none, none, some (.agg #[v1, v2]), some (.agg #[t1, t2]), none, some o, none, none, none, none, none, none, none, none, some v2, some (.int .i64 s.procs.length), some (.int .i64 i), none, none, none, none, none, none, none, none, none] ∧ HS h [ow o ((s.procs.zipIdx.take i).flatMap (enb1 s st))] h') ⟨.slice none 0 0, by simp, by simpa using HS.init.nil_ow (α := Stp)⟩ ?_
  rintro J0 i _ h1 hJ0 hi ⟨o, rfl, H⟩
  simp -implicitDefEqProofs (disch := first | omega | (simp only [List.length_set, List.length_replicate, List.length_append, List.length_map, List.length_take, List.length_cons, List.length_nil]; omega)) [wrap64]
  refine IteW.mk (fun hlt => ?_) (fun hge => ?_)
  · have hi : i < s.procs.length := by omega
    obtain ⟨A, hA⟩ : ∃ A, A = (s.procs.zipIdx.take i).flatMap (enb1 s st) := ⟨_, rfl⟩
    have hAl : A.length ≤ 324 := by rw [hA]; exact enb_len hs
    obtain ⟨u, hu, Ru⟩ := R2'.ld hi
    have hu2 := hload_le H.base hu
    change hload _ (some (elp 2 v2 i)) (some 2) = some u at hu2
    obtain ⟨we, rfl, k1, R3⟩ := Rep_Pr.1 Ru
    have hpo := hs.at hi
    have hel := hpo.el
    have hF1 := R3.cells
    have hF2 := R3.one
    rw [← hA] at H
    simp -implicitDefEqProofs (disch := first | omega | (simp only [List.length_set, List.length_replicate, List.length_append, List.length_map, List.length_take, List.length_cons, List.length_nil]; omega)) [wrap64, R2'.X (n := 2) rfl, hu2, hF1, hF2, setC, R3.len]
    refine wp_count s.procs[i].edges.length (fun m e h' => ∃ o, e = [none, none, some (.agg #[v1, v2]), some (.agg #[t1, t2]), none, some o, some (.int .i64 i), none, none, none, none, none, none, none, some v2, some (.int .i64 s.procs.length), some (.int .i64 i), some we, some (.int .i64 s.procs[i].edges.length), some (.int .i64 m), none, none, none, none, none, none] ∧ HS h [ow o (A ++ (s.procs[i].edges.zipIdx.take m).flatMap (enb2 s st i))] h') ⟨o, by simp, by simpa using H⟩ ?_
    clear H
    rintro J1 m _ h2 hJ1 hm ⟨o, rfl, H⟩
    simp -implicitDefEqProofs (disch := first | omega | (simp only [List.length_set, List.length_replicate, List.length_append, List.length_map, List.length_take, List.length_cons, List.length_nil]; omega)) [wrap64]
    refine IteW.mk (fun hlt1 => ?_) (fun hge1 => ?_)
    · have hm : m < s.procs[i].edges.length := by omega
      obtain ⟨B, hB⟩ : ∃ B, B = A ++ (s.procs[i].edges.zipIdx.take m).flatMap (enb2 s st i) := ⟨_, rfl⟩
      have hBl : B.length ≤ 432 := by
        rw [hB, List.length_append]
        have := enb1_len (st := st) (i := i) (n := m) hs hpo
        omega
      have hstep : A ++ (s.procs[i].edges.zipIdx.take (m + 1)).flatMap (enb2 s st i) = B ++ enb2 s st i (s.procs[i].edges[m], m) := by rw [fm_tk hm, ← List.append_assoc, ← hB]
      rw [← hB] at H
      obtain ⟨u, hu, Ru⟩ := R3.ld hm
      have hu2 := hload_le H.base hu
      change hload _ (some (elp 10 we m)) (some 10) = some u at hu2
      obtain ⟨w1, w2, rfl, ok, G1, G2⟩ := Rep_Ed.1 Ru
      have heo := hpo.at hm
      have hF3 := G1.one
      have hF4 := G2.one
      have hgo : ∀ {o' h'}, HS h [ow o' (B ++ enb2 s st i (s.procs[i].edges[m], m))] h' → J1 [none, none, some (.agg #[v1, v2]), some (.agg #[t1, t2]), none, some o', some (.int .i64 i), none, none, none, none, none, none, none, some v2, some (.int .i64 s.procs.length), some (.int .i64 i), some we, some (.int .i64 s.procs[i].edges.length), some (.int .i64 ((m + 1 : Nat) : Int)), none, none, none, none, none, none] h' :=
        fun {o' h'} H => hJ1 _ _ hm ⟨o', by simp, by rw [hstep]; exact H⟩
      simp -implicitDefEqProofs (disch := first | omega | (simp only [List.length_set, List.length_replicate, List.length_append, List.length_map, List.length_take, List.length_cons, List.length_nil]; omega)) [wrap64, R3.X (n := 10) rfl, hu2, Ed.cs, setC, hF3, hF4]
      refine (c_ready hs ht (R0.on H) (Rt0.on H) hi hm).go ?_
      rintro _ h2 ⟨rfl, rfl⟩
      by_cases a1 : s.procs[i].edges[m].rdy st i = true
      case neg =>
        simp -implicitDefEqProofs (disch := first | omega | (simp only [List.length_set, List.length_replicate, List.length_append, List.length_map, List.length_take, List.length_cons, List.length_nil]; omega)) [wrap64, a1]
        exact hgo (by rw [enb2, if_pos (.inr (by simpa using a1))]; simpa using H)
      by_cases a2 : s.procs[i].edges[m].sync < 0
      · simp -implicitDefEqProofs (disch := first | omega | (simp only [List.length_set, List.length_replicate, List.length_append, List.length_map, List.length_take, List.length_cons, List.length_nil]; omega)) [wrap64, a1, a2]
        exact hgo (by rw [enb2, if_pos (.inl a2)]; simpa using H)
      by_cases a3 : s.procs[i].edges[m].sync = 0
      · simp -implicitDefEqProofs (disch := first | omega | (simp only [List.length_set, List.length_replicate, List.length_append, List.length_map, List.length_take, List.length_cons, List.length_nil]; omega)) [wrap64, a1, a2, a3, setC]
        refine H.app1 (bytes := 32) (⟨i, m, -1, -1⟩ : Stp) rfl rfl rfl (Stp.ok_iff.2 ⟨by dsimp only; omega, by dsimp only; omega, by dsimp only; omega, by dsimp only; omega⟩) rfl rfl (by omega) (by omega) fun o' h3 H => ?_
        simp -implicitDefEqProofs (disch := first | omega | (simp only [List.length_set, List.length_replicate, List.length_append, List.length_map, List.length_take, List.length_cons, List.length_nil]; omega)) [wrap64]
        refine hgo ?_
        rw [enb2, if_neg (by simp [a2, a1]), if_pos a3]; exact H
      simp -implicitDefEqProofs (disch := first | omega | (simp only [List.length_set, List.length_replicate, List.length_append, List.length_map, List.length_take, List.length_cons, List.length_nil]; omega)) [wrap64, a1, a2, a3, R2'.len]
      have hen : enb2 s st i (s.procs[i].edges[m], m) = prt s st i m s.procs[i].edges[m].sync := by rw [enb2, if_neg (by simp [a2, a1]), if_neg a3]
      rw [hen] at hgo
      obtain ⟨c, hc⟩ : ∃ c, c = s.procs[i].edges[m].sync := ⟨_, rfl⟩
      rw [← hc] at hgo
      have hs0 := heo.s0
      have hs1 := heo.s1
      refine wp_count s.procs.length (fun j e h' => ∃ o, e = [none, none, some (.agg #[v1, v2]), some (.agg #[t1, t2]), none, some o, some (.int .i64 i), none, some (.int .i64 m), some (.agg (s.procs[i].edges[m].cs w1 w2).toArray), none, none, none, none, some v2, some (.int .i64 s.procs.length), some (.int .i64 i), some we, some (.int .i64 s.procs[i].edges.length), some (.int .i64 m), some v2, some (.int .i64 s.procs.length), some (.int .i64 j), none, none, none] ∧ HS h [ow o (B ++ (s.procs.zipIdx.take j).flatMap (prt1 st i m c))] h') ⟨o, by simp [Ed.cs], by simpa using H⟩ ?_
      clear H
      rintro J2 j _ h3 hJ2 hj ⟨o, rfl, H⟩
      simp -implicitDefEqProofs (disch := first | omega | (simp only [List.length_set, List.length_replicate, List.length_append, List.length_map, List.length_take, List.length_cons, List.length_nil]; omega)) [wrap64]
      refine IteW.mk (fun hlt2 => ?_) (fun hge2 => ?_)
      · have hj : j < s.procs.length := by omega
        obtain ⟨D, hD⟩ : ∃ D, D = B ++ (s.procs.zipIdx.take j).flatMap (prt1 st i m c) := ⟨_, rfl⟩
        have hDl : D.length ≤ 450 := by
          rw [hD, List.length_append]
          have := prt_len (st := st) (i := i) (k := m) (c := c) (n := j) hs
          omega
        rw [← hD] at H
        obtain ⟨u, hu, Ru⟩ := R2'.ld hj
        have hu2 := hload_le H.base hu
        change hload _ (some (elp 2 v2 j)) (some 2) = some u at hu2
        obtain ⟨wf, rfl, k2, R4⟩ := Rep_Pr.1 Ru
        have hpj := hs.at hj
        have hej := hpj.el
        have hF5 := R4.cells
        have hF6 := R4.one
        simp -implicitDefEqProofs (disch := first | omega | (simp only [List.length_set, List.length_replicate, List.length_append, List.length_map, List.length_take, List.length_cons, List.length_nil]; omega)) [wrap64, R2'.X (n := 2) rfl, hu2, hF5, hF6, setC, R4.len]
        refine wp_count s.procs[j].edges.length (fun n e h' => ∃ o, e = [none, none, some (.agg #[v1, v2]), some (.agg #[t1, t2]), none, some o, some (.int .i64 i), none, some (.int .i64 m), some (.agg (s.procs[i].edges[m].cs w1 w2).toArray), some (.int .i64 j), none, none, none, some v2, some (.int .i64 s.procs.length), some (.int .i64 i), some we, some (.int .i64 s.procs[i].edges.length), some (.int .i64 m), some v2, some (.int .i64 s.procs.length), some (.int .i64 j), some wf, some (.int .i64 s.procs[j].edges.length), some (.int .i64 n)] ∧ HS h [ow o (D ++ (s.procs[j].edges.zipIdx.take n).flatMap (prt2 st i m c j))] h') ⟨o, by simp, by simpa using H⟩ ?_
        clear H
        rintro J3 n _ h4 hJ3 hn ⟨o, rfl, H⟩
        simp -implicitDefEqProofs (disch := first | omega | (simp only [List.length_set, List.length_replicate, List.length_append, List.length_map, List.length_take, List.length_cons, List.length_nil]; omega)) [wrap64]
        refine IteW.mk (fun hlt3 => ?_) (fun hge3 => ?_)
        · have hn : n < s.procs[j].edges.length := by omega
          obtain ⟨E, hE⟩ : ∃ E, E = D ++ (s.procs[j].edges.zipIdx.take n).flatMap (prt2 st i m c j) := ⟨_, rfl⟩
          have hEl : E.length ≤ 456 := by
            rw [hE, List.length_append]
            have := prt1_len (st := st) (i := i) (k := m) (c := c) (j := j) (n := n) hpj
            omega
          have hstep2 : D ++ (s.procs[j].edges.zipIdx.take (n + 1)).flatMap (prt2 st i m c j) = E ++ prt2 st i m c j (s.procs[j].edges[n], n) := by rw [fm_tk hn, ← List.append_assoc, ← hE]
          rw [← hE] at H
          obtain ⟨u, hu, Ru⟩ := R4.ld hn
          have hu2 := hload_le H.base hu
          change hload _ (some (elp 10 wf n)) (some 10) = some u at hu2
          obtain ⟨x1, x2, rfl, okf, X1, X2⟩ := Rep_Ed.1 Ru
          have hF7 := X1.one
          have hF8 := X2.one
          have hgo2 : ∀ {o' h'}, HS h [ow o' (E ++ prt2 st i m c j (s.procs[j].edges[n], n))] h' → J3 [none, none, some (.agg #[v1, v2]), some (.agg #[t1, t2]), none, some o', some (.int .i64 i), none, some (.int .i64 m), some (.agg (s.procs[i].edges[m].cs w1 w2).toArray), some (.int .i64 j), none, none, none, some v2, some (.int .i64 s.procs.length), some (.int .i64 i), some we, some (.int .i64 s.procs[i].edges.length), some (.int .i64 m), some v2, some (.int .i64 s.procs.length), some (.int .i64 j), some wf, some (.int .i64 s.procs[j].edges.length), some (.int .i64 ((n + 1 : Nat) : Int))] h' :=
            fun {o' h'} H => hJ3 _ _ hn ⟨o', by simp, by rw [hstep2]; exact H⟩
          simp only [Ed.cs] at hgo2
          by_cases b1 : j = i
          · simp -implicitDefEqProofs (disch := first | omega | (simp only [List.length_set, List.length_replicate, List.length_append, List.length_map, List.length_take, List.length_cons, List.length_nil]; omega)) [wrap64, R4.X (n := 10) rfl, hu2, Ed.cs, setC, hF7, hF8, b1]
            subst b1
            exact hgo2 (by rw [prt2, if_neg (fun hh => hh.1 rfl)]; simpa using H)
          have b1' : ¬ ((j : Int) = i) := by omega
          by_cases b2 : s.procs[j].edges[n].sync = -c
          case neg =>
            have b2' := b2
            rw [hc] at b2'
            simp -implicitDefEqProofs (disch := first | omega | (simp only [List.length_set, List.length_replicate, List.length_append, List.length_map, List.length_take, List.length_cons, List.length_nil]; omega)) [wrap64, R4.X (n := 10) rfl, hu2, Ed.cs, setC, hF7, hF8, b1, b1', b2']
            exact hgo2 (by rw [prt2, if_neg (fun hh => b2 hh.2.1)]; simpa using H)
          have b2' := b2
          rw [hc] at b2'
          simp -implicitDefEqProofs (disch := first | omega | (simp only [List.length_set, List.length_replicate, List.length_append, List.length_map, List.length_take, List.length_cons, List.length_nil]; omega)) [wrap64, R4.X (n := 10) rfl, hu2, Ed.cs, setC, hF7, hF8, b1, b1', b2']
          refine (c_ready hs ht (R0.on H) (Rt0.on H) hj hn).go ?_
          rintro _ h4 ⟨rfl, rfl⟩
          by_cases b3 : s.procs[j].edges[n].rdy st j = true
          case neg =>
            simp -implicitDefEqProofs (disch := first | omega | (simp only [List.length_set, List.length_replicate, List.length_append, List.length_map, List.length_take, List.length_cons, List.length_nil]; omega)) [wrap64, b3]
            exact hgo2 (by rw [prt2, if_neg (fun hh => b3 hh.2.2)]; simpa using H)
          simp -implicitDefEqProofs (disch := first | omega | (simp only [List.length_set, List.length_replicate, List.length_append, List.length_map, List.length_take, List.length_cons, List.length_nil]; omega)) [wrap64, b3, setC]
          refine H.app1 (bytes := 32) (⟨i, m, j, n⟩ : Stp) rfl rfl rfl (Stp.ok_iff.2 ⟨by dsimp only; omega, by dsimp only; omega, by dsimp only; omega, by dsimp only; omega⟩) rfl rfl (by omega) (by omega) fun o' h5 H => ?_
          simp -implicitDefEqProofs (disch := first | omega | (simp only [List.length_set, List.length_replicate, List.length_append, List.length_map, List.length_take, List.length_cons, List.length_nil]; omega)) [wrap64]
          refine hgo2 ?_
          rw [prt2, if_pos ⟨b1, b2, b3⟩]; exact H
        simp -implicitDefEqProofs (disch := first | omega | (simp only [List.length_set, List.length_replicate, List.length_append, List.length_map, List.length_take, List.length_cons, List.length_nil]; omega)) [wrap64]
        rw [fm_all (by omega)] at H
        exact hJ2 _ _ hj ⟨o, by simp, by rw [fm_tk hj, ← List.append_assoc, ← hD]; exact H⟩
      simp -implicitDefEqProofs (disch := first | omega | (simp only [List.length_set, List.length_replicate, List.length_append, List.length_map, List.length_take, List.length_cons, List.length_nil]; omega)) [wrap64]
      rw [fm_all (by omega)] at H
      exact hgo H
    simp -implicitDefEqProofs (disch := first | omega | (simp only [List.length_set, List.length_replicate, List.length_append, List.length_map, List.length_take, List.length_cons, List.length_nil]; omega)) [wrap64]
    rw [fm_all (by omega)] at H
    exact hJ0 _ _ hi ⟨o, by simp, by rw [fm_tk hi, ← hA]; exact H⟩
  simp -implicitDefEqProofs (disch := first | omega | (simp only [List.length_set, List.length_replicate, List.length_append, List.length_map, List.length_take, List.length_cons, List.length_nil]; omega)) [wrap64]
  rw [fm_all (by omega)] at H
  refine (c_Clip_impl_Step H).go ?_
  intro o' h2 H
  simp -implicitDefEqProofs (disch := first | omega | (simp only [List.length_set, List.length_replicate, List.length_append, List.length_map, List.length_take, List.length_cons, List.length_nil]; omega)) [wrap64]
  exact RetK.keep (hk _ _ H)
end Go.Proofs.YthgimpheeemooaaGreat
