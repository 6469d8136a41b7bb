/-
  Which variables matter: the functions of the packages. How much systems and expressions hold.
-/
import Derived.Test.YthgimpheeemooaaI6
import Derived.Test.YthgimpheeemooaaE4
import Derived.Test.YthgimpheeemooaaPM
namespace Go.Proofs.Ythgimpheeemooaa
open Go
set_option linter.all false
set_option linter.unusedVariables false
set_option linter.unusedSimpArgs false
set_option linter.defProp false
set_option maxRecDepth 1000000

theorem HS.only {g h : Heap} {Γ : List HP} {p : HP} (H : HS g (p :: Γ) h) : HS g [p] h := by
  obtain ⟨g', r, e, d, hp, H⟩ := H
  exact ⟨g', r, e, d, hp, H.base⟩
def R2 {α : Type} [Ty α] (b : Bool) (y : α) (h : Heap) (u : Value) (h' : Heap) : Prop := ∃ v, u = .tuple #[v, .bool b] ∧ HS h [ow v y] h'

theorem c_spec_RelevantVars' {h : Heap} {v w : Value} {s : Sy} {L : List Exq} (R : Rep h v s) (RL : Rep h w L) (hs : s.Ok) (hL : LOk L) : CallE Try.prog fn_spec_RelevantVars [v, w] h (R2 true (s.rel L) h) := by
  have F := R.aSy
  obtain ⟨v1, v2, rfl, R1, R2'⟩ := Rep_Sy.1 R
  have hL1 := R2'.lt
  have hL2 := RL.lt
  refine CallE.gen fun k hk => EN_spec_RelevantVars rfl ?_
  simp -implicitDefEqProofs (disch := first | omega | (simp only [List.length_set, List.length_replicate, List.length_append, List.length_map, List.length_take, List.length_cons, List.length_nil]; omega)) [wrap64, F]
  refine (c_spec_SystemValid R).go ?_
  rintro _ h ⟨rfl, rfl⟩
  simp -implicitDefEqProofs (disch := first | omega | (simp only [List.length_set, List.length_replicate, List.length_append, List.length_map, List.length_take, List.length_cons, List.length_nil]; omega)) [wrap64, hs]
  refine (c_spec_LabelsValid RL).go ?_
  rintro _ h ⟨rfl, rfl⟩
  simp -implicitDefEqProofs (disch := first | omega | (simp only [List.length_set, List.length_replicate, List.length_append, List.length_map, List.length_take, List.length_cons, List.length_nil]; omega)) [wrap64, hL]
  refine HS.init.mks (α := Bool) (z := false) (n := 3) (c := 3) rfl rfl own_false (Nat.le_refl _) (by decide) (by decide) fun m h1 H => ?_
  have H : HS h [ow m [false, false, false]] h1 := H
  simp -implicitDefEqProofs (disch := first | omega | (simp only [List.length_set, List.length_replicate, List.length_append, List.length_map, List.length_take, List.length_cons, List.length_nil]; omega)) [wrap64]
  refine wp_count L.length (fun i e h' => e = [none, some w, some (.agg #[v1, v2]), none, none, some m, some (.int .i64 i), none, none, none, none, none, none] ∧ HS h [ow m (relL (L.take i) [false, false, false])] h') ⟨by simp, by simpa [relL] using H⟩ ?_
  clear H
  rintro J0 i _ h2 hJ0 hi ⟨rfl, H⟩
  simp -implicitDefEqProofs (disch := first | omega | (simp only [List.length_set, List.length_replicate, List.length_append, List.length_map, List.length_take, List.length_cons, List.length_nil]; omega)) [wrap64, RL.len]
  refine IteW.mk (fun hlt => ?_) (fun hge => ?_)
  · have hlx : i < L.length := by omega
    obtain ⟨u, hu, Ru⟩ := RL.ld hlx
    have hu2 := hload_le H.base hu
    change hload _ (some (elp 3 w i)) (some 3) = some u at hu2
    simp -implicitDefEqProofs (disch := first | omega | (simp only [List.length_set, List.length_replicate, List.length_append, List.length_map, List.length_take, List.length_cons, List.length_nil]; omega)) [wrap64, RL.X (n := 3) rfl, hu2, Ru.aExq]
    refine (c_l1Mark _ (hL.ok _ (List.getElem_mem hlx)).1 Ru H (relL_len rfl)).go ?_
    rintro _ h3 ⟨rfl, H⟩
    simp -implicitDefEqProofs (disch := first | omega | (simp only [List.length_set, List.length_replicate, List.length_append, List.length_map, List.length_take, List.length_cons, List.length_nil]; omega)) [wrap64]
    exact hJ0 _ _ hlx ⟨by simp, by rw [relL, foldl_tk hlx]; exact H⟩
  simp -implicitDefEqProofs (disch := first | omega | (simp only [List.length_set, List.length_replicate, List.length_append, List.length_map, List.length_take, List.length_cons, List.length_nil]; omega)) [wrap64]
  rw [List.take_of_length_le (by omega)] at H
  obtain ⟨MA, hMA⟩ : ∃ MA, MA = relL L [false, false, false] := ⟨_, rfl⟩
  have hMAl : MA.length = 3 := by rw [hMA]; exact relL_len rfl
  rw [← hMA] at H
  -- the guards
  refine wp_count s.procs.length (fun i e h' => e = [none, none, some (.agg #[v1, v2]), none, none, some m, none, some (.int .i64 i), none, none, none, none, none] ∧ HS h [ow m ((s.procs.take i).foldl (fun M p => p.edges.foldl (fun M e => e.guard.mkv M) M) MA)] h') ⟨by simp, by simpa using H⟩ ?_
  clear H
  rintro J1 i _ h3 hJ1 hi ⟨rfl, H⟩
  simp -implicitDefEqProofs (disch := first | omega | (simp only [List.length_set, List.length_replicate, List.length_append, List.length_map, List.length_take, List.length_cons, List.length_nil]; omega)) [wrap64, R2'.len]
  refine IteW.mk (fun hlt => ?_) (fun hge => ?_)
  · have hlx : i < s.procs.length := by omega
    obtain ⟨u, hu, Ru⟩ := R2'.ld hlx
    change hload _ (some (elp 2 v2 i)) (some 2) = some u at hu
    obtain ⟨we, rfl, k1, R3⟩ := Rep_Pr.1 Ru
    have hP := hld_parts hu
    have hpo := hs.at hlx
    obtain ⟨MB, hMB⟩ : ∃ MB, MB = (s.procs.take i).foldl (fun M p => p.edges.foldl (fun M e => e.guard.mkv M) M) MA := ⟨_, rfl⟩
    have hMBl : MB.length = 3 := by rw [hMB]; exact Exq.fold_len (fun _ _ _ h => Exq.fold_len (fun _ _ _ h => Exq.mkv_len _ h) h) hMAl
    have hL3 := R3.lt
    have hfe : ∀ {h'}, h.le h' → hload h' (some (elpo 2 v2 i 1)) none = some we := fun hl => hload_le hl (by rw [hP.2.2.1 1 (by omega)]; rfl)
    rw [← hMB] at H
    simp -implicitDefEqProofs (disch := first | omega | (simp only [List.length_set, List.length_replicate, List.length_append, List.length_map, List.length_take, List.length_cons, List.length_nil]; omega)) [wrap64]
    refine wp_count s.procs[i].edges.length (fun j e h' => e = [none, none, some (.agg #[v1, v2]), none, none, some m, none, some (.int .i64 i), some (.int .i64 j), none, none, none, none] ∧ HS h [ow m ((s.procs[i].edges.take j).foldl (fun M e => e.guard.mkv M) MB)] h') ⟨by simp, by simpa using H⟩ ?_
    clear H
    rintro J2 j _ h4 hJ2 hj ⟨rfl, H⟩
    simp -implicitDefEqProofs (disch := first | omega | (simp only [List.length_set, List.length_replicate, List.length_append, List.length_map, List.length_take, List.length_cons, List.length_nil]; omega)) [wrap64, R2'.X (n := 2) rfl, hP.1, hfe H.base, R3.len]
    refine IteW.mk (fun hlt2 => ?_) (fun hge2 => ?_)
    · have hjx : j < s.procs[i].edges.length := by omega
      obtain ⟨u, hu, Ru⟩ := R3.ld hjx
      have hu2 := hload_le H.base hu
      change hload _ (some (elp 10 we j)) (some 10) = some u at hu2
      obtain ⟨w1, w2, rfl, ok, G1, G2⟩ := Rep_Ed.1 Ru
      have hQ := hld_parts hu2
      simp -implicitDefEqProofs (disch := first | omega | (simp only [List.length_set, List.length_replicate, List.length_append, List.length_map, List.length_take, List.length_cons, List.length_nil]; omega)) [wrap64, R2'.X (n := 2) rfl, hP.1, hfe H.base, R3.X (n := 10) rfl, hQ.1, hQ.2.2.2, Ed.cs]
      refine (c_l1Mark _ ((hpo.at hjx).gd).1 (Rep.gd (w2 := w2) ok G1) H (Exq.fold_len (fun _ _ _ h => Exq.mkv_len _ h) hMBl)).go ?_
      rintro _ h5 ⟨rfl, H⟩
      simp -implicitDefEqProofs (disch := first | omega | (simp only [List.length_set, List.length_replicate, List.length_append, List.length_map, List.length_take, List.length_cons, List.length_nil]; omega)) [wrap64]
      exact hJ2 _ _ hjx ⟨by simp, by rw [foldl_tk hjx]; exact H⟩
    simp -implicitDefEqProofs (disch := first | omega | (simp only [List.length_set, List.length_replicate, List.length_append, List.length_map, List.length_take, List.length_cons, List.length_nil]; omega)) [wrap64]
    rw [List.take_of_length_le (by omega)] at H
    exact hJ1 _ _ hlx ⟨by simp, by rw [foldl_tk hlx, ← hMB]; exact H⟩
  simp -implicitDefEqProofs (disch := first | omega | (simp only [List.length_set, List.length_replicate, List.length_append, List.length_map, List.length_take, List.length_cons, List.length_nil]; omega)) [wrap64]
  rw [List.take_of_length_le (by omega)] at H
  obtain ⟨MC, hMC⟩ : ∃ MC, MC = relG s MA := ⟨_, rfl⟩
  have hMCl : MC.length = 3 := by rw [hMC]; exact relG_len hMAl
  have H : HS h [ow m MC] h3 := by rw [hMC]; exact H
  -- three rounds
  refine wp_count 3 (fun r e h' => e = [none, none, some (.agg #[v1, v2]), none, none, some m, none, none, none, some (.int .i64 r), none, none, none] ∧ HS h [ow m (Nat.repeat (relV s) r MC)] h') ⟨by simp, H⟩ ?_
  clear H
  rintro J3 r _ h4 hJ3 hr ⟨rfl, H⟩
  have hrl : ∀ r, (Nat.repeat (relV s) r MC).length = 3 := by
    intro r
    induction r with
    | zero => exact hMCl
    | succ r ih => exact relV_len ih
  simp -implicitDefEqProofs (disch := first | omega | (simp only [List.length_set, List.length_replicate, List.length_append, List.length_map, List.length_take, List.length_cons, List.length_nil]; omega)) [wrap64]
  refine IteW.mk (fun hlt3 => ?_) (fun hge3 => ?_)
  · obtain ⟨MD, hMD⟩ : ∃ MD, MD = Nat.repeat (relV s) r MC := ⟨_, rfl⟩
    have hMDl : MD.length = 3 := by rw [hMD]; exact hrl r
    rw [← hMD] at H
    simp -implicitDefEqProofs (disch := first | omega | (simp only [List.length_set, List.length_replicate, List.length_append, List.length_map, List.length_take, List.length_cons, List.length_nil]; omega)) [wrap64]
    refine wp_count s.procs.length (fun i e h' => e = [none, none, some (.agg #[v1, v2]), none, none, some m, none, none, none, some (.int .i64 r), some (.int .i64 i), none, none] ∧ HS h [ow m ((s.procs.take i).foldl (fun M p => p.edges.foldl Ed.relv M) MD)] h') ⟨by simp, by simpa using H⟩ ?_
    clear H
    rintro J4 i _ h5 hJ4 hi ⟨rfl, H⟩
    simp -implicitDefEqProofs (disch := first | omega | (simp only [List.length_set, List.length_replicate, List.length_append, List.length_map, List.length_take, List.length_cons, List.length_nil]; omega)) [wrap64, R2'.len]
    refine IteW.mk (fun hlt => ?_) (fun hge => ?_)
    · have hlx : i < s.procs.length := by omega
      obtain ⟨u, hu, Ru⟩ := R2'.ld hlx
      change hload _ (some (elp 2 v2 i)) (some 2) = some u at hu
      obtain ⟨we, rfl, k1, R3⟩ := Rep_Pr.1 Ru
      have hP := hld_parts hu
      have hpo := hs.at hlx
      obtain ⟨MB, hMB⟩ : ∃ MB, MB = (s.procs.take i).foldl (fun M p => p.edges.foldl Ed.relv M) MD := ⟨_, rfl⟩
      have hMBl : MB.length = 3 := by rw [hMB]; exact Exq.fold_len (fun _ _ _ h => Exq.fold_len (fun e _ _ h => e.relv_len h) h) hMDl
      have hL3 := R3.lt
      have hfe : ∀ {h'}, h.le h' → hload h' (some (elpo 2 v2 i 1)) none = some we := fun hl => hload_le hl (by rw [hP.2.2.1 1 (by omega)]; rfl)
      rw [← hMB] at H
      simp -implicitDefEqProofs (disch := first | omega | (simp only [List.length_set, List.length_replicate, List.length_append, List.length_map, List.length_take, List.length_cons, List.length_nil]; omega)) [wrap64]
      refine wp_count s.procs[i].edges.length (fun j e h' => e = [none, none, some (.agg #[v1, v2]), none, none, some m, none, none, none, some (.int .i64 r), some (.int .i64 i), some (.int .i64 j), none] ∧ HS h [ow m ((s.procs[i].edges.take j).foldl Ed.relv MB)] h') ⟨by simp, by simpa using H⟩ ?_
      clear H
      rintro J5 j _ h6 hJ5 hj ⟨rfl, H⟩
      simp -implicitDefEqProofs (disch := first | omega | (simp only [List.length_set, List.length_replicate, List.length_append, List.length_map, List.length_take, List.length_cons, List.length_nil]; omega)) [wrap64, R2'.X (n := 2) rfl, hP.1, hfe H.base, R3.len]
      refine IteW.mk (fun hlt2 => ?_) (fun hge2 => ?_)
      · have hjx : j < s.procs[i].edges.length := by omega
        obtain ⟨u, hu, Ru⟩ := R3.ld hjx
        have hu2 := hload_le H.base hu
        change hload _ (some (elp 10 we j)) (some 10) = some u at hu2
        obtain ⟨w1, w2, rfl, ok, G1, G2⟩ := Rep_Ed.1 Ru
        have hF1 := G1.one
        have hF2 := G2.one
        obtain ⟨ME, hME⟩ : ∃ ME, ME = (s.procs[i].edges.take j).foldl Ed.relv MB := ⟨_, rfl⟩
        have hMEl : ME.length = 3 := by rw [hME]; exact Exq.fold_len (fun e _ _ h => e.relv_len h) hMBl
        have heo := hpo.at hjx
        have hstep : (s.procs[i].edges.take (j + 1)).foldl Ed.relv MB = s.procs[i].edges[j].relv ME := by rw [foldl_tk hjx, ← hME]
        rw [← hME] at H
        by_cases e1 : 0 ≤ s.procs[i].edges[j].var
        case neg =>
          simp -implicitDefEqProofs (disch := first | omega | (simp only [List.length_set, List.length_replicate, List.length_append, List.length_map, List.length_take, List.length_cons, List.length_nil]; omega)) [wrap64, R2'.X (n := 2) rfl, hP.1, hfe H.base, R3.X (n := 10) rfl, hu2, Ed.cs, setC, hF1, hF2, e1]
          exact hJ5 _ _ hjx ⟨by simp, by rw [hstep, Ed.relv, if_neg (fun hh => e1 hh.1)]; exact H⟩
        have hv1 := heo.v1
        obtain ⟨q, hq⟩ : ∃ q : Nat, s.procs[i].edges[j].var = q := ⟨_, (Int.toNat_of_nonneg e1).symm⟩
        have hgd : ME.getD s.procs[i].edges[j].var.toNat false = ME[q]'(by omega) := by
          rw [hq, Int.toNat_natCast, List.getD_eq_getElem?_getD, List.getElem?_eq_getElem (by omega)]; rfl
        by_cases e2 : ME[q]'(by omega) = true
        case neg =>
          simp -implicitDefEqProofs (disch := first | omega | (simp only [List.length_set, List.length_replicate, List.length_append, List.length_map, List.length_take, List.length_cons, List.length_nil]; omega)) [wrap64, R2'.X (n := 2) rfl, hP.1, hfe H.base, R3.X (n := 10) rfl, hu2, Ed.cs, setC, hF1, hF2, hq, H.rep.B, e2]
          exact hJ5 _ _ hjx ⟨by simp, by rw [hstep, Ed.relv, if_neg (fun hh => e2 (by rw [← hgd]; exact hh.2))]; exact H⟩
        simp -implicitDefEqProofs (disch := first | omega | (simp only [List.length_set, List.length_replicate, List.length_append, List.length_map, List.length_take, List.length_cons, List.length_nil]; omega)) [wrap64, R2'.X (n := 2) rfl, hP.1, hfe H.base, R3.X (n := 10) rfl, hu2, Ed.cs, setC, hF1, hF2, hq, H.rep.B, e2]
        have hvo : s.procs[i].edges[j].value.Ok := heo.vl.elim (fun hh => hh.2) (fun hh => absurd hh.1 (by omega))
        refine (c_l1Mark _ hvo.1 (Rep.vl ok G2) H hMEl).go ?_
        rintro _ h7 ⟨rfl, H⟩
        simp -implicitDefEqProofs (disch := first | omega | (simp only [List.length_set, List.length_replicate, List.length_append, List.length_map, List.length_take, List.length_cons, List.length_nil]; omega)) [wrap64]
        exact hJ5 _ _ hjx ⟨by simp, by rw [hstep, Ed.relv, if_pos ⟨e1, by rw [hgd]; exact e2⟩]; exact H⟩
      simp -implicitDefEqProofs (disch := first | omega | (simp only [List.length_set, List.length_replicate, List.length_append, List.length_map, List.length_take, List.length_cons, List.length_nil]; omega)) [wrap64]
      rw [List.take_of_length_le (by omega)] at H
      exact hJ4 _ _ hlx ⟨by simp, by rw [foldl_tk hlx, ← hMB]; exact H⟩
    simp -implicitDefEqProofs (disch := first | omega | (simp only [List.length_set, List.length_replicate, List.length_append, List.length_map, List.length_take, List.length_cons, List.length_nil]; omega)) [wrap64]
    rw [List.take_of_length_le (by omega)] at H
    exact hJ3 _ _ (by omega) ⟨by simp, by show HS h [ow m (relV s (Nat.repeat (relV s) r MC))] h5; rw [← hMD]; exact H⟩
  simp -implicitDefEqProofs (disch := first | omega | (simp only [List.length_set, List.length_replicate, List.length_append, List.length_map, List.length_take, List.length_cons, List.length_nil]; omega)) [wrap64]
  have hr3 : r = 3 := by omega
  subst hr3
  refine RetK.keep (hk _ _ ⟨_, rfl, ?_⟩)
  have : s.rel L = Nat.repeat (relV s) 3 MC := by rw [hMC, hMA]; rfl
  rw [this]; exact H

noncomputable def relR (s : Sy) (L : List Exq) : List Bool := if s.Ok ∧ LOk L then s.rel L else []
theorem c_spec_RelevantVars {h : Heap} {v w : Value} {s : Sy} {L : List Exq} (R : Rep h v s) (RL : Rep h w L) : CallE Try.prog fn_spec_RelevantVars [v, w] h (R2 (decide (s.Ok ∧ LOk L)) (relR s L) h) := by
  by_cases hs : s.Ok
  case neg =>
    have F := R.aSy
    have hn : ¬ (s.Ok ∧ LOk L) := fun hh => hs hh.1
    refine CallE.gen fun k hk => EN_spec_RelevantVars rfl ?_
    simp -implicitDefEqProofs (disch := first | omega | (simp only [List.length_set, List.length_replicate, List.length_append, List.length_map, List.length_take, List.length_cons, List.length_nil]; omega)) [wrap64, F]
    refine (c_spec_SystemValid R).go ?_
    rintro _ h ⟨rfl, rfl⟩
    simp -implicitDefEqProofs (disch := first | omega | (simp only [List.length_set, List.length_replicate, List.length_append, List.length_map, List.length_take, List.length_cons, List.length_nil]; omega)) [wrap64, hs]
    refine HS.init.bls0 Bool fun o h1 H => ?_
    simp -implicitDefEqProofs (disch := first | omega | (simp only [List.length_set, List.length_replicate, List.length_append, List.length_map, List.length_take, List.length_cons, List.length_nil]; omega)) [wrap64]
    exact RetK.keep (hk _ _ ⟨_, by rw [decide_eq_false hn], by rw [relR, if_neg hn]; exact H⟩)
  by_cases hL : LOk L
  case neg =>
    have F := R.aSy
    have hn : ¬ (s.Ok ∧ LOk L) := fun hh => hL hh.2
    refine CallE.gen fun k hk => EN_spec_RelevantVars rfl ?_
    simp -implicitDefEqProofs (disch := first | omega | (simp only [List.length_set, List.length_replicate, List.length_append, List.length_map, List.length_take, List.length_cons, List.length_nil]; omega)) [wrap64, F]
    refine (c_spec_SystemValid R).go ?_
    rintro _ h ⟨rfl, rfl⟩
    simp -implicitDefEqProofs (disch := first | omega | (simp only [List.length_set, List.length_replicate, List.length_append, List.length_map, List.length_take, List.length_cons, List.length_nil]; omega)) [wrap64, hs]
    refine (c_spec_LabelsValid RL).go ?_
    rintro _ h ⟨rfl, rfl⟩
    simp -implicitDefEqProofs (disch := first | omega | (simp only [List.length_set, List.length_replicate, List.length_append, List.length_map, List.length_take, List.length_cons, List.length_nil]; omega)) [wrap64, hL]
    refine HS.init.bls0 Bool fun o h1 H => ?_
    simp -implicitDefEqProofs (disch := first | omega | (simp only [List.length_set, List.length_replicate, List.length_append, List.length_map, List.length_take, List.length_cons, List.length_nil]; omega)) [wrap64]
    exact RetK.keep (hk _ _ ⟨_, by rw [decide_eq_false hn], by rw [relR, if_neg hn]; exact H⟩)
  rw [decide_eq_true ⟨hs, hL⟩, relR, if_pos ⟨hs, hL⟩]
  exact c_spec_RelevantVars' R RL hs hL
theorem c_RelevantVars {h : Heap} {v w : Value} {s : Sy} {L : List Exq} (R : Rep h v s) (RL : Rep h w L) : CallE Try.prog fn_impl_RelevantVars [v, w] h (R2 (decide (s.Ok ∧ LOk L)) (relR s L) h) := by
  have F := R.aSy
  refine CallE.gen fun k hk => EN_impl_RelevantVars rfl ?_
  have hno : ¬ (s.Ok ∧ LOk L) → ∀ h', h.le h' → k (.tuple #[.slice none 0 0, .bool false]) h' := fun hn h' hl => hk _ _ ⟨_, by rw [decide_eq_false hn], by rw [relR, if_neg hn]; exact HS.nil_ow (Γ := []) hl⟩
  simp -implicitDefEqProofs (disch := first | omega | (simp only [List.length_set, List.length_replicate, List.length_append, List.length_map, List.length_take, List.length_cons, List.length_nil]; omega)) [wrap64, F]
  refine (c_SystemValid R).go ?_
  rintro _ h1 ⟨l1, rfl⟩
  by_cases hs : s.Ok
  case neg =>
    simp -implicitDefEqProofs (disch := first | omega | (simp only [List.length_set, List.length_replicate, List.length_append, List.length_map, List.length_take, List.length_cons, List.length_nil]; omega)) [wrap64, hs]
    exact RetK.keep (hno (fun hh => hs hh.1) _ l1)
  simp -implicitDefEqProofs (disch := first | omega | (simp only [List.length_set, List.length_replicate, List.length_append, List.length_map, List.length_take, List.length_cons, List.length_nil]; omega)) [wrap64, hs]
  refine (c_LabelsValid (RL.le l1)).go ?_
  rintro _ h2 ⟨l2, rfl⟩
  have l2 := l1.trans l2
  by_cases hL : LOk L
  case neg =>
    simp -implicitDefEqProofs (disch := first | omega | (simp only [List.length_set, List.length_replicate, List.length_append, List.length_map, List.length_take, List.length_cons, List.length_nil]; omega)) [wrap64, hL]
    exact RetK.keep (hno (fun hh => hL hh.2) _ l2)
  simp -implicitDefEqProofs (disch := first | omega | (simp only [List.length_set, List.length_replicate, List.length_append, List.length_map, List.length_take, List.length_cons, List.length_nil]; omega)) [wrap64, hL, F]
  refine (c_relevant (R.le l2) (RL.le l2) hs hL).go ?_
  intro u h3 H
  simp -implicitDefEqProofs (disch := first | omega | (simp only [List.length_set, List.length_replicate, List.length_append, List.length_map, List.length_take, List.length_cons, List.length_nil]; omega)) [wrap64]
  exact RetK.keep (hk _ _ ⟨_, by rw [decide_eq_true ⟨hs, hL⟩], by rw [relR, if_pos ⟨hs, hL⟩]; exact HS.app (Γ := []) H l2⟩)

theorem cnt_ints (l : List Int) : Mk.cnt l = l.length := by
  induction l with
  | nil => rfl
  | cons b r ih => show 1 + cntL r = _; have : cntL r = Mk.cnt r := rfl; rw [this, ih]; simp; omega
theorem cnt_bools (l : List Bool) : Mk.cnt l = l.length := by
  induction l with
  | nil => rfl
  | cons b r ih => show 1 + cntL r = _; have : cntL r = Mk.cnt r := rfl; rw [this, ih]; simp; omega
theorem cnt_cons {α : Type} [Mk α] (x : α) (l : List α) : Mk.cnt (x :: l) = Mk.cnt x + Mk.cnt l := rfl
theorem sz_cons {α : Type} [Sz α] (x : α) (l : List α) : Sz.sz (x :: l) = 1 + Sz.sz x + Sz.sz l := by
  simp only [sz_list, szL, List.length_cons]; omega
theorem cnt_le {α : Type} [Mk α] [Sz α] {c : Nat} : ∀ {l : List α}, (∀ x ∈ l, Mk.cnt x ≤ c * (1 + Sz.sz x)) → Mk.cnt l ≤ c * Sz.sz l
  | [], _ => by show 0 ≤ _; omega
  | x :: l, h => by
    have h1 := cnt_le (l := l) fun y hy => h y (by simp [hy])
    have h2 := h x (by simp)
    rw [cnt_cons, sz_cons, Nat.mul_add]
    omega
theorem cnt_Expr' : ∀ x : Exq, Mk.cnt x.kids ≤ 2 * Sz.sz x.kids := by
  refine Exq.ind fun x ih => cnt_le fun y hy => ?_
  have h1 := ih y hy
  rw [cnt_Exq, sz_Exq]; omega
theorem cnt_ExprS' (l : List Exq) : Mk.cnt l ≤ 2 * Sz.sz l := cnt_Expr' (Exq.mk 0 0 l)
theorem cnt_EdgeS' (l : List Ed) : Mk.cnt l ≤ 8 * Sz.sz l := cnt_le fun e _ => by
  have h1 := cnt_ExprS' e.guard.kids
  have h2 := cnt_ExprS' e.value.kids
  have h3 : Sz.sz e = Sz.sz e.guard.kids + Sz.sz e.value.kids := by rw [← sz_Exq, ← sz_Exq]; rfl
  rw [cnt_Ed, h3]; omega
theorem cnt_ProcessS' (l : List Pr) : Mk.cnt l ≤ 8 * Sz.sz l := cnt_le fun p _ => by
  have h1 := cnt_EdgeS' p.edges
  have h3 : Sz.sz p = Sz.sz p.edges := rfl
  rw [cnt_Pr, h3]; omega
theorem cnt_System {x : Sy} (h : Sz.sz x ≤ 1048576) : Mk.cnt x ≤ 8388608 := by
  have h1 := cnt_ProcessS' x.procs
  have h2 := cnt_ints x.init
  have h3 : Sz.sz x = Sz.sz x.init + Sz.sz x.procs := rfl
  have h4 := sz_list x.init
  rw [cnt_Sy]; omega
theorem cnt_ExprS {x : List Exq} (h : Sz.sz x ≤ 1048576) : Mk.cnt x ≤ 2097152 := by
  have h1 := cnt_ExprS' x
  omega
theorem bnd_RelevantVars {a0 : Sy} {a1 : List Exq} : Mk.cnt (relR a0 a1) ≤ 4194304 := by
  rw [cnt_bools, relR]
  split
  · rw [Sy.rel_len]; omega
  · simp
end Go.Proofs.Ythgimpheeemooaa
