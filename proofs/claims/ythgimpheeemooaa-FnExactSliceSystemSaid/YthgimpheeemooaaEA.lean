/-
  Systems are copied, and sliced: by the program and by the reference.
-/
import Derived.Test.YthgimpheeemooaaI10
import Derived.Test.YthgimpheeemooaaI16
import Derived.Test.YthgimpheeemooaaE9
import Derived.Test.YthgimpheeemooaaPK
namespace Go.Proofs.Ythgimpheeemooaa
open Go
set_option linter.all false
set_option linter.unusedVariables false
set_option linter.unusedSimpArgs false
set_option linter.defProp false
set_option maxRecDepth 1000000

/-- how far the elements have been replaced -/
structure Prog {α : Type} (f : α → α) (l y : List α) (i : Nat) : Prop where
  len : y.length = l.length
  done : y.take i = (l.map f).take i
  rest : ∀ (j : Nat) (hj : j < l.length) (hj' : j < y.length), i ≤ j → y[j] = l[j]
section
variable {α : Type} {f : α → α} {l y : List α} {i : Nat}
theorem Prog.zero : Prog f l l 0 := ⟨rfl, rfl, fun _ _ _ _ => rfl⟩
theorem Prog.get (H : Prog f l y i) (hi : i < l.length) : y[i]'(by rw [H.len]; exact hi) = l[i] := H.rest i hi _ (Nat.le_refl i)
theorem Prog.step (H : Prog f l y i) (hi : i < l.length) : Prog f l (y.set i (f l[i])) (i + 1) := by
  refine ⟨by simp [H.len], ?_, fun j hj hj' hij => ?_⟩
  · have := take_set_succ (x := l.map f) H.done (by simpa using hi) (by simp [H.len])
    rwa [List.getElem_map] at this
  · simp only [List.getElem_set]
    rw [if_neg (by omega)]
    exact H.rest j hj (by simpa using hj') (by omega)
theorem Prog.skip (H : Prog f l y i) (hi : i < l.length) (hf : f l[i] = l[i]) : Prog f l y (i + 1) := by
  have := H.step hi
  rw [hf, ← H.get hi, List.set_getElem_self] at this
  exact this
theorem Prog.all (H : Prog f l y i) (hi : l.length ≤ i) : y = l.map f := eq_of_take H.done (by simpa using hi) (by simp [H.len])
end

theorem repPr {h : Heap} {cs : List Value} {p : Pr} (H : Ty.rep h cs p) : ∃ w, cs = [.int .i64 p.locs, w] ∧ I64 p.locs := by
  obtain ⟨c1, c2, rfl, ⟨rfl, h1⟩, h2⟩ := H
  obtain ⟨w, rfl, h3⟩ := (rep1 (α := List Ed) rfl).1 h2
  exact ⟨w, rfl, h1⟩

theorem c_System_copyOf {h : Heap} {v : Value} {s : Sy} (hs : s.Ok) (R : Rep h v s) : CallE Try.prog fn_impl_System_copyOf [v] h (fun u h' => HS h [ow u s] h') := by
  obtain ⟨v1, v2, rfl, R1, R2'⟩ := Rep_Sy.1 R
  have hil := hs.vs.len
  have hp3 := hs.p3
  refine CallE.gen fun k hk => EN_impl_System_copyOf rfl ?_
  simp -implicitDefEqProofs (disch := first | omega | (simp only [List.length_set, List.length_replicate, List.length_append, List.length_map, List.length_take, List.length_cons, List.length_nil]; omega)) [wrap64, setC]
  refine (c_clone_int R1 (by omega)).go ?_
  intro c1 h1 H
  simp -implicitDefEqProofs (disch := first | omega | (simp only [List.length_set, List.length_replicate, List.length_append, List.length_map, List.length_take, List.length_cons, List.length_nil]; omega)) [wrap64, setC]
  refine (c_clone_impl_Process (R2'.on H) (by omega)).go ?_
  rintro c2 h2 ⟨M, hM, G⟩
  have hC1 := H.rep.cells
  have hC2 := H.rep.one
  have hC3 := G.rep.cells
  have hC4 := G.rep.one
  have H := G.app H
  simp -implicitDefEqProofs (disch := first | omega | (simp only [List.length_set, List.length_replicate, List.length_append, List.length_map, List.length_take, List.length_cons, List.length_nil]; omega)) [wrap64, setC, hC1, hC2, hC3, hC4, R2'.len]
  refine wp_count s.procs.length (fun i e h' => e = [none, none, some (.agg #[.slice none 0 0, .slice none 0 0]), some (.agg #[c1, c2]), none, none, none, none, some v2, some (.int .i64 s.procs.length), some (.int .i64 i), none, none, none] ∧ ∃ M, HS h [ow c2 M, ow c1 s.init] h' ∧ Mixed h1 s.procs (fun p => p) M i) ⟨by simp, M, H, Mixed.zero hM⟩ ?_
  clear H G hM
  rintro J i _ h3 hJ hi ⟨rfl, M, H, hM⟩
  simp -implicitDefEqProofs (disch := first | omega | (simp only [List.length_set, List.length_replicate, List.length_append, List.length_map, List.length_take, List.length_cons, List.length_nil]; omega)) [wrap64]
  refine IteW.mk (fun hlt => ?_) (fun hge => ?_)
  · have hlx : i < s.procs.length := by omega
    have hlM : i < M.length := by rw [hM.len]; exact hlx
    obtain ⟨u, hu, Ru⟩ := R2'.ld hlx
    have hu2 := hload_le H.base hu
    change hload _ (some (elp 2 v2 i)) (some 2) = some u at hu2
    obtain ⟨we, rfl, k1, R3⟩ := Rep_Pr.1 Ru
    have hpo := hs.at hlx
    have hel := hpo.el
    have hF1 := R3.cells
    have hF2 := R3.one
    simp -implicitDefEqProofs (disch := first | omega | (simp only [List.length_set, List.length_replicate, List.length_append, List.length_map, List.length_take, List.length_cons, List.length_nil]; omega)) [wrap64, R2'.X (n := 2) rfl, hu2, hF1, hF2, setC]
    refine (c_clone_impl_Edge (R3.on H) (by omega)).go ?_
    rintro w' h4 ⟨ME, hME, G⟩
    have hc' := G.rep.cells
    have hc2 := G.rep.one
    have H0 := G.app H
    obtain ⟨u, hu, H1⟩ := HS.take H0.sw1 hlM
    obtain ⟨c, hc, hr⟩ := hM.get hlx
    rw [hc] at H1
    obtain ⟨rfl, H2⟩ := H1.unraw
    obtain ⟨wo, rfl, _⟩ := repPr hr
    have H3 : HS h (hole c2 M i (.agg ([.int .i64 s.procs[i].locs, wo] : List Value).toArray) :: ow w' ME :: ow c1 s.init :: []) h4 := H2
    have hia := HS.holeia H3 (n := 2) (kd := .i64) rfl hlM
    have hP := hld_parts (HS.holeP H3 (n := 2) rfl rfl)
    simp -implicitDefEqProofs (disch := first | omega | (simp only [List.length_set, List.length_replicate, List.length_append, List.length_map, List.length_take, List.length_cons, List.length_nil]; omega)) [wrap64, hia, hP.1]
    refine HS.holest H3 rfl (n := 2) rfl rfl rfl (by simp [hc']) (by simp [hc', hc2]) (by decide) fun h5 H => ?_
    rw [hc'] at H
    have H : HS h (hole c2 M i (.agg ([.int .i64 s.procs[i].locs, w'] : List Value).toArray) :: ow w' ME :: ow c1 s.init :: []) h5 := H
    simp -implicitDefEqProofs (disch := first | omega | (simp only [List.length_set, List.length_replicate, List.length_append, List.length_map, List.length_take, List.length_cons, List.length_nil]; omega)) [wrap64, R3.len]
    refine wp_count s.procs[i].edges.length (fun j e h' => e = [none, none, some (.agg #[.slice none 0 0, .slice none 0 0]), some (.agg #[c1, c2]), some (.int .i64 i), none, none, none, some v2, some (.int .i64 s.procs.length), some (.int .i64 i), some we, some (.int .i64 s.procs[i].edges.length), some (.int .i64 j)] ∧ ∃ ME, HS h [hole c2 M i (.agg ([.int .i64 s.procs[i].locs, w'] : List Value).toArray), ow w' ME, ow c1 s.init] h' ∧ Mixed h3 s.procs[i].edges (fun p => p) ME j) ⟨by simp, ME, H, Mixed.zero hME⟩ ?_
    clear H H0 H1 H2 H3 G hME hia hP hu hu2
    rintro J2 j _ h6 hJ2 hj ⟨rfl, ME, H, hME⟩
    simp -implicitDefEqProofs (disch := first | omega | (simp only [List.length_set, List.length_replicate, List.length_append, List.length_map, List.length_take, List.length_cons, List.length_nil]; omega)) [wrap64]
    refine IteW.mk (fun hlt2 => ?_) (fun hge2 => ?_)
    · have hjx : j < s.procs[i].edges.length := by omega
      have hjM : j < ME.length := by rw [hME.len]; exact hjx
      obtain ⟨u, hu, Ru⟩ := R3.ld hjx
      have hu2 := hload_le H.base hu
      change hload _ (some (elp 10 we j)) (some 10) = some u at hu2
      obtain ⟨w1, w2, rfl, ok, G1, G2⟩ := Rep_Ed.1 Ru
      have heo := hpo.at hjx
      have hF3 := G1.one
      have hF4 := G2.one
      have hia := HS.holeia H (n := 2) (kd := .i64) rfl hlM
      have hP := hld_parts (HS.holeP H (n := 2) rfl rfl)
      simp -implicitDefEqProofs (disch := first | omega | (simp only [List.length_set, List.length_replicate, List.length_append, List.length_map, List.length_take, List.length_cons, List.length_nil]; omega)) [wrap64, R3.X (n := 10) rfl, hu2, Ed.cs, setC, hF3, hF4, hia, hP.1, hP.2.2.1]
      refine (c_Expr_copyOf _ ((Rep.gd (w2 := w2) ok G1).on H) (by have := heo.gd.sz; omega)).go ?_
      intro u1 h7 HU
      obtain ⟨x1, rfl, _, _, HU1⟩ := HU.unExq
      have hX1 := HU1.rep.cells
      have hX2 := HU1.rep.one
      have H0 := HU1.app H
      have hP := hld_parts (HS.holeP H0.sw1 (n := 2) rfl rfl)
      obtain ⟨u, hu, H1⟩ := HS.take H0.sw2 hjM
      obtain ⟨c, hc, hr⟩ := hME.get hjx
      rw [hc] at H1
      obtain ⟨rfl, H2⟩ := H1.unraw
      obtain ⟨wa, wb, rfl, _, _, _⟩ := repEd.1 hr
      have H3 : HS h (hole w' ME j (.agg (Ed.cs s.procs[i].edges[j] wa wb).toArray) :: ow x1 s.procs[i].edges[j].guard.kids :: hole c2 M i (.agg ([.int .i64 s.procs[i].locs, w'] : List Value).toArray) :: ow c1 s.init :: []) h7 := H2
      have hiaE := HS.holeia H3 (n := 10) (kd := .i64) rfl hjM
      have hPE := hld_parts (HS.holeP H3 (n := 10) rfl rfl)
      simp -implicitDefEqProofs (disch := first | omega | (simp only [List.length_set, List.length_replicate, List.length_append, List.length_map, List.length_take, List.length_cons, List.length_nil]; omega)) [wrap64, hP.1, hP.2.2.1, hiaE, hPE.1]
      refine HS.holest H3 rfl (n := 10) rfl rfl rfl rfl (by simp [hX2]) (by decide) fun h8 H => ?_
      have H : HS h (hole w' ME j (.agg (Ed.cs s.procs[i].edges[j] x1 wb).toArray) :: ow x1 s.procs[i].edges[j].guard.kids :: hole c2 M i (.agg ([.int .i64 s.procs[i].locs, w'] : List Value).toArray) :: ow c1 s.init :: []) h8 := H
      have hia := HS.holeia H.sw2 (n := 2) (kd := .i64) rfl hlM
      have hP := hld_parts (HS.holeP H.sw2 (n := 2) rfl rfl)
      simp -implicitDefEqProofs (disch := first | omega | (simp only [List.length_set, List.length_replicate, List.length_append, List.length_map, List.length_take, List.length_cons, List.length_nil]; omega)) [wrap64, hia, hP.1, hP.2.2.1]
      refine (c_Expr_copyOf _ ((Rep.vl ok G2).on H) (by have := heo.vsz; omega)).go ?_
      intro u2 h9 HU
      obtain ⟨x2, rfl, _, _, HU2⟩ := HU.unExq
      have hX3 := HU2.rep.cells
      have hX4 := HU2.rep.one
      have H := (HU2.app H).sw1
      have hP := hld_parts (HS.holeP H.sw3 (n := 2) rfl rfl)
      have hiaE := HS.holeia H (n := 10) (kd := .i64) rfl hjM
      have hPE := hld_parts (HS.holeP H (n := 10) rfl rfl)
      simp -implicitDefEqProofs (disch := first | omega | (simp only [List.length_set, List.length_replicate, List.length_append, List.length_map, List.length_take, List.length_cons, List.length_nil]; omega)) [wrap64, hP.1, hP.2.2.1, hiaE, hPE.1]
      refine HS.holest H rfl (n := 10) rfl rfl rfl rfl (by simp [hX4]) (by decide) fun h10 H => ?_
      have H : HS h (hole w' ME j (.agg (Ed.cs s.procs[i].edges[j] x1 x2).toArray) :: ow x2 s.procs[i].edges[j].value.kids :: ow x1 s.procs[i].edges[j].guard.kids :: hole c2 M i (.agg ([.int .i64 s.procs[i].locs, w'] : List Value).toArray) :: ow c1 s.init :: []) h10 := H
      have H := (HS.put ((HS.mkEd H.sw1.sw2 ok).newO))
      simp -implicitDefEqProofs (disch := first | omega | (simp only [List.length_set, List.length_replicate, List.length_append, List.length_map, List.length_take, List.length_cons, List.length_nil]; omega)) [wrap64]
      exact hJ2 _ _ hjx ⟨by simp, _, H.sw1, hME.step hjx⟩
    simp -implicitDefEqProofs (disch := first | omega | (simp only [List.length_set, List.length_replicate, List.length_append, List.length_map, List.length_take, List.length_cons, List.length_nil]; omega)) [wrap64]
    have he := hME.all (by omega)
    subst he
    have H := H.sw1.mixed
    rw [List.map_id'] at H
    have H := HS.put ((HS.mkPr (p := s.procs[i]) H k1).newO)
    exact hJ _ _ hlx ⟨by simp, _, H, hM.step hlx⟩
  simp -implicitDefEqProofs (disch := first | omega | (simp only [List.length_set, List.length_replicate, List.length_append, List.length_map, List.length_take, List.length_cons, List.length_nil]; omega)) [wrap64, hC2, hC4, setC]
  have he := hM.all (by omega)
  subst he
  have H := H.mixed
  rw [List.map_id'] at H
  exact RetK.keep (hk _ _ (H.sw1.mkSy))

theorem c_l2Copy {h : Heap} {v : Value} {s : Sy} (hs : s.Ok) (R : Rep h v s) : CallE Try.prog fn_spec_l2Copy [v] h (fun u h' => HS h [ow u s] h') := by
  obtain ⟨v1, v2, rfl, R1, R2'⟩ := Rep_Sy.1 R
  have hil := hs.vs.len
  have hp3 := hs.p3
  refine CallE.gen fun k hk => EN_spec_l2Copy rfl ?_
  simp -implicitDefEqProofs (disch := first | omega | (simp only [List.length_set, List.length_replicate, List.length_append, List.length_map, List.length_take, List.length_cons, List.length_nil]; omega)) [wrap64, setC]
  refine HS.appPL (α := Int) (l2 := s.init) HS.init rfl rfl R1 rfl rfl (by omega) fun c1 h1 H => ?_
  have hC1 := H.rep.cells
  have hC2 := H.rep.one
  simp -implicitDefEqProofs (disch := first | omega | (simp only [List.length_set, List.length_replicate, List.length_append, List.length_map, List.length_take, List.length_cons, List.length_nil]; omega)) [wrap64, setC, hC1, hC2]
  refine wp_count s.procs.length (fun i e h' => ∃ o, e = [none, some (.agg #[v1, v2]), some (.agg #[.slice none 0 0, .slice none 0 0]), some (.agg #[c1, o]), some (.int .i64 i), none, none, none] ∧ HS h [ow o (s.procs.take i), ow c1 s.init] h') ⟨.slice none 0 0, by simp, by simpa using H.nil_ow (α := Pr)⟩ ?_
  clear H
  rintro J i _ h3 hJ hi ⟨o, rfl, H⟩
  simp -implicitDefEqProofs (disch := first | omega | (simp only [List.length_set, List.length_replicate, List.length_append, List.length_map, List.length_take, List.length_cons, List.length_nil]; omega)) [wrap64, R2'.len]
  refine IteW.mk (fun hlt => ?_) (fun hge => ?_)
  · have hlx : i < s.procs.length := by omega
    obtain ⟨u, hu, Ru⟩ := R2'.ld hlx
    change hload _ (some (elp 2 v2 i)) (some 2) = some u at hu
    obtain ⟨we, rfl, k1, R3⟩ := Rep_Pr.1 Ru
    have hP : ∀ {h'}, h.le h' → _ := fun {h'} (hl : h.le h') => hld_parts (hload_le hl hu)
    have hpo := hs.at hlx
    have hel := hpo.el
    have hO := H.rep.one
    have hO1 := H.rep.cells
    simp -implicitDefEqProofs (disch := first | omega | (simp only [List.length_set, List.length_replicate, List.length_append, List.length_map, List.length_take, List.length_cons, List.length_nil]; omega)) [wrap64, R2'.X (n := 2) rfl, (hP H.base).1, (hP H.base).2.2.1, setC]
    refine wp_count s.procs[i].edges.length (fun j e h' => ∃ pe, e = [none, some (.agg #[v1, v2]), some (.agg #[.slice none 0 0, .slice none 0 0]), some (.agg #[c1, o]), some (.int .i64 i), some (.agg #[.int .i64 s.procs[i].locs, pe]), some (.int .i64 j), none] ∧ HS h [ow pe (s.procs[i].edges.take j), ow o (s.procs.take i), ow c1 s.init] h') ⟨.slice none 0 0, by simp, by simpa using H.nil_ow (α := Ed)⟩ ?_
    clear H
    rintro J2 j _ h6 hJ2 hj ⟨pe, rfl, H⟩
    simp -implicitDefEqProofs (disch := first | omega | (simp only [List.length_set, List.length_replicate, List.length_append, List.length_map, List.length_take, List.length_cons, List.length_nil]; omega)) [wrap64, R2'.X (n := 2) rfl, (hP H.base).1, (hP H.base).2.2.1, R3.len]
    refine IteW.mk (fun hlt2 => ?_) (fun hge2 => ?_)
    · have hjx : j < s.procs[i].edges.length := by omega
      obtain ⟨u, hu, Ru⟩ := R3.ld hjx
      have hu2 := hload_le H.base hu
      change hload _ (some (elp 10 we j)) (some 10) = some u at hu2
      obtain ⟨w1, w2, rfl, ok, G1, G2⟩ := Rep_Ed.1 Ru
      have heo := hpo.at hjx
      have hF3 := G1.one
      have hF4 := G2.one
      have hE := H.rep.one
      simp -implicitDefEqProofs (disch := first | omega | (simp only [List.length_set, List.length_replicate, List.length_append, List.length_map, List.length_take, List.length_cons, List.length_nil]; omega)) [wrap64, R2'.X (n := 2) rfl, (hP H.base).1, (hP H.base).2.2.1, R3.X (n := 10) rfl, hu2, Ed.cs, setC, hF3, hF4]
      refine (c_l1Subst 6 heo.gd.1 (by omega) ((Rep.gd (w2 := w2) ok G1).on H)).go ?_
      intro u1 h7 HU
      obtain ⟨x1, rfl, _, _, HU1⟩ := HU.unExq
      have hX1 := HU1.rep.cells
      have hX2 := HU1.rep.one
      have H := HU1.app H
      simp -implicitDefEqProofs (disch := first | omega | (simp only [List.length_set, List.length_replicate, List.length_append, List.length_map, List.length_take, List.length_cons, List.length_nil]; omega)) [wrap64, setC, hX2]
      refine (c_copyVal heo ((Rep.vl ok G2).on H)).go ?_
      intro u2 h9 HU
      obtain ⟨x2, rfl, _, _, HU2⟩ := HU.unExq
      have hX3 := HU2.rep.cells
      have hX4 := HU2.rep.one
      have H := HU2.app H
      simp -implicitDefEqProofs (disch := first | omega | (simp only [List.length_set, List.length_replicate, List.length_append, List.length_map, List.length_take, List.length_cons, List.length_nil]; omega)) [wrap64, setC, hX2, hX4]
      have H := (HS.mkEd (e := s.procs[i].edges[j]) H.sw1 ok)
      refine HS.appO H rfl rfl rfl rfl rfl (by simp; omega) (by simp; omega) fun pe' h10 H => ?_
      simp -implicitDefEqProofs (disch := first | omega | (simp only [List.length_set, List.length_replicate, List.length_append, List.length_map, List.length_take, List.length_cons, List.length_nil]; omega)) [wrap64, H.rep.cells, H.rep.one, setC]
      refine hJ2 _ _ hjx ⟨pe', by simp, ?_⟩
      rw [List.take_add_one, List.getElem?_eq_getElem hjx]
      exact H
    simp -implicitDefEqProofs (disch := first | omega | (simp only [List.length_set, List.length_replicate, List.length_append, List.length_map, List.length_take, List.length_cons, List.length_nil]; omega)) [wrap64, H.rep.one, setC]
    rw [List.take_of_length_le (by omega)] at H
    have H := HS.mkPr (p := s.procs[i]) H k1
    refine HS.appO H rfl rfl rfl rfl rfl (by simp; omega) (by simp; omega) fun o' h10 H => ?_
    simp -implicitDefEqProofs (disch := first | omega | (simp only [List.length_set, List.length_replicate, List.length_append, List.length_map, List.length_take, List.length_cons, List.length_nil]; omega)) [wrap64, H.rep.cells, H.rep.one, setC]
    refine hJ _ _ hlx ⟨o', by simp, ?_⟩
    rw [List.take_add_one, List.getElem?_eq_getElem hlx]
    exact H
  simp -implicitDefEqProofs (disch := first | omega | (simp only [List.length_set, List.length_replicate, List.length_append, List.length_map, List.length_take, List.length_cons, List.length_nil]; omega)) [wrap64, H.rep.one, hC2, setC]
  rw [List.take_of_length_le (by omega)] at H
  exact RetK.keep (hk _ _ (H.sw1.mkSy))

/- SLICES -/
def Ed.slc (M : List Bool) (e : Ed) : Ed := if 0 ≤ e.var ∧ M.getD e.var.toNat false = false then ⟨e.frm, e.to, e.guard, -1, Exq.zero, e.sync⟩ else e
def Pr.slc (M : List Bool) (p : Pr) : Pr := ⟨p.locs, p.edges.map (Ed.slc M)⟩
def Sy.slc (s : Sy) (L : List Exq) : Sy := ⟨s.init, s.procs.map (Pr.slc (s.rel L))⟩
noncomputable def slcR (s : Sy) (L : List Exq) : Sy := if s.Ok ∧ LOk L then s.slc L else ⟨[], []⟩
theorem zero_Sy {g h : Heap} {Γ : List HP} (H : HS g Γ h) : HS g (ow (.agg #[.slice none 0 0, .slice none 0 0]) (⟨[], []⟩ : Sy) :: Γ) h := HS.mkSy (s := ⟨[], []⟩) H.nil_ow.nil_ow
theorem i64_m1 : I64 (-1) := ⟨by decide, by decide⟩

theorem c_SliceSystem {h : Heap} {v w : Value} {s : Sy} {L : List Exq} (R : Rep h v s) (RL : Rep h w L) : CallE Try.prog fn_impl_SliceSystem [v, w] h (R2 (decide (s.Ok ∧ LOk L)) (slcR s L) h) := by
  have F := R.aSy
  refine CallE.gen fun k hk => EN_impl_SliceSystem rfl ?_
  simp -implicitDefEqProofs (disch := first | omega | (simp only [List.length_set, List.length_replicate, List.length_append, List.length_map, List.length_take, List.length_cons, List.length_nil]; omega)) [wrap64, F]
  refine (c_RelevantVars R RL).go ?_
  rintro _ h1 ⟨x, rfl, H⟩
  by_cases q1 : s.Ok ∧ LOk L
  case neg =>
    simp -implicitDefEqProofs (disch := first | omega | (simp only [List.length_set, List.length_replicate, List.length_append, List.length_map, List.length_take, List.length_cons, List.length_nil]; omega)) [wrap64, q1, setC]
    exact RetK.keep (hk _ _ ⟨_, by rw [decide_eq_false q1], by rw [slcR, if_neg q1]; exact zero_Sy (Γ := []) H.base⟩)
  rw [relR, if_pos q1] at H
  have hs := q1.1
  have hp3 := hs.p3
  have hrl : (s.rel L).length = 3 := Sy.rel_len
  simp -implicitDefEqProofs (disch := first | omega | (simp only [List.length_set, List.length_replicate, List.length_append, List.length_map, List.length_take, List.length_cons, List.length_nil]; omega)) [wrap64, q1, F]
  refine (c_System_copyOf hs (R.on H)).go ?_
  intro o h2 HO
  obtain ⟨c1, c2, rfl, HO2⟩ := HO.unSy
  have hC1 := HO2.rep.one
  have hC2 := HO2.sw1.rep.one
  have H := HO2.app H
  simp -implicitDefEqProofs (disch := first | omega | (simp only [List.length_set, List.length_replicate, List.length_append, List.length_map, List.length_take, List.length_cons, List.length_nil]; omega)) [wrap64, setC, hC1, hC2, H.sw1.rep.len]
  refine wp_count s.procs.length (fun i e h' => e = [none, none, none, some (.agg #[.slice none 0 0, .slice none 0 0]), none, some x, none, some (.agg #[c1, c2]), none, none, none, some c2, some (.int .i64 s.procs.length), some (.int .i64 i), none, none, none] ∧ ∃ y, HS h [ow c2 y, ow c1 s.init, ow x (s.rel L)] h' ∧ Prog (Pr.slc (s.rel L)) s.procs y i) ⟨by simp, s.procs, H.sw1, Prog.zero⟩ ?_
  clear H HO HO2
  rintro J i _ h3 hJ hi ⟨rfl, y, H, hy⟩
  simp -implicitDefEqProofs (disch := first | omega | (simp only [List.length_set, List.length_replicate, List.length_append, List.length_map, List.length_take, List.length_cons, List.length_nil]; omega)) [wrap64]
  refine IteW.mk (fun hlt => ?_) (fun hge => ?_)
  · have hlx : i < s.procs.length := by omega
    have hly : i < y.length := by rw [hy.len]; exact hlx
    have hpo := hs.at hlx
    have hel := hpo.el
    obtain ⟨u, hu, H1⟩ := HS.take H hly
    rw [hy.get hlx] at H1
    obtain ⟨we, rfl, k1, H2⟩ := H1.unPr
    change hload _ (some (elp 2 c2 i)) (some 2) = some _ at hu
    have hE1 := H2.rep.one
    have hia := HS.holeia H2.sw1 (n := 2) (kd := .i64) rfl hly
    simp -implicitDefEqProofs (disch := first | omega | (simp only [List.length_set, List.length_replicate, List.length_append, List.length_map, List.length_take, List.length_cons, List.length_nil]; omega)) [wrap64, hia, hu, setC, hE1, H2.rep.len]
    refine wp_count s.procs[i].edges.length (fun j e h' => e = [none, none, none, some (.agg #[.slice none 0 0, .slice none 0 0]), none, some x, none, some (.agg #[c1, c2]), some (.agg #[.int .i64 s.procs[i].locs, we]), none, none, some c2, some (.int .i64 s.procs.length), some (.int .i64 i), some we, some (.int .i64 s.procs[i].edges.length), some (.int .i64 j)] ∧ ∃ z, HS h [ow we z, hole c2 y i (.agg #[.int .i64 s.procs[i].locs, we]), ow c1 s.init, ow x (s.rel L)] h' ∧ Prog (Ed.slc (s.rel L)) s.procs[i].edges z j) ⟨by simp, _, H2, Prog.zero⟩ ?_
    clear H H1 H2 hia hu
    rintro J2 j _ h6 hJ2 hj ⟨rfl, z, H, hz⟩
    simp -implicitDefEqProofs (disch := first | omega | (simp only [List.length_set, List.length_replicate, List.length_append, List.length_map, List.length_take, List.length_cons, List.length_nil]; omega)) [wrap64]
    refine IteW.mk (fun hlt2 => ?_) (fun hge2 => ?_)
    · have hjx : j < s.procs[i].edges.length := by omega
      have hjz : j < z.length := by rw [hz.len]; exact hjx
      have heo := hpo.at hjx
      obtain ⟨u, hu, H1⟩ := HS.take H hjz
      rw [hz.get hjx] at H1
      obtain ⟨w1, w2, rfl, ok, H2⟩ := H1.unEd
      change hload _ (some (elp 10 we j)) (some 10) = some _ at hu
      have hX1 := H2.rep.one
      have hX2 := H2.sw1.rep.one
      have hia := HS.holeia H2.sw2 (n := 10) (kd := .i64) rfl hjz
      have HX := H.sw3.rep
      have hskip : Ed.slc (s.rel L) s.procs[i].edges[j] = s.procs[i].edges[j] → J2 [none, none, none, some (.agg #[.slice none 0 0, .slice none 0 0]), none, some x, none, some (.agg #[c1, c2]), some (.agg #[.int .i64 s.procs[i].locs, we]), none, none, some c2, some (.int .i64 s.procs.length), some (.int .i64 i), some we, some (.int .i64 s.procs[i].edges.length), some (.int .i64 ((j + 1 : Nat) : Int))] h6 :=
        fun hf => hJ2 _ _ hjx ⟨by simp, z, H, hz.skip hjx hf⟩
      by_cases e1 : 0 ≤ s.procs[i].edges[j].var
      case neg =>
        simp -implicitDefEqProofs (disch := first | omega | (simp only [List.length_set, List.length_replicate, List.length_append, List.length_map, List.length_take, List.length_cons, List.length_nil]; omega)) [wrap64, hia, hu, Ed.cs, setC, hX1, hX2, e1]
        exact hskip (by rw [Ed.slc, if_neg (fun hh => e1 hh.1)])
      have hv1 := heo.v1
      obtain ⟨q, hq⟩ : ∃ q : Nat, s.procs[i].edges[j].var = q := ⟨_, (Int.toNat_of_nonneg e1).symm⟩
      have hgd : (s.rel L).getD s.procs[i].edges[j].var.toNat false = (s.rel L)[q]'(by omega) := by
        rw [hq, Int.toNat_natCast, List.getD_eq_getElem?_getD, List.getElem?_eq_getElem (by omega)]; rfl
      by_cases e2 : (s.rel L)[q]'(by omega) = true
      · simp -implicitDefEqProofs (disch := first | omega | (simp only [List.length_set, List.length_replicate, List.length_append, List.length_map, List.length_take, List.length_cons, List.length_nil]; omega)) [wrap64, hia, hu, Ed.cs, setC, hX1, hX2, hq, HX.B, e2]
        exact hskip (by rw [Ed.slc, if_neg (fun hh => by rw [hgd, e2] at hh; simp at hh)])
      have hP := hld_parts (HS.holeP H2.sw2 (n := 10) rfl rfl)
      simp -implicitDefEqProofs (disch := first | omega | (simp only [List.length_set, List.length_replicate, List.length_append, List.length_map, List.length_take, List.length_cons, List.length_nil]; omega)) [wrap64, hia, hu, Ed.cs, setC, hX1, hX2, hq, HX.B, e2, hP.1]
      refine HS.holest H2.sw2 rfl (n := 10) rfl rfl rfl rfl rfl (by decide) fun h7 H => ?_
      have hP := hld_parts (HS.holeP H (n := 10) rfl rfl)
      simp -implicitDefEqProofs (disch := first | omega | (simp only [List.length_set, List.length_replicate, List.length_append, List.length_map, List.length_take, List.length_cons, List.length_nil]; omega)) [wrap64, hia, hP.1]
      refine HS.holest H rfl (n := 10) rfl rfl rfl rfl rfl (by decide) fun h8 H => ?_
      have H : HS h (hole we z j (.agg (Ed.cs ⟨s.procs[i].edges[j].frm, s.procs[i].edges[j].to, s.procs[i].edges[j].guard, -1, Exq.zero, s.procs[i].edges[j].sync⟩ w1 (.slice none 0 0)).toArray) :: ow w1 s.procs[i].edges[j].guard.kids :: ow w2 s.procs[i].edges[j].value.kids :: hole c2 y i (.agg #[.int .i64 s.procs[i].locs, we]) :: ow c1 s.init :: ow x (s.rel L) :: []) h8 := H
      have H := (H.sw2.drop).nil_ow (α := Exq)
      have H := HS.put (HS.mkEd (e := ⟨s.procs[i].edges[j].frm, s.procs[i].edges[j].to, s.procs[i].edges[j].guard, -1, Exq.zero, s.procs[i].edges[j].sync⟩) (w1 := w1) (w2 := .slice none 0 0) H.sw2 ⟨ok.frm, ok.to, ok.gk, ok.gv, i64_m1, i64_0, i64_0, ok.sync⟩)
      simp -implicitDefEqProofs (disch := first | omega | (simp only [List.length_set, List.length_replicate, List.length_append, List.length_map, List.length_take, List.length_cons, List.length_nil]; omega)) [wrap64]
      refine hJ2 _ _ hjx ⟨by simp, _, H, ?_⟩
      have hst := hz.step hjx
      rw [Ed.slc, if_pos ⟨e1, by rw [hgd]; simpa using e2⟩] at hst
      exact hst
    simp -implicitDefEqProofs (disch := first | omega | (simp only [List.length_set, List.length_replicate, List.length_append, List.length_map, List.length_take, List.length_cons, List.length_nil]; omega)) [wrap64]
    have he := hz.all (by omega)
    subst he
    have H := HS.put (HS.mkPr (p := Pr.slc (s.rel L) s.procs[i]) H k1)
    exact hJ _ _ hlx ⟨by simp, _, H, hy.step hlx⟩
  simp -implicitDefEqProofs (disch := first | omega | (simp only [List.length_set, List.length_replicate, List.length_append, List.length_map, List.length_take, List.length_cons, List.length_nil]; omega)) [wrap64, hC1, hC2, setC]
  have he := hy.all (by omega)
  subst he
  exact RetK.keep (hk _ _ ⟨_, by rw [decide_eq_true q1], by rw [slcR, if_pos q1]; exact (HS.mkSy (s := s.slc L) H.sw1).only⟩)

theorem c_spec_SliceSystem {h : Heap} {v w : Value} {s : Sy} {L : List Exq} (R : Rep h v s) (RL : Rep h w L) : CallE Try.prog fn_spec_SliceSystem [v, w] h (R2 (decide (s.Ok ∧ LOk L)) (slcR s L) h) := by
  have F := R.aSy
  refine CallE.gen fun k hk => EN_spec_SliceSystem rfl ?_
  simp -implicitDefEqProofs (disch := first | omega | (simp only [List.length_set, List.length_replicate, List.length_append, List.length_map, List.length_take, List.length_cons, List.length_nil]; omega)) [wrap64, F]
  refine (c_spec_RelevantVars R RL).go ?_
  rintro _ h1 ⟨x, rfl, H⟩
  by_cases q1 : s.Ok ∧ LOk L
  case neg =>
    simp -implicitDefEqProofs (disch := first | omega | (simp only [List.length_set, List.length_replicate, List.length_append, List.length_map, List.length_take, List.length_cons, List.length_nil]; omega)) [wrap64, q1, setC]
    exact RetK.keep (hk _ _ ⟨_, by rw [decide_eq_false q1], by rw [slcR, if_neg q1]; exact zero_Sy (Γ := []) H.base⟩)
  rw [relR, if_pos q1] at H
  have hs := q1.1
  have hp3 := hs.p3
  have hrl : (s.rel L).length = 3 := Sy.rel_len
  simp -implicitDefEqProofs (disch := first | omega | (simp only [List.length_set, List.length_replicate, List.length_append, List.length_map, List.length_take, List.length_cons, List.length_nil]; omega)) [wrap64, q1, F]
  refine (c_l2Copy hs (R.on H)).go ?_
  intro o h2 HO
  obtain ⟨c1, c2, rfl, HO2⟩ := HO.unSy
  have hC1 := HO2.rep.one
  have hC2 := HO2.sw1.rep.one
  have H := HO2.app H
  simp -implicitDefEqProofs (disch := first | omega | (simp only [List.length_set, List.length_replicate, List.length_append, List.length_map, List.length_take, List.length_cons, List.length_nil]; omega)) [wrap64, setC, hC1, hC2]
  refine wp_count s.procs.length (fun i e h' => e = [none, none, none, some (.agg #[.slice none 0 0, .slice none 0 0]), none, some x, none, some (.agg #[c1, c2]), some (.int .i64 i), none, none] ∧ ∃ y, HS h [ow c2 y, ow c1 s.init, ow x (s.rel L)] h' ∧ Prog (Pr.slc (s.rel L)) s.procs y i) ⟨by simp, s.procs, H.sw1, Prog.zero⟩ ?_
  clear H HO HO2
  rintro J i _ h3 hJ hi ⟨rfl, y, H, hy⟩
  have hyl := hy.len
  simp -implicitDefEqProofs (disch := first | omega | (simp only [List.length_set, List.length_replicate, List.length_append, List.length_map, List.length_take, List.length_cons, List.length_nil]; omega)) [wrap64, H.rep.len]
  refine IteW.mk (fun hlt => ?_) (fun hge => ?_)
  · have hlx : i < s.procs.length := by omega
    have hly : i < y.length := by rw [hy.len]; exact hlx
    have hpo := hs.at hlx
    have hel := hpo.el
    obtain ⟨u, hu, H1⟩ := HS.take H hly
    rw [hy.get hlx] at H1
    obtain ⟨we, rfl, k1, H2⟩ := H1.unPr
    simp -implicitDefEqProofs (disch := first | omega | (simp only [List.length_set, List.length_replicate, List.length_append, List.length_map, List.length_take, List.length_cons, List.length_nil]; omega)) [wrap64]
    refine wp_count s.procs[i].edges.length (fun j e h' => e = [none, none, none, some (.agg #[.slice none 0 0, .slice none 0 0]), none, some x, none, some (.agg #[c1, c2]), some (.int .i64 i), some (.int .i64 j), none] ∧ ∃ z, HS h [ow we z, hole c2 y i (.agg #[.int .i64 s.procs[i].locs, we]), ow c1 s.init, ow x (s.rel L)] h' ∧ Prog (Ed.slc (s.rel L)) s.procs[i].edges z j) ⟨by simp, _, H2, Prog.zero⟩ ?_
    clear H H1 H2 hu
    rintro J2 j _ h6 hJ2 hj ⟨rfl, z, H, hz⟩
    have hzl := hz.len
    have hiaP := HS.holeia H.sw1 (n := 2) (kd := .i64) rfl hly
    have hPP := hld_parts (HS.holeP H.sw1 (n := 2) rfl rfl)
    simp -implicitDefEqProofs (disch := first | omega | (simp only [List.length_set, List.length_replicate, List.length_append, List.length_map, List.length_take, List.length_cons, List.length_nil]; omega)) [wrap64, hiaP, hPP.1, hPP.2.2.1, H.rep.len]
    refine IteW.mk (fun hlt2 => ?_) (fun hge2 => ?_)
    · have hjx : j < s.procs[i].edges.length := by omega
      have hjz : j < z.length := by rw [hz.len]; exact hjx
      have heo := hpo.at hjx
      obtain ⟨u, hu, H1⟩ := HS.take H hjz
      rw [hz.get hjx] at H1
      obtain ⟨w1, w2, rfl, ok, H2⟩ := H1.unEd
      change hload _ (some (elp 10 we j)) (some 10) = some _ at hu
      have hX1 := H2.rep.one
      have hX2 := H2.sw1.rep.one
      have hia := HS.holeia H2.sw2 (n := 10) (kd := .i64) rfl hjz
      have HX := H.sw3.rep
      have hskip : Ed.slc (s.rel L) s.procs[i].edges[j] = s.procs[i].edges[j] → J2 [none, none, none, some (.agg #[.slice none 0 0, .slice none 0 0]), none, some x, none, some (.agg #[c1, c2]), some (.int .i64 i), some (.int .i64 ((j + 1 : Nat) : Int)), none] h6 :=
        fun hf => hJ2 _ _ hjx ⟨by simp, z, H, hz.skip hjx hf⟩
      by_cases e1 : 0 ≤ s.procs[i].edges[j].var
      case neg =>
        simp -implicitDefEqProofs (disch := first | omega | (simp only [List.length_set, List.length_replicate, List.length_append, List.length_map, List.length_take, List.length_cons, List.length_nil]; omega)) [wrap64, hiaP, hPP.1, hPP.2.2.1, hia, hu, Ed.cs, setC, hX1, hX2, e1]
        exact hskip (by rw [Ed.slc, if_neg (fun hh => e1 hh.1)])
      have hv1 := heo.v1
      obtain ⟨q, hq⟩ : ∃ q : Nat, s.procs[i].edges[j].var = q := ⟨_, (Int.toNat_of_nonneg e1).symm⟩
      have hgd : (s.rel L).getD s.procs[i].edges[j].var.toNat false = (s.rel L)[q]'(by omega) := by
        rw [hq, Int.toNat_natCast, List.getD_eq_getElem?_getD, List.getElem?_eq_getElem (by omega)]; rfl
      by_cases e2 : (s.rel L)[q]'(by omega) = true
      · simp -implicitDefEqProofs (disch := first | omega | (simp only [List.length_set, List.length_replicate, List.length_append, List.length_map, List.length_take, List.length_cons, List.length_nil]; omega)) [wrap64, hiaP, hPP.1, hPP.2.2.1, hia, hu, Ed.cs, setC, hX1, hX2, hq, HX.B, e2]
        exact hskip (by rw [Ed.slc, if_neg (fun hh => by rw [hgd, e2] at hh; simp at hh)])
      simp -implicitDefEqProofs (disch := first | omega | (simp only [List.length_set, List.length_replicate, List.length_append, List.length_map, List.length_take, List.length_cons, List.length_nil]; omega)) [wrap64, hiaP, hPP.1, hPP.2.2.1, hia, hu, Ed.cs, setC, hX1, hX2, hq, HX.B, e2]
      have H := (H2.sw1.drop).nil_ow (α := Exq)
      have H := HS.mkEd (e := ⟨s.procs[i].edges[j].frm, s.procs[i].edges[j].to, s.procs[i].edges[j].guard, -1, Exq.zero, s.procs[i].edges[j].sync⟩) (w1 := w1) (w2 := .slice none 0 0) H.sw1 ⟨ok.frm, ok.to, ok.gk, ok.gv, i64_m1, i64_0, i64_0, ok.sync⟩
      refine HS.storeH H rfl rfl rfl fun h7 H => ?_
      simp -implicitDefEqProofs (disch := first | omega | (simp only [List.length_set, List.length_replicate, List.length_append, List.length_map, List.length_take, List.length_cons, List.length_nil]; omega)) [wrap64]
      refine hJ2 _ _ hjx ⟨by simp, _, H, ?_⟩
      have hst := hz.step hjx
      rw [Ed.slc, if_pos ⟨e1, by rw [hgd]; simpa using e2⟩] at hst
      exact hst
    simp -implicitDefEqProofs (disch := first | omega | (simp only [List.length_set, List.length_replicate, List.length_append, List.length_map, List.length_take, List.length_cons, List.length_nil]; omega)) [wrap64]
    have he := hz.all (by omega)
    subst he
    have H := HS.put (HS.mkPr (p := Pr.slc (s.rel L) s.procs[i]) H k1)
    exact hJ _ _ hlx ⟨by simp, _, H, hy.step hlx⟩
  simp -implicitDefEqProofs (disch := first | omega | (simp only [List.length_set, List.length_replicate, List.length_append, List.length_map, List.length_take, List.length_cons, List.length_nil]; omega)) [wrap64, hC1, hC2, setC]
  have he := hy.all (by omega)
  subst he
  exact RetK.keep (hk _ _ ⟨_, by rw [decide_eq_true q1], by rw [slcR, if_pos q1]; exact (HS.mkSy (s := s.slc L) H.sw1).only⟩)

theorem cnt_map_le {α : Type} [Mk α] {f : α → α} {l : List α} (h : ∀ x ∈ l, Mk.cnt (f x) ≤ Mk.cnt x) : Mk.cnt (l.map f) ≤ Mk.cnt l := by
  induction l with
  | nil => exact Nat.le_refl _
  | cons x l ih =>
    rw [List.map_cons, cnt_cons, cnt_cons]
    have h1 := h x (by simp)
    have h2 := ih fun y hy => h y (by simp [hy])
    omega
theorem cnt_mul_le {α : Type} [Mk α] {c : Nat} {l : List α} (h : ∀ x ∈ l, Mk.cnt x ≤ c) : Mk.cnt l ≤ l.length * c := by
  induction l with
  | nil => exact Nat.zero_le _
  | cons x l ih =>
    rw [cnt_cons, List.length_cons, Nat.add_mul]
    have h1 := h x (by simp)
    have h2 := ih fun y hy => h y (by simp [hy])
    omega
theorem bnd_SliceSystem {a0 : Sy} {a1 : List Exq} : Mk.cnt (slcR a0 a1) ≤ 4194304 := by
  rw [slcR]
  split
  · rename_i h
    have hs := h.1
    have h1 : Mk.cnt a0.procs ≤ a0.procs.length * 1000 := cnt_mul_le fun p hp => by
      have hpo := hs.pr p hp
      have h2 : Mk.cnt p.edges ≤ p.edges.length * 100 := cnt_mul_le fun e he => by
        have heo := hpo.ed e he
        have g1 := heo.gd.sz
        have g2 := heo.vsz
        rw [sz_Exq] at g1 g2
        have g3 := cnt_ExprS' e.guard.kids
        have g4 := cnt_ExprS' e.value.kids
        rw [cnt_Ed]; omega
      have h3 := hpo.el
      have h4 : p.edges.length * 100 ≤ 6 * 100 := Nat.mul_le_mul_right _ h3
      rw [cnt_Pr]; omega
    have h2 : Mk.cnt (a0.procs.map (Pr.slc (a0.rel a1))) ≤ Mk.cnt a0.procs := cnt_map_le fun p _ => by
      rw [cnt_Pr, cnt_Pr]
      have : Mk.cnt (p.edges.map (Ed.slc (a0.rel a1))) ≤ Mk.cnt p.edges := cnt_map_le fun e _ => by
        unfold Ed.slc
        split
        · rw [cnt_Ed, cnt_Ed]
          have : Mk.cnt Exq.zero.kids = 0 := rfl
          simp only [this]
          omega
        · exact Nat.le_refl _
      show 1 + Mk.cnt (p.edges.map (Ed.slc (a0.rel a1))) ≤ _
      omega
    have h3 := hs.p3
    have h4 : a0.procs.length * 1000 ≤ 3 * 1000 := Nat.mul_le_mul_right _ h3
    have h5 := hs.vs.len
    rw [cnt_Sy]
    show Mk.cnt a0.init + Mk.cnt (a0.procs.map (Pr.slc (a0.rel a1))) ≤ _
    rw [cnt_ints]
    omega
  · decide
end Go.Proofs.Ythgimpheeemooaa
