/-
  Texts of this proof, one behind the other.
-/
import Derived.Test.YthgimpheeemooaaM6
/-
  Systems are copied, and sliced: by the program and by the reference.
-/
namespace Go.Proofs.Ythgimpheeemooaa
open Go
set_option linter.all false
set_option linter.unusedVariables false
set_option linter.unusedSimpArgs false
set_option linter.defProp false
set_option maxRecDepth 1000000

/-- how far the elements have been replaced -/
structure Prog {α : Type} (f : α → α) (l y : List α) (i : Nat) : Prop where
  len : y.length = l.length
  done : y.take i = (l.map f).take i
  rest : ∀ (j : Nat) (hj : j < l.length) (hj' : j < y.length), i ≤ j → y[j] = l[j]
section
variable {α : Type} {f : α → α} {l y : List α} {i : Nat}
theorem Prog.zero : Prog f l l 0 := ⟨rfl, rfl, fun _ _ _ _ => rfl⟩
theorem Prog.get (H : Prog f l y i) (hi : i < l.length) : y[i]'(by rw [H.len]; exact hi) = l[i] := H.rest i hi _ (Nat.le_refl i)
theorem Prog.step (H : Prog f l y i) (hi : i < l.length) : Prog f l (y.set i (f l[i])) (i + 1) := by
  refine ⟨by simp [H.len], ?_, fun j hj hj' hij => ?_⟩
  · have := take_set_succ (x := l.map f) H.done (by simpa using hi) (by simp [H.len])
    rwa [List.getElem_map] at this
  · simp only [List.getElem_set]
    rw [if_neg (by omega)]
    exact H.rest j hj (by simpa using hj') (by omega)
theorem Prog.skip (H : Prog f l y i) (hi : i < l.length) (hf : f l[i] = l[i]) : Prog f l y (i + 1) := by
  have := H.step hi
  rw [hf, ← H.get hi, List.set_getElem_self] at this
  exact this
theorem Prog.all (H : Prog f l y i) (hi : l.length ≤ i) : y = l.map f := eq_of_take H.done (by simpa using hi) (by simp [H.len])
end

theorem repPr {h : Heap} {cs : List Value} {p : Pr} (H : Ty.rep h cs p) : ∃ w, cs = [.int .i64 p.locs, w] ∧ I64 p.locs := by
  obtain ⟨c1, c2, rfl, ⟨rfl, h1⟩, h2⟩ := H
  obtain ⟨w, rfl, h3⟩ := (rep1 (α := List Ed) rfl).1 h2
  exact ⟨w, rfl, h1⟩

theorem c_System_copyOf {h : Heap} {v : Value} {s : Sy} (hs : s.Ok) (R : Rep h v s) : CallE Try.prog fn_impl_System_copyOf [v] h (fun u h' => HS h [ow u s] h') := by
  obtain ⟨v1, v2, rfl, R1, R2'⟩ := Rep_Sy.1 R
  have hil := hs.vs.len
  have hp3 := hs.p3
  refine CallE.gen fun k hk => EN_impl_System_copyOf rfl ?_
  simp -implicitDefEqProofs (disch := first | omega | (simp only [List.length_set, List.length_replicate, List.length_append, List.length_map, List.length_take, List.length_cons, List.length_nil]; omega)) [wrap64, setC]
  refine (c_clone_int R1 (by omega)).go ?_
  intro c1 h1 H
  simp -implicitDefEqProofs (disch := first | omega | (simp only [List.length_set, List.length_replicate, List.length_append, List.length_map, List.length_take, List.length_cons, List.length_nil]; omega)) [wrap64, setC]
  refine (c_clone_impl_Process (R2'.on H) (by omega)).go ?_
  rintro c2 h2 ⟨M, hM, G⟩
  have hC1 := H.rep.cells
  have hC2 := H.rep.one
  have hC3 := G.rep.cells
  have hC4 := G.rep.one
  have H := G.app H
  simp -implicitDefEqProofs (disch := first | omega | (simp only [List.length_set, List.length_replicate, List.length_append, List.length_map, List.length_take, List.length_cons, List.length_nil]; omega)) [wrap64, setC, hC1, hC2, hC3, hC4, R2'.len]
  refine wp_count s.procs.length (fun i e h' => e = [none, none, some (.agg #[.slice none 0 0, .slice none 0 0]), some (.agg #[c1, c2]), none, none, none, none, some v2, some (.int .i64 s.procs.length), some (.int .i64 i), none, none, none] ∧ ∃ M, HS h [ow c2 M, ow c1 s.init] h' ∧ Mixed h1 s.procs (fun p => p) M i) ⟨by simp, M, H, Mixed.zero hM⟩ ?_
  clear H G hM
  rintro J i _ h3 hJ hi ⟨rfl, M, H, hM⟩
  simp -implicitDefEqProofs (disch := first | omega | (simp only [List.length_set, List.length_replicate, List.length_append, List.length_map, List.length_take, List.length_cons, List.length_nil]; omega)) [wrap64]
  refine IteW.mk (fun hlt => ?_) (fun hge => ?_)
  · have hlx : i < s.procs.length := by omega
    have hlM : i < M.length := by rw [hM.len]; exact hlx
    obtain ⟨u, hu, Ru⟩ := R2'.ld hlx
    have hu2 := hload_le H.base hu
    change hload _ (some (elp 2 v2 i)) (some 2) = some u at hu2
    obtain ⟨we, rfl, k1, R3⟩ := Rep_Pr.1 Ru
    have hpo := hs.at hlx
    have hel := hpo.el
    have hF1 := R3.cells
    have hF2 := R3.one
    simp -implicitDefEqProofs (disch := first | omega | (simp only [List.length_set, List.length_replicate, List.length_append, List.length_map, List.length_take, List.length_cons, List.length_nil]; omega)) [wrap64, R2'.X (n := 2) rfl, hu2, hF1, hF2, setC]
    refine (c_clone_impl_Edge (R3.on H) (by omega)).go ?_
    rintro w' h4 ⟨ME, hME, G⟩
    have hc' := G.rep.cells
    have hc2 := G.rep.one
    have H0 := G.app H
    obtain ⟨u, hu, H1⟩ := HS.take H0.sw1 hlM
    obtain ⟨c, hc, hr⟩ := hM.get hlx
    rw [hc] at H1
    obtain ⟨rfl, H2⟩ := H1.unraw
    obtain ⟨wo, rfl, _⟩ := repPr hr
    have H3 : HS h (hole c2 M i (.agg ([.int .i64 s.procs[i].locs, wo] : List Value).toArray) :: ow w' ME :: ow c1 s.init :: []) h4 := H2
    have hia := HS.holeia H3 (n := 2) (kd := .i64) rfl hlM
    have hP := hld_parts (HS.holeP H3 (n := 2) rfl rfl)
    simp -implicitDefEqProofs (disch := first | omega | (simp only [List.length_set, List.length_replicate, List.length_append, List.length_map, List.length_take, List.length_cons, List.length_nil]; omega)) [wrap64, hia, hP.1]
    refine HS.holest H3 rfl (n := 2) rfl rfl rfl (by simp [hc']) (by simp [hc', hc2]) (by decide) fun h5 H => ?_
    rw [hc'] at H
    have H : HS h (hole c2 M i (.agg ([.int .i64 s.procs[i].locs, w'] : List Value).toArray) :: ow w' ME :: ow c1 s.init :: []) h5 := H
    simp -implicitDefEqProofs (disch := first | omega | (simp only [List.length_set, List.length_replicate, List.length_append, List.length_map, List.length_take, List.length_cons, List.length_nil]; omega)) [wrap64, R3.len]
    refine wp_count s.procs[i].edges.length (fun j e h' => e = [none, none, some (.agg #[.slice none 0 0, .slice none 0 0]), some (.agg #[c1, c2]), some (.int .i64 i), none, none, none, some v2, some (.int .i64 s.procs.length), some (.int .i64 i), some we, some (.int .i64 s.procs[i].edges.length), some (.int .i64 j)] ∧ ∃ ME, HS h [hole c2 M i (.agg ([.int .i64 s.procs[i].locs, w'] : List Value).toArray), ow w' ME, ow c1 s.init] h' ∧ Mixed h3 s.procs[i].edges (fun p => p) ME j) ⟨by simp, ME, H, Mixed.zero hME⟩ ?_
    clear H H0 H1 H2 H3 G hME hia hP hu hu2
    rintro J2 j _ h6 hJ2 hj ⟨rfl, ME, H, hME⟩
    simp -implicitDefEqProofs (disch := first | omega | (simp only [List.length_set, List.length_replicate, List.length_append, List.length_map, List.length_take, List.length_cons, List.length_nil]; omega)) [wrap64]
    refine IteW.mk (fun hlt2 => ?_) (fun hge2 => ?_)
    · have hjx : j < s.procs[i].edges.length := by omega
      have hjM : j < ME.length := by rw [hME.len]; exact hjx
      obtain ⟨u, hu, Ru⟩ := R3.ld hjx
      have hu2 := hload_le H.base hu
      change hload _ (some (elp 10 we j)) (some 10) = some u at hu2
      obtain ⟨w1, w2, rfl, ok, G1, G2⟩ := Rep_Ed.1 Ru
      have heo := hpo.at hjx
      have hF3 := G1.one
      have hF4 := G2.one
      have hia := HS.holeia H (n := 2) (kd := .i64) rfl hlM
      have hP := hld_parts (HS.holeP H (n := 2) rfl rfl)
      simp -implicitDefEqProofs (disch := first | omega | (simp only [List.length_set, List.length_replicate, List.length_append, List.length_map, List.length_take, List.length_cons, List.length_nil]; omega)) [wrap64, R3.X (n := 10) rfl, hu2, Ed.cs, setC, hF3, hF4, hia, hP.1, hP.2.2.1]
      refine (c_Expr_copyOf _ ((Rep.gd (w2 := w2) ok G1).on H) (by have := heo.gd.sz; omega)).go ?_
      intro u1 h7 HU
      obtain ⟨x1, rfl, _, _, HU1⟩ := HU.unExq
      have hX1 := HU1.rep.cells
      have hX2 := HU1.rep.one
      have H0 := HU1.app H
      have hP := hld_parts (HS.holeP H0.sw1 (n := 2) rfl rfl)
      obtain ⟨u, hu, H1⟩ := HS.take H0.sw2 hjM
      obtain ⟨c, hc, hr⟩ := hME.get hjx
      rw [hc] at H1
      obtain ⟨rfl, H2⟩ := H1.unraw
      obtain ⟨wa, wb, rfl, _, _, _⟩ := repEd.1 hr
      have H3 : HS h (hole w' ME j (.agg (Ed.cs s.procs[i].edges[j] wa wb).toArray) :: ow x1 s.procs[i].edges[j].guard.kids :: hole c2 M i (.agg ([.int .i64 s.procs[i].locs, w'] : List Value).toArray) :: ow c1 s.init :: []) h7 := H2
      have hiaE := HS.holeia H3 (n := 10) (kd := .i64) rfl hjM
      have hPE := hld_parts (HS.holeP H3 (n := 10) rfl rfl)
      simp -implicitDefEqProofs (disch := first | omega | (simp only [List.length_set, List.length_replicate, List.length_append, List.length_map, List.length_take, List.length_cons, List.length_nil]; omega)) [wrap64, hP.1, hP.2.2.1, hiaE, hPE.1]
      refine HS.holest H3 rfl (n := 10) rfl rfl rfl rfl (by simp [hX2]) (by decide) fun h8 H => ?_
      have H : HS h (hole w' ME j (.agg (Ed.cs s.procs[i].edges[j] x1 wb).toArray) :: ow x1 s.procs[i].edges[j].guard.kids :: hole c2 M i (.agg ([.int .i64 s.procs[i].locs, w'] : List Value).toArray) :: ow c1 s.init :: []) h8 := H
      have hia := HS.holeia H.sw2 (n := 2) (kd := .i64) rfl hlM
      have hP := hld_parts (HS.holeP H.sw2 (n := 2) rfl rfl)
      simp -implicitDefEqProofs (disch := first | omega | (simp only [List.length_set, List.length_replicate, List.length_append, List.length_map, List.length_take, List.length_cons, List.length_nil]; omega)) [wrap64, hia, hP.1, hP.2.2.1]
      refine (c_Expr_copyOf _ ((Rep.vl ok G2).on H) (by have := heo.vsz; omega)).go ?_
      intro u2 h9 HU
      obtain ⟨x2, rfl, _, _, HU2⟩ := HU.unExq
      have hX3 := HU2.rep.cells
      have hX4 := HU2.rep.one
      have H := (HU2.app H).sw1
      have hP := hld_parts (HS.holeP H.sw3 (n := 2) rfl rfl)
      have hiaE := HS.holeia H (n := 10) (kd := .i64) rfl hjM
      have hPE := hld_parts (HS.holeP H (n := 10) rfl rfl)
      simp -implicitDefEqProofs (disch := first | omega | (simp only [List.length_set, List.length_replicate, List.length_append, List.length_map, List.length_take, List.length_cons, List.length_nil]; omega)) [wrap64, hP.1, hP.2.2.1, hiaE, hPE.1]
      refine HS.holest H rfl (n := 10) rfl rfl rfl rfl (by simp [hX4]) (by decide) fun h10 H => ?_
      have H : HS h (hole w' ME j (.agg (Ed.cs s.procs[i].edges[j] x1 x2).toArray) :: ow x2 s.procs[i].edges[j].value.kids :: ow x1 s.procs[i].edges[j].guard.kids :: hole c2 M i (.agg ([.int .i64 s.procs[i].locs, w'] : List Value).toArray) :: ow c1 s.init :: []) h10 := H
      have H := (HS.put ((HS.mkEd H.sw1.sw2 ok).newO))
      simp -implicitDefEqProofs (disch := first | omega | (simp only [List.length_set, List.length_replicate, List.length_append, List.length_map, List.length_take, List.length_cons, List.length_nil]; omega)) [wrap64]
      exact hJ2 _ _ hjx ⟨by simp, _, H.sw1, hME.step hjx⟩
    simp -implicitDefEqProofs (disch := first | omega | (simp only [List.length_set, List.length_replicate, List.length_append, List.length_map, List.length_take, List.length_cons, List.length_nil]; omega)) [wrap64]
    have he := hME.all (by omega)
    subst he
    have H := H.sw1.mixed
    rw [List.map_id'] at H
    have H := HS.put ((HS.mkPr (p := s.procs[i]) H k1).newO)
    exact hJ _ _ hlx ⟨by simp, _, H, hM.step hlx⟩
  simp -implicitDefEqProofs (disch := first | omega | (simp only [List.length_set, List.length_replicate, List.length_append, List.length_map, List.length_take, List.length_cons, List.length_nil]; omega)) [wrap64, hC2, hC4, setC]
  have he := hM.all (by omega)
  subst he
  have H := H.mixed
  rw [List.map_id'] at H
  exact RetK.keep (hk _ _ (H.sw1.mkSy))

theorem c_l2Copy {h : Heap} {v : Value} {s : Sy} (hs : s.Ok) (R : Rep h v s) : CallE Try.prog fn_spec_l2Copy [v] h (fun u h' => HS h [ow u s] h') := by
  obtain ⟨v1, v2, rfl, R1, R2'⟩ := Rep_Sy.1 R
  have hil := hs.vs.len
  have hp3 := hs.p3
  refine CallE.gen fun k hk => EN_spec_l2Copy rfl ?_
  simp -implicitDefEqProofs (disch := first | omega | (simp only [List.length_set, List.length_replicate, List.length_append, List.length_map, List.length_take, List.length_cons, List.length_nil]; omega)) [wrap64, setC]
  refine HS.appPL (α := Int) (l2 := s.init) HS.init rfl rfl R1 rfl rfl (by omega) fun c1 h1 H => ?_
  have hC1 := H.rep.cells
  have hC2 := H.rep.one
  simp -implicitDefEqProofs (disch := first | omega | (simp only [List.length_set, List.length_replicate, List.length_append, List.length_map, List.length_take, List.length_cons, List.length_nil]; omega)) [wrap64, setC, hC1, hC2]
  refine wp_count s.procs.length (fun i e h' => ∃ o, e = [none, some (.agg #[v1, v2]), some (.agg #[.slice none 0 0, .slice none 0 0]), some (.agg #[c1, o]), some (.int .i64 i), none, none, none] ∧ HS h [ow o (s.procs.take i), ow c1 s.init] h') ⟨.slice none 0 0, by simp, by simpa using H.nil_ow (α := Pr)⟩ ?_
  clear H
  rintro J i _ h3 hJ hi ⟨o, rfl, H⟩
  simp -implicitDefEqProofs (disch := first | omega | (simp only [List.length_set, List.length_replicate, List.length_append, List.length_map, List.length_take, List.length_cons, List.length_nil]; omega)) [wrap64, R2'.len]
  refine IteW.mk (fun hlt => ?_) (fun hge => ?_)
  · have hlx : i < s.procs.length := by omega
    obtain ⟨u, hu, Ru⟩ := R2'.ld hlx
    change hload _ (some (elp 2 v2 i)) (some 2) = some u at hu
    obtain ⟨we, rfl, k1, R3⟩ := Rep_Pr.1 Ru
    have hP : ∀ {h'}, h.le h' → _ := fun {h'} (hl : h.le h') => hld_parts (hload_le hl hu)
    have hpo := hs.at hlx
    have hel := hpo.el
    have hO := H.rep.one
    have hO1 := H.rep.cells
    simp -implicitDefEqProofs (disch := first | omega | (simp only [List.length_set, List.length_replicate, List.length_append, List.length_map, List.length_take, List.length_cons, List.length_nil]; omega)) [wrap64, R2'.X (n := 2) rfl, (hP H.base).1, (hP H.base).2.2.1, setC]
    refine wp_count s.procs[i].edges.length (fun j e h' => ∃ pe, e = [none, some (.agg #[v1, v2]), some (.agg #[.slice none 0 0, .slice none 0 0]), some (.agg #[c1, o]), some (.int .i64 i), some (.agg #[.int .i64 s.procs[i].locs, pe]), some (.int .i64 j), none] ∧ HS h [ow pe (s.procs[i].edges.take j), ow o (s.procs.take i), ow c1 s.init] h') ⟨.slice none 0 0, by simp, by simpa using H.nil_ow (α := Ed)⟩ ?_
    clear H
    rintro J2 j _ h6 hJ2 hj ⟨pe, rfl, H⟩
    simp -implicitDefEqProofs (disch := first | omega | (simp only [List.length_set, List.length_replicate, List.length_append, List.length_map, List.length_take, List.length_cons, List.length_nil]; omega)) [wrap64, R2'.X (n := 2) rfl, (hP H.base).1, (hP H.base).2.2.1, R3.len]
    refine IteW.mk (fun hlt2 => ?_) (fun hge2 => ?_)
    · have hjx : j < s.procs[i].edges.length := by omega
      obtain ⟨u, hu, Ru⟩ := R3.ld hjx
      have hu2 := hload_le H.base hu
      change hload _ (some (elp 10 we j)) (some 10) = some u at hu2
      obtain ⟨w1, w2, rfl, ok, G1, G2⟩ := Rep_Ed.1 Ru
      have heo := hpo.at hjx
      have hF3 := G1.one
      have hF4 := G2.one
      have hE := H.rep.one
      simp -implicitDefEqProofs (disch := first | omega | (simp only [List.length_set, List.length_replicate, List.length_append, List.length_map, List.length_take, List.length_cons, List.length_nil]; omega)) [wrap64, R2'.X (n := 2) rfl, (hP H.base).1, (hP H.base).2.2.1, R3.X (n := 10) rfl, hu2, Ed.cs, setC, hF3, hF4]
      refine (c_l1Subst 6 heo.gd.1 (by omega) ((Rep.gd (w2 := w2) ok G1).on H)).go ?_
      intro u1 h7 HU
      obtain ⟨x1, rfl, _, _, HU1⟩ := HU.unExq
      have hX1 := HU1.rep.cells
      have hX2 := HU1.rep.one
      have H := HU1.app H
      simp -implicitDefEqProofs (disch := first | omega | (simp only [List.length_set, List.length_replicate, List.length_append, List.length_map, List.length_take, List.length_cons, List.length_nil]; omega)) [wrap64, setC, hX2]
      refine (c_copyVal heo ((Rep.vl ok G2).on H)).go ?_
      intro u2 h9 HU
      obtain ⟨x2, rfl, _, _, HU2⟩ := HU.unExq
      have hX3 := HU2.rep.cells
      have hX4 := HU2.rep.one
      have H := HU2.app H
      simp -implicitDefEqProofs (disch := first | omega | (simp only [List.length_set, List.length_replicate, List.length_append, List.length_map, List.length_take, List.length_cons, List.length_nil]; omega)) [wrap64, setC, hX2, hX4]
      have H := (HS.mkEd (e := s.procs[i].edges[j]) H.sw1 ok)
      refine HS.appO H rfl rfl rfl rfl rfl (by simp; omega) (by simp; omega) fun pe' h10 H => ?_
      simp -implicitDefEqProofs (disch := first | omega | (simp only [List.length_set, List.length_replicate, List.length_append, List.length_map, List.length_take, List.length_cons, List.length_nil]; omega)) [wrap64, H.rep.cells, H.rep.one, setC]
      refine hJ2 _ _ hjx ⟨pe', by simp, ?_⟩
      rw [List.take_add_one, List.getElem?_eq_getElem hjx]
      exact H
    simp -implicitDefEqProofs (disch := first | omega | (simp only [List.length_set, List.length_replicate, List.length_append, List.length_map, List.length_take, List.length_cons, List.length_nil]; omega)) [wrap64, H.rep.one, setC]
    rw [List.take_of_length_le (by omega)] at H
    have H := HS.mkPr (p := s.procs[i]) H k1
    refine HS.appO H rfl rfl rfl rfl rfl (by simp; omega) (by simp; omega) fun o' h10 H => ?_
    simp -implicitDefEqProofs (disch := first | omega | (simp only [List.length_set, List.length_replicate, List.length_append, List.length_map, List.length_take, List.length_cons, List.length_nil]; omega)) [wrap64, H.rep.cells, H.rep.one, setC]
    refine hJ _ _ hlx ⟨o', by simp, ?_⟩
    rw [List.take_add_one, List.getElem?_eq_getElem hlx]
    exact H
  simp -implicitDefEqProofs (disch := first | omega | (simp only [List.length_set, List.length_replicate, List.length_append, List.length_map, List.length_take, List.length_cons, List.length_nil]; omega)) [wrap64, H.rep.one, hC2, setC]
  rw [List.take_of_length_le (by omega)] at H
  exact RetK.keep (hk _ _ (H.sw1.mkSy))

/- SLICES -/
def Ed.slc (M : List Bool) (e : Ed) : Ed := if 0 ≤ e.var ∧ M.getD e.var.toNat false = false then ⟨e.frm, e.to, e.guard, -1, Exq.zero, e.sync⟩ else e
def Pr.slc (M : List Bool) (p : Pr) : Pr := ⟨p.locs, p.edges.map (Ed.slc M)⟩
def Sy.slc (s : Sy) (L : List Exq) : Sy := ⟨s.init, s.procs.map (Pr.slc (s.rel L))⟩
noncomputable def slcR (s : Sy) (L : List Exq) : Sy := if s.Ok ∧ LOk L then s.slc L else ⟨[], []⟩
theorem zero_Sy {g h : Heap} {Γ : List HP} (H : HS g Γ h) : HS g (ow (.agg #[.slice none 0 0, .slice none 0 0]) (⟨[], []⟩ : Sy) :: Γ) h := HS.mkSy (s := ⟨[], []⟩) H.nil_ow.nil_ow
theorem i64_m1 : I64 (-1) := ⟨by decide, by decide⟩

theorem c_SliceSystem {h : Heap} {v w : Value} {s : Sy} {L : List Exq} (R : Rep h v s) (RL : Rep h w L) : CallE Try.prog fn_impl_SliceSystem [v, w] h (R2 (decide (s.Ok ∧ LOk L)) (slcR s L) h) := by
  have F := R.aSy
  refine CallE.gen fun k hk => EN_impl_SliceSystem rfl ?_
  simp -implicitDefEqProofs (disch := first | omega | (simp only [List.length_set, List.length_replicate, List.length_append, List.length_map, List.length_take, List.length_cons, List.length_nil]; omega)) [wrap64, F]
  refine (c_RelevantVars R RL).go ?_
  rintro _ h1 ⟨x, rfl, H⟩
  by_cases q1 : s.Ok ∧ LOk L
  case neg =>
    simp -implicitDefEqProofs (disch := first | omega | (simp only [List.length_set, List.length_replicate, List.length_append, List.length_map, List.length_take, List.length_cons, List.length_nil]; omega)) [wrap64, q1, setC]
    exact RetK.keep (hk _ _ ⟨_, by rw [decide_eq_false q1], by rw [slcR, if_neg q1]; exact zero_Sy (Γ := []) H.base⟩)
  rw [relR, if_pos q1] at H
  have hs := q1.1
  have hp3 := hs.p3
  have hrl : (s.rel L).length = 3 := Sy.rel_len
  simp -implicitDefEqProofs (disch := first | omega | (simp only [List.length_set, List.length_replicate, List.length_append, List.length_map, List.length_take, List.length_cons, List.length_nil]; omega)) [wrap64, q1, F]
  refine (c_System_copyOf hs (R.on H)).go ?_
  intro o h2 HO
  obtain ⟨c1, c2, rfl, HO2⟩ := HO.unSy
  have hC1 := HO2.rep.one
  have hC2 := HO2.sw1.rep.one
  have H := HO2.app H
  simp -implicitDefEqProofs (disch := first | omega | (simp only [List.length_set, List.length_replicate, List.length_append, List.length_map, List.length_take, List.length_cons, List.length_nil]; omega)) [wrap64, setC, hC1, hC2, H.sw1.rep.len]
  refine wp_count s.procs.length (fun i e h' => e = [none, none, none, some (.agg #[.slice none 0 0, .slice none 0 0]), none, some x, none, some (.agg #[c1, c2]), none, none, none, some c2, some (.int .i64 s.procs.length), some (.int .i64 i), none, none, none] ∧ ∃ y, HS h [ow c2 y, ow c1 s.init, ow x (s.rel L)] h' ∧ Prog (Pr.slc (s.rel L)) s.procs y i) ⟨by simp, s.procs, H.sw1, Prog.zero⟩ ?_
  clear H HO HO2
  rintro J i _ h3 hJ hi ⟨rfl, y, H, hy⟩
  simp -implicitDefEqProofs (disch := first | omega | (simp only [List.length_set, List.length_replicate, List.length_append, List.length_map, List.length_take, List.length_cons, List.length_nil]; omega)) [wrap64]
  refine IteW.mk (fun hlt => ?_) (fun hge => ?_)
  · have hlx : i < s.procs.length := by omega
    have hly : i < y.length := by rw [hy.len]; exact hlx
    have hpo := hs.at hlx
    have hel := hpo.el
    obtain ⟨u, hu, H1⟩ := HS.take H hly
    rw [hy.get hlx] at H1
    obtain ⟨we, rfl, k1, H2⟩ := H1.unPr
    change hload _ (some (elp 2 c2 i)) (some 2) = some _ at hu
    have hE1 := H2.rep.one
    have hia := HS.holeia H2.sw1 (n := 2) (kd := .i64) rfl hly
    simp -implicitDefEqProofs (disch := first | omega | (simp only [List.length_set, List.length_replicate, List.length_append, List.length_map, List.length_take, List.length_cons, List.length_nil]; omega)) [wrap64, hia, hu, setC, hE1, H2.rep.len]
    refine wp_count s.procs[i].edges.length (fun j e h' => e = [none, none, none, some (.agg #[.slice none 0 0, .slice none 0 0]), none, some x, none, some (.agg #[c1, c2]), some (.agg #[.int .i64 s.procs[i].locs, we]), none, none, some c2, some (.int .i64 s.procs.length), some (.int .i64 i), some we, some (.int .i64 s.procs[i].edges.length), some (.int .i64 j)] ∧ ∃ z, HS h [ow we z, hole c2 y i (.agg #[.int .i64 s.procs[i].locs, we]), ow c1 s.init, ow x (s.rel L)] h' ∧ Prog (Ed.slc (s.rel L)) s.procs[i].edges z j) ⟨by simp, _, H2, Prog.zero⟩ ?_
    clear H H1 H2 hia hu
    rintro J2 j _ h6 hJ2 hj ⟨rfl, z, H, hz⟩
    simp -implicitDefEqProofs (disch := first | omega | (simp only [List.length_set, List.length_replicate, List.length_append, List.length_map, List.length_take, List.length_cons, List.length_nil]; omega)) [wrap64]
    refine IteW.mk (fun hlt2 => ?_) (fun hge2 => ?_)
    · have hjx : j < s.procs[i].edges.length := by omega
      have hjz : j < z.length := by rw [hz.len]; exact hjx
      have heo := hpo.at hjx
      obtain ⟨u, hu, H1⟩ := HS.take H hjz
      rw [hz.get hjx] at H1
      obtain ⟨w1, w2, rfl, ok, H2⟩ := H1.unEd
      change hload _ (some (elp 10 we j)) (some 10) = some _ at hu
      have hX1 := H2.rep.one
      have hX2 := H2.sw1.rep.one
      have hia := HS.holeia H2.sw2 (n := 10) (kd := .i64) rfl hjz
      have HX := H.sw3.rep
      have hskip : Ed.slc (s.rel L) s.procs[i].edges[j] = s.procs[i].edges[j] → J2 [none, none, none, some (.agg #[.slice none 0 0, .slice none 0 0]), none, some x, none, some (.agg #[c1, c2]), some (.agg #[.int .i64 s.procs[i].locs, we]), none, none, some c2, some (.int .i64 s.procs.length), some (.int .i64 i), some we, some (.int .i64 s.procs[i].edges.length), some (.int .i64 ((j + 1 : Nat) : Int))] h6 :=
        fun hf => hJ2 _ _ hjx ⟨by simp, z, H, hz.skip hjx hf⟩
      by_cases e1 : 0 ≤ s.procs[i].edges[j].var
      case neg =>
        simp -implicitDefEqProofs (disch := first | omega | (simp only [List.length_set, List.length_replicate, List.length_append, List.length_map, List.length_take, List.length_cons, List.length_nil]; omega)) [wrap64, hia, hu, Ed.cs, setC, hX1, hX2, e1]
        exact hskip (by rw [Ed.slc, if_neg (fun hh => e1 hh.1)])
      have hv1 := heo.v1
      obtain ⟨q, hq⟩ : ∃ q : Nat, s.procs[i].edges[j].var = q := ⟨_, (Int.toNat_of_nonneg e1).symm⟩
      have hgd : (s.rel L).getD s.procs[i].edges[j].var.toNat false = (s.rel L)[q]'(by omega) := by
        rw [hq, Int.toNat_natCast, List.getD_eq_getElem?_getD, List.getElem?_eq_getElem (by omega)]; rfl
      by_cases e2 : (s.rel L)[q]'(by omega) = true
      · simp -implicitDefEqProofs (disch := first | omega | (simp only [List.length_set, List.length_replicate, List.length_append, List.length_map, List.length_take, List.length_cons, List.length_nil]; omega)) [wrap64, hia, hu, Ed.cs, setC, hX1, hX2, hq, HX.B, e2]
        exact hskip (by rw [Ed.slc, if_neg (fun hh => by rw [hgd, e2] at hh; simp at hh)])
      have hP := hld_parts (HS.holeP H2.sw2 (n := 10) rfl rfl)
      simp -implicitDefEqProofs (disch := first | omega | (simp only [List.length_set, List.length_replicate, List.length_append, List.length_map, List.length_take, List.length_cons, List.length_nil]; omega)) [wrap64, hia, hu, Ed.cs, setC, hX1, hX2, hq, HX.B, e2, hP.1]
      refine HS.holest H2.sw2 rfl (n := 10) rfl rfl rfl rfl rfl (by decide) fun h7 H => ?_
      have hP := hld_parts (HS.holeP H (n := 10) rfl rfl)
      simp -implicitDefEqProofs (disch := first | omega | (simp only [List.length_set, List.length_replicate, List.length_append, List.length_map, List.length_take, List.length_cons, List.length_nil]; omega)) [wrap64, hia, hP.1]
      refine HS.holest H rfl (n := 10) rfl rfl rfl rfl rfl (by decide) fun h8 H => ?_
      have H : HS h (hole we z j (.agg (Ed.cs ⟨s.procs[i].edges[j].frm, s.procs[i].edges[j].to, s.procs[i].edges[j].guard, -1, Exq.zero, s.procs[i].edges[j].sync⟩ w1 (.slice none 0 0)).toArray) :: ow w1 s.procs[i].edges[j].guard.kids :: ow w2 s.procs[i].edges[j].value.kids :: hole c2 y i (.agg #[.int .i64 s.procs[i].locs, we]) :: ow c1 s.init :: ow x (s.rel L) :: []) h8 := H
      have H := (H.sw2.drop).nil_ow (α := Exq)
      have H := HS.put (HS.mkEd (e := ⟨s.procs[i].edges[j].frm, s.procs[i].edges[j].to, s.procs[i].edges[j].guard, -1, Exq.zero, s.procs[i].edges[j].sync⟩) (w1 := w1) (w2 := .slice none 0 0) H.sw2 ⟨ok.frm, ok.to, ok.gk, ok.gv, i64_m1, i64_0, i64_0, ok.sync⟩)
      simp -implicitDefEqProofs (disch := first | omega | (simp only [List.length_set, List.length_replicate, List.length_append, List.length_map, List.length_take, List.length_cons, List.length_nil]; omega)) [wrap64]
      refine hJ2 _ _ hjx ⟨by simp, _, H, ?_⟩
      have hst := hz.step hjx
      rw [Ed.slc, if_pos ⟨e1, by rw [hgd]; simpa using e2⟩] at hst
      exact hst
    simp -implicitDefEqProofs (disch := first | omega | (simp only [List.length_set, List.length_replicate, List.length_append, List.length_map, List.length_take, List.length_cons, List.length_nil]; omega)) [wrap64]
    have he := hz.all (by omega)
    subst he
    have H := HS.put (HS.mkPr (p := Pr.slc (s.rel L) s.procs[i]) H k1)
    exact hJ _ _ hlx ⟨by simp, _, H, hy.step hlx⟩
  simp -implicitDefEqProofs (disch := first | omega | (simp only [List.length_set, List.length_replicate, List.length_append, List.length_map, List.length_take, List.length_cons, List.length_nil]; omega)) [wrap64, hC1, hC2, setC]
  have he := hy.all (by omega)
  subst he
  exact RetK.keep (hk _ _ ⟨_, by rw [decide_eq_true q1], by rw [slcR, if_pos q1]; exact (HS.mkSy (s := s.slc L) H.sw1).only⟩)

theorem c_spec_SliceSystem {h : Heap} {v w : Value} {s : Sy} {L : List Exq} (R : Rep h v s) (RL : Rep h w L) : CallE Try.prog fn_spec_SliceSystem [v, w] h (R2 (decide (s.Ok ∧ LOk L)) (slcR s L) h) := by
  have F := R.aSy
  refine CallE.gen fun k hk => EN_spec_SliceSystem rfl ?_
  simp -implicitDefEqProofs (disch := first | omega | (simp only [List.length_set, List.length_replicate, List.length_append, List.length_map, List.length_take, List.length_cons, List.length_nil]; omega)) [wrap64, F]
  refine (c_spec_RelevantVars R RL).go ?_
  rintro _ h1 ⟨x, rfl, H⟩
  by_cases q1 : s.Ok ∧ LOk L
  case neg =>
    simp -implicitDefEqProofs (disch := first | omega | (simp only [List.length_set, List.length_replicate, List.length_append, List.length_map, List.length_take, List.length_cons, List.length_nil]; omega)) [wrap64, q1, setC]
    exact RetK.keep (hk _ _ ⟨_, by rw [decide_eq_false q1], by rw [slcR, if_neg q1]; exact zero_Sy (Γ := []) H.base⟩)
  rw [relR, if_pos q1] at H
  have hs := q1.1
  have hp3 := hs.p3
  have hrl : (s.rel L).length = 3 := Sy.rel_len
  simp -implicitDefEqProofs (disch := first | omega | (simp only [List.length_set, List.length_replicate, List.length_append, List.length_map, List.length_take, List.length_cons, List.length_nil]; omega)) [wrap64, q1, F]
  refine (c_l2Copy hs (R.on H)).go ?_
  intro o h2 HO
  obtain ⟨c1, c2, rfl, HO2⟩ := HO.unSy
  have hC1 := HO2.rep.one
  have hC2 := HO2.sw1.rep.one
  have H := HO2.app H
  simp -implicitDefEqProofs (disch := first | omega | (simp only [List.length_set, List.length_replicate, List.length_append, List.length_map, List.length_take, List.length_cons, List.length_nil]; omega)) [wrap64, setC, hC1, hC2]
  refine wp_count s.procs.length (fun i e h' => e = [none, none, none, some (.agg #[.slice none 0 0, .slice none 0 0]), none, some x, none, some (.agg #[c1, c2]), some (.int .i64 i), none, none] ∧ ∃ y, HS h [ow c2 y, ow c1 s.init, ow x (s.rel L)] h' ∧ Prog (Pr.slc (s.rel L)) s.procs y i) ⟨by simp, s.procs, H.sw1, Prog.zero⟩ ?_
  clear H HO HO2
  rintro J i _ h3 hJ hi ⟨rfl, y, H, hy⟩
  have hyl := hy.len
  simp -implicitDefEqProofs (disch := first | omega | (simp only [List.length_set, List.length_replicate, List.length_append, List.length_map, List.length_take, List.length_cons, List.length_nil]; omega)) [wrap64, H.rep.len]
  refine IteW.mk (fun hlt => ?_) (fun hge => ?_)
  · have hlx : i < s.procs.length := by omega
    have hly : i < y.length := by rw [hy.len]; exact hlx
    have hpo := hs.at hlx
    have hel := hpo.el
    obtain ⟨u, hu, H1⟩ := HS.take H hly
    rw [hy.get hlx] at H1
    obtain ⟨we, rfl, k1, H2⟩ := H1.unPr
    simp -implicitDefEqProofs (disch := first | omega | (simp only [List.length_set, List.length_replicate, List.length_append, List.length_map, List.length_take, List.length_cons, List.length_nil]; omega)) [wrap64]
    refine wp_count s.procs[i].edges.length (fun j e h' => e = [none, none, none, some (.agg #[.slice none 0 0, .slice none 0 0]), none, some x, none, some (.agg #[c1, c2]), some (.int .i64 i), some (.int .i64 j), none] ∧ ∃ z, HS h [ow we z, hole c2 y i (.agg #[.int .i64 s.procs[i].locs, we]), ow c1 s.init, ow x (s.rel L)] h' ∧ Prog (Ed.slc (s.rel L)) s.procs[i].edges z j) ⟨by simp, _, H2, Prog.zero⟩ ?_
    clear H H1 H2 hu
    rintro J2 j _ h6 hJ2 hj ⟨rfl, z, H, hz⟩
    have hzl := hz.len
    have hiaP := HS.holeia H.sw1 (n := 2) (kd := .i64) rfl hly
    have hPP := hld_parts (HS.holeP H.sw1 (n := 2) rfl rfl)
    simp -implicitDefEqProofs (disch := first | omega | (simp only [List.length_set, List.length_replicate, List.length_append, List.length_map, List.length_take, List.length_cons, List.length_nil]; omega)) [wrap64, hiaP, hPP.1, hPP.2.2.1, H.rep.len]
    refine IteW.mk (fun hlt2 => ?_) (fun hge2 => ?_)
    · have hjx : j < s.procs[i].edges.length := by omega
      have hjz : j < z.length := by rw [hz.len]; exact hjx
      have heo := hpo.at hjx
      obtain ⟨u, hu, H1⟩ := HS.take H hjz
      rw [hz.get hjx] at H1
      obtain ⟨w1, w2, rfl, ok, H2⟩ := H1.unEd
      change hload _ (some (elp 10 we j)) (some 10) = some _ at hu
      have hX1 := H2.rep.one
      have hX2 := H2.sw1.rep.one
      have hia := HS.holeia H2.sw2 (n := 10) (kd := .i64) rfl hjz
      have HX := H.sw3.rep
      have hskip : Ed.slc (s.rel L) s.procs[i].edges[j] = s.procs[i].edges[j] → J2 [none, none, none, some (.agg #[.slice none 0 0, .slice none 0 0]), none, some x, none, some (.agg #[c1, c2]), some (.int .i64 i), some (.int .i64 ((j + 1 : Nat) : Int)), none] h6 :=
        fun hf => hJ2 _ _ hjx ⟨by simp, z, H, hz.skip hjx hf⟩
      by_cases e1 : 0 ≤ s.procs[i].edges[j].var
      case neg =>
        simp -implicitDefEqProofs (disch := first | omega | (simp only [List.length_set, List.length_replicate, List.length_append, List.length_map, List.length_take, List.length_cons, List.length_nil]; omega)) [wrap64, hiaP, hPP.1, hPP.2.2.1, hia, hu, Ed.cs, setC, hX1, hX2, e1]
        exact hskip (by rw [Ed.slc, if_neg (fun hh => e1 hh.1)])
      have hv1 := heo.v1
      obtain ⟨q, hq⟩ : ∃ q : Nat, s.procs[i].edges[j].var = q := ⟨_, (Int.toNat_of_nonneg e1).symm⟩
      have hgd : (s.rel L).getD s.procs[i].edges[j].var.toNat false = (s.rel L)[q]'(by omega) := by
        rw [hq, Int.toNat_natCast, List.getD_eq_getElem?_getD, List.getElem?_eq_getElem (by omega)]; rfl
      by_cases e2 : (s.rel L)[q]'(by omega) = true
      · simp -implicitDefEqProofs (disch := first | omega | (simp only [List.length_set, List.length_replicate, List.length_append, List.length_map, List.length_take, List.length_cons, List.length_nil]; omega)) [wrap64, hiaP, hPP.1, hPP.2.2.1, hia, hu, Ed.cs, setC, hX1, hX2, hq, HX.B, e2]
        exact hskip (by rw [Ed.slc, if_neg (fun hh => by rw [hgd, e2] at hh; simp at hh)])
      simp -implicitDefEqProofs (disch := first | omega | (simp only [List.length_set, List.length_replicate, List.length_append, List.length_map, List.length_take, List.length_cons, List.length_nil]; omega)) [wrap64, hiaP, hPP.1, hPP.2.2.1, hia, hu, Ed.cs, setC, hX1, hX2, hq, HX.B, e2]
      have H := (H2.sw1.drop).nil_ow (α := Exq)
      have H := HS.mkEd (e := ⟨s.procs[i].edges[j].frm, s.procs[i].edges[j].to, s.procs[i].edges[j].guard, -1, Exq.zero, s.procs[i].edges[j].sync⟩) (w1 := w1) (w2 := .slice none 0 0) H.sw1 ⟨ok.frm, ok.to, ok.gk, ok.gv, i64_m1, i64_0, i64_0, ok.sync⟩
      refine HS.storeH H rfl rfl rfl fun h7 H => ?_
      simp -implicitDefEqProofs (disch := first | omega | (simp only [List.length_set, List.length_replicate, List.length_append, List.length_map, List.length_take, List.length_cons, List.length_nil]; omega)) [wrap64]
      refine hJ2 _ _ hjx ⟨by simp, _, H, ?_⟩
      have hst := hz.step hjx
      rw [Ed.slc, if_pos ⟨e1, by rw [hgd]; simpa using e2⟩] at hst
      exact hst
    simp -implicitDefEqProofs (disch := first | omega | (simp only [List.length_set, List.length_replicate, List.length_append, List.length_map, List.length_take, List.length_cons, List.length_nil]; omega)) [wrap64]
    have he := hz.all (by omega)
    subst he
    have H := HS.put (HS.mkPr (p := Pr.slc (s.rel L) s.procs[i]) H k1)
    exact hJ _ _ hlx ⟨by simp, _, H, hy.step hlx⟩
  simp -implicitDefEqProofs (disch := first | omega | (simp only [List.length_set, List.length_replicate, List.length_append, List.length_map, List.length_take, List.length_cons, List.length_nil]; omega)) [wrap64, hC1, hC2, setC]
  have he := hy.all (by omega)
  subst he
  exact RetK.keep (hk _ _ ⟨_, by rw [decide_eq_true q1], by rw [slcR, if_pos q1]; exact (HS.mkSy (s := s.slc L) H.sw1).only⟩)

end Go.Proofs.Ythgimpheeemooaa

/-
  Slicing twice is slicing once: in plain Lean.
-/
namespace Go.Proofs.Ythgimpheeemooaa
open Go
set_option linter.all false
set_option linter.unusedVariables false
set_option linter.unusedSimpArgs false
set_option linter.defProp false
set_option maxRecDepth 1000000

theorem Ed.slc_ok {M : List Bool} {e : Ed} {n : Int} (h : e.Ok n) : (e.slc M).Ok n := by
  unfold Ed.slc
  split
  · exact ⟨h.n1, h.n4, h.f0, h.f1, h.t0, h.t1, h.gd, by dsimp only; omega, by dsimp only; omega, .inr ⟨by dsimp only; omega, rfl⟩, h.s0, h.s1⟩
  · exact h
theorem Pr.slc_ok {M : List Bool} {p : Pr} (h : p.Ok) : (p.slc M).Ok :=
  ⟨h.n1, h.n4, by simpa [Pr.slc] using h.el, fun e he => by
    obtain ⟨e0, h0, rfl⟩ := List.mem_map.1 he
    exact Ed.slc_ok (h.ed e0 h0)⟩
theorem Sy.slc_ok {s : Sy} {L : List Exq} (h : s.Ok) : (s.slc L).Ok :=
  ⟨h.vs, by simpa [Sy.slc] using h.p1, by simpa [Sy.slc] using h.p3, fun p hp => by
    obtain ⟨p0, h0, rfl⟩ := List.mem_map.1 hp
    exact Pr.slc_ok (h.pr p0 h0)⟩
theorem Ed.slc_slc {M : List Bool} {e : Ed} : (e.slc M).slc M = e.slc M := by
  unfold Ed.slc
  split
  · rw [if_neg]; dsimp only; omega
  · rfl
theorem Pr.slc_slc {M : List Bool} {p : Pr} : (p.slc M).slc M = p.slc M := by
  unfold Pr.slc
  simp only [List.map_map]
  congr 1
  refine List.map_congr_left fun e _ => ?_
  exact Ed.slc_slc
theorem Ed.slc_guard {M : List Bool} {e : Ed} : (e.slc M).guard = e.guard := by unfold Ed.slc; split <;> rfl
theorem Ed.relv_slc {M M' : List Bool} {e : Ed} (h : LeB M' M) : (e.slc M).relv M' = e.relv M' := by
  unfold Ed.slc
  split
  · rename_i h1
    unfold Ed.relv
    rw [if_neg (by dsimp only; omega), if_neg]
    rintro ⟨_, h2⟩
    have := h.2 _ h2
    rw [h1.2] at this
    simp at this
  · rfl
section
variable {α : Type} {f g : List Bool → α → List Bool}
theorem fold_same {M : List Bool} : ∀ {l : List α} {M' : List Bool}, (∀ a ∈ l, ∀ M', LeB M' (f M' a)) → (∀ a ∈ l, ∀ M', LeB M' M → LeB (f M' a) M → g M' a = f M' a) → LeB (l.foldl f M') M → l.foldl g M' = l.foldl f M'
  | [], _, _, _, _ => rfl
  | a :: l, M', hi, hs, hl => by
    rw [List.foldl_cons] at hl ⊢
    rw [List.foldl_cons]
    have h1 : LeB (f M' a) M := (fold_inf (f := f) (l := l) fun b hb => hi b (by simp [hb])).trans hl
    rw [hs a (by simp) M' ((hi a (by simp) M').trans h1) h1]
    exact fold_same (l := l) (fun b hb => hi b (by simp [hb])) (fun b hb => hs b (by simp [hb])) hl
end
theorem relG_slc {s : Sy} {L : List Exq} {M : List Bool} : relG (s.slc L) M = relG s M := by
  unfold relG Sy.slc
  simp only [List.foldl_map]
  congr 1
  funext M p
  unfold Pr.slc
  simp only [List.foldl_map, Ed.slc_guard]
theorem relV_slc {s : Sy} {L : List Exq} {M : List Bool} (h : LeB (relV s M) (s.rel L)) : relV (s.slc L) M = relV s M := by
  unfold relV Sy.slc at *
  simp only [List.foldl_map]
  refine fold_same (M := s.rel L) (f := fun M (p : Pr) => p.edges.foldl Ed.relv M) (fun p _ M => fold_inf fun e _ M => e.relv_inf M) (fun p _ M' h1 h2 => ?_) h
  unfold Pr.slc
  simp only [List.foldl_map]
  exact fold_same (M := s.rel L) (f := Ed.relv) (fun e _ M => e.relv_inf M) (fun e _ M'' h3 _ => Ed.relv_slc h3) h2
theorem Sy.rel_slc {s : Sy} {L : List Exq} : (s.slc L).rel L = s.rel L := by
  unfold Sy.rel
  have e1 := relG_slc (s := s) (L := L) (M := relL L [false, false, false])
  rw [e1]
  have l2 : LeB (relV s (relV s (relV s (relG s (relL L [false, false, false]))))) (s.rel L) := LeB.refl
  have l1 : LeB (relV s (relV s (relG s (relL L [false, false, false])))) (s.rel L) := (relV_inf _).trans l2
  have l0 : LeB (relV s (relG s (relL L [false, false, false]))) (s.rel L) := (relV_inf _).trans l1
  rw [relV_slc l0, relV_slc l1, relV_slc l2]
theorem Sy.slc_slc {s : Sy} {L : List Exq} : (s.slc L).slc L = s.slc L := by
  have h := Sy.rel_slc (s := s) (L := L)
  unfold Sy.slc at h ⊢
  simp only at h ⊢
  rw [h]
  congr 1
  simp only [List.map_map]
  refine List.map_congr_left fun p _ => ?_
  exact Pr.slc_slc
/-- what is written in a slice is relevant -/
theorem slc_wr {s : Sy} {L : List Exq} {p : Pr} {e : Ed} (hp : p ∈ (s.slc L).procs) (he : e ∈ p.edges) (h0 : 0 ≤ e.var) : (s.rel L).getD e.var.toNat false = true := by
  obtain ⟨p0, _, rfl⟩ := List.mem_map.1 hp
  obtain ⟨e0, _, rfl⟩ := List.mem_map.1 he
  unfold Ed.slc at h0 ⊢
  split at h0
  · simp at h0
  · rename_i h1
    rw [if_neg h1]
    by_cases h2 : (s.rel L).getD e0.var.toNat false = true
    · exact h2
    · exact absurd ⟨h0, by simpa using h2⟩ h1
end Go.Proofs.Ythgimpheeemooaa

/-
  The law: slicing is idempotent.
-/
namespace Go.Proofs.Ythgimpheeemooaa
open Go
set_option linter.all false
set_option linter.unusedVariables false
set_option linter.unusedSimpArgs false
set_option linter.defProp false
set_option maxRecDepth 1000000

set_option maxHeartbeats 2000000 in
theorem c_FnSliceTwice {h : Heap} {v : Value} {l : List (BitVec 8)} (R : Rep h v l) : CallE Try.prog fn_laws_FnSliceTwice [v] h (fun u h' => h.le h' ∧ u = .bool true) := by
  refine CallE.gen fun k hk => EN_laws_FnSliceTwice rfl ?_
  simp -implicitDefEqProofs (disch := first | omega | (simp only [List.length_set, List.length_replicate, List.length_append, List.length_map, List.length_take, List.length_cons, List.length_nil]; omega)) [wrap64, R.len]
  refine IteW.mk (fun hlt => ?_) (fun hge => ?_)
  · simp -implicitDefEqProofs (disch := first | omega | (simp only [List.length_set, List.length_replicate, List.length_append, List.length_map, List.length_take, List.length_cons, List.length_nil]; omega)) [wrap64]
    exact RetK.keep (hk _ _ ⟨Heap.le.refl _, rfl⟩)
  simp -implicitDefEqProofs (disch := first | omega | (simp only [List.length_set, List.length_replicate, List.length_append, List.length_map, List.length_take, List.length_cons, List.length_nil]; omega)) [wrap64]
  refine (c_DrawSliceSystem R).go ?_
  rintro _ h1 ⟨u1, u2, s, L, rfl, H, hL3⟩
  have FS := H.rep.aSy
  simp -implicitDefEqProofs (disch := first | omega | (simp only [List.length_set, List.length_replicate, List.length_append, List.length_map, List.length_take, List.length_cons, List.length_nil]; omega)) [wrap64, FS, setC]
  refine (c_SliceSystem H.rep H.sw1.rep).go ?_
  rintro _ h2 ⟨a, rfl, G⟩
  have H := G.app H
  have FA := H.rep.aSy
  simp -implicitDefEqProofs (disch := first | omega | (simp only [List.length_set, List.length_replicate, List.length_append, List.length_map, List.length_take, List.length_cons, List.length_nil]; omega)) [wrap64, FS, FA, setC]
  refine (c_spec_SliceSystem H.sw1.rep H.sw2.rep).go ?_
  rintro _ h3 ⟨b, rfl, G⟩
  have H := G.app H
  have FB := H.rep.aSy
  simp -implicitDefEqProofs (disch := first | omega | (simp only [List.length_set, List.length_replicate, List.length_append, List.length_map, List.length_take, List.length_cons, List.length_nil]; omega)) [wrap64, FA, FB, setC]
  refine (c_SystemSame H.sw1.rep H.rep).go ?_
  rintro _ h3 ⟨rfl, rfl⟩
  by_cases q : s.Ok ∧ LOk L
  case neg =>
    simp -implicitDefEqProofs (disch := first | omega | (simp only [List.length_set, List.length_replicate, List.length_append, List.length_map, List.length_take, List.length_cons, List.length_nil]; omega)) [wrap64]
    refine IteW.mk (fun _ => ?_) (fun hh => absurd (Classical.not_and_iff_not_or_not.1 q) hh)
    simp -implicitDefEqProofs (disch := first | omega | (simp only [List.length_set, List.length_replicate, List.length_append, List.length_map, List.length_take, List.length_cons, List.length_nil]; omega)) [wrap64, FA, FB]
    refine (c_SystemSame H.sw1.rep H.rep).go ?_
    rintro _ h3 ⟨rfl, rfl⟩
    simp -implicitDefEqProofs (disch := first | omega | (simp only [List.length_set, List.length_replicate, List.length_append, List.length_map, List.length_take, List.length_cons, List.length_nil]; omega)) [wrap64]
    exact RetK.keep (hk _ _ ⟨H.base, rfl⟩)
  have q' := q
  obtain ⟨hs, hL⟩ := q
  rw [slcR, if_pos q'] at H
  have hso := Sy.slc_ok (L := L) hs
  simp -implicitDefEqProofs (disch := first | omega | (simp only [List.length_set, List.length_replicate, List.length_append, List.length_map, List.length_take, List.length_cons, List.length_nil]; omega)) [wrap64, hs, hL, FA]
  refine (c_SliceSystem H.sw1.rep H.sw3.rep).go ?_
  rintro _ h4 ⟨c, rfl, G⟩
  have H := G.app H
  rw [slcR, if_pos ⟨hso, hL⟩, Sy.slc_slc] at H
  have FC := H.rep.aSy
  simp -implicitDefEqProofs (disch := first | omega | (simp only [List.length_set, List.length_replicate, List.length_append, List.length_map, List.length_take, List.length_cons, List.length_nil]; omega)) [wrap64, hso, hL, FC, FS, setC]
  refine (c_RelevantVars H.sw3.rep H.sw4.rep).go ?_
  rintro _ h5 ⟨d, rfl, G⟩
  have H := G.app H
  rw [relR, if_pos q'] at H
  simp -implicitDefEqProofs (disch := first | omega | (simp only [List.length_set, List.length_replicate, List.length_append, List.length_map, List.length_take, List.length_cons, List.length_nil]; omega)) [wrap64, FA]
  refine (c_SystemVars hso H.sw3.rep).go ?_
  rintro _ h6 ⟨rd, wr, M, W, rfl, G, hW⟩
  have H := G.app H
  have hM3 : (s.rel L).length = 3 := Sy.rel_len
  have hW3 := hW.1
  have Rw := H.rep
  have Rd := H.sw2.rep
  have Rc := H.sw3.rep
  have Ra := H.sw5.rep
  have l6 := H.base
  clear H G
  obtain ⟨Q, hQ⟩ : ∃ Q, Q = s.rel L := ⟨_, rfl⟩
  rw [← hQ] at Rd hM3
  have hget : ∀ {i : Nat} (_ : i < 3) (hw : W[i]'(by omega) = true), Q[i]'(by omega) = true := fun {i} hi hw => by
    obtain ⟨p, hp, e, he, h0, h1⟩ := hW.2 i (by simpa [hW3, hi] using hw)
    have := slc_wr hp he h0
    rw [h1, ← hQ] at this
    simpa [hM3, hi] using this
  simp -implicitDefEqProofs (disch := first | omega | (simp only [List.length_set, List.length_replicate, List.length_append, List.length_map, List.length_take, List.length_cons, List.length_nil]; omega)) [wrap64]
  refine wp_count 3 (fun i e h' => e = [none, none, none, none, some a, none, none, none, some c, some (.bool true), some d, some wr, some (.int .i64 i)] ∧ h' = h6) ⟨by simp, rfl⟩ ?_
  rintro J i _ h7 hJ hi ⟨rfl, rfl⟩
  simp -implicitDefEqProofs (disch := first | omega | (simp only [List.length_set, List.length_replicate, List.length_append, List.length_map, List.length_take, List.length_cons, List.length_nil]; omega)) [wrap64, Rd.len, hM3]
  refine IteW.mk (fun hlt => ?_) (fun hge2 => ?_)
  · have hi : i < 3 := by omega
    by_cases hw : W[i]'(by omega) = true
    · have hq := hget hi hw
      simp -implicitDefEqProofs (disch := first | omega | (simp only [List.length_set, List.length_replicate, List.length_append, List.length_map, List.length_take, List.length_cons, List.length_nil]; omega)) [wrap64, Rw.B, hw, Rd.B, hq]
      exact hJ _ _ hi ⟨by simp, rfl⟩
    · simp -implicitDefEqProofs (disch := first | omega | (simp only [List.length_set, List.length_replicate, List.length_append, List.length_map, List.length_take, List.length_cons, List.length_nil]; omega)) [wrap64, Rw.B, hw]
      exact hJ _ _ hi ⟨by simp, rfl⟩
  simp -implicitDefEqProofs (disch := first | omega | (simp only [List.length_set, List.length_replicate, List.length_append, List.length_map, List.length_take, List.length_cons, List.length_nil]; omega)) [wrap64, Rc.aSy, Ra.aSy]
  refine (c_SystemSame Rc Ra).go ?_
  rintro _ h7 ⟨rfl, rfl⟩
  simp -implicitDefEqProofs (disch := first | omega | (simp only [List.length_set, List.length_replicate, List.length_append, List.length_map, List.length_take, List.length_cons, List.length_nil]; omega)) [wrap64, Ra.aSy]
  refine (c_SystemValid Ra).go ?_
  rintro _ h8 ⟨l8, rfl⟩
  simp -implicitDefEqProofs (disch := first | omega | (simp only [List.length_set, List.length_replicate, List.length_append, List.length_map, List.length_take, List.length_cons, List.length_nil]; omega)) [wrap64, hso]
  exact RetK.keep (hk _ _ ⟨l6.trans l8, rfl⟩)
end Go.Proofs.Ythgimpheeemooaa
