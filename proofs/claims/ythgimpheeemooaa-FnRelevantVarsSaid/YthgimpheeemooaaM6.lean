/-
  Texts of this proof, one behind the other.
-/
import Derived.Test.YthgimpheeemooaaM5
/-
  Arguments of laws: systems that are drawn.
-/
namespace Go.Proofs.Ythgimpheeemooaa
open Go
set_option linter.all false
set_option linter.unusedVariables false
set_option linter.unusedSimpArgs false
set_option linter.defProp false
set_option maxRecDepth 1000000

theorem c_l2System {g h : Heap} {Γ : List HP} {b : Nat} {sl : Value} {l : List (BitVec 8)} {p : Int} (R : Rep g sl l) (H : HS g (rb b sl p :: Γ) h) (hp : 0 ≤ p) (hp2 : p + 2000 ≤ 1000000000000) :
    CallE Try.prog fn_spec_l2System [.pointer (some ⟨b, 0, none⟩)] h (fun u h' => ∃ (y : Sy) (p' : Int), HS g (ow u y :: rb b sl p' :: Γ) h' ∧ y.Sm 40 ∧ p ≤ p' ∧ p' ≤ p + 1400) := by
  have i0 : I64 0 := ⟨by decide, by decide⟩
  refine CallE.gen fun k hk => EN_spec_l2System rfl ?_
  simp -implicitDefEqProofs (disch := first | omega | (simp only [List.length_set, List.length_replicate, List.length_append, List.length_map, List.length_take, List.length_cons, List.length_nil]; omega)) [wrap64]
  refine (c_pick (n := 2) R H (by omega) (by omega) ⟨by decide, by decide⟩).go ?_
  rintro _ h1 ⟨r1, rfl, o1, z1, y1, H⟩
  simp -implicitDefEqProofs (disch := first | omega | (simp only [List.length_set, List.length_replicate, List.length_append, List.length_map, List.length_take, List.length_cons, List.length_nil]; omega)) [wrap64]
  refine H.bls [(0 : Int), 0, 1, 3] rfl rfl (okL (by decide)) (by decide) fun q hq H => ?_
  simp -implicitDefEqProofs (disch := first | omega | (simp only [List.length_set, List.length_replicate, List.length_append, List.length_map, List.length_take, List.length_cons, List.length_nil]; omega)) [wrap64]
  refine (c_num R H (by omega) (by omega) (by simp)).go ?_
  rintro _ h1 ⟨r2, rfl, o2, _, H⟩
  simp -implicitDefEqProofs (disch := first | omega | (simp only [List.length_set, List.length_replicate, List.length_append, List.length_map, List.length_take, List.length_cons, List.length_nil]; omega)) [wrap64]
  refine H.bls [r1, r2, 0] rfl rfl (by intro x hx; simp at hx; rcases hx with rfl | rfl | rfl <;> first | exact o1 | exact o2 | exact i0) (by decide) fun wi hq H => ?_
  have hOi := H.rep.one
  have hCi := H.rep.cells
  simp -implicitDefEqProofs (disch := first | omega | (simp only [List.length_set, List.length_replicate, List.length_append, List.length_map, List.length_take, List.length_cons, List.length_nil]; omega)) [wrap64, setC, hOi, hCi]
  refine H.bls [(2 : Int), 1, 2, 3] rfl rfl (okL (by decide)) (by decide) fun q hq H => ?_
  simp -implicitDefEqProofs (disch := first | omega | (simp only [List.length_set, List.length_replicate, List.length_append, List.length_map, List.length_take, List.length_cons, List.length_nil]; omega)) [wrap64]
  refine (c_num R H.sw1.bk2 (by omega) (by omega) (by simp)).go ?_
  rintro _ h1 ⟨r3, rfl, o3, hr3, H⟩
  obtain ⟨n, rfl, hn⟩ : ∃ n : Nat, r3 = n ∧ n ≤ 3 := by
    simp at hr3
    rcases hr3 with rfl | rfl | rfl | rfl <;> first | exact ⟨2, rfl, by decide⟩ | exact ⟨1, rfl, by decide⟩ | exact ⟨3, rfl, by decide⟩
  simp -implicitDefEqProofs (disch := first | omega | (simp only [List.length_set, List.length_replicate, List.length_append, List.length_map, List.length_take, List.length_cons, List.length_nil]; omega)) [wrap64]
  refine wp_while (σ := Nat) (fun i e h' => ∃ (ps : List Pr) (w : Value) (p' : Int), e = [some (.pointer (some ⟨b, 0, none⟩)), some (.agg #[.slice none 0 0, .slice none 0 0]), some (.agg #[wi, w]), some (.int .i64 i), none, none] ∧ HS g (ow w ps :: ow wi [r1, r2, 0] :: rb b sl p' :: Γ) h' ∧ ps.length + i ≤ 3 ∧ (∀ x ∈ ps, x.Sm 40) ∧ p ≤ p' ∧ p' + 452 * i ≤ p + 3 + 3 * 452) (fun i => i) n ⟨[], .slice none 0 0, _, by simp, H.sw1.nil_ow, by simpa using hn, by simp, by omega, by omega⟩ ?_
  clear H hOi hCi
  rintro J i _ h3 hJ ⟨ps, w, p1, rfl, H, hpl, hps, hp3, hp4⟩
  have hOi := H.sw1.rep.one
  have hCi := H.sw1.rep.cells
  have hOw := H.rep.one
  have hCw := H.rep.cells
  by_cases c0 : 0 < i
  · have c0' : (0 : Int) < i := by omega
    simp -implicitDefEqProofs (disch := first | omega | (simp only [List.length_set, List.length_replicate, List.length_append, List.length_map, List.length_take, List.length_cons, List.length_nil]; omega)) [wrap64, c0, c0']
    refine H.bls [(2 : Int), 3, 1, 2] rfl rfl (okL (by decide)) (by decide) fun q hq H => ?_
    simp -implicitDefEqProofs (disch := first | omega | (simp only [List.length_set, List.length_replicate, List.length_append, List.length_map, List.length_take, List.length_cons, List.length_nil]; omega)) [wrap64]
    refine (c_num R (H.under fun _ H => H.sw2) (by omega) (by omega) (by simp)).go ?_
    rintro _ h4 ⟨lo, rfl, olo, _, H⟩
    simp -implicitDefEqProofs (disch := first | omega | (simp only [List.length_set, List.length_replicate, List.length_append, List.length_map, List.length_take, List.length_cons, List.length_nil]; omega)) [wrap64, setC]
    refine H.bls [(3 : Int), 4, 2, 5, 1] rfl rfl (okL (by decide)) (by decide) fun q hq H => ?_
    simp -implicitDefEqProofs (disch := first | omega | (simp only [List.length_set, List.length_replicate, List.length_append, List.length_map, List.length_take, List.length_cons, List.length_nil]; omega)) [wrap64]
    refine (c_num R H (by omega) (by omega) (by simp)).go ?_
    rintro _ h4 ⟨r5, rfl, o5, hr5, H⟩
    obtain ⟨n5, rfl, hn5⟩ : ∃ n : Nat, r5 = n ∧ n ≤ 5 := by
      simp at hr5
      rcases hr5 with rfl | rfl | rfl | rfl | rfl <;> first | exact ⟨3, rfl, by decide⟩ | exact ⟨4, rfl, by decide⟩ | exact ⟨2, rfl, by decide⟩ | exact ⟨5, rfl, by decide⟩ | exact ⟨1, rfl, by decide⟩
    simp -implicitDefEqProofs (disch := first | omega | (simp only [List.length_set, List.length_replicate, List.length_append, List.length_map, List.length_take, List.length_cons, List.length_nil]; omega)) [wrap64]
    refine wp_while (σ := Nat) (fun k e h' => ∃ (es : List Ed) (we : Value) (p' : Int), e = [some (.pointer (some ⟨b, 0, none⟩)), some (.agg #[.slice none 0 0, .slice none 0 0]), some (.agg #[wi, w]), some (.int .i64 i), some (.agg #[.int .i64 lo, we]), some (.int .i64 k)] ∧ HS g (ow we es :: rb b sl p' :: ow w ps :: ow wi [r1, r2, 0] :: Γ) h' ∧ es.length + k ≤ 5 ∧ (∀ x ∈ es, x.Sm 40) ∧ p1 ≤ p' ∧ p' + 90 * k ≤ p1 + 2 + 450) (fun i => i) n5 ⟨[], .slice none 0 0, _, by simp, H.nil_ow, by simpa using hn5, by simp, by omega, by omega⟩ ?_
    clear H
    rintro J2 k2 _ h5 hJ2 ⟨es, we, p2, rfl, H, hel, hes, hp5, hp6⟩
    by_cases c1 : 0 < k2
    · have c1' : (0 : Int) < k2 := by omega
      simp -implicitDefEqProofs (disch := first | omega | (simp only [List.length_set, List.length_replicate, List.length_append, List.length_map, List.length_take, List.length_cons, List.length_nil]; omega)) [wrap64, c1, c1', setC]
      refine (c_l2DrawEdge R H.sw1 (by omega) (by omega) olo).go ?_
      rintro _ h6 ⟨y, p3, H, hy, hp7, hp8⟩
      obtain ⟨w1, w2, rfl, ok, H'⟩ := H.unEd
      have hO1 := H'.rep.one
      have hC1 := H'.rep.cells
      have hO2 := H'.sw1.rep.one
      have hC2 := H'.sw1.rep.cells
      simp -implicitDefEqProofs (disch := first | omega | (simp only [List.length_set, List.length_replicate, List.length_append, List.length_map, List.length_take, List.length_cons, List.length_nil]; omega)) [wrap64, setC, Ed.cs, hO1, hC1, hO2, hC2]
      refine HS.appO (bytes := 112) H.sw2.sw1 rfl rfl rfl rfl rfl (by omega) (by omega) fun we' h7 H => ?_
      simp -implicitDefEqProofs (disch := first | omega | (simp only [List.length_set, List.length_replicate, List.length_append, List.length_map, List.length_take, List.length_cons, List.length_nil]; omega)) [wrap64, setC, H.rep.one, H.rep.cells]
      refine hJ2 (k2 - 1) _ _ (by omega) ⟨es ++ [y], we', p3, by simp; omega, H, by simp; omega, ?_, by omega, by omega⟩
      intro x hx
      simp only [List.mem_append, List.mem_singleton] at hx
      rcases hx with hx | rfl
      · exact hes x hx
      · exact hy
    · have c1' : ¬ ((0 : Int) < k2) := by omega
      have hOe := H.rep.one
      have hCe := H.rep.cells
      simp -implicitDefEqProofs (disch := first | omega | (simp only [List.length_set, List.length_replicate, List.length_append, List.length_map, List.length_take, List.length_cons, List.length_nil]; omega)) [wrap64, c1, c1', setC, hOe, hCe]
      refine HS.appO (bytes := 32) (HS.mkPr (p := ⟨lo, es⟩) H olo |>.sw2.sw1) rfl rfl rfl rfl rfl (by omega) (by omega) fun w' h7 H => ?_
      simp -implicitDefEqProofs (disch := first | omega | (simp only [List.length_set, List.length_replicate, List.length_append, List.length_map, List.length_take, List.length_cons, List.length_nil]; omega)) [wrap64, setC, H.rep.one, H.rep.cells]
      refine hJ (i - 1) _ _ (by omega) ⟨ps ++ [⟨lo, es⟩], w', p2, by simp; omega, H.under fun _ H => H.sw1, by simp; omega, ?_, by omega, by omega⟩
      intro x hx
      simp only [List.mem_append, List.mem_singleton] at hx
      rcases hx with hx | rfl
      · exact hps x hx
      · exact ⟨by dsimp only; omega, hes⟩
  · have c0' : ¬ ((0 : Int) < i) := by omega
    simp -implicitDefEqProofs (disch := first | omega | (simp only [List.length_set, List.length_replicate, List.length_append, List.length_map, List.length_take, List.length_cons, List.length_nil]; omega)) [wrap64, c0, c0', setC, hOi, hCi, hOw, hCw]
    exact RetK.keep (hk _ _ ⟨⟨[r1, r2, 0], ps⟩, p1, HS.mkSy (s := ⟨[r1, r2, 0], ps⟩) H.sw1, ⟨by simp, by dsimp only; omega, hps⟩, by omega, by omega⟩)
end Go.Proofs.Ythgimpheeemooaa

/-
  Arguments of laws: copies of systems.
-/
namespace Go.Proofs.Ythgimpheeemooaa
open Go
set_option linter.all false
set_option linter.unusedVariables false
set_option linter.unusedSimpArgs false
set_option linter.defProp false
set_option maxRecDepth 1000000

theorem c_l2Copy {h : Heap} {v : Value} {s : Sy} {n : Nat} (R : Rep h v s) (hs : s.Sm n) (hn : n ≤ 1000) : CallE Try.prog fn_spec_l2Copy [v] h (fun u h' => ∃ y : Sy, HS h [ow u y] h' ∧ y.Sm n ∧ y.procs.length = s.procs.length) := by
  obtain ⟨v1, v2, rfl, R1, R2'⟩ := Rep_Sy.1 R
  have hil := hs.il
  have hpl := hs.pl
  have hO1 := R1.one
  have hO2 := R2'.one
  refine CallE.gen fun k hk => EN_spec_l2Copy rfl ?_
  simp -implicitDefEqProofs (disch := first | omega | (simp only [List.length_set, List.length_replicate, List.length_append, List.length_map, List.length_take, List.length_cons, List.length_nil]; omega)) [wrap64]
  refine HS.appPL (α := Int) (l2 := s.init) HS.init rfl rfl R1 rfl rfl (by omega) fun wi h1 H => ?_
  simp -implicitDefEqProofs (disch := first | omega | (simp only [List.length_set, List.length_replicate, List.length_append, List.length_map, List.length_take, List.length_cons, List.length_nil]; omega)) [wrap64, setC, H.rep.one, H.rep.cells]
  refine wp_count s.procs.length (fun i e h' => ∃ (ps : List Pr) (w : Value), e = [none, some (.agg #[v1, v2]), some (.agg #[.slice none 0 0, .slice none 0 0]), some (.agg #[wi, w]), some (.int .i64 i), none, none, none] ∧ HS h [ow w ps, ow wi s.init] h' ∧ ps.length = i ∧ ∀ x ∈ ps, x.Sm n) ⟨[], .slice none 0 0, by simp, H.nil_ow, rfl, by simp⟩ ?_
  clear H
  rintro J i _ h2 hJ hi ⟨ps, w, rfl, H, hpsl, hps⟩
  have hOi := H.sw1.rep.one
  have hCi := H.sw1.rep.cells
  have hOw := H.rep.one
  have hCw := H.rep.cells
  simp -implicitDefEqProofs (disch := first | omega | (simp only [List.length_set, List.length_replicate, List.length_append, List.length_map, List.length_take, List.length_cons, List.length_nil]; omega)) [wrap64, (R2'.on H).len]
  refine IteW.mk (fun hlt => ?_) (fun hge => ?_)
  · have hi : i < s.procs.length := by omega
    have hpi := hs.pp _ (List.getElem_mem hi)
    have hel := hpi.el
    obtain ⟨u, hu, Ru⟩ := R2'.ld hi
    change hload _ (some (elp 2 v2 i)) (some 2) = some u at hu
    obtain ⟨we, rfl, k1, R3⟩ := Rep_Pr.1 Ru
    have hP : ∀ {h'}, h.le h' → _ := fun {h'} (hl : h.le h') => hld_parts (hload_le hl hu)
    have hP1 := (hP H.base).1
    have hP2 := (hP H.base).2.2.1
    simp -implicitDefEqProofs (disch := first | omega | (simp only [List.length_set, List.length_replicate, List.length_append, List.length_map, List.length_take, List.length_cons, List.length_nil]; omega)) [wrap64, R2'.X (n := 2) rfl, hP1, hP2, setC]
    refine wp_count s.procs[i].edges.length (fun k e h' => ∃ (es : List Ed) (wp : Value), e = [none, some (.agg #[v1, v2]), some (.agg #[.slice none 0 0, .slice none 0 0]), some (.agg #[wi, w]), some (.int .i64 i), some (.agg #[.int .i64 s.procs[i].locs, wp]), some (.int .i64 k), none] ∧ HS h [ow wp es, ow w ps, ow wi s.init] h' ∧ es.length = k ∧ ∀ x ∈ es, x.Sm n) ⟨[], .slice none 0 0, by simp, H.nil_ow, rfl, by simp⟩ ?_
    clear H hP1 hP2
    rintro J2 k2 _ h3 hJ2 hk2 ⟨es, wp, rfl, H, hesl, hes⟩
    have hP1 := (hP H.base).1
    have hP2 := (hP H.base).2.2.1
    simp -implicitDefEqProofs (disch := first | omega | (simp only [List.length_set, List.length_replicate, List.length_append, List.length_map, List.length_take, List.length_cons, List.length_nil]; omega)) [wrap64, R2'.X (n := 2) rfl, hP1, hP2, R3.len]
    refine IteW.mk (fun hlt2 => ?_) (fun hge2 => ?_)
    · have hk2 : k2 < s.procs[i].edges.length := by omega
      have hek := hpi.ee _ (List.getElem_mem hk2)
      obtain ⟨u2, hu2, Ru2⟩ := R3.ld hk2
      have hu2 := hload_le H.base hu2
      change hload _ (some (elp 10 we k2)) (some 10) = some u2 at hu2
      obtain ⟨w1, w2, rfl, ok, G1, G2⟩ := Rep_Ed.1 Ru2
      have hF1 := G1.one
      have hF2 := G2.one
      have hF3 := G1.cells
      have hF4 := G2.cells
      simp -implicitDefEqProofs (disch := first | omega | (simp only [List.length_set, List.length_replicate, List.length_append, List.length_map, List.length_take, List.length_cons, List.length_nil]; omega)) [wrap64, R2'.X (n := 2) rfl, hP1, hP2, R3.X (n := 10) rfl, hu2, Ed.cs, setC, hF1, hF2]
      refine (c_l1Subst _ ((Rep.gd (w2 := w2) ok G1).on H) (by have := hek.g; omega)).go ?_
      rintro _ h4 ⟨gu, G, hgn⟩
      obtain ⟨wg, rfl, kg1, kg2, G'⟩ := G.unExq
      have hOg := G'.rep.one
      have hCg := G'.rep.cells
      have H := G'.app H
      simp -implicitDefEqProofs (disch := first | omega | (simp only [List.length_set, List.length_replicate, List.length_append, List.length_map, List.length_take, List.length_cons, List.length_nil]; omega)) [wrap64, setC, hF1, hF2, hOg, hCg]
      refine (c_l1Subst _ ((Rep.vl ok G2).on H) (by have := hek.v; omega)).go ?_
      rintro _ h4 ⟨va, G, hvn⟩
      obtain ⟨wv, rfl, kv1, kv2, G'⟩ := G.unExq
      have hOv := G'.rep.one
      have hCv := G'.rep.cells
      have H := G'.app H
      simp -implicitDefEqProofs (disch := first | omega | (simp only [List.length_set, List.length_replicate, List.length_append, List.length_map, List.length_take, List.length_cons, List.length_nil]; omega)) [wrap64, setC, hF1, hF2, hOg, hCg, hOv, hCv]
      have H := HS.mkEd (e := ⟨s.procs[i].edges[k2].frm, s.procs[i].edges[k2].to, gu, s.procs[i].edges[k2].var, va, s.procs[i].edges[k2].sync⟩) H.sw1 ⟨ok.frm, ok.to, kg1, kg2, ok.var, kv1, kv2, ok.sync⟩
      refine HS.appO (bytes := 112) H rfl rfl rfl rfl rfl (by omega) (by omega) fun we' h7 H => ?_
      simp -implicitDefEqProofs (disch := first | omega | (simp only [List.length_set, List.length_replicate, List.length_append, List.length_map, List.length_take, List.length_cons, List.length_nil]; omega)) [wrap64, setC, H.rep.one, H.rep.cells]
      refine hJ2 _ _ hk2 ⟨_, we', by simp, H, by simp [hesl], ?_⟩
      intro x hx
      simp only [List.mem_append, List.mem_singleton] at hx
      rcases hx with hx | rfl
      · exact hes x hx
      · exact ⟨by have := hek.g; dsimp only; omega, by have := hek.v; dsimp only; omega⟩
    · have hOe := H.rep.one
      have hCe := H.rep.cells
      simp -implicitDefEqProofs (disch := first | omega | (simp only [List.length_set, List.length_replicate, List.length_append, List.length_map, List.length_take, List.length_cons, List.length_nil]; omega)) [wrap64, setC, hOe, hCe, hOw, hCw, hOi, hCi]
      refine HS.appO (bytes := 32) (HS.mkPr (p := ⟨s.procs[i].locs, es⟩) H k1) rfl rfl rfl rfl rfl (by omega) (by omega) fun w' h7 H => ?_
      simp -implicitDefEqProofs (disch := first | omega | (simp only [List.length_set, List.length_replicate, List.length_append, List.length_map, List.length_take, List.length_cons, List.length_nil]; omega)) [wrap64, setC, H.rep.one, H.rep.cells, hOi, hCi]
      refine hJ _ _ hi ⟨_, w', by simp, H, by simp [hpsl], ?_⟩
      intro x hx
      simp only [List.mem_append, List.mem_singleton] at hx
      rcases hx with hx | rfl
      · exact hps x hx
      · exact ⟨by dsimp only; omega, hes⟩
  · simp -implicitDefEqProofs (disch := first | omega | (simp only [List.length_set, List.length_replicate, List.length_append, List.length_map, List.length_take, List.length_cons, List.length_nil]; omega)) [wrap64, setC, hOi, hCi, hOw, hCw]
    exact RetK.keep (hk _ _ ⟨⟨s.init, ps⟩, HS.mkSy (s := ⟨s.init, ps⟩) H.sw1, ⟨hs.il, by dsimp only; omega, hps⟩, by dsimp only; omega⟩)
end Go.Proofs.Ythgimpheeemooaa

/-
  Arguments of laws: changed systems.
-/
namespace Go.Proofs.Ythgimpheeemooaa
open Go
set_option linter.all false
set_option linter.unusedVariables false
set_option linter.unusedSimpArgs false
set_option linter.defProp false
set_option maxRecDepth 1000000

theorem Ed.Sm.le {n m : Nat} {e : Ed} (h : e.Sm n) (hn : n ≤ m) : e.Sm m := ⟨by have := h.g; omega, by have := h.v; omega⟩
theorem Pr.Sm.le {n m : Nat} {p : Pr} (h : p.Sm n) (hn : n ≤ m) : p.Sm m := ⟨by have := h.el; omega, fun e he => (h.ee e he).le hn⟩
theorem Sy.Sm.le {n m : Nat} {s : Sy} (h : s.Sm n) (hn : n ≤ m) : s.Sm m := ⟨by have := h.il; omega, by have := h.pl; omega, fun p hp => (h.pp p hp).le hn⟩
theorem Sy.Sm.set {n : Nat} {s : Sy} (h : s.Sm n) {i : Nat} (hi : i < s.procs.length) (he : 0 < s.procs[i].edges.length) {e : Ed} (hs : e.Sm n) : Sy.Sm n ⟨s.init, s.procs.set i ⟨s.procs[i].locs, s.procs[i].edges.set 0 e⟩⟩ := by
  refine ⟨h.il, by simpa using h.pl, fun p hp => ?_⟩
  rcases List.mem_or_eq_of_mem_set hp with h1 | rfl
  · exact h.pp p h1
  · have h2 := h.pp _ (List.getElem_mem hi)
    refine ⟨by simpa using h2.el, fun x hx => ?_⟩
    rcases List.mem_or_eq_of_mem_set hx with h3 | rfl
    · exact h2.ee x h3
    · exact hs

set_option maxHeartbeats 2000000 in
theorem c_l2Mutate {g h : Heap} {Γ : List HP} {b n : Nat} {sl v : Value} {l : List (BitVec 8)} {p : Int} {s : Sy} (R : Rep g sl l) (Rs : Rep g v s) (hs : s.Sm n) (hn : 40 ≤ n) (hn2 : n ≤ 900) (H : HS g (rb b sl p :: Γ) h) (hp : 0 ≤ p) (hp2 : p + 200 ≤ 1000000000000) :
    CallE Try.prog fn_spec_l2Mutate [.pointer (some ⟨b, 0, none⟩), v] h (fun u h' => ∃ (y : Sy) (p' : Int), HS g (ow u y :: rb b sl p' :: Γ) h' ∧ y.Sm (n + 1) ∧ p ≤ p' ∧ p' ≤ p + 100) := by
  have FS := Rs.aSy
  have Rs0 := Rs
  obtain ⟨v1, v2, rfl, R1, R2'⟩ := Rep_Sy.1 Rs
  have hspl := hs.pl
  refine CallE.gen fun k hk => EN_spec_l2Mutate rfl ?_
  simp -implicitDefEqProofs (disch := first | omega | (simp only [List.length_set, List.length_replicate, List.length_append, List.length_map, List.length_take, List.length_cons, List.length_nil]; omega)) [wrap64, FS]
  refine (c_l2Copy (Rs0.on H) hs (by omega)).go ?_
  rintro _ h1 ⟨y, G, hyn, hypl⟩
  obtain ⟨wi, w, rfl, G'⟩ := G.unSy
  have H := G'.app H
  have hy := hyn.le (show n ≤ n + 1 by omega)
  have hyil := hyn.il
  have hOi := H.rep.one
  have hCi := H.rep.cells
  have hOw := H.sw1.rep.one
  have hCw := H.sw1.rep.cells
  have hL2 := (R2'.on H).len
  simp -implicitDefEqProofs (disch := first | omega | (simp only [List.length_set, List.length_replicate, List.length_append, List.length_map, List.length_take, List.length_cons, List.length_nil]; omega)) [wrap64, setC, hOi, hCi, hOw, hCw, hL2]
  have H := H.sw2
  refine (c_pick R H (by omega) (by omega) ⟨by omega, by omega⟩).go ?_
  rintro _ h2 ⟨r, rfl, o0, z0, y0, H⟩
  have y0 := y0 (by omega)
  obtain ⟨p1, hp1⟩ : ∃ p1, p1 = p + 1 := ⟨_, rfl⟩
  rw [← hp1] at H
  have hL2 := (R2'.on H).len
  by_cases q0 : r = s.procs.length
  · simp -implicitDefEqProofs (disch := first | omega | (simp only [List.length_set, List.length_replicate, List.length_append, List.length_map, List.length_take, List.length_cons, List.length_nil]; omega)) [wrap64, hL2, q0]
    refine (c_pick (n := 50) R H (by omega) (by omega) ⟨by decide, by decide⟩).go ?_
    rintro _ h3 ⟨r6, rfl, o6, z6, y6, H⟩
    by_cases c0 : r6 = 0
    · simp -implicitDefEqProofs (disch := first | omega | (simp only [List.length_set, List.length_replicate, List.length_append, List.length_map, List.length_take, List.length_cons, List.length_nil]; omega)) [wrap64, c0, setC]
      refine HS.app1 (bytes := 8) H.sw1 (0 : Int) rfl rfl rfl ⟨by decide, by decide⟩ rfl rfl (by omega) (by omega) fun wi' h5 H => ?_
      simp -implicitDefEqProofs (disch := first | omega | (simp only [List.length_set, List.length_replicate, List.length_append, List.length_map, List.length_take, List.length_cons, List.length_nil]; omega)) [wrap64, setC, H.rep.one, H.rep.cells, hOw, hCw]
      exact RetK.keep (hk _ _ ⟨⟨y.init ++ [0], y.procs⟩, _, HS.mkSy (s := ⟨y.init ++ [0], y.procs⟩) (H.under fun _ H => H.sw1), ⟨by have := hyn.il; simp; omega, hy.pl, hy.pp⟩, by omega, by omega⟩)
    by_cases c1 : r6 = 1
    · simp -implicitDefEqProofs (disch := first | omega | (simp only [List.length_set, List.length_replicate, List.length_append, List.length_map, List.length_take, List.length_cons, List.length_nil]; omega)) [wrap64, c0, c1]
      refine H.bls [(0 : Int), 1, 4, 5] rfl rfl (okL (by decide)) (by decide) fun q hq H => ?_
      simp -implicitDefEqProofs (disch := first | omega | (simp only [List.length_set, List.length_replicate, List.length_append, List.length_map, List.length_take, List.length_cons, List.length_nil]; omega)) [wrap64]
      refine (c_num R H (by omega) (by omega) (by simp)).go ?_
      rintro _ h4 ⟨r7, rfl, o7, _, H⟩
      simp -implicitDefEqProofs (disch := first | omega | (simp only [List.length_set, List.length_replicate, List.length_append, List.length_map, List.length_take, List.length_cons, List.length_nil]; omega)) [wrap64, setC]
      have H := HS.mkPr (p := ⟨r7, []⟩) (H.nil_ow (α := Ed)) o7
      refine HS.appO (bytes := 32) (H.sw3.sw1) rfl rfl rfl rfl rfl (by omega) (by omega) fun w' h7 H => ?_
      simp -implicitDefEqProofs (disch := first | omega | (simp only [List.length_set, List.length_replicate, List.length_append, List.length_map, List.length_take, List.length_cons, List.length_nil]; omega)) [wrap64, setC, hOi, hCi, H.rep.one, H.rep.cells]
      refine RetK.keep (hk _ _ ⟨_, _, HS.mkSy (s := ⟨y.init, y.procs ++ [⟨r7, []⟩]⟩) H.sw2, ⟨hy.il, by have := hyn.pl; simp; omega, ?_⟩, by omega, by omega⟩)
      intro x hx
      simp only [List.mem_append, List.mem_singleton] at hx
      rcases hx with hx | rfl
      · exact hy.pp x hx
      · exact ⟨by simp, by simp⟩
    by_cases c2 : r6 = 2
    · simp -implicitDefEqProofs (disch := first | omega | (simp only [List.length_set, List.length_replicate, List.length_append, List.length_map, List.length_take, List.length_cons, List.length_nil]; omega)) [wrap64, c0, c1, c2, setC, hOi, hCi, hOw, hCw]
      exact RetK.keep (hk _ _ ⟨y, _, HS.mkSy H.sw2.sw2, hy, by omega, by omega⟩)
    by_cases c3 : r6 = 3
    · simp -implicitDefEqProofs (disch := first | omega | (simp only [List.length_set, List.length_replicate, List.length_append, List.length_map, List.length_take, List.length_cons, List.length_nil]; omega)) [wrap64, c0, c1, c2, c3, setC, hOi, hCi, hOw, hCw]
      exact RetK.keep (hk _ _ ⟨y, _, HS.mkSy H.sw2.sw2, hy, by omega, by omega⟩)
    by_cases c4 : r6 = 4
    · simp -implicitDefEqProofs (disch := first | omega | (simp only [List.length_set, List.length_replicate, List.length_append, List.length_map, List.length_take, List.length_cons, List.length_nil]; omega)) [wrap64, c0, c1, c2, c3, c4, setC, hOi, hCi, hOw, hCw]
      exact RetK.keep (hk _ _ ⟨y, _, HS.mkSy H.sw2.sw2, hy, by omega, by omega⟩)
    by_cases c5 : r6 = 5
    · simp -implicitDefEqProofs (disch := first | omega | (simp only [List.length_set, List.length_replicate, List.length_append, List.length_map, List.length_take, List.length_cons, List.length_nil]; omega)) [wrap64, c0, c1, c2, c3, c4, c5, setC, hOi, hCi, hOw, hCw]
      exact RetK.keep (hk _ _ ⟨y, _, HS.mkSy H.sw2.sw2, hy, by omega, by omega⟩)
    by_cases c6 : r6 = 6
    · simp -implicitDefEqProofs (disch := first | omega | (simp only [List.length_set, List.length_replicate, List.length_append, List.length_map, List.length_take, List.length_cons, List.length_nil]; omega)) [wrap64, c0, c1, c2, c3, c4, c5, c6, setC]
      exact RetK.keep (hk _ _ ⟨⟨[], []⟩, p1 + 1, HS.mkSy (s := ⟨[], []⟩) (H.sw2.drop.sw1.drop.nil_ow.nil_ow), ⟨by simp, by simp, by simp⟩, by omega, by omega⟩)
    · simp -implicitDefEqProofs (disch := first | omega | (simp only [List.length_set, List.length_replicate, List.length_append, List.length_map, List.length_take, List.length_cons, List.length_nil]; omega)) [wrap64, c0, c1, c2, c3, c4, c5, c6, setC, hOi, hCi, hOw, hCw]
      exact RetK.keep (hk _ _ ⟨y, _, HS.mkSy H.sw2.sw2, hy, by omega, by omega⟩)
  obtain ⟨i, rfl⟩ : ∃ i : Nat, r = i := ⟨r.toNat, (Int.toNat_of_nonneg z0).symm⟩
  have hi : i < y.procs.length := by omega
  have hpi := hyn.pp _ (List.getElem_mem hi)
  obtain ⟨u, hu, Ru⟩ := H.sw2.rep.ld hi
  change hload _ (some (elp 2 w i)) (some 2) = some u at hu
  obtain ⟨we, rfl, kl, R3⟩ := Rep_Pr.1 Ru
  have hP := hld_parts (cs := [.int .i64 y.procs[i].locs, we]) hu
  obtain ⟨ln, hln⟩ : ∃ ln : Int, ln = y.procs[i].edges.length := ⟨_, rfl⟩
  have hlen := R3.len
  rw [← hln] at hlen
  have hX := H.sw2.rep.X (n := 2) rfl
  by_cases q1 : ln = 0
  · simp -implicitDefEqProofs (disch := first | omega | (simp only [List.length_set, List.length_replicate, List.length_append, List.length_map, List.length_take, List.length_cons, List.length_nil]; omega)) [wrap64, hL2, q0, hX, hP.1, hP.2.2.1, hlen, q1]
    refine (c_pick (n := 50) R H (by omega) (by omega) ⟨by decide, by decide⟩).go ?_
    rintro _ h3 ⟨r6, rfl, o6, z6, y6, H⟩
    by_cases c0 : r6 = 0
    · simp -implicitDefEqProofs (disch := first | omega | (simp only [List.length_set, List.length_replicate, List.length_append, List.length_map, List.length_take, List.length_cons, List.length_nil]; omega)) [wrap64, c0, setC]
      refine HS.app1 (bytes := 8) H.sw1 (0 : Int) rfl rfl rfl ⟨by decide, by decide⟩ rfl rfl (by omega) (by omega) fun wi' h5 H => ?_
      simp -implicitDefEqProofs (disch := first | omega | (simp only [List.length_set, List.length_replicate, List.length_append, List.length_map, List.length_take, List.length_cons, List.length_nil]; omega)) [wrap64, setC, H.rep.one, H.rep.cells, hOw, hCw]
      exact RetK.keep (hk _ _ ⟨⟨y.init ++ [0], y.procs⟩, _, HS.mkSy (s := ⟨y.init ++ [0], y.procs⟩) (H.under fun _ H => H.sw1), ⟨by have := hyn.il; simp; omega, hy.pl, hy.pp⟩, by omega, by omega⟩)
    by_cases c1 : r6 = 1
    · simp -implicitDefEqProofs (disch := first | omega | (simp only [List.length_set, List.length_replicate, List.length_append, List.length_map, List.length_take, List.length_cons, List.length_nil]; omega)) [wrap64, c0, c1]
      refine H.bls [(0 : Int), 1, 4, 5] rfl rfl (okL (by decide)) (by decide) fun q hq H => ?_
      simp -implicitDefEqProofs (disch := first | omega | (simp only [List.length_set, List.length_replicate, List.length_append, List.length_map, List.length_take, List.length_cons, List.length_nil]; omega)) [wrap64]
      refine (c_num R H (by omega) (by omega) (by simp)).go ?_
      rintro _ h4 ⟨r7, rfl, o7, _, H⟩
      simp -implicitDefEqProofs (disch := first | omega | (simp only [List.length_set, List.length_replicate, List.length_append, List.length_map, List.length_take, List.length_cons, List.length_nil]; omega)) [wrap64, setC]
      have H := HS.mkPr (p := ⟨r7, []⟩) (H.nil_ow (α := Ed)) o7
      refine HS.appO (bytes := 32) (H.sw3.sw1) rfl rfl rfl rfl rfl (by omega) (by omega) fun w' h7 H => ?_
      simp -implicitDefEqProofs (disch := first | omega | (simp only [List.length_set, List.length_replicate, List.length_append, List.length_map, List.length_take, List.length_cons, List.length_nil]; omega)) [wrap64, setC, hOi, hCi, H.rep.one, H.rep.cells]
      refine RetK.keep (hk _ _ ⟨_, _, HS.mkSy (s := ⟨y.init, y.procs ++ [⟨r7, []⟩]⟩) H.sw2, ⟨hy.il, by have := hyn.pl; simp; omega, ?_⟩, by omega, by omega⟩)
      intro x hx
      simp only [List.mem_append, List.mem_singleton] at hx
      rcases hx with hx | rfl
      · exact hy.pp x hx
      · exact ⟨by simp, by simp⟩
    by_cases c2 : r6 = 2
    · simp -implicitDefEqProofs (disch := first | omega | (simp only [List.length_set, List.length_replicate, List.length_append, List.length_map, List.length_take, List.length_cons, List.length_nil]; omega)) [wrap64, c0, c1, c2, setC, hOi, hCi, hOw, hCw]
      exact RetK.keep (hk _ _ ⟨y, _, HS.mkSy H.sw2.sw2, hy, by omega, by omega⟩)
    by_cases c3 : r6 = 3
    · simp -implicitDefEqProofs (disch := first | omega | (simp only [List.length_set, List.length_replicate, List.length_append, List.length_map, List.length_take, List.length_cons, List.length_nil]; omega)) [wrap64, c0, c1, c2, c3, setC, hOi, hCi, hOw, hCw]
      exact RetK.keep (hk _ _ ⟨y, _, HS.mkSy H.sw2.sw2, hy, by omega, by omega⟩)
    by_cases c4 : r6 = 4
    · simp -implicitDefEqProofs (disch := first | omega | (simp only [List.length_set, List.length_replicate, List.length_append, List.length_map, List.length_take, List.length_cons, List.length_nil]; omega)) [wrap64, c0, c1, c2, c3, c4, setC, hOi, hCi, hOw, hCw]
      exact RetK.keep (hk _ _ ⟨y, _, HS.mkSy H.sw2.sw2, hy, by omega, by omega⟩)
    by_cases c5 : r6 = 5
    · simp -implicitDefEqProofs (disch := first | omega | (simp only [List.length_set, List.length_replicate, List.length_append, List.length_map, List.length_take, List.length_cons, List.length_nil]; omega)) [wrap64, c0, c1, c2, c3, c4, c5, setC, hOi, hCi, hOw, hCw]
      exact RetK.keep (hk _ _ ⟨y, _, HS.mkSy H.sw2.sw2, hy, by omega, by omega⟩)
    by_cases c6 : r6 = 6
    · simp -implicitDefEqProofs (disch := first | omega | (simp only [List.length_set, List.length_replicate, List.length_append, List.length_map, List.length_take, List.length_cons, List.length_nil]; omega)) [wrap64, c0, c1, c2, c3, c4, c5, c6, setC]
      exact RetK.keep (hk _ _ ⟨⟨[], []⟩, p1 + 1, HS.mkSy (s := ⟨[], []⟩) (H.sw2.drop.sw1.drop.nil_ow.nil_ow), ⟨by simp, by simp, by simp⟩, by omega, by omega⟩)
    · simp -implicitDefEqProofs (disch := first | omega | (simp only [List.length_set, List.length_replicate, List.length_append, List.length_map, List.length_take, List.length_cons, List.length_nil]; omega)) [wrap64, c0, c1, c2, c3, c4, c5, c6, setC, hOi, hCi, hOw, hCw]
      exact RetK.keep (hk _ _ ⟨y, _, HS.mkSy H.sw2.sw2, hy, by omega, by omega⟩)
  have he : 0 < y.procs[i].edges.length := by omega
  have hek := hpi.ee _ (List.getElem_mem he)
  have heg : y.procs[i].edges[0].guard.nod ≤ n + 1 := by have := hek.g; omega
  have hev : y.procs[i].edges[0].value.nod ≤ n + 1 := by have := hek.v; omega
  simp -implicitDefEqProofs (disch := first | omega | (simp only [List.length_set, List.length_replicate, List.length_append, List.length_map, List.length_take, List.length_cons, List.length_nil]; omega)) [wrap64, hL2, q0, hX, hP.1, hP.2.2.1, hlen, q1]
  refine (c_pick (n := 50) R H (by omega) (by omega) ⟨by decide, by decide⟩).go ?_
  rintro _ h3 ⟨r6, rfl, o6, z6, y6, H⟩
  by_cases c0 : r6 = 0
  · simp -implicitDefEqProofs (disch := first | omega | (simp only [List.length_set, List.length_replicate, List.length_append, List.length_map, List.length_take, List.length_cons, List.length_nil]; omega)) [wrap64, c0, setC]
    refine HS.app1 (bytes := 8) H.sw1 (0 : Int) rfl rfl rfl ⟨by decide, by decide⟩ rfl rfl (by omega) (by omega) fun wi' h5 H => ?_
    simp -implicitDefEqProofs (disch := first | omega | (simp only [List.length_set, List.length_replicate, List.length_append, List.length_map, List.length_take, List.length_cons, List.length_nil]; omega)) [wrap64, setC, H.rep.one, H.rep.cells, hOw, hCw]
    exact RetK.keep (hk _ _ ⟨⟨y.init ++ [0], y.procs⟩, _, HS.mkSy (s := ⟨y.init ++ [0], y.procs⟩) (H.under fun _ H => H.sw1), ⟨by have := hyn.il; simp; omega, hy.pl, hy.pp⟩, by omega, by omega⟩)
  by_cases c1 : r6 = 1
  · simp -implicitDefEqProofs (disch := first | omega | (simp only [List.length_set, List.length_replicate, List.length_append, List.length_map, List.length_take, List.length_cons, List.length_nil]; omega)) [wrap64, c0, c1]
    refine H.bls [(0 : Int), 1, 4, 5] rfl rfl (okL (by decide)) (by decide) fun q hq H => ?_
    simp -implicitDefEqProofs (disch := first | omega | (simp only [List.length_set, List.length_replicate, List.length_append, List.length_map, List.length_take, List.length_cons, List.length_nil]; omega)) [wrap64]
    refine (c_num R H (by omega) (by omega) (by simp)).go ?_
    rintro _ h4 ⟨r7, rfl, o7, _, H⟩
    simp -implicitDefEqProofs (disch := first | omega | (simp only [List.length_set, List.length_replicate, List.length_append, List.length_map, List.length_take, List.length_cons, List.length_nil]; omega)) [wrap64, setC]
    have H := HS.mkPr (p := ⟨r7, []⟩) (H.nil_ow (α := Ed)) o7
    refine HS.appO (bytes := 32) (H.sw3.sw1) rfl rfl rfl rfl rfl (by omega) (by omega) fun w' h7 H => ?_
    simp -implicitDefEqProofs (disch := first | omega | (simp only [List.length_set, List.length_replicate, List.length_append, List.length_map, List.length_take, List.length_cons, List.length_nil]; omega)) [wrap64, setC, hOi, hCi, H.rep.one, H.rep.cells]
    refine RetK.keep (hk _ _ ⟨_, _, HS.mkSy (s := ⟨y.init, y.procs ++ [⟨r7, []⟩]⟩) H.sw2, ⟨hy.il, by have := hyn.pl; simp; omega, ?_⟩, by omega, by omega⟩)
    intro x hx
    simp only [List.mem_append, List.mem_singleton] at hx
    rcases hx with hx | rfl
    · exact hy.pp x hx
    · exact ⟨by simp, by simp⟩
  by_cases c2 : r6 = 2
  · have H := H.sw2
    obtain ⟨uP, huP, H⟩ := HS.take H hi
    obtain ⟨we, rfl, kl, H⟩ := H.unPr
    obtain ⟨uE, huE, H⟩ := HS.take H he
    obtain ⟨x1, x2, rfl, ok, H⟩ := H.unEd
    have hiaP := HS.holeia H.sw3 (n := 2) (kd := .i64) rfl hi
    have hPP := hld_parts (cs := [.int .i64 y.procs[i].locs, we]) (HS.holeP H.sw3 (n := 2) rfl rfl)
    have hiaE : iaV 10 we (.int .i64 0) = some (elp 10 we 0) := HS.holeia H.sw2 (n := 10) (kd := .i64) rfl he
    have H := H.sw4
    simp -implicitDefEqProofs (disch := first | omega | (simp only [List.length_set, List.length_replicate, List.length_append, List.length_map, List.length_take, List.length_cons, List.length_nil]; omega)) [wrap64, c0, c1, c2, hiaP, hPP.1, hPP.2.2.1, hiaE]
    refine (c_l1Expr R H (by omega) (by omega)).go ?_
    rintro _ h4 ⟨e1, p3, H, hen, hp5, hp6⟩
    have FA := H.rep.aExq
    have hPP := hld_parts (cs := [.int .i64 y.procs[i].locs, we]) (HS.holeP H.sw5 (n := 2) rfl rfl)
    simp -implicitDefEqProofs (disch := first | omega | (simp only [List.length_set, List.length_replicate, List.length_append, List.length_map, List.length_take, List.length_cons, List.length_nil]; omega)) [wrap64, hiaP, hPP.1, hPP.2.2.1, hiaE, FA]
    obtain ⟨g1, H1, H2⟩ := HS.rebase (Δ := [rb b sl p3]) H.sw1
    refine (c_l1Mutate (R.on H1) H1.rep (by omega) H2 (by omega) (by omega)).go ?_
    rintro _ h5 ⟨y2, p4, H3, hyn, hp7, hp8⟩
    have H := H3.app H1
    obtain ⟨w2, rfl, k3, k4, H⟩ := H.unExq
    have hO2 := H.rep.one
    have hPP := hld_parts (cs := [.int .i64 y.procs[i].locs, we]) (HS.holeP H.sw6 (n := 2) rfl rfl)
    have hPE := hld_parts (HS.holeP H.sw5 (n := 10) rfl rfl)
    simp -implicitDefEqProofs (disch := first | omega | (simp only [List.length_set, List.length_replicate, List.length_append, List.length_map, List.length_take, List.length_cons, List.length_nil]; omega)) [wrap64, hiaP, hPP.1, hPP.2.2.1, hiaE, hPE.1]
    refine HS.holest H.sw5 rfl (n := 10) rfl rfl rfl rfl (by simp [hO2]) (by decide) fun h5 H => ?_
    have H : HS g (hole we y.procs[i].edges 0 (.agg (Ed.cs ⟨y.procs[i].edges[0].frm, y.procs[i].edges[0].to, y2, y.procs[i].edges[0].var, y.procs[i].edges[0].value, y.procs[i].edges[0].sync⟩ w2 x2).toArray) :: ow w2 y2.kids :: rb b sl p4 :: ow _ e1 :: ow x1 y.procs[i].edges[0].guard.kids :: ow x2 y.procs[i].edges[0].value.kids :: hole w y.procs i (.agg #[.int .i64 y.procs[i].locs, we]) :: ow wi y.init :: Γ) h5 := H
    have H := HS.put (HS.mkEd (e := ⟨y.procs[i].edges[0].frm, y.procs[i].edges[0].to, y2, y.procs[i].edges[0].var, y.procs[i].edges[0].value, y.procs[i].edges[0].sync⟩) H.sw5.sw2 ⟨ok.frm, ok.to, k3, k4, ok.var, ok.vk, ok.vv, ok.sync⟩)
    have H := HS.put ((HS.mkPr (p := ⟨y.procs[i].locs, y.procs[i].edges.set 0 ⟨y.procs[i].edges[0].frm, y.procs[i].edges[0].to, y2, y.procs[i].edges[0].var, y.procs[i].edges[0].value, y.procs[i].edges[0].sync⟩⟩) H kl).under fun _ H => H.sw3)
    have hOi := H.sw4.rep.one
    have hCi := H.sw4.rep.cells
    have hOw := H.rep.one
    have hCw := H.rep.cells
    simp -implicitDefEqProofs (disch := first | omega | (simp only [List.length_set, List.length_replicate, List.length_append, List.length_map, List.length_take, List.length_cons, List.length_nil]; omega)) [wrap64, setC, hOi, hCi, hOw, hCw]
    exact RetK.keep (hk _ _ ⟨_, _, (HS.mkSy (s := ⟨y.init, y.procs.set i ⟨y.procs[i].locs, y.procs[i].edges.set 0 ⟨y.procs[i].edges[0].frm, y.procs[i].edges[0].to, y2, y.procs[i].edges[0].var, y.procs[i].edges[0].value, y.procs[i].edges[0].sync⟩⟩⟩) H.sw4).sw3.drop.sw2.drop, Sy.Sm.set hy hi he ⟨by first | omega | (dsimp only; omega), hev⟩, by omega, by omega⟩)
  by_cases c3 : r6 = 3
  · have H := H.sw2
    obtain ⟨uP, huP, H⟩ := HS.take H hi
    obtain ⟨we, rfl, kl, H⟩ := H.unPr
    obtain ⟨uE, huE, H⟩ := HS.take H he
    obtain ⟨x1, x2, rfl, ok, H⟩ := H.unEd
    have hiaP := HS.holeia H.sw3 (n := 2) (kd := .i64) rfl hi
    have hPP := hld_parts (cs := [.int .i64 y.procs[i].locs, we]) (HS.holeP H.sw3 (n := 2) rfl rfl)
    have hiaE : iaV 10 we (.int .i64 0) = some (elp 10 we 0) := HS.holeia H.sw2 (n := 10) (kd := .i64) rfl he
    simp -implicitDefEqProofs (disch := first | omega | (simp only [List.length_set, List.length_replicate, List.length_append, List.length_map, List.length_take, List.length_cons, List.length_nil]; omega)) [wrap64, c0, c1, c2, c3, hiaP, hPP.1, hPP.2.2.1, hiaE]
    refine H.bls [(-1 : Int), 3, 0, -2] rfl rfl (okL (by decide)) (by decide) fun q hq H => ?_
    have H := H.sw5.sw1
    have hPP := hld_parts (cs := [.int .i64 y.procs[i].locs, we]) (HS.holeP H.sw5 (n := 2) rfl rfl)
    simp -implicitDefEqProofs (disch := first | omega | (simp only [List.length_set, List.length_replicate, List.length_append, List.length_map, List.length_take, List.length_cons, List.length_nil]; omega)) [wrap64, hiaP, hPP.1, hPP.2.2.1, hiaE]
    refine (c_num R H (by omega) (by omega) (by simp)).go ?_
    rintro _ h4 ⟨r7, rfl, o7, _, H⟩
    have hPP := hld_parts (cs := [.int .i64 y.procs[i].locs, we]) (HS.holeP H.sw4 (n := 2) rfl rfl)
    have hPE := hld_parts (HS.holeP H.sw3 (n := 10) rfl rfl)
    simp -implicitDefEqProofs (disch := first | omega | (simp only [List.length_set, List.length_replicate, List.length_append, List.length_map, List.length_take, List.length_cons, List.length_nil]; omega)) [wrap64, hiaP, hPP.1, hPP.2.2.1, hiaE, hPE.1]
    refine HS.holest H.sw3 rfl (n := 10) rfl rfl rfl rfl rfl (by decide) fun h5 H => ?_
    have H : HS g (hole we y.procs[i].edges 0 (.agg (Ed.cs ⟨y.procs[i].edges[0].frm, y.procs[i].edges[0].to, y.procs[i].edges[0].guard, r7, y.procs[i].edges[0].value, y.procs[i].edges[0].sync⟩ x1 x2).toArray) :: rb b sl (p1 + 1 + 1) :: ow x1 y.procs[i].edges[0].guard.kids :: ow x2 y.procs[i].edges[0].value.kids :: hole w y.procs i (.agg #[.int .i64 y.procs[i].locs, we]) :: ow wi y.init :: Γ) h5 := H
    have H := HS.put (HS.mkEd (e := ⟨y.procs[i].edges[0].frm, y.procs[i].edges[0].to, y.procs[i].edges[0].guard, r7, y.procs[i].edges[0].value, y.procs[i].edges[0].sync⟩) H.sw3.sw3 ⟨ok.frm, ok.to, ok.gk, ok.gv, o7, ok.vk, ok.vv, ok.sync⟩)
    have H := HS.put ((HS.mkPr (p := ⟨y.procs[i].locs, y.procs[i].edges.set 0 ⟨y.procs[i].edges[0].frm, y.procs[i].edges[0].to, y.procs[i].edges[0].guard, r7, y.procs[i].edges[0].value, y.procs[i].edges[0].sync⟩⟩) H kl).under fun _ H => H.sw1)
    have hOi := H.sw2.rep.one
    have hCi := H.sw2.rep.cells
    have hOw := H.rep.one
    have hCw := H.rep.cells
    simp -implicitDefEqProofs (disch := first | omega | (simp only [List.length_set, List.length_replicate, List.length_append, List.length_map, List.length_take, List.length_cons, List.length_nil]; omega)) [wrap64, setC, hOi, hCi, hOw, hCw]
    exact RetK.keep (hk _ _ ⟨_, _, HS.mkSy (s := ⟨y.init, y.procs.set i ⟨y.procs[i].locs, y.procs[i].edges.set 0 ⟨y.procs[i].edges[0].frm, y.procs[i].edges[0].to, y.procs[i].edges[0].guard, r7, y.procs[i].edges[0].value, y.procs[i].edges[0].sync⟩⟩⟩) H.sw2, Sy.Sm.set hy hi he ⟨heg, hev⟩, by omega, by omega⟩)
  by_cases c4 : r6 = 4
  · have H := H.sw2
    obtain ⟨uP, huP, H⟩ := HS.take H hi
    obtain ⟨we, rfl, kl, H⟩ := H.unPr
    obtain ⟨uE, huE, H⟩ := HS.take H he
    obtain ⟨x1, x2, rfl, ok, H⟩ := H.unEd
    have hiaP := HS.holeia H.sw3 (n := 2) (kd := .i64) rfl hi
    have hPP := hld_parts (cs := [.int .i64 y.procs[i].locs, we]) (HS.holeP H.sw3 (n := 2) rfl rfl)
    have hiaE : iaV 10 we (.int .i64 0) = some (elp 10 we 0) := HS.holeia H.sw2 (n := 10) (kd := .i64) rfl he
    simp -implicitDefEqProofs (disch := first | omega | (simp only [List.length_set, List.length_replicate, List.length_append, List.length_map, List.length_take, List.length_cons, List.length_nil]; omega)) [wrap64, c0, c1, c2, c3, c4, hiaP, hPP.1, hPP.2.2.1, hiaE]
    refine H.bls [(3 : Int), -3, 2, -9223372036854775808] rfl rfl (okL (by decide)) (by decide) fun q hq H => ?_
    have H := H.sw5.sw1
    have hPP := hld_parts (cs := [.int .i64 y.procs[i].locs, we]) (HS.holeP H.sw5 (n := 2) rfl rfl)
    simp -implicitDefEqProofs (disch := first | omega | (simp only [List.length_set, List.length_replicate, List.length_append, List.length_map, List.length_take, List.length_cons, List.length_nil]; omega)) [wrap64, hiaP, hPP.1, hPP.2.2.1, hiaE]
    refine (c_num R H (by omega) (by omega) (by simp)).go ?_
    rintro _ h4 ⟨r7, rfl, o7, _, H⟩
    have hPP := hld_parts (cs := [.int .i64 y.procs[i].locs, we]) (HS.holeP H.sw4 (n := 2) rfl rfl)
    have hPE := hld_parts (HS.holeP H.sw3 (n := 10) rfl rfl)
    simp -implicitDefEqProofs (disch := first | omega | (simp only [List.length_set, List.length_replicate, List.length_append, List.length_map, List.length_take, List.length_cons, List.length_nil]; omega)) [wrap64, hiaP, hPP.1, hPP.2.2.1, hiaE, hPE.1]
    refine HS.holest H.sw3 rfl (n := 10) rfl rfl rfl rfl rfl (by decide) fun h5 H => ?_
    have H : HS g (hole we y.procs[i].edges 0 (.agg (Ed.cs ⟨y.procs[i].edges[0].frm, y.procs[i].edges[0].to, y.procs[i].edges[0].guard, y.procs[i].edges[0].var, y.procs[i].edges[0].value, r7⟩ x1 x2).toArray) :: rb b sl (p1 + 1 + 1) :: ow x1 y.procs[i].edges[0].guard.kids :: ow x2 y.procs[i].edges[0].value.kids :: hole w y.procs i (.agg #[.int .i64 y.procs[i].locs, we]) :: ow wi y.init :: Γ) h5 := H
    have H := HS.put (HS.mkEd (e := ⟨y.procs[i].edges[0].frm, y.procs[i].edges[0].to, y.procs[i].edges[0].guard, y.procs[i].edges[0].var, y.procs[i].edges[0].value, r7⟩) H.sw3.sw3 ⟨ok.frm, ok.to, ok.gk, ok.gv, ok.var, ok.vk, ok.vv, o7⟩)
    have H := HS.put ((HS.mkPr (p := ⟨y.procs[i].locs, y.procs[i].edges.set 0 ⟨y.procs[i].edges[0].frm, y.procs[i].edges[0].to, y.procs[i].edges[0].guard, y.procs[i].edges[0].var, y.procs[i].edges[0].value, r7⟩⟩) H kl).under fun _ H => H.sw1)
    have hOi := H.sw2.rep.one
    have hCi := H.sw2.rep.cells
    have hOw := H.rep.one
    have hCw := H.rep.cells
    simp -implicitDefEqProofs (disch := first | omega | (simp only [List.length_set, List.length_replicate, List.length_append, List.length_map, List.length_take, List.length_cons, List.length_nil]; omega)) [wrap64, setC, hOi, hCi, hOw, hCw]
    exact RetK.keep (hk _ _ ⟨_, _, HS.mkSy (s := ⟨y.init, y.procs.set i ⟨y.procs[i].locs, y.procs[i].edges.set 0 ⟨y.procs[i].edges[0].frm, y.procs[i].edges[0].to, y.procs[i].edges[0].guard, y.procs[i].edges[0].var, y.procs[i].edges[0].value, r7⟩⟩⟩) H.sw2, Sy.Sm.set hy hi he ⟨heg, hev⟩, by omega, by omega⟩)
  by_cases c5 : r6 = 5
  · have H := H.sw2
    obtain ⟨uP, huP, H⟩ := HS.take H hi
    obtain ⟨we, rfl, kl, H⟩ := H.unPr
    obtain ⟨uE, huE, H⟩ := HS.take H he
    obtain ⟨x1, x2, rfl, ok, H⟩ := H.unEd
    have hiaP := HS.holeia H.sw3 (n := 2) (kd := .i64) rfl hi
    have hPP := hld_parts (cs := [.int .i64 y.procs[i].locs, we]) (HS.holeP H.sw3 (n := 2) rfl rfl)
    have hiaE : iaV 10 we (.int .i64 0) = some (elp 10 we 0) := HS.holeia H.sw2 (n := 10) (kd := .i64) rfl he
    simp -implicitDefEqProofs (disch := first | omega | (simp only [List.length_set, List.length_replicate, List.length_append, List.length_map, List.length_take, List.length_cons, List.length_nil]; omega)) [wrap64, c0, c1, c2, c3, c4, c5, hiaP, hPP.1, hPP.2.2.1, hiaE]
    refine H.bls [(-1 : Int), 4, 0, 9223372036854775807] rfl rfl (okL (by decide)) (by decide) fun q hq H => ?_
    have H := H.sw5.sw1
    have hPP := hld_parts (cs := [.int .i64 y.procs[i].locs, we]) (HS.holeP H.sw5 (n := 2) rfl rfl)
    simp -implicitDefEqProofs (disch := first | omega | (simp only [List.length_set, List.length_replicate, List.length_append, List.length_map, List.length_take, List.length_cons, List.length_nil]; omega)) [wrap64, hiaP, hPP.1, hPP.2.2.1, hiaE]
    refine (c_num R H (by omega) (by omega) (by simp)).go ?_
    rintro _ h4 ⟨r7, rfl, o7, _, H⟩
    have hPP := hld_parts (cs := [.int .i64 y.procs[i].locs, we]) (HS.holeP H.sw4 (n := 2) rfl rfl)
    have hPE := hld_parts (HS.holeP H.sw3 (n := 10) rfl rfl)
    simp -implicitDefEqProofs (disch := first | omega | (simp only [List.length_set, List.length_replicate, List.length_append, List.length_map, List.length_take, List.length_cons, List.length_nil]; omega)) [wrap64, hiaP, hPP.1, hPP.2.2.1, hiaE, hPE.1]
    refine HS.holest H.sw3 rfl (n := 10) rfl rfl rfl rfl rfl (by decide) fun h5 H => ?_
    have H : HS g (hole we y.procs[i].edges 0 (.agg (Ed.cs ⟨y.procs[i].edges[0].frm, r7, y.procs[i].edges[0].guard, y.procs[i].edges[0].var, y.procs[i].edges[0].value, y.procs[i].edges[0].sync⟩ x1 x2).toArray) :: rb b sl (p1 + 1 + 1) :: ow x1 y.procs[i].edges[0].guard.kids :: ow x2 y.procs[i].edges[0].value.kids :: hole w y.procs i (.agg #[.int .i64 y.procs[i].locs, we]) :: ow wi y.init :: Γ) h5 := H
    have H := HS.put (HS.mkEd (e := ⟨y.procs[i].edges[0].frm, r7, y.procs[i].edges[0].guard, y.procs[i].edges[0].var, y.procs[i].edges[0].value, y.procs[i].edges[0].sync⟩) H.sw3.sw3 ⟨ok.frm, o7, ok.gk, ok.gv, ok.var, ok.vk, ok.vv, ok.sync⟩)
    have H := HS.put ((HS.mkPr (p := ⟨y.procs[i].locs, y.procs[i].edges.set 0 ⟨y.procs[i].edges[0].frm, r7, y.procs[i].edges[0].guard, y.procs[i].edges[0].var, y.procs[i].edges[0].value, y.procs[i].edges[0].sync⟩⟩) H kl).under fun _ H => H.sw1)
    have hOi := H.sw2.rep.one
    have hCi := H.sw2.rep.cells
    have hOw := H.rep.one
    have hCw := H.rep.cells
    simp -implicitDefEqProofs (disch := first | omega | (simp only [List.length_set, List.length_replicate, List.length_append, List.length_map, List.length_take, List.length_cons, List.length_nil]; omega)) [wrap64, setC, hOi, hCi, hOw, hCw]
    exact RetK.keep (hk _ _ ⟨_, _, HS.mkSy (s := ⟨y.init, y.procs.set i ⟨y.procs[i].locs, y.procs[i].edges.set 0 ⟨y.procs[i].edges[0].frm, r7, y.procs[i].edges[0].guard, y.procs[i].edges[0].var, y.procs[i].edges[0].value, y.procs[i].edges[0].sync⟩⟩⟩) H.sw2, Sy.Sm.set hy hi he ⟨heg, hev⟩, by omega, by omega⟩)
  by_cases c6 : r6 = 6
  · simp -implicitDefEqProofs (disch := first | omega | (simp only [List.length_set, List.length_replicate, List.length_append, List.length_map, List.length_take, List.length_cons, List.length_nil]; omega)) [wrap64, c0, c1, c2, c3, c4, c5, c6, setC]
    exact RetK.keep (hk _ _ ⟨⟨[], []⟩, p1 + 1, HS.mkSy (s := ⟨[], []⟩) (H.sw2.drop.sw1.drop.nil_ow.nil_ow), ⟨by simp, by simp, by simp⟩, by omega, by omega⟩)
  · simp -implicitDefEqProofs (disch := first | omega | (simp only [List.length_set, List.length_replicate, List.length_append, List.length_map, List.length_take, List.length_cons, List.length_nil]; omega)) [wrap64, c0, c1, c2, c3, c4, c5, c6, setC, hOi, hCi, hOw, hCw]
    exact RetK.keep (hk _ _ ⟨y, _, HS.mkSy H.sw2.sw2, hy, by omega, by omega⟩)
end Go.Proofs.Ythgimpheeemooaa

/-
  Arguments of laws: labels that are drawn.
-/
namespace Go.Proofs.Ythgimpheeemooaa
open Go
set_option linter.all false
set_option linter.unusedVariables false
set_option linter.unusedSimpArgs false
set_option linter.defProp false
set_option maxRecDepth 1000000

/-- the front of a list -/
theorem HS.cutF {α : Type} [Ty α] {g h : Heap} {Γ : List HP} {v : Value} {l : List α} (H : HS g (ow v l :: Γ) h) {n esz : Nat} {k : IntKind} (hn : n ≤ l.length) : ∃ v', sliceVV esz v none (some (some (.int k n))) none = some v' ∧ HS g (ow v' (l.take n) :: Γ) h := by
  obtain ⟨g', r, rfl, d, O, H⟩ := H
  rcases Own_list.1 O with ⟨p, rfl, rfl, rfl, hp⟩ | ⟨b, off, cap, cells, el, r', rfl, ⟨h1, hM⟩, h2, rfl, h4, h5⟩
  · have hn0 : n = 0 := by simpa using hn
    subst hn0
    exact ⟨.slice p 0 0, by simp [sliceVV, bndV], g', Heap.nil, rfl, d, Own_list.2 (.inl ⟨p, rfl, by simp, rfl, hp⟩), H⟩
  · rw [← List.take_append_drop n l] at h5
    obtain ⟨r1, r2, rfl, d2, h6, h7⟩ := ownL_split h5
    obtain ⟨d3, d4⟩ := Dj_add.1 d
    obtain ⟨d5, d6⟩ := Dj_add.1 d4
    obtain ⟨n1, n2⟩ : r1 b = none ∧ r2 b = none := by simpa [Heap.add] using h4
    refine ⟨.slice (some ⟨b, off, none⟩) n cap, ?_, g'.add r2, (Heap.one b (.cells cells.toArray el (0, 0))).add r1, by ac_rfl, ?_, ?_, H.le (le_add d6)⟩
    · have : n ≤ cap := by omega
      simp [sliceVV, bndV, add_none, this]
    · exact Dj_add.2 ⟨add_Dj.2 ⟨d3, (Dj_one.2 n2)⟩, add_Dj.2 ⟨d5, d2.symm⟩⟩
    · have hl : (l.take n).length = n := by simp; omega
      exact Own_list.2 (.inr ⟨b, off, cap, cells, el, r1, by rw [hl], ⟨by omega, by omega⟩, h2, rfl, n1, h6⟩)

theorem c_l8Labels {g h : Heap} {Γ : List HP} {b : Nat} {sl : Value} {l : List (BitVec 8)} {p : Int} (R : Rep g sl l) (H : HS g (rb b sl p :: Γ) h) (hp : 0 ≤ p) (hp2 : p + 200 ≤ 1000000000000) :
    CallE Try.prog fn_spec_l8Labels [.pointer (some ⟨b, 0, none⟩)] h (fun u h' => ∃ (y : List Exq) (p' : Int), HS g (ow u y :: rb b sl p' :: Γ) h' ∧ y.length ≤ 3 ∧ p ≤ p' ∧ p' ≤ p + 50) := by
  refine CallE.gen fun k hk => EN_spec_l8Labels rfl ?_
  simp -implicitDefEqProofs (disch := first | omega | (simp only [List.length_set, List.length_replicate, List.length_append, List.length_map, List.length_take, List.length_cons, List.length_nil]; omega)) [wrap64]
  refine H.bls0 Exq fun o h1 H => ?_
  simp -implicitDefEqProofs (disch := first | omega | (simp only [List.length_set, List.length_replicate, List.length_append, List.length_map, List.length_take, List.length_cons, List.length_nil]; omega)) [wrap64]
  refine wp_count 3 (fun i e h' => ∃ (ls : List Exq) (w : Value) (p' : Int), e = [some (.pointer (some ⟨b, 0, none⟩)), none, some w, some (.int .i64 i), none, none] ∧ HS g (ow w ls :: rb b sl p' :: Γ) h' ∧ ls.length = i ∧ (∀ x ∈ ls, x.nod ≤ 4) ∧ p ≤ p' ∧ p' ≤ p + 6 * i) ⟨[], o, _, by simp, H, rfl, by simp, by omega, by omega⟩ ?_
  clear H
  rintro J i _ h2 hJ hi ⟨ls, w, p1, rfl, H, hl, hls, hp3, hp4⟩
  simp -implicitDefEqProofs (disch := first | omega | (simp only [List.length_set, List.length_replicate, List.length_append, List.length_map, List.length_take, List.length_cons, List.length_nil]; omega)) [wrap64]
  refine IteW.mk (fun hlt => ?_) (fun hge => ?_)
  · simp -implicitDefEqProofs (disch := first | omega | (simp only [List.length_set, List.length_replicate, List.length_append, List.length_map, List.length_take, List.length_cons, List.length_nil]; omega)) [wrap64]
    refine (c_l2Guard R H.sw1 (by omega) (by omega)).go ?_
    rintro _ h3 ⟨y, p2, H, hy, hp5, hp6⟩
    obtain ⟨wy, rfl, k1, k2, H'⟩ := H.unExq
    have hO := H'.rep.one
    have hC := H'.rep.cells
    by_cases c1 : y.kind = 1
    · simp -implicitDefEqProofs (disch := first | omega | (simp only [List.length_set, List.length_replicate, List.length_append, List.length_map, List.length_take, List.length_cons, List.length_nil]; omega)) [wrap64, setC, hO, hC, c1]
      refine (c_pick (n := 3) R H.sw1 (by omega) (by omega) ⟨by decide, by decide⟩).go ?_
      rintro _ h1 ⟨r1, rfl, o1, z1, y1, H⟩
      simp -implicitDefEqProofs (disch := first | omega | (simp only [List.length_set, List.length_replicate, List.length_append, List.length_map, List.length_take, List.length_cons, List.length_nil]; omega)) [wrap64, setC]
      refine HS.appO (bytes := 40) ((H.sw1.drop.sw1).mkE0 (kd := 2) (vl := r1) ⟨by decide, by decide⟩ o1) rfl rfl rfl rfl rfl (by omega) (by omega) fun w' h7 H => ?_
      simp -implicitDefEqProofs (disch := first | omega | (simp only [List.length_set, List.length_replicate, List.length_append, List.length_map, List.length_take, List.length_cons, List.length_nil]; omega)) [wrap64]
      refine hJ _ _ (by omega) ⟨_, w', _, by simp, H, by simp [hl], ?_, by omega, by push_cast; omega⟩
      intro x hx
      simp only [List.mem_append, List.mem_singleton] at hx
      rcases hx with hx | rfl
      · exact hls x hx
      · rw [Exq.nod_mk0]; omega
    · simp -implicitDefEqProofs (disch := first | omega | (simp only [List.length_set, List.length_replicate, List.length_append, List.length_map, List.length_take, List.length_cons, List.length_nil]; omega)) [wrap64, setC, hO, hC, c1]
      refine HS.appO (bytes := 40) (H.sw2.sw1) rfl rfl rfl rfl rfl (by omega) (by omega) fun w' h7 H => ?_
      simp -implicitDefEqProofs (disch := first | omega | (simp only [List.length_set, List.length_replicate, List.length_append, List.length_map, List.length_take, List.length_cons, List.length_nil]; omega)) [wrap64]
      refine hJ _ _ (by omega) ⟨_, w', _, by simp, H, by simp [hl], ?_, by omega, by push_cast; omega⟩
      intro x hx
      simp only [List.mem_append, List.mem_singleton] at hx
      rcases hx with hx | rfl
      · exact hls x hx
      · exact hy
  obtain rfl : i = 3 := by omega
  simp -implicitDefEqProofs (disch := first | omega | (simp only [List.length_set, List.length_replicate, List.length_append, List.length_map, List.length_take, List.length_cons, List.length_nil]; omega)) [wrap64]
  refine (c_pick (n := 40) R H.sw1 (by omega) (by omega) ⟨by decide, by decide⟩).go ?_
  rintro _ h3 ⟨r1, rfl, o1, z1, y1, H⟩
  by_cases c0 : r1 = 0
  · obtain ⟨w', e1, H'⟩ := H.sw1.cutF (n := 2) (esz := 3) (k := .i64) (by omega)
    have e2 : sliceVV 3 w none (some (some (.int .i64 2))) none = some w' := e1
    simp -implicitDefEqProofs (disch := first | omega | (simp only [List.length_set, List.length_replicate, List.length_append, List.length_map, List.length_take, List.length_cons, List.length_nil]; omega)) [wrap64, c0, e2]
    exact RetK.keep (hk _ _ ⟨_, _, H', by simp; omega, by omega, by omega⟩)
  by_cases c1 : r1 = 1
  · have h1l : 1 < ls.length := by omega
    obtain ⟨g1, H1, H2⟩ := HS.rebase (Δ := [rb b sl (p1 + 1)]) H
    obtain ⟨u, hu, Ru⟩ := H1.rep.ld h1l
    have hu2 := hload_le H2.base hu
    change hload _ (some (elp 3 w 1)) (some 3) = some u at hu2
    have hia : iaV 3 w (.int .i64 1) = some (elp 3 w 1) := (H1.rep.X (n := 3) rfl).1 .i64 1 h1l
    have hx := hls _ (List.getElem_mem h1l)
    simp -implicitDefEqProofs (disch := first | omega | (simp only [List.length_set, List.length_replicate, List.length_append, List.length_map, List.length_take, List.length_cons, List.length_nil]; omega)) [wrap64, c0, c1, hia, hu2, Ru.aExq]
    refine (c_l1Mutate (R.on H1) Ru (by omega) H2 (by omega) (by omega)).go ?_
    rintro _ h4 ⟨y2, p2, H3, hyn, hp5, hp6⟩
    have H := H3.app H1
    have FA := H.rep.aExq
    simp -implicitDefEqProofs (disch := first | omega | (simp only [List.length_set, List.length_replicate, List.length_append, List.length_map, List.length_take, List.length_cons, List.length_nil]; omega)) [wrap64, FA]
    obtain ⟨g2, H1, H2⟩ := HS.rebase (Δ := [rb b sl p2]) H.sw1
    refine (c_l1Mutate (R.on H1) H1.rep (by omega) H2 (by omega) (by omega)).go ?_
    rintro _ h4 ⟨y3, p3, H3, hyn, hp7, hp8⟩
    have H := H3.app H1
    have FB := H.rep.aExq
    simp -implicitDefEqProofs (disch := first | omega | (simp only [List.length_set, List.length_replicate, List.length_append, List.length_map, List.length_take, List.length_cons, List.length_nil]; omega)) [wrap64, hia, FB]
    refine HS.store H.sw3.sw1 (i := 1) h1l rfl rfl rfl fun h5 H => ?_
    simp -implicitDefEqProofs (disch := first | omega | (simp only [List.length_set, List.length_replicate, List.length_append, List.length_map, List.length_take, List.length_cons, List.length_nil]; omega)) [wrap64]
    exact RetK.keep (hk _ _ ⟨_, _, H.sw2.drop, by simp; omega, by omega, by omega⟩)
  · simp -implicitDefEqProofs (disch := first | omega | (simp only [List.length_set, List.length_replicate, List.length_append, List.length_map, List.length_take, List.length_cons, List.length_nil]; omega)) [wrap64, c0, c1]
    exact RetK.keep (hk _ _ ⟨ls, _, H.sw1, by omega, by omega, by omega⟩)
end Go.Proofs.Ythgimpheeemooaa

/-
  Arguments of laws: systems with labels.
-/
namespace Go.Proofs.Ythgimpheeemooaa
open Go
set_option linter.all false
set_option linter.unusedVariables false
set_option linter.unusedSimpArgs false
set_option linter.defProp false
set_option maxRecDepth 1000000

theorem c_l14Labels {g h : Heap} {Γ : List HP} {b : Nat} {sl : Value} {l : List (BitVec 8)} {p : Int} (R : Rep g sl l) (H : HS g (rb b sl p :: Γ) h) (hp : 0 ≤ p) (hp2 : p + 200 ≤ 1000000000000) :
    CallE Try.prog fn_spec_l14Labels [.pointer (some ⟨b, 0, none⟩)] h (fun u h' => ∃ (y : List Exq) (p' : Int), HS g (ow u y :: rb b sl p' :: Γ) h' ∧ y.length ≤ 3 ∧ p ≤ p' ∧ p' ≤ p + 60) := by
  refine CallE.gen fun k hk => EN_spec_l14Labels rfl ?_
  simp -implicitDefEqProofs (disch := first | omega | (simp only [List.length_set, List.length_replicate, List.length_append, List.length_map, List.length_take, List.length_cons, List.length_nil]; omega)) [wrap64]
  refine (c_l8Labels R H (by omega) (by omega)).go ?_
  rintro w h1 ⟨y, p1, H, hyl, hp3, hp4⟩
  simp -implicitDefEqProofs (disch := first | omega | (simp only [List.length_set, List.length_replicate, List.length_append, List.length_map, List.length_take, List.length_cons, List.length_nil]; omega)) [wrap64]
  refine wp_count y.length (fun i e h' => ∃ (ls : List Exq) (p' : Int), e = [some (.pointer (some ⟨b, 0, none⟩)), none, some w, some (.int .i64 i)] ∧ HS g (ow w ls :: rb b sl p' :: Γ) h' ∧ ls.length = y.length ∧ p1 ≤ p' ∧ p' ≤ p1 + 2 * i) ⟨y, p1, by simp, H, rfl, by omega, by omega⟩ ?_
  clear H
  rintro J i _ h2 hJ hi ⟨ls, p2, rfl, H, hl, hp5, hp6⟩
  simp -implicitDefEqProofs (disch := first | omega | (simp only [List.length_set, List.length_replicate, List.length_append, List.length_map, List.length_take, List.length_cons, List.length_nil]; omega)) [wrap64, H.rep.len]
  refine IteW.mk (fun hlt => ?_) (fun hge => ?_)
  · simp -implicitDefEqProofs (disch := first | omega | (simp only [List.length_set, List.length_replicate, List.length_append, List.length_map, List.length_take, List.length_cons, List.length_nil]; omega)) [wrap64]
    refine (c_pick (n := 2) R H.sw1 (by omega) (by omega) ⟨by decide, by decide⟩).go ?_
    rintro _ h3 ⟨r1, rfl, o1, z1, y1, H⟩
    by_cases c0 : r1 = 0
    · simp -implicitDefEqProofs (disch := first | omega | (simp only [List.length_set, List.length_replicate, List.length_append, List.length_map, List.length_take, List.length_cons, List.length_nil]; omega)) [wrap64, c0]
      refine (c_pick (n := 3) R H (by omega) (by omega) ⟨by decide, by decide⟩).go ?_
      rintro _ h3 ⟨r2, rfl, o2, z2, y2, H⟩
      simp -implicitDefEqProofs (disch := first | omega | (simp only [List.length_set, List.length_replicate, List.length_append, List.length_map, List.length_take, List.length_cons, List.length_nil]; omega)) [wrap64, setC]
      refine HS.blsO2 ((H.mkE0 (kd := 1) (vl := r2) ⟨by decide, by decide⟩ o2).mkE0 (kd := 2) (vl := 0) ⟨by decide, by decide⟩ ⟨by decide, by decide⟩) rfl fun q h4 H => ?_
      have hO := H.rep.one
      have hC := H.rep.cells
      have hil : i < ls.length := by omega
      simp -implicitDefEqProofs (disch := first | omega | (simp only [List.length_set, List.length_replicate, List.length_append, List.length_map, List.length_take, List.length_cons, List.length_nil]; omega)) [wrap64, setC, hO, hC, H.sw2.rep.X (n := 3) rfl]
      have H := HS.mkExq' (kd := 6) (vl := 0) H ⟨by decide, by decide⟩ ⟨by decide, by decide⟩
      refine HS.store H.sw2.sw1 (i := i) hil rfl rfl rfl fun h5 H => ?_
      simp -implicitDefEqProofs (disch := first | omega | (simp only [List.length_set, List.length_replicate, List.length_append, List.length_map, List.length_take, List.length_cons, List.length_nil]; omega)) [wrap64]
      exact hJ _ _ (by omega) ⟨_, _, by simp, H, by simp [hl], by omega, by push_cast; omega⟩
    · simp -implicitDefEqProofs (disch := first | omega | (simp only [List.length_set, List.length_replicate, List.length_append, List.length_map, List.length_take, List.length_cons, List.length_nil]; omega)) [wrap64, c0]
      exact hJ _ _ (by omega) ⟨ls, _, by simp, H.sw1, hl, by omega, by push_cast; omega⟩
  simp -implicitDefEqProofs (disch := first | omega | (simp only [List.length_set, List.length_replicate, List.length_append, List.length_map, List.length_take, List.length_cons, List.length_nil]; omega)) [wrap64]
  exact RetK.keep (hk _ _ ⟨ls, p2, H, by omega, by omega, by omega⟩)

theorem Sy.Sm.setk {n : Nat} {s : Sy} (h : s.Sm n) {i k : Nat} (hi : i < s.procs.length) (_hk : k < s.procs[i].edges.length) {e : Ed} (hs : e.Sm n) : Sy.Sm n ⟨s.init, s.procs.set i ⟨s.procs[i].locs, s.procs[i].edges.set k e⟩⟩ := by
  refine ⟨h.il, by simpa using h.pl, fun p hp => ?_⟩
  rcases List.mem_or_eq_of_mem_set hp with h1 | rfl
  · exact h.pp p h1
  · have h2 := h.pp _ (List.getElem_mem hi)
    refine ⟨by simpa using h2.el, fun x hx => ?_⟩
    rcases List.mem_or_eq_of_mem_set hx with h3 | rfl
    · exact h2.ee x h3
    · exact hs

theorem c_l14System {g h : Heap} {Γ : List HP} {b : Nat} {sl : Value} {l : List (BitVec 8)} {p : Int} (R : Rep g sl l) (H : HS g (rb b sl p :: Γ) h) (hp : 0 ≤ p) (hp2 : p + 5000 ≤ 1000000000000) :
    CallE Try.prog fn_spec_l14System [.pointer (some ⟨b, 0, none⟩)] h (fun u h' => ∃ (y : Sy) (p' : Int), HS g (ow u y :: rb b sl p' :: Γ) h' ∧ y.Sm 40 ∧ p ≤ p' ∧ p' ≤ p + 4000) := by
  refine CallE.gen fun k hk => EN_spec_l14System rfl ?_
  simp -implicitDefEqProofs (disch := first | omega | (simp only [List.length_set, List.length_replicate, List.length_append, List.length_map, List.length_take, List.length_cons, List.length_nil]; omega)) [wrap64]
  refine (c_l2System R H (by omega) (by omega)).go ?_
  rintro _ h1 ⟨y0, p1, H, hy0, hp3, hp4⟩
  obtain ⟨wi, w, rfl, H'⟩ := H.unSy
  replace H := H'
  have hOi := H.rep.one
  have hCi := H.rep.cells
  have hOw := H.sw1.rep.one
  have hCw := H.sw1.rep.cells
  obtain ⟨N, hN⟩ : ∃ N, N = y0.procs.length := ⟨_, rfl⟩
  have hN2 : N ≤ 40 := by have := hy0.pl; omega
  simp -implicitDefEqProofs (disch := first | omega | (simp only [List.length_set, List.length_replicate, List.length_append, List.length_map, List.length_take, List.length_cons, List.length_nil]; omega)) [wrap64, setC, hOi, hCi, hOw, hCw]
  refine wp_while (σ := Nat) (fun i e h' => ∃ (y : Sy) (p' : Int), e = [some (.pointer (some ⟨b, 0, none⟩)), some (.agg #[.slice none 0 0, .slice none 0 0]), some (.agg #[wi, w]), some (.int .i64 i), none] ∧ HS g (ow w y.procs :: ow wi y.init :: rb b sl p' :: Γ) h' ∧ y.Sm 40 ∧ y.procs.length = N ∧ i ≤ N ∧ p1 ≤ p' ∧ p' ≤ p1 + 50 * i) (fun i => N - i) 0 ⟨y0, p1, by simp, H.sw1, hy0, hN.symm, by omega, by omega, by omega⟩ ?_
  clear H hOi hCi hOw hCw
  rintro J i _ h2 hJ ⟨y, p2, rfl, H, hy, hyl, hi, hp5, hp6⟩
  simp -implicitDefEqProofs (disch := first | omega | (simp only [List.length_set, List.length_replicate, List.length_append, List.length_map, List.length_take, List.length_cons, List.length_nil]; omega)) [wrap64, H.rep.len]
  by_cases c0 : i < y.procs.length
  · simp -implicitDefEqProofs (disch := first | omega | (simp only [List.length_set, List.length_replicate, List.length_append, List.length_map, List.length_take, List.length_cons, List.length_nil]; omega)) [wrap64, c0]
    refine wp_while (σ := Nat) (fun k e h' => ∃ (y : Sy) (p' : Int), e = [some (.pointer (some ⟨b, 0, none⟩)), some (.agg #[.slice none 0 0, .slice none 0 0]), some (.agg #[wi, w]), some (.int .i64 i), some (.int .i64 k)] ∧ HS g (ow w y.procs :: ow wi y.init :: rb b sl p' :: Γ) h' ∧ y.Sm 40 ∧ y.procs.length = N ∧ k ≤ 40 ∧ p2 ≤ p' ∧ p' ≤ p2 + k) (fun k => 41 - k) 0 ⟨y, p2, by simp, H, hy, hyl, by omega, by omega, by omega⟩ ?_
    have c0' : i < N := by omega
    clear H hy c0 hyl y
    rintro J2 k2 _ h3 hJ2 ⟨y, p3, rfl, H, hy, hyl, hk2, hp7, hp8⟩
    have hi2 : i < y.procs.length := by omega
    have hpi := hy.pp _ (List.getElem_mem hi2)
    have hel := hpi.el
    obtain ⟨uP, huP, H1⟩ := HS.take H hi2
    obtain ⟨we, rfl, kl, H2⟩ := H1.unPr
    replace H1 := H2
    have hiaP := HS.holeia H1.sw1 (n := 2) (kd := .i64) rfl hi2
    have hPP := hld_parts (cs := [.int .i64 y.procs[i].locs, we]) (HS.holeP H1.sw1 (n := 2) rfl rfl)
    have hlen := H1.rep.len
    simp -implicitDefEqProofs (disch := first | omega | (simp only [List.length_set, List.length_replicate, List.length_append, List.length_map, List.length_take, List.length_cons, List.length_nil]; omega)) [wrap64, hiaP, hPP.1, hPP.2.2.1, hlen]
    by_cases c1 : k2 < y.procs[i].edges.length
    · simp -implicitDefEqProofs (disch := first | omega | (simp only [List.length_set, List.length_replicate, List.length_append, List.length_map, List.length_take, List.length_cons, List.length_nil]; omega)) [wrap64, c1]
      have H := H1.sw3
      refine (c_pick (n := 3) R H (by omega) (by omega) ⟨by decide, by decide⟩).go ?_
      rintro _ h4 ⟨r1, rfl, o1, z1, y1, H⟩
      by_cases c2 : 0 < r1
      · obtain ⟨uE, huE, H⟩ := HS.take H.sw1 c1
        obtain ⟨x1, x2, rfl, ok, H2'⟩ := H.unEd
        replace H := H2'
        have hiaP := HS.holeia H.sw4 (n := 2) (kd := .i64) rfl hi2
        have hPP := hld_parts (cs := [.int .i64 y.procs[i].locs, we]) (HS.holeP H.sw4 (n := 2) rfl rfl)
        have hiaE := HS.holeia H.sw2 (n := 10) (kd := .i64) rfl c1
        have hPE := hld_parts (HS.holeP H.sw2 (n := 10) rfl rfl)
        simp -implicitDefEqProofs (disch := first | omega | (simp only [List.length_set, List.length_replicate, List.length_append, List.length_map, List.length_take, List.length_cons, List.length_nil]; omega)) [wrap64, c2, hiaP, hPP.1, hPP.2.2.1, hiaE, hPE.1, setC]
        refine HS.holest H.sw2 rfl (n := 10) rfl rfl rfl rfl rfl (by decide) fun h5 H => ?_
        have H : HS g (hole we y.procs[i].edges k2 (.agg (Ed.cs ⟨y.procs[i].edges[k2].frm, y.procs[i].edges[k2].to, Exq.mk 1 1 [], y.procs[i].edges[k2].var, y.procs[i].edges[k2].value, y.procs[i].edges[k2].sync⟩ (.slice none 0 0) x2).toArray) :: ow x1 y.procs[i].edges[k2].guard.kids :: ow x2 y.procs[i].edges[k2].value.kids :: rb b sl (p3 + 1) :: hole w y.procs i (.agg #[.int .i64 y.procs[i].locs, we]) :: ow wi y.init :: Γ) h5 := H
        have H := HS.put (HS.mkEd (e := ⟨y.procs[i].edges[k2].frm, y.procs[i].edges[k2].to, Exq.mk 1 1 [], y.procs[i].edges[k2].var, y.procs[i].edges[k2].value, y.procs[i].edges[k2].sync⟩) (H.sw2.nil_ow) ⟨ok.frm, ok.to, ⟨by show (_ : Int) ≤ 1; decide, by show (1 : Int) < _; decide⟩, ⟨by show (_ : Int) ≤ 1; decide, by show (1 : Int) < _; decide⟩, ok.var, ok.vk, ok.vv, ok.sync⟩)
        have H := HS.put ((HS.mkPr (p := ⟨y.procs[i].locs, y.procs[i].edges.set k2 _⟩) H kl).under fun _ H => H.sw2)
        simp -implicitDefEqProofs (disch := first | omega | (simp only [List.length_set, List.length_replicate, List.length_append, List.length_map, List.length_take, List.length_cons, List.length_nil]; omega)) [wrap64]
        have hek := hpi.ee _ (List.getElem_mem c1)
        exact hJ2 (k2 + 1) _ _ (by omega) ⟨⟨y.init, _⟩, _, by simp, (H.under fun _ H => H.drop.sw1), Sy.Sm.setk hy hi2 c1 ⟨by simp [Exq.nod, Exq.nods], hek.v⟩, by simpa using hyl, by omega, by omega, by push_cast; omega⟩
      · simp -implicitDefEqProofs (disch := first | omega | (simp only [List.length_set, List.length_replicate, List.length_append, List.length_map, List.length_take, List.length_cons, List.length_nil]; omega)) [wrap64, c2]
        have H := HS.put ((HS.mkPr (p := y.procs[i]) H.sw1 kl).under fun _ H => H.sw1)
        rw [List.set_getElem_self] at H
        exact hJ2 (k2 + 1) _ _ (by omega) ⟨y, _, by simp, H.under fun _ H => H.sw1, hy, hyl, by omega, by omega, by push_cast; omega⟩
    · simp -implicitDefEqProofs (disch := first | omega | (simp only [List.length_set, List.length_replicate, List.length_append, List.length_map, List.length_take, List.length_cons, List.length_nil]; omega)) [wrap64, c1]
      exact hJ (i + 1) _ _ (by omega) ⟨y, p3, by simp, H, hy, hyl, by omega, by omega, by push_cast; omega⟩
  · have hO1 := H.rep.one
    have hC1 := H.rep.cells
    have hO2 := H.sw1.rep.one
    have hC2 := H.sw1.rep.cells
    simp -implicitDefEqProofs (disch := first | omega | (simp only [List.length_set, List.length_replicate, List.length_append, List.length_map, List.length_take, List.length_cons, List.length_nil]; omega)) [wrap64, c0, setC, hO1, hC1, hO2, hC2]
    exact RetK.keep (hk _ _ ⟨y, p2, HS.mkSy H.sw1, hy, by omega, by omega⟩)
end Go.Proofs.Ythgimpheeemooaa

/-
  Arguments of laws: systems with labels, drawn from bytes.
-/
namespace Go.Proofs.Ythgimpheeemooaa
open Go
set_option linter.all false
set_option linter.unusedVariables false
set_option linter.unusedSimpArgs false
set_option linter.defProp false
set_option maxRecDepth 1000000

/-- two lists as a function's results -/
def RD2 (h : Heap) : Value → Heap → Prop := fun u h' => ∃ (u1 u2 : Value) (s : Sy) (L : List Exq), u = .tuple #[u1, u2] ∧ HS h [ow u1 s, ow u2 L] h' ∧ L.length ≤ 3
theorem c_DrawRelevantVars {h : Heap} {v : Value} {l : List (BitVec 8)} (R : Rep h v l) : CallE Try.prog fn_spec_DrawRelevantVars [v] h (RD2 h) := by
  refine CallE.gen fun k hk => EN_spec_DrawRelevantVars rfl ?_
  simp -implicitDefEqProofs (disch := first | omega | (simp only [List.length_set, List.length_replicate, List.length_append, List.length_map, List.length_take, List.length_cons, List.length_nil]; omega)) [wrap64]
  refine (c_l16Open R).go ?_
  rintro _ h1 ⟨b, sl, l', rfl, R', H⟩
  simp -implicitDefEqProofs (disch := first | omega | (simp only [List.length_set, List.length_replicate, List.length_append, List.length_map, List.length_take, List.length_cons, List.length_nil]; omega)) [wrap64]
  refine (c_l14Labels R' H (by omega) (by omega)).go ?_
  rintro w h2 ⟨L, p1, H, hL, hp1, hp2⟩
  simp -implicitDefEqProofs (disch := first | omega | (simp only [List.length_set, List.length_replicate, List.length_append, List.length_map, List.length_take, List.length_cons, List.length_nil]; omega)) [wrap64]
  refine (c_l14System R' H.sw1 (by omega) (by omega)).go ?_
  rintro u h3 ⟨s, p2, H, hs, hp3, hp4⟩
  have FS := H.rep.aSy
  simp -implicitDefEqProofs (disch := first | omega | (simp only [List.length_set, List.length_replicate, List.length_append, List.length_map, List.length_take, List.length_cons, List.length_nil]; omega)) [wrap64, FS]
  obtain ⟨g1, H1, H2⟩ := HS.rebase (Δ := [rb b sl p2]) H.sw1
  refine (c_l2Mutate (R'.on H1) H1.rep hs (by omega) (by omega) H2 (by omega) (by omega)).go ?_
  rintro x h4 ⟨y, p3, H3, hy, hp5, hp6⟩
  have H := H3.app H1
  have FY := H.rep.aSy
  simp -implicitDefEqProofs (disch := first | omega | (simp only [List.length_set, List.length_replicate, List.length_append, List.length_map, List.length_take, List.length_cons, List.length_nil]; omega)) [wrap64, setC, FY]
  exact RetK.keep (hk _ _ ⟨x, w, y, L, rfl, (H.under fun _ H => (H.drop.drop)), hL⟩)
end Go.Proofs.Ythgimpheeemooaa

/-
  What variables occur in expressions: by the program; equal lists of truth values.
-/
namespace Go.Proofs.Ythgimpheeemooaa
open Go
set_option linter.all false
set_option linter.unusedVariables false
set_option linter.unusedSimpArgs false
set_option linter.defProp false
set_option maxRecDepth 1000000

theorem c_ExprVars {h : Heap} {v : Value} {x : Exq} (R : Rep h v x) : CallE Try.prog fn_impl_ExprVars [v] h (fun u h' => HS h [ow u (if x.Ok then x.mkv [false, false, false] else [])] h') := by
  have FA := R.aExq
  refine CallE.gen fun k hk => EN_impl_ExprVars rfl ?_
  simp -implicitDefEqProofs (disch := first | omega | (simp only [List.length_set, List.length_replicate, List.length_append, List.length_map, List.length_take, List.length_cons, List.length_nil]; omega)) [wrap64, FA]
  refine (c_ExprValid R).go ?_
  rintro _ h1 ⟨l1, rfl⟩
  by_cases q : x.Ok
  case neg =>
    simp -implicitDefEqProofs (disch := first | omega | (simp only [List.length_set, List.length_replicate, List.length_append, List.length_map, List.length_take, List.length_cons, List.length_nil]; omega)) [wrap64, q]
    exact RetK.keep (hk _ _ (by rw [if_neg q]; exact HS.nil_ow (Γ := []) l1))
  simp -implicitDefEqProofs (disch := first | omega | (simp only [List.length_set, List.length_replicate, List.length_append, List.length_map, List.length_take, List.length_cons, List.length_nil]; omega)) [wrap64, q]
  refine HS.mks (Γ := []) (α := Bool) (z := false) (n := 3) (c := 3) (show HS h [] h1 from l1) rfl rfl own_false (Nat.le_refl _) (by decide) (by decide) fun m h2 H => ?_
  simp -implicitDefEqProofs (disch := first | omega | (simp only [List.length_set, List.length_replicate, List.length_append, List.length_map, List.length_take, List.length_cons, List.length_nil]; omega)) [wrap64, FA]
  refine (c_vars x q.1 R H rfl).go ?_
  intro _ h3 H
  simp -implicitDefEqProofs (disch := first | omega | (simp only [List.length_set, List.length_replicate, List.length_append, List.length_map, List.length_take, List.length_cons, List.length_nil]; omega)) [wrap64]
  exact RetK.keep (hk _ _ (by rw [if_pos q]; exact H))
theorem c_wpOccurs {h : Heap} {v : Value} {x : Exq} {i : Nat} (R : Rep h v x) (hx : x.Ok) (hi : i < 3) : CallE Try.prog fn_laws_wpOccurs [v, .int .i64 i] h (fun u h' => h.le h' ∧ u = .bool (occB x i)) := by
  have FA := R.aExq
  refine CallE.gen fun k hk => EN_laws_wpOccurs rfl ?_
  simp -implicitDefEqProofs (disch := first | omega | (simp only [List.length_set, List.length_replicate, List.length_append, List.length_map, List.length_take, List.length_cons, List.length_nil]; omega)) [wrap64, FA]
  refine (c_ExprVars R).go ?_
  intro u h1 H
  rw [if_pos hx] at H
  obtain ⟨M, hM⟩ : ∃ M, M = x.mkv [false, false, false] := ⟨_, rfl⟩
  rw [← hM] at H
  have hl : M.length = 3 := by rw [hM]; exact x.mkv_len rfl
  have hoc : occB x i = M[i]'(by omega) := by simp [occB, ← hM, hl, hi]
  have hi' : (i : Int) < 3 := by omega
  simp -implicitDefEqProofs (disch := first | omega | (simp only [List.length_set, List.length_replicate, List.length_append, List.length_map, List.length_take, List.length_cons, List.length_nil]; omega)) [wrap64, H.rep.len, hl, hi', H.rep.B]
  exact RetK.keep (hk _ _ ⟨H.base, by rw [hoc]⟩)
theorem c_wpBools {h : Heap} {v w : Value} {a b : List Bool} (Ra : Rep h v a) (Rb : Rep h w b) : CallE Try.prog fn_laws_wpBools [v, w] h (fun u h' => h' = h ∧ u = .bool (decide (a = b))) := by
  have hL := Ra.lt
  refine CallE.gen fun k hk => EN_laws_wpBools rfl ?_
  by_cases hl : (a.length : Int) = b.length
  case neg =>
    simp -implicitDefEqProofs (disch := first | omega | (simp only [List.length_set, List.length_replicate, List.length_append, List.length_map, List.length_take, List.length_cons, List.length_nil]; omega)) [wrap64, Ra.len, Rb.len, hl]
    exact RetK.keep (hk _ _ ⟨rfl, by congr 1; rw [eq_comm, decide_eq_false_iff_not]; intro e; subst e; exact hl rfl⟩)
  simp -implicitDefEqProofs (disch := first | omega | (simp only [List.length_set, List.length_replicate, List.length_append, List.length_map, List.length_take, List.length_cons, List.length_nil]; omega)) [wrap64, Ra.len, Rb.len, hl]
  refine wp_count a.length (fun i e h' => e = [some v, some w, none, some (.int .i64 i)] ∧ h' = h ∧ a.take i = b.take i) ⟨by simp, rfl, rfl⟩ ?_
  rintro J i _ h hJ hi ⟨rfl, rfl, hq⟩
  simp -implicitDefEqProofs (disch := first | omega | (simp only [List.length_set, List.length_replicate, List.length_append, List.length_map, List.length_take, List.length_cons, List.length_nil]; omega)) [wrap64, Ra.len]
  refine IteW.mk (fun hlt => ?_) (fun hge => ?_)
  · have hlx : i < a.length := by omega
    have hly : i < b.length := by omega
    by_cases he : a[i] = b[i]
    · simp -implicitDefEqProofs (disch := first | omega | (simp only [List.length_set, List.length_replicate, List.length_append, List.length_map, List.length_take, List.length_cons, List.length_nil]; omega)) [wrap64, Ra.B, Rb.B, he]
      exact hJ _ _ hlx ⟨rfl, rfl, take_step hq hlx hly he⟩
    · simp -implicitDefEqProofs (disch := first | omega | (simp only [List.length_set, List.length_replicate, List.length_append, List.length_map, List.length_take, List.length_cons, List.length_nil]; omega)) [wrap64, Ra.B, Rb.B, he]
      exact RetK.keep (hk _ _ ⟨rfl, by congr 1; rw [eq_comm, decide_eq_false_iff_not]; intro e; subst e; exact he rfl⟩)
  · simp -implicitDefEqProofs (disch := first | omega | (simp only [List.length_set, List.length_replicate, List.length_append, List.length_map, List.length_take, List.length_cons, List.length_nil]; omega)) [wrap64]
    rw [List.take_of_length_le (by omega), List.take_of_length_le (by omega)] at hq
    exact RetK.keep (hk _ _ ⟨rfl, by simp [hq]⟩)
end Go.Proofs.Ythgimpheeemooaa

/-
  The law: relevance is closed.
-/
namespace Go.Proofs.Ythgimpheeemooaa
open Go
set_option linter.all false
set_option linter.unusedVariables false
set_option linter.unusedSimpArgs false
set_option linter.defProp false
set_option maxRecDepth 1000000

set_option maxHeartbeats 2000000 in
theorem c_FnRelevantVars {h : Heap} {v : Value} {l : List (BitVec 8)} (R : Rep h v l) : CallE Try.prog fn_laws_FnRelevantVars [v] h (fun u h' => h.le h' ∧ u = .bool true) := by
  refine CallE.gen fun k hk => EN_laws_FnRelevantVars rfl ?_
  simp -implicitDefEqProofs (disch := first | omega | (simp only [List.length_set, List.length_replicate, List.length_append, List.length_map, List.length_take, List.length_cons, List.length_nil]; omega)) [wrap64, R.len]
  refine IteW.mk (fun hlt => ?_) (fun hge => ?_)
  · simp -implicitDefEqProofs (disch := first | omega | (simp only [List.length_set, List.length_replicate, List.length_append, List.length_map, List.length_take, List.length_cons, List.length_nil]; omega)) [wrap64]
    exact RetK.keep (hk _ _ ⟨Heap.le.refl _, rfl⟩)
  simp -implicitDefEqProofs (disch := first | omega | (simp only [List.length_set, List.length_replicate, List.length_append, List.length_map, List.length_take, List.length_cons, List.length_nil]; omega)) [wrap64]
  refine (c_DrawRelevantVars R).go ?_
  rintro _ h1 ⟨u1, u2, s, L, rfl, H, hL3⟩
  have FS := H.rep.aSy
  simp -implicitDefEqProofs (disch := first | omega | (simp only [List.length_set, List.length_replicate, List.length_append, List.length_map, List.length_take, List.length_cons, List.length_nil]; omega)) [wrap64, FS, setC]
  refine (c_RelevantVars H.rep H.sw1.rep).go ?_
  rintro _ h2 ⟨a, rfl, G⟩
  have H := G.app H
  simp -implicitDefEqProofs (disch := first | omega | (simp only [List.length_set, List.length_replicate, List.length_append, List.length_map, List.length_take, List.length_cons, List.length_nil]; omega)) [wrap64, FS]
  refine (c_spec_RelevantVars H.sw1.rep H.sw2.rep).go ?_
  rintro _ h3 ⟨b, rfl, G⟩
  have H := G.app H
  simp -implicitDefEqProofs (disch := first | omega | (simp only [List.length_set, List.length_replicate, List.length_append, List.length_map, List.length_take, List.length_cons, List.length_nil]; omega)) [wrap64]
  refine (c_wpBools H.sw1.rep H.rep).go ?_
  rintro _ h3 ⟨rfl, rfl⟩
  by_cases q : s.Ok ∧ LOk L
  case neg =>
    simp -implicitDefEqProofs (disch := first | omega | (simp only [List.length_set, List.length_replicate, List.length_append, List.length_map, List.length_take, List.length_cons, List.length_nil]; omega)) [wrap64]
    refine IteW.mk (fun _ => ?_) (fun hh => absurd (Classical.not_and_iff_not_or_not.1 q) hh)
    simp -implicitDefEqProofs (disch := first | omega | (simp only [List.length_set, List.length_replicate, List.length_append, List.length_map, List.length_take, List.length_cons, List.length_nil]; omega)) [wrap64]
    refine (c_wpBools H.sw1.rep H.rep).go ?_
    rintro _ h3 ⟨rfl, rfl⟩
    simp -implicitDefEqProofs (disch := first | omega | (simp only [List.length_set, List.length_replicate, List.length_append, List.length_map, List.length_take, List.length_cons, List.length_nil]; omega)) [wrap64]
    exact RetK.keep (hk _ _ ⟨H.base, rfl⟩)
  have q' := q
  obtain ⟨hs, hL⟩ := q
  rw [relR, if_pos q'] at H
  have hM3 : (s.rel L).length = 3 := Sy.rel_len
  have Ra := H.sw1.rep
  have Rs := H.sw2.rep
  have RL := H.sw3.rep
  have l3 := H.base
  simp -implicitDefEqProofs (disch := first | omega | (simp only [List.length_set, List.length_replicate, List.length_append, List.length_map, List.length_take, List.length_cons, List.length_nil]; omega)) [wrap64, hs, hL]
  clear H G
  have hLl := hL.len
  obtain ⟨v1, v2, rfl, R1, R2'⟩ := Rep_Sy.1 Rs
  have hp3 := hs.p3
  obtain ⟨M, hM⟩ : ∃ M, M = s.rel L := ⟨_, rfl⟩
  rw [← hM] at Ra hM3
  have hget : ∀ {i : Nat} (hi : i < 3), (s.rel L).getD i false = true → M[i]'(by omega) = true := fun {i} hi hh => by rw [← hM] at hh; simpa [hM3, hi] using hh
  refine wp_count 3 (fun i e h' => e = [none, none, some (.agg #[v1, v2]), some u2, some a, none, none, none, some (.int .i64 i), none, none, none, none] ∧ h3.le h') ⟨by simp, Heap.le.refl _⟩ ?_
  rintro J i _ h4 hJ hi ⟨rfl, l4⟩
  have hi0 := hi
  simp -implicitDefEqProofs (disch := first | omega | (simp only [List.length_set, List.length_replicate, List.length_append, List.length_map, List.length_take, List.length_cons, List.length_nil]; omega)) [wrap64, (Ra.le l4).len, hM3]
  refine IteW.mk (fun hlt => ?_) (fun hge2 => ?_)
  · have hi : i < 3 := by omega
    have hiM : i < M.length := by omega
    simp -implicitDefEqProofs (disch := first | omega | (simp only [List.length_set, List.length_replicate, List.length_append, List.length_map, List.length_take, List.length_cons, List.length_nil]; omega)) [wrap64]
    refine wp_count L.length (fun j e h' => e = [none, none, some (.agg #[v1, v2]), some u2, some a, none, none, none, some (.int .i64 i), some (.int .i64 j), none, none, none] ∧ h3.le h') ⟨by simp, l4⟩ ?_
    rintro J1 j _ h5 hJ1 hj ⟨rfl, l5⟩
    simp -implicitDefEqProofs (disch := first | omega | (simp only [List.length_set, List.length_replicate, List.length_append, List.length_map, List.length_take, List.length_cons, List.length_nil]; omega)) [wrap64, (RL.le l5).len]
    refine IteW.mk (fun hlt1 => ?_) (fun hge1 => ?_)
    · have hj : j < L.length := by omega
      obtain ⟨u, hu, Ru⟩ := (RL.le l5).ld hj
      change hload _ (some (elp 3 u2 j)) (some 3) = some u at hu
      have hmem := List.getElem_mem hj
      simp -implicitDefEqProofs (disch := first | omega | (simp only [List.length_set, List.length_replicate, List.length_append, List.length_map, List.length_take, List.length_cons, List.length_nil]; omega)) [wrap64, (RL.le l5).X (n := 3) rfl, hu, Ru.aExq]
      refine (c_wpOccurs Ru (hL.ok _ hmem) hi).go ?_
      rintro _ h6 ⟨l6, rfl⟩
      by_cases oc : occB L[j] i = true
      · have := hget hi (rel_label (s := s) hmem oc)
        simp -implicitDefEqProofs (disch := first | omega | (simp only [List.length_set, List.length_replicate, List.length_append, List.length_map, List.length_take, List.length_cons, List.length_nil]; omega)) [wrap64, oc, (Ra.le (l5.trans l6)).B, this]
        exact hJ1 _ _ hj ⟨by simp, l5.trans l6⟩
      · simp -implicitDefEqProofs (disch := first | omega | (simp only [List.length_set, List.length_replicate, List.length_append, List.length_map, List.length_take, List.length_cons, List.length_nil]; omega)) [wrap64, oc]
        exact hJ1 _ _ hj ⟨by simp, l5.trans l6⟩
    simp -implicitDefEqProofs (disch := first | omega | (simp only [List.length_set, List.length_replicate, List.length_append, List.length_map, List.length_take, List.length_cons, List.length_nil]; omega)) [wrap64]
    refine wp_count s.procs.length (fun j e h' => e = [none, none, some (.agg #[v1, v2]), some u2, some a, none, none, none, some (.int .i64 i), none, some (.int .i64 j), none, none] ∧ h3.le h') ⟨by simp, l5⟩ ?_
    clear l5
    rintro J2 j2 _ h5 hJ2 hj2 ⟨rfl, l5⟩
    simp -implicitDefEqProofs (disch := first | omega | (simp only [List.length_set, List.length_replicate, List.length_append, List.length_map, List.length_take, List.length_cons, List.length_nil]; omega)) [wrap64, (R2'.le l5).len]
    refine IteW.mk (fun hlt2 => ?_) (fun hge3 => ?_)
    · have hj2 : j2 < s.procs.length := by omega
      obtain ⟨u, hu, Ru⟩ := R2'.ld hj2
      change hload _ (some (elp 2 v2 j2)) (some 2) = some u at hu
      obtain ⟨we, rfl, k1, R3⟩ := Rep_Pr.1 Ru
      have hP : ∀ {h'}, h3.le h' → _ := fun {h'} (hl : h3.le h') => hld_parts (cs := [.int .i64 s.procs[j2].locs, we]) (hload_le hl hu)
      have hpo := hs.at hj2
      have hpm := List.getElem_mem hj2
      have hel := hpo.el
      simp -implicitDefEqProofs (disch := first | omega | (simp only [List.length_set, List.length_replicate, List.length_append, List.length_map, List.length_take, List.length_cons, List.length_nil]; omega)) [wrap64]
      refine wp_count s.procs[j2].edges.length (fun k e h' => e = [none, none, some (.agg #[v1, v2]), some u2, some a, none, none, none, some (.int .i64 i), none, some (.int .i64 j2), some (.int .i64 k), none] ∧ h3.le h') ⟨by simp, l5⟩ ?_
      clear l5
      rintro J3 k3 _ h5 hJ3 hk3 ⟨rfl, l5⟩
      have hP1 := (hP l5).1
      have hP2 := (hP l5).2.2.1
      simp -implicitDefEqProofs (disch := first | omega | (simp only [List.length_set, List.length_replicate, List.length_append, List.length_map, List.length_take, List.length_cons, List.length_nil]; omega)) [wrap64, R2'.X (n := 2) rfl, hP1, hP2, R3.len]
      refine IteW.mk (fun hlt3 => ?_) (fun hge4 => ?_)
      · have hk3 : k3 < s.procs[j2].edges.length := by omega
        obtain ⟨u3, hu3, Ru3⟩ := R3.ld hk3
        have hu3 := hload_le l5 hu3
        change hload _ (some (elp 10 we k3)) (some 10) = some u3 at hu3
        obtain ⟨w1, w2, rfl, ok, G1, G2⟩ := Rep_Ed.1 Ru3
        have heo := hpo.at hk3
        have hem := List.getElem_mem hk3
        have hF1 := G1.one
        have hF2 := G2.one
        simp -implicitDefEqProofs (disch := first | omega | (simp only [List.length_set, List.length_replicate, List.length_append, List.length_map, List.length_take, List.length_cons, List.length_nil]; omega)) [wrap64, R2'.X (n := 2) rfl, hP1, hP2, R3.X (n := 10) rfl, hu3, Ed.cs, setC, hF1, hF2]
        refine (c_wpOccurs ((Rep.gd (w2 := w2) ok G1).le l5) heo.gd hi).go ?_
        rintro _ h6 ⟨l6, rfl⟩
        have l7 := l5.trans l6
        by_cases oc : occB s.procs[j2].edges[k3].guard i = true
        · have := hget hi (rel_guard (L := L) hpm hem oc)
          simp -implicitDefEqProofs (disch := first | omega | (simp only [List.length_set, List.length_replicate, List.length_append, List.length_map, List.length_take, List.length_cons, List.length_nil]; omega)) [wrap64, oc, (Ra.le l7).B, this]
          exact hJ3 _ _ hk3 ⟨by simp, l7⟩
        by_cases c0 : 0 ≤ s.procs[j2].edges[k3].var
        case neg =>
          simp -implicitDefEqProofs (disch := first | omega | (simp only [List.length_set, List.length_replicate, List.length_append, List.length_map, List.length_take, List.length_cons, List.length_nil]; omega)) [wrap64, oc, c0]
          exact hJ3 _ _ hk3 ⟨by simp, l7⟩
        have hvb := heo.v1
        obtain ⟨x, hx⟩ : ∃ x : Nat, s.procs[j2].edges[k3].var = x := ⟨_, (Int.toNat_of_nonneg c0).symm⟩
        have hxM : x < M.length := by omega
        have hvo : s.procs[j2].edges[k3].value.Ok := heo.vl.elim (fun hh => hh.2) (fun hh => absurd hh.1 (by omega))
        by_cases c1 : M[x] = true
        case neg =>
          simp -implicitDefEqProofs (disch := first | omega | (simp only [List.length_set, List.length_replicate, List.length_append, List.length_map, List.length_take, List.length_cons, List.length_nil]; omega)) [wrap64, oc, c0, hx, (Ra.le l7).B, c1]
          exact hJ3 _ _ hk3 ⟨by simp, l7⟩
        simp -implicitDefEqProofs (disch := first | omega | (simp only [List.length_set, List.length_replicate, List.length_append, List.length_map, List.length_take, List.length_cons, List.length_nil]; omega)) [wrap64, oc, c0, hx, (Ra.le l7).B, c1]
        refine (c_wpOccurs ((Rep.vl ok G2).le l7) hvo hi).go ?_
        rintro _ h8 ⟨l8, rfl⟩
        have l9 := l7.trans l8
        by_cases oc2 : occB s.procs[j2].edges[k3].value i = true
        · have hxg : (s.rel L).getD s.procs[j2].edges[k3].var.toNat false = true := by rw [← hM, hx, Int.toNat_natCast]; simpa [hxM] using c1
          have := hget hi (rel_value (L := L) hpm hem c0 hxg oc2)
          simp -implicitDefEqProofs (disch := first | omega | (simp only [List.length_set, List.length_replicate, List.length_append, List.length_map, List.length_take, List.length_cons, List.length_nil]; omega)) [wrap64, oc2, (Ra.le l9).B, this]
          exact hJ3 _ _ hk3 ⟨by simp, l9⟩
        · simp -implicitDefEqProofs (disch := first | omega | (simp only [List.length_set, List.length_replicate, List.length_append, List.length_map, List.length_take, List.length_cons, List.length_nil]; omega)) [wrap64, oc2]
          exact hJ3 _ _ hk3 ⟨by simp, l9⟩
      simp -implicitDefEqProofs (disch := first | omega | (simp only [List.length_set, List.length_replicate, List.length_append, List.length_map, List.length_take, List.length_cons, List.length_nil]; omega)) [wrap64]
      exact hJ2 _ _ hj2 ⟨by simp, l5⟩
    simp -implicitDefEqProofs (disch := first | omega | (simp only [List.length_set, List.length_replicate, List.length_append, List.length_map, List.length_take, List.length_cons, List.length_nil]; omega)) [wrap64]
    exact hJ _ _ hi ⟨by simp, l5⟩
  simp -implicitDefEqProofs (disch := first | omega | (simp only [List.length_set, List.length_replicate, List.length_append, List.length_map, List.length_take, List.length_cons, List.length_nil]; omega)) [wrap64, (Ra.le l4).len, hM3]
  exact RetK.keep (hk _ _ ⟨l3.trans l4, rfl⟩)
end Go.Proofs.Ythgimpheeemooaa
