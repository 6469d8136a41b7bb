/-
  Texts of this proof, one behind the other.
-/
import Derived.Test.YtonjglbachhdcaaGreatM7
/-
  Arguments of laws: systems with expressions, with numbers; slices that are written out with elements that are only read.
-/
namespace Go.Proofs.YtonjglbachhdcaaGreat
open Go
set_option linter.all false
set_option linter.unusedVariables false
set_option linter.unusedSimpArgs false
set_option linter.defProp false
set_option maxRecDepth 1000000

def RDe (h : Heap) : Value → Heap → Prop := fun u h' => ∃ (u1 u2 : Value) (s : Sy) (e : Exq), u = .tuple #[u1, u2] ∧ HS h [ow u1 s, ow u2 e] h'
theorem c_DrawSystemValid {h : Heap} {v : Value} {l : List (BitVec 8)} (R : Rep h v l) : CallE Tryz.prog fn_spec_DrawSystemValid [v] h (fun u h' => ∃ (s : Sy), HS h [ow u s] h') := by
  refine CallE.gen fun k hk => EN_spec_DrawSystemValid rfl ?_
  simp -implicitDefEqProofs (disch := first | omega | (simp only [List.length_set, List.length_replicate, List.length_append, List.length_map, List.length_take, List.length_cons, List.length_nil]; omega)) [wrap64]
  refine (c_l16Open R).go ?_
  rintro _ h1 ⟨b, sl, l', rfl, R', H⟩
  simp -implicitDefEqProofs (disch := first | omega | (simp only [List.length_set, List.length_replicate, List.length_append, List.length_map, List.length_take, List.length_cons, List.length_nil]; omega)) [wrap64]
  refine (c_l2System R' H (by omega) (by omega)).go ?_
  rintro u h2 ⟨s, p1, H, hs, hp1, hp2⟩
  have FS := H.rep.aSy
  simp -implicitDefEqProofs (disch := first | omega | (simp only [List.length_set, List.length_replicate, List.length_append, List.length_map, List.length_take, List.length_cons, List.length_nil]; omega)) [wrap64, FS]
  obtain ⟨g1, H1, H2⟩ := HS.rebase (Δ := [rb b sl p1]) H.sw1
  refine (c_l2Mutate (R'.on H1) H1.rep hs (by omega) (by omega) H2 (by omega) (by omega)).go ?_
  rintro x h3 ⟨y, p2, H3, hy, hp3, hp4⟩
  have H := H3.app H1
  have FY := H.rep.aSy
  simp -implicitDefEqProofs (disch := first | omega | (simp only [List.length_set, List.length_replicate, List.length_append, List.length_map, List.length_take, List.length_cons, List.length_nil]; omega)) [wrap64, FY, setC]
  exact RetK.keep (hk _ _ ⟨y, H.only⟩)
theorem c_DrawBuildGraph {h : Heap} {v : Value} {l : List (BitVec 8)} (R : Rep h v l) : CallE Tryz.prog fn_spec_DrawBuildGraph [v] h (fun u h' => ∃ (s : Sy), HS h [ow u s] h') := by
  refine CallE.gen fun k hk => EN_spec_DrawBuildGraph rfl ?_
  simp -implicitDefEqProofs (disch := first | omega | (simp only [List.length_set, List.length_replicate, List.length_append, List.length_map, List.length_take, List.length_cons, List.length_nil]; omega)) [wrap64]
  refine (c_DrawSystemValid R).go ?_
  rintro x h3 ⟨y, H⟩
  have FY := H.rep.aSy
  simp -implicitDefEqProofs (disch := first | omega | (simp only [List.length_set, List.length_replicate, List.length_append, List.length_map, List.length_take, List.length_cons, List.length_nil]; omega)) [wrap64, FY, setC]
  exact RetK.keep (hk _ _ ⟨y, H⟩)
end Go.Proofs.YtonjglbachhdcaaGreat

/-
  Marks in lists of states and in lists of lists of numbers.
-/
namespace Go.Proofs.YtonjglbachhdcaaGreat
open Go
set_option linter.all false
set_option linter.unusedVariables false
set_option linter.unusedSimpArgs false
set_option linter.defProp false
set_option maxRecDepth 1000000

end Go.Proofs.YtonjglbachhdcaaGreat

/-
  What the helpers of the laws do: copying, counting, comparing, marking. Printed by a program.
-/
namespace Go.Proofs.YtonjglbachhdcaaGreat
open Go
set_option linter.all false
set_option linter.unusedVariables false
set_option linter.unusedSimpArgs false
set_option linter.defProp false
set_option maxRecDepth 1000000

end Go.Proofs.YtonjglbachhdcaaGreat

/-
  How much a graph holds.
-/
namespace Go.Proofs.YtonjglbachhdcaaGreat
open Go
set_option linter.all false
set_option linter.unusedVariables false
set_option linter.unusedSimpArgs false
set_option linter.defProp false
set_option maxRecDepth 1000000
end Go.Proofs.YtonjglbachhdcaaGreat

/-
  Checking reachable states: by the reference; how much the answers hold.
-/
namespace Go.Proofs.YtonjglbachhdcaaGreat
open Go
set_option linter.all false
set_option linter.unusedVariables false
set_option linter.unusedSimpArgs false
set_option linter.defProp false
set_option maxRecDepth 1000000

end Go.Proofs.YtonjglbachhdcaaGreat

/-
  Edges that are never taken: by the program and by the reference.
-/
namespace Go.Proofs.YtonjglbachhdcaaGreat
open Go
set_option linter.all false
set_option linter.unusedVariables false
set_option linter.unusedSimpArgs false
set_option linter.defProp false
set_option maxRecDepth 1000000

def ddS (p : Int) (l : List Bool) (t : Stp) : List Bool := if t.partner = p then (if t.proc = p then l.set t.edge.toNat false else l).set t.pedge.toNat false else if t.proc = p then l.set t.edge.toNat false else l
def ddF (s : Sy) (p : Int) (st : Sta) (n : Nat) (l : List Bool) : List Bool := ((enb s st).take n).foldl (ddS p) l
def ddG (s : Sy) (p : Int) (xs : List Sta) (n : Nat) (l : List Bool) : List Bool := (xs.take n).foldl (fun l st => ddF s p st (enb s st).length l) l
def dOk (s : Sy) (p : Int) : Prop := bgOk s ∧ 0 ≤ p ∧ p < s.procs.length
noncomputable instance instDecDOk {s : Sy} {p : Int} : Decidable (dOk s p) := Classical.propDecidable _
def Sy.dead (s : Sy) (p : Int) (g : Gr) : List Bool := ddG s p g.states g.states.length (List.replicate (s.procs.getD p.toNat ⟨0, []⟩).edges.length true)
noncomputable def deadR (s : Sy) (p : Int) : List Bool := if dOk s p then s.dead p (bgR s) else []
end Go.Proofs.YtonjglbachhdcaaGreat

/-
  Invariants and conjunctions; dead edges: in plain Lean.
-/
namespace Go.Proofs.YtonjglbachhdcaaGreat
open Go
set_option linter.all false
set_option linter.unusedVariables false
set_option linter.unusedSimpArgs false
set_option linter.defProp false
set_option maxRecDepth 1000000

end Go.Proofs.YtonjglbachhdcaaGreat

/-
  The law: the graph's states have all their successors.
-/
namespace Go.Proofs.YtonjglbachhdcaaGreat
open Go
set_option linter.all false
set_option linter.unusedVariables false
set_option linter.unusedSimpArgs false
set_option linter.defProp false
set_option maxRecDepth 1000000

theorem sucs_get {s : Sy} {st : Sta} {k : Nat} (hk : k < (enb s st).length) : st.aft s (enb s st)[k] ∈ sucs s st := List.mem_map.2 ⟨_, List.getElem_mem hk, rfl⟩
theorem pth_pos {s : Sy} (h : bgOk s) {i : Nat} (hi : i < (bgR s).states.length) : 0 < (pth (bgR s).next i).length := by
  have := (pth_exec h hi).1.ne
  rwa [sof_len] at this
set_option maxHeartbeats 2000000 in
theorem c_FnBuildGraph {h : Heap} {v : Value} {l : List (BitVec 8)} (R : Rep h v l) : CallE Tryz.prog fn_laws_FnBuildGraph [v] h (fun u h' => h.le h' ∧ u = .bool true) := by
  refine CallE.gen fun k hk => EN_laws_FnBuildGraph rfl ?_
  simp -implicitDefEqProofs (disch := first | omega | (simp only [List.length_set, List.length_replicate, List.length_append, List.length_map, List.length_take, List.length_cons, List.length_nil]; omega)) [wrap64, R.len]
  refine IteW.mk (fun hlt => ?_) (fun hge => ?_)
  · simp -implicitDefEqProofs (disch := first | omega | (simp only [List.length_set, List.length_replicate, List.length_append, List.length_map, List.length_take, List.length_cons, List.length_nil]; omega)) [wrap64]
    exact RetK.keep (hk _ _ ⟨Heap.le.refl _, rfl⟩)
  simp -implicitDefEqProofs (disch := first | omega | (simp only [List.length_set, List.length_replicate, List.length_append, List.length_map, List.length_take, List.length_cons, List.length_nil]; omega)) [wrap64]
  refine (c_DrawBuildGraph R).go ?_
  rintro u h1 ⟨s, H⟩
  have FS := H.rep.aSy
  simp -implicitDefEqProofs (disch := first | omega | (simp only [List.length_set, List.length_replicate, List.length_append, List.length_map, List.length_take, List.length_cons, List.length_nil]; omega)) [wrap64, FS]
  refine (c_BuildGraph H.rep).go ?_
  rintro _ h2 ⟨g, rfl, G⟩
  have H := G.app H
  have FG := H.rep.aGr
  simp -implicitDefEqProofs (disch := first | omega | (simp only [List.length_set, List.length_replicate, List.length_append, List.length_map, List.length_take, List.length_cons, List.length_nil]; omega)) [wrap64, FS, FG, setC]
  refine (c_spec_BuildGraph H.sw1.rep).go ?_
  rintro _ h3 ⟨w, rfl, G⟩
  have H := G.app H
  have FW := H.rep.aGr
  simp -implicitDefEqProofs (disch := first | omega | (simp only [List.length_set, List.length_replicate, List.length_append, List.length_map, List.length_take, List.length_cons, List.length_nil]; omega)) [wrap64, FG, FW, setC]
  refine (c_GraphSame H.sw1.rep H.rep).go ?_
  rintro _ h3 ⟨rfl, rfl⟩
  by_cases hbg : bgOk s
  case neg =>
    simp -implicitDefEqProofs (disch := first | omega | (simp only [List.length_set, List.length_replicate, List.length_append, List.length_map, List.length_take, List.length_cons, List.length_nil]; omega)) [wrap64, hbg, FG, FW]
    refine (c_GraphSame H.sw1.rep H.rep).go ?_
    rintro _ h3 ⟨rfl, rfl⟩
    simp -implicitDefEqProofs (disch := first | omega | (simp only [List.length_set, List.length_replicate, List.length_append, List.length_map, List.length_take, List.length_cons, List.length_nil]; omega)) [wrap64]
    exact RetK.keep (hk _ _ ⟨H.base, rfl⟩)
  have hs := hbg.1
  have hfin := bgR_fin hbg
  have hgok := bgR_ok hbg
  have hGC := bgR_GC hbg
  have h60 := hfin.n60
  have hpos := hfin.pos
  have hnl := hfin.nl
  obtain ⟨hE, hini⟩ := bgR_edge hbg
  simp -implicitDefEqProofs (disch := first | omega | (simp only [List.length_set, List.length_replicate, List.length_append, List.length_map, List.length_take, List.length_cons, List.length_nil]; omega)) [wrap64, hbg, FS]
  refine (c_InitialState H.sw2.rep).go ?_
  rintro _ h4 ⟨t, rfl, G⟩
  rw [if_pos hs] at G
  have H := G.app H
  have Rt := H.rep
  have Rg := H.sw2.rep
  have Rs := H.sw3.rep
  have l4 := H.base
  clear H G
  have FT := Rt.aSta
  have Rg0 := Rg
  have hpp := fun {i : Nat} => pth_pos hbg (i := i)
  have hfull := hGC.full
  generalize bgR s = B at *
  obtain ⟨g1, g2, rfl, X1, X2⟩ := Rep_Gr.1 Rg
  simp -implicitDefEqProofs (disch := first | omega | (simp only [List.length_set, List.length_replicate, List.length_append, List.length_map, List.length_take, List.length_cons, List.length_nil]; omega)) [wrap64, FT, setC]
  refine wp_count B.states.length (fun i e h' => e = [none, none, some u, some (.agg #[g1, g2]), none, none, none, some t, some (.int .i64 i), none, none, none, none] ∧ h4.le h') ⟨by simp, Heap.le.refl _⟩ ?_
  rintro J i _ h5 hJ hi ⟨rfl, l5⟩
  have X1' := X1.le l5
  simp -implicitDefEqProofs (disch := first | omega | (simp only [List.length_set, List.length_replicate, List.length_append, List.length_map, List.length_take, List.length_cons, List.length_nil]; omega)) [wrap64, X1'.len]
  refine IteW.mk (fun hlt1 => ?_) (fun hge1 => ?_)
  · have hi : i < B.states.length := by omega
    have hin : i < B.next.length := by omega
    have hmem := List.getElem_mem hi
    have hst := hfin.ok _ hmem
    obtain ⟨y, hy, Ry⟩ := X1'.ld hi
    change hload _ (some (elp 2 g1 i)) (some 2) = some y at hy
    obtain ⟨z, hz, Rz⟩ := (X2.le l5).ldL hin
    have FY := Ry.aSta
    have hX := X1'.X (n := 2) rfl
    have hsuc : ∀ {k : Nat} (hk : k < (enb s B.states[i]).length), B.states[i].aft s (enb s B.states[i])[k] ∈ B.states ∧ fx B.states (B.states[i].aft s (enb s B.states[i])[k]) ∈ B.next[i] := fun {k} hk => hfull i hin _ (by rw [show B.states.getD i Sta.zero = B.states[i] by simp [hi]]; exact sucs_get hk)
    obtain ⟨x, hx⟩ : ∃ x, x = B.states[i] := ⟨_, rfl⟩
    rw [← hx] at hst Ry hsuc
    have hel := enb_len' (st := x) hs
    simp -implicitDefEqProofs (disch := first | omega | (simp only [List.length_set, List.length_replicate, List.length_append, List.length_map, List.length_take, List.length_cons, List.length_nil]; omega)) [wrap64, hX, hy, FY, FS]
    refine (c_EnabledSteps (Rs.le l5) Ry).go ?_
    intro ls h6 G
    rw [ens_ok hs hst] at G
    have Rl := G.rep
    have l6 := G.base
    clear G
    simp -implicitDefEqProofs (disch := first | omega | (simp only [List.length_set, List.length_replicate, List.length_append, List.length_map, List.length_take, List.length_cons, List.length_nil]; omega)) [wrap64]
    refine wp_count (enb s x).length (fun k e h' => e = [none, none, some u, some (.agg #[g1, g2]), none, none, none, some t, some (.int .i64 i), some ls, some (.int .i64 k), none, none] ∧ h6.le h') ⟨by simp, Heap.le.refl _⟩ ?_
    rintro J2 k _ h7 hJ2 hk7 ⟨rfl, l7⟩
    simp -implicitDefEqProofs (disch := first | omega | (simp only [List.length_set, List.length_replicate, List.length_append, List.length_map, List.length_take, List.length_cons, List.length_nil]; omega)) [wrap64, (Rl.le l7).len]
    refine IteW.mk (fun hlt2 => ?_) (fun hge2 => ?_)
    · have hkl : k < (enb s x).length := by omega
      have l8 := l6.trans l7
      have hm : (enb s x)[k] ∈ ens s x := by rw [ens_ok hs hst]; exact List.getElem_mem hkl
      have okt : (enb s x)[k].ok := Rl.okStp hkl
      obtain ⟨m1, m2⟩ := hsuc hkl
      have LS := (Rl.le l7).xStp
      obtain ⟨p, hp⟩ : ∃ p, p = (enb s x)[k] := ⟨_, rfl⟩
      rw [← hp] at hm okt m1 m2
      obtain ⟨n, hn, hfx, _⟩ := fx_mem m1
      rw [hfx] at m2
      have FE := (Stp.rep (h := h7) okt).aStp
      have hy' := hload_le l8 hy
      simp -implicitDefEqProofs (disch := first | omega | (simp only [List.length_set, List.length_replicate, List.length_append, List.length_map, List.length_take, List.length_cons, List.length_nil]; omega)) [wrap64, hX, hy', FY, FS, LS, ← hp, FE]
      refine (c_ApplyStep (Rs.le (l5.trans l8)) (Ry.le l8) okt).go ?_
      rintro _ h9 ⟨q, rfl, G⟩
      rw [aplR, if_pos hm] at G
      have FQ := G.rep.aSta
      have lq := G.base
      simp -implicitDefEqProofs (disch := first | omega | (simp only [List.length_set, List.length_replicate, List.length_append, List.length_map, List.length_take, List.length_cons, List.length_nil]; omega)) [wrap64, hm, FQ, FG, setC]
      refine (c_wpState (Rg0.le (l5.trans (l8.trans lq))) G.rep).go ?_
      rintro _ h9 ⟨rfl, rfl⟩
      have hz' := hload_le (l8.trans lq) hz
      have hn0 : ¬ (n : Int) < 0 := by omega
      have hX2 := (X2.le (l5.trans (l8.trans lq))).X (n := 1) rfl
      simp -implicitDefEqProofs (disch := first | omega | (simp only [List.length_set, List.length_replicate, List.length_append, List.length_map, List.length_take, List.length_cons, List.length_nil]; omega)) [wrap64, hfx, FQ, FG, hn0, hX2, hz']
      refine (c_wpState (Rg0.le (l5.trans (l8.trans lq))) G.rep).go ?_
      rintro _ h9 ⟨rfl, rfl⟩
      simp -implicitDefEqProofs (disch := first | omega | (simp only [List.length_set, List.length_replicate, List.length_append, List.length_map, List.length_take, List.length_cons, List.length_nil]; omega)) [wrap64, hfx, ((X2.le (l5.trans (l8.trans lq))).X (n := 1) rfl), hz']
      refine (c_wpHas (Rz.le (l8.trans lq))).go ?_
      rintro _ h9 ⟨rfl, rfl⟩
      simp -implicitDefEqProofs (disch := first | omega | (simp only [List.length_set, List.length_replicate, List.length_append, List.length_map, List.length_take, List.length_cons, List.length_nil]; omega)) [wrap64, m2]
      exact hJ2 _ _ hkl ⟨by simp, l7.trans lq⟩
    have l8 := l5.trans (l6.trans l7)
    simp -implicitDefEqProofs (disch := first | omega | (simp only [List.length_set, List.length_replicate, List.length_append, List.length_map, List.length_take, List.length_cons, List.length_nil]; omega)) [wrap64, FG]
    refine (c_ShortestPath hfin hgok (Rg0.le l8) hi).go ?_
    intro sp h8 G
    have hne : ¬ (((pth B.next i).length : Int) = 0) := by have := hpp hi; omega
    have hne' : ¬ pth B.next i = [] := fun e => by have := hpp hi; rw [e] at this; simp at this
    simp -implicitDefEqProofs (disch := first | omega | (simp only [List.length_set, List.length_replicate, List.length_append, List.length_map, List.length_take, List.length_cons, List.length_nil]; omega)) [wrap64, G.rep.len, hne, hne']
    exact hJ _ _ hi ⟨by simp, l8.trans G.base⟩
  simp -implicitDefEqProofs (disch := first | omega | (simp only [List.length_set, List.length_replicate, List.length_append, List.length_map, List.length_take, List.length_cons, List.length_nil]; omega)) [wrap64, FG]
  refine (c_GraphValid (Rg0.le l5)).go ?_
  rintro _ h6 ⟨l6, rfl⟩
  obtain ⟨y, hy, Ry⟩ := (X1.le (l5.trans l6)).ld hpos
  change hload _ (some (elp 2 g1 0)) (some 2) = some y at hy
  have he0 : B.states[0] = ini s := by rw [← hini, List.getD_eq_getElem?_getD, List.getElem?_eq_getElem hpos]; rfl
  rw [he0] at Ry
  simp -implicitDefEqProofs (disch := first | omega | (simp only [List.length_set, List.length_replicate, List.length_append, List.length_map, List.length_take, List.length_cons, List.length_nil]; omega)) [wrap64, hgok, (X1.le (l5.trans l6)).X (n := 2) rfl, hy, Ry.aSta, FT]
  refine (c_StateSame Ry (Rt.le (l5.trans l6))).go ?_
  rintro _ h6 ⟨rfl, rfl⟩
  simp -implicitDefEqProofs (disch := first | omega | (simp only [List.length_set, List.length_replicate, List.length_append, List.length_map, List.length_take, List.length_cons, List.length_nil]; omega)) [wrap64]
  exact RetK.keep (hk _ _ ⟨l4.trans (l5.trans l6), rfl⟩)
end Go.Proofs.YtonjglbachhdcaaGreat
