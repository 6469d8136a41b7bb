/-
  Texts of this proof, one behind the other.
-/
import Derived.Test.YthgimpheeemooaaGreatM7
/-
  Marks in lists of states and in lists of lists of numbers.
-/
namespace Go.Proofs.YthgimpheeemooaaGreat
open Go
set_option linter.all false
set_option linter.unusedVariables false
set_option linter.unusedSimpArgs false
set_option linter.defProp false
set_option maxRecDepth 1000000

theorem c_heldStateS {h : Heap} {v : Value} {x : List Sta} {k0 : Int} (Rv : Rep h v x) (hk0 : 0 ≤ k0) (hk1 : k0 + Mk.cnt x < 4611686018427387904) : CallE Tryz.prog fn_laws_heldStateS [v, .int .i64 k0] h (fun u h' => h' = h ∧ u = .int .i64 (if Mk.wr k0 x = x then k0 + Mk.cnt x else -1)) := by
  refine CallE.gen fun k hk => EN_laws_heldStateS rfl ?_
  have hL := Rv.lt
  have hcx : Mk.cnt x = cntL x := rfl
  simp -implicitDefEqProofs (disch := first | omega | (simp only [List.length_set, List.length_replicate, List.length_append, List.length_map, List.length_take, List.length_cons, List.length_nil]; omega)) [wrap64]
  refine wp_count x.length (fun i e h' => h' = h ∧ e = [some v, some (.int .i64 (k0 + cntL (x.take i))), none, some (.int .i64 i)] ∧ (mkL k0 x).take i = x.take i) ⟨rfl, by simp [cntL], rfl⟩ ?_
  rintro J i _ h hJ hi ⟨rfl, rfl, M⟩
  simp -implicitDefEqProofs (disch := first | omega | (simp only [List.length_set, List.length_replicate, List.length_append, List.length_map, List.length_take, List.length_cons, List.length_nil]; omega)) [wrap64, Rv.len]
  refine IteW.mk (fun hlt => ?_) (fun hge => ?_)
  · have hlx : i < x.length := by omega
    have hb := cntL_le x (i + 1)
    have hc := cntL_take x i hlx
    have hg := mkL_get k0 x i hlx
    have hce : Mk.cnt x[i] = Mk.cnt x[i].locs + Mk.cnt x[i].vals := rfl
    obtain ⟨q, hq⟩ : ∃ q, q = k0 + cntL (x.take i) := ⟨_, rfl⟩
    rw [← hq] at hg ⊢
    obtain ⟨u, hu, Ru⟩ := Rv.ld hlx
    change hload _ (some (elp 2 v i)) (some 2) = some u at hu
    obtain ⟨w1, w2, rfl, R1, R2⟩ := Rep_Sta.1 Ru
    have hP := hld_parts (cs := [w1, w2]) hu
    have hno : ¬ Mk.wr q x[i] = x[i] → k (.int .i64 (-1)) h := fun hn => hk _ _ ⟨rfl, by
      rw [if_neg]
      intro he
      have he2 : mkL k0 x = x := he
      simp only [he2] at hg
      exact hn hg.symm⟩
    have hw : Mk.wr q x[i] = ⟨Mk.wr q x[i].locs, Mk.wr (q + (Mk.cnt x[i].locs : Nat)) x[i].vals⟩ := rfl
    simp -implicitDefEqProofs (disch := first | omega | (simp only [List.length_set, List.length_replicate, List.length_append, List.length_map, List.length_take, List.length_cons, List.length_nil]; omega)) [wrap64, Rv.X (n := 2) rfl, hP.1, hP.2.2.1]
    refine (c_heldIntS (k0 := q) R1 (by omega) (by omega)).go ?_
    rintro _ _ ⟨rfl, rfl⟩
    by_cases m1 : Mk.wr q x[i].locs = x[i].locs
    case neg =>
      rw [if_neg m1]
      simp -implicitDefEqProofs (disch := first | omega | (simp only [List.length_set, List.length_replicate, List.length_append, List.length_map, List.length_take, List.length_cons, List.length_nil]; omega)) [wrap64]
      exact RetK.keep (hno fun he => m1 (by rw [hw] at he; exact congrArg Sta.locs he))
    rw [if_pos m1]
    simp -implicitDefEqProofs (disch := first | omega | (simp only [List.length_set, List.length_replicate, List.length_append, List.length_map, List.length_take, List.length_cons, List.length_nil]; omega)) [wrap64]
    rw [IteW_neg (by omega)]
    simp -implicitDefEqProofs (disch := first | omega | (simp only [List.length_set, List.length_replicate, List.length_append, List.length_map, List.length_take, List.length_cons, List.length_nil]; omega)) [wrap64, Rv.X (n := 2) rfl, hP.1, hP.2.2.1]
    refine (c_heldIntS (k0 := q + (Mk.cnt x[i].locs : Nat)) R2 (by omega) (by omega)).go ?_
    rintro _ _ ⟨rfl, rfl⟩
    by_cases m2 : Mk.wr (q + (Mk.cnt x[i].locs : Nat)) x[i].vals = x[i].vals
    case neg =>
      rw [if_neg m2]
      simp -implicitDefEqProofs (disch := first | omega | (simp only [List.length_set, List.length_replicate, List.length_append, List.length_map, List.length_take, List.length_cons, List.length_nil]; omega)) [wrap64]
      exact RetK.keep (hno fun he => m2 (by rw [hw] at he; exact congrArg Sta.vals he))
    rw [if_pos m2]
    simp -implicitDefEqProofs (disch := first | omega | (simp only [List.length_set, List.length_replicate, List.length_append, List.length_map, List.length_take, List.length_cons, List.length_nil]; omega)) [wrap64]
    rw [IteW_neg (by omega)]
    simp -implicitDefEqProofs (disch := first | omega | (simp only [List.length_set, List.length_replicate, List.length_append, List.length_map, List.length_take, List.length_cons, List.length_nil]; omega)) [wrap64]
    refine hJ _ _ hlx ⟨rfl, ?_, take_step M (by simpa using hlx) hlx ?_⟩
    · simp only [List.cons.injEq, Option.some.injEq, Value.int.injEq, true_and, and_true]
      refine ⟨?_, by simp⟩
      rw [hc]; push_cast; omega
    · rw [hg, hw, m1, m2]
  · simp -implicitDefEqProofs (disch := first | omega | (simp only [List.length_set, List.length_replicate, List.length_append, List.length_map, List.length_take, List.length_cons, List.length_nil]; omega)) [wrap64]
    have h2 : x.take i = x := List.take_of_length_le (by omega)
    rw [List.take_of_length_le (by simp; omega), h2] at M
    exact RetK.keep (hk _ _ ⟨rfl, by rw [h2]; exact congrArg _ (if_pos M).symm⟩)
end Go.Proofs.YthgimpheeemooaaGreat

/-
  What the helpers of the laws do: copying, counting, comparing, marking. Printed by a program.
-/
namespace Go.Proofs.YthgimpheeemooaaGreat
open Go
set_option linter.all false
set_option linter.unusedVariables false
set_option linter.unusedSimpArgs false
set_option linter.defProp false
set_option maxRecDepth 1000000

end Go.Proofs.YthgimpheeemooaaGreat

/-
  How much a graph holds.
-/
namespace Go.Proofs.YthgimpheeemooaaGreat
open Go
set_option linter.all false
set_option linter.unusedVariables false
set_option linter.unusedSimpArgs false
set_option linter.defProp false
set_option maxRecDepth 1000000
theorem cntL_le_mul {α : Type} [Mk α] {c : Nat} : ∀ {l : List α}, (∀ x ∈ l, Mk.cnt x ≤ c) → cntL l ≤ l.length * c
  | [], _ => by simp [cntL]
  | x :: l, h => by
    have h1 := cntL_le_mul (l := l) fun y hy => h y (by simp [hy])
    have h2 := h x (by simp)
    simp only [cntL, List.length_cons, Nat.add_mul]
    omega
end Go.Proofs.YthgimpheeemooaaGreat

/-
  Checking reachable states: by the reference; how much the answers hold.
-/
namespace Go.Proofs.YthgimpheeemooaaGreat
open Go
set_option linter.all false
set_option linter.unusedVariables false
set_option linter.unusedSimpArgs false
set_option linter.defProp false
set_option maxRecDepth 1000000

theorem c_spec_IsDeadlock {h : Heap} {v w : Value} {s : Sy} {st : Sta} (hs : s.Ok) (hst : st.Ok s) (R : Rep h v s) (Rt : Rep h w st) : CallE Tryz.prog fn_spec_IsDeadlock [v, w] h (fun u h' => h.le h' ∧ u = .bool (badD s st)) := by
  have FS := R.aSy
  have FT := Rt.aSta
  refine CallE.gen fun k hk => EN_spec_IsDeadlock rfl ?_
  simp -implicitDefEqProofs (disch := first | omega | (simp only [List.length_set, List.length_replicate, List.length_append, List.length_map, List.length_take, List.length_cons, List.length_nil]; omega)) [wrap64, FS, FT]
  refine (c_spec_StateValid R Rt).go ?_
  rintro _ h ⟨rfl, rfl⟩
  simp -implicitDefEqProofs (disch := first | omega | (simp only [List.length_set, List.length_replicate, List.length_append, List.length_map, List.length_take, List.length_cons, List.length_nil]; omega)) [wrap64, hs, hst, FS, FT]
  refine (c_l3Steps hs hst R Rt).go ?_
  intro l h1 H
  simp -implicitDefEqProofs (disch := first | omega | (simp only [List.length_set, List.length_replicate, List.length_append, List.length_map, List.length_take, List.length_cons, List.length_nil]; omega)) [wrap64, H.rep.len]
  exact RetK.keep (hk _ _ ⟨H.base, by simp [badD]⟩)
theorem c_spec_CheckDeadlock {h : Heap} {v : Value} {s : Sy} (R : Rep h v s) : CallE Tryz.prog fn_spec_CheckDeadlock [v] h (RI2 (ckV s True (badD s)) (ckL s True (badD s)) h) := by
  have FS := R.aSy
  refine CallE.gen fun k hk => EN_spec_CheckDeadlock rfl ?_
  simp -implicitDefEqProofs (disch := first | omega | (simp only [List.length_set, List.length_replicate, List.length_append, List.length_map, List.length_take, List.length_cons, List.length_nil]; omega)) [wrap64, FS]
  refine (c_spec_SystemValid R).go ?_
  rintro _ h ⟨rfl, rfl⟩
  by_cases hs : s.Ok
  case neg =>
    have hn : ¬ (True ∧ s.Ok) := fun hh => hs hh.2
    simp -implicitDefEqProofs (disch := first | omega | (simp only [List.length_set, List.length_replicate, List.length_append, List.length_map, List.length_take, List.length_cons, List.length_nil]; omega)) [wrap64, hs]
    refine HS.init.bls0 Sta fun o h1 H => ?_
    simp -implicitDefEqProofs (disch := first | omega | (simp only [List.length_set, List.length_replicate, List.length_append, List.length_map, List.length_take, List.length_cons, List.length_nil]; omega)) [wrap64]
    exact RetK.keep (hk _ _ ⟨_, by rw [ckV, if_pos hn], by rw [ckL, if_pos hn]; exact H⟩)
  have hy : ¬ ¬ (True ∧ s.Ok) := fun hh => hh ⟨trivial, hs⟩
  simp -implicitDefEqProofs (disch := first | omega | (simp only [List.length_set, List.length_replicate, List.length_append, List.length_map, List.length_take, List.length_cons, List.length_nil]; omega)) [wrap64, hs, FS]
  refine (c_spec_BuildGraph R).go ?_
  rintro _ h1 ⟨u, rfl, H⟩
  have hA := H.rep.aGr
  by_cases q1 : bgOk s
  case neg =>
    simp -implicitDefEqProofs (disch := first | omega | (simp only [List.length_set, List.length_replicate, List.length_append, List.length_map, List.length_take, List.length_cons, List.length_nil]; omega)) [wrap64, q1, hA, setC]
    refine H.bls0 Sta fun o h1 H => ?_
    simp -implicitDefEqProofs (disch := first | omega | (simp only [List.length_set, List.length_replicate, List.length_append, List.length_map, List.length_take, List.length_cons, List.length_nil]; omega)) [wrap64]
    exact RetK.keep (hk _ _ ⟨_, by rw [ckV, if_neg hy, if_pos q1], by rw [ckL, if_neg hy, if_pos q1]; exact H.only⟩)
  have hfin := bgR_fin q1
  have q1' : ¬ ¬ bgOk s := fun hh => hh q1
  have h60 := hfin.n60
  simp -implicitDefEqProofs (disch := first | omega | (simp only [List.length_set, List.length_replicate, List.length_append, List.length_map, List.length_take, List.length_cons, List.length_nil]; omega)) [wrap64, q1, hA, setC]
  refine H.bls0 Bool fun o h2 H => ?_
  obtain ⟨xs, nx, rfl, H'⟩ := H.sw1.unGr
  simp -implicitDefEqProofs (disch := first | omega | (simp only [List.length_set, List.length_replicate, List.length_append, List.length_map, List.length_take, List.length_cons, List.length_nil]; omega)) [wrap64]
  generalize hg : bgR s = g at *
  refine wp_count g.states.length (fun i e' h' => ∃ o, e' = [none, some v, none, none, some (.agg #[xs, nx]), none, some o, some (.int .i64 i)] ∧ HS h [ow o ((g.states.map (badD s)).take i), ow xs g.states, ow nx g.next] h') ⟨o, by simp, by simpa using H'.sw2⟩ ?_
  clear H H'
  rintro J i _ h2 hJ hi ⟨o, rfl, H⟩
  simp -implicitDefEqProofs (disch := first | omega | (simp only [List.length_set, List.length_replicate, List.length_append, List.length_map, List.length_take, List.length_cons, List.length_nil]; omega)) [wrap64, H.sw1.rep.len]
  refine IteW.mk (fun hlt => ?_) (fun hge => ?_)
  · have hlx : i < g.states.length := by omega
    have hst := hfin.ok _ (List.getElem_mem hlx)
    obtain ⟨u, hu, Ru⟩ := H.sw1.rep.ld hlx
    change hload _ (some (elp 2 xs i)) (some 2) = some u at hu
    have hl : ((g.states.map (badD s)).take i).length = i := by simp; omega
    have hstep : (g.states.map (badD s)).take (i + 1) = (g.states.map (badD s)).take i ++ [badD s g.states[i]] := by
      rw [List.take_add_one, List.getElem?_eq_getElem (by simpa using hlx)]; simp
    generalize (g.states.map (badD s)).take i = D at *
    simp -implicitDefEqProofs (disch := first | omega | (simp only [List.length_set, List.length_replicate, List.length_append, List.length_map, List.length_take, List.length_cons, List.length_nil]; omega)) [wrap64, H.sw1.rep.X (n := 2) rfl, hu, Ru.aSta, FS]
    refine (c_spec_IsDeadlock hs hst (R.on H) Ru).go ?_
    rintro _ h3 ⟨l3, rfl⟩
    have H := H.le l3
    simp -implicitDefEqProofs (disch := first | omega | (simp only [List.length_set, List.length_replicate, List.length_append, List.length_map, List.length_take, List.length_cons, List.length_nil]; omega)) [wrap64, setC]
    refine HS.app1 (bytes := 1) H (badD s g.states[i]) rfl rfl rfl trivial rfl rfl (by omega) (by omega) fun o' h3 H => ?_
    simp -implicitDefEqProofs (disch := first | omega | (simp only [List.length_set, List.length_replicate, List.length_append, List.length_map, List.length_take, List.length_cons, List.length_nil]; omega)) [wrap64]
    exact hJ _ _ hlx ⟨o', by simp, by rw [hstep]; exact H⟩
  · have hl : (g.states.map (badD s)).take i = g.states.map (badD s) := List.take_of_length_le (by simp; omega)
    rw [hl] at H
    have hO1 := H.sw1.rep.one
    have hO2 := H.sw2.rep.one
    have RG : Rep h2 (.agg #[xs, nx]) g := Rep_Gr.2 ⟨xs, nx, rfl, H.sw1.rep, H.sw2.rep⟩
    simp -implicitDefEqProofs (disch := first | omega | (simp only [List.length_set, List.length_replicate, List.length_append, List.length_map, List.length_take, List.length_cons, List.length_nil]; omega)) [wrap64, hO1, hO2]
    refine (c_l4First hs hfin RG H.rep).go ?_
    rintro _ h3 ⟨x, rfl, G⟩
    simp -implicitDefEqProofs (disch := first | omega | (simp only [List.length_set, List.length_replicate, List.length_append, List.length_map, List.length_take, List.length_cons, List.length_nil]; omega)) [wrap64]
    exact RetK.keep (hk _ _ ⟨x, by rw [ckV, if_neg hy, if_neg q1', hg]; simp only [List.any_eq_true], by rw [ckL, if_neg hy, if_neg q1', hg]; exact (G.app H).only⟩)

theorem bnd_ck {s : Sy} {b : Prop} {bad : Sta → Bool} : Mk.cnt (ckL s b bad) ≤ 4194304 := by
  unfold ckL
  split
  · decide
  · rename_i hy
    split
    · decide
    · rename_i q1
      have hb : bgOk s := Classical.not_not.1 q1
      have hfin := bgR_fin hb
      split
      · rename_i i hfi
        rw [List.findIdx?_eq_some_iff_getElem] at hfi
        have hi2 : i < (bgR s).next.length := by rw [hfin.nl]; exact hfi.1
        obtain ⟨p1, p2⟩ := pth_chn hfin.nok hfin.rr hi2
        have hall := p1.all
        rw [(bsN_inv hfin.nok _).1.fl, hfin.nl] at hall
        have h2 := cntL_le_mul (c := 6) (l := sof (bgR s) (pth (bgR s).next i)) fun st hst => by
          obtain ⟨x, hx, rfl⟩ := List.mem_map.1 hst
          have h7 := hall x hx
          have h8 : x.toNat < (bgR s).states.length := by omega
          have h9 : (bgR s).states.getD x.toNat Sta.zero = (bgR s).states[x.toNat] := by simp [h8]
          rw [h9]
          have h3 := hfin.ok _ (List.getElem_mem h8)
          have h4 := h3.len
          have h5 := hb.1.p3
          have h6 := h3.vs.len
          rw [cnt_Sta, cnt_ints, cnt_ints]; omega
        have h3 : Mk.cnt (sof (bgR s) (pth (bgR s).next i)) = cntL (sof (bgR s) (pth (bgR s).next i)) := rfl
        rw [sof_len] at h2
        omega
      · decide
end Go.Proofs.YthgimpheeemooaaGreat

/-
  How much the answers of checks hold.
-/
namespace Go.Proofs.YthgimpheeemooaaGreat
open Go
set_option linter.all false
set_option linter.unusedVariables false
set_option linter.unusedSimpArgs false
set_option linter.defProp false
set_option maxRecDepth 1000000
theorem bnd_CheckDeadlock {a0 : Sy} : Mk.cnt (ckL a0 True (badD a0)) ≤ 4194304 := bnd_ck
end Go.Proofs.YthgimpheeemooaaGreat

/-
  Laws as calls: the program returns what the reference returns. Printed by a program.
-/
namespace Go.Proofs.YthgimpheeemooaaGreat
open Go
set_option linter.all false
set_option linter.unusedVariables false
set_option linter.unusedSimpArgs false
set_option linter.defProp false
set_option maxRecDepth 1000000

set_option maxHeartbeats 4000000 in
theorem c_FnExactCheckDeadlock {h : Heap} {v0 : Value} {a0 : Sy} (R0 : Rep h v0 a0) : CallE Tryz.prog fn_laws_FnExactCheckDeadlock [v0] h (fun u h' => h.le h' ∧ u = .bool true) := by
  refine CallE.gen fun k hk => EN_laws_FnExactCheckDeadlock rfl ?_
  have F0 := R0.aSy
  simp -implicitDefEqProofs (disch := first | omega | (simp only [List.length_set, List.length_replicate, List.length_append, List.length_map, List.length_take, List.length_cons, List.length_nil]; omega)) [wrap64, F0]
  refine (c_szSystem R0 (n := 1048576) (by omega)).go ?_
  rintro _ h ⟨rfl, l0, rfl, q0⟩
  simp -implicitDefEqProofs (disch := first | omega | (simp only [List.length_set, List.length_replicate, List.length_append, List.length_map, List.length_take, List.length_cons, List.length_nil]; omega)) [wrap64, F0]
  refine IteW.mk (fun hlt => ?_) (fun hge0 => ?_)
  · simp -implicitDefEqProofs (disch := first | omega | (simp only [List.length_set, List.length_replicate, List.length_append, List.length_map, List.length_take, List.length_cons, List.length_nil]; omega)) [wrap64]
    exact RetK.keep (hk _ _ ⟨Heap.le.refl _, rfl⟩)
  have qq0 : Sz.sz a0 ≤ 1048576 := by omega
  have hc0 := cnt_System (x := a0) (by omega)
  have hcy := bnd_CheckDeadlock (a0 := a0)
  have H : HS h [] h := HS.init
  simp -implicitDefEqProofs (disch := first | omega | (simp only [List.length_set, List.length_replicate, List.length_append, List.length_map, List.length_take, List.length_cons, List.length_nil]; omega)) [wrap64, F0]
  refine (c_toSystem R0 (by omega)).go ?_
  intro s0 m1 G
  have H := G.app H
  have F1 := H.rep.aSy
  simp -implicitDefEqProofs (disch := first | omega | (simp only [List.length_set, List.length_replicate, List.length_append, List.length_map, List.length_take, List.length_cons, List.length_nil]; omega)) [wrap64, F0, F1]
  refine (c_spec_CheckDeadlock H.rep).go ?_
  rintro _ m2 ⟨w0, rfl, G⟩
  have H := G.app H
  have H := H.only
  simp -implicitDefEqProofs (disch := first | omega | (simp only [List.length_set, List.length_replicate, List.length_append, List.length_map, List.length_take, List.length_cons, List.length_nil]; omega)) [wrap64, F0, F1]
  refine (c_toSystem (R0.on H) (by omega)).go ?_
  intro x0 m3 G
  have H := G.app H
  have F2 := H.rep.aSy
  simp -implicitDefEqProofs (disch := first | omega | (simp only [List.length_set, List.length_replicate, List.length_append, List.length_map, List.length_take, List.length_cons, List.length_nil]; omega)) [wrap64, F0, F1, F2]
  refine (c_CheckDeadlock H.rep).go ?_
  rintro _ m4 ⟨g0, rfl, G⟩
  have H := G.app H
  simp -implicitDefEqProofs (disch := first | omega | (simp only [List.length_set, List.length_replicate, List.length_append, List.length_map, List.length_take, List.length_cons, List.length_nil]; omega)) [wrap64, F0, F1, F2]
  refine (c_eqStateS H.rep H.sw2.rep).go ?_
  rintro _ _ ⟨rfl, rfl⟩
  simp -implicitDefEqProofs (disch := first | omega | (simp only [List.length_set, List.length_replicate, List.length_append, List.length_map, List.length_take, List.length_cons, List.length_nil]; omega)) [wrap64, F0, F1, F2]
  refine (c_toSystem (R0.on H) (by omega)).go ?_
  intro t0 m5 G
  have H := G.app H
  have F3 := H.rep.aSy
  simp -implicitDefEqProofs (disch := first | omega | (simp only [List.length_set, List.length_replicate, List.length_append, List.length_map, List.length_take, List.length_cons, List.length_nil]; omega)) [wrap64, F0, F1, F2, F3]
  refine (c_eqSystem H.sw2.rep H.rep).go ?_
  rintro _ _ ⟨rfl, rfl⟩
  have H := H.drop
  simp -implicitDefEqProofs (disch := first | omega | (simp only [List.length_set, List.length_replicate, List.length_append, List.length_map, List.length_take, List.length_cons, List.length_nil]; omega)) [wrap64, F0, F1, F2, F3]
  refine (c_markSystem (k0 := 1) H.sw1 (by omega) (by omega)).go ?_
  rintro _ m6 ⟨H, rfl⟩
  have hneg : ¬ ((1 + (Mk.cnt a0 : Nat) : Int) < 0) := by omega
  simp -implicitDefEqProofs (disch := first | omega | (simp only [List.length_set, List.length_replicate, List.length_append, List.length_map, List.length_take, List.length_cons, List.length_nil]; omega)) [wrap64, F0, F1, F2, F3, hneg]
  refine (c_eqStateS H.sw1.rep H.sw2.rep).go ?_
  rintro _ _ ⟨rfl, rfl⟩
  simp -implicitDefEqProofs (disch := first | omega | (simp only [List.length_set, List.length_replicate, List.length_append, List.length_map, List.length_take, List.length_cons, List.length_nil]; omega)) [wrap64, F0, F1, F2, F3, hneg]
  refine (c_markStateS (k0 := 1) H.sw1 (by omega) (by omega)).go ?_
  rintro _ m7 ⟨H, rfl⟩
  have hcw := fun y : List Sta => Mk.cnt_wr 1 y
  simp -implicitDefEqProofs (disch := first | omega | (simp only [List.length_set, List.length_replicate, List.length_append, List.length_map, List.length_take, List.length_cons, List.length_nil]; omega)) [wrap64, F0, F1, F2, F3, hneg]
  refine (c_heldStateS (k0 := 1) H.rep (by omega) (by rw [hcw]; omega)).go ?_
  rintro _ _ ⟨rfl, rfl⟩
  rw [if_pos (Mk.wr_wr 1 1 _), hcw]
  simp -implicitDefEqProofs (disch := first | omega | (simp only [List.length_set, List.length_replicate, List.length_append, List.length_map, List.length_take, List.length_cons, List.length_nil]; omega)) [wrap64, F0, F1, F2, F3, hneg]
  rw [IteW_neg (by omega)]
  simp -implicitDefEqProofs (disch := first | omega | (simp only [List.length_set, List.length_replicate, List.length_append, List.length_map, List.length_take, List.length_cons, List.length_nil]; omega)) [wrap64, F0, F1, F2, F3, hneg]
  refine (c_toSystem (R0.on H) (by omega)).go ?_
  intro y0 m8 G
  have H := G.app H
  have F5 := H.rep.aSy
  simp -implicitDefEqProofs (disch := first | omega | (simp only [List.length_set, List.length_replicate, List.length_append, List.length_map, List.length_take, List.length_cons, List.length_nil]; omega)) [wrap64, F0, F1, F2, F3, hneg, F5]
  refine (c_CheckDeadlock H.rep).go ?_
  rintro _ m9 ⟨z0, rfl, G⟩
  have H := G.app H
  simp -implicitDefEqProofs (disch := first | omega | (simp only [List.length_set, List.length_replicate, List.length_append, List.length_map, List.length_take, List.length_cons, List.length_nil]; omega)) [wrap64, F0, F1, F2, F3, hneg, F5]
  refine (c_eqStateS H.rep H.sw4.rep).go ?_
  rintro _ _ ⟨rfl, rfl⟩
  simp -implicitDefEqProofs (disch := first | omega | (simp only [List.length_set, List.length_replicate, List.length_append, List.length_map, List.length_take, List.length_cons, List.length_nil]; omega)) [wrap64, F0, F1, F2, F3, hneg, F5]
  refine (c_heldStateS (k0 := 1) H.sw2.rep (by omega) (by rw [hcw]; omega)).go ?_
  rintro _ _ ⟨rfl, rfl⟩
  rw [if_pos (Mk.wr_wr 1 1 _), hcw]
  simp -implicitDefEqProofs (disch := first | omega | (simp only [List.length_set, List.length_replicate, List.length_append, List.length_map, List.length_take, List.length_cons, List.length_nil]; omega)) [wrap64, F0, F1, F2, F3, hneg, F5]
  rw [IteW_neg (by omega)]
  simp -implicitDefEqProofs (disch := first | omega | (simp only [List.length_set, List.length_replicate, List.length_append, List.length_map, List.length_take, List.length_cons, List.length_nil]; omega)) [wrap64, F0, F1, F2, F3, hneg, F5]
  exact RetK.keep (hk _ _ ⟨H.base, rfl⟩)
end Go.Proofs.YthgimpheeemooaaGreat
