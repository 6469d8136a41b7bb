/-
  The graph of a system: by the reference; both as functions of the package.
-/
import Derived.Test.YthgimpheeemooaaGreatI4
import Derived.Test.YthgimpheeemooaaGreatI7
import Derived.Test.YthgimpheeemooaaGreatF1
namespace Go.Proofs.YthgimpheeemooaaGreat
open Go
set_option linter.all false
set_option linter.unusedVariables false
set_option linter.unusedSimpArgs false
set_option linter.defProp false
set_option maxRecDepth 1000000

theorem gF_mono {s : Sy} {x : Sta} {xs : List Sta} {n m : Nat} (h : n ≤ m) (hm : m ≤ (enb s x).length) : (gF s x n xs).1.length ≤ (gF s x m xs).1.length := by
  induction m with
  | zero => have : n = 0 := by omega
            subst this; exact Nat.le_refl _
  | succ m ih =>
    by_cases e : n = m + 1
    · subst e; exact Nat.le_refl _
    refine Nat.le_trans (ih (by omega) (by omega)) ?_
    rw [gF_succ (by omega)]
    exact adS_ge
theorem c_spec_BuildGraph {h : Heap} {v : Value} {s : Sy} (R : Rep h v s) : CallE Tryz.prog fn_spec_BuildGraph [v] h (R2 (decide (bgOk s)) (bgR s) h) := by
  have FS := R.aSy
  have R0 := R
  obtain ⟨v1, v2, rfl, R1, R2'⟩ := Rep_Sy.1 R
  refine CallE.gen fun k hk => EN_spec_BuildGraph rfl ?_
  have hno : ¬ bgOk s → ∀ {h'}, h.le h' → k (.tuple #[.agg #[.slice none 0 0, .slice none 0 0], .bool false]) h' := fun hn h' hl => hk _ _ ⟨_, by rw [decide_eq_false hn], by rw [bgR, if_neg hn]; exact zero_Gr (Γ := []) hl⟩
  simp -implicitDefEqProofs (disch := first | omega | (simp only [List.length_set, List.length_replicate, List.length_append, List.length_map, List.length_take, List.length_cons, List.length_nil]; omega)) [wrap64, FS]
  refine (c_spec_InitialState R0).go ?_
  rintro _ h1 ⟨u, rfl, H⟩
  obtain ⟨o1, o2, rfl, H'⟩ := H.unSta
  have hc1 := H'.rep.one
  have hc2 := H'.sw1.rep.one
  by_cases hs : s.Ok
  case neg =>
    simp -implicitDefEqProofs (disch := first | omega | (simp only [List.length_set, List.length_replicate, List.length_append, List.length_map, List.length_take, List.length_cons, List.length_nil]; omega)) [wrap64, hs, setC, hc1, hc2]
    exact RetK.keep (hno (fun hb => hs hb.1) H.base)
  rw [if_pos hs] at H
  simp -implicitDefEqProofs (disch := first | omega | (simp only [List.length_set, List.length_replicate, List.length_append, List.length_map, List.length_take, List.length_cons, List.length_nil]; omega)) [wrap64, hs, setC, hc1, hc2]
  refine HS.blsO1 H rfl fun xs h2 H => ?_
  simp -implicitDefEqProofs (disch := first | omega | (simp only [List.length_set, List.length_replicate, List.length_append, List.length_map, List.length_take, List.length_cons, List.length_nil]; omega)) [wrap64, setC, H.rep.cells, H.rep.one]
  refine wp_while (σ := Nat) (fun i e h' => ∃ xs nx, e = [none, some (.agg #[v1, v2]), some (.agg #[.slice none 0 0, .slice none 0 0]), none, none, none, some (.agg #[xs, nx]), some (.int .i64 i), none, none, none, none, none] ∧ HS h [ow xs (gN s i).states, ow nx (gN s i).next] h' ∧ i ≤ (gN s i).states.length ∧ (gN s i).states.length ≤ 60) (fun i => 61 - i) 0 ⟨xs, .slice none 0 0, by simp, H.nil_ow.sw1, by simp [gN], by simp [gN]⟩ ?_
  clear H hc1 hc2 H'
  rintro J i _ h3 hJ ⟨xs, nx, rfl, H, hi, h60⟩
  have inv := gN_inv hs i
  have hnl := inv.nl
  simp -implicitDefEqProofs (disch := first | omega | (simp only [List.length_set, List.length_replicate, List.length_append, List.length_map, List.length_take, List.length_cons, List.length_nil]; omega)) [wrap64, H.rep.len]
  refine IteW.mk (fun hlt => ?_) (fun hge => ?_)
  · have hlt : i < (gN s i).states.length := by omega
    have hxo := inv.ok _ (List.getElem_mem hlt)
    have hsucc := gN_succ hlt
    generalize hg : gN s i = g at *
    obtain ⟨x, hx⟩ : ∃ x, x = g.states[i] := ⟨_, rfl⟩
    rw [← hx] at hxo hsucc
    obtain ⟨u, hu, Ru⟩ := H.rep.ld hlt
    change hload _ (some (elp 2 xs i)) (some 2) = some u at hu
    rw [← hx] at Ru
    have hel := enb_len' (st := x) hs
    simp -implicitDefEqProofs (disch := first | omega | (simp only [List.length_set, List.length_replicate, List.length_append, List.length_map, List.length_take, List.length_cons, List.length_nil]; omega)) [wrap64, H.rep.X (n := 2) rfl, hu, Ru.aSta, FS]
    refine (c_l3Steps hs hxo (R0.on H) Ru).go ?_
    intro el h4 G
    have H := G.app H
    simp -implicitDefEqProofs (disch := first | omega | (simp only [List.length_set, List.length_replicate, List.length_append, List.length_map, List.length_take, List.length_cons, List.length_nil]; omega)) [wrap64]
    refine H.bls0 Int fun q h5 H => ?_
    simp -implicitDefEqProofs (disch := first | omega | (simp only [List.length_set, List.length_replicate, List.length_append, List.length_map, List.length_take, List.length_cons, List.length_nil]; omega)) [wrap64]
    refine wp_count (enb s x).length (fun m e h' => ∃ xs q, e = [none, some (.agg #[v1, v2]), some (.agg #[.slice none 0 0, .slice none 0 0]), none, none, none, some (.agg #[xs, nx]), some (.int .i64 i), some el, some q, some (.int .i64 m), none, none] ∧ HS h [ow xs (gF s x m g.states).1, ow q (gF s x m g.states).2, ow nx g.next, ow el (enb s x)] h' ∧ (gF s x m g.states).1.length ≤ 60) ⟨xs, q, by simp, by rw [gF_zero]; exact H.sw1.bk3.sw1, by rw [gF_zero]; exact h60⟩ ?_
    clear H
    rintro J1 m _ h5 hJ1 hm ⟨xs, q, rfl, H, hp60⟩
    simp -implicitDefEqProofs (disch := first | omega | (simp only [List.length_set, List.length_replicate, List.length_append, List.length_map, List.length_take, List.length_cons, List.length_nil]; omega)) [wrap64, H.sw3.rep.len]
    refine IteW.mk (fun hlt1 => ?_) (fun hge1 => ?_)
    · have hm : m < (enb s x).length := by omega
      have gi := gF_inv (xs := g.states) hs hxo inv.ok m (by omega)
      have hsu := gF_succ (xs := g.states) hm
      have hin := enb_in (List.getElem_mem hm)
      have hmo := gF_mono (s := s) (x := x) (xs := g.states) (show m + 1 ≤ (enb s x).length by omega) (Nat.le_refl _)
      obtain ⟨t, ht⟩ : ∃ t, t = (enb s x)[m] := ⟨_, rfl⟩
      generalize gF s x m g.states = p at gi hsu H hp60
      obtain ⟨hip, hxp⟩ := gN_at (x := x) gi hlt
      rw [← hx] at hxp
      rw [← ht] at hsu hin
      have hbig : 60 < (g1 p (x.aft s t)).1.length → ¬ bgOk s := fun hh => bg_big (n := i + 1) hs (by omega) (by rw [hsucc]; rw [hsu] at hmo; simp only; omega)
      obtain ⟨u, hu, Ru⟩ := H.rep.ld hip
      change hload _ (some (elp 2 xs i)) (some 2) = some u at hu
      rw [hxp] at Ru
      have hst := Sta.aft_ok hs hxo hin
      have hl1 := gi.l1
      have hl2 := gi.l2
      simp -implicitDefEqProofs (disch := first | omega | (simp only [List.length_set, List.length_replicate, List.length_append, List.length_map, List.length_take, List.length_cons, List.length_nil]; omega)) [wrap64, H.sw3.rep.xStp, ← ht, H.rep.X (n := 2) rfl, hu, Stp.v, setC, Ru.aSta, FS]
      refine (c_l3Apply hs hxo hin (R0.on H) Ru).go ?_
      intro o h6 HO
      have hC0 := HO.rep.aSta
      obtain ⟨o1, o2, rfl, HO2⟩ := HO.unSta
      have hC1 := HO2.rep.one
      have hC2 := HO2.sw1.rep.one
      have H := HO.app H
      simp -implicitDefEqProofs (disch := first | omega | (simp only [List.length_set, List.length_replicate, List.length_append, List.length_map, List.length_take, List.length_cons, List.length_nil]; omega)) [wrap64, hC1, hC2, setC]
      refine (c_l4Find H.sw1.rep H.rep).go ?_
      rintro _ h6 ⟨rfl, rfl⟩
      by_cases q1 : x.aft s t ∈ p.1
      · obtain ⟨i', hi', e1, e2⟩ := fx_mem q1
        simp -implicitDefEqProofs (disch := first | omega | (simp only [List.length_set, List.length_replicate, List.length_append, List.length_map, List.length_take, List.length_cons, List.length_nil]; omega)) [wrap64, e1, show ¬ ((i' : Int) < 0) by omega]
        by_cases q3 : (60 : Int) ≤ (i' : Int)
        · simp -implicitDefEqProofs (disch := first | omega | (simp only [List.length_set, List.length_replicate, List.length_append, List.length_map, List.length_take, List.length_cons, List.length_nil]; omega)) [wrap64, q3, setC]
          exact RetK.keep (hno (hbig (by omega)) H.base)
        simp -implicitDefEqProofs (disch := first | omega | (simp only [List.length_set, List.length_replicate, List.length_append, List.length_map, List.length_take, List.length_cons, List.length_nil]; omega)) [wrap64, q3]
        refine (c_l4In H.sw2.rep).go ?_
        rintro _ h8 ⟨rfl, rfl⟩
        by_cases q2 : (i' : Int) ∈ p.2
        · simp -implicitDefEqProofs (disch := first | omega | (simp only [List.length_set, List.length_replicate, List.length_append, List.length_map, List.length_take, List.length_cons, List.length_nil]; omega)) [wrap64, q2]
          refine hJ1 _ _ hm ⟨xs, q, by simp, ?_, ?_⟩
          · rw [hsu, g1]
            simp only [adS, atS, q1, if_pos, if_neg, not_false_eq_true, e1, adI, q2]
            exact H.drop
          · rw [hsu, g1]
            simp only [adS, q1, if_pos, if_neg, not_false_eq_true]
            exact hp60
        · simp -implicitDefEqProofs (disch := first | omega | (simp only [List.length_set, List.length_replicate, List.length_append, List.length_map, List.length_take, List.length_cons, List.length_nil]; omega)) [wrap64, q2, setC]
          refine HS.app1 (bytes := 8) H.sw2 (i' : Int) rfl rfl rfl ⟨by omega, by omega⟩ rfl rfl (by omega) (by omega) fun q' h9 H => ?_
          simp -implicitDefEqProofs (disch := first | omega | (simp only [List.length_set, List.length_replicate, List.length_append, List.length_map, List.length_take, List.length_cons, List.length_nil]; omega)) [wrap64]
          refine hJ1 _ _ hm ⟨xs, q', by simp, ?_, ?_⟩
          · rw [hsu, g1]
            simp only [adS, atS, q1, if_pos, if_neg, not_false_eq_true, e1, adI, q2]
            exact H.bk2.drop
          · rw [hsu, g1]
            simp only [adS, q1, if_pos, if_neg, not_false_eq_true]
            exact hp60
      · have e1 : (p.1.length : Int) = p.1.length := rfl
        simp -implicitDefEqProofs (disch := first | omega | (simp only [List.length_set, List.length_replicate, List.length_append, List.length_map, List.length_take, List.length_cons, List.length_nil]; omega)) [wrap64, fx_not q1, H.sw1.rep.len, hC1, hC2, setC]
        refine HS.appO (bytes := 48) H rfl rfl rfl rfl rfl (by omega) (by omega) fun xs' h8 H => ?_
        simp -implicitDefEqProofs (disch := first | omega | (simp only [List.length_set, List.length_replicate, List.length_append, List.length_map, List.length_take, List.length_cons, List.length_nil]; omega)) [wrap64, setC, H.rep.cells, H.rep.one]
        by_cases q3 : (60 : Int) ≤ (p.1.length : Int)
        · simp -implicitDefEqProofs (disch := first | omega | (simp only [List.length_set, List.length_replicate, List.length_append, List.length_map, List.length_take, List.length_cons, List.length_nil]; omega)) [wrap64, q3, setC]
          exact RetK.keep (hno (hbig (by simp only [g1, adS, if_neg q1, List.length_append, List.length_singleton]; omega)) H.base)
        simp -implicitDefEqProofs (disch := first | omega | (simp only [List.length_set, List.length_replicate, List.length_append, List.length_map, List.length_take, List.length_cons, List.length_nil]; omega)) [wrap64, q3]
        refine (c_l4In H.sw1.rep).go ?_
        rintro _ h8 ⟨rfl, rfl⟩
        by_cases q2 : (p.1.length : Int) ∈ p.2
        · simp -implicitDefEqProofs (disch := first | omega | (simp only [List.length_set, List.length_replicate, List.length_append, List.length_map, List.length_take, List.length_cons, List.length_nil]; omega)) [wrap64, q2]
          refine hJ1 _ _ hm ⟨xs', q, by simp, ?_, ?_⟩
          · rw [hsu, g1]
            simp only [adS, atS, q1, if_pos, if_neg, not_false_eq_true, e1, adI, q2]
            exact H
          · rw [hsu, g1]
            simp only [adS, q1, if_pos, if_neg, not_false_eq_true]
            simp only [List.length_append, List.length_singleton]; omega
        · simp -implicitDefEqProofs (disch := first | omega | (simp only [List.length_set, List.length_replicate, List.length_append, List.length_map, List.length_take, List.length_cons, List.length_nil]; omega)) [wrap64, q2, setC]
          refine HS.app1 (bytes := 8) H.sw1 (p.1.length : Int) rfl rfl rfl ⟨by omega, by omega⟩ rfl rfl (by omega) (by omega) fun q' h9 H => ?_
          simp -implicitDefEqProofs (disch := first | omega | (simp only [List.length_set, List.length_replicate, List.length_append, List.length_map, List.length_take, List.length_cons, List.length_nil]; omega)) [wrap64]
          refine hJ1 _ _ hm ⟨xs', q', by simp, ?_, ?_⟩
          · rw [hsu, g1]
            simp only [adS, atS, q1, if_pos, if_neg, not_false_eq_true, e1, adI, q2]
            exact H.sw1
          · rw [hsu, g1]
            simp only [adS, q1, if_pos, if_neg, not_false_eq_true]
            simp only [List.length_append, List.length_singleton]; omega
    obtain rfl : m = (enb s x).length := by omega
    have gi := gF_inv (xs := g.states) hs hxo inv.ok _ (Nat.le_refl (enb s x).length)
    generalize gF s x (enb s x).length g.states = p at gi hsucc H hp60
    have hge := gi.ge
    have hl2 := gi.l2
    by_cases q0 : (enb s x).length = 0
    · have hp : p.2 = [] := List.length_eq_zero_iff.1 (by omega)
      simp -implicitDefEqProofs (disch := first | omega | (simp only [List.length_set, List.length_replicate, List.length_append, List.length_map, List.length_take, List.length_cons, List.length_nil]; omega)) [wrap64, H.sw3.rep.len, q0, setC]
      refine HS.app1 (bytes := 8) H.sw1 (i : Int) rfl rfl rfl ⟨by omega, by omega⟩ rfl rfl (by omega) (by omega) fun q h7 H => ?_
      have H : HS h [ow q (nxS i p.2), ow xs p.1, ow nx g.next, ow el (enb s x)] h7 := by rw [nxS, if_pos hp]; rw [hp] at H; exact H
      simp -implicitDefEqProofs (disch := first | omega | (simp only [List.length_set, List.length_replicate, List.length_append, List.length_map, List.length_take, List.length_cons, List.length_nil]; omega)) [wrap64]
      have hcl := H.rep.cells
      simp -implicitDefEqProofs (disch := first | omega | (simp only [List.length_set, List.length_replicate, List.length_append, List.length_map, List.length_take, List.length_cons, List.length_nil]; omega)) [wrap64, setC, H.rep.cells, H.rep.one]
      refine HS.appO (bytes := 24) H.sw2.sw1 rfl rfl (by rw [hcl]) rfl rfl (by omega) (by omega) fun nx' h7 H => ?_
      simp -implicitDefEqProofs (disch := first | omega | (simp only [List.length_set, List.length_replicate, List.length_append, List.length_map, List.length_take, List.length_cons, List.length_nil]; omega)) [wrap64, setC, H.rep.cells, H.rep.one]
      exact hJ (i + 1) _ _ (by omega) ⟨xs, nx', by simp, by rw [hsucc]; exact H.sw1.sw2.drop, by rw [hsucc]; simp only; omega, by rw [hsucc]; exact hp60⟩
    · have hp : p.2 ≠ [] := gi.ne (by omega)
      have q0' : ¬ (enb s x) = [] := fun e => q0 (by rw [e]; rfl)
      simp -implicitDefEqProofs (disch := first | omega | (simp only [List.length_set, List.length_replicate, List.length_append, List.length_map, List.length_take, List.length_cons, List.length_nil]; omega)) [wrap64, H.sw3.rep.len, q0, q0']
      have H : HS h [ow q (nxS i p.2), ow xs p.1, ow nx g.next, ow el (enb s x)] h5 := by rw [nxS, if_neg hp]; exact H.sw1
      have hcl := H.rep.cells
      simp -implicitDefEqProofs (disch := first | omega | (simp only [List.length_set, List.length_replicate, List.length_append, List.length_map, List.length_take, List.length_cons, List.length_nil]; omega)) [wrap64, setC, H.rep.cells, H.rep.one]
      refine HS.appO (bytes := 24) H.sw2.sw1 rfl rfl (by rw [hcl]) rfl rfl (by omega) (by omega) fun nx' h7 H => ?_
      simp -implicitDefEqProofs (disch := first | omega | (simp only [List.length_set, List.length_replicate, List.length_append, List.length_map, List.length_take, List.length_cons, List.length_nil]; omega)) [wrap64, setC, H.rep.cells, H.rep.one]
      exact hJ (i + 1) _ _ (by omega) ⟨xs, nx', by simp, by rw [hsucc]; exact H.sw1.sw2.drop, by rw [hsucc]; simp only; omega, by rw [hsucc]; exact hp60⟩
  · obtain ⟨b1, b2⟩ := bg_end (n := i) hs (by omega) (by omega)
    rw [b2] at H
    simp -implicitDefEqProofs (disch := first | omega | (simp only [List.length_set, List.length_replicate, List.length_append, List.length_map, List.length_take, List.length_cons, List.length_nil]; omega)) [wrap64, setC, H.rep.cells, H.rep.one, H.sw1.rep.cells, H.sw1.rep.one]
    exact RetK.keep (hk _ _ ⟨_, by rw [decide_eq_true b1], HS.mkGr H⟩)
theorem c_BuildGraph {h : Heap} {v : Value} {s : Sy} (R : Rep h v s) : CallE Tryz.prog fn_impl_BuildGraph [v] h (R2 (decide (bgOk s)) (bgR s) h) := by
  have FS := R.aSy
  refine CallE.gen fun k hk => EN_impl_BuildGraph rfl ?_
  simp -implicitDefEqProofs (disch := first | omega | (simp only [List.length_set, List.length_replicate, List.length_append, List.length_map, List.length_take, List.length_cons, List.length_nil]; omega)) [wrap64, FS]
  refine (c_SystemValid R).go ?_
  rintro _ h1 ⟨l1, rfl⟩
  by_cases hs : s.Ok
  case neg =>
    simp -implicitDefEqProofs (disch := first | omega | (simp only [List.length_set, List.length_replicate, List.length_append, List.length_map, List.length_take, List.length_cons, List.length_nil]; omega)) [wrap64, hs, setC]
    have hn : ¬ bgOk s := fun hb => hs hb.1
    exact RetK.keep (hk _ _ ⟨_, by rw [decide_eq_false hn], by rw [bgR, if_neg hn]; exact zero_Gr (Γ := []) l1⟩)
  simp -implicitDefEqProofs (disch := first | omega | (simp only [List.length_set, List.length_replicate, List.length_append, List.length_map, List.length_take, List.length_cons, List.length_nil]; omega)) [wrap64, hs, FS]
  refine (c_build hs (R.le l1)).go ?_
  rintro _ h2 ⟨u, rfl, H⟩
  have hA := H.rep.aGr
  simp -implicitDefEqProofs (disch := first | omega | (simp only [List.length_set, List.length_replicate, List.length_append, List.length_map, List.length_take, List.length_cons, List.length_nil]; omega)) [wrap64, setC, hA]
  exact RetK.keep (hk _ _ ⟨u, rfl, HS.app (Γ := []) H l1⟩)
end Go.Proofs.YthgimpheeemooaaGreat
