/-
  Texts of this proof, one behind the other.
-/
import Derived.Test.YtonjglbachhdcaaM6
/-
  The graph of a system: by the reference; both as functions of the package.
-/
namespace Go.Proofs.Ytonjglbachhdcaa
open Go
set_option linter.all false
set_option linter.unusedVariables false
set_option linter.unusedSimpArgs false
set_option linter.defProp false
set_option maxRecDepth 1000000

theorem gF_mono {s : Sy} {x : Sta} {xs : List Sta} {n m : Nat} (h : n ≤ m) (hm : m ≤ (enb s x).length) : (gF s x n xs).1.length ≤ (gF s x m xs).1.length := by
  induction m with
  | zero => have : n = 0 := by omega
            subst this; exact Nat.le_refl _
  | succ m ih =>
    by_cases e : n = m + 1
    · subst e; exact Nat.le_refl _
    refine Nat.le_trans (ih (by omega) (by omega)) ?_
    rw [gF_succ (by omega)]
    exact adS_ge
theorem c_spec_BuildGraph {h : Heap} {v : Value} {s : Sy} (R : Rep h v s) : CallE Try.prog fn_spec_BuildGraph [v] h (R2 (decide (bgOk s)) (bgR s) h) := by
  have FS := R.aSy
  have R0 := R
  obtain ⟨v1, v2, rfl, R1, R2'⟩ := Rep_Sy.1 R
  refine CallE.gen fun k hk => EN_spec_BuildGraph rfl ?_
  have hno : ¬ bgOk s → ∀ {h'}, h.le h' → k (.tuple #[.agg #[.slice none 0 0, .slice none 0 0], .bool false]) h' := fun hn h' hl => hk _ _ ⟨_, by rw [decide_eq_false hn], by rw [bgR, if_neg hn]; exact zero_Gr (Γ := []) hl⟩
  simp -implicitDefEqProofs (disch := first | omega | (simp only [List.length_set, List.length_replicate, List.length_append, List.length_map, List.length_take, List.length_cons, List.length_nil]; omega)) [wrap64, FS]
  refine (c_spec_InitialState R0).go ?_
  rintro _ h1 ⟨u, rfl, H⟩
  obtain ⟨o1, o2, rfl, H'⟩ := H.unSta
  have hc1 := H'.rep.one
  have hc2 := H'.sw1.rep.one
  by_cases hs : s.Ok
  case neg =>
    simp -implicitDefEqProofs (disch := first | omega | (simp only [List.length_set, List.length_replicate, List.length_append, List.length_map, List.length_take, List.length_cons, List.length_nil]; omega)) [wrap64, hs, setC, hc1, hc2]
    exact RetK.keep (hno (fun hb => hs hb.1) H.base)
  rw [if_pos hs] at H
  simp -implicitDefEqProofs (disch := first | omega | (simp only [List.length_set, List.length_replicate, List.length_append, List.length_map, List.length_take, List.length_cons, List.length_nil]; omega)) [wrap64, hs, setC, hc1, hc2]
  refine HS.blsO1 H rfl fun xs h2 H => ?_
  simp -implicitDefEqProofs (disch := first | omega | (simp only [List.length_set, List.length_replicate, List.length_append, List.length_map, List.length_take, List.length_cons, List.length_nil]; omega)) [wrap64, setC, H.rep.cells, H.rep.one]
  refine wp_while (σ := Nat) (fun i e h' => ∃ xs nx, e = [none, some (.agg #[v1, v2]), some (.agg #[.slice none 0 0, .slice none 0 0]), none, none, none, some (.agg #[xs, nx]), some (.int .i64 i), none, none, none, none, none] ∧ HS h [ow xs (gN s i).states, ow nx (gN s i).next] h' ∧ i ≤ (gN s i).states.length ∧ (gN s i).states.length ≤ 60) (fun i => 61 - i) 0 ⟨xs, .slice none 0 0, by simp, H.nil_ow.sw1, by simp [gN], by simp [gN]⟩ ?_
  clear H hc1 hc2 H'
  rintro J i _ h3 hJ ⟨xs, nx, rfl, H, hi, h60⟩
  have inv := gN_inv hs i
  have hnl := inv.nl
  simp -implicitDefEqProofs (disch := first | omega | (simp only [List.length_set, List.length_replicate, List.length_append, List.length_map, List.length_take, List.length_cons, List.length_nil]; omega)) [wrap64, H.rep.len]
  refine IteW.mk (fun hlt => ?_) (fun hge => ?_)
  · have hlt : i < (gN s i).states.length := by omega
    have hxo := inv.ok _ (List.getElem_mem hlt)
    have hsucc := gN_succ hlt
    generalize hg : gN s i = g at *
    obtain ⟨x, hx⟩ : ∃ x, x = g.states[i] := ⟨_, rfl⟩
    rw [← hx] at hxo hsucc
    obtain ⟨u, hu, Ru⟩ := H.rep.ld hlt
    change hload _ (some (elp 2 xs i)) (some 2) = some u at hu
    rw [← hx] at Ru
    have hel := enb_len' (st := x) hs
    simp -implicitDefEqProofs (disch := first | omega | (simp only [List.length_set, List.length_replicate, List.length_append, List.length_map, List.length_take, List.length_cons, List.length_nil]; omega)) [wrap64, H.rep.X (n := 2) rfl, hu, Ru.aSta, FS]
    refine (c_l3Steps hs hxo (R0.on H) Ru).go ?_
    intro el h4 G
    have H := G.app H
    simp -implicitDefEqProofs (disch := first | omega | (simp only [List.length_set, List.length_replicate, List.length_append, List.length_map, List.length_take, List.length_cons, List.length_nil]; omega)) [wrap64]
    refine H.bls0 Int fun q h5 H => ?_
    simp -implicitDefEqProofs (disch := first | omega | (simp only [List.length_set, List.length_replicate, List.length_append, List.length_map, List.length_take, List.length_cons, List.length_nil]; omega)) [wrap64]
    refine wp_count (enb s x).length (fun m e h' => ∃ xs q, e = [none, some (.agg #[v1, v2]), some (.agg #[.slice none 0 0, .slice none 0 0]), none, none, none, some (.agg #[xs, nx]), some (.int .i64 i), some el, some q, some (.int .i64 m), none, none] ∧ HS h [ow xs (gF s x m g.states).1, ow q (gF s x m g.states).2, ow nx g.next, ow el (enb s x)] h' ∧ (gF s x m g.states).1.length ≤ 60) ⟨xs, q, by simp, by rw [gF_zero]; exact H.sw1.bk3.sw1, by rw [gF_zero]; exact h60⟩ ?_
    clear H
    rintro J1 m _ h5 hJ1 hm ⟨xs, q, rfl, H, hp60⟩
    simp -implicitDefEqProofs (disch := first | omega | (simp only [List.length_set, List.length_replicate, List.length_append, List.length_map, List.length_take, List.length_cons, List.length_nil]; omega)) [wrap64, H.sw3.rep.len]
    refine IteW.mk (fun hlt1 => ?_) (fun hge1 => ?_)
    · have hm : m < (enb s x).length := by omega
      have gi := gF_inv (xs := g.states) hs hxo inv.ok m (by omega)
      have hsu := gF_succ (xs := g.states) hm
      have hin := enb_in (List.getElem_mem hm)
      have hmo := gF_mono (s := s) (x := x) (xs := g.states) (show m + 1 ≤ (enb s x).length by omega) (Nat.le_refl _)
      obtain ⟨t, ht⟩ : ∃ t, t = (enb s x)[m] := ⟨_, rfl⟩
      generalize gF s x m g.states = p at gi hsu H hp60
      obtain ⟨hip, hxp⟩ := gN_at (x := x) gi hlt
      rw [← hx] at hxp
      rw [← ht] at hsu hin
      have hbig : 60 < (g1 p (x.aft s t)).1.length → ¬ bgOk s := fun hh => bg_big (n := i + 1) hs (by omega) (by rw [hsucc]; rw [hsu] at hmo; simp only; omega)
      obtain ⟨u, hu, Ru⟩ := H.rep.ld hip
      change hload _ (some (elp 2 xs i)) (some 2) = some u at hu
      rw [hxp] at Ru
      have hst := Sta.aft_ok hs hxo hin
      have hl1 := gi.l1
      have hl2 := gi.l2
      simp -implicitDefEqProofs (disch := first | omega | (simp only [List.length_set, List.length_replicate, List.length_append, List.length_map, List.length_take, List.length_cons, List.length_nil]; omega)) [wrap64, H.sw3.rep.xStp, ← ht, H.rep.X (n := 2) rfl, hu, Stp.v, setC, Ru.aSta, FS]
      refine (c_l3Apply hs hxo hin (R0.on H) Ru).go ?_
      intro o h6 HO
      have hC0 := HO.rep.aSta
      obtain ⟨o1, o2, rfl, HO2⟩ := HO.unSta
      have hC1 := HO2.rep.one
      have hC2 := HO2.sw1.rep.one
      have H := HO.app H
      simp -implicitDefEqProofs (disch := first | omega | (simp only [List.length_set, List.length_replicate, List.length_append, List.length_map, List.length_take, List.length_cons, List.length_nil]; omega)) [wrap64, hC1, hC2, setC]
      refine (c_l4Find H.sw1.rep H.rep).go ?_
      rintro _ h6 ⟨rfl, rfl⟩
      by_cases q1 : x.aft s t ∈ p.1
      · obtain ⟨i', hi', e1, e2⟩ := fx_mem q1
        simp -implicitDefEqProofs (disch := first | omega | (simp only [List.length_set, List.length_replicate, List.length_append, List.length_map, List.length_take, List.length_cons, List.length_nil]; omega)) [wrap64, e1, show ¬ ((i' : Int) < 0) by omega]
        by_cases q3 : (60 : Int) ≤ (i' : Int)
        · simp -implicitDefEqProofs (disch := first | omega | (simp only [List.length_set, List.length_replicate, List.length_append, List.length_map, List.length_take, List.length_cons, List.length_nil]; omega)) [wrap64, q3, setC]
          exact RetK.keep (hno (hbig (by omega)) H.base)
        simp -implicitDefEqProofs (disch := first | omega | (simp only [List.length_set, List.length_replicate, List.length_append, List.length_map, List.length_take, List.length_cons, List.length_nil]; omega)) [wrap64, q3]
        refine (c_l4In H.sw2.rep).go ?_
        rintro _ h8 ⟨rfl, rfl⟩
        by_cases q2 : (i' : Int) ∈ p.2
        · simp -implicitDefEqProofs (disch := first | omega | (simp only [List.length_set, List.length_replicate, List.length_append, List.length_map, List.length_take, List.length_cons, List.length_nil]; omega)) [wrap64, q2]
          refine hJ1 _ _ hm ⟨xs, q, by simp, ?_, ?_⟩
          · rw [hsu, g1]
            simp only [adS, atS, q1, if_pos, if_neg, not_false_eq_true, e1, adI, q2]
            exact H.drop
          · rw [hsu, g1]
            simp only [adS, q1, if_pos, if_neg, not_false_eq_true]
            exact hp60
        · simp -implicitDefEqProofs (disch := first | omega | (simp only [List.length_set, List.length_replicate, List.length_append, List.length_map, List.length_take, List.length_cons, List.length_nil]; omega)) [wrap64, q2, setC]
          refine HS.app1 (bytes := 8) H.sw2 (i' : Int) rfl rfl rfl ⟨by omega, by omega⟩ rfl rfl (by omega) (by omega) fun q' h9 H => ?_
          simp -implicitDefEqProofs (disch := first | omega | (simp only [List.length_set, List.length_replicate, List.length_append, List.length_map, List.length_take, List.length_cons, List.length_nil]; omega)) [wrap64]
          refine hJ1 _ _ hm ⟨xs, q', by simp, ?_, ?_⟩
          · rw [hsu, g1]
            simp only [adS, atS, q1, if_pos, if_neg, not_false_eq_true, e1, adI, q2]
            exact H.bk2.drop
          · rw [hsu, g1]
            simp only [adS, q1, if_pos, if_neg, not_false_eq_true]
            exact hp60
      · have e1 : (p.1.length : Int) = p.1.length := rfl
        simp -implicitDefEqProofs (disch := first | omega | (simp only [List.length_set, List.length_replicate, List.length_append, List.length_map, List.length_take, List.length_cons, List.length_nil]; omega)) [wrap64, fx_not q1, H.sw1.rep.len, hC1, hC2, setC]
        refine HS.appO (bytes := 48) H rfl rfl rfl rfl rfl (by omega) (by omega) fun xs' h8 H => ?_
        simp -implicitDefEqProofs (disch := first | omega | (simp only [List.length_set, List.length_replicate, List.length_append, List.length_map, List.length_take, List.length_cons, List.length_nil]; omega)) [wrap64, setC, H.rep.cells, H.rep.one]
        by_cases q3 : (60 : Int) ≤ (p.1.length : Int)
        · simp -implicitDefEqProofs (disch := first | omega | (simp only [List.length_set, List.length_replicate, List.length_append, List.length_map, List.length_take, List.length_cons, List.length_nil]; omega)) [wrap64, q3, setC]
          exact RetK.keep (hno (hbig (by simp only [g1, adS, if_neg q1, List.length_append, List.length_singleton]; omega)) H.base)
        simp -implicitDefEqProofs (disch := first | omega | (simp only [List.length_set, List.length_replicate, List.length_append, List.length_map, List.length_take, List.length_cons, List.length_nil]; omega)) [wrap64, q3]
        refine (c_l4In H.sw1.rep).go ?_
        rintro _ h8 ⟨rfl, rfl⟩
        by_cases q2 : (p.1.length : Int) ∈ p.2
        · simp -implicitDefEqProofs (disch := first | omega | (simp only [List.length_set, List.length_replicate, List.length_append, List.length_map, List.length_take, List.length_cons, List.length_nil]; omega)) [wrap64, q2]
          refine hJ1 _ _ hm ⟨xs', q, by simp, ?_, ?_⟩
          · rw [hsu, g1]
            simp only [adS, atS, q1, if_pos, if_neg, not_false_eq_true, e1, adI, q2]
            exact H
          · rw [hsu, g1]
            simp only [adS, q1, if_pos, if_neg, not_false_eq_true]
            simp only [List.length_append, List.length_singleton]; omega
        · simp -implicitDefEqProofs (disch := first | omega | (simp only [List.length_set, List.length_replicate, List.length_append, List.length_map, List.length_take, List.length_cons, List.length_nil]; omega)) [wrap64, q2, setC]
          refine HS.app1 (bytes := 8) H.sw1 (p.1.length : Int) rfl rfl rfl ⟨by omega, by omega⟩ rfl rfl (by omega) (by omega) fun q' h9 H => ?_
          simp -implicitDefEqProofs (disch := first | omega | (simp only [List.length_set, List.length_replicate, List.length_append, List.length_map, List.length_take, List.length_cons, List.length_nil]; omega)) [wrap64]
          refine hJ1 _ _ hm ⟨xs', q', by simp, ?_, ?_⟩
          · rw [hsu, g1]
            simp only [adS, atS, q1, if_pos, if_neg, not_false_eq_true, e1, adI, q2]
            exact H.sw1
          · rw [hsu, g1]
            simp only [adS, q1, if_pos, if_neg, not_false_eq_true]
            simp only [List.length_append, List.length_singleton]; omega
    obtain rfl : m = (enb s x).length := by omega
    have gi := gF_inv (xs := g.states) hs hxo inv.ok _ (Nat.le_refl (enb s x).length)
    generalize gF s x (enb s x).length g.states = p at gi hsucc H hp60
    have hge := gi.ge
    have hl2 := gi.l2
    by_cases q0 : (enb s x).length = 0
    · have hp : p.2 = [] := List.length_eq_zero_iff.1 (by omega)
      simp -implicitDefEqProofs (disch := first | omega | (simp only [List.length_set, List.length_replicate, List.length_append, List.length_map, List.length_take, List.length_cons, List.length_nil]; omega)) [wrap64, H.sw3.rep.len, q0, setC]
      refine HS.app1 (bytes := 8) H.sw1 (i : Int) rfl rfl rfl ⟨by omega, by omega⟩ rfl rfl (by omega) (by omega) fun q h7 H => ?_
      have H : HS h [ow q (nxS i p.2), ow xs p.1, ow nx g.next, ow el (enb s x)] h7 := by rw [nxS, if_pos hp]; rw [hp] at H; exact H
      simp -implicitDefEqProofs (disch := first | omega | (simp only [List.length_set, List.length_replicate, List.length_append, List.length_map, List.length_take, List.length_cons, List.length_nil]; omega)) [wrap64]
      have hcl := H.rep.cells
      simp -implicitDefEqProofs (disch := first | omega | (simp only [List.length_set, List.length_replicate, List.length_append, List.length_map, List.length_take, List.length_cons, List.length_nil]; omega)) [wrap64, setC, H.rep.cells, H.rep.one]
      refine HS.appO (bytes := 24) H.sw2.sw1 rfl rfl (by rw [hcl]) rfl rfl (by omega) (by omega) fun nx' h7 H => ?_
      simp -implicitDefEqProofs (disch := first | omega | (simp only [List.length_set, List.length_replicate, List.length_append, List.length_map, List.length_take, List.length_cons, List.length_nil]; omega)) [wrap64, setC, H.rep.cells, H.rep.one]
      exact hJ (i + 1) _ _ (by omega) ⟨xs, nx', by simp, by rw [hsucc]; exact H.sw1.sw2.drop, by rw [hsucc]; simp only; omega, by rw [hsucc]; exact hp60⟩
    · have hp : p.2 ≠ [] := gi.ne (by omega)
      have q0' : ¬ (enb s x) = [] := fun e => q0 (by rw [e]; rfl)
      simp -implicitDefEqProofs (disch := first | omega | (simp only [List.length_set, List.length_replicate, List.length_append, List.length_map, List.length_take, List.length_cons, List.length_nil]; omega)) [wrap64, H.sw3.rep.len, q0, q0']
      have H : HS h [ow q (nxS i p.2), ow xs p.1, ow nx g.next, ow el (enb s x)] h5 := by rw [nxS, if_neg hp]; exact H.sw1
      have hcl := H.rep.cells
      simp -implicitDefEqProofs (disch := first | omega | (simp only [List.length_set, List.length_replicate, List.length_append, List.length_map, List.length_take, List.length_cons, List.length_nil]; omega)) [wrap64, setC, H.rep.cells, H.rep.one]
      refine HS.appO (bytes := 24) H.sw2.sw1 rfl rfl (by rw [hcl]) rfl rfl (by omega) (by omega) fun nx' h7 H => ?_
      simp -implicitDefEqProofs (disch := first | omega | (simp only [List.length_set, List.length_replicate, List.length_append, List.length_map, List.length_take, List.length_cons, List.length_nil]; omega)) [wrap64, setC, H.rep.cells, H.rep.one]
      exact hJ (i + 1) _ _ (by omega) ⟨xs, nx', by simp, by rw [hsucc]; exact H.sw1.sw2.drop, by rw [hsucc]; simp only; omega, by rw [hsucc]; exact hp60⟩
  · obtain ⟨b1, b2⟩ := bg_end (n := i) hs (by omega) (by omega)
    rw [b2] at H
    simp -implicitDefEqProofs (disch := first | omega | (simp only [List.length_set, List.length_replicate, List.length_append, List.length_map, List.length_take, List.length_cons, List.length_nil]; omega)) [wrap64, setC, H.rep.cells, H.rep.one, H.sw1.rep.cells, H.sw1.rep.one]
    exact RetK.keep (hk _ _ ⟨_, by rw [decide_eq_true b1], HS.mkGr H⟩)
theorem c_BuildGraph {h : Heap} {v : Value} {s : Sy} (R : Rep h v s) : CallE Try.prog fn_impl_BuildGraph [v] h (R2 (decide (bgOk s)) (bgR s) h) := by
  have FS := R.aSy
  refine CallE.gen fun k hk => EN_impl_BuildGraph rfl ?_
  simp -implicitDefEqProofs (disch := first | omega | (simp only [List.length_set, List.length_replicate, List.length_append, List.length_map, List.length_take, List.length_cons, List.length_nil]; omega)) [wrap64, FS]
  refine (c_SystemValid R).go ?_
  rintro _ h1 ⟨l1, rfl⟩
  by_cases hs : s.Ok
  case neg =>
    simp -implicitDefEqProofs (disch := first | omega | (simp only [List.length_set, List.length_replicate, List.length_append, List.length_map, List.length_take, List.length_cons, List.length_nil]; omega)) [wrap64, hs, setC]
    have hn : ¬ bgOk s := fun hb => hs hb.1
    exact RetK.keep (hk _ _ ⟨_, by rw [decide_eq_false hn], by rw [bgR, if_neg hn]; exact zero_Gr (Γ := []) l1⟩)
  simp -implicitDefEqProofs (disch := first | omega | (simp only [List.length_set, List.length_replicate, List.length_append, List.length_map, List.length_take, List.length_cons, List.length_nil]; omega)) [wrap64, hs, FS]
  refine (c_build hs (R.le l1)).go ?_
  rintro _ h2 ⟨u, rfl, H⟩
  have hA := H.rep.aGr
  simp -implicitDefEqProofs (disch := first | omega | (simp only [List.length_set, List.length_replicate, List.length_append, List.length_map, List.length_take, List.length_cons, List.length_nil]; omega)) [wrap64, setC, hA]
  exact RetK.keep (hk _ _ ⟨u, rfl, HS.app (Γ := []) H l1⟩)
end Go.Proofs.Ytonjglbachhdcaa

/-
  Searching graphs in plain Lean: shortest paths from the first node.
-/
namespace Go.Proofs.Ytonjglbachhdcaa
open Go
set_option linter.all false
set_option linter.unusedVariables false
set_option linter.unusedSimpArgs false
set_option linter.defProp false
set_option maxRecDepth 1000000

def bs1 (at' : Int) (p : List Int × List Int) (to : Int) : List Int × List Int := if p.1.getD to.toNat 0 = -2 then (p.1.set to.toNat at', p.2 ++ [to]) else p
def bsF (l : List Int) (at' : Int) (p : List Int × List Int) (n : Nat) : List Int × List Int := (l.take n).foldl (bs1 at') p
def bsR (next : List (List Int)) (i : Nat) (p : List Int × List Int) : List Int × List Int :=
  if i < p.2.length then bsF (next.getD (p.2.getD i 0).toNat []) (p.2.getD i 0) p (next.getD (p.2.getD i 0).toNat []).length else p
def bsN (next : List (List Int)) : Nat → List Int × List Int
  | 0 => ((List.replicate next.length (-2)).set 0 (-1), [0])
  | n + 1 => bsR next n (bsN next n)
/-- what holds of a search -/
structure BI (N : Nat) (p : List Int × List Int) : Prop where
  fl : p.1.length = N
  q0 : ∃ t, p.2 = 0 :: t
  z0 : ∃ t, p.1 = -1 :: t
  inq : ∀ x ∈ p.2, 0 ≤ x ∧ x < N ∧ p.1.getD x.toNat 0 ≠ -2
  vis : ∀ j : Nat, j < N → p.1.getD j 0 ≠ -2 → (j : Int) ∈ p.2
  val : ∀ j : Nat, 1 ≤ j → j < N → p.1.getD j 0 = -2 ∨ 0 ≤ p.1.getD j 0
  par : ∀ q : Nat, 1 ≤ q → q < p.2.length → ∃ r : Nat, r < q ∧ p.1.getD (p.2.getD q 0).toNat 0 = p.2.getD r 0
  cnt : p.2.length + p.1.count (-2) = N
/-- one search goes on from another -/
structure BL (p p' : List Int × List Int) : Prop where
  keep : ∀ j : Nat, p.1.getD j 0 ≠ -2 → p'.1.getD j 0 = p.1.getD j 0
  pre : ∃ t, p'.2 = p.2 ++ t
theorem BL.refl {p : List Int × List Int} : BL p p := ⟨fun _ _ => rfl, ⟨[], by simp⟩⟩
theorem BL.trans {p q r : List Int × List Int} (h : BL p q) (h' : BL q r) : BL p r := by
  refine ⟨fun j hj => ?_, ?_⟩
  · have e := h.keep j hj
    rw [h'.keep j (by rw [e]; exact hj), e]
  · obtain ⟨t, e⟩ := h.pre
    obtain ⟨t', e'⟩ := h'.pre
    exact ⟨t ++ t', by rw [e', e, List.append_assoc]⟩
theorem BL.len {p q : List Int × List Int} (h : BL p q) : p.2.length ≤ q.2.length := by
  obtain ⟨t, e⟩ := h.pre
  rw [e]; simp
theorem BL.at {p q : List Int × List Int} (h : BL p q) {i : Nat} (hi : i < p.2.length) : q.2.getD i 0 = p.2.getD i 0 := by
  obtain ⟨t, e⟩ := h.pre
  rw [e, List.getD_eq_getElem?_getD, List.getD_eq_getElem?_getD, List.getElem?_append_left hi]
theorem count_set {l : List Int} : ∀ {k : Nat} (hk : k < l.length) {a b : Int}, l[k] = a → a ≠ b → (l.set k b).count a + 1 = l.count a := by
  induction l with
  | nil => intro k hk; exact absurd hk (Nat.not_lt_zero k)
  | cons x l ih =>
    intro k hk a b h1 h2
    cases k with
    | zero =>
      simp only [List.getElem_cons_zero] at h1
      subst h1
      simp only [List.set_cons_zero, List.count_cons_self]
      rw [List.count_cons_of_ne (Ne.symm h2)]
    | succ k =>
      simp only [List.getElem_cons_succ] at h1
      have := ih (k := k) (by simpa using hk) h1 h2
      simp only [List.set_cons_succ, List.count_cons]
      omega
theorem getD_setI {l : List Int} {k j : Nat} {a : Int} (hk : k < l.length) : (l.set k a).getD j 0 = if k = j then a else l.getD j 0 := by
  rw [List.getD_eq_getElem?_getD, List.getElem?_set]
  split
  · rename_i e; subst e; simp [hk]
  · rw [List.getD_eq_getElem?_getD]
theorem BI.le {N : Nat} {p : List Int × List Int} (h : BI N p) : p.2.length ≤ N := by have := h.cnt; omega
theorem BI.pos {N : Nat} {p : List Int × List Int} (h : BI N p) : 1 ≤ p.2.length := by
  obtain ⟨t, e⟩ := h.q0
  rw [e]; simp
theorem BI.at {N : Nat} {p : List Int × List Int} (h : BI N p) {i : Nat} (hi : i < p.2.length) : 0 ≤ p.2.getD i 0 ∧ p.2.getD i 0 < N ∧ p.1.getD (p.2.getD i 0).toNat 0 ≠ -2 := by
  have e : p.2.getD i 0 = p.2[i] := by simp [hi]
  rw [e]
  exact h.inq _ (List.getElem_mem hi)
theorem BI.step {N : Nat} {p : List Int × List Int} (h : BI N p) {i : Nat} (hi : i < p.2.length) {to : Int} (h0 : 0 ≤ to) (h1 : to < N) : BI N (bs1 (p.2.getD i 0) p to) ∧ BL p (bs1 (p.2.getD i 0) p to) ∧ (bs1 (p.2.getD i 0) p to).1.getD to.toNat 0 ≠ -2 := by
  obtain ⟨a, ha⟩ : ∃ a, a = p.2.getD i 0 := ⟨_, rfl⟩
  have hat := h.at hi
  rw [← ha] at hat ⊢
  unfold bs1
  split
  case isFalse e => exact ⟨h, BL.refl, e⟩
  rename_i e
  obtain ⟨k, rfl⟩ : ∃ k : Nat, to = k := ⟨to.toNat, (Int.toNat_of_nonneg h0).symm⟩
  simp only [Int.toNat_natCast] at e ⊢
  have hkN : k < p.1.length := by rw [h.fl]; omega
  obtain ⟨t0, e0⟩ := h.z0
  obtain ⟨tq, eq⟩ := h.q0
  have hk0 : k ≠ 0 := by
    rintro rfl
    rw [e0] at e
    simp at e
  have hkq : (k : Int) ∉ p.2 := fun hm => by
    have := (h.inq _ hm).2.2
    rw [Int.toNat_natCast] at this
    exact this e
  have hge : p.1[k] = -2 := by rw [← e]; simp [hkN]
  refine ⟨⟨by simp [h.fl], ⟨tq ++ [(k : Int)], by rw [eq]; simp⟩, ?_, ?_, ?_, ?_, ?_, ?_⟩, ⟨fun j hj => ?_, ⟨_, rfl⟩⟩, ?_⟩
  · obtain ⟨k', rfl⟩ : ∃ k', k = k' + 1 := ⟨k - 1, by omega⟩
    exact ⟨t0.set k' a, by simp [e0]⟩
  · intro x hx
    simp only [List.mem_append, List.mem_singleton] at hx
    simp only [getD_setI hkN]
    rcases hx with hx | rfl
    · have := h.inq x hx
      refine ⟨this.1, this.2.1, ?_⟩
      split
      · omega
      · exact this.2.2
    · refine ⟨by omega, by omega, ?_⟩
      simp; omega
  · intro j hj h2
    simp only [getD_setI hkN] at h2
    simp only [List.mem_append, List.mem_singleton]
    split at h2
    · rename_i e2; right; omega
    · exact .inl (h.vis j hj h2)
  · intro j h2 h3
    simp only [getD_setI hkN]
    split
    · right; omega
    · exact h.val j h2 h3
  · intro q h2 h3
    simp only [List.length_append, List.length_singleton] at h3
    by_cases hq : q < p.2.length
    · obtain ⟨r, hr, e2⟩ := h.par q h2 hq
      have e3 : (p.2 ++ [(k : Int)]).getD q 0 = p.2.getD q 0 := by rw [List.getD_eq_getElem?_getD, List.getElem?_append_left hq, List.getD_eq_getElem?_getD]
      have e4 : (p.2 ++ [(k : Int)]).getD r 0 = p.2.getD r 0 := by rw [List.getD_eq_getElem?_getD, List.getElem?_append_left (by omega), List.getD_eq_getElem?_getD]
      refine ⟨r, hr, ?_⟩
      simp only [e3, e4, getD_setI hkN]
      have := h.at hq
      rw [if_neg (fun e5 => hkq (by
        have e6 : p.2.getD q 0 = p.2[q] := by simp [hq]
        have e7 : (k : Int) = p.2[q] := by rw [← e6]; omega
        rw [e7]; exact List.getElem_mem hq)), e2]
    · have hq2 : q = p.2.length := by omega
      subst hq2
      refine ⟨i, hi, ?_⟩
      have e3 : (p.2 ++ [(k : Int)]).getD p.2.length 0 = k := by simp
      have e4 : (p.2 ++ [(k : Int)]).getD i 0 = a := by rw [List.getD_eq_getElem?_getD, List.getElem?_append_left hi, ← List.getD_eq_getElem?_getD, ha]
      simp only [e3, e4, getD_setI hkN, Int.toNat_natCast, if_pos]
  · have h2 := h.cnt
    have h3 := count_set hkN hge (b := a) (by omega)
    simp only [List.length_append, List.length_singleton]
    omega
  · simp only [getD_setI hkN]
    rw [if_neg]
    rintro rfl
    exact hj e
  · simp only [getD_setI hkN, if_pos]
    omega
/-- a graph's edges -/
structure NOk (next : List (List Int)) : Prop where
  pos : 1 ≤ next.length
  n60 : next.length ≤ 60
  ent : ∀ l ∈ next, ∀ x ∈ l, 0 ≤ x ∧ x < next.length
  ll : ∀ l ∈ next, l.length ≤ 325
theorem NOk.get {next : List (List Int)} (h : NOk next) {k : Nat} (hk : k < next.length) : next.getD k [] = next[k] ∧ next[k] ∈ next := ⟨by simp [hk], List.getElem_mem hk⟩
/-- the way back to the first node -/
inductive Chn (f : List Int) : Int → List Int → Prop where
  | z : Chn f (-1) []
  | s {a : Int} {l : List Int} : 0 ≤ a → a < f.length → Chn f (f.getD a.toNat 0) l → Chn f a (l ++ [a])
theorem Chn.neg {f : List Int} {l : List Int} (h : Chn f (-1) l) : l = [] := by
  generalize hx : (-1 : Int) = x at h
  cases h with
  | z => rfl
  | s h0 _ _ => omega
theorem Chn.un {f : List Int} {a : Int} {l : List Int} (h : Chn f a l) (h0 : 0 ≤ a) : ∃ l', l = l' ++ [a] ∧ a < f.length ∧ Chn f (f.getD a.toNat 0) l' := by
  cases h with
  | z => omega
  | s h1 h2 h3 => exact ⟨_, rfl, h2, h3⟩
theorem Chn.ge {f : List Int} {a : Int} {l : List Int} (h : Chn f a l) : -1 ≤ a := by
  cases h with
  | z => decide
  | s h1 _ _ => omega
theorem Chn.bl {p p' : List Int × List Int} (hb : BL p p') (hl : p.1.length = p'.1.length) {a : Int} {l : List Int} (h : Chn p.1 a l) : Chn p'.1 a l := by
  induction h with
  | z => exact .z
  | s h1 h2 h3 ih =>
    refine .s h1 (by omega) ?_
    have := h3.ge
    rw [hb.keep _ (by omega)]
    exact ih
theorem Chn.all {f : List Int} {a : Int} {l : List Int} (h : Chn f a l) : ∀ x ∈ l, 0 ≤ x ∧ x < f.length := by
  induction h with
  | z => simp
  | s h1 h2 h3 ih =>
    intro x hx
    simp only [List.mem_append, List.mem_singleton] at hx
    rcases hx with hx | rfl
    · exact ih x hx
    · exact ⟨h1, h2⟩
noncomputable def pth (next : List (List Int)) (a : Int) : List Int := open Classical in if h : ∃ l, Chn (bsN next next.length).1 a l then h.choose else []
end Go.Proofs.Ytonjglbachhdcaa

/-
  Shortest paths: by the program.
-/
namespace Go.Proofs.Ytonjglbachhdcaa
open Go
set_option linter.all false
set_option linter.unusedVariables false
set_option linter.unusedSimpArgs false
set_option linter.defProp false
set_option maxRecDepth 1000000

def Rch (next : List (List Int)) : Prop := ∀ j : Nat, 1 ≤ j → j < next.length → ∃ (i : Nat) (hi : i < next.length), i < j ∧ (j : Int) ∈ next[i]
end Go.Proofs.Ytonjglbachhdcaa

/-
  Shortest paths: by the reference; states along paths, by the program and by the reference.
-/
namespace Go.Proofs.Ytonjglbachhdcaa
open Go
set_option linter.all false
set_option linter.unusedVariables false
set_option linter.unusedSimpArgs false
set_option linter.defProp false
set_option maxRecDepth 1000000

def prn (f : List Int) : List Int := f.map fun x => if x = -2 then -1 else x
def sen (f : List Int) : List Bool := f.map fun x => decide (x ≠ -2)
@[simp] theorem prn_len {f : List Int} : (prn f).length = f.length := by simp [prn]
@[simp] theorem sen_len {f : List Int} : (sen f).length = f.length := by simp [sen]
end Go.Proofs.Ytonjglbachhdcaa

/-
  Checking reachable states: by the program and by the reference.
-/
namespace Go.Proofs.Ytonjglbachhdcaa
open Go
set_option linter.all false
set_option linter.unusedVariables false
set_option linter.unusedSimpArgs false
set_option linter.defProp false
set_option maxRecDepth 1000000

def sof (g : Gr) (l : List Int) : List Sta := l.map fun x => g.states.getD x.toNat Sta.zero
end Go.Proofs.Ytonjglbachhdcaa

/-
  Checking reachable states: invariants and deadlocks, by the program and by the reference.
-/
namespace Go.Proofs.Ytonjglbachhdcaa
open Go
set_option linter.all false
set_option linter.unusedVariables false
set_option linter.unusedSimpArgs false
set_option linter.defProp false
set_option maxRecDepth 1000000

noncomputable def ckV (s : Sy) (b : Prop) (bad : Sta → Bool) : Int := open Classical in if ¬ (b ∧ s.Ok) then 3 else if ¬ bgOk s then 2 else if (bgR s).states.any bad then 1 else 0
noncomputable def ckL (s : Sy) (b : Prop) (bad : Sta → Bool) : List Sta := open Classical in if ¬ (b ∧ s.Ok) then [] else if ¬ bgOk s then [] else match (bgR s).states.findIdx? bad with | some i => sof (bgR s) (pth (bgR s).next i) | none => []
def RI2 (n : Int) (l : List Sta) (h : Heap) : Value → Heap → Prop := fun u h' => ∃ x, u = .tuple #[.int .i64 n, x] ∧ HS h [ow x l] h'

def badE (e : Exq) (st : Sta) : Bool := decide (e.ev st.vals = 0)
def badD (s : Sy) (st : Sta) : Bool := decide (enb s st = [])
end Go.Proofs.Ytonjglbachhdcaa

/-
  Marks in lists of states and in lists of lists of numbers.
-/
namespace Go.Proofs.Ytonjglbachhdcaa
open Go
set_option linter.all false
set_option linter.unusedVariables false
set_option linter.unusedSimpArgs false
set_option linter.defProp false
set_option maxRecDepth 1000000

end Go.Proofs.Ytonjglbachhdcaa

/-
  What the helpers of the laws do: copying, counting, comparing, marking. Printed by a program.
-/
namespace Go.Proofs.Ytonjglbachhdcaa
open Go
set_option linter.all false
set_option linter.unusedVariables false
set_option linter.unusedSimpArgs false
set_option linter.defProp false
set_option maxRecDepth 1000000

end Go.Proofs.Ytonjglbachhdcaa

/-
  How much a graph holds.
-/
namespace Go.Proofs.Ytonjglbachhdcaa
open Go
set_option linter.all false
set_option linter.unusedVariables false
set_option linter.unusedSimpArgs false
set_option linter.defProp false
set_option maxRecDepth 1000000
end Go.Proofs.Ytonjglbachhdcaa

/-
  Checking reachable states: by the reference; how much the answers hold.
-/
namespace Go.Proofs.Ytonjglbachhdcaa
open Go
set_option linter.all false
set_option linter.unusedVariables false
set_option linter.unusedSimpArgs false
set_option linter.defProp false
set_option maxRecDepth 1000000

end Go.Proofs.Ytonjglbachhdcaa

/-
  Edges that are never taken: by the program and by the reference.
-/
namespace Go.Proofs.Ytonjglbachhdcaa
open Go
set_option linter.all false
set_option linter.unusedVariables false
set_option linter.unusedSimpArgs false
set_option linter.defProp false
set_option maxRecDepth 1000000

def ddS (p : Int) (l : List Bool) (t : Stp) : List Bool := if t.partner = p then (if t.proc = p then l.set t.edge.toNat false else l).set t.pedge.toNat false else if t.proc = p then l.set t.edge.toNat false else l
def ddF (s : Sy) (p : Int) (st : Sta) (n : Nat) (l : List Bool) : List Bool := ((enb s st).take n).foldl (ddS p) l
def ddG (s : Sy) (p : Int) (xs : List Sta) (n : Nat) (l : List Bool) : List Bool := (xs.take n).foldl (fun l st => ddF s p st (enb s st).length l) l
theorem ddS_len {p : Int} {l : List Bool} {t : Stp} : (ddS p l t).length = l.length := by
  unfold ddS; split <;> split <;> simp
theorem ddF_zero {s : Sy} {p : Int} {st : Sta} {l : List Bool} : ddF s p st 0 l = l := rfl
theorem ddF_succ {s : Sy} {p : Int} {st : Sta} {n : Nat} {l : List Bool} (hn : n < (enb s st).length) : ddF s p st (n + 1) l = ddS p (ddF s p st n l) (enb s st)[n] := by
  unfold ddF
  rw [List.take_add_one, List.getElem?_eq_getElem hn, List.foldl_append]
  rfl
theorem ddF_len {s : Sy} {p : Int} {st : Sta} {l : List Bool} : ∀ n, n ≤ (enb s st).length → (ddF s p st n l).length = l.length
  | 0, _ => rfl
  | n + 1, h => by rw [ddF_succ (by omega), ddS_len, ddF_len n (by omega)]
theorem ddG_zero {s : Sy} {p : Int} {xs : List Sta} {l : List Bool} : ddG s p xs 0 l = l := rfl
theorem ddG_succ {s : Sy} {p : Int} {xs : List Sta} {n : Nat} {l : List Bool} (hn : n < xs.length) : ddG s p xs (n + 1) l = ddF s p xs[n] (enb s xs[n]).length (ddG s p xs n l) := by
  unfold ddG
  rw [List.take_add_one, List.getElem?_eq_getElem hn, List.foldl_append]
  rfl
theorem ddG_len {s : Sy} {p : Int} {xs : List Sta} {l : List Bool} : ∀ n, n ≤ xs.length → (ddG s p xs n l).length = l.length
  | 0, _ => rfl
  | n + 1, h => by rw [ddG_succ (by omega), ddF_len _ (Nat.le_refl _), ddG_len n (by omega)]
def dOk (s : Sy) (p : Int) : Prop := bgOk s ∧ 0 ≤ p ∧ p < s.procs.length
noncomputable instance instDecDOk {s : Sy} {p : Int} : Decidable (dOk s p) := Classical.propDecidable _
def Sy.dead (s : Sy) (p : Int) (g : Gr) : List Bool := ddG s p g.states g.states.length (List.replicate (s.procs.getD p.toNat ⟨0, []⟩).edges.length true)
noncomputable def deadR (s : Sy) (p : Int) : List Bool := if dOk s p then s.dead p (bgR s) else []
theorem dd_rng {s : Sy} {t : Stp} (h : t.In s) {i : Nat} (hi : i < s.procs.length) : (t.proc = i → 0 ≤ t.edge ∧ t.edge < s.procs[i].edges.length) ∧ (t.partner = i → 0 ≤ t.pedge ∧ t.pedge < s.procs[i].edges.length) := by
  obtain ⟨⟨a, b, ha, hb, e1, e2⟩, hp⟩ := h
  constructor
  · intro e
    have : a = i := by omega
    subst this
    omega
  · intro e
    rcases hp with hp | ⟨c, d, hc, hd, e3, e4⟩
    · omega
    · have : c = i := by omega
      subst this
      omega

theorem c_DeadEdges {h : Heap} {v : Value} {s : Sy} {p : Int} (R : Rep h v s) (hp : I64 p) : CallE Try.prog fn_impl_DeadEdges [v, .int .i64 p] h (R2 (decide (dOk s p)) (deadR s p) h) := by
  have FS := R.aSy
  have R0 := R
  obtain ⟨v1, v2, rfl, R1, R2'⟩ := Rep_Sy.1 R
  have hL := R2'.lt
  refine CallE.gen fun k hk => EN_impl_DeadEdges rfl ?_
  have hno : ¬ dOk s p → ∀ {h'}, h.le h' → k (.tuple #[.slice none 0 0, .bool false]) h' := fun hn h' hl => hk _ _ ⟨_, by rw [decide_eq_false hn], by rw [deadR, if_neg hn]; exact HS.nil_ow (Γ := []) hl⟩
  simp -implicitDefEqProofs (disch := first | omega | (simp only [List.length_set, List.length_replicate, List.length_append, List.length_map, List.length_take, List.length_cons, List.length_nil]; omega)) [wrap64, FS]
  refine (c_BuildGraph R0).go ?_
  rintro _ h1 ⟨u, rfl, H⟩
  have hA := H.rep.aGr
  by_cases q1 : bgOk s
  case neg =>
    simp -implicitDefEqProofs (disch := first | omega | (simp only [List.length_set, List.length_replicate, List.length_append, List.length_map, List.length_take, List.length_cons, List.length_nil]; omega)) [wrap64, q1, hA, setC]
    exact RetK.keep (hno (fun hh => q1 hh.1) H.base)
  simp -implicitDefEqProofs (disch := first | omega | (simp only [List.length_set, List.length_replicate, List.length_append, List.length_map, List.length_take, List.length_cons, List.length_nil]; omega)) [wrap64, q1, hA, setC, (R2'.on H).len]
  refine c_in.go ?_
  rintro _ h1 ⟨rfl, rfl⟩
  by_cases q2 : 0 ≤ p ∧ p ≤ (s.procs.length : Int) - 1
  case neg =>
    simp -implicitDefEqProofs (disch := first | omega | (simp only [List.length_set, List.length_replicate, List.length_append, List.length_map, List.length_take, List.length_cons, List.length_nil]; omega)) [wrap64, q2]
    exact RetK.keep (hno (fun hh => q2 ⟨hh.2.1, by have := hh.2.2; omega⟩) H.base)
  obtain ⟨i, rfl⟩ : ∃ i : Nat, p = i := ⟨p.toNat, (Int.toNat_of_nonneg q2.1).symm⟩
  have hi : i < s.procs.length := by omega
  have dok : dOk s i := ⟨q1, by omega, by omega⟩
  have hfin := bgR_fin q1
  have hs := q1.1
  have hpl := (hs.at hi).el
  obtain ⟨w, hw, Rw⟩ := (R2'.on H).ld hi
  change hload _ (some (elp 2 v2 i)) (some 2) = some w at hw
  obtain ⟨we, rfl, k1, R3⟩ := Rep_Pr.1 Rw
  have hP := hld_parts hw
  have hdead : s.dead i (bgR s) = ddG s i (bgR s).states (bgR s).states.length (List.replicate s.procs[i].edges.length true) := by simp [Sy.dead, hi]
  obtain ⟨E, hE⟩ : ∃ E, E = List.replicate s.procs[i].edges.length true := ⟨_, rfl⟩
  simp -implicitDefEqProofs (disch := first | omega | (simp only [List.length_set, List.length_replicate, List.length_append, List.length_map, List.length_take, List.length_cons, List.length_nil]; omega)) [wrap64, q2, R2'.X (n := 2) rfl, hP.1, hP.2.2.1, R3.len]
  refine H.mks (α := Bool) (z := false) rfl rfl own_false (Nat.le_refl _) (by omega) (by omega) fun o h2 H => ?_
  obtain ⟨xs, nx, rfl, H'⟩ := H.sw1.unGr
  simp -implicitDefEqProofs (disch := first | omega | (simp only [List.length_set, List.length_replicate, List.length_append, List.length_map, List.length_take, List.length_cons, List.length_nil]; omega)) [wrap64, H.rep.len]
  refine wp_count s.procs[i].edges.length (fun m e h' => e = [none, some (.int .i64 i), some (.agg #[v1, v2]), none, none, some (.agg #[xs, nx]), none, some o, none, none, none, some (.int .i64 s.procs[i].edges.length), some (.int .i64 m), none, none, none, none, none, none] ∧ ∃ y, HS h [ow o y, ow xs (bgR s).states] h' ∧ y.length = E.length ∧ y.take m = E.take m) ⟨by simp, _, (H'.sw2.bk1.sw2.drop).sw1, by simp [hE], by simp⟩ ?_
  clear H H' hw hP
  rintro J m _ h3 hJ hm ⟨rfl, y, H, hyl, hy⟩
  have hEl : E.length = s.procs[i].edges.length := by rw [hE]; simp
  simp -implicitDefEqProofs (disch := first | omega | (simp only [List.length_set, List.length_replicate, List.length_append, List.length_map, List.length_take, List.length_cons, List.length_nil]; omega)) [wrap64]
  refine IteW.mk (fun hlt => ?_) (fun hge => ?_)
  · have hm : m < s.procs[i].edges.length := by omega
    simp -implicitDefEqProofs (disch := first | omega | (simp only [List.length_set, List.length_replicate, List.length_append, List.length_map, List.length_take, List.length_cons, List.length_nil]; omega)) [wrap64, H.rep.B]
    refine H.storeF true (i := m) (by omega) rfl rfl trivial rfl fun h4 H => ?_
    simp -implicitDefEqProofs (disch := first | omega | (simp only [List.length_set, List.length_replicate, List.length_append, List.length_map, List.length_take, List.length_cons, List.length_nil]; omega)) [wrap64]
    refine hJ _ _ hm ⟨by simp, _, H, by simp [hyl], ?_⟩
    have := take_set_succ (x := E) hy (by omega) hyl
    simpa [hE] using this
  have he : y = E := eq_of_take hy (by omega) hyl
  subst he
  simp -implicitDefEqProofs (disch := first | omega | (simp only [List.length_set, List.length_replicate, List.length_append, List.length_map, List.length_take, List.length_cons, List.length_nil]; omega)) [wrap64, H.sw1.rep.len]
  generalize hg : (bgR s).states = gs at *
  have hgok : ∀ st ∈ gs, st.Ok s := hg ▸ hfin.ok
  have hg60 : gs.length ≤ 60 := hg ▸ hfin.n60
  refine wp_count gs.length (fun n e h' => e = [none, some (.int .i64 i), some (.agg #[v1, v2]), none, none, none, none, some o, none, none, none, none, none, some xs, some (.int .i64 gs.length), some (.int .i64 n), none, none, none] ∧ HS h [ow o (ddG s i gs n y), ow xs gs] h') ⟨by simp, by rw [ddG_zero]; exact H⟩ ?_
  clear H
  rintro J1 n _ h3 hJ1 hn ⟨rfl, H⟩
  simp -implicitDefEqProofs (disch := first | omega | (simp only [List.length_set, List.length_replicate, List.length_append, List.length_map, List.length_take, List.length_cons, List.length_nil]; omega)) [wrap64]
  refine IteW.mk (fun hlt1 => ?_) (fun hge1 => ?_)
  · have hn : n < gs.length := by omega
    have hgl := ddG_len (s := s) (p := i) (l := y) n (show n ≤ gs.length by omega)
    have hgs := ddG_succ (s := s) (p := i) (l := y) hn
    have hxo := hgok _ (List.getElem_mem hn)
    generalize ddG s i gs n y = D at *
    obtain ⟨x, hx⟩ : ∃ x, x = gs[n] := ⟨_, rfl⟩
    rw [← hx] at hxo hgs
    obtain ⟨u, hu, Ru⟩ := H.sw1.rep.ld hn
    change hload _ (some (elp 2 xs n)) (some 2) = some u at hu
    rw [← hx] at Ru
    have hel := enb_len' (st := x) hs
    simp -implicitDefEqProofs (disch := first | omega | (simp only [List.length_set, List.length_replicate, List.length_append, List.length_map, List.length_take, List.length_cons, List.length_nil]; omega)) [wrap64, H.sw1.rep.X (n := 2) rfl, hu, Ru.aSta, FS, setC]
    refine (c_enabled hs hxo (R0.on H) Ru).go ?_
    intro el h4 G
    have H := G.app H
    simp -implicitDefEqProofs (disch := first | omega | (simp only [List.length_set, List.length_replicate, List.length_append, List.length_map, List.length_take, List.length_cons, List.length_nil]; omega)) [wrap64, H.rep.len]
    refine wp_count (enb s x).length (fun m e h' => e = [none, some (.int .i64 i), some (.agg #[v1, v2]), none, none, none, none, some o, none, none, none, none, none, some xs, some (.int .i64 gs.length), some (.int .i64 n), some el, some (.int .i64 (enb s x).length), some (.int .i64 m)] ∧ HS h [ow el (enb s x), ow o (ddF s i x m D), ow xs gs] h') ⟨by simp, by rw [ddF_zero]; exact H⟩ ?_
    clear H G Ru hu
    rintro J2 m _ h5 hJ2 hm ⟨rfl, H⟩
    simp -implicitDefEqProofs (disch := first | omega | (simp only [List.length_set, List.length_replicate, List.length_append, List.length_map, List.length_take, List.length_cons, List.length_nil]; omega)) [wrap64]
    refine IteW.mk (fun hlt2 => ?_) (fun hge2 => ?_)
    · have hm : m < (enb s x).length := by omega
      have hfl := ddF_len (s := s) (p := i) (st := x) (l := D) m (by omega)
      have hfs := ddF_succ (p := i) (l := D) hm
      have hin := enb_in (List.getElem_mem hm)
      obtain ⟨t, ht⟩ : ∃ t, t = (enb s x)[m] := ⟨_, rfl⟩
      rw [← ht] at hfs hin
      generalize ddF s i x m D = F at *
      obtain ⟨r1, r2⟩ := dd_rng hin hi
      have hFl : F.length = s.procs[i].edges.length := by omega
      by_cases a1 : t.proc = i
      · obtain ⟨e, he⟩ : ∃ e : Nat, t.edge = e := ⟨t.edge.toNat, (Int.toNat_of_nonneg (r1 a1).1).symm⟩
        have hel := (r1 a1).2
        simp -implicitDefEqProofs (disch := first | omega | (simp only [List.length_set, List.length_replicate, List.length_append, List.length_map, List.length_take, List.length_cons, List.length_nil]; omega)) [wrap64, H.rep.xStp, ← ht, Stp.v, setC, a1, he, H.sw1.rep.B]
        refine H.sw1.storeF false (i := e) (by omega) rfl rfl trivial rfl fun h6 H => ?_
        simp -implicitDefEqProofs (disch := first | omega | (simp only [List.length_set, List.length_replicate, List.length_append, List.length_map, List.length_take, List.length_cons, List.length_nil]; omega)) [wrap64]
        by_cases a2 : t.partner = i
        · obtain ⟨e', he'⟩ : ∃ e' : Nat, t.pedge = e' := ⟨t.pedge.toNat, (Int.toNat_of_nonneg (r2 a2).1).symm⟩
          have hel' := (r2 a2).2
          simp -implicitDefEqProofs (disch := first | omega | (simp only [List.length_set, List.length_replicate, List.length_append, List.length_map, List.length_take, List.length_cons, List.length_nil]; omega)) [wrap64, a2, he', H.rep.B]
          refine HS.storeF H false (i := e') (by first | omega | (simp; omega)) rfl rfl trivial rfl fun h7 H => ?_
          simp -implicitDefEqProofs (disch := first | omega | (simp only [List.length_set, List.length_replicate, List.length_append, List.length_map, List.length_take, List.length_cons, List.length_nil]; omega)) [wrap64]
          exact hJ2 _ _ hm ⟨by simp, by rw [hfs, ddS, if_pos a2, if_pos a1, he, Int.toNat_natCast, he', Int.toNat_natCast]; exact H.sw1⟩
        · simp -implicitDefEqProofs (disch := first | omega | (simp only [List.length_set, List.length_replicate, List.length_append, List.length_map, List.length_take, List.length_cons, List.length_nil]; omega)) [wrap64, a2]
          exact hJ2 _ _ hm ⟨by simp, by rw [hfs, ddS, if_neg a2, if_pos a1, he, Int.toNat_natCast]; exact H.sw1⟩
      · simp -implicitDefEqProofs (disch := first | omega | (simp only [List.length_set, List.length_replicate, List.length_append, List.length_map, List.length_take, List.length_cons, List.length_nil]; omega)) [wrap64, H.rep.xStp, ← ht, Stp.v, setC, a1]
        by_cases a2 : t.partner = i
        · obtain ⟨e', he'⟩ : ∃ e' : Nat, t.pedge = e' := ⟨t.pedge.toNat, (Int.toNat_of_nonneg (r2 a2).1).symm⟩
          have hel' := (r2 a2).2
          simp -implicitDefEqProofs (disch := first | omega | (simp only [List.length_set, List.length_replicate, List.length_append, List.length_map, List.length_take, List.length_cons, List.length_nil]; omega)) [wrap64, a2, he', H.sw1.rep.B]
          refine HS.storeF H.sw1 false (i := e') (by first | omega | (simp; omega)) rfl rfl trivial rfl fun h7 H => ?_
          simp -implicitDefEqProofs (disch := first | omega | (simp only [List.length_set, List.length_replicate, List.length_append, List.length_map, List.length_take, List.length_cons, List.length_nil]; omega)) [wrap64]
          exact hJ2 _ _ hm ⟨by simp, by rw [hfs, ddS, if_pos a2, if_neg a1, he', Int.toNat_natCast]; exact H.sw1⟩
        · simp -implicitDefEqProofs (disch := first | omega | (simp only [List.length_set, List.length_replicate, List.length_append, List.length_map, List.length_take, List.length_cons, List.length_nil]; omega)) [wrap64, a2]
          exact hJ2 _ _ hm ⟨by simp, by rw [hfs, ddS, if_neg a2, if_neg a1]; exact H⟩
    obtain rfl : m = (enb s x).length := by omega
    simp -implicitDefEqProofs (disch := first | omega | (simp only [List.length_set, List.length_replicate, List.length_append, List.length_map, List.length_take, List.length_cons, List.length_nil]; omega)) [wrap64]
    exact hJ1 _ _ hn ⟨by simp, by rw [hgs]; exact H.drop⟩
  obtain rfl : n = gs.length := by omega
  simp -implicitDefEqProofs (disch := first | omega | (simp only [List.length_set, List.length_replicate, List.length_append, List.length_map, List.length_take, List.length_cons, List.length_nil]; omega)) [wrap64]
  exact RetK.keep (hk _ _ ⟨_, by rw [decide_eq_true dok], by rw [deadR, if_pos dok, hdead, ← hE]; exact H.only⟩)
theorem c_spec_DeadEdges {h : Heap} {v : Value} {s : Sy} {p : Int} (R : Rep h v s) (hp : I64 p) : CallE Try.prog fn_spec_DeadEdges [v, .int .i64 p] h (R2 (decide (dOk s p)) (deadR s p) h) := by
  have FS := R.aSy
  have R0 := R
  obtain ⟨v1, v2, rfl, R1, R2'⟩ := Rep_Sy.1 R
  have hL := R2'.lt
  refine CallE.gen fun k hk => EN_spec_DeadEdges rfl ?_
  have hno : ¬ dOk s p → ∀ {h'}, h.le h' → ∀ {u}, HS h [ow u ([] : List Bool)] h' → k (.tuple #[u, .bool false]) h' := fun hn h' hl u H => hk _ _ ⟨_, by rw [decide_eq_false hn], by rw [deadR, if_neg hn]; exact H⟩
  simp -implicitDefEqProofs (disch := first | omega | (simp only [List.length_set, List.length_replicate, List.length_append, List.length_map, List.length_take, List.length_cons, List.length_nil]; omega)) [wrap64, FS]
  refine (c_spec_BuildGraph R0).go ?_
  rintro _ h1 ⟨u, rfl, H⟩
  have hA := H.rep.aGr
  by_cases q1 : bgOk s
  case neg =>
    simp -implicitDefEqProofs (disch := first | omega | (simp only [List.length_set, List.length_replicate, List.length_append, List.length_map, List.length_take, List.length_cons, List.length_nil]; omega)) [wrap64, q1, hA, setC]
    refine H.bls0 Bool fun o h2 H => ?_
    simp -implicitDefEqProofs (disch := first | omega | (simp only [List.length_set, List.length_replicate, List.length_append, List.length_map, List.length_take, List.length_cons, List.length_nil]; omega)) [wrap64]
    exact RetK.keep (hno (fun hh => q1 hh.1) H.base H.only)
  by_cases q2 : p < 0
  · simp -implicitDefEqProofs (disch := first | omega | (simp only [List.length_set, List.length_replicate, List.length_append, List.length_map, List.length_take, List.length_cons, List.length_nil]; omega)) [wrap64, q1, hA, setC, q2]
    refine H.bls0 Bool fun o h2 H => ?_
    simp -implicitDefEqProofs (disch := first | omega | (simp only [List.length_set, List.length_replicate, List.length_append, List.length_map, List.length_take, List.length_cons, List.length_nil]; omega)) [wrap64]
    exact RetK.keep (hno (fun hh => by have := hh.2.1; omega) H.base H.only)
  by_cases q3 : (s.procs.length : Int) ≤ p
  · simp -implicitDefEqProofs (disch := first | omega | (simp only [List.length_set, List.length_replicate, List.length_append, List.length_map, List.length_take, List.length_cons, List.length_nil]; omega)) [wrap64, q1, hA, setC, q2, q3, (R2'.on H).len]
    refine H.bls0 Bool fun o h2 H => ?_
    simp -implicitDefEqProofs (disch := first | omega | (simp only [List.length_set, List.length_replicate, List.length_append, List.length_map, List.length_take, List.length_cons, List.length_nil]; omega)) [wrap64]
    exact RetK.keep (hno (fun hh => by have := hh.2.2; omega) H.base H.only)
  obtain ⟨i, rfl⟩ : ∃ i : Nat, p = i := ⟨p.toNat, (Int.toNat_of_nonneg (by omega)).symm⟩
  have hi : i < s.procs.length := by omega
  have dok : dOk s i := ⟨q1, by omega, by omega⟩
  have hfin := bgR_fin q1
  have hs := q1.1
  have hpl := (hs.at hi).el
  obtain ⟨w, hw0, Rw⟩ := R2'.ld hi
  change hload _ (some (elp 2 v2 i)) (some 2) = some w at hw0
  obtain ⟨we, rfl, k1, R3⟩ := Rep_Pr.1 Rw
  have hdead : s.dead i (bgR s) = ddG s i (bgR s).states (bgR s).states.length (List.replicate s.procs[i].edges.length true) := by simp [Sy.dead, hi]
  simp -implicitDefEqProofs (disch := first | omega | (simp only [List.length_set, List.length_replicate, List.length_append, List.length_map, List.length_take, List.length_cons, List.length_nil]; omega)) [wrap64, q1, hA, setC, q2, q3, (R2'.on H).len]
  refine H.bls0 Bool fun o h2 H => ?_
  obtain ⟨xs, nx, rfl, H'⟩ := H.sw1.unGr
  simp -implicitDefEqProofs (disch := first | omega | (simp only [List.length_set, List.length_replicate, List.length_append, List.length_map, List.length_take, List.length_cons, List.length_nil]; omega)) [wrap64]
  refine wp_count s.procs[i].edges.length (fun m e h' => ∃ o, e = [none, some (.int .i64 i), some (.agg #[v1, v2]), none, none, some (.agg #[xs, nx]), none, some o, some (.int .i64 m), none, none, none] ∧ HS h [ow o (List.replicate m true), ow xs (bgR s).states] h') ⟨o, by simp, (H'.sw2.bk1.sw2.drop).sw1⟩ ?_
  have l1 := H'.base
  clear H H'
  rintro J m _ h3 hJ hm ⟨o, rfl, H⟩
  have hw := hload_le H.base hw0
  have hP := hld_parts hw
  simp -implicitDefEqProofs (disch := first | omega | (simp only [List.length_set, List.length_replicate, List.length_append, List.length_map, List.length_take, List.length_cons, List.length_nil]; omega)) [wrap64, R2'.X (n := 2) rfl, hP.1, hP.2.2.1, R3.len]
  refine IteW.mk (fun hlt => ?_) (fun hge => ?_)
  · have hm : m < s.procs[i].edges.length := by omega
    simp -implicitDefEqProofs (disch := first | omega | (simp only [List.length_set, List.length_replicate, List.length_append, List.length_map, List.length_take, List.length_cons, List.length_nil]; omega)) [wrap64, setC]
    refine HS.app1 (bytes := 1) H true rfl rfl rfl trivial rfl rfl (by simp; omega) (by simp; omega) fun o' h4 H => ?_
    simp -implicitDefEqProofs (disch := first | omega | (simp only [List.length_set, List.length_replicate, List.length_append, List.length_map, List.length_take, List.length_cons, List.length_nil]; omega)) [wrap64]
    exact hJ _ _ hm ⟨o', by simp, by rw [List.replicate_succ']; exact H⟩
  obtain rfl : m = s.procs[i].edges.length := by omega
  have hyl : (List.replicate s.procs[i].edges.length true).length = s.procs[i].edges.length := by simp
  generalize hE : List.replicate s.procs[i].edges.length true = y at *
  generalize hg : (bgR s).states = gs at *
  have hgok : ∀ st ∈ gs, st.Ok s := hg ▸ hfin.ok
  have hg60 : gs.length ≤ 60 := hg ▸ hfin.n60
  simp -implicitDefEqProofs (disch := first | omega | (simp only [List.length_set, List.length_replicate, List.length_append, List.length_map, List.length_take, List.length_cons, List.length_nil]; omega)) [wrap64]
  refine wp_count gs.length (fun n e h' => e = [none, some (.int .i64 i), some (.agg #[v1, v2]), none, none, some (.agg #[xs, nx]), none, some o, none, some (.int .i64 n), none, none] ∧ HS h [ow o (ddG s i gs n y), ow xs gs] h') ⟨by simp, by rw [ddG_zero]; exact H⟩ ?_
  clear H
  rintro J1 n _ h3 hJ1 hn ⟨rfl, H⟩
  simp -implicitDefEqProofs (disch := first | omega | (simp only [List.length_set, List.length_replicate, List.length_append, List.length_map, List.length_take, List.length_cons, List.length_nil]; omega)) [wrap64, H.sw1.rep.len]
  refine IteW.mk (fun hlt1 => ?_) (fun hge1 => ?_)
  · have hn : n < gs.length := by omega
    have hgl := ddG_len (s := s) (p := i) (l := y) n (show n ≤ gs.length by omega)
    have hgs := ddG_succ (s := s) (p := i) (l := y) hn
    have hxo := hgok _ (List.getElem_mem hn)
    generalize ddG s i gs n y = D at *
    obtain ⟨x, hx⟩ : ∃ x, x = gs[n] := ⟨_, rfl⟩
    rw [← hx] at hxo hgs
    obtain ⟨u, hu, Ru⟩ := H.sw1.rep.ld hn
    change hload _ (some (elp 2 xs n)) (some 2) = some u at hu
    rw [← hx] at Ru
    have hel := enb_len' (st := x) hs
    simp -implicitDefEqProofs (disch := first | omega | (simp only [List.length_set, List.length_replicate, List.length_append, List.length_map, List.length_take, List.length_cons, List.length_nil]; omega)) [wrap64, H.sw1.rep.X (n := 2) rfl, hu, Ru.aSta, FS, setC]
    refine (c_l3Steps hs hxo (R0.on H) Ru).go ?_
    intro el h4 G
    have H := G.app H
    simp -implicitDefEqProofs (disch := first | omega | (simp only [List.length_set, List.length_replicate, List.length_append, List.length_map, List.length_take, List.length_cons, List.length_nil]; omega)) [wrap64]
    refine wp_count (enb s x).length (fun m e h' => e = [none, some (.int .i64 i), some (.agg #[v1, v2]), none, none, some (.agg #[xs, nx]), none, some o, none, some (.int .i64 n), some el, some (.int .i64 m)] ∧ HS h [ow el (enb s x), ow o (ddF s i x m D), ow xs gs] h') ⟨by simp, by rw [ddF_zero]; exact H⟩ ?_
    clear H G Ru hu
    rintro J2 m _ h5 hJ2 hm ⟨rfl, H⟩
    simp -implicitDefEqProofs (disch := first | omega | (simp only [List.length_set, List.length_replicate, List.length_append, List.length_map, List.length_take, List.length_cons, List.length_nil]; omega)) [wrap64, H.rep.len]
    refine IteW.mk (fun hlt2 => ?_) (fun hge2 => ?_)
    · have hm : m < (enb s x).length := by omega
      have hfl := ddF_len (s := s) (p := i) (st := x) (l := D) m (by omega)
      have hfs := ddF_succ (p := i) (l := D) hm
      have hin := enb_in (List.getElem_mem hm)
      obtain ⟨t, ht⟩ : ∃ t, t = (enb s x)[m] := ⟨_, rfl⟩
      rw [← ht] at hfs hin
      generalize ddF s i x m D = F at *
      obtain ⟨r1, r2⟩ := dd_rng hin hi
      have hFl : F.length = s.procs[i].edges.length := by omega
      by_cases a1 : t.proc = i
      · obtain ⟨e, he⟩ : ∃ e : Nat, t.edge = e := ⟨t.edge.toNat, (Int.toNat_of_nonneg (r1 a1).1).symm⟩
        have hel := (r1 a1).2
        simp -implicitDefEqProofs (disch := first | omega | (simp only [List.length_set, List.length_replicate, List.length_append, List.length_map, List.length_take, List.length_cons, List.length_nil]; omega)) [wrap64, H.rep.xStp, H.rep.fStp, ← ht, Stp.v, setC, a1, he, H.sw1.rep.B]
        refine H.sw1.storeF false (i := e) (by omega) rfl rfl trivial rfl fun h6 H => ?_
        simp -implicitDefEqProofs (disch := first | omega | (simp only [List.length_set, List.length_replicate, List.length_append, List.length_map, List.length_take, List.length_cons, List.length_nil]; omega)) [wrap64]
        by_cases a2 : t.partner = i
        · obtain ⟨e', he'⟩ : ∃ e' : Nat, t.pedge = e' := ⟨t.pedge.toNat, (Int.toNat_of_nonneg (r2 a2).1).symm⟩
          have hel' := (r2 a2).2
          simp -implicitDefEqProofs (disch := first | omega | (simp only [List.length_set, List.length_replicate, List.length_append, List.length_map, List.length_take, List.length_cons, List.length_nil]; omega)) [wrap64, H.sw1.rep.xStp, H.sw1.rep.fStp, ← ht, a2, he', H.rep.B]
          refine HS.storeF H false (i := e') (by first | omega | (simp; omega)) rfl rfl trivial rfl fun h7 H => ?_
          simp -implicitDefEqProofs (disch := first | omega | (simp only [List.length_set, List.length_replicate, List.length_append, List.length_map, List.length_take, List.length_cons, List.length_nil]; omega)) [wrap64]
          exact hJ2 _ _ hm ⟨by simp, by rw [hfs, ddS, if_pos a2, if_pos a1, he, Int.toNat_natCast, he', Int.toNat_natCast]; exact H.sw1⟩
        · simp -implicitDefEqProofs (disch := first | omega | (simp only [List.length_set, List.length_replicate, List.length_append, List.length_map, List.length_take, List.length_cons, List.length_nil]; omega)) [wrap64, H.sw1.rep.xStp, H.sw1.rep.fStp, ← ht, a2]
          exact hJ2 _ _ hm ⟨by simp, by rw [hfs, ddS, if_neg a2, if_pos a1, he, Int.toNat_natCast]; exact H.sw1⟩
      · simp -implicitDefEqProofs (disch := first | omega | (simp only [List.length_set, List.length_replicate, List.length_append, List.length_map, List.length_take, List.length_cons, List.length_nil]; omega)) [wrap64, H.rep.xStp, H.rep.fStp, ← ht, Stp.v, setC, a1]
        by_cases a2 : t.partner = i
        · obtain ⟨e', he'⟩ : ∃ e' : Nat, t.pedge = e' := ⟨t.pedge.toNat, (Int.toNat_of_nonneg (r2 a2).1).symm⟩
          have hel' := (r2 a2).2
          simp -implicitDefEqProofs (disch := first | omega | (simp only [List.length_set, List.length_replicate, List.length_append, List.length_map, List.length_take, List.length_cons, List.length_nil]; omega)) [wrap64, H.rep.xStp, H.rep.fStp, ← ht, a2, he', H.sw1.rep.B]
          refine HS.storeF H.sw1 false (i := e') (by first | omega | (simp; omega)) rfl rfl trivial rfl fun h7 H => ?_
          simp -implicitDefEqProofs (disch := first | omega | (simp only [List.length_set, List.length_replicate, List.length_append, List.length_map, List.length_take, List.length_cons, List.length_nil]; omega)) [wrap64]
          exact hJ2 _ _ hm ⟨by simp, by rw [hfs, ddS, if_pos a2, if_neg a1, he', Int.toNat_natCast]; exact H.sw1⟩
        · simp -implicitDefEqProofs (disch := first | omega | (simp only [List.length_set, List.length_replicate, List.length_append, List.length_map, List.length_take, List.length_cons, List.length_nil]; omega)) [wrap64, H.rep.xStp, H.rep.fStp, ← ht, a2]
          exact hJ2 _ _ hm ⟨by simp, by rw [hfs, ddS, if_neg a2, if_neg a1]; exact H⟩
    obtain rfl : m = (enb s x).length := by omega
    simp -implicitDefEqProofs (disch := first | omega | (simp only [List.length_set, List.length_replicate, List.length_append, List.length_map, List.length_take, List.length_cons, List.length_nil]; omega)) [wrap64]
    exact hJ1 _ _ hn ⟨by simp, by rw [hgs]; exact H.drop⟩
  obtain rfl : n = gs.length := by omega
  simp -implicitDefEqProofs (disch := first | omega | (simp only [List.length_set, List.length_replicate, List.length_append, List.length_map, List.length_take, List.length_cons, List.length_nil]; omega)) [wrap64]
  exact RetK.keep (hk _ _ ⟨_, by rw [decide_eq_true dok], by rw [deadR, if_pos dok, hdead]; exact H.only⟩)
end Go.Proofs.Ytonjglbachhdcaa

/-
  Invariants and conjunctions; dead edges: in plain Lean.
-/
namespace Go.Proofs.Ytonjglbachhdcaa
open Go
set_option linter.all false
set_option linter.unusedVariables false
set_option linter.unusedSimpArgs false
set_option linter.defProp false
set_option maxRecDepth 1000000

theorem set_keep {l : List Bool} {i k : Nat} (h : l.getD i false = false) : (l.set k false).getD i false = false := by
  rw [List.getD_eq_getElem?_getD, List.getElem?_set]
  split
  · split <;> rfl
  · rw [← List.getD_eq_getElem?_getD]; exact h
theorem set_hit {l : List Bool} {k : Nat} : (l.set k false).getD k false = false := by
  rw [List.getD_eq_getElem?_getD, List.getElem?_set, if_pos rfl]
  split <;> rfl
theorem dd_keep {p : Int} {l : List Bool} {t : Stp} {i : Nat} (h : l.getD i false = false) : (ddS p l t).getD i false = false := by
  unfold ddS
  split <;> split
  · exact set_keep (set_keep h)
  · exact set_keep h
  · exact set_keep h
  · exact h
theorem dd_hit {p : Int} {l : List Bool} {t : Stp} (h : t.proc = p) : (ddS p l t).getD t.edge.toNat false = false := by
  unfold ddS
  rw [if_pos h]
  split
  · exact set_keep set_hit
  · exact set_hit
theorem dd_hit2 {p : Int} {l : List Bool} {t : Stp} (h : t.partner = p) : (ddS p l t).getD t.pedge.toNat false = false := by
  unfold ddS
  rw [if_pos h]
  exact set_hit
theorem foldS {α β : Type} {f : β → α → β} {P : β → Prop} : ∀ {l : List α} {b : β}, (∀ b a, P b → P (f b a)) → P b → P (l.foldl f b)
  | [], _, _, h => h
  | a :: l, b, hk, h => foldS (l := l) hk (hk b a h)
theorem foldM {α β : Type} {f : β → α → β} {P : β → Prop} : ∀ {l : List α} {b : β} {x : α}, x ∈ l → (∀ b a, P b → P (f b a)) → (∀ b, P (f b x)) → P (l.foldl f b)
  | [], _, _, hx, _, _ => by simp at hx
  | a :: l, b, x, hx, hk, hh => by
    rcases List.mem_cons.1 hx with rfl | hx
    · exact foldS (l := l) hk (hh b)
    · exact foldM (l := l) hx hk hh
theorem dead_hit {s : Sy} {p : Int} {g : Gr} {st : Sta} {t : Stp} (hst : st ∈ g.states) (ht : t ∈ enb s st) : (t.proc = p → (s.dead p g).getD t.edge.toNat false = false) ∧ (t.partner = p → (s.dead p g).getD t.pedge.toNat false = false) := by
  unfold Sy.dead ddG
  rw [List.take_of_length_le (Nat.le_refl _)]
  constructor
  · intro h
    refine foldM (P := fun (l : List Bool) => l.getD t.edge.toNat false = false) hst (fun l x hl => ?_) (fun l => ?_)
    · unfold ddF
      exact foldS (P := fun (l : List Bool) => l.getD t.edge.toNat false = false) (fun b a hb => dd_keep hb) hl
    · unfold ddF
      rw [List.take_of_length_le (Nat.le_refl _)]
      exact foldM (P := fun (l : List Bool) => l.getD t.edge.toNat false = false) ht (fun b a hb => dd_keep hb) (fun b => dd_hit h)
  · intro h
    refine foldM (P := fun (l : List Bool) => l.getD t.pedge.toNat false = false) hst (fun l x hl => ?_) (fun l => ?_)
    · unfold ddF
      exact foldS (P := fun (l : List Bool) => l.getD t.pedge.toNat false = false) (fun b a hb => dd_keep hb) hl
    · unfold ddF
      rw [List.take_of_length_le (Nat.le_refl _)]
      exact foldM (P := fun (l : List Bool) => l.getD t.pedge.toNat false = false) ht (fun b a hb => dd_keep hb) (fun b => dd_hit2 h)
theorem dead_len {s : Sy} {g : Gr} {i : Nat} (hi : i < s.procs.length) : (s.dead i g).length = s.procs[i].edges.length := by
  unfold Sy.dead
  rw [ddG_len _ (Nat.le_refl _)]
  simp [hi]
end Go.Proofs.Ytonjglbachhdcaa

/-
  Relevance is closed: in plain Lean.
-/
namespace Go.Proofs.Ytonjglbachhdcaa
open Go
set_option linter.all false
set_option linter.unusedVariables false
set_option linter.unusedSimpArgs false
set_option linter.defProp false
set_option maxRecDepth 1000000

def LeB (M M' : List Bool) : Prop := M.length = M'.length ∧ ∀ i : Nat, M.getD i false = true → M'.getD i false = true
theorem LeB.refl {M : List Bool} : LeB M M := ⟨rfl, fun _ h => h⟩
theorem LeB.trans {a b c : List Bool} (h : LeB a b) (h' : LeB b c) : LeB a c := ⟨h.1.trans h'.1, fun i hi => h'.2 i (h.2 i hi)⟩
theorem LeB.set {M : List Bool} {k : Nat} : LeB M (M.set k true) := by
  refine ⟨by simp, fun i hi => ?_⟩
  rw [List.getD_eq_getElem?_getD, List.getElem?_set]
  split
  · rename_i e
    subst e
    by_cases hk : k < M.length
    · simp [hk]
    · rw [List.getD_eq_getElem?_getD, List.getElem?_eq_none (by omega)] at hi; simp at hi
  · rw [← List.getD_eq_getElem?_getD]; exact hi
section
variable {α : Type} {f : List Bool → α → List Bool}
end
def occB (x : Exq) (v : Nat) : Bool := (x.mkv [false, false, false]).getD v false
theorem bool3 {M : List Bool} (h : M.length = 3) : ∃ a b c, M = [a, b, c] := by
  match M, h with
  | [a, b, c], _ => exact ⟨a, b, c, rfl⟩
theorem LeB.cnt {M M' : List Bool} (h : LeB M M') (hM : M.length = 3) (hne : M ≠ M') : M.count true < M'.count true := by
  obtain ⟨a, b, c, rfl⟩ := bool3 hM
  obtain ⟨a', b', c', rfl⟩ := bool3 (by rw [← h.1]; rfl)
  have h0 := h.2 0
  have h1 := h.2 1
  have h2 := h.2 2
  simp at h0 h1 h2
  clear h hM
  revert a b c a' b' c'
  decide
end Go.Proofs.Ytonjglbachhdcaa

/-
  Bodies of functions in the small language, as a program printed them, and that each is what the translation gives.
-/
namespace Go.Proofs.Ytonjglbachhdcaa
open Go
set_option linter.all false
set_option linter.defProp false
set_option maxRecDepth 1000000

end Go.Proofs.Ytonjglbachhdcaa

/-
  Arguments of laws: labels that are drawn.
-/
namespace Go.Proofs.Ytonjglbachhdcaa
open Go
set_option linter.all false
set_option linter.unusedVariables false
set_option linter.unusedSimpArgs false
set_option linter.defProp false
set_option maxRecDepth 1000000

end Go.Proofs.Ytonjglbachhdcaa

/-
  Arguments of laws: systems with labels.
-/
namespace Go.Proofs.Ytonjglbachhdcaa
open Go
set_option linter.all false
set_option linter.unusedVariables false
set_option linter.unusedSimpArgs false
set_option linter.defProp false
set_option maxRecDepth 1000000

end Go.Proofs.Ytonjglbachhdcaa

/-
  Arguments of laws: systems with labels, drawn from bytes.
-/
namespace Go.Proofs.Ytonjglbachhdcaa
open Go
set_option linter.all false
set_option linter.unusedVariables false
set_option linter.unusedSimpArgs false
set_option linter.defProp false
set_option maxRecDepth 1000000

/-- two lists as a function's results -/
def RD2 (h : Heap) : Value → Heap → Prop := fun u h' => ∃ (u1 u2 : Value) (s : Sy) (L : List Exq), u = .tuple #[u1, u2] ∧ HS h [ow u1 s, ow u2 L] h' ∧ L.length ≤ 3
end Go.Proofs.Ytonjglbachhdcaa

/-
  What variables occur in expressions: by the program; equal lists of truth values.
-/
namespace Go.Proofs.Ytonjglbachhdcaa
open Go
set_option linter.all false
set_option linter.unusedVariables false
set_option linter.unusedSimpArgs false
set_option linter.defProp false
set_option maxRecDepth 1000000

theorem c_wpBools {h : Heap} {v w : Value} {a b : List Bool} (Ra : Rep h v a) (Rb : Rep h w b) : CallE Try.prog fn_laws_wpBools [v, w] h (fun u h' => h' = h ∧ u = .bool (decide (a = b))) := by
  have hL := Ra.lt
  refine CallE.gen fun k hk => EN_laws_wpBools rfl ?_
  by_cases hl : (a.length : Int) = b.length
  case neg =>
    simp -implicitDefEqProofs (disch := first | omega | (simp only [List.length_set, List.length_replicate, List.length_append, List.length_map, List.length_take, List.length_cons, List.length_nil]; omega)) [wrap64, Ra.len, Rb.len, hl]
    exact RetK.keep (hk _ _ ⟨rfl, by congr 1; rw [eq_comm, decide_eq_false_iff_not]; intro e; subst e; exact hl rfl⟩)
  simp -implicitDefEqProofs (disch := first | omega | (simp only [List.length_set, List.length_replicate, List.length_append, List.length_map, List.length_take, List.length_cons, List.length_nil]; omega)) [wrap64, Ra.len, Rb.len, hl]
  refine wp_count a.length (fun i e h' => e = [some v, some w, none, some (.int .i64 i)] ∧ h' = h ∧ a.take i = b.take i) ⟨by simp, rfl, rfl⟩ ?_
  rintro J i _ h hJ hi ⟨rfl, rfl, hq⟩
  simp -implicitDefEqProofs (disch := first | omega | (simp only [List.length_set, List.length_replicate, List.length_append, List.length_map, List.length_take, List.length_cons, List.length_nil]; omega)) [wrap64, Ra.len]
  refine IteW.mk (fun hlt => ?_) (fun hge => ?_)
  · have hlx : i < a.length := by omega
    have hly : i < b.length := by omega
    by_cases he : a[i] = b[i]
    · simp -implicitDefEqProofs (disch := first | omega | (simp only [List.length_set, List.length_replicate, List.length_append, List.length_map, List.length_take, List.length_cons, List.length_nil]; omega)) [wrap64, Ra.B, Rb.B, he]
      exact hJ _ _ hlx ⟨rfl, rfl, take_step hq hlx hly he⟩
    · simp -implicitDefEqProofs (disch := first | omega | (simp only [List.length_set, List.length_replicate, List.length_append, List.length_map, List.length_take, List.length_cons, List.length_nil]; omega)) [wrap64, Ra.B, Rb.B, he]
      exact RetK.keep (hk _ _ ⟨rfl, by congr 1; rw [eq_comm, decide_eq_false_iff_not]; intro e; subst e; exact he rfl⟩)
  · simp -implicitDefEqProofs (disch := first | omega | (simp only [List.length_set, List.length_replicate, List.length_append, List.length_map, List.length_take, List.length_cons, List.length_nil]; omega)) [wrap64]
    rw [List.take_of_length_le (by omega), List.take_of_length_le (by omega)] at hq
    exact RetK.keep (hk _ _ ⟨rfl, by simp [hq]⟩)
end Go.Proofs.Ytonjglbachhdcaa

/-
  Lists whose elements are shared with others: their cells are known, what these point to is only read.
-/
namespace Go.Proofs.Ytonjglbachhdcaa
open Go
set_option linter.all false
set_option linter.unusedVariables false
set_option linter.unusedSimpArgs false
set_option linter.defProp false
set_option maxRecDepth 1000000

section
variable {α : Type} [Ty α] {h h' : Heap} {v : Value} {l : List α} {M : List (Mix α)}
theorem Raws.le (H : Raws h l M) (hl : h.le h') : Raws h' l M := ⟨H.len, fun i hi => by
  obtain ⟨c, h1, h2⟩ := H.at' i hi
  exact ⟨c, h1, Ty.mono hl h2⟩⟩
theorem Raws.nil : Raws h ([] : List α) [] := ⟨rfl, fun i hi => absurd hi (Nat.not_lt_zero i)⟩
theorem Raws.set (H : Raws h l M) {i : Nat} {y : α} {c : List Value} (hy : Ty.rep h c y) : Raws h (l.set i y) (M.set i (.raw c)) := by
  refine ⟨by simp [H.len], fun j hj => ?_⟩
  rw [List.length_set] at hj
  by_cases e : i = j
  · subst e
    exact ⟨c, by rw [List.getElem?_set_self (by rw [H.len]; exact hj)], by simpa using hy⟩
  · obtain ⟨c', h1, h2⟩ := H.at' j hj
    exact ⟨c', by rw [List.getElem?_set_ne e]; exact h1, by rw [List.getElem_set_ne e]; exact h2⟩
theorem Raws.push (H : Raws h l M) {y : α} {c : List Value} (hy : Ty.rep h c y) : Raws h (l ++ [y]) (M ++ [.raw c]) := by
  refine ⟨by simp [H.len], fun j hj => ?_⟩
  by_cases e : j < l.length
  · obtain ⟨c', h1, h2⟩ := H.at' j e
    exact ⟨c', by rw [List.getElem?_append_left (by rw [H.len]; exact e)]; exact h1, by rw [List.getElem_append_left e]; exact h2⟩
  · obtain rfl : j = l.length := by simp at hj; omega
    exact ⟨c, by rw [← H.len, List.getElem?_append_right (Nat.le_refl _)]; simp, by simpa using hy⟩
theorem Rep.raws (R : Rep h v M) (H : Raws h l M) : Rep h v l := by
  obtain ⟨p, cap, rfl, h1, h2, h3⟩ := Rep_list.1 R
  refine Rep_list.2 ⟨p, cap, by rw [H.len], by rw [← H.len]; exact h1, h2, fun i hi => ?_⟩
  obtain ⟨b, off, vs, e1, e2, e3⟩ := h3 i (by rw [H.len]; exact hi)
  obtain ⟨c, f1, f2⟩ := H.at' i hi
  rw [List.getElem?_eq_getElem (by rw [H.len]; exact hi)] at f1
  rw [Option.some.inj f1] at e3
  obtain ⟨rfl, _⟩ := e3
  exact ⟨b, off, vs, e1, e2, f2⟩
theorem HS.rawO {g : Heap} {Γ : List HP} (H : HS g Γ h) {c : List Value} {y : α} (hy : Ty.rep h' c y) : HS g (ow (valC (Ty.agg α) c) (Mix.raw (α := α) c) :: Γ) h :=
  ⟨h, Heap.nil, by simp, by simp, ⟨c, rfl, rfl, rfl, Ty.len hy, Ty.cell hy⟩, H⟩
end
end Go.Proofs.Ytonjglbachhdcaa

/-
  Paths of graphs are executions: in plain Lean.
-/
namespace Go.Proofs.Ytonjglbachhdcaa
open Go
set_option linter.all false
set_option linter.unusedVariables false
set_option linter.unusedSimpArgs false
set_option linter.defProp false
set_option maxRecDepth 1000000

theorem adS_pre {xs : List Sta} {st : Sta} {i : Nat} (hi : i < xs.length) : (adS xs st).getD i Sta.zero = xs.getD i Sta.zero := by
  unfold adS
  split
  · rfl
  · rw [List.getD_eq_getElem?_getD, List.getElem?_append_left hi, ← List.getD_eq_getElem?_getD]
theorem atS_get {xs : List Sta} {st : Sta} : (adS xs st).getD (atS xs st).toNat Sta.zero = st := by
  unfold adS atS
  split
  · rename_i h
    obtain ⟨i, hi, e, e2⟩ := fx_mem h
    rw [e, Int.toNat_natCast]
    simp [hi, e2]
  · simp
theorem gF_edge {s : Sy} {x : Sta} {xs : List Sta} (hs : s.Ok) (hx : x.Ok s) (hxs : ∀ st ∈ xs, st.Ok s) : ∀ n, n ≤ (enb s x).length → ∀ y ∈ (gF s x n xs).2, ∃ t ∈ enb s x, (gF s x n xs).1.getD y.toNat Sta.zero = x.aft s t
  | 0, _ => fun y hy => by simp [gF_zero] at hy
  | n + 1, hn => fun y hy => by
    have gi := gF_inv hs hx hxs n (by omega)
    rw [gF_succ (by omega)] at hy ⊢
    simp only [g1, mem_adI] at hy ⊢
    rcases hy with hy | rfl
    · obtain ⟨t, h1, h2⟩ := gF_edge hs hx hxs n (by omega) y hy
      have hr := gi.rng y hy
      exact ⟨t, h1, by rw [adS_pre (by omega)]; exact h2⟩
    · exact ⟨_, List.getElem_mem (show n < (enb s x).length by omega), atS_get⟩
/-- every edge of a graph is a step, or a state without steps stays -/
def Edg (s : Sy) (g : Gr) : Prop := ∀ (i : Nat) (hi : i < g.next.length), ∀ y ∈ g.next[i], (∃ t ∈ enb s (g.states.getD i Sta.zero), g.states.getD y.toNat Sta.zero = (g.states.getD i Sta.zero).aft s t) ∨ y = i
theorem gN_edge {s : Sy} (hs : s.Ok) : ∀ n, Edg s (gN s n) ∧ (gN s n).states.getD 0 Sta.zero = ini s
  | 0 => ⟨fun i hi => by simp [gN] at hi, by simp [gN]⟩
  | n + 1 => by
    have ih := gN_edge hs n
    have inv := gN_inv hs n
    by_cases h : n < (gN s n).states.length
    case neg =>
      rw [gN_stop (by omega)]
      exact ih
    rw [gN_succ h]
    have hxo := inv.ok _ (List.getElem_mem h)
    have gi := gF_inv hs hxo inv.ok _ (Nat.le_refl (enb s (gN s n).states[n]).length)
    have ge := gF_edge hs hxo inv.ok _ (Nat.le_refl (enb s (gN s n).states[n]).length)
    have hnl : (gN s n).next.length = n := by rw [inv.nl]; omega
    have hpos := inv.pos
    have hxe : (gN s n).states.getD n Sta.zero = (gN s n).states[n] := by simp [h]
    generalize gF s (gN s n).states[n] (enb s (gN s n).states[n]).length (gN s n).states = p at gi ge
    have hpre : ∀ i, i < (gN s n).states.length → p.1.getD i Sta.zero = (gN s n).states.getD i Sta.zero := fun i hi => by
      obtain ⟨t, e⟩ := gi.pre
      rw [e, List.getD_eq_getElem?_getD, List.getElem?_append_left hi, ← List.getD_eq_getElem?_getD]
    refine ⟨fun i hi y hy => ?_, by rw [hpre 0 (by omega)]; exact ih.2⟩
    simp only [List.length_append, List.length_singleton] at hi
    by_cases hin : i < n
    · have e1 : ((gN s n).next ++ [nxS n p.2])[i]'(by simp; omega) = (gN s n).next[i]'(by omega) := List.getElem_append_left (by omega)
      simp only [e1] at hy
      have hy2 := (inv.ent _ (List.getElem_mem (show i < (gN s n).next.length by omega))).2 y hy
      rw [hpre i (by omega), hpre y.toNat (by omega)]
      exact ih.1 i (by omega) y hy
    · have hin2 : i = n := by omega
      subst hin2
      have e1 : ((gN s i).next ++ [nxS i p.2])[i]'(by simp; omega) = nxS i p.2 := by
        rw [List.getElem_append_right (by omega)]
        simp
      simp only [e1] at hy
      unfold nxS at hy
      split at hy
      · simp only [List.mem_singleton] at hy
        exact .inr hy
      · obtain ⟨t, h1, h2⟩ := ge y hy
        rw [hpre i h, hxe]
        exact .inl ⟨t, h1, h2⟩
theorem bgR_edge {s : Sy} (h : bgOk s) : Edg s (bgR s) ∧ (bgR s).states.getD 0 Sta.zero = ini s := by
  rw [bgR, if_pos h]
  exact gN_edge h.1 60

/-- where a node was found from -/
def BE (next : List (List Int)) (f : List Int) : Prop := ∀ j : Nat, 0 ≤ f.getD j 0 → j < next.length → (j : Int) ∈ next.getD (f.getD j 0).toNat [] ∧ f.getD j 0 ≠ j
theorem BE.step {next : List (List Int)} {p : List Int × List Int} (h : BE next p.1) (hb : BI next.length p) {i : Nat} (hi : i < p.2.length) {to : Int} (h0 : 0 ≤ to) (h1 : to < next.length) (hm : to ∈ next.getD (p.2.getD i 0).toNat []) : BE next (bs1 (p.2.getD i 0) p to).1 := by
  have hat := hb.at hi
  generalize p.2.getD i 0 = a at *
  unfold bs1
  split
  case isFalse => exact h
  rename_i e
  obtain ⟨k, rfl⟩ : ∃ k : Nat, to = k := ⟨to.toNat, (Int.toNat_of_nonneg h0).symm⟩
  simp only [Int.toNat_natCast] at e ⊢
  have hkN : k < p.1.length := by rw [hb.fl]; omega
  intro j hj hjn
  simp only [getD_setI hkN] at hj ⊢
  split at hj
  · rename_i e2
    subst e2
    rw [if_pos rfl]
    refine ⟨hm, fun e3 => ?_⟩
    rw [e3, Int.toNat_natCast] at hat
    exact hat.2.2 e
  · rename_i e2
    rw [if_neg e2]
    exact h j hj hjn
end Go.Proofs.Ytonjglbachhdcaa

/-
  Graphs of systems: all successors lie in them, no state twice, states in the order in which a search finds them; in plain Lean.
-/
namespace Go.Proofs.Ytonjglbachhdcaa
open Go
set_option linter.all false
set_option linter.unusedVariables false
set_option linter.unusedSimpArgs false
set_option linter.defProp false
set_option maxRecDepth 1000000

theorem fx_pre {xs t : List Sta} {st : Sta} (h : st ∈ xs) : fx (xs ++ t) st = fx xs st := by
  unfold fx
  rw [List.findIdx?_append]
  rcases hf : xs.findIdx? (fun y => decide (y = st)) with _ | i
  · rw [List.findIdx?_eq_none_iff] at hf
    have := hf st h
    simp at this
  · simp
theorem atS_fx {xs : List Sta} {st : Sta} : atS xs st = fx (adS xs st) st := by
  unfold atS adS
  split
  · rfl
  · rename_i h
    obtain ⟨i, hi, e, e2⟩ := fx_mem (xs := xs ++ [st]) (st := st) (by simp)
    rw [e]
    by_cases h3 : i < xs.length
    · rw [List.getElem_append_left h3] at e2
      exact absurd (e2 ▸ List.getElem_mem h3) h
    · simp at hi
      omega
theorem mem_adS {xs : List Sta} {st x : Sta} : x ∈ adS xs st ↔ x ∈ xs ∨ x = st := by
  unfold adS
  split
  · constructor
    · exact .inl
    · rintro (h | rfl) <;> assumption
  · simp
theorem adS_nd {xs : List Sta} {st : Sta} (h : xs.Nodup) : (adS xs st).Nodup := by
  unfold adS
  split
  · exact h
  · rename_i h2
    rw [List.nodup_append]
    refine ⟨h, by simp, fun a ha b hb => ?_⟩
    simp at hb; subst hb
    rintro rfl
    exact h2 ha
theorem adI_nd {xs : List Int} {n : Int} (h : xs.Nodup) : (adI xs n).Nodup := by
  unfold adI
  split
  · exact h
  · rename_i h2
    rw [List.nodup_append]
    refine ⟨h, by simp, fun a ha b hb => ?_⟩
    simp at hb; subst hb
    rintro rfl
    exact h2 ha
theorem adS_app {xs : List Sta} {st : Sta} : ∃ t, adS xs st = xs ++ t := by
  unfold adS
  split
  · exact ⟨[], by simp⟩
  · exact ⟨[st], rfl⟩

/-- nodes in the order in which they are found -/
inductive Asc : Nat → List Int → Nat → Prop
  | nil {m : Nat} : Asc m [] m
  | old {m k : Nat} {y : Int} {l : List Int} : 0 ≤ y → y < m → Asc m l k → Asc m (y :: l) k
  | new {m k : Nat} {l : List Int} : Asc (m + 1) l k → Asc m ((m : Int) :: l) k
theorem Asc.nil_eq {m k : Nat} (h : Asc m [] k) : m = k := by cases h; rfl
theorem Asc.le {m k : Nat} {l : List Int} (h : Asc m l k) : m ≤ k := by
  induction h with
  | nil => omega
  | old _ _ _ ih => exact ih
  | new _ ih => omega
theorem Asc.add {m k : Nat} {l : List Int} (h : Asc m l k) {y : Int} (h0 : 0 ≤ y) (h1 : y < k) : Asc m (l ++ [y]) k := by
  induction h with
  | nil => exact .old h0 h1 .nil
  | old a b _ ih => exact .old a b (ih h1)
  | new _ ih => exact .new (ih h1)
theorem Asc.grow {m k : Nat} {l : List Int} (h : Asc m l k) : Asc m (l ++ [(k : Int)]) (k + 1) := by
  induction h with
  | nil => exact .new .nil
  | old a b _ ih => exact .old a b ih
  | new _ ih => exact .new ih

/-- the states after the steps -/
def sucs (s : Sy) (x : Sta) : List Sta := (enb s x).map (x.aft s)
theorem gF_sucs {s : Sy} {x : Sta} {xs : List Sta} : gF s x (enb s x).length xs = (sucs s x).foldl g1 (xs, []) := by
  rw [gF, List.take_length, sucs, List.foldl_map]
structure G1 (m : Nat) (p : List Sta × List Int) (L : List Sta) (q : List Sta × List Int) : Prop where
  nd : q.1.Nodup
  nd2 : q.2.Nodup
  rng : ∀ x ∈ q.2, 0 ≤ x ∧ x < q.1.length
  pre : ∃ t, q.1 = p.1 ++ t
  kp : ∀ x ∈ p.2, x ∈ q.2
  all : ∀ st ∈ L, st ∈ q.1 ∧ fx q.1 st ∈ q.2
  frm : ∀ st ∈ q.1, st ∈ p.1 ∨ st ∈ L
  asc : Asc m q.2 q.1.length
theorem g1_all {m : Nat} : ∀ (L : List Sta) (p : List Sta × List Int), p.1.Nodup → p.2.Nodup → (∀ x ∈ p.2, 0 ≤ x ∧ x < p.1.length) → Asc m p.2 p.1.length → G1 m p L (L.foldl g1 p)
  | [], p, h1, h2, h3, h4 => ⟨h1, h2, h3, ⟨[], by simp⟩, fun _ h => h, fun _ h => absurd h (by simp), fun _ h => .inl h, h4⟩
  | st :: L, p, h1, h2, h3, h4 => by
    have hr := atS_rng (xs := p.1) (st := st)
    have hg := adS_ge (xs := p.1) (st := st)
    have ih := g1_all (m := m) L (g1 p st) (adS_nd h1) (adI_nd h2) (fun x hx => by
      simp only [g1, mem_adI] at hx
      simp only [g1]
      rcases hx with hx | rfl
      · have := h3 x hx; omega
      · exact hr) (by
      simp only [g1]
      by_cases hm : st ∈ p.1
      · have e1 : adS p.1 st = p.1 := if_pos hm
        rw [e1] at hr ⊢
        unfold adI
        split
        · exact h4
        · exact h4.add hr.1 hr.2
      · have e1 : adS p.1 st = p.1 ++ [st] := if_neg hm
        have e2 : atS p.1 st = p.1.length := if_neg hm
        rw [e1, e2, List.length_append, List.length_singleton, adI, if_neg fun hh => ?_]
        · exact h4.grow
        · have := (h3 _ hh).2
          omega)
    have hpre := ih.pre
    rw [List.foldl_cons]
    refine ⟨ih.nd, ih.nd2, ih.rng, ?_, fun x hx => ih.kp x (by simp only [g1, mem_adI]; exact .inl hx), fun y hy => ?_, fun y hy => ?_, ih.asc⟩
    · obtain ⟨t, e⟩ := hpre
      obtain ⟨t', e'⟩ := adS_app (xs := p.1) (st := st)
      exact ⟨t' ++ t, by rw [e]; simp only [g1]; rw [e', List.append_assoc]⟩
    · rcases List.mem_cons.1 hy with rfl | hy
      · obtain ⟨t, e⟩ := hpre
        have hm : y ∈ adS p.1 y := mem_adS.2 (.inr rfl)
        have e3 : fx (L.foldl g1 (g1 p y)).1 y = atS p.1 y := by
          rw [e, atS_fx]
          exact fx_pre hm
        refine ⟨by rw [e]; exact List.mem_append_left _ hm, ?_⟩
        rw [e3]
        exact ih.kp _ (by simp [g1, mem_adI])
      · exact ih.all y hy
    · rcases ih.frm y hy with hy | hy
      · simp only [g1, mem_adS] at hy
        rcases hy with hy | rfl
        · exact .inl hy
        · exact .inr (by simp)
      · exact .inr (by simp [hy])

/-- what holds of a graph while it is built -/
structure GC (s : Sy) (n : Nat) (g : Gr) : Prop where
  nd : g.states.Nodup
  nd2 : ∀ l ∈ g.next, l.Nodup
  full : ∀ (i : Nat) (hi : i < g.next.length), ∀ st ∈ sucs s (g.states.getD i Sta.zero), st ∈ g.states ∧ fx g.states st ∈ g.next[i]
  asc : ∀ (i : Nat) (hi : i < g.next.length), Asc (gN s i).states.length g.next[i] (gN s (i + 1)).states.length
theorem gN_GC {s : Sy} (hs : s.Ok) : ∀ n, GC s n (gN s n)
  | 0 => ⟨by simp [gN], fun l hl => by simp [gN] at hl, fun i hi => by simp [gN] at hi, fun i hi => by simp [gN] at hi⟩
  | n + 1 => by
    have ih := gN_GC hs n
    have inv := gN_inv hs n
    by_cases h : n < (gN s n).states.length
    case neg =>
      have e := gN_stop (s := s) (n := n) (by omega)
      rw [e]
      exact ⟨ih.nd, ih.nd2, ih.full, ih.asc⟩
    have hsu := gN_succ h
    rw [gF_sucs] at hsu
    have hnl : (gN s n).next.length = n := by rw [inv.nl]; omega
    have hxe : (gN s n).states.getD n Sta.zero = (gN s n).states[n] := by simp [h]
    have G := g1_all (m := (gN s n).states.length) (sucs s (gN s n).states[n]) ((gN s n).states, []) ih.nd (by simp) (fun x hx => by simp at hx) .nil
    have hl1 : (gN s (n + 1)).states.length = ((sucs s (gN s n).states[n]).foldl g1 ((gN s n).states, [])).1.length := by rw [hsu]
    rw [hsu]
    generalize (sucs s (gN s n).states[n]).foldl g1 ((gN s n).states, []) = q at G hl1
    obtain ⟨t, ht⟩ := G.pre
    simp only at ht
    have hge : (gN s n).states.length ≤ q.1.length := by rw [ht]; simp
    have hpre : ∀ i, i < (gN s n).states.length → q.1.getD i Sta.zero = (gN s n).states.getD i Sta.zero := fun i hi => by
      rw [ht, List.getD_eq_getElem?_getD, List.getElem?_append_left hi, ← List.getD_eq_getElem?_getD]
    refine ⟨G.nd, fun l hl => ?_, fun i hi st hst => ?_, fun i hi => ?_⟩
    · simp only [List.mem_append, List.mem_singleton] at hl
      rcases hl with hl | rfl
      · exact ih.nd2 l hl
      · unfold nxS
        split
        · simp
        · exact G.nd2
    · simp only [List.length_append, List.length_singleton] at hi
      simp only at hst ⊢
      by_cases hin : i < n
      · have e1 : ((gN s n).next ++ [nxS n q.2])[i]'(by simp; omega) = (gN s n).next[i]'(by omega) := List.getElem_append_left (by omega)
        rw [hpre i (by omega)] at hst
        obtain ⟨f1, f2⟩ := ih.full i (by omega) st hst
        rw [e1, ht, fx_pre f1]
        exact ⟨List.mem_append_left _ f1, f2⟩
      · have hin2 : i = n := by omega
        subst hin2
        have e1 : ((gN s i).next ++ [nxS i q.2])[i]'(by simp; omega) = nxS i q.2 := by
          rw [List.getElem_append_right (by omega)]
          simp
        rw [hpre i h, hxe] at hst
        obtain ⟨f1, f2⟩ := G.all st hst
        rw [e1]
        refine ⟨f1, ?_⟩
        unfold nxS
        split
        · rename_i e; rw [e] at f2; simp at f2
        · exact f2
    · simp only [List.length_append, List.length_singleton] at hi
      by_cases hin : i < n
      · have e1 : ((gN s n).next ++ [nxS n q.2])[i]'(by simp; omega) = (gN s n).next[i]'(by omega) := List.getElem_append_left (by omega)
        simp only [e1]
        exact ih.asc i (by omega)
      · have hin2 : i = n := by omega
        subst hin2
        have e1 : ((gN s i).next ++ [nxS i q.2])[i]'(by simp; omega) = nxS i q.2 := by
          rw [List.getElem_append_right (by omega)]
          simp
        simp only [e1]
        rw [hl1]
        have ga := G.asc
        unfold nxS
        split
        · rename_i e
          rw [e] at ga
          have : (gN s i).states.length = q.1.length := ga.nil_eq
          rw [← this]
          exact .old (by omega) (by omega) .nil
        · exact ga
/-- all that holds of the first state and goes on with the steps holds of all states -/
theorem gN_ind {s : Sy} (hs : s.Ok) {P : Sta → Prop} (h0 : P (ini s)) (h1 : ∀ x, x.Ok s → P x → ∀ y ∈ sucs s x, P y) : ∀ n, ∀ st ∈ (gN s n).states, P st
  | 0 => fun st h => by simp [gN] at h; subst h; exact h0
  | n + 1 => by
    have ih := gN_ind hs h0 h1 n
    have inv := gN_inv hs n
    have gc := gN_GC hs n
    by_cases h : n < (gN s n).states.length
    case neg => rw [gN_stop (by omega)]; exact ih
    rw [gN_succ h, gF_sucs]
    have G := g1_all (m := (gN s n).states.length) (sucs s (gN s n).states[n]) ((gN s n).states, []) gc.nd (by simp) (fun x hx => by simp at hx) .nil
    intro st hst
    rcases G.frm st hst with hm | hm
    · exact ih st hm
    · exact h1 _ (inv.ok _ (List.getElem_mem h)) (ih _ (List.getElem_mem h)) st hm
theorem bgR_GC {s : Sy} (h : bgOk s) : GC s 60 (bgR s) := by
  rw [bgR, if_pos h]
  exact gN_GC h.1 60
theorem bgR_suc {s : Sy} (h : bgOk s) {x : Sta} (hx : x ∈ (bgR s).states) {y : Sta} (hy : y ∈ sucs s x) : y ∈ (bgR s).states := by
  have hfin := bgR_fin h
  obtain ⟨i, hi, rfl⟩ := List.mem_iff_getElem.1 hx
  exact ((bgR_GC h).full i (by rw [hfin.nl]; exact hi) y (by simpa [hi] using hy)).1
end Go.Proofs.Ytonjglbachhdcaa

/-
  Paths of graphs are executions.
-/
namespace Go.Proofs.Ytonjglbachhdcaa
open Go
set_option linter.all false
set_option linter.unusedVariables false
set_option linter.unusedSimpArgs false
set_option linter.defProp false
set_option maxRecDepth 1000000

structure Exec (s : Sy) (P : List Sta) : Prop where
  ne : 0 < P.length
  st0 : P.getD 0 Sta.zero = ini s
  step : ∀ i : Nat, i + 1 < P.length → ∃ t ∈ enb s (P.getD i Sta.zero), P.getD (i + 1) Sta.zero = (P.getD i Sta.zero).aft s t
end Go.Proofs.Ytonjglbachhdcaa

/-
  Searches find the states in the order of their numbers: paths to the first bad state; in plain Lean.
-/
namespace Go.Proofs.Ytonjglbachhdcaa
open Go
set_option linter.all false
set_option linter.unusedVariables false
set_option linter.unusedSimpArgs false
set_option linter.defProp false
set_option maxRecDepth 1000000

/-- so many nodes are found, in order -/
structure BQ (N m : Nat) (p : List Int × List Int) : Prop where
  fl : p.1.length = N
  q : p.2 = (List.range m).map fun (i : Nat) => (i : Int)
  vis : ∀ j : Nat, j < N → (p.1.getD j 0 = -2 ↔ m ≤ j)
  lt : ∀ j : Nat, j < N → p.1.getD j 0 < j
theorem BQ.old {N m : Nat} {p : List Int × List Int} (h : BQ N m p) {a to : Int} (h0 : 0 ≤ to) (h1 : to < m) (hm : m ≤ N) : bs1 a p to = p := by
  unfold bs1
  rw [if_neg]
  intro e
  have := (h.vis to.toNat (by omega)).1 e
  omega
theorem BQ.new {N m : Nat} {p : List Int × List Int} (h : BQ N m p) {a : Int} (h0 : 0 ≤ a) (h1 : a < m) (hm : m < N) : BQ N (m + 1) (bs1 a p m) := by
  have hmp : m < p.1.length := by rw [h.fl]; exact hm
  unfold bs1
  rw [if_pos (by rw [Int.toNat_natCast]; exact (h.vis m hm).2 (Nat.le_refl _)), Int.toNat_natCast]
  refine ⟨by simp [h.fl], by simp [h.q, List.range_succ], fun j hj => ?_, fun j hj => ?_⟩
  · simp only [getD_setI hmp]
    split
    · rename_i e; subst e
      constructor
      · intro e; omega
      · intro e; omega
    · rw [h.vis j hj]; omega
  · simp only [getD_setI hmp]
    split
    · rename_i e; subst e; exact h1
    · exact h.lt j hj
end Go.Proofs.Ytonjglbachhdcaa

/-
  Values depend on the variables that occur; independent edges commute: in plain Lean.
-/
namespace Go.Proofs.Ytonjglbachhdcaa
open Go
set_option linter.all false
set_option linter.unusedVariables false
set_option linter.unusedSimpArgs false
set_option linter.defProp false
set_option maxRecDepth 1000000

/-- two edges are independent -/
def Ind (a b : Ed) : Prop := ¬ (0 ≤ a.var ∧ (a.var = b.var ∨ occB b.guard a.var.toNat = true ∨ (0 ≤ b.var ∧ occB b.value a.var.toNat = true))) ∧ (b.var < 0 ∨ (occB a.guard b.var.toNat = false ∧ (a.var < 0 ∨ occB a.value b.var.toNat = false)))
theorem Ed.Ok.val {e : Ed} {n : Int} (h : e.Ok n) (h0 : 0 ≤ e.var) : e.value.Ok := h.vl.elim (fun hh => hh.2) (fun hh => absurd hh.1 (by omega))
theorem enb_solo {s : Sy} {st : Sta} {i k : Nat} (hi : i < s.procs.length) (hk : k < s.procs[i].edges.length) (hsy : s.procs[i].edges[k].sync = 0) (hr : s.procs[i].edges[k].rdy st i = true) : (⟨i, k, -1, -1⟩ : Stp) ∈ enb s st := by
  unfold enb
  refine mem_fmz.2 ⟨i, hi, ?_⟩
  unfold enb1
  refine mem_fmz.2 ⟨k, hk, ?_⟩
  unfold enb2
  rw [if_neg (by rw [hsy, hr]; simp), if_pos hsy]
  simp
theorem aft_solo {s : Sy} {st : Sta} {i k : Nat} (hi : i < s.procs.length) (hk : k < s.procs[i].edges.length) : st.aft s ⟨i, k, -1, -1⟩ = st.tk i s.procs[i].edges[k] := by
  unfold Sta.aft
  rw [if_neg (show ¬ (0 : Int) ≤ -1 by decide)]
  simp only [Int.toNat_natCast, Sy.ed_eq hi hk]
end Go.Proofs.Ytonjglbachhdcaa

/-
  Bodies of functions in the small language, as a program printed them, and that each is what the translation gives.
-/
namespace Go.Proofs.Ytonjglbachhdcaa
open Go
set_option linter.all false
set_option linter.defProp false
set_option maxRecDepth 1000000

end Go.Proofs.Ytonjglbachhdcaa

/-
  Instances of functions over slices: copies, and whether some element meets a condition. Printed by a program.
-/
namespace Go.Proofs.Ytonjglbachhdcaa
open Go
set_option linter.all false
set_option linter.unusedVariables false
set_option linter.unusedSimpArgs false
set_option linter.defProp false
set_option maxRecDepth 1000000

end Go.Proofs.Ytonjglbachhdcaa

/-
  Copies of expressions and systems, by the program and by the reference.
-/
namespace Go.Proofs.Ytonjglbachhdcaa
open Go
set_option linter.all false
set_option linter.unusedVariables false
set_option linter.unusedSimpArgs false
set_option linter.defProp false
set_option maxRecDepth 1000000

theorem Exq.nods_sz : ∀ x : Exq, x.nod = 1 + Sz.sz x := by
  have key : ∀ l : List Exq, (∀ y ∈ l, y.nod = 1 + Sz.sz y) → Exq.nods l = Sz.sz l := by
    intro l
    induction l with
    | nil => intro _; rfl
    | cons y l ih =>
      intro h
      rw [Exq.nods, ih fun z hz => h z (by simp [hz]), h y (by simp), sz_cons]
  refine Exq.ind fun x ih => ?_
  rw [Exq.nod_eq, key _ ih, ← sz_Exq]
theorem Exq.Ok.sz {x : Exq} (h : x.Ok) : Sz.sz x ≤ 14 := by have := h.2; have := x.nods_sz; omega
end Go.Proofs.Ytonjglbachhdcaa

/-
  Whether the marks in expressions, edges, processes, systems are still held.
-/
namespace Go.Proofs.Ytonjglbachhdcaa
open Go
set_option linter.all false
set_option linter.unusedVariables false
set_option linter.unusedSimpArgs false
set_option linter.defProp false
set_option maxRecDepth 1000000

end Go.Proofs.Ytonjglbachhdcaa

/-
  Systems are copied, and sliced: by the program and by the reference.
-/
namespace Go.Proofs.Ytonjglbachhdcaa
open Go
set_option linter.all false
set_option linter.unusedVariables false
set_option linter.unusedSimpArgs false
set_option linter.defProp false
set_option maxRecDepth 1000000

/-- how far the elements have been replaced -/
structure Prog {α : Type} (f : α → α) (l y : List α) (i : Nat) : Prop where
  len : y.length = l.length
  done : y.take i = (l.map f).take i
  rest : ∀ (j : Nat) (hj : j < l.length) (hj' : j < y.length), i ≤ j → y[j] = l[j]
section
variable {α : Type} {f : α → α} {l y : List α} {i : Nat}
theorem Prog.zero : Prog f l l 0 := ⟨rfl, rfl, fun _ _ _ _ => rfl⟩
theorem Prog.get (H : Prog f l y i) (hi : i < l.length) : y[i]'(by rw [H.len]; exact hi) = l[i] := H.rest i hi _ (Nat.le_refl i)
theorem Prog.step (H : Prog f l y i) (hi : i < l.length) : Prog f l (y.set i (f l[i])) (i + 1) := by
  refine ⟨by simp [H.len], ?_, fun j hj hj' hij => ?_⟩
  · have := take_set_succ (x := l.map f) H.done (by simpa using hi) (by simp [H.len])
    rwa [List.getElem_map] at this
  · simp only [List.getElem_set]
    rw [if_neg (by omega)]
    exact H.rest j hj (by simpa using hj') (by omega)
theorem Prog.skip (H : Prog f l y i) (hi : i < l.length) (hf : f l[i] = l[i]) : Prog f l y (i + 1) := by
  have := H.step hi
  rw [hf, ← H.get hi, List.set_getElem_self] at this
  exact this
theorem Prog.all (H : Prog f l y i) (hi : l.length ≤ i) : y = l.map f := eq_of_take H.done (by simpa using hi) (by simp [H.len])
end

/- SLICES -/
def Ed.slc (M : List Bool) (e : Ed) : Ed := if 0 ≤ e.var ∧ M.getD e.var.toNat false = false then ⟨e.frm, e.to, e.guard, -1, Exq.zero, e.sync⟩ else e
def Pr.slc (M : List Bool) (p : Pr) : Pr := ⟨p.locs, p.edges.map (Ed.slc M)⟩
def Sy.slc (s : Sy) (L : List Exq) : Sy := ⟨s.init, s.procs.map (Pr.slc (s.rel L))⟩
noncomputable def slcR (s : Sy) (L : List Exq) : Sy := if s.Ok ∧ LOk L then s.slc L else ⟨[], []⟩
end Go.Proofs.Ytonjglbachhdcaa

/-
  Slicing twice is slicing once: in plain Lean.
-/
namespace Go.Proofs.Ytonjglbachhdcaa
open Go
set_option linter.all false
set_option linter.unusedVariables false
set_option linter.unusedSimpArgs false
set_option linter.defProp false
set_option maxRecDepth 1000000

section
variable {α : Type} {f g : List Bool → α → List Bool}
end
end Go.Proofs.Ytonjglbachhdcaa

/-
  Projections: labels, steps and their states are kept; in plain Lean.
-/
namespace Go.Proofs.Ytonjglbachhdcaa
open Go
set_option linter.all false
set_option linter.unusedVariables false
set_option linter.unusedSimpArgs false
set_option linter.defProp false
set_option maxRecDepth 1000000

theorem fm_congr {α β : Type} {f g : α → List β} : ∀ {l : List α}, (∀ x ∈ l, f x = g x) → l.flatMap f = l.flatMap g
  | [], _ => rfl
  | x :: l, h => by
    rw [List.flatMap_cons, List.flatMap_cons, h x (by simp), fm_congr fun y hy => h y (by simp [hy])]
theorem fmz_congr {α β γ : Type} {f : α × Nat → List γ} {g : β × Nat → List γ} : ∀ {l : List α} {m : List β} {k : Nat}, l.length = m.length → (∀ (i : Nat) (h1 : i < l.length) (h2 : i < m.length), f (l[i], k + i) = g (m[i], k + i)) → (l.zipIdx k).flatMap f = (m.zipIdx k).flatMap g
  | [], [], _, _, _ => rfl
  | x :: l, y :: m, k, hl, h => by
    rw [List.zipIdx_cons, List.zipIdx_cons, List.flatMap_cons, List.flatMap_cons, fmz_congr (l := l) (m := m) (by simpa using hl) fun i h1 h2 => ?_]
    · have := h 0 (by simp) (by simp)
      simp only [List.getElem_cons_zero, Nat.add_zero] at this
      rw [this]
    · have := h (i + 1) (by simpa using h1) (by simpa using h2)
      simp only [List.getElem_cons_succ] at this
      rw [show k + 1 + i = k + (i + 1) by omega]
      exact this
theorem fmz_congr0 {α β γ : Type} {f : α × Nat → List γ} {g : β × Nat → List γ} {l : List α} {m : List β} (hl : l.length = m.length) (h : ∀ (i : Nat) (h1 : i < l.length) (h2 : i < m.length), f (l[i], i) = g (m[i], i)) : l.zipIdx.flatMap f = m.zipIdx.flatMap g :=
  fmz_congr hl fun i h1 h2 => by rw [Nat.zero_add]; exact h i h1 h2

/-- the projection of a state -/
def pj (s : Sy) (L : List Exq) (st : Sta) : Sta := ⟨st.locs, prV s L st⟩
end Go.Proofs.Ytonjglbachhdcaa

/-
  Graphs of slices are projections of graphs: in plain Lean.
-/
namespace Go.Proofs.Ytonjglbachhdcaa
open Go
set_option linter.all false
set_option linter.unusedVariables false
set_option linter.unusedSimpArgs false
set_option linter.defProp false
set_option maxRecDepth 1000000

theorem ini_mem {s : Sy} (h : bgOk s) : ini s ∈ (bgR s).states := by
  have h1 := (bgR_edge h).2
  have h2 := (bgR_fin h).pos
  have e : (bgR s).states.getD 0 Sta.zero = (bgR s).states[0]'h2 := by simp [show 0 < (bgR s).states.length from h2]
  rw [e] at h1
  rw [← h1]
  exact List.getElem_mem h2
end Go.Proofs.Ytonjglbachhdcaa

/-
  Without its dead edges a system has the same graph: in plain Lean.
-/
namespace Go.Proofs.Ytonjglbachhdcaa
open Go
set_option linter.all false
set_option linter.unusedVariables false
set_option linter.unusedSimpArgs false
set_option linter.defProp false
set_option maxRecDepth 1000000

/-- the states after a process's edge -/
def suc2 (s : Sy) (st : Sta) (i : Nat) (e : Ed) : List Sta := if e.sync < 0 ∨ e.rdy st i = false then [] else if e.sync = 0 then [st.tk i e] else
  s.procs.zipIdx.flatMap fun q => q.1.edges.flatMap fun f => if q.2 ≠ i ∧ f.sync = -e.sync ∧ f.rdy st q.2 = true then [(st.tk i e).tk q.2 f] else []
def sucE (s : Sy) (st : Sta) : List Sta := s.procs.zipIdx.flatMap fun p => p.1.edges.flatMap (suc2 s st p.2)
theorem fm_zip {α β : Type} {f : α → List β} {l : List α} : l.flatMap f = l.zipIdx.flatMap fun x => f x.1 := by
  have h : l = l.zipIdx.map Prod.fst := by simp
  conv => lhs; rw [h]
  rw [List.flatMap_map]
theorem map_fm {α β γ : Type} {f : α → List β} {g : β → γ} : ∀ {l : List α}, (l.flatMap f).map g = l.flatMap fun x => (f x).map g
  | [] => rfl
  | x :: l => by rw [List.flatMap_cons, List.flatMap_cons, List.map_append, map_fm]
theorem aft_duo {s : Sy} {st : Sta} {i k j m : Nat} (hi : i < s.procs.length) (hk : k < s.procs[i].edges.length) (hj : j < s.procs.length) (hm : m < s.procs[j].edges.length) : st.aft s ⟨i, k, j, m⟩ = (st.tk i s.procs[i].edges[k]).tk j s.procs[j].edges[m] := by
  unfold Sta.aft
  simp only [Int.toNat_natCast, Sy.ed_eq hi hk, Sy.ed_eq hj hm]
  rw [if_pos (by omega)]
theorem sucs_E {s : Sy} {st : Sta} : sucs s st = sucE s st := by
  unfold sucs enb sucE
  rw [map_fm]
  refine fmz_congr0 rfl fun i hi _ => ?_
  simp only [enb1]
  rw [map_fm, fm_zip (f := suc2 s st i)]
  refine fmz_congr0 rfl fun k hk _ => ?_
  simp only [enb2, suc2]
  split
  · rfl
  split
  · simp only [List.map_cons, List.map_nil, aft_solo hi hk]
  · unfold prt
    rw [map_fm]
    refine fmz_congr0 rfl fun j hj _ => ?_
    simp only [prt1]
    rw [map_fm, fm_zip (l := s.procs[j].edges)]
    refine fmz_congr0 rfl fun m hm _ => ?_
    simp only [prt2]
    split
    · simp only [List.map_cons, List.map_nil, aft_duo hi hk hj hm]
    · rfl

/-- what is kept of a list -/
def kpt {α : Type} (l : List α) (D : List Bool) : List α := (l.zipIdx.filter fun x => !D.getD x.2 false).map Prod.fst
theorem fm_kpt {α β : Type} {f : α → List β} {l : List α} {D : List Bool} (h : ∀ (k : Nat) (hk : k < l.length), D.getD k false = true → f l[k] = []) : (kpt l D).flatMap f = l.flatMap f := by
  unfold kpt
  rw [List.flatMap_map, fm_zip (l := l)]
  have key : ∀ (L : List (α × Nat)), (∀ x ∈ L, D.getD x.2 false = true → f x.1 = []) → ((L.filter fun x => !D.getD x.2 false).flatMap fun x => f x.1) = L.flatMap fun x => f x.1 := by
    intro L
    induction L with
    | nil => intro _; rfl
    | cons x L ih =>
      intro hL
      rw [List.filter_cons, List.flatMap_cons]
      have ih2 := ih fun y hy => hL y (by simp [hy])
      split
      · rw [List.flatMap_cons, ih2]
      · rename_i hx
        have : f x.1 = [] := hL x (by simp) (by simpa using hx)
        rw [ih2, this]
        rfl
  refine key _ fun x hx hd => ?_
  rw [List.mem_zipIdx_iff_getElem?, List.getElem?_eq_some_iff] at hx
  obtain ⟨h3, h4⟩ := hx
  have := h x.2 h3 hd
  rw [h4] at this
  exact this
/-- a process without some edges -/
def wo (s : Sy) (i : Nat) (D : List Bool) : Sy := ⟨s.init, s.procs.set i ⟨(s.procs.getD i ⟨0, []⟩).locs, kpt (s.procs.getD i ⟨0, []⟩).edges D⟩⟩
theorem kpt_sub {α : Type} {l : List α} {D : List Bool} : kpt l D ⊆ l := fun x hx => by
  obtain ⟨y, hy, rfl⟩ := List.mem_map.1 hx
  have := (List.mem_filter.1 hy).1
  rw [List.mem_zipIdx_iff_getElem?, List.getElem?_eq_some_iff] at this
  obtain ⟨h3, h4⟩ := this
  rw [← h4]
  exact List.getElem_mem h3
theorem kpt_len {α : Type} {l : List α} {D : List Bool} : (kpt l D).length ≤ l.length := by
  unfold kpt
  rw [List.length_map]
  have := List.length_filter_le (fun x : α × Nat => !D.getD x.2 false) l.zipIdx
  simpa using this
theorem wo_ok {s : Sy} {i : Nat} {D : List Bool} (hs : s.Ok) (hi : i < s.procs.length) : (wo s i D).Ok := by
  have hp := hs.at hi
  have e : s.procs.getD i ⟨0, []⟩ = s.procs[i] := by simp [hi]
  refine ⟨hs.vs, by have := hs.p1; simp [wo]; omega, by have := hs.p3; simp [wo]; omega, fun p hm => ?_⟩
  unfold wo at hm
  simp only at hm
  rcases List.mem_or_eq_of_mem_set hm with h1 | h1
  · exact hs.pr p h1
  · rw [h1, e]
    exact ⟨hp.n1, hp.n4, Nat.le_trans kpt_len hp.el, fun x hx => hp.ed x (kpt_sub hx)⟩
theorem wo_at {s : Sy} {i j : Nat} {D : List Bool} (hj : j < s.procs.length) : ((wo s i D).procs[j]'(by simpa [wo] using hj)).edges = if i = j then kpt s.procs[j].edges D else s.procs[j].edges := by
  simp only [wo, List.getElem_set]
  split
  · rename_i e; subst e; simp [hj]
  · rfl
theorem wo_sucs {s : Sy} {i : Nat} {st : Sta} {D : List Bool} (h : ∀ t ∈ enb s st, (t.proc = i → D.getD t.edge.toNat false = false) ∧ (t.partner = i → D.getD t.pedge.toNat false = false)) : sucs (wo s i D) st = sucs s st := by
  rw [sucs_E, sucs_E]
  unfold sucE
  refine fmz_congr0 (by simp [wo]) fun j h1 hj => ?_
  simp only
  have hmain : ∀ (k : Nat) (hk : k < s.procs[j].edges.length), suc2 (wo s i D) st j s.procs[j].edges[k] = suc2 s st j s.procs[j].edges[k] := fun k hk => by
    unfold suc2
    split
    · rfl
    rename_i c1
    split
    · rfl
    rename_i c2
    refine fmz_congr0 (by simp [wo]) fun a h3 ha => ?_
    simp only
    rw [wo_at ha]
    split
    case isFalse => rfl
    rename_i e
    subst e
    refine fm_kpt fun m hm hd => ?_
    rw [if_neg]
    intro c3
    have hin : (⟨j, k, i, m⟩ : Stp) ∈ enb s st := by
      unfold enb
      refine mem_fmz.2 ⟨j, hj, ?_⟩
      unfold enb1
      refine mem_fmz.2 ⟨k, hk, ?_⟩
      unfold enb2
      rw [if_neg c1, if_neg c2]
      unfold prt
      refine mem_fmz.2 ⟨i, ha, ?_⟩
      unfold prt1
      refine mem_fmz.2 ⟨m, hm, ?_⟩
      unfold prt2
      rw [if_pos c3]
      simp
    have := (h _ hin).2 rfl
    simp only [Int.toNat_natCast] at this
    rw [this] at hd
    exact absurd hd (by decide)
  rw [wo_at hj]
  have hall : s.procs[j].edges.flatMap (suc2 (wo s i D) st j) = s.procs[j].edges.flatMap (suc2 s st j) := fm_congr fun x hx => by
    obtain ⟨k, hk, rfl⟩ := List.mem_iff_getElem.1 hx
    exact hmain k hk
  split
  case isFalse => exact hall
  rename_i e
  subst e
  rw [← hall]
  refine fm_kpt fun k hk hd => ?_
  rw [hmain k hk]
  have hno : ∀ (a b : Int), (⟨i, k, a, b⟩ : Stp) ∉ enb s st := fun a b hin => by
    have := (h _ hin).1 rfl
    simp only [Int.toNat_natCast] at this
    rw [this] at hd
    exact absurd hd (by decide)
  unfold suc2
  split
  · rfl
  rename_i c1
  split
  · rename_i c2
    exfalso
    refine hno (-1) (-1) (enb_solo hj hk c2 ?_)
    simp only [not_or] at c1
    simpa using c1.2
  · rename_i c2
    rw [List.flatMap_eq_nil_iff]
    rintro ⟨q, a⟩ hq
    rw [List.mem_zipIdx_iff_getElem?, List.getElem?_eq_some_iff] at hq
    obtain ⟨ha, hq⟩ := hq
    simp only at ha hq
    subst hq
    simp only
    rw [List.flatMap_eq_nil_iff]
    intro f hf
    obtain ⟨m, hm, rfl⟩ := List.mem_iff_getElem.1 hf
    rw [if_neg]
    intro c3
    refine hno a m ?_
    unfold enb
    refine mem_fmz.2 ⟨i, hj, ?_⟩
    unfold enb1
    refine mem_fmz.2 ⟨k, hk, ?_⟩
    unfold enb2
    rw [if_neg c1, if_neg c2]
    unfold prt
    refine mem_fmz.2 ⟨a, ha, ?_⟩
    unfold prt1
    refine mem_fmz.2 ⟨m, hm, ?_⟩
    unfold prt2
    rw [if_pos c3]
    simp
/-- the graph without the dead edges -/
theorem wo_graph {s : Sy} {i : Nat} (h : bgOk s) (hi : i < s.procs.length) : bgOk (wo s i (s.dead i (bgR s))) ∧ bgR (wo s i (s.dead i (bgR s))) = bgR s := by
  obtain ⟨D, hD⟩ : ∃ D, D = s.dead i (bgR s) := ⟨_, rfl⟩
  rw [← hD]
  have hmem : ∀ n, ∀ x ∈ (gN s n).states, x ∈ (bgR s).states := fun n => gN_ind h.1 (P := fun x => x ∈ (bgR s).states) (ini_mem h) (fun x _ hx y hy => bgR_suc h hx hy) n
  have hini : ini (wo s i D) = ini s := by simp [ini, wo]
  have key : ∀ n, gN (wo s i D) n = gN s n := by
    intro n
    induction n with
    | zero => simp only [gN, hini]
    | succ n ih =>
      rw [gN, gN, ih]
      unfold rnd
      by_cases hn : n < (gN s n).states.length
      · rw [dif_pos hn, dif_pos hn, gF_sucs, gF_sucs, wo_sucs fun t ht => by rw [hD]; exact dead_hit (hmem n _ (List.getElem_mem hn)) ht]
      · rw [dif_neg hn, dif_neg hn]
  have h2 : bgOk (wo s i D) := ⟨wo_ok h.1 hi, by rw [key]; exact h.2⟩
  refine ⟨h2, ?_⟩
  rw [bgR, bgR, if_pos h2, if_pos h, key]
end Go.Proofs.Ytonjglbachhdcaa

/-
  Edges that are kept, up to a place.
-/
namespace Go.Proofs.Ytonjglbachhdcaa
open Go
set_option linter.all false
set_option linter.unusedVariables false
set_option linter.unusedSimpArgs false
set_option linter.defProp false
set_option maxRecDepth 1000000

def kptN {α : Type} (l : List α) (D : List Bool) (k : Nat) : List α := ((l.zipIdx.take k).filter fun x => !D.getD x.2 false).map Prod.fst
theorem kptN_zero {α : Type} {l : List α} {D : List Bool} : kptN l D 0 = [] := by simp [kptN]
theorem kptN_succ {α : Type} {l : List α} {D : List Bool} {k : Nat} (hk : k < l.length) : kptN l D (k + 1) = if D.getD k false = true then kptN l D k else kptN l D k ++ [l[k]] := by
  unfold kptN
  have h1 : l.zipIdx[k]? = some (l[k], k) := by
    rw [List.getElem?_zipIdx, List.getElem?_eq_getElem hk]
    simp
  rw [List.take_add_one, h1, List.filter_append, List.map_append]
  cases hd : D.getD k false
  · rw [if_neg (by decide)]
    simp only [List.filter_cons, hd, Option.toList_some]
    simp
  · rw [if_pos rfl]
    simp only [List.filter_cons, hd, Option.toList_some]
    simp
theorem kptN_all {α : Type} {l : List α} {D : List Bool} {k : Nat} (hk : l.length ≤ k) : kptN l D k = kpt l D := by
  unfold kptN kpt
  rw [List.take_of_length_le (by simpa using hk)]
theorem kptN_len {α : Type} {l : List α} {D : List Bool} {k : Nat} : (kptN l D k).length ≤ k := by
  unfold kptN
  rw [List.length_map]
  refine Nat.le_trans (List.length_filter_le _ _) ?_
  rw [List.length_take]
  omega
end Go.Proofs.Ytonjglbachhdcaa

/-
  Equal graphs.
-/
namespace Go.Proofs.Ytonjglbachhdcaa
open Go
set_option linter.all false
set_option linter.unusedVariables false
set_option linter.unusedSimpArgs false
set_option linter.defProp false
set_option maxRecDepth 1000000

theorem c_EqualFunc_State {h : Heap} {a b fv : Value} {x y : List Sta} (Ra : Rep h a x) (Rb : Rep h b y) {f : FuncId} (hf : fnOf fv = some (f, [], []))
    (hp : ∀ z ∈ x, ∀ {h : Heap} {a b : Value} {w : Sta}, Rep h a z → Rep h b w → CallE Try.prog f [a, b] h (fun u h' => h' = h ∧ u = .bool (decide (z = w)))) :
    CallE Try.prog fn_slices_EqualFunc_S_impl_State_S_impl_State_impl_State_impl_State [a, b, fv] h (fun u h' => h' = h ∧ u = .bool (decide (x = y))) := by
  refine CallE.gen fun k hk => EN_slices_EqualFunc_S_impl_State_S_impl_State_impl_State_impl_State rfl ?_
  have hL := Ra.lt
  simp -implicitDefEqProofs (disch := first | omega | (simp only [List.length_set, List.length_replicate, List.length_append, List.length_map, List.length_take, List.length_cons, List.length_nil]; omega)) [wrap64, Ra.len, Rb.len]
  refine IteW.mkr (fun hne => ?_) (fun heq => ?_)
  · simp -implicitDefEqProofs (disch := first | omega | (simp only [List.length_set, List.length_replicate, List.length_append, List.length_map, List.length_take, List.length_cons, List.length_nil]; omega)) [wrap64]
    exact RetK.keep (hk _ _ ⟨rfl, by simp; rintro rfl; exact hne rfl⟩)
  simp -implicitDefEqProofs (disch := first | omega | (simp only [List.length_set, List.length_replicate, List.length_append, List.length_map, List.length_take, List.length_cons, List.length_nil]; omega)) [wrap64, Ra.len]
  refine wp_count x.length (fun i e h' => h' = h ∧ e = [none, some b, some fv, none, none, none, none, some a, some (.int .i64 x.length), some (.int .i64 i)] ∧ x.take i = y.take i) ⟨rfl, by simp [heq], rfl⟩ ?_
  rintro J i _ _ hJ hi ⟨rfl, rfl, hxy⟩
  simp -implicitDefEqProofs (disch := first | omega | (simp only [List.length_set, List.length_replicate, List.length_append, List.length_map, List.length_take, List.length_cons, List.length_nil]; omega)) [wrap64]
  refine IteW.mk (fun hlt => ?_) (fun hge => ?_)
  · have hly : i < y.length := by omega
    have hlx : i < x.length := by omega
    obtain ⟨u, hu, Ru⟩ := Ra.ld hlx
    obtain ⟨w, hw, Rw⟩ := Rb.ld hly
    change hload _ (some (elp 2 a i)) (some 2) = some u at hu
    change hload _ (some (elp 2 b i)) (some 2) = some w at hw
    simp -implicitDefEqProofs (disch := first | omega | (simp only [List.length_set, List.length_replicate, List.length_append, List.length_map, List.length_take, List.length_cons, List.length_nil]; omega)) [wrap64, Ra.X (n := 2) rfl, Rb.X (n := 2) rfl, hu, hw, Ru.aSta, Rw.aSta, hf]
    refine (hp _ (List.getElem_mem hlx) Ru Rw).go ?_
    rintro _ _ ⟨rfl, rfl⟩
    simp -implicitDefEqProofs (disch := first | omega | (simp only [List.length_set, List.length_replicate, List.length_append, List.length_map, List.length_take, List.length_cons, List.length_nil]; omega)) [wrap64]
    refine IteW.mkr (fun hne => ?_) (fun heq => ?_)
    · simp -implicitDefEqProofs (disch := first | omega | (simp only [List.length_set, List.length_replicate, List.length_append, List.length_map, List.length_take, List.length_cons, List.length_nil]; omega)) [wrap64]
      exact RetK.keep (hk _ _ ⟨rfl, by simp; rintro rfl; exact hne rfl⟩)
    simp -implicitDefEqProofs (disch := first | omega | (simp only [List.length_set, List.length_replicate, List.length_append, List.length_map, List.length_take, List.length_cons, List.length_nil]; omega)) [wrap64]
    exact hJ _ _ hlx ⟨rfl, rfl, take_step hxy hlx hly heq⟩
  · simp -implicitDefEqProofs (disch := first | omega | (simp only [List.length_set, List.length_replicate, List.length_append, List.length_map, List.length_take, List.length_cons, List.length_nil]; omega)) [wrap64]
    refine RetK.keep (hk _ _ ⟨rfl, ?_⟩)
    simp
    rw [List.take_of_length_le (by omega), List.take_of_length_le (by omega)] at hxy
    exact hxy
theorem c_EqualFunc_IntS {h : Heap} {a b fv : Value} {x y : List (List Int)} (Ra : Rep h a x) (Rb : Rep h b y) {f : FuncId} (hf : fnOf fv = some (f, [], []))
    (hp : ∀ z ∈ x, ∀ {h : Heap} {a b : Value} {w : List Int}, Rep h a z → Rep h b w → CallE Try.prog f [a, b] h (fun u h' => h' = h ∧ u = .bool (decide (z = w)))) :
    CallE Try.prog fn_slices_EqualFunc_S_S_int_S_S_int_S_int_S_int [a, b, fv] h (fun u h' => h' = h ∧ u = .bool (decide (x = y))) := by
  refine CallE.gen fun k hk => EN_slices_EqualFunc_S_S_int_S_S_int_S_int_S_int rfl ?_
  have hL := Ra.lt
  simp -implicitDefEqProofs (disch := first | omega | (simp only [List.length_set, List.length_replicate, List.length_append, List.length_map, List.length_take, List.length_cons, List.length_nil]; omega)) [wrap64, Ra.len, Rb.len]
  refine IteW.mkr (fun hne => ?_) (fun heq => ?_)
  · simp -implicitDefEqProofs (disch := first | omega | (simp only [List.length_set, List.length_replicate, List.length_append, List.length_map, List.length_take, List.length_cons, List.length_nil]; omega)) [wrap64]
    exact RetK.keep (hk _ _ ⟨rfl, by simp; rintro rfl; exact hne rfl⟩)
  simp -implicitDefEqProofs (disch := first | omega | (simp only [List.length_set, List.length_replicate, List.length_append, List.length_map, List.length_take, List.length_cons, List.length_nil]; omega)) [wrap64, Ra.len]
  refine wp_count x.length (fun i e h' => h' = h ∧ e = [none, some b, some fv, none, none, none, none, some a, some (.int .i64 x.length), some (.int .i64 i)] ∧ x.take i = y.take i) ⟨rfl, by simp [heq], rfl⟩ ?_
  rintro J i _ _ hJ hi ⟨rfl, rfl, hxy⟩
  simp -implicitDefEqProofs (disch := first | omega | (simp only [List.length_set, List.length_replicate, List.length_append, List.length_map, List.length_take, List.length_cons, List.length_nil]; omega)) [wrap64]
  refine IteW.mk (fun hlt => ?_) (fun hge => ?_)
  · have hly : i < y.length := by omega
    have hlx : i < x.length := by omega
    obtain ⟨u, hu, Ru⟩ := Ra.ldL hlx
    obtain ⟨w, hw, Rw⟩ := Rb.ldL hly
    simp -implicitDefEqProofs (disch := first | omega | (simp only [List.length_set, List.length_replicate, List.length_append, List.length_map, List.length_take, List.length_cons, List.length_nil]; omega)) [wrap64, Ra.X (n := 1) rfl, Rb.X (n := 1) rfl, hu, hw, hf]
    refine (hp _ (List.getElem_mem hlx) Ru Rw).go ?_
    rintro _ _ ⟨rfl, rfl⟩
    simp -implicitDefEqProofs (disch := first | omega | (simp only [List.length_set, List.length_replicate, List.length_append, List.length_map, List.length_take, List.length_cons, List.length_nil]; omega)) [wrap64]
    refine IteW.mkr (fun hne => ?_) (fun heq => ?_)
    · simp -implicitDefEqProofs (disch := first | omega | (simp only [List.length_set, List.length_replicate, List.length_append, List.length_map, List.length_take, List.length_cons, List.length_nil]; omega)) [wrap64]
      exact RetK.keep (hk _ _ ⟨rfl, by simp; rintro rfl; exact hne rfl⟩)
    simp -implicitDefEqProofs (disch := first | omega | (simp only [List.length_set, List.length_replicate, List.length_append, List.length_map, List.length_take, List.length_cons, List.length_nil]; omega)) [wrap64]
    exact hJ _ _ hlx ⟨rfl, rfl, take_step hxy hlx hly heq⟩
  · simp -implicitDefEqProofs (disch := first | omega | (simp only [List.length_set, List.length_replicate, List.length_append, List.length_map, List.length_take, List.length_cons, List.length_nil]; omega)) [wrap64]
    refine RetK.keep (hk _ _ ⟨rfl, ?_⟩)
    simp
    rw [List.take_of_length_le (by omega), List.take_of_length_le (by omega)] at hxy
    exact hxy
theorem Gr.ext_iff2 {a b : Gr} : a = b ↔ a.states = b.states ∧ a.next = b.next := by cases a; cases b; simp
theorem c_GraphSame {h : Heap} {v w : Value} {a b : Gr} (Ra : Rep h v a) (Rb : Rep h w b) : CallE Try.prog fn_impl_GraphSame [v, w] h (fun u h' => h' = h ∧ u = .bool (decide (a = b))) := by
  obtain ⟨v1, v2, rfl, R1, R2⟩ := Rep_Gr.1 Ra
  obtain ⟨w1, w2, rfl, S1, S2⟩ := Rep_Gr.1 Rb
  refine CallE.gen fun k hk => EN_impl_GraphSame rfl ?_
  simp -implicitDefEqProofs (disch := first | omega | (simp only [List.length_set, List.length_replicate, List.length_append, List.length_map, List.length_take, List.length_cons, List.length_nil]; omega)) [wrap64]
  refine (c_EqualFunc_State R1 S1 (f := fn_impl_StateSame) rfl fun z hz {h a b w} r1 r2 => c_StateSame r1 r2).go ?_
  rintro _ h ⟨rfl, rfl⟩
  by_cases q : a.states = b.states
  case neg =>
    simp -implicitDefEqProofs (disch := first | omega | (simp only [List.length_set, List.length_replicate, List.length_append, List.length_map, List.length_take, List.length_cons, List.length_nil]; omega)) [wrap64, q]
    exact RetK.keep (hk _ _ ⟨rfl, by simp [Gr.ext_iff2, q]⟩)
  simp -implicitDefEqProofs (disch := first | omega | (simp only [List.length_set, List.length_replicate, List.length_append, List.length_map, List.length_take, List.length_cons, List.length_nil]; omega)) [wrap64, q]
  refine (c_EqualFunc_IntS R2 S2 (f := fn_slices_Equal_S_int_int) rfl fun z hz {h a b w} r1 r2 => c_Equal_int r1 r2).go ?_
  rintro _ h ⟨rfl, rfl⟩
  simp -implicitDefEqProofs (disch := first | omega | (simp only [List.length_set, List.length_replicate, List.length_append, List.length_map, List.length_take, List.length_cons, List.length_nil]; omega)) [wrap64]
  exact RetK.keep (hk _ _ ⟨rfl, by simp [Gr.ext_iff2, q]⟩)
end Go.Proofs.Ytonjglbachhdcaa

/-
  The law: without its dead edges a system has the same graph.
-/
namespace Go.Proofs.Ytonjglbachhdcaa
open Go
set_option linter.all false
set_option linter.unusedVariables false
set_option linter.unusedSimpArgs false
set_option linter.defProp false
set_option maxRecDepth 1000000

theorem Ed.rawc {h : Heap} {e : Ed} {w1 w2 : Value} (ok : e.ok) (G1 : Rep h w1 e.guard.kids) (G2 : Rep h w2 e.value.kids) : Ty.rep h (e.cs w1 w2) e := repEd.2 ⟨w1, w2, rfl, ok, G1, G2⟩
theorem Pr.rawc {h : Heap} {p : Pr} {w : Value} (ok : I64 p.locs) (G : Rep h w p.edges) : Ty.rep h [.int .i64 p.locs, w] p := by
  obtain ⟨cs, e, hr⟩ := Rep_Pr.2 ⟨w, rfl, ok, G⟩
  have e2 : #[.int .i64 p.locs, w] = cs.toArray := by
    have : Value.agg #[.int .i64 p.locs, w] = Value.agg cs.toArray := e
    simpa using this
  have e3 : cs = [.int .i64 p.locs, w] := by simpa using (congrArg Array.toList e2).symm
  rw [← e3]
  exact hr
set_option maxHeartbeats 4000000 in
theorem c_FnDeadRemoved {h : Heap} {v : Value} {l : List (BitVec 8)} (R : Rep h v l) : CallE Try.prog fn_laws_FnDeadRemoved [v] h (fun u h' => h.le h' ∧ u = .bool true) := by
  refine CallE.gen fun k hk => EN_laws_FnDeadRemoved rfl ?_
  simp -implicitDefEqProofs (disch := first | omega | (simp only [List.length_set, List.length_replicate, List.length_append, List.length_map, List.length_take, List.length_cons, List.length_nil]; omega)) [wrap64, R.len]
  refine IteW.mk (fun hlt => ?_) (fun hge => ?_)
  · simp -implicitDefEqProofs (disch := first | omega | (simp only [List.length_set, List.length_replicate, List.length_append, List.length_map, List.length_take, List.length_cons, List.length_nil]; omega)) [wrap64]
    exact RetK.keep (hk _ _ ⟨Heap.le.refl _, rfl⟩)
  simp -implicitDefEqProofs (disch := first | omega | (simp only [List.length_set, List.length_replicate, List.length_append, List.length_map, List.length_take, List.length_cons, List.length_nil]; omega)) [wrap64]
  refine (c_DrawDeadEdges R).go ?_
  rintro _ h1 ⟨u1, s, p, rfl, okp, H⟩
  have FS := H.rep.aSy
  simp -implicitDefEqProofs (disch := first | omega | (simp only [List.length_set, List.length_replicate, List.length_append, List.length_map, List.length_take, List.length_cons, List.length_nil]; omega)) [wrap64, FS, setC]
  refine (c_DeadEdges H.rep okp).go ?_
  rintro _ h2 ⟨a, rfl, G⟩
  have H := G.app H
  simp -implicitDefEqProofs (disch := first | omega | (simp only [List.length_set, List.length_replicate, List.length_append, List.length_map, List.length_take, List.length_cons, List.length_nil]; omega)) [wrap64, FS]
  refine (c_spec_DeadEdges H.sw1.rep okp).go ?_
  rintro _ h3 ⟨b, rfl, G⟩
  have H := G.app H
  simp -implicitDefEqProofs (disch := first | omega | (simp only [List.length_set, List.length_replicate, List.length_append, List.length_map, List.length_take, List.length_cons, List.length_nil]; omega)) [wrap64]
  refine (c_wpBools H.sw1.rep H.rep).go ?_
  rintro _ h3 ⟨rfl, rfl⟩
  by_cases q : dOk s p
  case neg =>
    simp -implicitDefEqProofs (disch := first | omega | (simp only [List.length_set, List.length_replicate, List.length_append, List.length_map, List.length_take, List.length_cons, List.length_nil]; omega)) [wrap64, q]
    refine (c_wpBools H.sw1.rep H.rep).go ?_
    rintro _ h3 ⟨rfl, rfl⟩
    simp -implicitDefEqProofs (disch := first | omega | (simp only [List.length_set, List.length_replicate, List.length_append, List.length_map, List.length_take, List.length_cons, List.length_nil]; omega)) [wrap64]
    exact RetK.keep (hk _ _ ⟨H.base, rfl⟩)
  have hs := q.1.1
  have hbg := q.1
  obtain ⟨i, rfl⟩ : ∃ i : Nat, p = i := ⟨p.toNat, (Int.toNat_of_nonneg q.2.1).symm⟩
  have hi : i < s.procs.length := by have := q.2.2; omega
  have hdl := dead_len (g := bgR s) hi
  have hel := (hs.at hi).el
  have hp3 := hs.p3
  obtain ⟨hb2, hg2⟩ := wo_graph hbg hi
  rw [deadR, if_pos q] at H
  obtain ⟨D, hD⟩ : ∃ D, D = s.dead i (bgR s) := ⟨_, rfl⟩
  rw [← hD] at H hdl hb2 hg2
  have Ra := H.sw1.rep
  have Rs := H.sw2.rep
  have l3 := H.base
  clear H G
  have Rs0 := Rs
  obtain ⟨s1, s2, rfl, S1, S2⟩ := Rep_Sy.1 Rs
  have hO1 := S1.one
  simp -implicitDefEqProofs (disch := first | omega | (simp only [List.length_set, List.length_replicate, List.length_append, List.length_map, List.length_take, List.length_cons, List.length_nil]; omega)) [wrap64, q, setC]
  refine HS.appPLr (α := Pr) (HS.init (h := h3)) rfl rfl S2 rfl rfl (by omega) fun v' h4 M hM H => ?_
  have hO2 := H.rep.one
  simp -implicitDefEqProofs (disch := first | omega | (simp only [List.length_set, List.length_replicate, List.length_append, List.length_map, List.length_take, List.length_cons, List.length_nil]; omega)) [wrap64, hO1, hO2, S1.cells, H.rep.cells, setC]
  refine H.bls0 (Mix Ed) fun o h5 H => ?_
  simp -implicitDefEqProofs (disch := first | omega | (simp only [List.length_set, List.length_replicate, List.length_append, List.length_map, List.length_take, List.length_cons, List.length_nil]; omega)) [wrap64]
  refine wp_count D.length (fun k e h' => ∃ (o : Value) (N : List (Mix Ed)), e = [none, none, some (.agg #[s1, s2]), some (.int .i64 i), some a, none, none, none, some (.agg #[s1, v']), some o, some (.int .i64 k), none, none, none, none] ∧ HS h3 [ow o N, ow v' M] h' ∧ Raws h3 (kptN s.procs[i].edges D k) N) ⟨_, [], by simp, H, by rw [kptN_zero]; exact Raws.nil⟩ ?_
  clear H
  rintro J k _ h6 hJ hk6 ⟨o, N, rfl, H, hN⟩
  have RaB := (Ra.on H).B
  simp -implicitDefEqProofs (disch := first | omega | (simp only [List.length_set, List.length_replicate, List.length_append, List.length_map, List.length_take, List.length_cons, List.length_nil]; omega)) [wrap64, (Ra.on H).len]
  refine IteW.mk (fun hlt1 => ?_) (fun hge1 => ?_)
  · have hkD : k < D.length := by omega
    have hkE : k < s.procs[i].edges.length := by omega
    have hgd : D.getD k false = D[k] := by simp [hkD]
    have hks := kptN_succ (D := D) hkE
    rw [hgd] at hks
    cases hdk : D[k] with
    | true =>
      simp -implicitDefEqProofs (disch := first | omega | (simp only [List.length_set, List.length_replicate, List.length_append, List.length_map, List.length_take, List.length_cons, List.length_nil]; omega)) [wrap64, RaB, hdk]
      exact hJ _ _ hkD ⟨_, _, by simp, H, by rw [hks, if_pos hdk]; exact hN⟩
    | false =>
      obtain ⟨we, w1, w2, hu, R3, hu2, ok1, G1, G2⟩ := S2.edge hi hkE
      have hP := hld_parts (hload_le H.base hu)
      have hu3 := hload_le H.base hu2
      have hNl : N.length ≤ 8 := by
        rw [hN.len]
        have := kptN_len (l := s.procs[i].edges) (D := D) (k := k)
        omega
      have X1 := S2.X (n := 2) rfl
      have X2 := R3.X (n := 10) rfl
      have Ea := (Rep_Ed.2 ⟨w1, w2, rfl, ok1, G1, G2⟩ : Rep h3 _ s.procs[i].edges[k]).aEd
      have hrc := Ed.rawc ok1 G1 G2
      have gO1 := G1.one
      have gO2 := G2.one
      simp -implicitDefEqProofs (disch := first | omega | (simp only [List.length_set, List.length_replicate, List.length_append, List.length_map, List.length_take, List.length_cons, List.length_nil]; omega)) [wrap64, RaB, hdk, X1, hP.1, hP.2.2.1, X2, hu3, Ea, Ed.cs, setC, gO1, gO2]
      refine HS.appO (α := Mix Ed) (bytes := 112) (H.rawO hrc) rfl rfl rfl rfl rfl (by omega) (by omega) fun o' h7 H => ?_
      simp -implicitDefEqProofs (disch := first | omega | (simp only [List.length_set, List.length_replicate, List.length_append, List.length_map, List.length_take, List.length_cons, List.length_nil]; omega)) [wrap64]
      exact hJ _ _ hkD ⟨_, _, by simp, H, by rw [hks, if_neg (by rw [hdk]; decide)]; exact hN.push hrc⟩
  rw [kptN_all (by omega)] at hN
  obtain ⟨g1, H1, H2⟩ := HS.rebase (Δ := [ow v' M]) (Γ := [ow o N]) H.sw1
  have lg := H1.base
  have Ro : Rep g1 o (kpt s.procs[i].edges D) := H1.rep.raws (hN.le lg)
  obtain ⟨u, hu, Ru⟩ := S2.ld hi
  change hload _ (some (elp 2 s2 i)) (some 2) = some u at hu
  obtain ⟨we, rfl, kl, R3⟩ := Rep_Pr.1 Ru
  have hP := hld_parts (cs := [.int .i64 s.procs[i].locs, we]) (hload_le H.base hu)
  have hrc : Ty.rep g1 [.int .i64 s.procs[i].locs, o] (⟨s.procs[i].locs, kpt s.procs[i].edges D⟩ : Pr) := Pr.rawc (p := ⟨s.procs[i].locs, kpt s.procs[i].edges D⟩) kl Ro
  have hO3 := Ro.one
  have hMl := hM.len
  have XM := H2.rep.X (n := 2) rfl
  simp -implicitDefEqProofs (disch := first | omega | (simp only [List.length_set, List.length_replicate, List.length_append, List.length_map, List.length_take, List.length_cons, List.length_nil]; omega)) [wrap64, S2.X (n := 2) rfl, hP.1, hP.2.2.1, setC, hO3, Ro.cells, XM, hMl]
  refine HS.store (α := Mix Pr) (H2.rawO hrc) (i := i) (by omega) rfl rfl rfl fun h7 H => ?_
  have lh := H.base
  have Rp : Rep h7 v' (s.procs.set i ⟨s.procs[i].locs, kpt s.procs[i].edges D⟩) := H.rep.raws ((hM.le (lg.trans lh)).set (Ty.mono lh hrc))
  have Rw : Rep h7 (.agg #[s1, v']) (wo s i D) := Rep_Sy.2 ⟨s1, v', rfl, S1.le (lg.trans lh), by
    have e : s.procs.getD i ⟨0, []⟩ = s.procs[i] := by simp [hi]
    simp only [wo, e]
    exact Rp⟩
  have Rs := Rs0.le (lg.trans lh)
  have l7 := l3.trans (lg.trans lh)
  clear H H1 H2 Rp
  simp -implicitDefEqProofs (disch := first | omega | (simp only [List.length_set, List.length_replicate, List.length_append, List.length_map, List.length_take, List.length_cons, List.length_nil]; omega)) [wrap64, Rs.aSy]
  refine (c_BuildGraph Rs).go ?_
  rintro _ h8 ⟨g, rfl, G⟩
  have H := G
  have hA := H.rep.aGr
  simp -implicitDefEqProofs (disch := first | omega | (simp only [List.length_set, List.length_replicate, List.length_append, List.length_map, List.length_take, List.length_cons, List.length_nil]; omega)) [wrap64, hbg, hA, setC, Rw.aSy]
  refine (c_BuildGraph (Rw.on H)).go ?_
  rintro _ h9 ⟨g', rfl, G⟩
  have H := G.app H
  rw [hg2] at H
  have hB := H.rep.aGr
  simp -implicitDefEqProofs (disch := first | omega | (simp only [List.length_set, List.length_replicate, List.length_append, List.length_map, List.length_take, List.length_cons, List.length_nil]; omega)) [wrap64, hb2, hB, hA, setC]
  refine (c_GraphSame H.sw1.rep H.rep).go ?_
  rintro _ h9 ⟨rfl, rfl⟩
  simp -implicitDefEqProofs (disch := first | omega | (simp only [List.length_set, List.length_replicate, List.length_append, List.length_map, List.length_take, List.length_cons, List.length_nil]; omega)) [wrap64]
  exact RetK.keep (hk _ _ ⟨l7.trans H.base, rfl⟩)
end Go.Proofs.Ytonjglbachhdcaa
