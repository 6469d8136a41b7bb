/-
  Texts of this proof, one behind the other.
-/
import Derived.Test.YtonjglbachhdcaaM7
/-
  Projections: labels, steps and their states are kept; in plain Lean.
-/
namespace Go.Proofs.Ytonjglbachhdcaa
open Go
set_option linter.all false
set_option linter.unusedVariables false
set_option linter.unusedSimpArgs false
set_option linter.defProp false
set_option maxRecDepth 1000000

theorem fmz_congr {α β γ : Type} {f : α × Nat → List γ} {g : β × Nat → List γ} : ∀ {l : List α} {m : List β} {k : Nat}, l.length = m.length → (∀ (i : Nat) (h1 : i < l.length) (h2 : i < m.length), f (l[i], k + i) = g (m[i], k + i)) → (l.zipIdx k).flatMap f = (m.zipIdx k).flatMap g
  | [], [], _, _, _ => rfl
  | x :: l, y :: m, k, hl, h => by
    rw [List.zipIdx_cons, List.zipIdx_cons, List.flatMap_cons, List.flatMap_cons, fmz_congr (l := l) (m := m) (by simpa using hl) fun i h1 h2 => ?_]
    · have := h 0 (by simp) (by simp)
      simp only [List.getElem_cons_zero, Nat.add_zero] at this
      rw [this]
    · have := h (i + 1) (by simpa using h1) (by simpa using h2)
      simp only [List.getElem_cons_succ] at this
      rw [show k + 1 + i = k + (i + 1) by omega]
      exact this
theorem fmz_congr0 {α β γ : Type} {f : α × Nat → List γ} {g : β × Nat → List γ} {l : List α} {m : List β} (hl : l.length = m.length) (h : ∀ (i : Nat) (h1 : i < l.length) (h2 : i < m.length), f (l[i], i) = g (m[i], i)) : l.zipIdx.flatMap f = m.zipIdx.flatMap g :=
  fmz_congr hl fun i h1 h2 => by rw [Nat.zero_add]; exact h i h1 h2

theorem getD_setI' {l : List Int} {k j : Nat} {a : Int} (hk : k < l.length) : (l.set k a).getD j 0 = if k = j then a else l.getD j 0 := by
  rw [List.getD_eq_getElem?_getD, List.getElem?_set]
  split
  · rename_i e; subst e; simp [hk]
  · rw [List.getD_eq_getElem?_getD]
theorem prV_get {s : Sy} {L : List Exq} {st : Sta} {v : Nat} (hv : v < 3) : (prV s L st).getD v 0 = if (s.rel L).getD v false then st.vals.getD v 0 else s.init.getD v 0 := by
  simp [prV, hv]
/-- the projection of a state -/
def pj (s : Sy) (L : List Exq) (st : Sta) : Sta := ⟨st.locs, prV s L st⟩
theorem occB_lt {x : Exq} {v : Nat} (h : occB x v = true) : v < 3 := by
  have hl : (x.mkv [false, false, false]).length = 3 := Exq.mkv_len x rfl
  rw [← hl]
  rcases Nat.lt_or_ge v (x.mkv [false, false, false]).length with h1 | h1
  · exact h1
  · rw [occB, List.getD_eq_getElem?_getD, List.getElem?_eq_none h1] at h
    simp at h
theorem pj_ev {s : Sy} {L : List Exq} {st : Sta} {x : Exq} (hx : x.Ok) (h : ∀ v, occB x v = true → (s.rel L).getD v false = true) : x.ev (prV s L st) = x.ev st.vals :=
  ev_occ hx fun v hv => by rw [prV_get (occB_lt hv), if_pos (h v hv)]
theorem list3 {a b : List Int} (ha : a.length = 3) (hb : b.length = 3) (h : ∀ v : Nat, v < 3 → a.getD v 0 = b.getD v 0) : a = b := by
  refine List.ext_getElem (by omega) fun i h1 h2 => ?_
  have := h i (by omega)
  simpa [h1, h2] using this
theorem prV_congr {s : Sy} {L : List Exq} {a b : Sta} (h : ∀ v : Nat, v < 3 → (s.rel L).getD v false = true → a.vals.getD v 0 = b.vals.getD v 0) : prV s L a = prV s L b := by
  refine list3 prV_len prV_len fun v hv => ?_
  rw [prV_get hv, prV_get hv]
  split
  · rename_i h1; exact h v hv h1
  · rfl
theorem pj_ok {s : Sy} {L : List Exq} {st : Sta} (hs : s.Ok) (h : st.Ok s) : (pj s L st).Ok s := by
  have key : ∀ x ∈ prV s L st, 0 ≤ x ∧ x ≤ 3 := fun x hx => by
    unfold prV at hx
    obtain ⟨i, hi, rfl⟩ := List.mem_map.1 hx
    have hi3 : i < 3 := List.mem_range.1 hi
    have hv := h.vs
    have hin := hs.vs
    split
    · have h3 : i < st.vals.length := by rw [hv.len]; exact hi3
      have : st.vals.getD i 0 = st.vals[i] := by simp [h3]
      rw [this]; exact hv.at h3
    · have h3 : i < s.init.length := by rw [hin.len]; exact hi3
      have : s.init.getD i 0 = s.init[i] := by simp [h3]
      rw [this]; exact hin.at h3
  exact ⟨h.len, ⟨prV_len, key⟩, h.lc⟩
theorem slc_fs {M : List Bool} {e : Ed} : (e.slc M).frm = e.frm ∧ (e.slc M).to = e.to ∧ (e.slc M).sync = e.sync := by
  unfold Ed.slc; split <;> exact ⟨rfl, rfl, rfl⟩
theorem slc_rdy {s : Sy} {L : List Exq} {st : Sta} {p : Pr} {e : Ed} {j : Nat} {n : Int} (he : e.Ok n) (hp : p ∈ s.procs) (hm : e ∈ p.edges) : (e.slc (s.rel L)).rdy (pj s L st) j = e.rdy st j := by
  unfold Ed.rdy
  rw [slc_fs.1, Ed.slc_guard]
  have : e.guard.ev (pj s L st).vals = e.guard.ev st.vals := pj_ev he.gd fun v hv => rel_guard hp hm hv
  rw [this]
  rfl
theorem slc_enb {s : Sy} {L : List Exq} {st : Sta} (hs : s.Ok) : enb (s.slc L) (pj s L st) = enb s st := by
  unfold enb
  refine fmz_congr0 (by simp [Sy.slc]) fun i h1 hi => ?_
  have e1 : (s.slc L).procs[i] = (s.procs[i]).slc (s.rel L) := by simp [Sy.slc]
  unfold enb1
  simp only
  refine fmz_congr0 (by rw [e1]; simp [Pr.slc]) fun k h2 hk => ?_
  have e2 : (s.slc L).procs[i].edges[k] = s.procs[i].edges[k].slc (s.rel L) := by simp [Sy.slc, Pr.slc]
  have hr := slc_rdy (s := s) (L := L) (st := st) (j := i) ((hs.at hi).at hk) (List.getElem_mem hi) (List.getElem_mem hk)
  unfold enb2
  simp only
  rw [e2, slc_fs.2.2, hr]
  split
  · rfl
  split
  · rfl
  unfold prt
  refine fmz_congr0 (by simp [Sy.slc]) fun j h3 hj => ?_
  have e3 : (s.slc L).procs[j] = (s.procs[j]).slc (s.rel L) := by simp [Sy.slc]
  unfold prt1
  simp only
  refine fmz_congr0 (by rw [e3]; simp [Pr.slc]) fun m h4 hm => ?_
  have e4 : (s.slc L).procs[j].edges[m] = s.procs[j].edges[m].slc (s.rel L) := by simp [Sy.slc, Pr.slc]
  have hr2 := slc_rdy (s := s) (L := L) (st := st) (j := j) ((hs.at hj).at hm) (List.getElem_mem hj) (List.getElem_mem hm)
  unfold prt2
  simp only
  rw [e4, slc_fs.2.2, hr2]
theorem slc_tk {s : Sy} {L : List Exq} {st : Sta} {i : Nat} {p : Pr} {e : Ed} {n : Int} (hv3 : st.vals.length = 3) (he : e.Ok n) (hp : p ∈ s.procs) (hm : e ∈ p.edges) : (pj s L st).tk i (e.slc (s.rel L)) = pj s L (st.tk i e) := by
  have hv1 := he.v1
  unfold pj Sta.tk
  simp only
  rw [slc_fs.2.1]
  congr 1
  by_cases h0 : 0 ≤ e.var
  · by_cases hr : (s.rel L).getD e.var.toNat false = true
    · have e1 : e.slc (s.rel L) = e := by
        unfold Ed.slc
        rw [if_neg (by rw [hr]; simp)]
      rw [e1, if_pos h0, if_pos h0]
      have e2 : e.value.ev (prV s L st) = e.value.ev st.vals := pj_ev (he.val h0) fun v hv => rel_value hp hm h0 hr hv
      rw [e2]
      refine list3 (by simp [prV_len]) prV_len fun v hv => ?_
      rw [prV_get hv]
      have e3 : e.var.toNat < (prV s L st).length := by rw [prV_len]; omega
      have e4 : e.var.toNat < st.vals.length := by omega
      simp only
      rw [getD_setI' e3, getD_setI' e4]
      by_cases c : e.var.toNat = v
      · rw [if_pos c, if_pos c, if_pos (by rw [← c]; exact hr)]
      · rw [if_neg c, if_neg c, prV_get hv]
    · have hr' : (s.rel L).getD e.var.toNat false = false := by rw [Bool.eq_false_iff]; exact hr
      have e1 : (e.slc (s.rel L)).var = -1 := by
        unfold Ed.slc
        rw [if_pos ⟨h0, hr'⟩]
      rw [e1, if_neg (by decide), if_pos h0]
      refine prV_congr fun v hv hrv => ?_
      simp only
      have e4 : e.var.toNat < st.vals.length := by omega
      rw [getD_setI' e4, if_neg]
      intro c
      rw [c] at hr'
      rw [hr'] at hrv
      exact absurd hrv (by decide)
  · have e1 : e.slc (s.rel L) = e := by
      unfold Ed.slc
      rw [if_neg fun hh => h0 hh.1]
    rw [e1, if_neg h0, if_neg h0]
    exact prV_congr fun v hv hrv => rfl
theorem slc_aft {s : Sy} {L : List Exq} {st : Sta} {t : Stp} (hs : s.Ok) (hst : st.Ok s) (ht : t.In s) : (pj s L st).aft (s.slc L) t = pj s L (st.aft s t) := by
  obtain ⟨⟨i, k, hi, hk, h1, h2⟩, h3⟩ := ht
  have ed1 : ∀ {i k : Nat} (hi : i < s.procs.length) (hk : k < s.procs[i].edges.length), (s.slc L).ed i k = (s.ed i k).slc (s.rel L) := fun {i k} hi hk => by
    rw [Sy.ed_eq hi hk, Sy.ed_eq (s := s.slc L) (by simpa [Sy.slc] using hi) (by simpa [Sy.slc, Pr.slc] using hk)]
    simp [Sy.slc, Pr.slc]
  unfold Sta.aft
  rw [h1, h2]
  simp only [Int.toNat_natCast]
  rw [ed1 hi hk, Sy.ed_eq hi hk, slc_tk hst.vs.len ((hs.at hi).at hk) (List.getElem_mem hi) (List.getElem_mem hk)]
  rcases h3 with h3 | ⟨j, m, hj, hm, h3, h4⟩
  · rw [if_neg (by omega), if_neg (by omega)]
  · rw [if_pos (by omega), if_pos (by omega), h3, h4]
    simp only [Int.toNat_natCast]
    have hok := Sta.tk_ok hst hi ((hs.at hi).at hk)
    rw [ed1 hj hm, Sy.ed_eq hj hm, slc_tk hok.vs.len ((hs.at hj).at hm) (List.getElem_mem hj) (List.getElem_mem hm)]
end Go.Proofs.Ytonjglbachhdcaa

/-
  The laws: projections preserve labels; steps commute with projection.
-/
namespace Go.Proofs.Ytonjglbachhdcaa
open Go
set_option linter.all false
set_option linter.unusedVariables false
set_option linter.unusedSimpArgs false
set_option linter.defProp false
set_option maxRecDepth 1000000

theorem slc_st {s : Sy} {L : List Exq} {st : Sta} (h : st.Ok s) : st.Ok (s.slc L) := by
  refine ⟨by rw [h.len]; simp [Sy.slc], h.vs, fun i h1 h2 => ?_⟩
  have h3 : i < s.procs.length := by simpa [Sy.slc] using h2
  have := h.lc i h1 h3
  simpa [Sy.slc, Pr.slc] using this
set_option maxHeartbeats 2000000 in
theorem c_FnProjectStep {h : Heap} {v : Value} {l : List (BitVec 8)} (R : Rep h v l) : CallE Try.prog fn_laws_FnProjectStep [v] h (fun u h' => h.le h' ∧ u = .bool true) := by
  refine CallE.gen fun k hk => EN_laws_FnProjectStep rfl ?_
  simp -implicitDefEqProofs (disch := first | omega | (simp only [List.length_set, List.length_replicate, List.length_append, List.length_map, List.length_take, List.length_cons, List.length_nil]; omega)) [wrap64, R.len]
  refine IteW.mk (fun hlt => ?_) (fun hge => ?_)
  · simp -implicitDefEqProofs (disch := first | omega | (simp only [List.length_set, List.length_replicate, List.length_append, List.length_map, List.length_take, List.length_cons, List.length_nil]; omega)) [wrap64]
    exact RetK.keep (hk _ _ ⟨Heap.le.refl _, rfl⟩)
  simp -implicitDefEqProofs (disch := first | omega | (simp only [List.length_set, List.length_replicate, List.length_append, List.length_map, List.length_take, List.length_cons, List.length_nil]; omega)) [wrap64]
  refine (c_DrawProjectState R).go ?_
  rintro _ h1 ⟨u1, u2, u3, s, L, st, rfl, H, hL3⟩
  obtain ⟨d, hd⟩ : ∃ d, d = decide (s.Ok ∧ LOk L ∧ st.Ok s) := ⟨_, rfl⟩
  have FS := H.rep.aSy
  have FT := H.sw2.rep.aSta
  simp -implicitDefEqProofs (disch := first | omega | (simp only [List.length_set, List.length_replicate, List.length_append, List.length_map, List.length_take, List.length_cons, List.length_nil]; omega)) [wrap64, FS, FT, setC]
  refine (c_ProjectState H.rep H.sw1.rep H.sw2.rep).go ?_
  rintro _ h2 ⟨a, rfl, G⟩
  have H := G.app H
  have FA := H.rep.aSta
  rw [← hd]
  simp -implicitDefEqProofs (disch := first | omega | (simp only [List.length_set, List.length_replicate, List.length_append, List.length_map, List.length_take, List.length_cons, List.length_nil]; omega)) [wrap64, FS, FT, FA, setC]
  refine (c_spec_ProjectState H.sw1.rep H.sw2.rep H.sw3.rep).go ?_
  rintro _ h3 ⟨b, rfl, G⟩
  have H := G.app H
  have FB := H.rep.aSta
  rw [← hd]
  simp -implicitDefEqProofs (disch := first | omega | (simp only [List.length_set, List.length_replicate, List.length_append, List.length_map, List.length_take, List.length_cons, List.length_nil]; omega)) [wrap64, FA, FB, setC]
  refine (c_StateSame H.sw1.rep H.rep).go ?_
  rintro _ h3 ⟨rfl, rfl⟩
  cases d with
  | false =>
    simp -implicitDefEqProofs (disch := first | omega | (simp only [List.length_set, List.length_replicate, List.length_append, List.length_map, List.length_take, List.length_cons, List.length_nil]; omega)) [wrap64, FA, FB]
    refine (c_StateSame H.sw1.rep H.rep).go ?_
    rintro _ h3 ⟨rfl, rfl⟩
    simp -implicitDefEqProofs (disch := first | omega | (simp only [List.length_set, List.length_replicate, List.length_append, List.length_map, List.length_take, List.length_cons, List.length_nil]; omega)) [wrap64]
    exact RetK.keep (hk _ _ ⟨H.base, rfl⟩)
  | true =>
  have q := of_decide_eq_true hd.symm
  obtain ⟨hs, hL, hst⟩ := id q
  have e : prR s L st = pj s L st := by rw [prR, if_pos q]; rfl
  rw [e] at H
  have hpo := pj_ok (L := L) hs hst
  have hso := Sy.slc_ok (L := L) hs
  have hpo2 := slc_st (L := L) hpo
  simp -implicitDefEqProofs (disch := first | omega | (simp only [List.length_set, List.length_replicate, List.length_append, List.length_map, List.length_take, List.length_cons, List.length_nil]; omega)) [wrap64, FS]
  refine (c_SliceSystem H.sw2.rep H.sw3.rep).go ?_
  rintro _ h4 ⟨c, rfl, G⟩
  rw [slcR, if_pos ⟨hs, hL⟩] at G
  have H := G.app H
  have FC := H.rep.aSy
  simp -implicitDefEqProofs (disch := first | omega | (simp only [List.length_set, List.length_replicate, List.length_append, List.length_map, List.length_take, List.length_cons, List.length_nil]; omega)) [wrap64, hs, hL, FS, FT, FC, setC]
  refine (c_EnabledSteps H.sw3.rep H.sw5.rep).go ?_
  intro la h5 G
  rw [ens, if_pos ⟨hs, hst⟩] at G
  have H := G.app H
  simp -implicitDefEqProofs (disch := first | omega | (simp only [List.length_set, List.length_replicate, List.length_append, List.length_map, List.length_take, List.length_cons, List.length_nil]; omega)) [wrap64, FC, FA]
  refine (c_EnabledSteps H.sw1.rep H.sw3.rep).go ?_
  intro lb h6 G
  rw [ens, if_pos ⟨hso, hpo2⟩, slc_enb hs] at G
  have H := G.app H
  have Rb := H.rep
  have Ra := H.sw1.rep
  have Rc := H.sw2.rep
  have Rx := H.sw4.rep
  have Rs := H.sw5.rep
  have RL := H.sw6.rep
  have Rt := H.sw7.rep
  have l6 := H.base
  clear H G
  have hEl := Ra.lt
  have hxx := pj_ok (L := L) hs hst
  simp -implicitDefEqProofs (disch := first | omega | (simp only [List.length_set, List.length_replicate, List.length_append, List.length_map, List.length_take, List.length_cons, List.length_nil]; omega)) [wrap64, Ra.len, Rb.len]
  refine wp_count (enb s st).length (fun i e h' => e = [none, none, some u1, some u2, some u3, some a, none, none, none, some c, none, some la, some lb, some (.int .i64 i), none, none, none, none, none, none] ∧ h6.le h') ⟨by simp, Heap.le.refl _⟩ ?_
  rintro J i _ h7 hJ hi ⟨rfl, l7⟩
  simp -implicitDefEqProofs (disch := first | omega | (simp only [List.length_set, List.length_replicate, List.length_append, List.length_map, List.length_take, List.length_cons, List.length_nil]; omega)) [wrap64, (Ra.le l7).len]
  refine IteW.mk (fun hlt1 => ?_) (fun hge1 => ?_)
  · have hi : i < (enb s st).length := by omega
    have hm : (enb s st)[i] ∈ ens s st := by rw [ens_ok hs hst]; exact List.getElem_mem hi
    have hm2 : (enb s st)[i] ∈ ens (s.slc L) (pj s L st) := by rw [ens_ok hso hpo2, slc_enb hs]; exact List.getElem_mem hi
    have hin := enb_in (List.getElem_mem hi)
    have okt : (enb s st)[i].ok := Ra.okStp hi
    obtain ⟨t, ht⟩ : ∃ t, t = (enb s st)[i] := ⟨_, rfl⟩
    rw [← ht] at hm hm2 hin okt
    have o1 := Sta.aft_ok hs hst hin
    have hsa := slc_aft (L := L) hs hst hin
    have FE := (Stp.rep (h := h7) okt).aStp
    have FS := Rs.aSy
    have FT := Rt.aSta
    have FC := Rc.aSy
    have FX := Rx.aSta
    simp -implicitDefEqProofs (disch := first | omega | (simp only [List.length_set, List.length_replicate, List.length_append, List.length_map, List.length_take, List.length_cons, List.length_nil]; omega)) [wrap64, (Ra.le l7).xStp, ← ht, FE, FS, FT]
    refine (c_ApplyStep (Rs.le l7) (Rt.le l7) okt).go ?_
    rintro _ h8 ⟨a, rfl, H⟩
    rw [aplR, if_pos hm] at H
    have FA := H.rep.aSta
    simp -implicitDefEqProofs (disch := first | omega | (simp only [List.length_set, List.length_replicate, List.length_append, List.length_map, List.length_take, List.length_cons, List.length_nil]; omega)) [wrap64, hm, FA, FC, FX, FE, ((Rb.le l7).on H).xStp, ← ht, setC]
    refine (c_ApplyStep ((Rc.le l7).on H) ((Rx.le l7).on H) okt).go ?_
    rintro _ h9 ⟨b, rfl, G⟩
    rw [aplR, if_pos hm2, hsa] at G
    have H := G.app H
    have FB := H.rep.aSta
    simp -implicitDefEqProofs (disch := first | omega | (simp only [List.length_set, List.length_replicate, List.length_append, List.length_map, List.length_take, List.length_cons, List.length_nil]; omega)) [wrap64, hm2, FA, FB, FS, setC]
    refine (c_ProjectState ((Rs.le l7).on H) ((RL.le l7).on H) H.sw1.rep).go ?_
    rintro _ h10 ⟨d, rfl, G⟩
    have q2 : s.Ok ∧ LOk L ∧ (st.aft s t).Ok s := ⟨hs, hL, o1⟩
    have e2 : prR s L (st.aft s t) = pj s L (st.aft s t) := by rw [prR, if_pos q2]; rfl
    rw [e2] at G
    have H := G.app H
    have FD := H.rep.aSta
    simp -implicitDefEqProofs (disch := first | omega | (simp only [List.length_set, List.length_replicate, List.length_append, List.length_map, List.length_take, List.length_cons, List.length_nil]; omega)) [wrap64, q2, hs, hL, o1, FD, setC, ((Ra.le l7).on H).xStp, ((Rb.le l7).on H).xStp, ← ht, Stp.v, FB]
    refine (c_StateSame H.sw1.rep H.rep).go ?_
    rintro _ h10 ⟨rfl, rfl⟩
    simp -implicitDefEqProofs (disch := first | omega | (simp only [List.length_set, List.length_replicate, List.length_append, List.length_map, List.length_take, List.length_cons, List.length_nil]; omega)) [wrap64]
    exact hJ _ _ hi ⟨by simp, l7.trans H.base⟩
  · simp -implicitDefEqProofs (disch := first | omega | (simp only [List.length_set, List.length_replicate, List.length_append, List.length_map, List.length_take, List.length_cons, List.length_nil]; omega)) [wrap64]
    exact RetK.keep (hk _ _ ⟨l6.trans l7, rfl⟩)
end Go.Proofs.Ytonjglbachhdcaa
