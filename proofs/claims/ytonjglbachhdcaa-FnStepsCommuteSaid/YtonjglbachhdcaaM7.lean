/-
  Texts of this proof, one behind the other.
-/
import Derived.Test.YtonjglbachhdcaaM6
/-
  Paths of graphs are executions.
-/
namespace Go.Proofs.Ytonjglbachhdcaa
open Go
set_option linter.all false
set_option linter.unusedVariables false
set_option linter.unusedSimpArgs false
set_option linter.defProp false
set_option maxRecDepth 1000000

structure Exec (s : Sy) (P : List Sta) : Prop where
  ne : 0 < P.length
  st0 : P.getD 0 Sta.zero = ini s
  step : ∀ i : Nat, i + 1 < P.length → ∃ t ∈ enb s (P.getD i Sta.zero), P.getD (i + 1) Sta.zero = (P.getD i Sta.zero).aft s t
end Go.Proofs.Ytonjglbachhdcaa

/-
  Whether states are an execution: by the laws' helper. (not built yet: the places of the loops are guesses)
-/
namespace Go.Proofs.Ytonjglbachhdcaa
open Go
set_option linter.all false
set_option linter.unusedVariables false
set_option linter.unusedSimpArgs false
set_option linter.defProp false
set_option maxRecDepth 1000000

end Go.Proofs.Ytonjglbachhdcaa

/-
  Helpers of the laws about graphs: where a state lies, lists, executions.
-/
namespace Go.Proofs.Ytonjglbachhdcaa
open Go
set_option linter.all false
set_option linter.unusedVariables false
set_option linter.unusedSimpArgs false
set_option linter.defProp false
set_option maxRecDepth 1000000

theorem ens_ok {s : Sy} {st : Sta} (hs : s.Ok) (hst : st.Ok s) : ens s st = enb s st := by rw [ens, if_pos ⟨hs, hst⟩]
end Go.Proofs.Ytonjglbachhdcaa

/-
  Relevance is closed: in plain Lean.
-/
namespace Go.Proofs.Ytonjglbachhdcaa
open Go
set_option linter.all false
set_option linter.unusedVariables false
set_option linter.unusedSimpArgs false
set_option linter.defProp false
set_option maxRecDepth 1000000

def LeB (M M' : List Bool) : Prop := M.length = M'.length ∧ ∀ i : Nat, M.getD i false = true → M'.getD i false = true
theorem LeB.refl {M : List Bool} : LeB M M := ⟨rfl, fun _ h => h⟩
theorem LeB.trans {a b c : List Bool} (h : LeB a b) (h' : LeB b c) : LeB a c := ⟨h.1.trans h'.1, fun i hi => h'.2 i (h.2 i hi)⟩
theorem LeB.set {M : List Bool} {k : Nat} : LeB M (M.set k true) := by
  refine ⟨by simp, fun i hi => ?_⟩
  rw [List.getD_eq_getElem?_getD, List.getElem?_set]
  split
  · rename_i e
    subst e
    by_cases hk : k < M.length
    · simp [hk]
    · rw [List.getD_eq_getElem?_getD, List.getElem?_eq_none (by omega)] at hi; simp at hi
  · rw [← List.getD_eq_getElem?_getD]; exact hi
theorem LeB.setm {M M' : List Bool} {k : Nat} (h : LeB M M') : LeB (M.set k true) (M'.set k true) := by
  refine ⟨by simpa using h.1, fun i hi => ?_⟩
  have hl := h.1
  rw [List.getD_eq_getElem?_getD, List.getElem?_set] at hi ⊢
  split at hi
  · rename_i e
    subst e
    rw [if_pos rfl]
    by_cases hk : k < M.length
    · simp [← hl, hk]
    · simp [hk] at hi
  · rename_i e
    rw [if_neg e, ← List.getD_eq_getElem?_getD]
    rw [← List.getD_eq_getElem?_getD] at hi
    exact h.2 i hi
section
variable {α : Type} {f : List Bool → α → List Bool}
theorem fold_inf : ∀ {l : List α} {M : List Bool}, (∀ a ∈ l, ∀ M, LeB M (f M a)) → LeB M (l.foldl f M)
  | [], _, _ => LeB.refl
  | a :: l, M, h => (h a (by simp) M).trans (fold_inf fun b hb => h b (by simp [hb]))
theorem fold_mono : ∀ {l : List α} {M M' : List Bool}, (∀ a ∈ l, ∀ M M', LeB M M' → LeB (f M a) (f M' a)) → LeB M M' → LeB (l.foldl f M) (l.foldl f M')
  | [], _, _, _, h => h
  | a :: l, M, M', hf, h => fold_mono (l := l) (fun b hb => hf b (by simp [hb])) (hf a (by simp) M M' h)
theorem fold_mem : ∀ {l : List α} {M : List Bool}, (∀ a ∈ l, ∀ M, LeB M (f M a)) → (∀ a ∈ l, ∀ M M', LeB M M' → LeB (f M a) (f M' a)) → ∀ a ∈ l, LeB (f M a) (l.foldl f M)
  | [], _, _, _ => fun a ha => by simp at ha
  | b :: l, M, h, hm => by
    intro a ha
    rcases List.mem_cons.1 ha with rfl | ha
    · rw [List.foldl_cons]
      exact fold_inf fun c hc => h c (by simp [hc])
    · rw [List.foldl_cons]
      exact (hm a (by simp [ha]) _ _ (h b (by simp) M)).trans (fold_mem (l := l) (fun c hc => h c (by simp [hc])) (fun c hc => hm c (by simp [hc])) a ha)
end
theorem Exq.mkv_inf : ∀ (x : Exq) (M : List Bool), LeB M (x.mkv M) := by
  refine Exq.ind fun x ih M => ?_
  rw [Exq.mkv_eq]
  refine LeB.trans ?_ (fold_inf fun y hy M => ih y hy M)
  split
  · exact LeB.set
  · exact LeB.refl
theorem Exq.mkv_mono : ∀ (x : Exq) (M M' : List Bool), LeB M M' → LeB (x.mkv M) (x.mkv M') := by
  refine Exq.ind fun x ih M M' h => ?_
  rw [Exq.mkv_eq, Exq.mkv_eq]
  refine fold_mono (fun y hy M M' => ih y hy M M') ?_
  split
  · exact h.setm
  · exact h
def occB (x : Exq) (v : Nat) : Bool := (x.mkv [false, false, false]).getD v false
theorem bool3 {M : List Bool} (h : M.length = 3) : ∃ a b c, M = [a, b, c] := by
  match M, h with
  | [a, b, c], _ => exact ⟨a, b, c, rfl⟩
theorem LeB.cnt {M M' : List Bool} (h : LeB M M') (hM : M.length = 3) (hne : M ≠ M') : M.count true < M'.count true := by
  obtain ⟨a, b, c, rfl⟩ := bool3 hM
  obtain ⟨a', b', c', rfl⟩ := bool3 (by rw [← h.1]; rfl)
  have h0 := h.2 0
  have h1 := h.2 1
  have h2 := h.2 2
  simp at h0 h1 h2
  clear h hM
  revert a b c a' b' c'
  decide
end Go.Proofs.Ytonjglbachhdcaa

/-
  What variables occur in expressions: by the program; equal lists of truth values.
-/
namespace Go.Proofs.Ytonjglbachhdcaa
open Go
set_option linter.all false
set_option linter.unusedVariables false
set_option linter.unusedSimpArgs false
set_option linter.defProp false
set_option maxRecDepth 1000000

theorem c_ExprVars {h : Heap} {v : Value} {x : Exq} (R : Rep h v x) : CallE Try.prog fn_impl_ExprVars [v] h (fun u h' => HS h [ow u (if x.Ok then x.mkv [false, false, false] else [])] h') := by
  have FA := R.aExq
  refine CallE.gen fun k hk => EN_impl_ExprVars rfl ?_
  simp -implicitDefEqProofs (disch := first | omega | (simp only [List.length_set, List.length_replicate, List.length_append, List.length_map, List.length_take, List.length_cons, List.length_nil]; omega)) [wrap64, FA]
  refine (c_ExprValid R).go ?_
  rintro _ h1 ⟨l1, rfl⟩
  by_cases q : x.Ok
  case neg =>
    simp -implicitDefEqProofs (disch := first | omega | (simp only [List.length_set, List.length_replicate, List.length_append, List.length_map, List.length_take, List.length_cons, List.length_nil]; omega)) [wrap64, q]
    exact RetK.keep (hk _ _ (by rw [if_neg q]; exact HS.nil_ow (Γ := []) l1))
  simp -implicitDefEqProofs (disch := first | omega | (simp only [List.length_set, List.length_replicate, List.length_append, List.length_map, List.length_take, List.length_cons, List.length_nil]; omega)) [wrap64, q]
  refine HS.mks (Γ := []) (α := Bool) (z := false) (n := 3) (c := 3) (show HS h [] h1 from l1) rfl rfl own_false (Nat.le_refl _) (by decide) (by decide) fun m h2 H => ?_
  simp -implicitDefEqProofs (disch := first | omega | (simp only [List.length_set, List.length_replicate, List.length_append, List.length_map, List.length_take, List.length_cons, List.length_nil]; omega)) [wrap64, FA]
  refine (c_vars x q.1 R H rfl).go ?_
  intro _ h3 H
  simp -implicitDefEqProofs (disch := first | omega | (simp only [List.length_set, List.length_replicate, List.length_append, List.length_map, List.length_take, List.length_cons, List.length_nil]; omega)) [wrap64]
  exact RetK.keep (hk _ _ (by rw [if_pos q]; exact H))
theorem c_wpOccurs {h : Heap} {v : Value} {x : Exq} {i : Nat} (R : Rep h v x) (hx : x.Ok) (hi : i < 3) : CallE Try.prog fn_laws_wpOccurs [v, .int .i64 i] h (fun u h' => h.le h' ∧ u = .bool (occB x i)) := by
  have FA := R.aExq
  refine CallE.gen fun k hk => EN_laws_wpOccurs rfl ?_
  simp -implicitDefEqProofs (disch := first | omega | (simp only [List.length_set, List.length_replicate, List.length_append, List.length_map, List.length_take, List.length_cons, List.length_nil]; omega)) [wrap64, FA]
  refine (c_ExprVars R).go ?_
  intro u h1 H
  rw [if_pos hx] at H
  obtain ⟨M, hM⟩ : ∃ M, M = x.mkv [false, false, false] := ⟨_, rfl⟩
  rw [← hM] at H
  have hl : M.length = 3 := by rw [hM]; exact x.mkv_len rfl
  have hoc : occB x i = M[i]'(by omega) := by simp [occB, ← hM, hl, hi]
  have hi' : (i : Int) < 3 := by omega
  simp -implicitDefEqProofs (disch := first | omega | (simp only [List.length_set, List.length_replicate, List.length_append, List.length_map, List.length_take, List.length_cons, List.length_nil]; omega)) [wrap64, H.rep.len, hl, hi', H.rep.B]
  exact RetK.keep (hk _ _ ⟨H.base, by rw [hoc]⟩)
end Go.Proofs.Ytonjglbachhdcaa

/-
  Checking reachable states: invariants and deadlocks, by the program and by the reference.
-/
namespace Go.Proofs.Ytonjglbachhdcaa
open Go
set_option linter.all false
set_option linter.unusedVariables false
set_option linter.unusedSimpArgs false
set_option linter.defProp false
set_option maxRecDepth 1000000

noncomputable def ckV (s : Sy) (b : Prop) (bad : Sta → Bool) : Int := open Classical in if ¬ (b ∧ s.Ok) then 3 else if ¬ bgOk s then 2 else if (bgR s).states.any bad then 1 else 0
noncomputable def ckL (s : Sy) (b : Prop) (bad : Sta → Bool) : List Sta := open Classical in if ¬ (b ∧ s.Ok) then [] else if ¬ bgOk s then [] else match (bgR s).states.findIdx? bad with | some i => sof (bgR s) (pth (bgR s).next i) | none => []
def RI2 (n : Int) (l : List Sta) (h : Heap) : Value → Heap → Prop := fun u h' => ∃ x, u = .tuple #[.int .i64 n, x] ∧ HS h [ow x l] h'

def badE (e : Exq) (st : Sta) : Bool := decide (e.ev st.vals = 0)
def badD (s : Sy) (st : Sta) : Bool := decide (enb s st = [])
end Go.Proofs.Ytonjglbachhdcaa

/-
  Values depend on the variables that occur; independent edges commute: in plain Lean.
-/
namespace Go.Proofs.Ytonjglbachhdcaa
open Go
set_option linter.all false
set_option linter.unusedVariables false
set_option linter.unusedSimpArgs false
set_option linter.defProp false
set_option maxRecDepth 1000000

theorem ev_loc {vs ws : List Int} : ∀ {n : Nat} {x : Exq}, x.Shp n → ∀ {M : List Bool}, M.length = 3 → (∀ v : Nat, (x.mkv M).getD v false = true → vs.getD v 0 = ws.getD v 0) → x.ev vs = x.ev ws
  | 0, _, h, _, _, _ => h.elim
  | n + 1, x, h, M, hM, H => by
    have hn := h.1
    obtain ⟨M0, hM0⟩ : ∃ M0, M0 = (if x.kind = 2 then M.set x.val.toNat true else M) := ⟨_, rfl⟩
    have e := Exq.mkv_eq x M
    rw [← hM0] at e
    have hM03 : M0.length = 3 := by rw [hM0]; split <;> simp [hM]
    have hle : LeB M0 (x.mkv M) := by rw [e]; exact fold_inf fun y _ M => y.mkv_inf M
    have hk : ∀ y ∈ x.kids, y.ev vs = y.ev ws := fun y hy => by
      refine ev_loc (h.2 y hy) hM03 fun v hv => H v ?_
      rw [e]
      exact (fold_mem (f := fun M (x : Exq) => x.mkv M) (fun y _ M => y.mkv_inf M) (fun y _ => y.mkv_mono) y hy).2 v hv
    have hmap : x.kids.map (Exq.ev vs) = x.kids.map (Exq.ev ws) := List.map_congr_left hk
    rw [Exq.ev_eq, Exq.ev_eq]
    unfold Exq.kev
    rw [hmap]
    unfold Exq.evk
    by_cases h2 : x.kind = 2
    · have hhi := hn.hi
      rw [h2] at hhi
      simp [Exq.most] at hhi
      have h3 : x.val.toNat < M.length := by omega
      have : vs.getD x.val.toNat 0 = ws.getD x.val.toNat 0 := H _ (hle.2 _ (by rw [hM0, if_pos h2]; simp [h3]))
      rw [this]
    · simp only [if_neg h2]
theorem ev_occ {vs ws : List Int} {x : Exq} (hx : x.Ok) (H : ∀ v : Nat, occB x v = true → vs.getD v 0 = ws.getD v 0) : x.ev vs = x.ev ws := ev_loc hx.1 rfl H
theorem ev_set {vs : List Int} {x : Exq} {k : Nat} {a : Int} (hx : x.Ok) (h : occB x k = false) : x.ev (vs.set k a) = x.ev vs := by
  refine ev_occ hx fun v hv => ?_
  rw [List.getD_eq_getElem?_getD, List.getD_eq_getElem?_getD, List.getElem?_set]
  split
  · rename_i e; subst e; rw [h] at hv; exact absurd hv (by decide)
  · rfl

/-- two edges are independent -/
def Ind (a b : Ed) : Prop := ¬ (0 ≤ a.var ∧ (a.var = b.var ∨ occB b.guard a.var.toNat = true ∨ (0 ≤ b.var ∧ occB b.value a.var.toNat = true))) ∧ (b.var < 0 ∨ (occB a.guard b.var.toNat = false ∧ (a.var < 0 ∨ occB a.value b.var.toNat = false)))
theorem Ed.Ok.val {e : Ed} {n : Int} (h : e.Ok n) (h0 : 0 ≤ e.var) : e.value.Ok := h.vl.elim (fun hh => hh.2) (fun hh => absurd hh.1 (by omega))
theorem tk_comm {st : Sta} {i j : Nat} {a b : Ed} {n m : Int} (hij : i ≠ j) (ha : a.Ok n) (hb : b.Ok m) (h : Ind a b) : (st.tk i a).tk j b = (st.tk j b).tk i a := by
  obtain ⟨h1, h2⟩ := h
  unfold Sta.tk
  simp only
  have hl : (st.locs.set i a.to).set j b.to = (st.locs.set j b.to).set i a.to := List.set_comm _ _ hij
  rw [hl]
  by_cases c1 : 0 ≤ a.var
  · by_cases c2 : 0 ≤ b.var
    · have d1 : a.var ≠ b.var := fun e => h1 ⟨c1, .inl e⟩
      have d2 : occB b.value a.var.toNat = false := by
        rw [Bool.eq_false_iff]
        exact fun e => h1 ⟨c1, .inr (.inr ⟨c2, e⟩)⟩
      have d3 : occB a.value b.var.toNat = false := by
        rcases h2 with h2 | ⟨_, h2 | h2⟩
        · omega
        · omega
        · exact h2
      rw [if_pos c1, if_pos c2, if_pos c2, if_pos c1, ev_set (hb.val c2) d2, ev_set (ha.val c1) d3]
      congr 1
      exact List.set_comm _ _ (show a.var.toNat ≠ b.var.toNat by omega)
    · rw [if_pos c1, if_neg c2, if_neg c2, if_pos c1]
  · rw [if_neg c1, if_neg c1]
theorem rdy_tk {st : Sta} {i j : Nat} {a e : Ed} (hij : i ≠ j) (he : e.guard.Ok) (h : 0 ≤ a.var → occB e.guard a.var.toNat = false) : e.rdy (st.tk i a) j = e.rdy st j := by
  have h1 : (st.tk i a).locs.getD j 0 = st.locs.getD j 0 := by
    simp only [Sta.tk, List.getD_eq_getElem?_getD, List.getElem?_set]
    rw [if_neg hij]
  have h2 : e.guard.ev (st.tk i a).vals = e.guard.ev st.vals := by
    simp only [Sta.tk]
    split
    · rename_i h0; exact ev_set he (h h0)
    · rfl
  unfold Ed.rdy
  rw [h1, h2]

theorem enb_solo {s : Sy} {st : Sta} {i k : Nat} (hi : i < s.procs.length) (hk : k < s.procs[i].edges.length) (hsy : s.procs[i].edges[k].sync = 0) (hr : s.procs[i].edges[k].rdy st i = true) : (⟨i, k, -1, -1⟩ : Stp) ∈ enb s st := by
  unfold enb
  refine mem_fmz.2 ⟨i, hi, ?_⟩
  unfold enb1
  refine mem_fmz.2 ⟨k, hk, ?_⟩
  unfold enb2
  rw [if_neg (by rw [hsy, hr]; simp), if_pos hsy]
  simp
theorem enb_neg {s : Sy} {st : Sta} {t : Stp} (h : t ∈ enb s st) (hp : t.partner < 0) : ∃ (i k : Nat) (hi : i < s.procs.length) (hk : k < s.procs[i].edges.length), t = ⟨i, k, -1, -1⟩ ∧ s.procs[i].edges[k].sync = 0 ∧ s.procs[i].edges[k].rdy st i = true := by
  unfold enb at h
  obtain ⟨i, hi, h⟩ := mem_fmz.1 h
  unfold enb1 at h
  obtain ⟨k, hk, h⟩ := mem_fmz.1 h
  unfold enb2 at h
  split at h
  · simp at h
  · rename_i h1
    split at h
    · rename_i h2
      simp at h; subst h
      simp only [not_or] at h1
      exact ⟨i, k, hi, hk, rfl, h2, by simpa using h1.2⟩
    · unfold prt at h
      obtain ⟨j, hj, h⟩ := mem_fmz.1 h
      unfold prt1 at h
      obtain ⟨m, hm, h⟩ := mem_fmz.1 h
      unfold prt2 at h
      split at h
      · simp at h; subst h
        simp only at hp
        omega
      · simp at h
theorem aft_solo {s : Sy} {st : Sta} {i k : Nat} (hi : i < s.procs.length) (hk : k < s.procs[i].edges.length) : st.aft s ⟨i, k, -1, -1⟩ = st.tk i s.procs[i].edges[k] := by
  unfold Sta.aft
  rw [if_neg (show ¬ (0 : Int) ≤ -1 by decide)]
  simp only [Int.toNat_natCast, Sy.ed_eq hi hk]
theorem steps_commute {s : Sy} {st : Sta} {i k j m : Nat} (hs : s.Ok) (hi : i < s.procs.length) (hk : k < s.procs[i].edges.length) (hj : j < s.procs.length) (hm : m < s.procs[j].edges.length) (hij : i ≠ j)
    (h1 : (⟨i, k, -1, -1⟩ : Stp) ∈ enb s st) (h2 : (⟨j, m, -1, -1⟩ : Stp) ∈ enb s st) (hI : Ind s.procs[i].edges[k] s.procs[j].edges[m]) :
    (⟨j, m, -1, -1⟩ : Stp) ∈ enb s (st.aft s ⟨i, k, -1, -1⟩) ∧ (⟨i, k, -1, -1⟩ : Stp) ∈ enb s (st.aft s ⟨j, m, -1, -1⟩) ∧ (st.aft s ⟨i, k, -1, -1⟩).aft s ⟨j, m, -1, -1⟩ = (st.aft s ⟨j, m, -1, -1⟩).aft s ⟨i, k, -1, -1⟩ := by
  have ha := (hs.at hi).at hk
  have hb := (hs.at hj).at hm
  obtain ⟨i', k', hi', hk', e1, s1, r1⟩ := enb_neg h1 (show (-1 : Int) < 0 by decide)
  obtain ⟨j', m', hj', hm', e2, s2, r2⟩ := enb_neg h2 (show (-1 : Int) < 0 by decide)
  simp only [Stp.mk.injEq, and_true, Int.ofNat_inj] at e1 e2
  obtain ⟨rfl, rfl⟩ := e1
  obtain ⟨rfl, rfl⟩ := e2
  rw [aft_solo hi hk, aft_solo hj hm, aft_solo hj hm, aft_solo hi hk]
  refine ⟨enb_solo hj hm s2 ?_, enb_solo hi hk s1 ?_, tk_comm hij ha hb hI⟩
  · rw [rdy_tk hij hb.gd fun h0 => ?_]
    · exact r2
    · rw [Bool.eq_false_iff]
      exact fun e => hI.1 ⟨h0, .inr (.inl e)⟩
  · rw [rdy_tk (Ne.symm hij) ha.gd fun h0 => ?_]
    · exact r1
    · rcases hI.2 with hh | hh
      · omega
      · exact hh.1
end Go.Proofs.Ytonjglbachhdcaa

/-
  Small functions that laws call: independent edges, values of expressions, letters of states, shortest paths.
-/
namespace Go.Proofs.Ytonjglbachhdcaa
open Go
set_option linter.all false
set_option linter.unusedVariables false
set_option linter.unusedSimpArgs false
set_option linter.defProp false
set_option maxRecDepth 1000000

theorem c_wpIndependent {h : Heap} {v w : Value} {a b : Ed} {n m : Int} (ha : a.Ok n) (hb : b.Ok m) (Ra : Rep h v a) (Rb : Rep h w b) : CallE Try.prog fn_laws_wpIndependent [v, w] h (fun u h' => h.le h' ∧ ∃ r : Bool, u = .bool r ∧ (r = true → Ind a b)) := by
  obtain ⟨v1, v2, rfl, ok, R1, R2⟩ := Rep_Ed.1 Ra
  obtain ⟨w1, w2, rfl, ok2, S1, S2⟩ := Rep_Ed.1 Rb
  have hO1 := R1.one
  have hO2 := R2.one
  have hO3 := S1.one
  have hO4 := S2.one
  have a3 := ha.v1
  have b3 := hb.v1
  have Rg := Rep.gd (w2 := v2) ok R1
  have Rv := Rep.vl ok R2
  have Sg := Rep.gd (w2 := w2) ok2 S1
  have Sv := Rep.vl ok2 S2
  refine CallE.gen fun k hk => EN_laws_wpIndependent rfl ?_
  have hno : ∀ {h'}, h.le h' → k (.bool false) h' := fun hl => hk _ _ ⟨hl, _, rfl, fun e => absurd e (by decide)⟩
  by_cases p0 : 0 ≤ a.var
  case neg =>
    by_cases q0 : b.var < 0
    · simp -implicitDefEqProofs (disch := first | omega | (simp only [List.length_set, List.length_replicate, List.length_append, List.length_map, List.length_take, List.length_cons, List.length_nil]; omega)) [wrap64, Ed.cs, setC, p0, q0]
      exact RetK.keep (hk _ _ ⟨Heap.le.refl _, _, rfl, fun _ => ⟨fun hh => p0 hh.1, .inl q0⟩⟩)
    obtain ⟨y, hy⟩ : ∃ y : Nat, b.var = y := ⟨_, (Int.toNat_of_nonneg (by omega)).symm⟩
    have hy3 : y < 3 := by omega
    have p1 : a.var < 0 := by omega
    have hyn : ¬ (y : Int) < 0 := by omega
    simp -implicitDefEqProofs (disch := first | omega | (simp only [List.length_set, List.length_replicate, List.length_append, List.length_map, List.length_take, List.length_cons, List.length_nil]; omega)) [wrap64, Ed.cs, setC, hO1, hO2, p0, q0, hy, hyn]
    refine (c_wpOccurs Rg ha.gd hy3).go ?_
    rintro _ h1 ⟨l1, rfl⟩
    by_cases oc : occB a.guard y = true
    · simp -implicitDefEqProofs (disch := first | omega | (simp only [List.length_set, List.length_replicate, List.length_append, List.length_map, List.length_take, List.length_cons, List.length_nil]; omega)) [wrap64, oc]
      exact RetK.keep (hno l1)
    · simp -implicitDefEqProofs (disch := first | omega | (simp only [List.length_set, List.length_replicate, List.length_append, List.length_map, List.length_take, List.length_cons, List.length_nil]; omega)) [wrap64, oc, p1]
      exact RetK.keep (hk _ _ ⟨l1, _, rfl, fun _ => ⟨fun hh => p0 hh.1, .inr ⟨by rw [hy, Int.toNat_natCast]; simpa using oc, .inl p1⟩⟩⟩)
  obtain ⟨x, hx⟩ : ∃ x : Nat, a.var = x := ⟨_, (Int.toNat_of_nonneg (by omega)).symm⟩
  have hx3 : x < 3 := by omega
  have pn : ¬ a.var < 0 := by omega
  by_cases e : a.var = b.var
  · have p0' : (0 : Int) ≤ b.var := e ▸ p0
    simp -implicitDefEqProofs (disch := first | omega | (simp only [List.length_set, List.length_replicate, List.length_append, List.length_map, List.length_take, List.length_cons, List.length_nil]; omega)) [wrap64, Ed.cs, setC, p0, e, p0']
    exact RetK.keep (hno (Heap.le.refl _))
  have e' : ¬ ((x : Int) = b.var) := by omega
  have p0' : (0 : Int) ≤ x := by omega
  simp -implicitDefEqProofs (disch := first | omega | (simp only [List.length_set, List.length_replicate, List.length_append, List.length_map, List.length_take, List.length_cons, List.length_nil]; omega)) [wrap64, Ed.cs, setC, hO3, hO4, p0, e, hx, e', p0']
  refine (c_wpOccurs Sg hb.gd hx3).go ?_
  rintro _ h1 ⟨l1, rfl⟩
  by_cases oc : occB b.guard x = true
  · simp -implicitDefEqProofs (disch := first | omega | (simp only [List.length_set, List.length_replicate, List.length_append, List.length_map, List.length_take, List.length_cons, List.length_nil]; omega)) [wrap64, oc]
    exact RetK.keep (hno l1)
  by_cases q0 : 0 ≤ b.var
  case neg =>
    have q1 : b.var < 0 := by omega
    simp -implicitDefEqProofs (disch := first | omega | (simp only [List.length_set, List.length_replicate, List.length_append, List.length_map, List.length_take, List.length_cons, List.length_nil]; omega)) [wrap64, oc, q0, q1]
    exact RetK.keep (hk _ _ ⟨l1, _, rfl, fun _ => ⟨fun hh => by
      rcases hh.2 with hh | hh | hh
      · exact e hh
      · rw [hx, Int.toNat_natCast] at hh; exact oc hh
      · exact q0 hh.1, .inl q1⟩⟩)
  obtain ⟨y, hy⟩ : ∃ y : Nat, b.var = y := ⟨_, (Int.toNat_of_nonneg (by omega)).symm⟩
  have hy3 : y < 3 := by omega
  have qn : ¬ b.var < 0 := by omega
  simp -implicitDefEqProofs (disch := first | omega | (simp only [List.length_set, List.length_replicate, List.length_append, List.length_map, List.length_take, List.length_cons, List.length_nil]; omega)) [wrap64, oc, q0, hx, setC, hO4]
  refine (c_wpOccurs (Sv.le l1) (hb.val q0) hx3).go ?_
  rintro _ h2 ⟨l2, rfl⟩
  have l2 := l1.trans l2
  by_cases oc2 : occB b.value x = true
  · simp -implicitDefEqProofs (disch := first | omega | (simp only [List.length_set, List.length_replicate, List.length_append, List.length_map, List.length_take, List.length_cons, List.length_nil]; omega)) [wrap64, oc2]
    exact RetK.keep (hno l2)
  have hyn : ¬ (y : Int) < 0 := by omega
  simp -implicitDefEqProofs (disch := first | omega | (simp only [List.length_set, List.length_replicate, List.length_append, List.length_map, List.length_take, List.length_cons, List.length_nil]; omega)) [wrap64, oc2, qn, hy, setC, hO1, hyn]
  refine (c_wpOccurs (Rg.le l2) ha.gd hy3).go ?_
  rintro _ h3 ⟨l3, rfl⟩
  have l3 := l2.trans l3
  by_cases oc3 : occB a.guard y = true
  · simp -implicitDefEqProofs (disch := first | omega | (simp only [List.length_set, List.length_replicate, List.length_append, List.length_map, List.length_take, List.length_cons, List.length_nil]; omega)) [wrap64, oc3]
    exact RetK.keep (hno l3)
  have pn' : ¬ (x : Int) < 0 := by omega
  simp -implicitDefEqProofs (disch := first | omega | (simp only [List.length_set, List.length_replicate, List.length_append, List.length_map, List.length_take, List.length_cons, List.length_nil]; omega)) [wrap64, oc3, pn, hy, setC, hO2, pn', hx]
  refine (c_wpOccurs (Rv.le l3) (ha.val p0) hy3).go ?_
  rintro _ h4 ⟨l4, rfl⟩
  have l4 := l3.trans l4
  simp -implicitDefEqProofs (disch := first | omega | (simp only [List.length_set, List.length_replicate, List.length_append, List.length_map, List.length_take, List.length_cons, List.length_nil]; omega)) [wrap64]
  refine RetK.keep (hk _ _ ⟨l4, _, rfl, fun hr => ⟨fun hh => ?_, .inr ⟨?_, .inr ?_⟩⟩⟩)
  · rcases hh.2 with hh | hh | hh
    · exact e hh
    · rw [hx, Int.toNat_natCast] at hh; exact oc hh
    · have := hh.2; rw [hx, Int.toNat_natCast] at this; exact oc2 this
  · rw [hy, Int.toNat_natCast]; simpa using oc3
  · rw [hy, Int.toNat_natCast]; simpa using hr
end Go.Proofs.Ytonjglbachhdcaa

/-
  The law: independent steps commute.
-/
namespace Go.Proofs.Ytonjglbachhdcaa
open Go
set_option linter.all false
set_option linter.unusedVariables false
set_option linter.unusedSimpArgs false
set_option linter.defProp false
set_option maxRecDepth 1000000

set_option maxHeartbeats 2000000 in
theorem c_FnStepsCommute {h : Heap} {v : Value} {l : List (BitVec 8)} (R : Rep h v l) : CallE Try.prog fn_laws_FnStepsCommute [v] h (fun u h' => h.le h' ∧ u = .bool true) := by
  refine CallE.gen fun k hk => EN_laws_FnStepsCommute rfl ?_
  simp -implicitDefEqProofs (disch := first | omega | (simp only [List.length_set, List.length_replicate, List.length_append, List.length_map, List.length_take, List.length_cons, List.length_nil]; omega)) [wrap64, R.len]
  refine IteW.mk (fun hlt => ?_) (fun hge => ?_)
  · simp -implicitDefEqProofs (disch := first | omega | (simp only [List.length_set, List.length_replicate, List.length_append, List.length_map, List.length_take, List.length_cons, List.length_nil]; omega)) [wrap64]
    exact RetK.keep (hk _ _ ⟨Heap.le.refl _, rfl⟩)
  simp -implicitDefEqProofs (disch := first | omega | (simp only [List.length_set, List.length_replicate, List.length_append, List.length_map, List.length_take, List.length_cons, List.length_nil]; omega)) [wrap64]
  refine (c_DrawEnabledSteps R).go ?_
  rintro _ h1 ⟨u1, u2, s, st, rfl, H⟩
  have FS := H.rep.aSy
  have FT := H.sw1.rep.aSta
  simp -implicitDefEqProofs (disch := first | omega | (simp only [List.length_set, List.length_replicate, List.length_append, List.length_map, List.length_take, List.length_cons, List.length_nil]; omega)) [wrap64, FS, FT, setC]
  refine (c_EnabledSteps H.rep H.sw1.rep).go ?_
  intro li h2 G
  have H := G.app H
  have FS := H.sw1.rep.aSy
  have FT := H.sw2.rep.aSta
  simp -implicitDefEqProofs (disch := first | omega | (simp only [List.length_set, List.length_replicate, List.length_append, List.length_map, List.length_take, List.length_cons, List.length_nil]; omega)) [wrap64, FS, FT, H.rep.len]
  refine (c_spec_EnabledSteps H.sw1.rep H.sw2.rep).go ?_
  intro lw h3 G
  have H := G.app H
  have hL := H.rep.lt
  by_cases q2 : ((ens s st).length : Int) < 2
  · simp -implicitDefEqProofs (disch := first | omega | (simp only [List.length_set, List.length_replicate, List.length_append, List.length_map, List.length_take, List.length_cons, List.length_nil]; omega)) [wrap64, H.rep.len, H.sw1.rep.len, q2, FS, FT]
    refine (c_spec_EnabledSteps H.sw2.rep H.sw3.rep).go ?_
    intro lw2 h4 G
    have H := G.app H
    simp -implicitDefEqProofs (disch := first | omega | (simp only [List.length_set, List.length_replicate, List.length_append, List.length_map, List.length_take, List.length_cons, List.length_nil]; omega)) [wrap64, H.rep.len, H.sw2.rep.len]
    exact RetK.keep (hk _ _ ⟨H.base, rfl⟩)
  have hpos : 0 < (ens s st).length := by omega
  obtain ⟨n, hn⟩ : ∃ n : Nat, (ens s st).length = n + 1 := ⟨(ens s st).length - 1, by omega⟩
  have m0 := List.getElem_mem (l := ens s st) hpos
  have m1 := List.getElem_mem (l := ens s st) (n := n) (by omega)
  obtain ⟨hs, hst, _⟩ := ens_mem m0
  obtain ⟨a, ha⟩ : ∃ a, a = (ens s st)[0] := ⟨_, rfl⟩
  obtain ⟨b, hb⟩ : ∃ b, b = (ens s st)[n] := ⟨_, rfl⟩
  rw [← ha] at m0
  rw [← hb] at m1
  have Rl := H.sw1.rep
  have Rs := H.sw2.rep
  have Rt := H.sw3.rep
  have l3 := H.base
  have oka : a.ok := by rw [ha]; exact Rl.okStp hpos
  have okb : b.ok := by rw [hb]; exact Rl.okStp (by omega)
  have hn1 : ((ens s st).length : Int) - 1 = n := by omega
  have hlw := H.rep.len
  have hll := H.sw1.rep.len
  clear H G
  by_cases pa : 0 ≤ a.partner
  · simp -implicitDefEqProofs (disch := first | omega | (simp only [List.length_set, List.length_replicate, List.length_append, List.length_map, List.length_take, List.length_cons, List.length_nil]; omega)) [wrap64, hlw, hll, q2, Rl.xStp, Rl.fStp, ← ha, hn1, ← hb, pa, Stp.v]
    exact RetK.keep (hk _ _ ⟨l3, rfl⟩)
  by_cases pb : 0 ≤ b.partner
  · simp -implicitDefEqProofs (disch := first | omega | (simp only [List.length_set, List.length_replicate, List.length_append, List.length_map, List.length_take, List.length_cons, List.length_nil]; omega)) [wrap64, hlw, hll, q2, Rl.xStp, Rl.fStp, ← ha, hn1, ← hb, pa, pb, Stp.v]
    exact RetK.keep (hk _ _ ⟨l3, rfl⟩)
  by_cases pp : a.proc = b.proc
  · simp -implicitDefEqProofs (disch := first | omega | (simp only [List.length_set, List.length_replicate, List.length_append, List.length_map, List.length_take, List.length_cons, List.length_nil]; omega)) [wrap64, hlw, hll, q2, Rl.xStp, Rl.fStp, ← ha, hn1, ← hb, pa, pb, pp, Stp.v]
    exact RetK.keep (hk _ _ ⟨l3, rfl⟩)
  have e0 := m0
  have e1 := m1
  rw [ens_ok hs hst] at e0 e1
  obtain ⟨i, k0, hi, hk0, rfl, sy1, r1⟩ := enb_neg e0 (by omega)
  obtain ⟨j, k1, hj, hk1, rfl, sy2, r2⟩ := enb_neg e1 (by omega)
  have hij : i ≠ j := fun e => pp (by rw [e])
  have hiji : ¬ ((i : Int) = j) := by omega
  have Rs0 := Rs
  obtain ⟨s1, s2, rfl, S1, S2⟩ := Rep_Sy.1 Rs
  obtain ⟨we, w1, w2, hu, R3, hu2, ok1, G1, G2⟩ := S2.edge hi hk0
  have hP := hld_parts hu
  obtain ⟨wf, x1, x2, hu', R4, hu2', ok2, G3, G4⟩ := S2.edge hj hk1
  have hP' := hld_parts hu'
  have Ea := Rep_Ed.2 ⟨w1, w2, rfl, ok1, G1, G2⟩
  have Eb := Rep_Ed.2 ⟨x1, x2, rfl, ok2, G3, G4⟩
  have Va := (hs.at hi).at hk0
  have Vb := (hs.at hj).at hk1
  simp -implicitDefEqProofs (disch := first | omega | (simp only [List.length_set, List.length_replicate, List.length_append, List.length_map, List.length_take, List.length_cons, List.length_nil]; omega)) [wrap64, hlw, hll, q2, Rl.xStp, Rl.fStp, ← ha, hn1, ← hb, hiji, Stp.v, S2.X (n := 2) rfl, hP.1, hP.2.2.1, hP'.1, hP'.2.2.1, R3.X (n := 10) rfl, R4.X (n := 10) rfl, hu2, hu2', Ea.aEd, Eb.aEd]
  refine (c_wpIndependent Va Vb Ea Eb).go ?_
  rintro _ h4 ⟨l4, r, rfl, hr⟩
  cases r with
  | false =>
    simp -implicitDefEqProofs (disch := first | omega | (simp only [List.length_set, List.length_replicate, List.length_append, List.length_map, List.length_take, List.length_cons, List.length_nil]; omega)) [wrap64]
    exact RetK.keep (hk _ _ ⟨l3.trans l4, rfl⟩)
  | true =>
  obtain ⟨c1, c2, c3⟩ := steps_commute hs hi hk0 hj hk1 hij e0 e1 (hr rfl)
  have Rs := Rs0.le l4
  have Rt := Rt.le l4
  have l4 := l3.trans l4
  have o1 := Sta.aft_ok hs hst (enb_in e0)
  have o2 := Sta.aft_ok hs hst (enb_in e1)
  obtain ⟨a, hab⟩ : ∃ a : Stp, a = ⟨i, k0, -1, -1⟩ := ⟨_, rfl⟩
  obtain ⟨b, hbb⟩ : ∃ b : Stp, b = ⟨j, k1, -1, -1⟩ := ⟨_, rfl⟩
  rw [← hab] at c1 c2 c3 e0 m0 o1 oka
  rw [← hbb] at c1 c2 c3 e1 m1 o2 okb
  have m2 : b ∈ ens s (st.aft s a) := by rw [ens_ok hs o1]; rw [hab, hbb]; rw [hab, hbb] at c1; exact c1
  have m3 : a ∈ ens s (st.aft s b) := by rw [ens_ok hs o2]; exact c2
  have va : Value.agg #[.int .i64 i, .int .i64 k0, .int .i64 (-1), .int .i64 (-1)] = a.v := by rw [hab]; rfl
  have vb : Value.agg #[.int .i64 j, .int .i64 k1, .int .i64 (-1), .int .i64 (-1)] = b.v := by rw [hbb]; rfl
  have FEa := (Stp.rep (h := h4) oka).aStp
  have FEb := (Stp.rep (h := h4) okb).aStp
  simp -implicitDefEqProofs (disch := first | omega | (simp only [List.length_set, List.length_replicate, List.length_append, List.length_map, List.length_take, List.length_cons, List.length_nil]; omega)) [wrap64, va, vb, Rs.aSy, Rt.aSta, FEa, FEb]
  refine (c_ApplyStep Rs Rt oka).go ?_
  rintro _ h5 ⟨x, rfl, H⟩
  rw [aplR, if_pos m0] at H
  simp -implicitDefEqProofs (disch := first | omega | (simp only [List.length_set, List.length_replicate, List.length_append, List.length_map, List.length_take, List.length_cons, List.length_nil]; omega)) [wrap64, m0, Rs.aSy, Rt.aSta, H.rep.aSta, FEa, FEb, setC]
  refine (c_ApplyStep (Rs.on H) (Rt.on H) okb).go ?_
  rintro _ h6 ⟨y, rfl, G⟩
  rw [aplR, if_pos m1] at G
  have H := G.app H
  simp -implicitDefEqProofs (disch := first | omega | (simp only [List.length_set, List.length_replicate, List.length_append, List.length_map, List.length_take, List.length_cons, List.length_nil]; omega)) [wrap64, m1, Rs.aSy, H.rep.aSta, H.sw1.rep.aSta, FEa, FEb, setC]
  refine (c_ApplyStep (Rs.on H) H.sw1.rep okb).go ?_
  rintro _ h7 ⟨z, rfl, G⟩
  rw [aplR, if_pos m2] at G
  have H := G.app H
  simp -implicitDefEqProofs (disch := first | omega | (simp only [List.length_set, List.length_replicate, List.length_append, List.length_map, List.length_take, List.length_cons, List.length_nil]; omega)) [wrap64, m2, Rs.aSy, H.rep.aSta, H.sw1.rep.aSta, FEa, FEb, setC]
  refine (c_ApplyStep (Rs.on H) H.sw1.rep oka).go ?_
  rintro _ h8 ⟨w, rfl, G⟩
  rw [aplR, if_pos m3, ← c3] at G
  have H := G.app H
  simp -implicitDefEqProofs (disch := first | omega | (simp only [List.length_set, List.length_replicate, List.length_append, List.length_map, List.length_take, List.length_cons, List.length_nil]; omega)) [wrap64, m3, H.rep.aSta, H.sw1.rep.aSta, setC]
  refine (c_StateSame H.sw1.rep H.rep).go ?_
  rintro _ h8 ⟨rfl, rfl⟩
  simp -implicitDefEqProofs (disch := first | omega | (simp only [List.length_set, List.length_replicate, List.length_append, List.length_map, List.length_take, List.length_cons, List.length_nil]; omega)) [wrap64]
  exact RetK.keep (hk _ _ ⟨l4.trans H.base, rfl⟩)
end Go.Proofs.Ytonjglbachhdcaa
