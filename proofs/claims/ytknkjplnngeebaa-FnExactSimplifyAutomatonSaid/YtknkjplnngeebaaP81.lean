/-
  The reference's search for the greatest simulation, and what it makes of it.
-/
import Derived.Test.YtknkjplnngeebaaP6
namespace Go.Proofs.Ytknkjplnngeebaa
open Go
set_option linter.all false
set_option linter.unusedVariables false
set_option linter.unusedSimpArgs false
set_option linter.defProp false
set_option maxRecDepth 1000000

/-- the edges that leave a state -/
def leav (es : List Tr) (i : Nat) : List Tr := es.filter fun e => e.frm = (i : Int)
theorem leav_take {es : List Tr} {k i : Nat} (hk : k < es.length) : leav (es.take (k + 1)) i = leav (es.take k) i ++ (if es[k].frm = (i : Int) then [es[k]] else []) := by
  rw [leav, leav, List.take_add_one, List.getElem?_eq_getElem hk]
  simp only [Option.toList_some, List.filter_append]
  congr 1
  by_cases h : es[k].frm = (i : Int) <;> simp [h]
theorem leav_len {es : List Tr} {i : Nat} : (leav es i).length ≤ es.length := List.length_filter_le _ _

theorem c_l13Leaving {h : Heap} {v : Value} {a : Aut} (Ra : Rep h v a) (ha : a.Ok) : CallE Try.prog fn_spec_l13Leaving [v] h (fun u h' => ∃ L : List (List Tr), HS h [ow u L] h' ∧ L.length = a.acc.length ∧ ∀ i (hi : i < L.length), L[i] = leav a.edges i) := by
  obtain ⟨v1, v2, v3, rfl, R1, R2, R3⟩ := Rep_Aut.1 Ra
  refine CallE.gen fun k hk => EN_spec_l13Leaving rfl ?_
  have hn := ha.n
  have he := ha.e
  simp -implicitDefEqProofs (disch := first | omega | (simp only [List.length_set, List.length_replicate, List.length_append, List.length_map, List.length_take, List.length_cons, List.length_nil]; omega)) [wrap64, R2.len]
  refine HS.init.mks (α := List Tr) (z := []) rfl rfl own_nils (Nat.le_refl _) (by omega) (by omega) fun vo h1 H => ?_
  simp -implicitDefEqProofs (disch := first | omega | (simp only [List.length_set, List.length_replicate, List.length_append, List.length_map, List.length_take, List.length_cons, List.length_nil]; omega)) [wrap64]
  refine wp_count a.edges.length (fun k e h' => e = [none, some (.agg #[v1, v2, v3]), none, some vo, some (.int .i64 k)] ∧
    ∃ L : List (List Tr), HS h [ow vo L] h' ∧ L.length = a.acc.length ∧ ∀ i (hi : i < L.length), L[i] = leav (a.edges.take k) i) ⟨by simp, _, H, by simp, fun i hi => by simp [leav]⟩ ?_
  rintro J k _ h2 hJ hi ⟨rfl, L, H, hL, hE⟩
  simp -implicitDefEqProofs (disch := first | omega | (simp only [List.length_set, List.length_replicate, List.length_append, List.length_map, List.length_take, List.length_cons, List.length_nil]; omega)) [wrap64, (R3.on H).len]
  refine IteW.mk (fun hlt => ?_) (fun hge => ?_)
  · have hlx : k < a.edges.length := by omega
    have hx := ha.t hlx
    have hv := R3.okTr hlx
    unfold Tr.Ok at hx
    obtain ⟨f, hf⟩ : ∃ f : Nat, a.edges[k].frm = f := ⟨a.edges[k].frm.toNat, by omega⟩
    have hfL : f < L.length := by omega
    obtain ⟨w, hw, HT⟩ := H.take hfL
    change hload _ (some (elp 1 vo f)) none = some w at hw
    have hl := leav_len (es := a.edges.take k) (i := f)
    have hl2 : (a.edges.take k).length ≤ a.edges.length := by simp; omega
    rw [hE f hfL] at HT
    simp -implicitDefEqProofs (disch := first | omega | (simp only [List.length_set, List.length_replicate, List.length_append, List.length_map, List.length_take, List.length_cons, List.length_nil]; omega)) [wrap64, (R3.on H).fTr, (R3.on H).xTr, hf, H.rep.X (n := 1) rfl, hw, Tr.v, setC]
    refine HT.app1 a.edges[k] rfl rfl ?_ (R3.okF hlx) rfl rfl ?_ (by omega) fun w' h3 HT => ?_
    · rw [← hf]; rfl
    · omega
    simp -implicitDefEqProofs (disch := first | omega | (simp only [List.length_set, List.length_replicate, List.length_append, List.length_map, List.length_take, List.length_cons, List.length_nil]; omega)) [wrap64, HS.holeia HT.sw1 (n := 1) rfl hfL, (R3.on HT).fTr, hf]
    refine HS.storeH HT rfl rfl rfl fun h4 H => ?_
    simp -implicitDefEqProofs (disch := first | omega | (simp only [List.length_set, List.length_replicate, List.length_append, List.length_map, List.length_take, List.length_cons, List.length_nil]; omega)) [wrap64]
    refine hJ _ _ hlx ⟨rfl, _, H, by simpa using hL, fun i hi => ?_⟩
    rw [leav_take hlx, hf]
    rw [List.getElem_set]
    by_cases hif : f = i
    · subst hif; simp
    · have h5 : ¬ (f : Int) = (i : Int) := by omega
      rw [if_neg hif, if_neg h5, hE i (by simpa using hi)]; simp
  · simp -implicitDefEqProofs (disch := first | omega | (simp only [List.length_set, List.length_replicate, List.length_append, List.length_map, List.length_take, List.length_cons, List.length_nil]; omega)) [wrap64]
    rw [List.take_of_length_le (by omega)] at hE
    exact RetK.keep (hk _ _ ⟨L, H, hL, hE⟩)

theorem c_l13Answers {h : Heap} {v w u : Value} {fs gs : List Tr} {M : List (List Bool)} {n : Nat} (hn : n ≤ 64) (Rf : Rep h v fs) (Rg : Rep h w gs) (RM : Rep h u M) (hM : M.length = n) (hr : ∀ r ∈ M, r.length = n) (hf : ∀ e ∈ fs, e.Ok n) (hg : ∀ e ∈ gs, e.Ok n) :
    CallE Try.prog fn_spec_l13Answers [v, w, u] h (fun z h' => h' = h ∧ ∃ r : Bool, z = .bool r ∧ (r = true ↔ ∀ l : Nat, l < 8 → ∀ e ∈ fs, e.on l = true → ∃ f ∈ gs, f.on l = true ∧ matR M e.to.toNat f.to.toNat = true)) := by
  refine CallE.gen fun k hk => EN_spec_l13Answers rfl ?_
  have e1 := Rf.lt
  have e2 := Rg.lt
  simp -implicitDefEqProofs (disch := first | omega | (simp only [List.length_set, List.length_replicate, List.length_append, List.length_map, List.length_take, List.length_cons, List.length_nil]; omega)) [wrap64]
  refine wp_count 8 (fun l e h' => h' = h ∧ e = [some v, some w, some u, none, some (.int .i64 l), none, none, none] ∧
    ∀ l' < l, ∀ e ∈ fs, e.on (l' : Nat) = true → ∃ f ∈ gs, f.on (l' : Nat) = true ∧ matR M e.to.toNat f.to.toNat = true) ⟨rfl, by simp, fun l' hl' => absurd hl' (Nat.not_lt_zero l')⟩ ?_
  rintro J l _ h hJ hl ⟨rfl, rfl, hA⟩
  simp -implicitDefEqProofs (disch := first | omega | (simp only [List.length_set, List.length_replicate, List.length_append, List.length_map, List.length_take, List.length_cons, List.length_nil]; omega)) [wrap64]
  refine IteW.mk (fun hlt => ?_) (fun hge => ?_)
  · have hl8 : l < 8 := by omega
    simp -implicitDefEqProofs (disch := first | omega | (simp only [List.length_set, List.length_replicate, List.length_append, List.length_map, List.length_take, List.length_cons, List.length_nil]; omega)) [wrap64]
    refine wp_count fs.length (fun k e h' => h' = _ ∧ e = [some v, some w, some u, none, some (.int .i64 l), some (.int .i64 k), none, none] ∧
      ∀ k' (hk' : k' < fs.length), k' < k → fs[k'].on (l : Nat) = true → ∃ f ∈ gs, f.on (l : Nat) = true ∧ matR M fs[k'].to.toNat f.to.toNat = true) ⟨rfl, by simp, fun k' _ hk' => absurd hk' (Nat.not_lt_zero k')⟩ ?_
    rintro J2 k _ h hJ2 hk2 ⟨rfl, rfl, hA2⟩
    simp -implicitDefEqProofs (disch := first | omega | (simp only [List.length_set, List.length_replicate, List.length_append, List.length_map, List.length_take, List.length_cons, List.length_nil]; omega)) [wrap64, Rf.len]
    refine IteW.mk (fun hlt2 => ?_) (fun hge2 => ?_)
    · have hkx : k < fs.length := by omega
      have hnext : (fs[k].on (l : Nat) = true → ∃ f ∈ gs, f.on (l : Nat) = true ∧ matR M fs[k].to.toNat f.to.toNat = true) → ∀ k' (hk' : k' < fs.length), k' < k + 1 → fs[k'].on (l : Nat) = true → ∃ f ∈ gs, f.on (l : Nat) = true ∧ matR M fs[k'].to.toNat f.to.toNat = true := by
        intro h0 k' hk' hkk ho
        by_cases h1 : k' = k
        · subst h1; exact h0 ho
        · exact hA2 k' hk' (by omega) ho
      simp -implicitDefEqProofs (disch := first | omega | (simp only [List.length_set, List.length_replicate, List.length_append, List.length_map, List.length_take, List.length_cons, List.length_nil]; omega)) [wrap64, Rf.xTr]
      refine (c_l7On (Rep_Tr.2 ⟨rfl, Rf.okTr hkx⟩)).go ?_
      rintro _ _ ⟨rfl, rfl⟩
      by_cases ho : fs[k].on l = true
      case neg =>
        simp -implicitDefEqProofs (disch := first | omega | (simp only [List.length_set, List.length_replicate, List.length_append, List.length_map, List.length_take, List.length_cons, List.length_nil]; omega)) [wrap64, ho]
        exact hJ2 _ _ hkx ⟨rfl, rfl, hnext fun h => absurd h ho⟩
      have hok := hf _ (List.getElem_mem hkx)
      unfold Tr.Ok at hok
      obtain ⟨t, ht⟩ : ∃ t : Nat, fs[k].to = t := ⟨fs[k].to.toNat, by omega⟩
      rw [ht, Int.toNat_natCast] at hnext
      obtain ⟨z, hz, Rz⟩ := RM.ldL (i := t) (by omega)
      have hzl := hr _ (List.getElem_mem (show t < M.length by omega))
      simp -implicitDefEqProofs (disch := first | omega | (simp only [List.length_set, List.length_replicate, List.length_append, List.length_map, List.length_take, List.length_cons, List.length_nil]; omega)) [wrap64, ho]
      refine wp_while (σ := Nat × Bool) (fun s e h' => h' = _ ∧ e = [some v, some w, some u, none, some (.int .i64 l), some (.int .i64 k), some (.bool s.2), some (.int .i64 s.1)] ∧ s.1 ≤ gs.length ∧
        (if s.2 = true then ∃ f ∈ gs, f.on (l : Nat) = true ∧ matR M t f.to.toNat = true else ∀ m' (hm' : m' < gs.length), m' < s.1 → ¬ (gs[m'].on (l : Nat) = true ∧ matR M t gs[m'].to.toNat = true)))
        (fun s => gs.length - s.1) (0, false) ⟨rfl, by simp, by simp, by simp⟩ ?_
      rintro J3 ⟨m, some'⟩ _ h hJ3 ⟨rfl, rfl, hm, hS⟩
      dsimp only at hm hS
      by_cases hmx : m < gs.length
      case neg =>
        simp -implicitDefEqProofs (disch := first | omega | (simp only [List.length_set, List.length_replicate, List.length_append, List.length_map, List.length_take, List.length_cons, List.length_nil]; omega)) [wrap64, Rg.len, hmx]
        cases some' with
        | true =>
          simp -implicitDefEqProofs (disch := first | omega | (simp only [List.length_set, List.length_replicate, List.length_append, List.length_map, List.length_take, List.length_cons, List.length_nil]; omega)) [wrap64]
          exact hJ2 _ _ hkx ⟨rfl, rfl, hnext fun _ => by simpa using hS⟩
        | false =>
          simp -implicitDefEqProofs (disch := first | omega | (simp only [List.length_set, List.length_replicate, List.length_append, List.length_map, List.length_take, List.length_cons, List.length_nil]; omega)) [wrap64]
          refine RetK.keep (hk _ _ ⟨rfl, false, rfl, ?_⟩)
          simp only [Bool.false_eq_true, false_iff]
          intro h
          obtain ⟨f, hf, h1, h2⟩ := h l hl8 _ (List.getElem_mem hkx) ho
          obtain ⟨m', hm', rfl⟩ := List.mem_iff_getElem.1 hf
          rw [ht, Int.toNat_natCast] at h2
          exact (by simpa using hS : ∀ m' (hm' : m' < gs.length), m' < m → ¬ (gs[m'].on (l : Nat) = true ∧ matR M t gs[m'].to.toNat = true)) m' hm' (by omega) ⟨h1, h2⟩
      cases some' with
      | true =>
        simp -implicitDefEqProofs (disch := first | omega | (simp only [List.length_set, List.length_replicate, List.length_append, List.length_map, List.length_take, List.length_cons, List.length_nil]; omega)) [wrap64, Rg.len, hmx]
        exact hJ2 _ _ hkx ⟨rfl, rfl, hnext fun _ => by simpa using hS⟩
      | false =>
        have hS' : ∀ m' (hm' : m' < gs.length), m' < m → ¬ (gs[m'].on (l : Nat) = true ∧ matR M t gs[m'].to.toNat = true) := by simpa using hS
        simp -implicitDefEqProofs (disch := first | omega | (simp only [List.length_set, List.length_replicate, List.length_append, List.length_map, List.length_take, List.length_cons, List.length_nil]; omega)) [wrap64, Rg.len, hmx, Rg.xTr]
        refine (c_l7On (Rep_Tr.2 ⟨rfl, Rg.okTr hmx⟩)).go ?_
        rintro _ _ ⟨rfl, rfl⟩
        by_cases ho2 : gs[m].on l = true
        · have hok2 := hg _ (List.getElem_mem hmx)
          unfold Tr.Ok at hok2
          obtain ⟨t2, ht2⟩ : ∃ t2 : Nat, gs[m].to = t2 := ⟨gs[m].to.toNat, by omega⟩
          simp -implicitDefEqProofs (disch := first | omega | (simp only [List.length_set, List.length_replicate, List.length_append, List.length_map, List.length_take, List.length_cons, List.length_nil]; omega)) [wrap64, ho2, Rf.X (n := 4) rfl, Rf.fTr, ht, RM.X (n := 1) rfl, hz, Rg.X (n := 4) rfl, Rg.fTr, ht2, Rz.B]
          refine hJ3 (m + 1, M[t][t2]'(by omega)) _ _ (by simp; omega) ⟨rfl, rfl, hmx, ?_⟩
          have hmat : matR M t t2 = M[t][t2]'(by omega) := matR_get (by omega) (by omega)
          cases hb : M[t][t2]'(by omega) with
          | true => exact ⟨_, List.getElem_mem hmx, ho2, by rw [ht2]; simp [hmat, hb]⟩
          | false =>
            simp only [Bool.false_eq_true, if_false]
            intro m' hm' hmm
            by_cases h1 : m' = m
            · subst h1; rintro ⟨_, h2⟩; rw [ht2, Int.toNat_natCast, hmat, hb] at h2; simp at h2
            · exact hS' m' hm' (by omega)
        · simp -implicitDefEqProofs (disch := first | omega | (simp only [List.length_set, List.length_replicate, List.length_append, List.length_map, List.length_take, List.length_cons, List.length_nil]; omega)) [wrap64, ho2]
          refine hJ3 (m + 1, false) _ _ (by simp; omega) ⟨rfl, rfl, hmx, ?_⟩
          simp only [Bool.false_eq_true, if_false]
          intro m' hm' hmm
          by_cases h1 : m' = m
          · subst h1; exact fun h => ho2 h.1
          · exact hS' m' hm' (by omega)
    · simp -implicitDefEqProofs (disch := first | omega | (simp only [List.length_set, List.length_replicate, List.length_append, List.length_map, List.length_take, List.length_cons, List.length_nil]; omega)) [wrap64]
      refine hJ _ _ hl8 ⟨rfl, rfl, fun l' hl' e he ho => ?_⟩
      by_cases h1 : l' = l
      · subst h1
        obtain ⟨k', hk', rfl⟩ := List.mem_iff_getElem.1 he
        exact hA2 k' hk' (by omega) ho
      · exact hA l' (by omega) e he ho
  · simp -implicitDefEqProofs (disch := first | omega | (simp only [List.length_set, List.length_replicate, List.length_append, List.length_map, List.length_take, List.length_cons, List.length_nil]; omega)) [wrap64]
    refine RetK.keep (hk _ _ ⟨rfl, true, rfl, ?_⟩)
    simp only [true_iff]
    intro l' hl' e he ho
    exact hA l' (by omega) e he ho

theorem c_l13Relation {h : Heap} {v : Value} {a : Aut} (Ra : Rep h v a) (ha : a.Ok) : CallE Try.prog fn_spec_l13Relation [v] h (fun u h' => ∃ M : List (List Bool), HS h [ow u M] h' ∧ M.length = a.acc.length ∧ (∀ r ∈ M, r.length = a.acc.length) ∧ Great a (matR M)) := by
  obtain ⟨v1, v2, v3, rfl, R1, R2, R3⟩ := Rep_Aut.1 Ra
  refine CallE.gen fun k hk => EN_spec_l13Relation rfl ?_
  have hn := ha.n
  have he := ha.e
  simp -implicitDefEqProofs (disch := first | omega | (simp only [List.length_set, List.length_replicate, List.length_append, List.length_map, List.length_take, List.length_cons, List.length_nil]; omega)) [wrap64, R2.len]
  refine HS.init.bls0 (List Bool) fun vm h1 H => ?_
  simp -implicitDefEqProofs (disch := first | omega | (simp only [List.length_set, List.length_replicate, List.length_append, List.length_map, List.length_take, List.length_cons, List.length_nil]; omega)) [wrap64]
  refine wp_count a.acc.length (fun i e h' => ∃ vm, e = [none, some (.agg #[v1, v2, v3]), none, some (.int .i64 a.acc.length), some vm, some (.int .i64 i), none, none, none, none, none, none] ∧
    ∃ M : List (List Bool), HS h [ow vm M] h' ∧ M.length = i ∧ ∀ x (hx : x < M.length), M[x] = (List.range a.acc.length).map (acc0 a x)) ⟨vm, by simp, [], H, rfl, fun x hx => by simp at hx⟩ ?_
  rintro J i _ h2 hJ hi ⟨vm, rfl, M, H, hM, hE⟩
  simp -implicitDefEqProofs (disch := first | omega | (simp only [List.length_set, List.length_replicate, List.length_append, List.length_map, List.length_take, List.length_cons, List.length_nil]; omega)) [wrap64]
  refine IteW.mk (fun hlt => ?_) (fun hge => ?_)
  · have hin : i < a.acc.length := by omega
    simp -implicitDefEqProofs (disch := first | omega | (simp only [List.length_set, List.length_replicate, List.length_append, List.length_map, List.length_take, List.length_cons, List.length_nil]; omega)) [wrap64]
    refine H.bls0 Bool fun vr h3 H => ?_
    simp -implicitDefEqProofs (disch := first | omega | (simp only [List.length_set, List.length_replicate, List.length_append, List.length_map, List.length_take, List.length_cons, List.length_nil]; omega)) [wrap64]
    refine wp_count a.acc.length (fun j e h' => ∃ vr, e = [none, some (.agg #[v1, v2, v3]), none, some (.int .i64 a.acc.length), some vm, some (.int .i64 i), some vr, some (.int .i64 j), none, none, none, none] ∧
      HS h [ow vr ((List.range j).map (acc0 a i)), ow vm M] h') ⟨vr, by simp, H⟩ ?_
    rintro J2 j _ h4 hJ2 hj ⟨vr, rfl, H⟩
    simp -implicitDefEqProofs (disch := first | omega | (simp only [List.length_set, List.length_replicate, List.length_append, List.length_map, List.length_take, List.length_cons, List.length_nil]; omega)) [wrap64]
    refine IteW.mk (fun hlt2 => ?_) (fun hge2 => ?_)
    · have hjn : j < a.acc.length := by omega
      have hc := cond_acc0 hin hjn
      have hnext : ∀ b : Bool, b = acc0 a i j → (List.range j).map (acc0 a i) ++ [b] = (List.range (j + 1)).map (acc0 a i) := by
        rintro b rfl; rw [List.range_succ, List.map_append]; rfl
      by_cases h1 : a.acc[i] = true
      · simp -implicitDefEqProofs (disch := first | omega | (simp only [List.length_set, List.length_replicate, List.length_append, List.length_map, List.length_take, List.length_cons, List.length_nil]; omega)) [wrap64, (R2.on H).B, h1]
        refine H.app1 a.acc[j] rfl rfl rfl trivial rfl rfl ?_ ?_ fun vr' h5 H => ?_
        · simp; omega
        · simp; omega
        simp -implicitDefEqProofs (disch := first | omega | (simp only [List.length_set, List.length_replicate, List.length_append, List.length_map, List.length_take, List.length_cons, List.length_nil]; omega)) [wrap64]
        rw [hnext _ (by rw [hc, h1]; simp)] at H
        exact hJ2 _ _ hjn ⟨vr', rfl, H⟩
      · simp -implicitDefEqProofs (disch := first | omega | (simp only [List.length_set, List.length_replicate, List.length_append, List.length_map, List.length_take, List.length_cons, List.length_nil]; omega)) [wrap64, (R2.on H).B, h1]
        refine H.app1 true rfl rfl rfl trivial rfl rfl ?_ ?_ fun vr' h5 H => ?_
        · simp; omega
        · simp; omega
        simp -implicitDefEqProofs (disch := first | omega | (simp only [List.length_set, List.length_replicate, List.length_append, List.length_map, List.length_take, List.length_cons, List.length_nil]; omega)) [wrap64]
        rw [hnext _ (by rw [hc]; simp [h1])] at H
        exact hJ2 _ _ hjn ⟨vr', rfl, H⟩
    · simp -implicitDefEqProofs (disch := first | omega | (simp only [List.length_set, List.length_replicate, List.length_append, List.length_map, List.length_take, List.length_cons, List.length_nil]; omega)) [wrap64, H.rep.cells]
      have hjn : j = a.acc.length := by omega
      subst hjn
      refine H.appO rfl rfl (by rw [H.rep.cells]; rfl) rfl rfl ?_ ?_ fun vm' h5 H => ?_
      · omega
      · omega
      simp -implicitDefEqProofs (disch := first | omega | (simp only [List.length_set, List.length_replicate, List.length_append, List.length_map, List.length_take, List.length_cons, List.length_nil]; omega)) [wrap64]
      refine hJ _ _ hin ⟨vm', rfl, _, H, by simp [hM], fun x hx => ?_⟩
      by_cases hxi : x < M.length
      · rw [List.getElem_append_left hxi]; exact hE x hxi
      · have : x = i := by simp at hx; omega
        subst this
        rw [List.getElem_append_right (by omega)]; simp
  simp -implicitDefEqProofs (disch := first | omega | (simp only [List.length_set, List.length_replicate, List.length_append, List.length_map, List.length_take, List.length_cons, List.length_nil]; omega)) [wrap64]
  have hMn : M.length = a.acc.length := by omega
  have hr : ∀ r ∈ M, r.length = a.acc.length := by
    intro r hr
    obtain ⟨x, hx, rfl⟩ := List.mem_iff_getElem.1 hr
    rw [hE x hx]; simp
  have hB2 : ∀ x y, x < a.acc.length → y < a.acc.length → matR M x y = acc0 a x y := by
    intro x y hx hy
    have h1 := hE x (by omega)
    rw [matR_get (by omega) (by rw [h1]; simpa using hy)]
    simp [h1]
  have hA : AccR a (matR M) := fun x y hx hy hr => acc0_acc a x y hx hy (by rw [← hB2 x y hx hy]; exact hr)
  have hU : Upper a (matR M) := fun S hS x y hx hy hr => by rw [hB2 x y hx hy]; exact acc0_upper a S hS x y hx hy hr
  refine (c_l13Leaving (Ra.on H) ha).go ?_
  rintro vl h3 ⟨L, HL, hL, hLE⟩
  have H := (HL.app H).sw1
  simp -implicitDefEqProofs (disch := first | omega | (simp only [List.length_set, List.length_replicate, List.length_append, List.length_map, List.length_take, List.length_cons, List.length_nil]; omega)) [wrap64]
  have hok : ∀ i (hi : i < L.length), ∀ e ∈ L[i], e.Ok a.acc.length := by
    intro i hi e he
    rw [hLE i hi] at he
    exact ha.2.2.2 e (List.mem_filter.1 he).1
  have hans : ∀ M : List (List Bool), ∀ i j (hi : i < L.length) (hj : j < L.length), ((∀ l : Nat, l < 8 → ∀ e ∈ L[i], e.on l = true → ∃ f ∈ L[j], f.on l = true ∧ matR M e.to.toNat f.to.toNat = true) ↔ Ans a (matR M) i j) := by
    intro M i j hi hj
    rw [hLE i hi, hLE j hj]
    simp only [leav, List.mem_filter, decide_eq_true_eq]
    constructor
    · intro h l hl e he h1 h2
      obtain ⟨f, ⟨hf, h3⟩, h4⟩ := h l hl e ⟨he, h1⟩ h2
      exact ⟨f, hf, h3, h4⟩
    · rintro h l hl e ⟨he, h1⟩ h2
      obtain ⟨f, hf, h3, h4⟩ := h l hl e he h1 h2
      exact ⟨f, ⟨hf, h3⟩, h4⟩
  refine wp_while (σ := List (List Bool) × Bool) (fun s e h' => e = [none, none, none, some (.int .i64 a.acc.length), some vm, none, none, none, some vl, some (.bool s.2), none, none] ∧
    HS h [ow vm s.1, ow vl L] h' ∧ s.1.length = a.acc.length ∧ (∀ r ∈ s.1, r.length = a.acc.length) ∧ AccR a (matR s.1) ∧ Upper a (matR s.1) ∧ (s.2 = false → Great a (matR s.1)))
    (fun s => 2 * cnt2 a.acc.length (matR s.1) + (if s.2 then 1 else 0)) (M, true) ⟨by simp, H, hMn, hr, hA, hU, by simp⟩ ?_
  rintro J ⟨B, c⟩ _ h11 hJ ⟨rfl, H, hBl, hBr, hA, hU, hG⟩
  dsimp only at H hBl hBr hA hU hG
  simp -implicitDefEqProofs (disch := first | omega | (simp only [List.length_set, List.length_replicate, List.length_append, List.length_map, List.length_take, List.length_cons, List.length_nil]; omega)) [wrap64]
  cases c with
  | false =>
    simp -implicitDefEqProofs (disch := first | omega | (simp only [List.length_set, List.length_replicate, List.length_append, List.length_map, List.length_take, List.length_cons, List.length_nil]; omega)) [wrap64]
    exact RetK.keep (hk _ _ ⟨B, H.sw1.drop, hBl, hBr, hG rfl⟩)
  | true =>
  simp -implicitDefEqProofs (disch := first | omega | (simp only [List.length_set, List.length_replicate, List.length_append, List.length_map, List.length_take, List.length_cons, List.length_nil]; omega)) [wrap64]
  refine wp_count a.acc.length (fun i e h' => ∃ c', e = [none, none, none, some (.int .i64 a.acc.length), some vm, none, none, none, some vl, some (.bool c'), some (.int .i64 i), none] ∧
    ∃ B', HS h [ow vm B', ow vl L] h' ∧ B'.length = a.acc.length ∧ (∀ r ∈ B', r.length = a.acc.length) ∧ Pass a (matR B) (matR B') c' i 0) ⟨false, by simp, B, H, hBl, hBr, Pass.start hA hU⟩ ?_
  rintro J1 i _ h12 hJ1 hi ⟨c', rfl, B', H, hBl', hBr', hP⟩
  simp -implicitDefEqProofs (disch := first | omega | (simp only [List.length_set, List.length_replicate, List.length_append, List.length_map, List.length_take, List.length_cons, List.length_nil]; omega)) [wrap64]
  refine IteW.mk (fun hlt4 => ?_) (fun hge4 => ?_)
  · have hin : i < a.acc.length := by omega
    simp -implicitDefEqProofs (disch := first | omega | (simp only [List.length_set, List.length_replicate, List.length_append, List.length_map, List.length_take, List.length_cons, List.length_nil]; omega)) [wrap64]
    refine wp_count a.acc.length (fun j e h' => ∃ c', e = [none, none, none, some (.int .i64 a.acc.length), some vm, none, none, none, some vl, some (.bool c'), some (.int .i64 i), some (.int .i64 j)] ∧
      ∃ B', HS h [ow vm B', ow vl L] h' ∧ B'.length = a.acc.length ∧ (∀ r ∈ B', r.length = a.acc.length) ∧ Pass a (matR B) (matR B') c' i j) ⟨c', by simp, B', H, hBl', hBr', hP⟩ ?_
    rintro J2 j _ h13 hJ2 hj ⟨c', rfl, B', H, hBl', hBr', hP⟩
    simp -implicitDefEqProofs (disch := first | omega | (simp only [List.length_set, List.length_replicate, List.length_append, List.length_map, List.length_take, List.length_cons, List.length_nil]; omega)) [wrap64]
    refine IteW.mk (fun hlt5 => ?_) (fun hge5 => ?_)
    · have hjn : j < a.acc.length := by omega
      have hiB : i < B'.length := by omega
      have hil := hBr' _ (List.getElem_mem hiB)
      have hbg := matR_get (M := B') hiB (show j < B'[i].length by omega)
      obtain ⟨w, hw, Rw⟩ := H.rep.ldL hiB
      cases hb : B'[i]'hiB |>.get ⟨j, by omega⟩ with
      | false =>
        have hb : (B'[i]'hiB)[j]'(by omega) = false := hb
        simp -implicitDefEqProofs (disch := first | omega | (simp only [List.length_set, List.length_replicate, List.length_append, List.length_map, List.length_take, List.length_cons, List.length_nil]; omega)) [wrap64, H.rep.X (n := 1) rfl, hw, Rw.B, hb]
        exact hJ2 _ _ hjn ⟨c', rfl, B', H, hBl', hBr', hP.keep fun hr => by rw [hbg, hb] at hr; simp at hr⟩
      | true =>
        have hb : (B'[i]'hiB)[j]'(by omega) = true := hb
        obtain ⟨x, hx, Rx⟩ := H.sw1.rep.ldL (i := i) (by omega)
        obtain ⟨y, hy, Ry⟩ := H.sw1.rep.ldL (i := j) (by omega)
        simp -implicitDefEqProofs (disch := first | omega | (simp only [List.length_set, List.length_replicate, List.length_append, List.length_map, List.length_take, List.length_cons, List.length_nil]; omega)) [wrap64, H.rep.X (n := 1) rfl, hw, Rw.B, hb, H.sw1.rep.X (n := 1) rfl, hx, hy]
        refine (c_l13Answers (n := a.acc.length) (by omega) Rx Ry H.rep hBl' hBr' (hok i (by omega)) (hok j (by omega))).go ?_
        rintro _ _ ⟨rfl, r, rfl, hr⟩
        rw [hans] at hr
        cases r with
        | true =>
          simp -implicitDefEqProofs (disch := first | omega | (simp only [List.length_set, List.length_replicate, List.length_append, List.length_map, List.length_take, List.length_cons, List.length_nil]; omega)) [wrap64]
          exact hJ2 _ _ hjn ⟨c', rfl, B', H, hBl', hBr', hP.keep fun _ => hr.1 rfl⟩
        | false =>
          obtain ⟨z, hz, HT⟩ := H.take hiB
          change hload _ (some (elp 1 vm i)) none = some z at hz
          simp -implicitDefEqProofs (disch := first | omega | (simp only [List.length_set, List.length_replicate, List.length_append, List.length_map, List.length_take, List.length_cons, List.length_nil]; omega)) [wrap64, H.rep.X (n := 1) rfl, hz, HT.rep.B]
          refine HT.storeF false (i := j) (by omega) rfl rfl trivial rfl fun h14 HT => ?_
          have H := HT.put
          simp -implicitDefEqProofs (disch := first | omega | (simp only [List.length_set, List.length_replicate, List.length_append, List.length_map, List.length_take, List.length_cons, List.length_nil]; omega)) [wrap64]
          refine hJ2 _ _ hjn ⟨true, rfl, _, H, by simpa using hBl', ?_, ?_⟩
          · intro r hr2
            rcases List.mem_or_eq_of_mem_set hr2 with h1 | rfl
            · exact hBr' r h1
            · simpa using hil
          · rw [matR_clr hiB (by omega)]
            exact hP.rem ha hin hjn (by rw [hbg, hb]) (fun hA => by have := hr.2 hA; simp at this)
    · simp -implicitDefEqProofs (disch := first | omega | (simp only [List.length_set, List.length_replicate, List.length_append, List.length_map, List.length_take, List.length_cons, List.length_nil]; omega)) [wrap64]
      exact hJ1 _ _ hin ⟨c', rfl, B', H, hBl', hBr', hP.next (by omega)⟩
  · simp -implicitDefEqProofs (disch := first | omega | (simp only [List.length_set, List.length_replicate, List.length_append, List.length_map, List.length_take, List.length_cons, List.length_nil]; omega)) [wrap64]
    refine hJ (B', c') _ _ ?_ ⟨rfl, H, hBl', hBr', hP.acc, hP.upper, fun hc => by dsimp only at hc; subst hc; exact hP.done (by omega)⟩
    cases c' with
    | true => have := hP.less rfl; simp; omega
    | false => simp [(hP.same rfl).1]

end Go.Proofs.Ytknkjplnngeebaa
