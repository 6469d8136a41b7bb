/-
  Trimming, by the reference; both as functions of the package.
-/
import Derived.Test.YtknkjplnngeebaaQ7
namespace Go.Proofs.Ytknkjplnngeebaa
open Go
set_option linter.all false
set_option linter.unusedVariables false
set_option linter.unusedSimpArgs false
set_option linter.defProp false
set_option maxRecDepth 1000000

set_option maxHeartbeats 4000000 in
theorem c_l13Keep {h : Heap} {v w : Value} {a : Aut} {B : List Bool} (Ra : Rep h v a) (Rw : Rep h w B) (ha : a.Ok) (hB : B.length = a.acc.length) : CallE Try.prog fn_spec_l13Keep [v, w] h (fun u h' => HS h [ow u (a.keep fun q => B.getD q false)] h') := by
  obtain ⟨v1, v2, v3, rfl, R1, R2, R3⟩ := Rep_Aut.1 Ra
  have hn := ha.n
  have he := ha.e
  have hil := ha.il
  obtain ⟨K, hK⟩ : ∃ K : Nat → Bool, K = fun q => B.getD q false := ⟨_, rfl⟩
  rw [← hK]
  have hKq : ∀ q (hq : q < a.acc.length), K q = B[q]'(by omega) := by
    intro q hq
    rw [hK]
    simp [show q < B.length by omega]
  refine CallE.gen fun k hk => EN_spec_l13Keep rfl ?_
  simp -implicitDefEqProofs (disch := first | omega | (simp only [List.length_set, List.length_replicate, List.length_append, List.length_map, List.length_take, List.length_cons, List.length_nil]; omega)) [wrap64]
  refine HS.init.bls0 Int fun z h1 H => ?_
  have H := H.nil_ow (α := Bool)
  simp -implicitDefEqProofs (disch := first | omega | (simp only [List.length_set, List.length_replicate, List.length_append, List.length_map, List.length_take, List.length_cons, List.length_nil]; omega)) [wrap64]
  refine wp_count a.acc.length (fun i e h' => ∃ o2 z, e = [none, some w, some (.agg #[v1, v2, v3]), some (.agg #[.slice none 0 0, .slice none 0 0, .slice none 0 0]), some (.agg #[.slice none 0 0, o2, .slice none 0 0]), some z, some (.int .i64 i), none, none, none] ∧
    ∃ Z : List Int, HS h [ow o2 (accK a K i), ow z Z] h' ∧ Z.length = i ∧ ∀ q, q < i → gd Z q = kidx K q) ⟨.slice none 0 0, z, by simp, [], H, rfl, fun q hq => absurd hq (Nat.not_lt_zero q)⟩ ?_
  clear H
  rintro J i _ h5 hJ hi ⟨o2, z, rfl, Z, H, hZl, hZ⟩
  simp -implicitDefEqProofs (disch := first | omega | (simp only [List.length_set, List.length_replicate, List.length_append, List.length_map, List.length_take, List.length_cons, List.length_nil]; omega)) [wrap64, (Rw.on H).len]
  refine IteW.mk (fun hlt => ?_) (fun hge => ?_)
  · have hin : i < a.acc.length := by omega
    have hkl := kidx_le (K := K) (q := i)
    have hal := accK_len (a := a) (K := K) (i := i)
    have hks := hKq i hin
    have H := H.sw1
    simp -implicitDefEqProofs (disch := first | omega | (simp only [List.length_set, List.length_replicate, List.length_append, List.length_map, List.length_take, List.length_cons, List.length_nil]; omega)) [wrap64, H.sw1.rep.len]
    refine H.app1 (kidx K i : Int) rfl (by rfl) (by simp [hal, O.get, Flat.enc, setC]) ⟨by omega, by omega⟩ rfl rfl (by omega) (by omega) fun z' h6 H => ?_
    have hZ1 : ∀ x, x < i + 1 → gd (Z ++ [(kidx K i : Int)]) x = kidx K x := by
      intro x hx
      by_cases e : x = i
      · subst e; simp [gd, ← hZl]
      · have := hZ x (by omega)
        rw [← this]
        simp only [gd, List.getD_eq_getElem?_getD]
        rw [List.getElem?_append_left (by omega)]
    have H := H.sw1
    cases hkb : K i with
    | false =>
      rw [hkb] at hks
      simp -implicitDefEqProofs (disch := first | omega | (simp only [List.length_set, List.length_replicate, List.length_append, List.length_map, List.length_take, List.length_cons, List.length_nil]; omega)) [wrap64, (Rw.on H).B, ← hks]
      refine hJ _ _ hin ⟨o2, z', by simp, _, by rw [accK_succ hin, hkb]; simpa using H, by simp [hZl], hZ1⟩
    | true =>
      rw [hkb] at hks
      simp -implicitDefEqProofs (disch := first | omega | (simp only [List.length_set, List.length_replicate, List.length_append, List.length_map, List.length_take, List.length_cons, List.length_nil]; omega)) [wrap64, (Rw.on H).B, ← hks, (R2.on H).B]
      refine H.app1 a.acc[i] rfl rfl rfl trivial rfl rfl (by omega) (by omega) fun o3 h8 H => ?_
      simp -implicitDefEqProofs (disch := first | omega | (simp only [List.length_set, List.length_replicate, List.length_append, List.length_map, List.length_take, List.length_cons, List.length_nil]; omega)) [wrap64, H.rep.cells, H.rep.one, setC]
      exact hJ _ _ hin ⟨o3, z', rfl, _, by rw [accK_succ hin, hkb]; exact H, by simp [hZl], hZ1⟩
  have hin : i = a.acc.length := by omega
  subst hin
  have hal := accK_len (a := a) (K := K) (i := a.acc.length)
  have hkl := kidx_le (K := K) (q := a.acc.length)
  have hZr : ∀ q (hq : q < a.acc.length), Z[q]'(by omega) = kidx K q := fun q hq => by rw [← gd_get]; exact hZ q hq
  have H := H.nil_ow (α := Int)
  simp -implicitDefEqProofs (disch := first | omega | (simp only [List.length_set, List.length_replicate, List.length_append, List.length_map, List.length_take, List.length_cons, List.length_nil]; omega)) [wrap64]
  refine wp_count a.init.length (fun i e h' => ∃ o1, e = [none, some w, some (.agg #[v1, v2, v3]), some (.agg #[.slice none 0 0, .slice none 0 0, .slice none 0 0]), some (.agg #[o1, o2, .slice none 0 0]), some z, none, some (.int .i64 i), none, none] ∧
    HS h [ow o1 (((a.init.take i).filter fun q => K q.toNat).map (kout K)), ow o2 (accK a K a.acc.length), ow z Z] h') ⟨.slice none 0 0, by simp, by simpa using H⟩ ?_
  clear H hJ
  rintro J i _ h6 hJ hi ⟨o1, rfl, H⟩
  have hl1 := List.length_filter_le (fun q : Int => K q.toNat) (a.init.take i)
  simp only [List.length_take] at hl1
  simp -implicitDefEqProofs (disch := first | omega | (simp only [List.length_set, List.length_replicate, List.length_append, List.length_map, List.length_take, List.length_cons, List.length_nil]; omega)) [wrap64, (R1.on H).len]
  refine IteW.mk (fun hlt2 => ?_) (fun hge2 => ?_)
  · have hix : i < a.init.length := by omega
    have hx := ha.im hix
    obtain ⟨q, hq⟩ : ∃ q : Nat, a.init[i] = q := ⟨a.init[i].toNat, by omega⟩
    have hqn : q < a.acc.length := by omega
    have hzq := hZr q hqn
    have hks := hKq q hqn
    have hfm := filter_map_take (p := fun q : Int => K q.toNat) (f := kout K) hix
    have hkq := kidx_le (K := K) (q := q)
    cases hkb : K q with
    | true =>
      rw [hkb] at hks
      simp -implicitDefEqProofs (disch := first | omega | (simp only [List.length_set, List.length_replicate, List.length_append, List.length_map, List.length_take, List.length_cons, List.length_nil]; omega)) [wrap64, (R1.on H).I, hq, (Rw.on H).B, ← hks, H.sw2.rep.I, hzq]
      refine H.app1 (kidx K q : Int) rfl rfl rfl ⟨by omega, by omega⟩ rfl rfl (by simp; omega) (by simp; omega) fun o1' h7 H => ?_
      simp -implicitDefEqProofs (disch := first | omega | (simp only [List.length_set, List.length_replicate, List.length_append, List.length_map, List.length_take, List.length_cons, List.length_nil]; omega)) [wrap64, H.rep.cells, H.rep.one, setC]
      refine hJ _ _ hix ⟨o1', rfl, ?_⟩
      rw [hfm, hq]
      simpa [hkb, kout] using H
    | false =>
      rw [hkb] at hks
      simp -implicitDefEqProofs (disch := first | omega | (simp only [List.length_set, List.length_replicate, List.length_append, List.length_map, List.length_take, List.length_cons, List.length_nil]; omega)) [wrap64, (R1.on H).I, hq, (Rw.on H).B, ← hks]
      refine hJ _ _ hix ⟨o1, rfl, ?_⟩
      rw [hfm, hq]
      simpa [hkb] using H
  have hii : i = a.init.length := by omega
  subst hii
  rw [List.take_length] at H
  have H := H.nil_ow (α := Tr)
  simp -implicitDefEqProofs (disch := first | omega | (simp only [List.length_set, List.length_replicate, List.length_append, List.length_map, List.length_take, List.length_cons, List.length_nil]; omega)) [wrap64]
  refine wp_count a.edges.length (fun i e h' => ∃ o3, e = [none, some w, some (.agg #[v1, v2, v3]), some (.agg #[.slice none 0 0, .slice none 0 0, .slice none 0 0]), some (.agg #[o1, o2, o3]), some z, none, none, some (.int .i64 i), none] ∧
    HS h [ow o3 (((a.edges.take i).filter fun e => K e.frm.toNat && K e.to.toNat).map (Tr.ren (kout K))), ow o1 ((a.init.filter fun q => K q.toNat).map (kout K)), ow o2 (accK a K a.acc.length), ow z Z] h') ⟨.slice none 0 0, by simp, by simpa using H⟩ ?_
  clear H hJ
  rintro J i _ h7 hJ hi ⟨o3, rfl, H⟩
  have hl2 := List.length_filter_le (fun e : Tr => K e.frm.toNat && K e.to.toNat) (a.edges.take i)
  simp only [List.length_take] at hl2
  simp -implicitDefEqProofs (disch := first | omega | (simp only [List.length_set, List.length_replicate, List.length_append, List.length_map, List.length_take, List.length_cons, List.length_nil]; omega)) [wrap64, (R3.on H).len]
  refine IteW.mk (fun hlt3 => ?_) (fun hge3 => ?_)
  · have hix : i < a.edges.length := by omega
    have hx := ha.t hix
    have hv := R3.okTr hix
    unfold Tr.Ok at hx
    obtain ⟨f, hf⟩ : ∃ f : Nat, a.edges[i].frm = f := ⟨a.edges[i].frm.toNat, by omega⟩
    obtain ⟨t, ht⟩ : ∃ t : Nat, a.edges[i].to = t := ⟨a.edges[i].to.toNat, by omega⟩
    have hfn : f < a.acc.length := by omega
    have htn : t < a.acc.length := by omega
    have hzf := hZr f hfn
    have hzt := hZr t htn
    have hksf := hKq f hfn
    have hkst := hKq t htn
    have hfm := filter_map_take (p := fun e : Tr => K e.frm.toNat && K e.to.toNat) (f := Tr.ren (kout K)) hix
    have hkf := kidx_le (K := K) (q := f)
    have hkt := kidx_le (K := K) (q := t)
    cases hkb : K f with
    | false =>
      rw [hkb] at hksf
      simp -implicitDefEqProofs (disch := first | omega | (simp only [List.length_set, List.length_replicate, List.length_append, List.length_map, List.length_take, List.length_cons, List.length_nil]; omega)) [wrap64, (R3.on H).xTr, Tr.v, setC, hf, (Rw.on H).B, ← hksf]
      refine hJ _ _ hix ⟨o3, by simp, ?_⟩
      rw [hfm, hf]
      simpa [hkb] using H
    | true =>
      rw [hkb] at hksf
      cases hkb2 : K t with
      | false =>
        rw [hkb2] at hkst
        simp -implicitDefEqProofs (disch := first | omega | (simp only [List.length_set, List.length_replicate, List.length_append, List.length_map, List.length_take, List.length_cons, List.length_nil]; omega)) [wrap64, (R3.on H).xTr, Tr.v, setC, hf, ht, (Rw.on H).B, ← hksf, ← hkst]
        refine hJ _ _ hix ⟨o3, by simp, ?_⟩
        rw [hfm, hf, ht]
        simpa [hkb2] using H
      | true =>
        rw [hkb2] at hkst
        simp -implicitDefEqProofs (disch := first | omega | (simp only [List.length_set, List.length_replicate, List.length_append, List.length_map, List.length_take, List.length_cons, List.length_nil]; omega)) [wrap64, (R3.on H).xTr, Tr.v, setC, hf, ht, (Rw.on H).B, ← hksf, ← hkst, H.sw3.rep.I, hzf, hzt]
        refine H.app1 (⟨(kidx K f : Int), a.edges[i].care, a.edges[i].value, (kidx K t : Int)⟩ : Tr) rfl rfl rfl (Tr.ok_iff.2 ⟨⟨by dsimp only; omega, by dsimp only; omega⟩, hv.care, hv.value, ⟨by dsimp only; omega, by dsimp only; omega⟩⟩) rfl rfl (by simp; omega) (by simp; omega) fun o3' h8 H => ?_
        simp -implicitDefEqProofs (disch := first | omega | (simp only [List.length_set, List.length_replicate, List.length_append, List.length_map, List.length_take, List.length_cons, List.length_nil]; omega)) [wrap64, H.rep.cells, H.rep.one, setC]
        refine hJ _ _ hix ⟨o3', by simp, ?_⟩
        rw [hfm, hf, ht]
        have hren : Tr.ren (kout K) a.edges[i] = ⟨(kidx K f : Int), a.edges[i].care, a.edges[i].value, (kidx K t : Int)⟩ := by
          simp [Tr.ren, kout, hf, ht]
        simpa [hkb, hkb2, hren] using H
  have hii : i = a.edges.length := by omega
  subst hii
  rw [List.take_length] at H
  by_cases h0 : kidx K a.acc.length = 0
  · have hno : ∀ q, q < a.acc.length → K q = false := by
      intro q hq
      cases hkb : K q with
      | false => rfl
      | true =>
        have h1 := kidx_succ (K := K) (q := q)
        rw [if_pos hkb] at h1
        have := kidx_mono (K := K) (show q + 1 ≤ a.acc.length by omega)
        omega
    have f1 : (a.init.filter fun q => K q.toNat) = [] := by
      rw [List.filter_eq_nil_iff]
      intro q hq
      have := incr_mem ha.i q hq
      rw [hno _ (by omega)]; simp
    have f2 : (a.edges.filter fun e => K e.frm.toNat && K e.to.toNat) = [] := by
      rw [List.filter_eq_nil_iff]
      intro e he
      have := ha.2.2.2 e he
      unfold Tr.Ok at this
      rw [hno _ (by omega)]; simp
    rw [f1, f2] at H
    have H1 := H.sw2
    simp -implicitDefEqProofs (disch := first | omega | (simp only [List.length_set, List.length_replicate, List.length_append, List.length_map, List.length_take, List.length_cons, List.length_nil]; omega)) [wrap64, H1.rep.len, hal, h0]
    refine H.bls (α := Bool) [false] (by rfl) rfl (fun _ _ => trivial) (by decide) fun r h8 H => ?_
    have q1 := H.sw2.rep.one
    have q2 := H.sw1.rep.one
    simp -implicitDefEqProofs (disch := first | omega | (simp only [List.length_set, List.length_replicate, List.length_append, List.length_map, List.length_take, List.length_cons, List.length_nil]; omega)) [wrap64, H.rep.cells, H.rep.one, setC, q1, q2, H.sw2.rep.cells, H.sw1.rep.cells]
    have H := HS.mkAut (a := ⟨[], [false], []⟩) H.sw2
    rw [Aut.keep_zero h0] at hk
    exact RetK.keep (hk _ _ H.only)
  · have H1 := H.sw2
    simp -implicitDefEqProofs (disch := first | omega | (simp only [List.length_set, List.length_replicate, List.length_append, List.length_map, List.length_take, List.length_cons, List.length_nil]; omega)) [wrap64, H1.rep.len, hal, h0, H.rep.one, H.sw1.rep.one, H.sw2.rep.one]
    have H := HS.mkAut (a := a.keep K) (by rw [Aut.keep_pos h0]; exact H.sw2.sw2)
    exact RetK.keep (hk _ _ H.only)

set_option maxHeartbeats 4000000 in
theorem c_l13Trim {h : Heap} {v : Value} {a : Aut} (Ra : Rep h v a) (ha : a.Ok) : CallE Try.prog fn_spec_l13Trim [v] h (fun u h' => HS h [ow u a.trim] h') := by
  obtain ⟨v1, v2, v3, rfl, R1, R2, R3⟩ := Rep_Aut.1 Ra
  have hn := ha.n
  refine CallE.gen fun k hk => EN_spec_l13Trim rfl ?_
  simp -implicitDefEqProofs (disch := first | omega | (simp only [List.length_set, List.length_replicate, List.length_append, List.length_map, List.length_take, List.length_cons, List.length_nil]; omega)) [wrap64]
  refine (c_spec_LiveStates Ra ha).go ?_
  rintro l h1 ⟨L, H, hLl, hL⟩
  simp -implicitDefEqProofs (disch := first | omega | (simp only [List.length_set, List.length_replicate, List.length_append, List.length_map, List.length_take, List.length_cons, List.length_nil]; omega)) [wrap64]
  refine (c_l7Next (Ra.on H) ha).go ?_
  rintro w h2 ⟨G, H2, hG, hGl, hrow⟩
  have H := H2.app H
  simp -implicitDefEqProofs (disch := first | omega | (simp only [List.length_set, List.length_replicate, List.length_append, List.length_map, List.length_take, List.length_cons, List.length_nil]; omega)) [wrap64]
  have hS : ∀ z ∈ a.init, 0 ≤ z ∧ z < (G.length : Int) := by
    intro z hz
    have := incr_mem ha.i z hz
    omega
  refine (c_l7Reach H.rep (R1.on H) hG hS (by omega)).go ?_
  rintro qv h3 ⟨Q, H3, hQl, hQn, hQ⟩
  have H := (H3.app H).sw1.drop
  simp -implicitDefEqProofs (disch := first | omega | (simp only [List.length_set, List.length_replicate, List.length_append, List.length_map, List.length_take, List.length_cons, List.length_nil]; omega)) [wrap64, H.sw1.rep.len]
  refine H.mks (α := Bool) (z := false) rfl rfl own_false (Nat.le_refl _) (by omega) (by omega) fun b h4 H => ?_
  simp -implicitDefEqProofs (disch := first | omega | (simp only [List.length_set, List.length_replicate, List.length_append, List.length_map, List.length_take, List.length_cons, List.length_nil]; omega)) [wrap64]
  refine wp_count Q.length (fun i e h' => e = [none, some (.agg #[v1, v2, v3]), some (.agg #[.slice none 0 0, .slice none 0 0, .slice none 0 0]), some l, some qv, some b, some (.int .i64 i)] ∧
    ∃ B : List Bool, HS h [ow b B, ow qv Q, ow l L] h' ∧ B.length = a.acc.length ∧ ∀ x, tru B x ↔ (x : Int) ∈ Q.take i ∧ tru L x) ⟨by simp, _, H, by simp [hLl], fun x => by simp [tru_replicate]⟩ ?_
  clear H
  rintro J i _ h5 hJ hi ⟨rfl, B, H, hBl, hB⟩
  simp -implicitDefEqProofs (disch := first | omega | (simp only [List.length_set, List.length_replicate, List.length_append, List.length_map, List.length_take, List.length_cons, List.length_nil]; omega)) [wrap64, H.sw1.rep.len]
  refine IteW.mk (fun hlt => ?_) (fun hge => ?_)
  · have hix : i < Q.length := by omega
    obtain ⟨hz0, hz1⟩ := hQn _ (List.getElem_mem hix)
    obtain ⟨z, hz⟩ : ∃ z : Nat, Q[i] = z := ⟨Q[i].toNat, by omega⟩
    have hzn : z < a.acc.length := by omega
    simp -implicitDefEqProofs (disch := first | omega | (simp only [List.length_set, List.length_replicate, List.length_append, List.length_map, List.length_take, List.length_cons, List.length_nil]; omega)) [wrap64, H.sw1.rep.I, hz, H.sw2.rep.B, H.rep.B]
    refine H.storeF (L[z]'(by omega)) (i := z) (by omega) rfl rfl trivial rfl fun h6 H => ?_
    simp -implicitDefEqProofs (disch := first | omega | (simp only [List.length_set, List.length_replicate, List.length_append, List.length_map, List.length_take, List.length_cons, List.length_nil]; omega)) [wrap64]
    refine hJ _ _ hix ⟨rfl, _, H, by simpa using hBl, fun x => ?_⟩
    have h1 : tru (B.set z (L[z]'(by omega))) x ↔ if x = z then L[z]'(by omega) = true else tru B x := by
      simp only [tru, List.getD_eq_getElem?_getD, List.getElem?_set]
      by_cases e : z = x
      · subst e; simp [show z < B.length by omega]
      · simp [e, Ne.symm e]
    rw [h1, take_mem_succ hix, hz]
    split
    · rename_i e
      subst e
      rw [tru_get (by omega)]
      simp
    · rename_i e
      rw [hB]
      constructor
      · rintro ⟨h2, h3⟩; exact ⟨.inl h2, h3⟩
      · rintro ⟨h2 | h2, h3⟩
        · exact ⟨h2, h3⟩
        · exact absurd (by omega) e
  have hii : i = Q.length := by omega
  subst hii
  rw [List.take_length] at hB
  have hKt : (a.keep fun q => B.getD q false) = a.trim := by
    refine Aut.trim_eq ha fun q hq => ?_
    have h1 := hB q
    have h2 := hL q
    simp only [tru] at h1 h2
    rw [h1, h2, hQ]
    simp [Aut.Reach, hq]
  simp -implicitDefEqProofs (disch := first | omega | (simp only [List.length_set, List.length_replicate, List.length_append, List.length_map, List.length_take, List.length_cons, List.length_nil]; omega)) [wrap64]
  refine (c_l13Keep (Ra.on H) H.rep ha hBl).go ?_
  intro u h6 H6
  have H := (H6.app H).only
  obtain ⟨z1, z2, z3, rfl, S1, S2, S3⟩ := Rep_Aut.1 H.rep
  simp -implicitDefEqProofs (disch := first | omega | (simp only [List.length_set, List.length_replicate, List.length_append, List.length_map, List.length_take, List.length_cons, List.length_nil]; omega)) [wrap64, S1.one, S2.one, S3.one]
  rw [hKt] at H
  exact RetK.keep (hk _ _ H)

/-- what a function of a valid automaton gives back -/
def okR (f : Aut → Aut) (h : Heap) (a : Aut) (u : Value) (h' : Heap) : Prop := ∃ v, u = .tuple #[v, .bool (decide a.Ok)] ∧ HS h [ow v (if a.Ok then f a else Aut.empty)] h'
theorem okR.no {f : Aut → Aut} {h h' : Heap} {a : Aut} (hn : ¬ a.Ok) (H : HS h [] h') : okR f h a (.tuple #[.agg #[.slice none 0 0, .slice none 0 0, .slice none 0 0], .bool false]) h' :=
  ⟨_, by rw [decide_eq_false hn], by rw [if_neg hn]; exact empty_ow H⟩
theorem okR.yes {f : Aut → Aut} {h h' : Heap} {a : Aut} {v : Value} (hn : a.Ok) (H : HS h [ow v (f a)] h') : okR f h a (.tuple #[v, .bool true]) h' :=
  ⟨_, by rw [decide_eq_true hn], by rw [if_pos hn]; exact H⟩

theorem c_TrimAutomaton {h : Heap} {v : Value} {a : Aut} (Ra : Rep h v a) : CallE Try.prog fn_impl_TrimAutomaton [v] h (okR Aut.trim h a) := by
  have Fa := Ra.aAut
  refine CallE.gen fun k hk => EN_impl_TrimAutomaton rfl ?_
  simp -implicitDefEqProofs (disch := first | omega | (simp only [List.length_set, List.length_replicate, List.length_append, List.length_map, List.length_take, List.length_cons, List.length_nil]; omega)) [wrap64, Fa]
  refine (c_AutomatonValid Ra).go ?_
  rintro _ h1 ⟨l1, rfl⟩
  by_cases ha : a.Ok
  · simp -implicitDefEqProofs (disch := first | omega | (simp only [List.length_set, List.length_replicate, List.length_append, List.length_map, List.length_take, List.length_cons, List.length_nil]; omega)) [wrap64, ha, Fa]
    refine (c_trim (Ra.le l1) ha).go ?_
    intro u h2 H
    have H := HS.app (Γ := []) H l1
    obtain ⟨z1, z2, z3, rfl, S1, S2, S3⟩ := Rep_Aut.1 H.rep
    simp -implicitDefEqProofs (disch := first | omega | (simp only [List.length_set, List.length_replicate, List.length_append, List.length_map, List.length_take, List.length_cons, List.length_nil]; omega)) [wrap64, S1.one, S2.one, S3.one]
    exact RetK.keep (hk _ _ (okR.yes ha H))
  · simp -implicitDefEqProofs (disch := first | omega | (simp only [List.length_set, List.length_replicate, List.length_append, List.length_map, List.length_take, List.length_cons, List.length_nil]; omega)) [wrap64, ha]
    exact RetK.keep (hk _ _ (okR.no ha l1))
theorem c_spec_TrimAutomaton {h : Heap} {v : Value} {a : Aut} (Ra : Rep h v a) : CallE Try.prog fn_spec_TrimAutomaton [v] h (okR Aut.trim h a) := by
  have Fa := Ra.aAut
  refine CallE.gen fun k hk => EN_spec_TrimAutomaton rfl ?_
  simp -implicitDefEqProofs (disch := first | omega | (simp only [List.length_set, List.length_replicate, List.length_append, List.length_map, List.length_take, List.length_cons, List.length_nil]; omega)) [wrap64, Fa]
  refine (c_spec_AutomatonValid Ra).go ?_
  rintro _ _ ⟨rfl, rfl⟩
  by_cases ha : a.Ok
  · simp -implicitDefEqProofs (disch := first | omega | (simp only [List.length_set, List.length_replicate, List.length_append, List.length_map, List.length_take, List.length_cons, List.length_nil]; omega)) [wrap64, ha, Fa]
    refine (c_l13Trim Ra ha).go ?_
    intro u h2 H
    obtain ⟨z1, z2, z3, rfl, S1, S2, S3⟩ := Rep_Aut.1 H.rep
    simp -implicitDefEqProofs (disch := first | omega | (simp only [List.length_set, List.length_replicate, List.length_append, List.length_map, List.length_take, List.length_cons, List.length_nil]; omega)) [wrap64, S1.one, S2.one, S3.one]
    exact RetK.keep (hk _ _ (okR.yes ha H))
  · simp -implicitDefEqProofs (disch := first | omega | (simp only [List.length_set, List.length_replicate, List.length_append, List.length_map, List.length_take, List.length_cons, List.length_nil]; omega)) [wrap64, ha]
    exact RetK.keep (hk _ _ (okR.no ha HS.init))
end Go.Proofs.Ytknkjplnngeebaa
