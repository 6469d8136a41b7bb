/-
  Trimming, by the program.
-/
import Derived.Test.YtknkjplnngeebaaQ6
namespace Go.Proofs.Ytknkjplnngeebaa
open Go
set_option linter.all false
set_option linter.unusedVariables false
set_option linter.unusedSimpArgs false
set_option linter.defProp false
set_option maxRecDepth 1000000

theorem filter_map_take {α β : Type} {p : α → Bool} {f : α → β} {l : List α} {i : Nat} (hi : i < l.length) : ((l.take (i + 1)).filter p).map f = ((l.take i).filter p).map f ++ (if p l[i] then [f l[i]] else []) := by
  rw [List.take_add_one, List.getElem?_eq_getElem hi, List.filter_append, List.map_append]
  congr 1
  simp only [Option.toList_some, List.filter_cons, List.filter_nil]
  split <;> simp
/-- accepting marks of the states that are kept, of so many -/
def accK (a : Aut) (K : Nat → Bool) (i : Nat) : List Bool := ((List.range i).filter K).map fun q => a.acc.getD q false
theorem accK_succ {a : Aut} {K : Nat → Bool} {i : Nat} (hi : i < a.acc.length) : accK a K (i + 1) = accK a K i ++ if K i then [a.acc[i]] else [] := by
  simp only [accK, List.range_succ, List.filter_append, List.map_append, List.filter_cons, List.filter_nil]
  congr 1
  split <;> simp [hi]
theorem accK_len {a : Aut} {K : Nat → Bool} {i : Nat} : (accK a K i).length = kidx K i := by simp [accK, kidx]
theorem Aut.keep_pos {a : Aut} {K : Nat → Bool} (h : kidx K a.acc.length ≠ 0) : a.keep K = ⟨(a.init.filter fun q => K q.toNat).map (kout K), accK a K a.acc.length, (a.edges.filter fun e => K e.frm.toNat && K e.to.toNat).map (Tr.ren (kout K))⟩ := by
  unfold Aut.keep; rw [if_neg h]; rfl
theorem Aut.keep_zero {a : Aut} {K : Nat → Bool} (h : kidx K a.acc.length = 0) : a.keep K = ⟨[], [false], []⟩ := by
  unfold Aut.keep; rw [if_pos h]

/-- the new numbers: -1 for what is not kept -/
def knum (K : Nat → Bool) (q : Nat) : Int := if K q then (kidx K q : Int) else -1

set_option maxHeartbeats 4000000 in
theorem c_trim {h : Heap} {v : Value} {a : Aut} (Ra : Rep h v a) (ha : a.Ok) : CallE Try.prog fn_impl_Automaton_trim [v] h (fun u h' => HS h [ow u a.trim] h') := by
  obtain ⟨v1, v2, v3, rfl, R1, R2, R3⟩ := Rep_Aut.1 Ra
  have hn := ha.n
  have he := ha.e
  have hil := ha.il
  refine CallE.gen fun k hk => EN_impl_Automaton_trim rfl ?_
  simp -implicitDefEqProofs (disch := first | omega | (simp only [List.length_set, List.length_replicate, List.length_append, List.length_map, List.length_take, List.length_cons, List.length_nil]; omega)) [wrap64]
  refine (c_next Ra ha).go ?_
  rintro w h1 ⟨G, H, hG, hGl⟩
  simp -implicitDefEqProofs (disch := first | omega | (simp only [List.length_set, List.length_replicate, List.length_append, List.length_map, List.length_take, List.length_cons, List.length_nil]; omega)) [wrap64]
  have hS : ∀ z ∈ a.init, 0 ≤ z ∧ z < (G.length : Int) := by
    intro z hz
    have := incr_mem ha.i z hz
    omega
  refine (c_reachable H.rep (R1.on H) hG hS (by omega) (by omega)).go ?_
  rintro m h2 ⟨M, H2, hMl, hM⟩
  have H := (H2.app H).only
  simp -implicitDefEqProofs (disch := first | omega | (simp only [List.length_set, List.length_replicate, List.length_append, List.length_map, List.length_take, List.length_cons, List.length_nil]; omega)) [wrap64]
  refine (c_live (Ra.on H) ha).go ?_
  rintro l h3 ⟨L, H3, hLl, hL⟩
  have H := H3.app H
  obtain ⟨K, hK⟩ : ∃ K : Nat → Bool, K = fun q => M.getD q false && L.getD q false := ⟨_, rfl⟩
  have hKq : ∀ q (hq : q < a.acc.length), K q = (M[q]'(by omega) && L[q]'(by omega)) := by
    intro q hq
    rw [hK]
    simp [show q < M.length by omega, show q < L.length by omega]
  have hKt : a.keep K = a.trim := by
    refine Aut.trim_eq ha fun q hq => ?_
    rw [hK]
    simp only [Bool.and_eq_true]
    have h1 := hM q
    have h2 := hL q
    simp only [tru] at h1 h2
    rw [h1, h2]
    simp [Aut.Reach, hq]
  simp -implicitDefEqProofs (disch := first | omega | (simp only [List.length_set, List.length_replicate, List.length_append, List.length_map, List.length_take, List.length_cons, List.length_nil]; omega)) [wrap64, H.sw1.rep.len]
  refine H.mks (α := Int) (z := 0) rfl rfl (own_zero (by decide) (by decide)) (Nat.le_refl _) (by omega) (by omega) fun z h4 H => ?_
  have H := H.nil_ow (α := Bool)
  simp -implicitDefEqProofs (disch := first | omega | (simp only [List.length_set, List.length_replicate, List.length_append, List.length_map, List.length_take, List.length_cons, List.length_nil]; omega)) [wrap64, H.sw3.rep.len]
  refine wp_count a.acc.length (fun i e h' => ∃ o2, e = [none, some (.agg #[v1, v2, v3]), some (.agg #[.slice none 0 0, .slice none 0 0, .slice none 0 0]), some m, some l, some z, some (.agg #[.slice none 0 0, o2, .slice none 0 0]), none, none, none, some (.int .i64 a.acc.length), some (.int .i64 i), none, none, none, none, none, none] ∧
    ∃ Z : List Int, HS h [ow o2 (accK a K i), ow z Z, ow l L, ow m M] h' ∧ Z.length = a.acc.length ∧ ∀ q, q < i → gd Z q = knum K q) ⟨_, by simp [hMl, hGl], _, H, by simp [hMl, hGl], fun q hq => absurd hq (Nat.not_lt_zero q)⟩ ?_
  clear H
  rintro J i _ h5 hJ hi ⟨o2, rfl, Z, H, hZl, hZ⟩
  simp -implicitDefEqProofs (disch := first | omega | (simp only [List.length_set, List.length_replicate, List.length_append, List.length_map, List.length_take, List.length_cons, List.length_nil]; omega)) [wrap64]
  refine IteW.mk (fun hlt => ?_) (fun hge => ?_)
  · have hin : i < a.acc.length := by omega
    have hkl := kidx_le (K := K) (q := i)
    have hal := accK_len (a := a) (K := K) (i := i)
    have hks := hKq i hin
    have H := H.sw1
    simp -implicitDefEqProofs (disch := first | omega | (simp only [List.length_set, List.length_replicate, List.length_append, List.length_map, List.length_take, List.length_cons, List.length_nil]; omega)) [wrap64, H.rep.I]
    refine H.storeF (-1) (i := i) (by omega) rfl rfl ⟨by decide, by decide⟩ rfl fun h6 H => ?_
    have hZ1 : ∀ x, x < i → gd (Z.set i (-1)) x = knum K x := fun x hx => by rw [gd_set (by omega), fput_ne (by omega)]; exact hZ x hx
    cases hkb : K i with
    | false =>
      have hfin : ∀ h7, HS h [ow z (Z.set i (-1)), ow o2 (accK a K i), ow l L, ow m M] h7 → J [none, some (.agg #[v1, v2, v3]), some (.agg #[.slice none 0 0, .slice none 0 0, .slice none 0 0]), some m, some l, some z, some (.agg #[.slice none 0 0, o2, .slice none 0 0]), none, none, none, some (.int .i64 a.acc.length), some (.int .i64 ((i + 1 : Nat) : Int)), none, none, none, none, none, none] h7 := by
        intro h7 H
        refine hJ _ _ hin ⟨o2, by simp, _, by rw [accK_succ hin, hkb]; simpa using H.sw1, by simpa using hZl, fun x hx => ?_⟩
        by_cases e : x = i
        · subst e; rw [gd_set (by omega), fput_self]; simp [knum, hkb]
        · exact hZ1 x (by omega)
      rw [hkb] at hks
      cases hm1 : (M[i]'(by omega)) with
      | false =>
        simp -implicitDefEqProofs (disch := first | omega | (simp only [List.length_set, List.length_replicate, List.length_append, List.length_map, List.length_take, List.length_cons, List.length_nil]; omega)) [wrap64, H.sw3.rep.B, hm1]
        exact hfin _ H
      | true =>
        have hl1 : (L[i]'(by omega)) = false := by rw [hm1] at hks; simpa using hks.symm
        simp -implicitDefEqProofs (disch := first | omega | (simp only [List.length_set, List.length_replicate, List.length_append, List.length_map, List.length_take, List.length_cons, List.length_nil]; omega)) [wrap64, H.sw3.rep.B, hm1, H.sw2.rep.B, hl1]
        exact hfin _ H
    | true =>
      rw [hkb] at hks
      have hml : (M[i]'(by omega)) = true ∧ (L[i]'(by omega)) = true := by simpa using hks.symm
      simp -implicitDefEqProofs (disch := first | omega | (simp only [List.length_set, List.length_replicate, List.length_append, List.length_map, List.length_take, List.length_cons, List.length_nil]; omega)) [wrap64, H.sw3.rep.B, hml.1, H.sw2.rep.B, hml.2, H.rep.I, H.sw1.rep.len]
      refine H.storeF (kidx K i : Int) (i := i) (by simpa using (by omega : i < Z.length)) rfl (by simp [hal, O.get, valC, Flat.enc]) ⟨by omega, by omega⟩ rfl fun h7 H => ?_
      have H := H.sw1
      simp -implicitDefEqProofs (disch := first | omega | (simp only [List.length_set, List.length_replicate, List.length_append, List.length_map, List.length_take, List.length_cons, List.length_nil]; omega)) [wrap64, (R2.on H).B]
      refine H.app1 a.acc[i] rfl rfl rfl trivial rfl rfl (by omega) (by omega) fun o3 h8 H => ?_
      simp -implicitDefEqProofs (disch := first | omega | (simp only [List.length_set, List.length_replicate, List.length_append, List.length_map, List.length_take, List.length_cons, List.length_nil]; omega)) [wrap64, H.rep.cells, H.rep.one, setC]
      refine hJ _ _ hin ⟨o3, rfl, _, by rw [accK_succ hin, hkb]; exact H, by simpa using hZl, fun x hx => ?_⟩
      by_cases e : x = i
      · subst e; rw [gd_set (by simp; omega), fput_self]; simp [knum, hkb]
      · rw [gd_set (by simp; omega), fput_ne e]; exact hZ1 x (by omega)
  have hin : i = a.acc.length := by omega
  subst hin
  have hal := accK_len (a := a) (K := K) (i := a.acc.length)
  have hkl := kidx_le (K := K) (q := a.acc.length)
  by_cases h0 : kidx K a.acc.length = 0
  · simp -implicitDefEqProofs (disch := first | omega | (simp only [List.length_set, List.length_replicate, List.length_append, List.length_map, List.length_take, List.length_cons, List.length_nil]; omega)) [wrap64, H.rep.len, hal, h0]
    refine H.mks (α := Bool) (z := false) rfl rfl own_false (Nat.le_refl _) (by decide) (by decide) fun r h6 H => ?_
    have H : HS h [ow r [false]] h6 := H.only
    simp -implicitDefEqProofs (disch := first | omega | (simp only [List.length_set, List.length_replicate, List.length_append, List.length_map, List.length_take, List.length_cons, List.length_nil]; omega)) [wrap64, H.rep.cells, H.rep.one, setC]
    have H := HS.mkAut (a := ⟨[], [false], []⟩) ((H.nil_ow (α := Tr)).sw1.nil_ow (α := Int))
    rw [← hKt, Aut.keep_zero h0] at hk
    exact RetK.keep (hk _ _ H)
  have h0' : ¬ ((accK a K a.acc.length).length = 0) := by omega
  have hZr : ∀ q (hq : q < a.acc.length), Z[q]'(by omega) = knum K q := fun q hq => by rw [← gd_get]; exact hZ q hq
  simp -implicitDefEqProofs (disch := first | omega | (simp only [List.length_set, List.length_replicate, List.length_append, List.length_map, List.length_take, List.length_cons, List.length_nil]; omega)) [wrap64, H.rep.len, hal, h0, R1.len]
  have H := H.sw2.drop.sw2.drop
  have H := H.nil_ow (α := Int)
  refine wp_count a.init.length (fun i e h' => ∃ o1, e = [none, some (.agg #[v1, v2, v3]), some (.agg #[.slice none 0 0, .slice none 0 0, .slice none 0 0]), none, none, some z, some (.agg #[o1, o2, .slice none 0 0]), none, none, none, none, none, some v1, some (.int .i64 a.init.length), some (.int .i64 i), none, none, none] ∧
    HS h [ow o1 (((a.init.take i).filter fun q => K q.toNat).map (kout K)), ow o2 (accK a K a.acc.length), ow z Z] h') ⟨.slice none 0 0, by simp, by simpa using H⟩ ?_
  clear H hJ
  rintro J i _ h6 hJ hi ⟨o1, rfl, H⟩
  have hl1 := List.length_filter_le (fun q : Int => K q.toNat) (a.init.take i)
  simp only [List.length_take] at hl1
  simp -implicitDefEqProofs (disch := first | omega | (simp only [List.length_set, List.length_replicate, List.length_append, List.length_map, List.length_take, List.length_cons, List.length_nil]; omega)) [wrap64]
  refine IteW.mk (fun hlt2 => ?_) (fun hge2 => ?_)
  · have hix : i < a.init.length := by omega
    have hx := ha.im hix
    obtain ⟨q, hq⟩ : ∃ q : Nat, a.init[i] = q := ⟨a.init[i].toNat, by omega⟩
    have hqn : q < a.acc.length := by omega
    have hzq := hZr q hqn
    have hfm := filter_map_take (p := fun q : Int => K q.toNat) (f := kout K) hix
    have hkq := kidx_le (K := K) (q := q)
    cases hkb : K q with
    | true =>
      have hzq2 : Z[q]'(by omega) = (kidx K q : Int) := by rw [hzq]; simp [knum, hkb]
      simp -implicitDefEqProofs (disch := first | omega | (simp only [List.length_set, List.length_replicate, List.length_append, List.length_map, List.length_take, List.length_cons, List.length_nil]; omega)) [wrap64, (R1.on H).I, hq, H.sw2.rep.I, hzq2]
      refine H.app1 (kidx K q : Int) rfl rfl rfl ⟨by omega, by omega⟩ rfl rfl (by simp; omega) (by simp; omega) fun o1' h7 H => ?_
      simp -implicitDefEqProofs (disch := first | omega | (simp only [List.length_set, List.length_replicate, List.length_append, List.length_map, List.length_take, List.length_cons, List.length_nil]; omega)) [wrap64, H.rep.cells, H.rep.one, setC]
      refine hJ _ _ hix ⟨o1', rfl, ?_⟩
      rw [hfm, hq]
      simpa [hkb, kout] using H
    | false =>
      have hzq2 : Z[q]'(by omega) = -1 := by rw [hzq]; simp [knum, hkb]
      simp -implicitDefEqProofs (disch := first | omega | (simp only [List.length_set, List.length_replicate, List.length_append, List.length_map, List.length_take, List.length_cons, List.length_nil]; omega)) [wrap64, (R1.on H).I, hq, H.sw2.rep.I, hzq2]
      refine hJ _ _ hix ⟨o1, rfl, ?_⟩
      rw [hfm, hq]
      simpa [hkb] using H
  have hii : i = a.init.length := by omega
  subst hii
  rw [List.take_length] at H
  have H := H.nil_ow (α := Tr)
  simp -implicitDefEqProofs (disch := first | omega | (simp only [List.length_set, List.length_replicate, List.length_append, List.length_map, List.length_take, List.length_cons, List.length_nil]; omega)) [wrap64, (R3.on H).len]
  refine wp_count a.edges.length (fun i e h' => ∃ o3, e = [none, none, some (.agg #[.slice none 0 0, .slice none 0 0, .slice none 0 0]), none, none, some z, some (.agg #[o1, o2, o3]), none, none, none, none, none, none, none, none, some v3, some (.int .i64 a.edges.length), some (.int .i64 i)] ∧
    HS h [ow o3 (((a.edges.take i).filter fun e => K e.frm.toNat && K e.to.toNat).map (Tr.ren (kout K))), ow o1 ((a.init.filter fun q => K q.toNat).map (kout K)), ow o2 (accK a K a.acc.length), ow z Z] h') ⟨.slice none 0 0, by simp, by simpa using H⟩ ?_
  clear H hJ
  rintro J i _ h7 hJ hi ⟨o3, rfl, H⟩
  have hl2 := List.length_filter_le (fun e : Tr => K e.frm.toNat && K e.to.toNat) (a.edges.take i)
  simp only [List.length_take] at hl2
  simp -implicitDefEqProofs (disch := first | omega | (simp only [List.length_set, List.length_replicate, List.length_append, List.length_map, List.length_take, List.length_cons, List.length_nil]; omega)) [wrap64]
  refine IteW.mk (fun hlt3 => ?_) (fun hge3 => ?_)
  · have hix : i < a.edges.length := by omega
    have hx := ha.t hix
    have hv := R3.okTr hix
    unfold Tr.Ok at hx
    obtain ⟨f, hf⟩ : ∃ f : Nat, a.edges[i].frm = f := ⟨a.edges[i].frm.toNat, by omega⟩
    obtain ⟨t, ht⟩ : ∃ t : Nat, a.edges[i].to = t := ⟨a.edges[i].to.toNat, by omega⟩
    have hfn : f < a.acc.length := by omega
    have htn : t < a.acc.length := by omega
    have hzf := hZr f hfn
    have hzt := hZr t htn
    have hfm := filter_map_take (p := fun e : Tr => K e.frm.toNat && K e.to.toNat) (f := Tr.ren (kout K)) hix
    have hkf := kidx_le (K := K) (q := f)
    have hkt := kidx_le (K := K) (q := t)
    cases hkb : K f with
    | false =>
      have hzf2 : Z[f]'(by omega) = -1 := by rw [hzf]; simp [knum, hkb]
      simp -implicitDefEqProofs (disch := first | omega | (simp only [List.length_set, List.length_replicate, List.length_append, List.length_map, List.length_take, List.length_cons, List.length_nil]; omega)) [wrap64, (R3.on H).xTr, Tr.v, setC, hf, H.sw3.rep.I, hzf2]
      refine hJ _ _ hix ⟨o3, rfl, ?_⟩
      rw [hfm, hf]
      simpa [hkb] using H
    | true =>
      have hzf2 : Z[f]'(by omega) = (kidx K f : Int) := by rw [hzf]; simp [knum, hkb]
      cases hkb2 : K t with
      | false =>
        have hzt2 : Z[t]'(by omega) = -1 := by rw [hzt]; simp [knum, hkb2]
        simp -implicitDefEqProofs (disch := first | omega | (simp only [List.length_set, List.length_replicate, List.length_append, List.length_map, List.length_take, List.length_cons, List.length_nil]; omega)) [wrap64, (R3.on H).xTr, Tr.v, setC, hf, ht, H.sw3.rep.I, hzf2, hzt2]
        refine hJ _ _ hix ⟨o3, rfl, ?_⟩
        rw [hfm, hf, ht]
        simpa [hkb2] using H
      | true =>
        have hzt2 : Z[t]'(by omega) = (kidx K t : Int) := by rw [hzt]; simp [knum, hkb2]
        simp -implicitDefEqProofs (disch := first | omega | (simp only [List.length_set, List.length_replicate, List.length_append, List.length_map, List.length_take, List.length_cons, List.length_nil]; omega)) [wrap64, (R3.on H).xTr, Tr.v, setC, hf, ht, H.sw3.rep.I, hzf2, hzt2]
        refine H.app1 (⟨(kidx K f : Int), a.edges[i].care, a.edges[i].value, (kidx K t : Int)⟩ : Tr) rfl rfl rfl (Tr.ok_iff.2 ⟨⟨by dsimp only; omega, by dsimp only; omega⟩, hv.care, hv.value, ⟨by dsimp only; omega, by dsimp only; omega⟩⟩) rfl rfl (by simp; omega) (by simp; omega) fun o3' h8 H => ?_
        simp -implicitDefEqProofs (disch := first | omega | (simp only [List.length_set, List.length_replicate, List.length_append, List.length_map, List.length_take, List.length_cons, List.length_nil]; omega)) [wrap64, H.rep.cells, H.rep.one, setC]
        refine hJ _ _ hix ⟨o3', rfl, ?_⟩
        rw [hfm, hf, ht]
        have hren : Tr.ren (kout K) a.edges[i] = ⟨(kidx K f : Int), a.edges[i].care, a.edges[i].value, (kidx K t : Int)⟩ := by
          simp [Tr.ren, kout, hf, ht]
        simpa [hkb, hkb2, hren] using H
  have hii : i = a.edges.length := by omega
  subst hii
  rw [List.take_length] at H
  have H := HS.mkAut (a := a.keep K) (by rw [Aut.keep_pos h0]; exact H.sw2.sw2)
  have hok := Aut.keep_ok ha K
  have e1 := hok.n
  have e2 := hok.il
  have e3 := hok.e
  simp -implicitDefEqProofs (disch := first | omega | (simp only [List.length_set, List.length_replicate, List.length_append, List.length_map, List.length_take, List.length_cons, List.length_nil]; omega)) [wrap64]
  refine (c_copyOf H.rep (by omega) (by omega) (by omega)).go ?_
  intro v' h9 H6
  have H := (H6.app H).only
  obtain ⟨z1, z2, z3, rfl, S1, S2, S3⟩ := Rep_Aut.1 H.rep
  simp -implicitDefEqProofs (disch := first | omega | (simp only [List.length_set, List.length_replicate, List.length_append, List.length_map, List.length_take, List.length_cons, List.length_nil]; omega)) [wrap64, S1.one, S2.one, S3.one]
  rw [hKt] at H
  exact RetK.keep (hk _ _ H)
end Go.Proofs.Ytknkjplnngeebaa
