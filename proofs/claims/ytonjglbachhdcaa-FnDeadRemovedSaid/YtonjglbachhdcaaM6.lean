/-
  Texts of this proof, one behind the other.
-/
import Derived.Test.YtonjglbachhdcaaM5
/-
  Arguments of laws: changed expressions, guards that are drawn.
-/
namespace Go.Proofs.Ytonjglbachhdcaa
open Go
set_option linter.all false
set_option linter.unusedVariables false
set_option linter.unusedSimpArgs false
set_option linter.defProp false
set_option maxRecDepth 1000000

theorem c_l1Mutate {g h : Heap} {Γ : List HP} {b : Nat} {sl v : Value} {l : List (BitVec 8)} {p : Int} {x : Exq} (R : Rep g sl l) (Rx : Rep g v x) (hx : x.nod ≤ 1000) (H : HS g (rb b sl p :: Γ) h) (hp : 0 ≤ p) (hp2 : p + 100 ≤ 1000000000000) :
    CallE Try.prog fn_spec_l1Mutate [.pointer (some ⟨b, 0, none⟩), v] h (fun u h' => ∃ (y : Exq) (p' : Int), HS g (ow u y :: rb b sl p' :: Γ) h' ∧ y.nod ≤ x.nod + 1 ∧ p ≤ p' ∧ p' ≤ p + 2) := by
  have FX := Rx.aExq
  have hnp := x.nod_pos
  refine CallE.gen fun k hk => EN_spec_l1Mutate rfl ?_
  simp -implicitDefEqProofs (disch := first | omega | (simp only [List.length_set, List.length_replicate, List.length_append, List.length_map, List.length_take, List.length_cons, List.length_nil]; omega)) [wrap64, FX]
  refine (c_l1SubstB x (Rx.on H) hx).go ?_
  rintro o h1 ⟨y, G, hy⟩
  obtain ⟨w, rfl, k1, k2, G'⟩ := G.unExq
  have hO := G'.rep.one
  have hC := G'.rep.cells
  have H := G'.app H
  have hyn := Exq.nod_eq y
  have hyl := Exq.len_nods (l := y.kids)
  simp -implicitDefEqProofs (disch := first | omega | (simp only [List.length_set, List.length_replicate, List.length_append, List.length_map, List.length_take, List.length_cons, List.length_nil]; omega)) [wrap64, setC, hO, hC]
  refine (c_pick (n := 40) R H.sw1 (by omega) (by omega) ⟨by decide, by decide⟩).go ?_
  rintro _ h2 ⟨r, rfl, o1, z1, y1, H⟩
  by_cases c0 : r = 0
  · simp -implicitDefEqProofs (disch := first | omega | (simp only [List.length_set, List.length_replicate, List.length_append, List.length_map, List.length_take, List.length_cons, List.length_nil]; omega)) [wrap64, c0]
    refine H.bls [(0 : Int), 10, -1, 1, 2, 3, 4] rfl rfl (okL (by decide)) (by decide) fun q h3 H => ?_
    simp -implicitDefEqProofs (disch := first | omega | (simp only [List.length_set, List.length_replicate, List.length_append, List.length_map, List.length_take, List.length_cons, List.length_nil]; omega)) [wrap64]
    refine (c_num R H (by omega) (by omega) (by simp)).go ?_
    rintro _ h4 ⟨r2, rfl, o2, _, H⟩
    simp -implicitDefEqProofs (disch := first | omega | (simp only [List.length_set, List.length_replicate, List.length_append, List.length_map, List.length_take, List.length_cons, List.length_nil]; omega)) [wrap64, setC, hO, hC]
    exact RetK.keep (hk _ _ ⟨Exq.mk r2 y.val y.kids, _, HS.mkExq' H.sw1 o2 k2, by rw [Exq.nod_eq, Exq.kids_mk]; omega, by omega, by omega⟩)
  by_cases c1 : r = 1
  · simp -implicitDefEqProofs (disch := first | omega | (simp only [List.length_set, List.length_replicate, List.length_append, List.length_map, List.length_take, List.length_cons, List.length_nil]; omega)) [wrap64, c0, c1]
    refine H.bls [(-1 : Int), 4, 3, 9223372036854775807] rfl rfl (okL (by decide)) (by decide) fun q h3 H => ?_
    simp -implicitDefEqProofs (disch := first | omega | (simp only [List.length_set, List.length_replicate, List.length_append, List.length_map, List.length_take, List.length_cons, List.length_nil]; omega)) [wrap64]
    refine (c_num R H (by omega) (by omega) (by simp)).go ?_
    rintro _ h4 ⟨r2, rfl, o2, _, H⟩
    simp -implicitDefEqProofs (disch := first | omega | (simp only [List.length_set, List.length_replicate, List.length_append, List.length_map, List.length_take, List.length_cons, List.length_nil]; omega)) [wrap64, setC, hO, hC]
    exact RetK.keep (hk _ _ ⟨Exq.mk y.kind r2 y.kids, _, HS.mkExq' H.sw1 k1 o2, by rw [Exq.nod_eq, Exq.kids_mk]; omega, by omega, by omega⟩)
  by_cases c2 : r = 2
  · simp -implicitDefEqProofs (disch := first | omega | (simp only [List.length_set, List.length_replicate, List.length_append, List.length_map, List.length_take, List.length_cons, List.length_nil]; omega)) [wrap64, c0, c1, c2, setC]
    refine HS.appO (bytes := 40) (H.sw1.mkE0 (kd := 1) (vl := 0) ⟨by decide, by decide⟩ ⟨by decide, by decide⟩) rfl rfl rfl rfl rfl (by omega) (by omega) fun w2 h3 H => ?_
    have hO2 := H.rep.one
    have hC2 := H.rep.cells
    simp -implicitDefEqProofs (disch := first | omega | (simp only [List.length_set, List.length_replicate, List.length_append, List.length_map, List.length_take, List.length_cons, List.length_nil]; omega)) [wrap64, setC, hO2, hC2]
    refine RetK.keep (hk _ _ ⟨Exq.mk y.kind y.val _, _, HS.mkExq' H k1 k2, ?_, by omega, by omega⟩)
    rw [Exq.nod_eq, Exq.kids_mk, Exq.nods_append, show Exq.nods [Exq.mk 1 0 []] = 1 from rfl]; omega
  by_cases c3 : r = 3
  · simp -implicitDefEqProofs (disch := first | omega | (simp only [List.length_set, List.length_replicate, List.length_append, List.length_map, List.length_take, List.length_cons, List.length_nil]; omega)) [wrap64, c0, c1, c2, c3, setC]
    exact RetK.keep (hk _ _ ⟨Exq.mk 0 0 [], _, (H.sw1.drop).mkE0 ⟨by decide, by decide⟩ ⟨by decide, by decide⟩, by rw [Exq.nod_mk0]; omega, by omega, by omega⟩)
  · simp -implicitDefEqProofs (disch := first | omega | (simp only [List.length_set, List.length_replicate, List.length_append, List.length_map, List.length_take, List.length_cons, List.length_nil]; omega)) [wrap64, c0, c1, c2, c3, setC, hO, hC]
    exact RetK.keep (hk _ _ ⟨y, _, HS.mkExq H.sw1 k1 k2, by omega, by omega, by omega⟩)

theorem c_l2Guard {g h : Heap} {Γ : List HP} {b : Nat} {sl : Value} {l : List (BitVec 8)} {p : Int} (R : Rep g sl l) (H : HS g (rb b sl p :: Γ) h) (hp : 0 ≤ p) (hp2 : p + 100 ≤ 1000000000000) :
    CallE Try.prog fn_spec_l2Guard [.pointer (some ⟨b, 0, none⟩)] h (fun u h' => ∃ (y : Exq) (p' : Int), HS g (ow u y :: rb b sl p' :: Γ) h' ∧ y.nod ≤ 4 ∧ p ≤ p' ∧ p' ≤ p + 5) := by
  refine CallE.gen fun k hk => EN_spec_l2Guard rfl ?_
  simp -implicitDefEqProofs (disch := first | omega | (simp only [List.length_set, List.length_replicate, List.length_append, List.length_map, List.length_take, List.length_cons, List.length_nil]; omega)) [wrap64]
  refine (c_pick (n := 3) R H (by omega) (by omega) ⟨by decide, by decide⟩).go ?_
  rintro _ h1 ⟨r1, rfl, o1, z1, y1, H⟩
  by_cases c1 : r1 = 0
  · simp -implicitDefEqProofs (disch := first | omega | (simp only [List.length_set, List.length_replicate, List.length_append, List.length_map, List.length_take, List.length_cons, List.length_nil]; omega)) [wrap64, c1, setC]
    exact RetK.keep (hk _ _ ⟨Exq.mk 1 1 [], _, H.mkE0 ⟨by decide, by decide⟩ ⟨by decide, by decide⟩, by rw [Exq.nod_mk0]; omega, by omega, by omega⟩)
  simp -implicitDefEqProofs (disch := first | omega | (simp only [List.length_set, List.length_replicate, List.length_append, List.length_map, List.length_take, List.length_cons, List.length_nil]; omega)) [wrap64, c1]
  refine H.bls [(0 : Int), 1, 0, 2] rfl rfl (okL (by decide)) (by decide) fun q h3 H => ?_
  simp -implicitDefEqProofs (disch := first | omega | (simp only [List.length_set, List.length_replicate, List.length_append, List.length_map, List.length_take, List.length_cons, List.length_nil]; omega)) [wrap64]
  refine (c_num R H (by omega) (by omega) (by simp)).go ?_
  rintro _ h4 ⟨r2, rfl, o2, _, H⟩
  simp -implicitDefEqProofs (disch := first | omega | (simp only [List.length_set, List.length_replicate, List.length_append, List.length_map, List.length_take, List.length_cons, List.length_nil]; omega)) [wrap64, setC]
  refine (c_pick (n := 3) R H (by omega) (by omega) ⟨by decide, by decide⟩).go ?_
  rintro _ h1 ⟨r3, rfl, o3, z3, y3, H⟩
  simp -implicitDefEqProofs (disch := first | omega | (simp only [List.length_set, List.length_replicate, List.length_append, List.length_map, List.length_take, List.length_cons, List.length_nil]; omega)) [wrap64, setC]
  refine pl_cut (fun e' h' => ∃ kd w r, e' = some (.pointer (some ⟨b, 0, none⟩)) :: some ez :: some (.agg #[.int .i64 2, .int .i64 r2, .slice none 0 0]) :: some (.agg #[.int .i64 1, .int .i64 r3, .slice none 0 0]) :: some (.agg #[.int .i64 kd, .int .i64 0, w]) :: r ∧ I64 kd ∧ HS g (ow w [Exq.mk 2 r2 [], Exq.mk 1 r3 []] :: rb b sl (p + 1 + 1 + 1 + 1) :: Γ) h') (fun K hK => ?_) ?_
  · refine ⟨?_, ?_⟩
    · simp -implicitDefEqProofs (disch := first | omega | (simp only [List.length_set, List.length_replicate, List.length_append, List.length_map, List.length_take, List.length_cons, List.length_nil]; omega)) [wrap64]
      refine H.bls [(6 : Int), 7, 6] rfl rfl (okL (by decide)) (by decide) fun q h6 H => ?_
      refine ⟨?_, ?_⟩
      · simp -implicitDefEqProofs (disch := first | omega | (simp only [List.length_set, List.length_replicate, List.length_append, List.length_map, List.length_take, List.length_cons, List.length_nil]; omega)) [wrap64]
        refine (c_num R H (by omega) (by omega) (by simp)).go ?_
        rintro _ h7 ⟨kd, rfl, okd, _, H⟩
        simp -implicitDefEqProofs (disch := first | omega | (simp only [List.length_set, List.length_replicate, List.length_append, List.length_map, List.length_take, List.length_cons, List.length_nil]; omega)) [wrap64]
        refine HS.blsO2 ((H.mkE0 (kd := 1) (vl := r3) ⟨by decide, by decide⟩ o3).mkE0 (kd := 2) (vl := r2) ⟨by decide, by decide⟩ o2) rfl fun w h8 H => ?_
        simp -implicitDefEqProofs (disch := first | omega | (simp only [List.length_set, List.length_replicate, List.length_append, List.length_map, List.length_take, List.length_cons, List.length_nil]; omega)) [wrap64, setC, H.rep.one, H.rep.cells]
        exact hK _ _ ⟨kd, w, _, rfl, okd, H⟩
      · simp -implicitDefEqProofs (disch := first | omega | (simp only [List.length_set, List.length_replicate, List.length_append, List.length_map, List.length_take, List.length_cons, List.length_nil]; omega)) [wrap64]
        refine HS.blsO2 ((H.mkE0 (kd := 1) (vl := r3) ⟨by decide, by decide⟩ o3).mkE0 (kd := 2) (vl := r2) ⟨by decide, by decide⟩ o2) rfl fun w h8 H => ?_
        simp -implicitDefEqProofs (disch := first | omega | (simp only [List.length_set, List.length_replicate, List.length_append, List.length_map, List.length_take, List.length_cons, List.length_nil]; omega)) [wrap64]
        refine (c_num R H.bk2 (by omega) (by omega) (by simp)).go ?_
        rintro _ h7 ⟨kd, rfl, okd, _, H⟩
        simp -implicitDefEqProofs (disch := first | omega | (simp only [List.length_set, List.length_replicate, List.length_append, List.length_map, List.length_take, List.length_cons, List.length_nil]; omega)) [wrap64, setC, H.sw1.rep.one, H.sw1.rep.cells]
        exact hK _ _ ⟨kd, w, _, rfl, okd, H.sw1⟩
    · simp -implicitDefEqProofs (disch := first | omega | (simp only [List.length_set, List.length_replicate, List.length_append, List.length_map, List.length_take, List.length_cons, List.length_nil]; omega)) [wrap64]
      refine HS.blsO2 ((H.mkE0 (kd := 1) (vl := r3) ⟨by decide, by decide⟩ o3).mkE0 (kd := 2) (vl := r2) ⟨by decide, by decide⟩ o2) rfl fun w h8 H => ?_
      simp -implicitDefEqProofs (disch := first | omega | (simp only [List.length_set, List.length_replicate, List.length_append, List.length_map, List.length_take, List.length_cons, List.length_nil]; omega)) [wrap64]
      refine H.bls [(6 : Int), 7, 6] rfl rfl (okL (by decide)) (by decide) fun q h6 H => ?_
      simp -implicitDefEqProofs (disch := first | omega | (simp only [List.length_set, List.length_replicate, List.length_append, List.length_map, List.length_take, List.length_cons, List.length_nil]; omega)) [wrap64]
      refine (c_num R H.sw1.bk2 (by omega) (by omega) (by simp)).go ?_
      rintro _ h7 ⟨kd, rfl, okd, _, H⟩
      simp -implicitDefEqProofs (disch := first | omega | (simp only [List.length_set, List.length_replicate, List.length_append, List.length_map, List.length_take, List.length_cons, List.length_nil]; omega)) [wrap64, setC, H.sw1.rep.one, H.sw1.rep.cells]
      exact hK _ _ ⟨kd, w, _, rfl, okd, H.sw1⟩
  rintro _ h5 ⟨kd, w, r, rfl, okd, H⟩
  have hO := H.rep.one
  have hC := H.rep.cells
  simp -implicitDefEqProofs (disch := first | omega | (simp only [List.length_set, List.length_replicate, List.length_append, List.length_map, List.length_take, List.length_cons, List.length_nil]; omega)) [wrap64]
  refine (c_pick (n := 5) R H.sw1 (by omega) (by omega) ⟨by decide, by decide⟩).go ?_
  rintro _ h6 ⟨r4, rfl, o4, z4, y4, H⟩
  by_cases c2 : r4 = 0
  · simp -implicitDefEqProofs (disch := first | omega | (simp only [List.length_set, List.length_replicate, List.length_append, List.length_map, List.length_take, List.length_cons, List.length_nil]; omega)) [wrap64, c2, setC, hO, hC]
    refine HS.blsO1 (HS.mkExq' (kd := kd) (vl := 0) H.sw1 okd ⟨by decide, by decide⟩) rfl fun w2 h7 H => ?_
    have hO2 := H.rep.one
    have hC2 := H.rep.cells
    simp -implicitDefEqProofs (disch := first | omega | (simp only [List.length_set, List.length_replicate, List.length_append, List.length_map, List.length_take, List.length_cons, List.length_nil]; omega)) [wrap64, setC, hO2, hC2, ez]
    exact RetK.keep (hk _ _ ⟨Exq.mk 3 0 _, _, HS.mkExq' H ⟨by decide, by decide⟩ ⟨by decide, by decide⟩, by simp [Exq.nods, Exq.nod], by omega, by omega⟩)
  · simp -implicitDefEqProofs (disch := first | omega | (simp only [List.length_set, List.length_replicate, List.length_append, List.length_map, List.length_take, List.length_cons, List.length_nil]; omega)) [wrap64, c2, setC, hO, hC, ez]
    exact RetK.keep (hk _ _ ⟨_, _, HS.mkExq' H.sw1 okd ⟨by decide, by decide⟩, by rw [Exq.nod_eq, Exq.kids_mk]; simp [Exq.nods, Exq.nod], by omega, by omega⟩)
end Go.Proofs.Ytonjglbachhdcaa

/-
  Arguments of laws: systems that are drawn.
-/
namespace Go.Proofs.Ytonjglbachhdcaa
open Go
set_option linter.all false
set_option linter.unusedVariables false
set_option linter.unusedSimpArgs false
set_option linter.defProp false
set_option maxRecDepth 1000000

structure Ed.Sm (n : Nat) (e : Ed) : Prop where
  g : e.guard.nod ≤ n
  v : e.value.nod ≤ n
structure Pr.Sm (n : Nat) (p : Pr) : Prop where
  el : p.edges.length ≤ n
  ee : ∀ e ∈ p.edges, e.Sm n
structure Sy.Sm (n : Nat) (s : Sy) : Prop where
  il : s.init.length ≤ n
  pl : s.procs.length ≤ n
  pp : ∀ p ∈ s.procs, p.Sm n

theorem c_l2DrawEdge {g h : Heap} {Γ : List HP} {b : Nat} {sl : Value} {l : List (BitVec 8)} {p n : Int} (R : Rep g sl l) (H : HS g (rb b sl p :: Γ) h) (hp : 0 ≤ p) (hp2 : p + 200 ≤ 1000000000000) (hn : I64 n) :
    CallE Try.prog fn_spec_l2DrawEdge [.pointer (some ⟨b, 0, none⟩), .int .i64 n] h (fun u h' => ∃ (y : Ed) (p' : Int), HS g (ow u y :: rb b sl p' :: Γ) h' ∧ y.Sm 40 ∧ p ≤ p' ∧ p' ≤ p + 90) := by
  have i0 : I64 0 := ⟨by decide, by decide⟩
  have i1 : I64 1 := ⟨by decide, by decide⟩
  have im : I64 (-1) := ⟨by decide, by decide⟩
  have i8 : I64 8 := ⟨by decide, by decide⟩
  have i9 : I64 9 := ⟨by decide, by decide⟩
  refine CallE.gen fun k hk => EN_spec_l2DrawEdge rfl ?_
  simp -implicitDefEqProofs (disch := first | omega | (simp only [List.length_set, List.length_replicate, List.length_append, List.length_map, List.length_take, List.length_cons, List.length_nil]; omega)) [wrap64]
  refine (c_pick R H (by omega) (by omega) hn).go ?_
  rintro _ h1 ⟨r1, rfl, o1, z1, y1, H⟩
  simp -implicitDefEqProofs (disch := first | omega | (simp only [List.length_set, List.length_replicate, List.length_append, List.length_map, List.length_take, List.length_cons, List.length_nil]; omega)) [wrap64]
  refine (c_pick R H (by omega) (by omega) hn).go ?_
  rintro _ h1 ⟨r2, rfl, o2, z2, y2, H⟩
  simp -implicitDefEqProofs (disch := first | omega | (simp only [List.length_set, List.length_replicate, List.length_append, List.length_map, List.length_take, List.length_cons, List.length_nil]; omega)) [wrap64]
  refine (c_l2Guard R H (by omega) (by omega)).go ?_
  rintro _ h1 ⟨gu, p1, H, hgn, hp3, hp4⟩
  obtain ⟨wg, rfl, k1, k2, H⟩ := H.unExq
  have hOg := H.rep.one
  have hCg := H.rep.cells
  simp -implicitDefEqProofs (disch := first | omega | (simp only [List.length_set, List.length_replicate, List.length_append, List.length_map, List.length_take, List.length_cons, List.length_nil]; omega)) [wrap64, setC, hOg, hCg]
  refine (c_pick (n := 3) R H.sw1 (by omega) (by omega) ⟨by decide, by decide⟩).go ?_
  rintro _ h1 ⟨r3, rfl, o3, z3, y3, H⟩
  by_cases c3 : 0 < r3
  case neg =>
    simp -implicitDefEqProofs (disch := first | omega | (simp only [List.length_set, List.length_replicate, List.length_append, List.length_map, List.length_take, List.length_cons, List.length_nil]; omega)) [wrap64, c3]
    have H := (H.sw1.nil_ow (α := Exq)).sw2
    refine (c_pick (n := 4) R H (by omega) (by omega) ⟨by decide, by decide⟩).go ?_
    rintro _ ht ⟨r9, rfl, o9, z9, y9, H⟩
    by_cases c9 : r9 = 0
    · simp -implicitDefEqProofs (disch := first | omega | (simp only [List.length_set, List.length_replicate, List.length_append, List.length_map, List.length_take, List.length_cons, List.length_nil]; omega)) [wrap64, c9]
      refine H.bls [(1 : Int), -1, 1, -1, 2, -2] rfl rfl (okL (by decide)) (by decide) fun q hq H => ?_
      simp -implicitDefEqProofs (disch := first | omega | (simp only [List.length_set, List.length_replicate, List.length_append, List.length_map, List.length_take, List.length_cons, List.length_nil]; omega)) [wrap64]
      refine (c_num R H (by omega) (by omega) (by simp)).go ?_
      rintro _ ht2 ⟨sy, rfl, osy, _, H⟩
      simp -implicitDefEqProofs (disch := first | omega | (simp only [List.length_set, List.length_replicate, List.length_append, List.length_map, List.length_take, List.length_cons, List.length_nil]; omega)) [wrap64, setC, hOg, hCg]
      exact RetK.keep (hk _ _ ⟨⟨r1, r2, gu, -1, (Exq.mk 0 0 []), sy⟩, _, HS.mkEd (e := ⟨r1, r2, gu, -1, (Exq.mk 0 0 []), sy⟩) (H.bk2.sw1) ⟨o1, o2, k1, k2, im, i0, i0, osy⟩, ⟨by dsimp only; omega, by simp [Exq.nod, Exq.nods]⟩, by omega, by omega⟩)
    · simp -implicitDefEqProofs (disch := first | omega | (simp only [List.length_set, List.length_replicate, List.length_append, List.length_map, List.length_take, List.length_cons, List.length_nil]; omega)) [wrap64, c9, setC, hOg, hCg]
      exact RetK.keep (hk _ _ ⟨⟨r1, r2, gu, -1, (Exq.mk 0 0 []), 0⟩, _, HS.mkEd (e := ⟨r1, r2, gu, -1, (Exq.mk 0 0 []), 0⟩) (H.bk2.sw1) ⟨o1, o2, k1, k2, im, i0, i0, i0⟩, ⟨by dsimp only; omega, by simp [Exq.nod, Exq.nods]⟩, by omega, by omega⟩)
  simp -implicitDefEqProofs (disch := first | omega | (simp only [List.length_set, List.length_replicate, List.length_append, List.length_map, List.length_take, List.length_cons, List.length_nil]; omega)) [wrap64, c3]
  refine H.bls [(0 : Int), 1, 0, 2] rfl rfl (okL (by decide)) (by decide) fun q hq H => ?_
  simp -implicitDefEqProofs (disch := first | omega | (simp only [List.length_set, List.length_replicate, List.length_append, List.length_map, List.length_take, List.length_cons, List.length_nil]; omega)) [wrap64]
  refine (c_num R H (by omega) (by omega) (by simp)).go ?_
  rintro _ ht2 ⟨vr, rfl, ovr, _, H⟩
  simp -implicitDefEqProofs (disch := first | omega | (simp only [List.length_set, List.length_replicate, List.length_append, List.length_map, List.length_take, List.length_cons, List.length_nil]; omega)) [wrap64, setC, hOg, hCg]
  refine (c_pick (n := 4) R H (by omega) (by omega) ⟨by decide, by decide⟩).go ?_
  rintro _ h1 ⟨r5, rfl, o5, z5, y5, H⟩
  by_cases d0 : r5 = 0
  · simp -implicitDefEqProofs (disch := first | omega | (simp only [List.length_set, List.length_replicate, List.length_append, List.length_map, List.length_take, List.length_cons, List.length_nil]; omega)) [wrap64, d0]
    refine (c_pick (n := 3) R H (by omega) (by omega) ⟨by decide, by decide⟩).go ?_
    rintro _ h1 ⟨r6, rfl, o6, z6, y6, H⟩
    simp -implicitDefEqProofs (disch := first | omega | (simp only [List.length_set, List.length_replicate, List.length_append, List.length_map, List.length_take, List.length_cons, List.length_nil]; omega)) [wrap64, setC, hOg, hCg]
    have H := (H.sw1.nil_ow (α := Exq)).sw2
    refine (c_pick (n := 4) R H (by omega) (by omega) ⟨by decide, by decide⟩).go ?_
    rintro _ ht ⟨r9, rfl, o9, z9, y9, H⟩
    by_cases c9 : r9 = 0
    · simp -implicitDefEqProofs (disch := first | omega | (simp only [List.length_set, List.length_replicate, List.length_append, List.length_map, List.length_take, List.length_cons, List.length_nil]; omega)) [wrap64, c9]
      refine H.bls [(1 : Int), -1, 1, -1, 2, -2] rfl rfl (okL (by decide)) (by decide) fun q hq H => ?_
      simp -implicitDefEqProofs (disch := first | omega | (simp only [List.length_set, List.length_replicate, List.length_append, List.length_map, List.length_take, List.length_cons, List.length_nil]; omega)) [wrap64]
      refine (c_num R H (by omega) (by omega) (by simp)).go ?_
      rintro _ ht2 ⟨sy, rfl, osy, _, H⟩
      simp -implicitDefEqProofs (disch := first | omega | (simp only [List.length_set, List.length_replicate, List.length_append, List.length_map, List.length_take, List.length_cons, List.length_nil]; omega)) [wrap64, setC, hOg, hCg]
      exact RetK.keep (hk _ _ ⟨⟨r1, r2, gu, vr, (Exq.mk 1 r6 []), sy⟩, _, HS.mkEd (e := ⟨r1, r2, gu, vr, (Exq.mk 1 r6 []), sy⟩) (H.bk2.sw1) ⟨o1, o2, k1, k2, ovr, i1, o6, osy⟩, ⟨by dsimp only; omega, by simp [Exq.nod, Exq.nods]⟩, by omega, by omega⟩)
    · simp -implicitDefEqProofs (disch := first | omega | (simp only [List.length_set, List.length_replicate, List.length_append, List.length_map, List.length_take, List.length_cons, List.length_nil]; omega)) [wrap64, c9, setC, hOg, hCg]
      exact RetK.keep (hk _ _ ⟨⟨r1, r2, gu, vr, (Exq.mk 1 r6 []), 0⟩, _, HS.mkEd (e := ⟨r1, r2, gu, vr, (Exq.mk 1 r6 []), 0⟩) (H.bk2.sw1) ⟨o1, o2, k1, k2, ovr, i1, o6, i0⟩, ⟨by dsimp only; omega, by simp [Exq.nod, Exq.nods]⟩, by omega, by omega⟩)
  by_cases d1 : r5 = 1
  · simp -implicitDefEqProofs (disch := first | omega | (simp only [List.length_set, List.length_replicate, List.length_append, List.length_map, List.length_take, List.length_cons, List.length_nil]; omega)) [wrap64, d0, d1, setC]
    refine HS.blsO2 ((H.mkE0 (kd := 1) (vl := 1) ⟨by decide, by decide⟩ ⟨by decide, by decide⟩).mkE0 (kd := 2) (vl := vr) ⟨by decide, by decide⟩ ovr) rfl fun w h8 H => ?_
    have hOv := H.rep.one
    have hCv := H.rep.cells
    simp -implicitDefEqProofs (disch := first | omega | (simp only [List.length_set, List.length_replicate, List.length_append, List.length_map, List.length_take, List.length_cons, List.length_nil]; omega)) [wrap64, setC, hOg, hCg, hOv, hCv]
    have H := H.sw1
    refine (c_pick (n := 4) R H (by omega) (by omega) ⟨by decide, by decide⟩).go ?_
    rintro _ ht ⟨r9, rfl, o9, z9, y9, H⟩
    by_cases c9 : r9 = 0
    · simp -implicitDefEqProofs (disch := first | omega | (simp only [List.length_set, List.length_replicate, List.length_append, List.length_map, List.length_take, List.length_cons, List.length_nil]; omega)) [wrap64, c9]
      refine H.bls [(1 : Int), -1, 1, -1, 2, -2] rfl rfl (okL (by decide)) (by decide) fun q hq H => ?_
      simp -implicitDefEqProofs (disch := first | omega | (simp only [List.length_set, List.length_replicate, List.length_append, List.length_map, List.length_take, List.length_cons, List.length_nil]; omega)) [wrap64]
      refine (c_num R H (by omega) (by omega) (by simp)).go ?_
      rintro _ ht2 ⟨sy, rfl, osy, _, H⟩
      simp -implicitDefEqProofs (disch := first | omega | (simp only [List.length_set, List.length_replicate, List.length_append, List.length_map, List.length_take, List.length_cons, List.length_nil]; omega)) [wrap64, setC, hOg, hCg, hOv, hCv]
      exact RetK.keep (hk _ _ ⟨⟨r1, r2, gu, vr, (Exq.mk 8 0 [Exq.mk 2 vr [], Exq.mk 1 1 []]), sy⟩, _, HS.mkEd (e := ⟨r1, r2, gu, vr, (Exq.mk 8 0 [Exq.mk 2 vr [], Exq.mk 1 1 []]), sy⟩) (H.bk2.sw1) ⟨o1, o2, k1, k2, ovr, i8, i0, osy⟩, ⟨by dsimp only; omega, by simp [Exq.nod, Exq.nods]⟩, by omega, by omega⟩)
    · simp -implicitDefEqProofs (disch := first | omega | (simp only [List.length_set, List.length_replicate, List.length_append, List.length_map, List.length_take, List.length_cons, List.length_nil]; omega)) [wrap64, c9, setC, hOg, hCg, hOv, hCv]
      exact RetK.keep (hk _ _ ⟨⟨r1, r2, gu, vr, (Exq.mk 8 0 [Exq.mk 2 vr [], Exq.mk 1 1 []]), 0⟩, _, HS.mkEd (e := ⟨r1, r2, gu, vr, (Exq.mk 8 0 [Exq.mk 2 vr [], Exq.mk 1 1 []]), 0⟩) (H.bk2.sw1) ⟨o1, o2, k1, k2, ovr, i8, i0, i0⟩, ⟨by dsimp only; omega, by simp [Exq.nod, Exq.nods]⟩, by omega, by omega⟩)
  by_cases d2 : r5 = 2
  · simp -implicitDefEqProofs (disch := first | omega | (simp only [List.length_set, List.length_replicate, List.length_append, List.length_map, List.length_take, List.length_cons, List.length_nil]; omega)) [wrap64, d0, d1, d2, setC]
    refine HS.blsO2 ((H.mkE0 (kd := 2) (vl := vr) ⟨by decide, by decide⟩ ovr).mkE0 (kd := 1) (vl := 1) ⟨by decide, by decide⟩ ⟨by decide, by decide⟩) rfl fun w h8 H => ?_
    have hOv := H.rep.one
    have hCv := H.rep.cells
    simp -implicitDefEqProofs (disch := first | omega | (simp only [List.length_set, List.length_replicate, List.length_append, List.length_map, List.length_take, List.length_cons, List.length_nil]; omega)) [wrap64, setC, hOg, hCg, hOv, hCv]
    have H := H.sw1
    refine (c_pick (n := 4) R H (by omega) (by omega) ⟨by decide, by decide⟩).go ?_
    rintro _ ht ⟨r9, rfl, o9, z9, y9, H⟩
    by_cases c9 : r9 = 0
    · simp -implicitDefEqProofs (disch := first | omega | (simp only [List.length_set, List.length_replicate, List.length_append, List.length_map, List.length_take, List.length_cons, List.length_nil]; omega)) [wrap64, c9]
      refine H.bls [(1 : Int), -1, 1, -1, 2, -2] rfl rfl (okL (by decide)) (by decide) fun q hq H => ?_
      simp -implicitDefEqProofs (disch := first | omega | (simp only [List.length_set, List.length_replicate, List.length_append, List.length_map, List.length_take, List.length_cons, List.length_nil]; omega)) [wrap64]
      refine (c_num R H (by omega) (by omega) (by simp)).go ?_
      rintro _ ht2 ⟨sy, rfl, osy, _, H⟩
      simp -implicitDefEqProofs (disch := first | omega | (simp only [List.length_set, List.length_replicate, List.length_append, List.length_map, List.length_take, List.length_cons, List.length_nil]; omega)) [wrap64, setC, hOg, hCg, hOv, hCv]
      exact RetK.keep (hk _ _ ⟨⟨r1, r2, gu, vr, (Exq.mk 9 0 [Exq.mk 1 1 [], Exq.mk 2 vr []]), sy⟩, _, HS.mkEd (e := ⟨r1, r2, gu, vr, (Exq.mk 9 0 [Exq.mk 1 1 [], Exq.mk 2 vr []]), sy⟩) (H.bk2.sw1) ⟨o1, o2, k1, k2, ovr, i9, i0, osy⟩, ⟨by dsimp only; omega, by simp [Exq.nod, Exq.nods]⟩, by omega, by omega⟩)
    · simp -implicitDefEqProofs (disch := first | omega | (simp only [List.length_set, List.length_replicate, List.length_append, List.length_map, List.length_take, List.length_cons, List.length_nil]; omega)) [wrap64, c9, setC, hOg, hCg, hOv, hCv]
      exact RetK.keep (hk _ _ ⟨⟨r1, r2, gu, vr, (Exq.mk 9 0 [Exq.mk 1 1 [], Exq.mk 2 vr []]), 0⟩, _, HS.mkEd (e := ⟨r1, r2, gu, vr, (Exq.mk 9 0 [Exq.mk 1 1 [], Exq.mk 2 vr []]), 0⟩) (H.bk2.sw1) ⟨o1, o2, k1, k2, ovr, i9, i0, i0⟩, ⟨by dsimp only; omega, by simp [Exq.nod, Exq.nods]⟩, by omega, by omega⟩)
  · simp -implicitDefEqProofs (disch := first | omega | (simp only [List.length_set, List.length_replicate, List.length_append, List.length_map, List.length_take, List.length_cons, List.length_nil]; omega)) [wrap64, d0, d1, d2]
    refine (c_l1Expr R H (by omega) (by omega)).go ?_
    rintro _ h1 ⟨va, p5, H, hvn, hp5, hp6⟩
    obtain ⟨wv, rfl, k3, k4, H⟩ := H.unExq
    have hOv := H.rep.one
    have hCv := H.rep.cells
    simp -implicitDefEqProofs (disch := first | omega | (simp only [List.length_set, List.length_replicate, List.length_append, List.length_map, List.length_take, List.length_cons, List.length_nil]; omega)) [wrap64, setC, hOg, hCg, hOv, hCv]
    have H := H.sw1
    refine (c_pick (n := 4) R H (by omega) (by omega) ⟨by decide, by decide⟩).go ?_
    rintro _ ht ⟨r9, rfl, o9, z9, y9, H⟩
    by_cases c9 : r9 = 0
    · simp -implicitDefEqProofs (disch := first | omega | (simp only [List.length_set, List.length_replicate, List.length_append, List.length_map, List.length_take, List.length_cons, List.length_nil]; omega)) [wrap64, c9]
      refine H.bls [(1 : Int), -1, 1, -1, 2, -2] rfl rfl (okL (by decide)) (by decide) fun q hq H => ?_
      simp -implicitDefEqProofs (disch := first | omega | (simp only [List.length_set, List.length_replicate, List.length_append, List.length_map, List.length_take, List.length_cons, List.length_nil]; omega)) [wrap64]
      refine (c_num R H (by omega) (by omega) (by simp)).go ?_
      rintro _ ht2 ⟨sy, rfl, osy, _, H⟩
      simp -implicitDefEqProofs (disch := first | omega | (simp only [List.length_set, List.length_replicate, List.length_append, List.length_map, List.length_take, List.length_cons, List.length_nil]; omega)) [wrap64, setC, hOg, hCg, hOv, hCv]
      exact RetK.keep (hk _ _ ⟨⟨r1, r2, gu, vr, va, sy⟩, _, HS.mkEd (e := ⟨r1, r2, gu, vr, va, sy⟩) (H.bk2.sw1) ⟨o1, o2, k1, k2, ovr, k3, k4, osy⟩, ⟨by dsimp only; omega, by dsimp only; omega⟩, by omega, by omega⟩)
    · simp -implicitDefEqProofs (disch := first | omega | (simp only [List.length_set, List.length_replicate, List.length_append, List.length_map, List.length_take, List.length_cons, List.length_nil]; omega)) [wrap64, c9, setC, hOg, hCg, hOv, hCv]
      exact RetK.keep (hk _ _ ⟨⟨r1, r2, gu, vr, va, 0⟩, _, HS.mkEd (e := ⟨r1, r2, gu, vr, va, 0⟩) (H.bk2.sw1) ⟨o1, o2, k1, k2, ovr, k3, k4, i0⟩, ⟨by dsimp only; omega, by dsimp only; omega⟩, by omega, by omega⟩)
end Go.Proofs.Ytonjglbachhdcaa

/-
  Arguments of laws: systems that are drawn.
-/
namespace Go.Proofs.Ytonjglbachhdcaa
open Go
set_option linter.all false
set_option linter.unusedVariables false
set_option linter.unusedSimpArgs false
set_option linter.defProp false
set_option maxRecDepth 1000000

theorem c_l2System {g h : Heap} {Γ : List HP} {b : Nat} {sl : Value} {l : List (BitVec 8)} {p : Int} (R : Rep g sl l) (H : HS g (rb b sl p :: Γ) h) (hp : 0 ≤ p) (hp2 : p + 2000 ≤ 1000000000000) :
    CallE Try.prog fn_spec_l2System [.pointer (some ⟨b, 0, none⟩)] h (fun u h' => ∃ (y : Sy) (p' : Int), HS g (ow u y :: rb b sl p' :: Γ) h' ∧ y.Sm 40 ∧ p ≤ p' ∧ p' ≤ p + 1400) := by
  have i0 : I64 0 := ⟨by decide, by decide⟩
  refine CallE.gen fun k hk => EN_spec_l2System rfl ?_
  simp -implicitDefEqProofs (disch := first | omega | (simp only [List.length_set, List.length_replicate, List.length_append, List.length_map, List.length_take, List.length_cons, List.length_nil]; omega)) [wrap64]
  refine (c_pick (n := 2) R H (by omega) (by omega) ⟨by decide, by decide⟩).go ?_
  rintro _ h1 ⟨r1, rfl, o1, z1, y1, H⟩
  simp -implicitDefEqProofs (disch := first | omega | (simp only [List.length_set, List.length_replicate, List.length_append, List.length_map, List.length_take, List.length_cons, List.length_nil]; omega)) [wrap64]
  refine H.bls [(0 : Int), 0, 1, 3] rfl rfl (okL (by decide)) (by decide) fun q hq H => ?_
  simp -implicitDefEqProofs (disch := first | omega | (simp only [List.length_set, List.length_replicate, List.length_append, List.length_map, List.length_take, List.length_cons, List.length_nil]; omega)) [wrap64]
  refine (c_num R H (by omega) (by omega) (by simp)).go ?_
  rintro _ h1 ⟨r2, rfl, o2, _, H⟩
  simp -implicitDefEqProofs (disch := first | omega | (simp only [List.length_set, List.length_replicate, List.length_append, List.length_map, List.length_take, List.length_cons, List.length_nil]; omega)) [wrap64]
  refine H.bls [r1, r2, 0] rfl rfl (by intro x hx; simp at hx; rcases hx with rfl | rfl | rfl <;> first | exact o1 | exact o2 | exact i0) (by decide) fun wi hq H => ?_
  have hOi := H.rep.one
  have hCi := H.rep.cells
  simp -implicitDefEqProofs (disch := first | omega | (simp only [List.length_set, List.length_replicate, List.length_append, List.length_map, List.length_take, List.length_cons, List.length_nil]; omega)) [wrap64, setC, hOi, hCi]
  refine H.bls [(2 : Int), 1, 2, 3] rfl rfl (okL (by decide)) (by decide) fun q hq H => ?_
  simp -implicitDefEqProofs (disch := first | omega | (simp only [List.length_set, List.length_replicate, List.length_append, List.length_map, List.length_take, List.length_cons, List.length_nil]; omega)) [wrap64]
  refine (c_num R H.sw1.bk2 (by omega) (by omega) (by simp)).go ?_
  rintro _ h1 ⟨r3, rfl, o3, hr3, H⟩
  obtain ⟨n, rfl, hn⟩ : ∃ n : Nat, r3 = n ∧ n ≤ 3 := by
    simp at hr3
    rcases hr3 with rfl | rfl | rfl | rfl <;> first | exact ⟨2, rfl, by decide⟩ | exact ⟨1, rfl, by decide⟩ | exact ⟨3, rfl, by decide⟩
  simp -implicitDefEqProofs (disch := first | omega | (simp only [List.length_set, List.length_replicate, List.length_append, List.length_map, List.length_take, List.length_cons, List.length_nil]; omega)) [wrap64]
  refine wp_while (σ := Nat) (fun i e h' => ∃ (ps : List Pr) (w : Value) (p' : Int), e = [some (.pointer (some ⟨b, 0, none⟩)), some (.agg #[.slice none 0 0, .slice none 0 0]), some (.agg #[wi, w]), some (.int .i64 i), none, none] ∧ HS g (ow w ps :: ow wi [r1, r2, 0] :: rb b sl p' :: Γ) h' ∧ ps.length + i ≤ 3 ∧ (∀ x ∈ ps, x.Sm 40) ∧ p ≤ p' ∧ p' + 452 * i ≤ p + 3 + 3 * 452) (fun i => i) n ⟨[], .slice none 0 0, _, by simp, H.sw1.nil_ow, by simpa using hn, by simp, by omega, by omega⟩ ?_
  clear H hOi hCi
  rintro J i _ h3 hJ ⟨ps, w, p1, rfl, H, hpl, hps, hp3, hp4⟩
  have hOi := H.sw1.rep.one
  have hCi := H.sw1.rep.cells
  have hOw := H.rep.one
  have hCw := H.rep.cells
  by_cases c0 : 0 < i
  · have c0' : (0 : Int) < i := by omega
    simp -implicitDefEqProofs (disch := first | omega | (simp only [List.length_set, List.length_replicate, List.length_append, List.length_map, List.length_take, List.length_cons, List.length_nil]; omega)) [wrap64, c0, c0']
    refine H.bls [(2 : Int), 3, 1, 2] rfl rfl (okL (by decide)) (by decide) fun q hq H => ?_
    simp -implicitDefEqProofs (disch := first | omega | (simp only [List.length_set, List.length_replicate, List.length_append, List.length_map, List.length_take, List.length_cons, List.length_nil]; omega)) [wrap64]
    refine (c_num R (H.under fun _ H => H.sw2) (by omega) (by omega) (by simp)).go ?_
    rintro _ h4 ⟨lo, rfl, olo, _, H⟩
    simp -implicitDefEqProofs (disch := first | omega | (simp only [List.length_set, List.length_replicate, List.length_append, List.length_map, List.length_take, List.length_cons, List.length_nil]; omega)) [wrap64, setC]
    refine H.bls [(3 : Int), 4, 2, 5, 1] rfl rfl (okL (by decide)) (by decide) fun q hq H => ?_
    simp -implicitDefEqProofs (disch := first | omega | (simp only [List.length_set, List.length_replicate, List.length_append, List.length_map, List.length_take, List.length_cons, List.length_nil]; omega)) [wrap64]
    refine (c_num R H (by omega) (by omega) (by simp)).go ?_
    rintro _ h4 ⟨r5, rfl, o5, hr5, H⟩
    obtain ⟨n5, rfl, hn5⟩ : ∃ n : Nat, r5 = n ∧ n ≤ 5 := by
      simp at hr5
      rcases hr5 with rfl | rfl | rfl | rfl | rfl <;> first | exact ⟨3, rfl, by decide⟩ | exact ⟨4, rfl, by decide⟩ | exact ⟨2, rfl, by decide⟩ | exact ⟨5, rfl, by decide⟩ | exact ⟨1, rfl, by decide⟩
    simp -implicitDefEqProofs (disch := first | omega | (simp only [List.length_set, List.length_replicate, List.length_append, List.length_map, List.length_take, List.length_cons, List.length_nil]; omega)) [wrap64]
    refine wp_while (σ := Nat) (fun k e h' => ∃ (es : List Ed) (we : Value) (p' : Int), e = [some (.pointer (some ⟨b, 0, none⟩)), some (.agg #[.slice none 0 0, .slice none 0 0]), some (.agg #[wi, w]), some (.int .i64 i), some (.agg #[.int .i64 lo, we]), some (.int .i64 k)] ∧ HS g (ow we es :: rb b sl p' :: ow w ps :: ow wi [r1, r2, 0] :: Γ) h' ∧ es.length + k ≤ 5 ∧ (∀ x ∈ es, x.Sm 40) ∧ p1 ≤ p' ∧ p' + 90 * k ≤ p1 + 2 + 450) (fun i => i) n5 ⟨[], .slice none 0 0, _, by simp, H.nil_ow, by simpa using hn5, by simp, by omega, by omega⟩ ?_
    clear H
    rintro J2 k2 _ h5 hJ2 ⟨es, we, p2, rfl, H, hel, hes, hp5, hp6⟩
    by_cases c1 : 0 < k2
    · have c1' : (0 : Int) < k2 := by omega
      simp -implicitDefEqProofs (disch := first | omega | (simp only [List.length_set, List.length_replicate, List.length_append, List.length_map, List.length_take, List.length_cons, List.length_nil]; omega)) [wrap64, c1, c1', setC]
      refine (c_l2DrawEdge R H.sw1 (by omega) (by omega) olo).go ?_
      rintro _ h6 ⟨y, p3, H, hy, hp7, hp8⟩
      obtain ⟨w1, w2, rfl, ok, H'⟩ := H.unEd
      have hO1 := H'.rep.one
      have hC1 := H'.rep.cells
      have hO2 := H'.sw1.rep.one
      have hC2 := H'.sw1.rep.cells
      simp -implicitDefEqProofs (disch := first | omega | (simp only [List.length_set, List.length_replicate, List.length_append, List.length_map, List.length_take, List.length_cons, List.length_nil]; omega)) [wrap64, setC, Ed.cs, hO1, hC1, hO2, hC2]
      refine HS.appO (bytes := 112) H.sw2.sw1 rfl rfl rfl rfl rfl (by omega) (by omega) fun we' h7 H => ?_
      simp -implicitDefEqProofs (disch := first | omega | (simp only [List.length_set, List.length_replicate, List.length_append, List.length_map, List.length_take, List.length_cons, List.length_nil]; omega)) [wrap64, setC, H.rep.one, H.rep.cells]
      refine hJ2 (k2 - 1) _ _ (by omega) ⟨es ++ [y], we', p3, by simp; omega, H, by simp; omega, ?_, by omega, by omega⟩
      intro x hx
      simp only [List.mem_append, List.mem_singleton] at hx
      rcases hx with hx | rfl
      · exact hes x hx
      · exact hy
    · have c1' : ¬ ((0 : Int) < k2) := by omega
      have hOe := H.rep.one
      have hCe := H.rep.cells
      simp -implicitDefEqProofs (disch := first | omega | (simp only [List.length_set, List.length_replicate, List.length_append, List.length_map, List.length_take, List.length_cons, List.length_nil]; omega)) [wrap64, c1, c1', setC, hOe, hCe]
      refine HS.appO (bytes := 32) (HS.mkPr (p := ⟨lo, es⟩) H olo |>.sw2.sw1) rfl rfl rfl rfl rfl (by omega) (by omega) fun w' h7 H => ?_
      simp -implicitDefEqProofs (disch := first | omega | (simp only [List.length_set, List.length_replicate, List.length_append, List.length_map, List.length_take, List.length_cons, List.length_nil]; omega)) [wrap64, setC, H.rep.one, H.rep.cells]
      refine hJ (i - 1) _ _ (by omega) ⟨ps ++ [⟨lo, es⟩], w', p2, by simp; omega, H.under fun _ H => H.sw1, by simp; omega, ?_, by omega, by omega⟩
      intro x hx
      simp only [List.mem_append, List.mem_singleton] at hx
      rcases hx with hx | rfl
      · exact hps x hx
      · exact ⟨by dsimp only; omega, hes⟩
  · have c0' : ¬ ((0 : Int) < i) := by omega
    simp -implicitDefEqProofs (disch := first | omega | (simp only [List.length_set, List.length_replicate, List.length_append, List.length_map, List.length_take, List.length_cons, List.length_nil]; omega)) [wrap64, c0, c0', setC, hOi, hCi, hOw, hCw]
    exact RetK.keep (hk _ _ ⟨⟨[r1, r2, 0], ps⟩, p1, HS.mkSy (s := ⟨[r1, r2, 0], ps⟩) H.sw1, ⟨by simp, by dsimp only; omega, hps⟩, by omega, by omega⟩)
end Go.Proofs.Ytonjglbachhdcaa

/-
  Arguments of laws: copies of systems.
-/
namespace Go.Proofs.Ytonjglbachhdcaa
open Go
set_option linter.all false
set_option linter.unusedVariables false
set_option linter.unusedSimpArgs false
set_option linter.defProp false
set_option maxRecDepth 1000000

theorem c_l2CopyB {h : Heap} {v : Value} {s : Sy} {n : Nat} (R : Rep h v s) (hs : s.Sm n) (hn : n ≤ 1000) : CallE Try.prog fn_spec_l2Copy [v] h (fun u h' => ∃ y : Sy, HS h [ow u y] h' ∧ y.Sm n ∧ y.procs.length = s.procs.length) := by
  obtain ⟨v1, v2, rfl, R1, R2'⟩ := Rep_Sy.1 R
  have hil := hs.il
  have hpl := hs.pl
  have hO1 := R1.one
  have hO2 := R2'.one
  refine CallE.gen fun k hk => EN_spec_l2Copy rfl ?_
  simp -implicitDefEqProofs (disch := first | omega | (simp only [List.length_set, List.length_replicate, List.length_append, List.length_map, List.length_take, List.length_cons, List.length_nil]; omega)) [wrap64]
  refine HS.appPL (α := Int) (l2 := s.init) HS.init rfl rfl R1 rfl rfl (by omega) fun wi h1 H => ?_
  simp -implicitDefEqProofs (disch := first | omega | (simp only [List.length_set, List.length_replicate, List.length_append, List.length_map, List.length_take, List.length_cons, List.length_nil]; omega)) [wrap64, setC, H.rep.one, H.rep.cells]
  refine wp_count s.procs.length (fun i e h' => ∃ (ps : List Pr) (w : Value), e = [none, some (.agg #[v1, v2]), some (.agg #[.slice none 0 0, .slice none 0 0]), some (.agg #[wi, w]), some (.int .i64 i), none, none, none] ∧ HS h [ow w ps, ow wi s.init] h' ∧ ps.length = i ∧ ∀ x ∈ ps, x.Sm n) ⟨[], .slice none 0 0, by simp, H.nil_ow, rfl, by simp⟩ ?_
  clear H
  rintro J i _ h2 hJ hi ⟨ps, w, rfl, H, hpsl, hps⟩
  have hOi := H.sw1.rep.one
  have hCi := H.sw1.rep.cells
  have hOw := H.rep.one
  have hCw := H.rep.cells
  simp -implicitDefEqProofs (disch := first | omega | (simp only [List.length_set, List.length_replicate, List.length_append, List.length_map, List.length_take, List.length_cons, List.length_nil]; omega)) [wrap64, (R2'.on H).len]
  refine IteW.mk (fun hlt => ?_) (fun hge => ?_)
  · have hi : i < s.procs.length := by omega
    have hpi := hs.pp _ (List.getElem_mem hi)
    have hel := hpi.el
    obtain ⟨u, hu, Ru⟩ := R2'.ld hi
    change hload _ (some (elp 2 v2 i)) (some 2) = some u at hu
    obtain ⟨we, rfl, k1, R3⟩ := Rep_Pr.1 Ru
    have hP : ∀ {h'}, h.le h' → _ := fun {h'} (hl : h.le h') => hld_parts (hload_le hl hu)
    have hP1 := (hP H.base).1
    have hP2 := (hP H.base).2.2.1
    simp -implicitDefEqProofs (disch := first | omega | (simp only [List.length_set, List.length_replicate, List.length_append, List.length_map, List.length_take, List.length_cons, List.length_nil]; omega)) [wrap64, R2'.X (n := 2) rfl, hP1, hP2, setC]
    refine wp_count s.procs[i].edges.length (fun k e h' => ∃ (es : List Ed) (wp : Value), e = [none, some (.agg #[v1, v2]), some (.agg #[.slice none 0 0, .slice none 0 0]), some (.agg #[wi, w]), some (.int .i64 i), some (.agg #[.int .i64 s.procs[i].locs, wp]), some (.int .i64 k), none] ∧ HS h [ow wp es, ow w ps, ow wi s.init] h' ∧ es.length = k ∧ ∀ x ∈ es, x.Sm n) ⟨[], .slice none 0 0, by simp, H.nil_ow, rfl, by simp⟩ ?_
    clear H hP1 hP2
    rintro J2 k2 _ h3 hJ2 hk2 ⟨es, wp, rfl, H, hesl, hes⟩
    have hP1 := (hP H.base).1
    have hP2 := (hP H.base).2.2.1
    simp -implicitDefEqProofs (disch := first | omega | (simp only [List.length_set, List.length_replicate, List.length_append, List.length_map, List.length_take, List.length_cons, List.length_nil]; omega)) [wrap64, R2'.X (n := 2) rfl, hP1, hP2, R3.len]
    refine IteW.mk (fun hlt2 => ?_) (fun hge2 => ?_)
    · have hk2 : k2 < s.procs[i].edges.length := by omega
      have hek := hpi.ee _ (List.getElem_mem hk2)
      obtain ⟨u2, hu2, Ru2⟩ := R3.ld hk2
      have hu2 := hload_le H.base hu2
      change hload _ (some (elp 10 we k2)) (some 10) = some u2 at hu2
      obtain ⟨w1, w2, rfl, ok, G1, G2⟩ := Rep_Ed.1 Ru2
      have hF1 := G1.one
      have hF2 := G2.one
      have hF3 := G1.cells
      have hF4 := G2.cells
      simp -implicitDefEqProofs (disch := first | omega | (simp only [List.length_set, List.length_replicate, List.length_append, List.length_map, List.length_take, List.length_cons, List.length_nil]; omega)) [wrap64, R2'.X (n := 2) rfl, hP1, hP2, R3.X (n := 10) rfl, hu2, Ed.cs, setC, hF1, hF2]
      refine (c_l1SubstB _ ((Rep.gd (w2 := w2) ok G1).on H) (by have := hek.g; omega)).go ?_
      rintro _ h4 ⟨gu, G, hgn⟩
      obtain ⟨wg, rfl, kg1, kg2, G'⟩ := G.unExq
      have hOg := G'.rep.one
      have hCg := G'.rep.cells
      have H := G'.app H
      simp -implicitDefEqProofs (disch := first | omega | (simp only [List.length_set, List.length_replicate, List.length_append, List.length_map, List.length_take, List.length_cons, List.length_nil]; omega)) [wrap64, setC, hF1, hF2, hOg, hCg]
      refine (c_l1SubstB _ ((Rep.vl ok G2).on H) (by have := hek.v; omega)).go ?_
      rintro _ h4 ⟨va, G, hvn⟩
      obtain ⟨wv, rfl, kv1, kv2, G'⟩ := G.unExq
      have hOv := G'.rep.one
      have hCv := G'.rep.cells
      have H := G'.app H
      simp -implicitDefEqProofs (disch := first | omega | (simp only [List.length_set, List.length_replicate, List.length_append, List.length_map, List.length_take, List.length_cons, List.length_nil]; omega)) [wrap64, setC, hF1, hF2, hOg, hCg, hOv, hCv]
      have H := HS.mkEd (e := ⟨s.procs[i].edges[k2].frm, s.procs[i].edges[k2].to, gu, s.procs[i].edges[k2].var, va, s.procs[i].edges[k2].sync⟩) H.sw1 ⟨ok.frm, ok.to, kg1, kg2, ok.var, kv1, kv2, ok.sync⟩
      refine HS.appO (bytes := 112) H rfl rfl rfl rfl rfl (by omega) (by omega) fun we' h7 H => ?_
      simp -implicitDefEqProofs (disch := first | omega | (simp only [List.length_set, List.length_replicate, List.length_append, List.length_map, List.length_take, List.length_cons, List.length_nil]; omega)) [wrap64, setC, H.rep.one, H.rep.cells]
      refine hJ2 _ _ hk2 ⟨_, we', by simp, H, by simp [hesl], ?_⟩
      intro x hx
      simp only [List.mem_append, List.mem_singleton] at hx
      rcases hx with hx | rfl
      · exact hes x hx
      · exact ⟨by have := hek.g; dsimp only; omega, by have := hek.v; dsimp only; omega⟩
    · have hOe := H.rep.one
      have hCe := H.rep.cells
      simp -implicitDefEqProofs (disch := first | omega | (simp only [List.length_set, List.length_replicate, List.length_append, List.length_map, List.length_take, List.length_cons, List.length_nil]; omega)) [wrap64, setC, hOe, hCe, hOw, hCw, hOi, hCi]
      refine HS.appO (bytes := 32) (HS.mkPr (p := ⟨s.procs[i].locs, es⟩) H k1) rfl rfl rfl rfl rfl (by omega) (by omega) fun w' h7 H => ?_
      simp -implicitDefEqProofs (disch := first | omega | (simp only [List.length_set, List.length_replicate, List.length_append, List.length_map, List.length_take, List.length_cons, List.length_nil]; omega)) [wrap64, setC, H.rep.one, H.rep.cells, hOi, hCi]
      refine hJ _ _ hi ⟨_, w', by simp, H, by simp [hpsl], ?_⟩
      intro x hx
      simp only [List.mem_append, List.mem_singleton] at hx
      rcases hx with hx | rfl
      · exact hps x hx
      · exact ⟨by dsimp only; omega, hes⟩
  · simp -implicitDefEqProofs (disch := first | omega | (simp only [List.length_set, List.length_replicate, List.length_append, List.length_map, List.length_take, List.length_cons, List.length_nil]; omega)) [wrap64, setC, hOi, hCi, hOw, hCw]
    exact RetK.keep (hk _ _ ⟨⟨s.init, ps⟩, HS.mkSy (s := ⟨s.init, ps⟩) H.sw1, ⟨hs.il, by dsimp only; omega, hps⟩, by dsimp only; omega⟩)
end Go.Proofs.Ytonjglbachhdcaa

/-
  Arguments of laws: changed systems.
-/
namespace Go.Proofs.Ytonjglbachhdcaa
open Go
set_option linter.all false
set_option linter.unusedVariables false
set_option linter.unusedSimpArgs false
set_option linter.defProp false
set_option maxRecDepth 1000000

theorem Ed.Sm.le {n m : Nat} {e : Ed} (h : e.Sm n) (hn : n ≤ m) : e.Sm m := ⟨by have := h.g; omega, by have := h.v; omega⟩
theorem Pr.Sm.le {n m : Nat} {p : Pr} (h : p.Sm n) (hn : n ≤ m) : p.Sm m := ⟨by have := h.el; omega, fun e he => (h.ee e he).le hn⟩
theorem Sy.Sm.le {n m : Nat} {s : Sy} (h : s.Sm n) (hn : n ≤ m) : s.Sm m := ⟨by have := h.il; omega, by have := h.pl; omega, fun p hp => (h.pp p hp).le hn⟩
theorem Sy.Sm.set {n : Nat} {s : Sy} (h : s.Sm n) {i : Nat} (hi : i < s.procs.length) (he : 0 < s.procs[i].edges.length) {e : Ed} (hs : e.Sm n) : Sy.Sm n ⟨s.init, s.procs.set i ⟨s.procs[i].locs, s.procs[i].edges.set 0 e⟩⟩ := by
  refine ⟨h.il, by simpa using h.pl, fun p hp => ?_⟩
  rcases List.mem_or_eq_of_mem_set hp with h1 | rfl
  · exact h.pp p h1
  · have h2 := h.pp _ (List.getElem_mem hi)
    refine ⟨by simpa using h2.el, fun x hx => ?_⟩
    rcases List.mem_or_eq_of_mem_set hx with h3 | rfl
    · exact h2.ee x h3
    · exact hs

set_option maxHeartbeats 2000000 in
theorem c_l2Mutate {g h : Heap} {Γ : List HP} {b n : Nat} {sl v : Value} {l : List (BitVec 8)} {p : Int} {s : Sy} (R : Rep g sl l) (Rs : Rep g v s) (hs : s.Sm n) (hn : 40 ≤ n) (hn2 : n ≤ 900) (H : HS g (rb b sl p :: Γ) h) (hp : 0 ≤ p) (hp2 : p + 200 ≤ 1000000000000) :
    CallE Try.prog fn_spec_l2Mutate [.pointer (some ⟨b, 0, none⟩), v] h (fun u h' => ∃ (y : Sy) (p' : Int), HS g (ow u y :: rb b sl p' :: Γ) h' ∧ y.Sm (n + 1) ∧ p ≤ p' ∧ p' ≤ p + 100) := by
  have FS := Rs.aSy
  have Rs0 := Rs
  obtain ⟨v1, v2, rfl, R1, R2'⟩ := Rep_Sy.1 Rs
  have hspl := hs.pl
  refine CallE.gen fun k hk => EN_spec_l2Mutate rfl ?_
  simp -implicitDefEqProofs (disch := first | omega | (simp only [List.length_set, List.length_replicate, List.length_append, List.length_map, List.length_take, List.length_cons, List.length_nil]; omega)) [wrap64, FS]
  refine (c_l2CopyB (Rs0.on H) hs (by omega)).go ?_
  rintro _ h1 ⟨y, G, hyn, hypl⟩
  obtain ⟨wi, w, rfl, G'⟩ := G.unSy
  have H := G'.app H
  have hy := hyn.le (show n ≤ n + 1 by omega)
  have hyil := hyn.il
  have hOi := H.rep.one
  have hCi := H.rep.cells
  have hOw := H.sw1.rep.one
  have hCw := H.sw1.rep.cells
  have hL2 := (R2'.on H).len
  simp -implicitDefEqProofs (disch := first | omega | (simp only [List.length_set, List.length_replicate, List.length_append, List.length_map, List.length_take, List.length_cons, List.length_nil]; omega)) [wrap64, setC, hOi, hCi, hOw, hCw, hL2]
  have H := H.sw2
  refine (c_pick R H (by omega) (by omega) ⟨by omega, by omega⟩).go ?_
  rintro _ h2 ⟨r, rfl, o0, z0, y0, H⟩
  have y0 := y0 (by omega)
  obtain ⟨p1, hp1⟩ : ∃ p1, p1 = p + 1 := ⟨_, rfl⟩
  rw [← hp1] at H
  have hL2 := (R2'.on H).len
  by_cases q0 : r = s.procs.length
  · simp -implicitDefEqProofs (disch := first | omega | (simp only [List.length_set, List.length_replicate, List.length_append, List.length_map, List.length_take, List.length_cons, List.length_nil]; omega)) [wrap64, hL2, q0]
    refine (c_pick (n := 50) R H (by omega) (by omega) ⟨by decide, by decide⟩).go ?_
    rintro _ h3 ⟨r6, rfl, o6, z6, y6, H⟩
    by_cases c0 : r6 = 0
    · simp -implicitDefEqProofs (disch := first | omega | (simp only [List.length_set, List.length_replicate, List.length_append, List.length_map, List.length_take, List.length_cons, List.length_nil]; omega)) [wrap64, c0, setC]
      refine HS.app1 (bytes := 8) H.sw1 (0 : Int) rfl rfl rfl ⟨by decide, by decide⟩ rfl rfl (by omega) (by omega) fun wi' h5 H => ?_
      simp -implicitDefEqProofs (disch := first | omega | (simp only [List.length_set, List.length_replicate, List.length_append, List.length_map, List.length_take, List.length_cons, List.length_nil]; omega)) [wrap64, setC, H.rep.one, H.rep.cells, hOw, hCw]
      exact RetK.keep (hk _ _ ⟨⟨y.init ++ [0], y.procs⟩, _, HS.mkSy (s := ⟨y.init ++ [0], y.procs⟩) (H.under fun _ H => H.sw1), ⟨by have := hyn.il; simp; omega, hy.pl, hy.pp⟩, by omega, by omega⟩)
    by_cases c1 : r6 = 1
    · simp -implicitDefEqProofs (disch := first | omega | (simp only [List.length_set, List.length_replicate, List.length_append, List.length_map, List.length_take, List.length_cons, List.length_nil]; omega)) [wrap64, c0, c1]
      refine H.bls [(0 : Int), 1, 4, 5] rfl rfl (okL (by decide)) (by decide) fun q hq H => ?_
      simp -implicitDefEqProofs (disch := first | omega | (simp only [List.length_set, List.length_replicate, List.length_append, List.length_map, List.length_take, List.length_cons, List.length_nil]; omega)) [wrap64]
      refine (c_num R H (by omega) (by omega) (by simp)).go ?_
      rintro _ h4 ⟨r7, rfl, o7, _, H⟩
      simp -implicitDefEqProofs (disch := first | omega | (simp only [List.length_set, List.length_replicate, List.length_append, List.length_map, List.length_take, List.length_cons, List.length_nil]; omega)) [wrap64, setC]
      have H := HS.mkPr (p := ⟨r7, []⟩) (H.nil_ow (α := Ed)) o7
      refine HS.appO (bytes := 32) (H.sw3.sw1) rfl rfl rfl rfl rfl (by omega) (by omega) fun w' h7 H => ?_
      simp -implicitDefEqProofs (disch := first | omega | (simp only [List.length_set, List.length_replicate, List.length_append, List.length_map, List.length_take, List.length_cons, List.length_nil]; omega)) [wrap64, setC, hOi, hCi, H.rep.one, H.rep.cells]
      refine RetK.keep (hk _ _ ⟨_, _, HS.mkSy (s := ⟨y.init, y.procs ++ [⟨r7, []⟩]⟩) H.sw2, ⟨hy.il, by have := hyn.pl; simp; omega, ?_⟩, by omega, by omega⟩)
      intro x hx
      simp only [List.mem_append, List.mem_singleton] at hx
      rcases hx with hx | rfl
      · exact hy.pp x hx
      · exact ⟨by simp, by simp⟩
    by_cases c2 : r6 = 2
    · simp -implicitDefEqProofs (disch := first | omega | (simp only [List.length_set, List.length_replicate, List.length_append, List.length_map, List.length_take, List.length_cons, List.length_nil]; omega)) [wrap64, c0, c1, c2, setC, hOi, hCi, hOw, hCw]
      exact RetK.keep (hk _ _ ⟨y, _, HS.mkSy H.sw2.sw2, hy, by omega, by omega⟩)
    by_cases c3 : r6 = 3
    · simp -implicitDefEqProofs (disch := first | omega | (simp only [List.length_set, List.length_replicate, List.length_append, List.length_map, List.length_take, List.length_cons, List.length_nil]; omega)) [wrap64, c0, c1, c2, c3, setC, hOi, hCi, hOw, hCw]
      exact RetK.keep (hk _ _ ⟨y, _, HS.mkSy H.sw2.sw2, hy, by omega, by omega⟩)
    by_cases c4 : r6 = 4
    · simp -implicitDefEqProofs (disch := first | omega | (simp only [List.length_set, List.length_replicate, List.length_append, List.length_map, List.length_take, List.length_cons, List.length_nil]; omega)) [wrap64, c0, c1, c2, c3, c4, setC, hOi, hCi, hOw, hCw]
      exact RetK.keep (hk _ _ ⟨y, _, HS.mkSy H.sw2.sw2, hy, by omega, by omega⟩)
    by_cases c5 : r6 = 5
    · simp -implicitDefEqProofs (disch := first | omega | (simp only [List.length_set, List.length_replicate, List.length_append, List.length_map, List.length_take, List.length_cons, List.length_nil]; omega)) [wrap64, c0, c1, c2, c3, c4, c5, setC, hOi, hCi, hOw, hCw]
      exact RetK.keep (hk _ _ ⟨y, _, HS.mkSy H.sw2.sw2, hy, by omega, by omega⟩)
    by_cases c6 : r6 = 6
    · simp -implicitDefEqProofs (disch := first | omega | (simp only [List.length_set, List.length_replicate, List.length_append, List.length_map, List.length_take, List.length_cons, List.length_nil]; omega)) [wrap64, c0, c1, c2, c3, c4, c5, c6, setC]
      exact RetK.keep (hk _ _ ⟨⟨[], []⟩, p1 + 1, HS.mkSy (s := ⟨[], []⟩) (H.sw2.drop.sw1.drop.nil_ow.nil_ow), ⟨by simp, by simp, by simp⟩, by omega, by omega⟩)
    · simp -implicitDefEqProofs (disch := first | omega | (simp only [List.length_set, List.length_replicate, List.length_append, List.length_map, List.length_take, List.length_cons, List.length_nil]; omega)) [wrap64, c0, c1, c2, c3, c4, c5, c6, setC, hOi, hCi, hOw, hCw]
      exact RetK.keep (hk _ _ ⟨y, _, HS.mkSy H.sw2.sw2, hy, by omega, by omega⟩)
  obtain ⟨i, rfl⟩ : ∃ i : Nat, r = i := ⟨r.toNat, (Int.toNat_of_nonneg z0).symm⟩
  have hi : i < y.procs.length := by omega
  have hpi := hyn.pp _ (List.getElem_mem hi)
  obtain ⟨u, hu, Ru⟩ := H.sw2.rep.ld hi
  change hload _ (some (elp 2 w i)) (some 2) = some u at hu
  obtain ⟨we, rfl, kl, R3⟩ := Rep_Pr.1 Ru
  have hP := hld_parts (cs := [.int .i64 y.procs[i].locs, we]) hu
  obtain ⟨ln, hln⟩ : ∃ ln : Int, ln = y.procs[i].edges.length := ⟨_, rfl⟩
  have hlen := R3.len
  rw [← hln] at hlen
  have hX := H.sw2.rep.X (n := 2) rfl
  by_cases q1 : ln = 0
  · simp -implicitDefEqProofs (disch := first | omega | (simp only [List.length_set, List.length_replicate, List.length_append, List.length_map, List.length_take, List.length_cons, List.length_nil]; omega)) [wrap64, hL2, q0, hX, hP.1, hP.2.2.1, hlen, q1]
    refine (c_pick (n := 50) R H (by omega) (by omega) ⟨by decide, by decide⟩).go ?_
    rintro _ h3 ⟨r6, rfl, o6, z6, y6, H⟩
    by_cases c0 : r6 = 0
    · simp -implicitDefEqProofs (disch := first | omega | (simp only [List.length_set, List.length_replicate, List.length_append, List.length_map, List.length_take, List.length_cons, List.length_nil]; omega)) [wrap64, c0, setC]
      refine HS.app1 (bytes := 8) H.sw1 (0 : Int) rfl rfl rfl ⟨by decide, by decide⟩ rfl rfl (by omega) (by omega) fun wi' h5 H => ?_
      simp -implicitDefEqProofs (disch := first | omega | (simp only [List.length_set, List.length_replicate, List.length_append, List.length_map, List.length_take, List.length_cons, List.length_nil]; omega)) [wrap64, setC, H.rep.one, H.rep.cells, hOw, hCw]
      exact RetK.keep (hk _ _ ⟨⟨y.init ++ [0], y.procs⟩, _, HS.mkSy (s := ⟨y.init ++ [0], y.procs⟩) (H.under fun _ H => H.sw1), ⟨by have := hyn.il; simp; omega, hy.pl, hy.pp⟩, by omega, by omega⟩)
    by_cases c1 : r6 = 1
    · simp -implicitDefEqProofs (disch := first | omega | (simp only [List.length_set, List.length_replicate, List.length_append, List.length_map, List.length_take, List.length_cons, List.length_nil]; omega)) [wrap64, c0, c1]
      refine H.bls [(0 : Int), 1, 4, 5] rfl rfl (okL (by decide)) (by decide) fun q hq H => ?_
      simp -implicitDefEqProofs (disch := first | omega | (simp only [List.length_set, List.length_replicate, List.length_append, List.length_map, List.length_take, List.length_cons, List.length_nil]; omega)) [wrap64]
      refine (c_num R H (by omega) (by omega) (by simp)).go ?_
      rintro _ h4 ⟨r7, rfl, o7, _, H⟩
      simp -implicitDefEqProofs (disch := first | omega | (simp only [List.length_set, List.length_replicate, List.length_append, List.length_map, List.length_take, List.length_cons, List.length_nil]; omega)) [wrap64, setC]
      have H := HS.mkPr (p := ⟨r7, []⟩) (H.nil_ow (α := Ed)) o7
      refine HS.appO (bytes := 32) (H.sw3.sw1) rfl rfl rfl rfl rfl (by omega) (by omega) fun w' h7 H => ?_
      simp -implicitDefEqProofs (disch := first | omega | (simp only [List.length_set, List.length_replicate, List.length_append, List.length_map, List.length_take, List.length_cons, List.length_nil]; omega)) [wrap64, setC, hOi, hCi, H.rep.one, H.rep.cells]
      refine RetK.keep (hk _ _ ⟨_, _, HS.mkSy (s := ⟨y.init, y.procs ++ [⟨r7, []⟩]⟩) H.sw2, ⟨hy.il, by have := hyn.pl; simp; omega, ?_⟩, by omega, by omega⟩)
      intro x hx
      simp only [List.mem_append, List.mem_singleton] at hx
      rcases hx with hx | rfl
      · exact hy.pp x hx
      · exact ⟨by simp, by simp⟩
    by_cases c2 : r6 = 2
    · simp -implicitDefEqProofs (disch := first | omega | (simp only [List.length_set, List.length_replicate, List.length_append, List.length_map, List.length_take, List.length_cons, List.length_nil]; omega)) [wrap64, c0, c1, c2, setC, hOi, hCi, hOw, hCw]
      exact RetK.keep (hk _ _ ⟨y, _, HS.mkSy H.sw2.sw2, hy, by omega, by omega⟩)
    by_cases c3 : r6 = 3
    · simp -implicitDefEqProofs (disch := first | omega | (simp only [List.length_set, List.length_replicate, List.length_append, List.length_map, List.length_take, List.length_cons, List.length_nil]; omega)) [wrap64, c0, c1, c2, c3, setC, hOi, hCi, hOw, hCw]
      exact RetK.keep (hk _ _ ⟨y, _, HS.mkSy H.sw2.sw2, hy, by omega, by omega⟩)
    by_cases c4 : r6 = 4
    · simp -implicitDefEqProofs (disch := first | omega | (simp only [List.length_set, List.length_replicate, List.length_append, List.length_map, List.length_take, List.length_cons, List.length_nil]; omega)) [wrap64, c0, c1, c2, c3, c4, setC, hOi, hCi, hOw, hCw]
      exact RetK.keep (hk _ _ ⟨y, _, HS.mkSy H.sw2.sw2, hy, by omega, by omega⟩)
    by_cases c5 : r6 = 5
    · simp -implicitDefEqProofs (disch := first | omega | (simp only [List.length_set, List.length_replicate, List.length_append, List.length_map, List.length_take, List.length_cons, List.length_nil]; omega)) [wrap64, c0, c1, c2, c3, c4, c5, setC, hOi, hCi, hOw, hCw]
      exact RetK.keep (hk _ _ ⟨y, _, HS.mkSy H.sw2.sw2, hy, by omega, by omega⟩)
    by_cases c6 : r6 = 6
    · simp -implicitDefEqProofs (disch := first | omega | (simp only [List.length_set, List.length_replicate, List.length_append, List.length_map, List.length_take, List.length_cons, List.length_nil]; omega)) [wrap64, c0, c1, c2, c3, c4, c5, c6, setC]
      exact RetK.keep (hk _ _ ⟨⟨[], []⟩, p1 + 1, HS.mkSy (s := ⟨[], []⟩) (H.sw2.drop.sw1.drop.nil_ow.nil_ow), ⟨by simp, by simp, by simp⟩, by omega, by omega⟩)
    · simp -implicitDefEqProofs (disch := first | omega | (simp only [List.length_set, List.length_replicate, List.length_append, List.length_map, List.length_take, List.length_cons, List.length_nil]; omega)) [wrap64, c0, c1, c2, c3, c4, c5, c6, setC, hOi, hCi, hOw, hCw]
      exact RetK.keep (hk _ _ ⟨y, _, HS.mkSy H.sw2.sw2, hy, by omega, by omega⟩)
  have he : 0 < y.procs[i].edges.length := by omega
  have hek := hpi.ee _ (List.getElem_mem he)
  have heg : y.procs[i].edges[0].guard.nod ≤ n + 1 := by have := hek.g; omega
  have hev : y.procs[i].edges[0].value.nod ≤ n + 1 := by have := hek.v; omega
  simp -implicitDefEqProofs (disch := first | omega | (simp only [List.length_set, List.length_replicate, List.length_append, List.length_map, List.length_take, List.length_cons, List.length_nil]; omega)) [wrap64, hL2, q0, hX, hP.1, hP.2.2.1, hlen, q1]
  refine (c_pick (n := 50) R H (by omega) (by omega) ⟨by decide, by decide⟩).go ?_
  rintro _ h3 ⟨r6, rfl, o6, z6, y6, H⟩
  by_cases c0 : r6 = 0
  · simp -implicitDefEqProofs (disch := first | omega | (simp only [List.length_set, List.length_replicate, List.length_append, List.length_map, List.length_take, List.length_cons, List.length_nil]; omega)) [wrap64, c0, setC]
    refine HS.app1 (bytes := 8) H.sw1 (0 : Int) rfl rfl rfl ⟨by decide, by decide⟩ rfl rfl (by omega) (by omega) fun wi' h5 H => ?_
    simp -implicitDefEqProofs (disch := first | omega | (simp only [List.length_set, List.length_replicate, List.length_append, List.length_map, List.length_take, List.length_cons, List.length_nil]; omega)) [wrap64, setC, H.rep.one, H.rep.cells, hOw, hCw]
    exact RetK.keep (hk _ _ ⟨⟨y.init ++ [0], y.procs⟩, _, HS.mkSy (s := ⟨y.init ++ [0], y.procs⟩) (H.under fun _ H => H.sw1), ⟨by have := hyn.il; simp; omega, hy.pl, hy.pp⟩, by omega, by omega⟩)
  by_cases c1 : r6 = 1
  · simp -implicitDefEqProofs (disch := first | omega | (simp only [List.length_set, List.length_replicate, List.length_append, List.length_map, List.length_take, List.length_cons, List.length_nil]; omega)) [wrap64, c0, c1]
    refine H.bls [(0 : Int), 1, 4, 5] rfl rfl (okL (by decide)) (by decide) fun q hq H => ?_
    simp -implicitDefEqProofs (disch := first | omega | (simp only [List.length_set, List.length_replicate, List.length_append, List.length_map, List.length_take, List.length_cons, List.length_nil]; omega)) [wrap64]
    refine (c_num R H (by omega) (by omega) (by simp)).go ?_
    rintro _ h4 ⟨r7, rfl, o7, _, H⟩
    simp -implicitDefEqProofs (disch := first | omega | (simp only [List.length_set, List.length_replicate, List.length_append, List.length_map, List.length_take, List.length_cons, List.length_nil]; omega)) [wrap64, setC]
    have H := HS.mkPr (p := ⟨r7, []⟩) (H.nil_ow (α := Ed)) o7
    refine HS.appO (bytes := 32) (H.sw3.sw1) rfl rfl rfl rfl rfl (by omega) (by omega) fun w' h7 H => ?_
    simp -implicitDefEqProofs (disch := first | omega | (simp only [List.length_set, List.length_replicate, List.length_append, List.length_map, List.length_take, List.length_cons, List.length_nil]; omega)) [wrap64, setC, hOi, hCi, H.rep.one, H.rep.cells]
    refine RetK.keep (hk _ _ ⟨_, _, HS.mkSy (s := ⟨y.init, y.procs ++ [⟨r7, []⟩]⟩) H.sw2, ⟨hy.il, by have := hyn.pl; simp; omega, ?_⟩, by omega, by omega⟩)
    intro x hx
    simp only [List.mem_append, List.mem_singleton] at hx
    rcases hx with hx | rfl
    · exact hy.pp x hx
    · exact ⟨by simp, by simp⟩
  by_cases c2 : r6 = 2
  · have H := H.sw2
    obtain ⟨uP, huP, H⟩ := HS.take H hi
    obtain ⟨we, rfl, kl, H⟩ := H.unPr
    obtain ⟨uE, huE, H⟩ := HS.take H he
    obtain ⟨x1, x2, rfl, ok, H⟩ := H.unEd
    have hiaP := HS.holeia H.sw3 (n := 2) (kd := .i64) rfl hi
    have hPP := hld_parts (cs := [.int .i64 y.procs[i].locs, we]) (HS.holeP H.sw3 (n := 2) rfl rfl)
    have hiaE : iaV 10 we (.int .i64 0) = some (elp 10 we 0) := HS.holeia H.sw2 (n := 10) (kd := .i64) rfl he
    have H := H.sw4
    simp -implicitDefEqProofs (disch := first | omega | (simp only [List.length_set, List.length_replicate, List.length_append, List.length_map, List.length_take, List.length_cons, List.length_nil]; omega)) [wrap64, c0, c1, c2, hiaP, hPP.1, hPP.2.2.1, hiaE]
    refine (c_l1Expr R H (by omega) (by omega)).go ?_
    rintro _ h4 ⟨e1, p3, H, hen, hp5, hp6⟩
    have FA := H.rep.aExq
    have hPP := hld_parts (cs := [.int .i64 y.procs[i].locs, we]) (HS.holeP H.sw5 (n := 2) rfl rfl)
    simp -implicitDefEqProofs (disch := first | omega | (simp only [List.length_set, List.length_replicate, List.length_append, List.length_map, List.length_take, List.length_cons, List.length_nil]; omega)) [wrap64, hiaP, hPP.1, hPP.2.2.1, hiaE, FA]
    obtain ⟨g1, H1, H2⟩ := HS.rebase (Δ := [rb b sl p3]) H.sw1
    refine (c_l1Mutate (R.on H1) H1.rep (by omega) H2 (by omega) (by omega)).go ?_
    rintro _ h5 ⟨y2, p4, H3, hyn, hp7, hp8⟩
    have H := H3.app H1
    obtain ⟨w2, rfl, k3, k4, H⟩ := H.unExq
    have hO2 := H.rep.one
    have hPP := hld_parts (cs := [.int .i64 y.procs[i].locs, we]) (HS.holeP H.sw6 (n := 2) rfl rfl)
    have hPE := hld_parts (HS.holeP H.sw5 (n := 10) rfl rfl)
    simp -implicitDefEqProofs (disch := first | omega | (simp only [List.length_set, List.length_replicate, List.length_append, List.length_map, List.length_take, List.length_cons, List.length_nil]; omega)) [wrap64, hiaP, hPP.1, hPP.2.2.1, hiaE, hPE.1]
    refine HS.holest H.sw5 rfl (n := 10) rfl rfl rfl rfl (by simp [hO2]) (by decide) fun h5 H => ?_
    have H : HS g (hole we y.procs[i].edges 0 (.agg (Ed.cs ⟨y.procs[i].edges[0].frm, y.procs[i].edges[0].to, y2, y.procs[i].edges[0].var, y.procs[i].edges[0].value, y.procs[i].edges[0].sync⟩ w2 x2).toArray) :: ow w2 y2.kids :: rb b sl p4 :: ow _ e1 :: ow x1 y.procs[i].edges[0].guard.kids :: ow x2 y.procs[i].edges[0].value.kids :: hole w y.procs i (.agg #[.int .i64 y.procs[i].locs, we]) :: ow wi y.init :: Γ) h5 := H
    have H := HS.put (HS.mkEd (e := ⟨y.procs[i].edges[0].frm, y.procs[i].edges[0].to, y2, y.procs[i].edges[0].var, y.procs[i].edges[0].value, y.procs[i].edges[0].sync⟩) H.sw5.sw2 ⟨ok.frm, ok.to, k3, k4, ok.var, ok.vk, ok.vv, ok.sync⟩)
    have H := HS.put ((HS.mkPr (p := ⟨y.procs[i].locs, y.procs[i].edges.set 0 ⟨y.procs[i].edges[0].frm, y.procs[i].edges[0].to, y2, y.procs[i].edges[0].var, y.procs[i].edges[0].value, y.procs[i].edges[0].sync⟩⟩) H kl).under fun _ H => H.sw3)
    have hOi := H.sw4.rep.one
    have hCi := H.sw4.rep.cells
    have hOw := H.rep.one
    have hCw := H.rep.cells
    simp -implicitDefEqProofs (disch := first | omega | (simp only [List.length_set, List.length_replicate, List.length_append, List.length_map, List.length_take, List.length_cons, List.length_nil]; omega)) [wrap64, setC, hOi, hCi, hOw, hCw]
    exact RetK.keep (hk _ _ ⟨_, _, (HS.mkSy (s := ⟨y.init, y.procs.set i ⟨y.procs[i].locs, y.procs[i].edges.set 0 ⟨y.procs[i].edges[0].frm, y.procs[i].edges[0].to, y2, y.procs[i].edges[0].var, y.procs[i].edges[0].value, y.procs[i].edges[0].sync⟩⟩⟩) H.sw4).sw3.drop.sw2.drop, Sy.Sm.set hy hi he ⟨by first | omega | (dsimp only; omega), hev⟩, by omega, by omega⟩)
  by_cases c3 : r6 = 3
  · have H := H.sw2
    obtain ⟨uP, huP, H⟩ := HS.take H hi
    obtain ⟨we, rfl, kl, H⟩ := H.unPr
    obtain ⟨uE, huE, H⟩ := HS.take H he
    obtain ⟨x1, x2, rfl, ok, H⟩ := H.unEd
    have hiaP := HS.holeia H.sw3 (n := 2) (kd := .i64) rfl hi
    have hPP := hld_parts (cs := [.int .i64 y.procs[i].locs, we]) (HS.holeP H.sw3 (n := 2) rfl rfl)
    have hiaE : iaV 10 we (.int .i64 0) = some (elp 10 we 0) := HS.holeia H.sw2 (n := 10) (kd := .i64) rfl he
    simp -implicitDefEqProofs (disch := first | omega | (simp only [List.length_set, List.length_replicate, List.length_append, List.length_map, List.length_take, List.length_cons, List.length_nil]; omega)) [wrap64, c0, c1, c2, c3, hiaP, hPP.1, hPP.2.2.1, hiaE]
    refine H.bls [(-1 : Int), 3, 0, -2] rfl rfl (okL (by decide)) (by decide) fun q hq H => ?_
    have H := H.sw5.sw1
    have hPP := hld_parts (cs := [.int .i64 y.procs[i].locs, we]) (HS.holeP H.sw5 (n := 2) rfl rfl)
    simp -implicitDefEqProofs (disch := first | omega | (simp only [List.length_set, List.length_replicate, List.length_append, List.length_map, List.length_take, List.length_cons, List.length_nil]; omega)) [wrap64, hiaP, hPP.1, hPP.2.2.1, hiaE]
    refine (c_num R H (by omega) (by omega) (by simp)).go ?_
    rintro _ h4 ⟨r7, rfl, o7, _, H⟩
    have hPP := hld_parts (cs := [.int .i64 y.procs[i].locs, we]) (HS.holeP H.sw4 (n := 2) rfl rfl)
    have hPE := hld_parts (HS.holeP H.sw3 (n := 10) rfl rfl)
    simp -implicitDefEqProofs (disch := first | omega | (simp only [List.length_set, List.length_replicate, List.length_append, List.length_map, List.length_take, List.length_cons, List.length_nil]; omega)) [wrap64, hiaP, hPP.1, hPP.2.2.1, hiaE, hPE.1]
    refine HS.holest H.sw3 rfl (n := 10) rfl rfl rfl rfl rfl (by decide) fun h5 H => ?_
    have H : HS g (hole we y.procs[i].edges 0 (.agg (Ed.cs ⟨y.procs[i].edges[0].frm, y.procs[i].edges[0].to, y.procs[i].edges[0].guard, r7, y.procs[i].edges[0].value, y.procs[i].edges[0].sync⟩ x1 x2).toArray) :: rb b sl (p1 + 1 + 1) :: ow x1 y.procs[i].edges[0].guard.kids :: ow x2 y.procs[i].edges[0].value.kids :: hole w y.procs i (.agg #[.int .i64 y.procs[i].locs, we]) :: ow wi y.init :: Γ) h5 := H
    have H := HS.put (HS.mkEd (e := ⟨y.procs[i].edges[0].frm, y.procs[i].edges[0].to, y.procs[i].edges[0].guard, r7, y.procs[i].edges[0].value, y.procs[i].edges[0].sync⟩) H.sw3.sw3 ⟨ok.frm, ok.to, ok.gk, ok.gv, o7, ok.vk, ok.vv, ok.sync⟩)
    have H := HS.put ((HS.mkPr (p := ⟨y.procs[i].locs, y.procs[i].edges.set 0 ⟨y.procs[i].edges[0].frm, y.procs[i].edges[0].to, y.procs[i].edges[0].guard, r7, y.procs[i].edges[0].value, y.procs[i].edges[0].sync⟩⟩) H kl).under fun _ H => H.sw1)
    have hOi := H.sw2.rep.one
    have hCi := H.sw2.rep.cells
    have hOw := H.rep.one
    have hCw := H.rep.cells
    simp -implicitDefEqProofs (disch := first | omega | (simp only [List.length_set, List.length_replicate, List.length_append, List.length_map, List.length_take, List.length_cons, List.length_nil]; omega)) [wrap64, setC, hOi, hCi, hOw, hCw]
    exact RetK.keep (hk _ _ ⟨_, _, HS.mkSy (s := ⟨y.init, y.procs.set i ⟨y.procs[i].locs, y.procs[i].edges.set 0 ⟨y.procs[i].edges[0].frm, y.procs[i].edges[0].to, y.procs[i].edges[0].guard, r7, y.procs[i].edges[0].value, y.procs[i].edges[0].sync⟩⟩⟩) H.sw2, Sy.Sm.set hy hi he ⟨heg, hev⟩, by omega, by omega⟩)
  by_cases c4 : r6 = 4
  · have H := H.sw2
    obtain ⟨uP, huP, H⟩ := HS.take H hi
    obtain ⟨we, rfl, kl, H⟩ := H.unPr
    obtain ⟨uE, huE, H⟩ := HS.take H he
    obtain ⟨x1, x2, rfl, ok, H⟩ := H.unEd
    have hiaP := HS.holeia H.sw3 (n := 2) (kd := .i64) rfl hi
    have hPP := hld_parts (cs := [.int .i64 y.procs[i].locs, we]) (HS.holeP H.sw3 (n := 2) rfl rfl)
    have hiaE : iaV 10 we (.int .i64 0) = some (elp 10 we 0) := HS.holeia H.sw2 (n := 10) (kd := .i64) rfl he
    simp -implicitDefEqProofs (disch := first | omega | (simp only [List.length_set, List.length_replicate, List.length_append, List.length_map, List.length_take, List.length_cons, List.length_nil]; omega)) [wrap64, c0, c1, c2, c3, c4, hiaP, hPP.1, hPP.2.2.1, hiaE]
    refine H.bls [(3 : Int), -3, 2, -9223372036854775808] rfl rfl (okL (by decide)) (by decide) fun q hq H => ?_
    have H := H.sw5.sw1
    have hPP := hld_parts (cs := [.int .i64 y.procs[i].locs, we]) (HS.holeP H.sw5 (n := 2) rfl rfl)
    simp -implicitDefEqProofs (disch := first | omega | (simp only [List.length_set, List.length_replicate, List.length_append, List.length_map, List.length_take, List.length_cons, List.length_nil]; omega)) [wrap64, hiaP, hPP.1, hPP.2.2.1, hiaE]
    refine (c_num R H (by omega) (by omega) (by simp)).go ?_
    rintro _ h4 ⟨r7, rfl, o7, _, H⟩
    have hPP := hld_parts (cs := [.int .i64 y.procs[i].locs, we]) (HS.holeP H.sw4 (n := 2) rfl rfl)
    have hPE := hld_parts (HS.holeP H.sw3 (n := 10) rfl rfl)
    simp -implicitDefEqProofs (disch := first | omega | (simp only [List.length_set, List.length_replicate, List.length_append, List.length_map, List.length_take, List.length_cons, List.length_nil]; omega)) [wrap64, hiaP, hPP.1, hPP.2.2.1, hiaE, hPE.1]
    refine HS.holest H.sw3 rfl (n := 10) rfl rfl rfl rfl rfl (by decide) fun h5 H => ?_
    have H : HS g (hole we y.procs[i].edges 0 (.agg (Ed.cs ⟨y.procs[i].edges[0].frm, y.procs[i].edges[0].to, y.procs[i].edges[0].guard, y.procs[i].edges[0].var, y.procs[i].edges[0].value, r7⟩ x1 x2).toArray) :: rb b sl (p1 + 1 + 1) :: ow x1 y.procs[i].edges[0].guard.kids :: ow x2 y.procs[i].edges[0].value.kids :: hole w y.procs i (.agg #[.int .i64 y.procs[i].locs, we]) :: ow wi y.init :: Γ) h5 := H
    have H := HS.put (HS.mkEd (e := ⟨y.procs[i].edges[0].frm, y.procs[i].edges[0].to, y.procs[i].edges[0].guard, y.procs[i].edges[0].var, y.procs[i].edges[0].value, r7⟩) H.sw3.sw3 ⟨ok.frm, ok.to, ok.gk, ok.gv, ok.var, ok.vk, ok.vv, o7⟩)
    have H := HS.put ((HS.mkPr (p := ⟨y.procs[i].locs, y.procs[i].edges.set 0 ⟨y.procs[i].edges[0].frm, y.procs[i].edges[0].to, y.procs[i].edges[0].guard, y.procs[i].edges[0].var, y.procs[i].edges[0].value, r7⟩⟩) H kl).under fun _ H => H.sw1)
    have hOi := H.sw2.rep.one
    have hCi := H.sw2.rep.cells
    have hOw := H.rep.one
    have hCw := H.rep.cells
    simp -implicitDefEqProofs (disch := first | omega | (simp only [List.length_set, List.length_replicate, List.length_append, List.length_map, List.length_take, List.length_cons, List.length_nil]; omega)) [wrap64, setC, hOi, hCi, hOw, hCw]
    exact RetK.keep (hk _ _ ⟨_, _, HS.mkSy (s := ⟨y.init, y.procs.set i ⟨y.procs[i].locs, y.procs[i].edges.set 0 ⟨y.procs[i].edges[0].frm, y.procs[i].edges[0].to, y.procs[i].edges[0].guard, y.procs[i].edges[0].var, y.procs[i].edges[0].value, r7⟩⟩⟩) H.sw2, Sy.Sm.set hy hi he ⟨heg, hev⟩, by omega, by omega⟩)
  by_cases c5 : r6 = 5
  · have H := H.sw2
    obtain ⟨uP, huP, H⟩ := HS.take H hi
    obtain ⟨we, rfl, kl, H⟩ := H.unPr
    obtain ⟨uE, huE, H⟩ := HS.take H he
    obtain ⟨x1, x2, rfl, ok, H⟩ := H.unEd
    have hiaP := HS.holeia H.sw3 (n := 2) (kd := .i64) rfl hi
    have hPP := hld_parts (cs := [.int .i64 y.procs[i].locs, we]) (HS.holeP H.sw3 (n := 2) rfl rfl)
    have hiaE : iaV 10 we (.int .i64 0) = some (elp 10 we 0) := HS.holeia H.sw2 (n := 10) (kd := .i64) rfl he
    simp -implicitDefEqProofs (disch := first | omega | (simp only [List.length_set, List.length_replicate, List.length_append, List.length_map, List.length_take, List.length_cons, List.length_nil]; omega)) [wrap64, c0, c1, c2, c3, c4, c5, hiaP, hPP.1, hPP.2.2.1, hiaE]
    refine H.bls [(-1 : Int), 4, 0, 9223372036854775807] rfl rfl (okL (by decide)) (by decide) fun q hq H => ?_
    have H := H.sw5.sw1
    have hPP := hld_parts (cs := [.int .i64 y.procs[i].locs, we]) (HS.holeP H.sw5 (n := 2) rfl rfl)
    simp -implicitDefEqProofs (disch := first | omega | (simp only [List.length_set, List.length_replicate, List.length_append, List.length_map, List.length_take, List.length_cons, List.length_nil]; omega)) [wrap64, hiaP, hPP.1, hPP.2.2.1, hiaE]
    refine (c_num R H (by omega) (by omega) (by simp)).go ?_
    rintro _ h4 ⟨r7, rfl, o7, _, H⟩
    have hPP := hld_parts (cs := [.int .i64 y.procs[i].locs, we]) (HS.holeP H.sw4 (n := 2) rfl rfl)
    have hPE := hld_parts (HS.holeP H.sw3 (n := 10) rfl rfl)
    simp -implicitDefEqProofs (disch := first | omega | (simp only [List.length_set, List.length_replicate, List.length_append, List.length_map, List.length_take, List.length_cons, List.length_nil]; omega)) [wrap64, hiaP, hPP.1, hPP.2.2.1, hiaE, hPE.1]
    refine HS.holest H.sw3 rfl (n := 10) rfl rfl rfl rfl rfl (by decide) fun h5 H => ?_
    have H : HS g (hole we y.procs[i].edges 0 (.agg (Ed.cs ⟨y.procs[i].edges[0].frm, r7, y.procs[i].edges[0].guard, y.procs[i].edges[0].var, y.procs[i].edges[0].value, y.procs[i].edges[0].sync⟩ x1 x2).toArray) :: rb b sl (p1 + 1 + 1) :: ow x1 y.procs[i].edges[0].guard.kids :: ow x2 y.procs[i].edges[0].value.kids :: hole w y.procs i (.agg #[.int .i64 y.procs[i].locs, we]) :: ow wi y.init :: Γ) h5 := H
    have H := HS.put (HS.mkEd (e := ⟨y.procs[i].edges[0].frm, r7, y.procs[i].edges[0].guard, y.procs[i].edges[0].var, y.procs[i].edges[0].value, y.procs[i].edges[0].sync⟩) H.sw3.sw3 ⟨ok.frm, o7, ok.gk, ok.gv, ok.var, ok.vk, ok.vv, ok.sync⟩)
    have H := HS.put ((HS.mkPr (p := ⟨y.procs[i].locs, y.procs[i].edges.set 0 ⟨y.procs[i].edges[0].frm, r7, y.procs[i].edges[0].guard, y.procs[i].edges[0].var, y.procs[i].edges[0].value, y.procs[i].edges[0].sync⟩⟩) H kl).under fun _ H => H.sw1)
    have hOi := H.sw2.rep.one
    have hCi := H.sw2.rep.cells
    have hOw := H.rep.one
    have hCw := H.rep.cells
    simp -implicitDefEqProofs (disch := first | omega | (simp only [List.length_set, List.length_replicate, List.length_append, List.length_map, List.length_take, List.length_cons, List.length_nil]; omega)) [wrap64, setC, hOi, hCi, hOw, hCw]
    exact RetK.keep (hk _ _ ⟨_, _, HS.mkSy (s := ⟨y.init, y.procs.set i ⟨y.procs[i].locs, y.procs[i].edges.set 0 ⟨y.procs[i].edges[0].frm, r7, y.procs[i].edges[0].guard, y.procs[i].edges[0].var, y.procs[i].edges[0].value, y.procs[i].edges[0].sync⟩⟩⟩) H.sw2, Sy.Sm.set hy hi he ⟨heg, hev⟩, by omega, by omega⟩)
  by_cases c6 : r6 = 6
  · simp -implicitDefEqProofs (disch := first | omega | (simp only [List.length_set, List.length_replicate, List.length_append, List.length_map, List.length_take, List.length_cons, List.length_nil]; omega)) [wrap64, c0, c1, c2, c3, c4, c5, c6, setC]
    exact RetK.keep (hk _ _ ⟨⟨[], []⟩, p1 + 1, HS.mkSy (s := ⟨[], []⟩) (H.sw2.drop.sw1.drop.nil_ow.nil_ow), ⟨by simp, by simp, by simp⟩, by omega, by omega⟩)
  · simp -implicitDefEqProofs (disch := first | omega | (simp only [List.length_set, List.length_replicate, List.length_append, List.length_map, List.length_take, List.length_cons, List.length_nil]; omega)) [wrap64, c0, c1, c2, c3, c4, c5, c6, setC, hOi, hCi, hOw, hCw]
    exact RetK.keep (hk _ _ ⟨y, _, HS.mkSy H.sw2.sw2, hy, by omega, by omega⟩)
end Go.Proofs.Ytonjglbachhdcaa

/-
  Arguments of laws: systems with expressions, with numbers; slices that are written out with elements that are only read.
-/
namespace Go.Proofs.Ytonjglbachhdcaa
open Go
set_option linter.all false
set_option linter.unusedVariables false
set_option linter.unusedSimpArgs false
set_option linter.defProp false
set_option maxRecDepth 1000000

def RDe (h : Heap) : Value → Heap → Prop := fun u h' => ∃ (u1 u2 : Value) (s : Sy) (e : Exq), u = .tuple #[u1, u2] ∧ HS h [ow u1 s, ow u2 e] h'
theorem c_DrawDeadEdges {h : Heap} {v : Value} {l : List (BitVec 8)} (R : Rep h v l) : CallE Try.prog fn_spec_DrawDeadEdges [v] h (fun u h' => ∃ (u1 : Value) (s : Sy) (n : Int), u = .tuple #[u1, .int .i64 n] ∧ I64 n ∧ HS h [ow u1 s] h') := by
  refine CallE.gen fun k hk => EN_spec_DrawDeadEdges rfl ?_
  simp -implicitDefEqProofs (disch := first | omega | (simp only [List.length_set, List.length_replicate, List.length_append, List.length_map, List.length_take, List.length_cons, List.length_nil]; omega)) [wrap64]
  refine (c_l16Open R).go ?_
  rintro _ h1 ⟨b, sl, l', rfl, R', H⟩
  simp -implicitDefEqProofs (disch := first | omega | (simp only [List.length_set, List.length_replicate, List.length_append, List.length_map, List.length_take, List.length_cons, List.length_nil]; omega)) [wrap64]
  refine (c_l2System R' H (by omega) (by omega)).go ?_
  rintro u h2 ⟨s, p1, H, hs, hp1, hp2⟩
  have FS := H.rep.aSy
  simp -implicitDefEqProofs (disch := first | omega | (simp only [List.length_set, List.length_replicate, List.length_append, List.length_map, List.length_take, List.length_cons, List.length_nil]; omega)) [wrap64, FS]
  obtain ⟨g1, H1, H2⟩ := HS.rebase (Δ := [rb b sl p1]) H.sw1
  refine (c_l2Mutate (R'.on H1) H1.rep hs (by omega) (by omega) H2 (by omega) (by omega)).go ?_
  rintro x h3 ⟨y, p2, H3, hy, hp3, hp4⟩
  have H := H3.app H1
  have FY := H.rep.aSy
  simp -implicitDefEqProofs (disch := first | omega | (simp only [List.length_set, List.length_replicate, List.length_append, List.length_map, List.length_take, List.length_cons, List.length_nil]; omega)) [wrap64, FY, setC]
  refine H.bls [(0 : Int), 1, 0, 2, -1, 3] rfl rfl (okL (by decide)) (by decide) fun q hq H => ?_
  simp -implicitDefEqProofs (disch := first | omega | (simp only [List.length_set, List.length_replicate, List.length_append, List.length_map, List.length_take, List.length_cons, List.length_nil]; omega)) [wrap64]
  refine (c_num R' (H.under fun _ H => H.sw1) (by omega) (by omega) (by simp)).go ?_
  rintro _ h4 ⟨r1, rfl, o1, _, H⟩
  simp -implicitDefEqProofs (disch := first | omega | (simp only [List.length_set, List.length_replicate, List.length_append, List.length_map, List.length_take, List.length_cons, List.length_nil]; omega)) [wrap64, FY, setC]
  exact RetK.keep (hk _ _ ⟨x, y, r1, rfl, o1, H.sw1.only⟩)
end Go.Proofs.Ytonjglbachhdcaa

/-
  Bodies of functions in the small language, as a program printed them, and that each is what the translation gives.
-/
namespace Go.Proofs.Ytonjglbachhdcaa
open Go
set_option linter.all false
set_option linter.defProp false
set_option maxRecDepth 1000000

def H_impl_State_take : Hint := ⟨[(0, false), (1, false), (2, false), (3, true), (5, true)], []⟩
def K75_1 : Pl := .st (.act none (.px (some 14) (.ia 1 (.v 6) (.v 8)))) <|
    .st (.act none (.ex none (.store 1 (.v 14) (.v 13)))) .done
@[simp] def W75_1 := @Pl.wpe _ _ K75_1.eq_1
def K75_2 : C := .pl <| .st (.ext 5 10) <|
    .st (.act none (.als 5 none 3)) <|
    .st (.act none (.pget (some 6) (some 5) 3 1 none)) <|
    .st (.act none (.als 7 none 4)) <|
    .st (.act none (.pget (some 8) (some 7) 4 5 none)) <|
    .st (.act none (.als 9 none 4)) <|
    .st (.act none (.pget (some 10) (some 9) 4 6 (some 3))) <|
    .st (.act none (.als 11 none 3)) <|
    .st (.act none (.pget (some 12) (some 11) 3 1 none)) <|
    .st (.act none (.ex (some 13) (.call fn_impl_Expr_eval [.v 10, .v 12]))) K75_1
@[simp] def W75_2 := @C.wpe _ _ K75_2.eq_1
def K75_3 : C := .cond 5 (.v 7) K75_2 (.skip)
@[simp] def W75_3 := @C.wpe _ _ K75_3.eq_1
def K75_4 : C := .seq (.pl <| .st (.ext 5 3) <|
    .st (.act none (.als 5 none 4)) <|
    .st (.act none (.pget (some 6) (some 5) 4 5 none)) <|
    .st (.act none (.px (some 7) (.bin .geq (.v 6) (.c (.int .i64 0))))) .done) K75_3
@[simp] def W75_4 := @C.wpe _ _ K75_4.eq_1
def K75_5 : C := .seq (.pl <| .st (.ext 5 6) <|
    .st (.act none (.als 5 none 3)) <|
    .st (.act none (.pget (some 6) (some 5) 3 0 none)) <|
    .st (.act none (.px (some 7) (.mv (.v 1)))) <|
    .st (.act none (.als 8 none 4)) <|
    .st (.act none (.pget (some 9) (some 8) 4 1 none)) <|
    .st (.act none (.px (some 10) (.ia 1 (.v 6) (.v 7)))) <|
    .st (.act none (.ex none (.store 1 (.v 10) (.v 9)))) .done) K75_4
@[simp] def W75_5 := @C.wpe _ _ K75_5.eq_1
def B_impl_State_take : C := .seq (.pl <| .st (.ext 5 0) <|
    .st (.act none (.pnew 3 (.v 0) [])) <|
    .st (.act none (.pnew 4 (.v 2) [])) .done) K75_5
@[simp] def WB_impl_State_take := @C.wpe _ _ B_impl_State_take.eq_1
def R_impl_State_take : FIR := ⟨B_impl_State_take, 5, []⟩
theorem IR_impl_State_take : cfun Try.prog H_impl_State_take Try.f75 = some R_impl_State_take := by kernel_rfl
theorem EN_impl_State_take {args : List Value} {h : Heap} {k : Value → Heap → Prop} (hargs : args.length = 3) (hw : B_impl_State_take.wp Try.prog (retQ [] k) (env0 args 5) h) : CallE Try.prog fn_impl_State_take args h k := enter Try.func75 rfl IR_impl_State_take hargs hw

def H_impl_System_after : Hint := ⟨[(0, false), (1, false), (2, false), (3, true), (4, true), (5, true), (6, true), (7, true)], []⟩
def K37_1 : C := .seq (.pl <| .st (.ext 8 1) <|
    .st (.act none (.pget (some 8) none 7 0 (some 2))) <|
    .st (.act none (.pset none 6 0 2 (.v 8))) .done) (.ret)
@[simp] def W37_1 := @C.wpe _ _ K37_1.eq_1
def K37_2 : C := .pl <| .st (.ext 8 15) <|
    .st (.act none (.pget (some 8) none 7 0 (some 2))) <|
    .st (.act none (.als 9 none 5)) <|
    .st (.act none (.pget (some 10) (some 9) 5 2 none)) <|
    .st (.act none (.als 11 none 3)) <|
    .st (.act none (.pget (some 12) (some 11) 3 1 none)) <|
    .st (.act none (.als 13 none 5)) <|
    .st (.act none (.pget (some 14) (some 13) 5 2 none)) <|
    .st (.act none (.px (some 15) (.ia 2 (.v 12) (.v 14)))) <|
    .st (.act none (.px (some 16) (.fa 1 (.v 15)))) <|
    .st (.act none (.ld (some 17) (.v 16) none)) <|
    .st (.act none (.als 18 none 5)) <|
    .st (.act none (.pget (some 19) (some 18) 5 3 none)) <|
    .st (.act none (.px (some 20) (.ia 10 (.v 17) (.v 19)))) <|
    .st (.act none (.ld (some 21) (.v 20) (some 10))) <|
    .st (.act none (.ex (some 22) (.call fn_impl_State_take [.v 8, .v 10, .v 21]))) .done
@[simp] def W37_2 := @C.wpe _ _ K37_2.eq_1
def K37_3 : C := .cond 8 (.v 10) K37_2 (.skip)
@[simp] def W37_3 := @C.wpe _ _ K37_3.eq_1
def K37_4 : C := .seq (.seq (.pl <| .st (.ext 8 3) <|
    .st (.act none (.als 8 none 5)) <|
    .st (.act none (.pget (some 9) (some 8) 5 2 none)) <|
    .st (.act none (.px (some 10) (.bin .geq (.v 9) (.c (.int .i64 0))))) .done) K37_3) K37_1
@[simp] def W37_4 := @C.wpe _ _ K37_4.eq_1
def K37_5 : C := .seq (.pl <| .st (.ext 8 15) <|
    .st (.act none (.pget (some 8) none 7 0 (some 2))) <|
    .st (.act none (.als 9 none 5)) <|
    .st (.act none (.pget (some 10) (some 9) 5 0 none)) <|
    .st (.act none (.als 11 none 3)) <|
    .st (.act none (.pget (some 12) (some 11) 3 1 none)) <|
    .st (.act none (.als 13 none 5)) <|
    .st (.act none (.pget (some 14) (some 13) 5 0 none)) <|
    .st (.act none (.px (some 15) (.ia 2 (.v 12) (.v 14)))) <|
    .st (.act none (.px (some 16) (.fa 1 (.v 15)))) <|
    .st (.act none (.ld (some 17) (.v 16) none)) <|
    .st (.act none (.als 18 none 5)) <|
    .st (.act none (.pget (some 19) (some 18) 5 1 none)) <|
    .st (.act none (.px (some 20) (.ia 10 (.v 17) (.v 19)))) <|
    .st (.act none (.ld (some 21) (.v 20) (some 10))) <|
    .st (.act none (.ex (some 22) (.call fn_impl_State_take [.v 8, .v 10, .v 21]))) .done) K37_4
@[simp] def W37_5 := @C.wpe _ _ K37_5.eq_1
def K37_6 : Pl := .st (.act none (.pnew 7 (.c (.agg #[.slice none 0 0, .slice none 0 0])) [])) <|
    .st (.act none (.pset none 7 0 2 (.v 9))) .done
@[simp] def W37_6 := @Pl.wpe _ _ K37_6.eq_1
def K37_7 : C := .seq (.pl <| .st (.ext 8 2) <|
    .st (.act none (.pget (some 8) none 4 0 (some 2))) <|
    .st (.act none (.ex (some 9) (.call fn_impl_State_copyOf [.v 8]))) K37_6) K37_5
@[simp] def W37_7 := @C.wpe _ _ K37_7.eq_1
def B_impl_System_after : C := .seq (.pl <| .st (.ext 8 0) <|
    .st (.act none (.pnew 3 (.v 0) [])) <|
    .st (.act none (.pnew 4 (.v 1) [])) <|
    .st (.act none (.pnew 5 (.v 2) [])) <|
    .st (.act none (.pnew 6 (.c (.agg #[.slice none 0 0, .slice none 0 0])) [])) .done) K37_7
@[simp] def WB_impl_System_after := @C.wpe _ _ B_impl_System_after.eq_1
def R_impl_System_after : FIR := ⟨B_impl_System_after, 8, [(6, some (some 2))]⟩
theorem IR_impl_System_after : cfun Try.prog H_impl_System_after Try.f37 = some R_impl_System_after := by kernel_rfl
theorem EN_impl_System_after {args : List Value} {h : Heap} {k : Value → Heap → Prop} (hargs : args.length = 3) (hw : B_impl_System_after.wp Try.prog (retQ [(6, some (some 2))] k) (env0 args 8) h) : CallE Try.prog fn_impl_System_after args h k := enter Try.func37 rfl IR_impl_System_after hargs hw

def H_impl_System_enabled : Hint := ⟨[(0, false), (1, false), (2, true), (3, true), (4, false), (5, false), (6, false), (7, true), (8, false), (9, true), (10, false), (11, true), (12, false), (13, true), (15, false), (16, false), (17, false), (23, false), (24, false), (25, false), (53, false), (54, false), (55, false), (61, false), (62, false), (63, false)], [[0, 1, 4, 6, 7, 8, 9, 10, 11, 12, 13, 17, 18, 19, 20, 21, 22, 23, 24, 25], [0, 1, 4, 7, 8, 9, 10, 11, 12, 13, 20, 21, 22, 23, 24, 25], [0, 1, 4, 7, 10, 11, 12, 13, 23, 24, 25], [0, 1, 4, 7, 11, 12, 13]]⟩
def K32_1 : Pl := .st (.act none (.px (some 4) (.mv (.v 27)))) .done
@[simp] def W32_1 := @Pl.wpe _ _ K32_1.eq_1
def K32_2 : C := .seq (.pl <| .st (.ext 26 2) <|
    .st (.act none (.px (some 26) (.mv (.v 5)))) <|
    .st (.act none (.ex (some 27) (.call fn_slices_Clip_S_impl_Step_impl_Step [.v 26]))) K32_1) (.ret)
@[simp] def W32_2 := @C.wpe _ _ K32_2.eq_1
def K32_3 : C := .pl <| .st (.ext 26 1) <|
    .st (.act none (.px (some 26) (.bin .add (.v 16) (.c (.int .i64 1))))) <|
    .st (.act none (.px (some 16) (.mv (.v 26)))) .done
@[simp] def W32_3 := @C.wpe _ _ K32_3.eq_1
def K32_4 : C := .pl <| .st (.ext 26 1) <|
    .st (.act none (.px (some 26) (.bin .add (.v 19) (.c (.int .i64 1))))) <|
    .st (.act none (.px (some 19) (.mv (.v 26)))) .done
@[simp] def W32_4 := @C.wpe _ _ K32_4.eq_1
def K32_5 : C := .pl <| .st (.ext 26 1) <|
    .st (.act none (.px (some 26) (.bin .add (.v 22) (.c (.int .i64 1))))) <|
    .st (.act none (.px (some 22) (.mv (.v 26)))) .done
@[simp] def W32_5 := @C.wpe _ _ K32_5.eq_1
def K32_6 : C := .pl <| .st (.ext 26 1) <|
    .st (.act none (.px (some 26) (.bin .add (.v 25) (.c (.int .i64 1))))) <|
    .st (.act none (.px (some 25) (.mv (.v 26)))) .done
@[simp] def W32_6 := @C.wpe _ _ K32_6.eq_1
def K32_7 : Pl := .st (.act none (.px (some 5) (.mv (.v 33)))) .done
@[simp] def W32_7 := @Pl.wpe _ _ K32_7.eq_1
def K32_8 : C := .pl <| .st (.ext 26 8) <|
    .st (.act none (.px (some 26) (.mv (.v 5)))) <|
    .st (.act none (.px (some 27) (.mv (.v 6)))) <|
    .st (.act none (.px (some 28) (.mv (.v 8)))) <|
    .st (.act none (.px (some 29) (.mv (.v 10)))) <|
    .st (.act none (.px (some 30) (.mv (.v 12)))) <|
    .st (.act none (.px (some 31) (.build [.int .i64 0, .int .i64 0, .int .i64 0, .int .i64 0] [(0, 1, .v 27), (1, 1, .v 28), (2, 1, .v 29), (3, 1, .v 30)]))) <|
    .st (.act none (.psl 32 [.int .i64 0, .int .i64 0, .int .i64 0, .int .i64 0] [(0, 4, .v 31)])) <|
    .st (.act none (.ex (some 33) (.app 32 4 [.int .i64 0, .int .i64 0, .int .i64 0, .int .i64 0] (.o (.v 26)) (.p 1 32)))) K32_7
@[simp] def W32_8 := @C.wpe _ _ K32_8.eq_1
def K32_9 : C := .cond 26 (.v 43) K32_8 (.skip)
@[simp] def W32_9 := @C.wpe _ _ K32_9.eq_1
def K32_10 : Pl := .st (.act none (.px (some 43) (.pick (.v 37) (.v 42) (.c (.bool false))))) .done
@[simp] def W32_10 := @Pl.wpe _ _ K32_10.eq_1
def K32_11 : C := .seq (.pl <| .st (.ext 26 18) <|
    .st (.act none (.px (some 26) (.mv (.v 10)))) <|
    .st (.act none (.px (some 27) (.mv (.v 6)))) <|
    .st (.act none (.px (some 28) (.bin .neq (.v 26) (.v 27)))) <|
    .st (.act none (.px (some 29) (.mv (.v 28)))) <|
    .st (.act (some (.v 29, true)) (.als 30 none 13)) <|
    .st (.act (some (.v 29, true)) (.pget (some 31) (some 30) 13 9 none)) <|
    .st (.act (some (.v 29, true)) (.als 32 none 9)) <|
    .st (.act (some (.v 29, true)) (.pget (some 33) (some 32) 9 9 none)) <|
    .st (.act (some (.v 29, true)) (.px (some 34) (.un .neg (.v 33)))) <|
    .st (.act (some (.v 29, true)) (.px (some 35) (.bin .eql (.v 31) (.v 34)))) <|
    .st (.act none (.px (some 36) (.pick (.v 29) (.v 35) (.c (.bool false))))) <|
    .st (.act none (.px (some 37) (.mv (.v 36)))) <|
    .st (.act (some (.v 37, true)) (.pget (some 38) none 2 0 (some 2))) <|
    .st (.act (some (.v 37, true)) (.pget (some 39) none 3 0 (some 2))) <|
    .st (.act (some (.v 37, true)) (.px (some 40) (.mv (.v 10)))) <|
    .st (.act (some (.v 37, true)) (.px (some 41) (.mv (.v 12)))) <|
    .st (.act (some (.v 37, true)) (.ex (some 42) (.call fn_impl_System_ready [.v 38, .v 39, .v 40, .v 41]))) K32_10) K32_9
@[simp] def W32_11 := @C.wpe _ _ K32_11.eq_1
def K32_12 : C := .seq (.block 8 (.seq (.pl <| .st (.ext 26 3) <|
    .st (.act none (.px (some 26) (.mv (.v 25)))) <|
    .st (.act none (.px (some 27) (.ia 10 (.v 23) (.v 25)))) <|
    .st (.act none (.ld (some 28) (.v 27) (some 10))) <|
    .st (.act none (.pnew 13 (.c (.agg #[.int .i64 0, .int .i64 0, .int .i64 0, .int .i64 0, .slice none 0 0, .int .i64 0, .int .i64 0, .int .i64 0, .slice none 0 0, .int .i64 0])) [])) <|
    .st (.act none (.px (some 12) (.mv (.v 26)))) <|
    .st (.act none (.pset none 13 0 10 (.v 28))) .done) K32_11)) K32_6
@[simp] def W32_12 := @C.wpe _ _ K32_12.eq_1
def K32_13 : C := .seq (.cond 26 (.v 26) (.skip) (.exit 7)) K32_12
@[simp] def W32_13 := @C.wpe _ _ K32_13.eq_1
def K32_14 : C := .seq (.pl <| .st (.ext 26 1) <|
    .st (.act none (.px (some 26) (.bin .lss (.v 25) (.v 24)))) .done) K32_13
@[simp] def W32_14 := @C.wpe _ _ K32_14.eq_1
def K32_15 : C := .block 7 (.loop 26 [0, 1, 4, 7, 11, 12, 13] K32_14)
@[simp] def W32_15 := @C.wpe _ _ K32_15.eq_1
def K32_16 : C := .seq (.pl <| .st (.ext 26 1) <|
    .st (.act none (.als 26 none 11)) <|
    .st (.act none (.pget (some 23) (some 26) 11 1 none)) <|
    .st (.act none (.px (some 24) (.lenV (.v 23)))) <|
    .st (.act none (.px (some 25) (.mv (.c (.int .i64 0))))) .done) K32_15
@[simp] def W32_16 := @C.wpe _ _ K32_16.eq_1
def K32_17 : C := .seq (.block 6 (.seq (.pl <| .st (.ext 26 3) <|
    .st (.act none (.px (some 26) (.mv (.v 22)))) <|
    .st (.act none (.px (some 27) (.ia 2 (.v 20) (.v 22)))) <|
    .st (.act none (.ld (some 28) (.v 27) (some 2))) <|
    .st (.act none (.pnew 11 (.c (.agg #[.int .i64 0, .slice none 0 0])) [])) <|
    .st (.act none (.px (some 10) (.mv (.v 26)))) <|
    .st (.act none (.pset none 11 0 2 (.v 28))) .done) K32_16)) K32_5
@[simp] def W32_17 := @C.wpe _ _ K32_17.eq_1
def K32_18 : C := .seq (.cond 26 (.v 26) (.skip) (.exit 5)) K32_17
@[simp] def W32_18 := @C.wpe _ _ K32_18.eq_1
def K32_19 : C := .seq (.pl <| .st (.ext 26 1) <|
    .st (.act none (.px (some 26) (.bin .lss (.v 22) (.v 21)))) .done) K32_18
@[simp] def W32_19 := @C.wpe _ _ K32_19.eq_1
def K32_20 : C := .block 5 (.loop 26 [0, 1, 4, 7, 10, 11, 12, 13, 23, 24, 25] K32_19)
@[simp] def W32_20 := @C.wpe _ _ K32_20.eq_1
def K32_21 : C := .seq (.pl <| .st (.ext 26 1) <|
    .st (.act none (.als 26 none 2)) <|
    .st (.act none (.pget (some 20) (some 26) 2 1 none)) <|
    .st (.act none (.px (some 21) (.lenV (.v 20)))) <|
    .st (.act none (.px (some 22) (.mv (.c (.int .i64 0))))) .done) K32_20
@[simp] def W32_21 := @C.wpe _ _ K32_21.eq_1
def K32_22 : Pl := .st (.act none (.px (some 5) (.mv (.v 31)))) .done
@[simp] def W32_22 := @Pl.wpe _ _ K32_22.eq_1
def K32_23 : C := .seq (.pl <| .st (.ext 26 6) <|
    .st (.act none (.px (some 26) (.mv (.v 5)))) <|
    .st (.act none (.px (some 27) (.mv (.v 6)))) <|
    .st (.act none (.px (some 28) (.mv (.v 8)))) <|
    .st (.act none (.px (some 29) (.build [.int .i64 0, .int .i64 0, .int .i64 0, .int .i64 0] [(0, 1, .v 27), (1, 1, .v 28), (2, 1, .c (.int .i64 (-1))), (3, 1, .c (.int .i64 (-1)))]))) <|
    .st (.act none (.psl 30 [.int .i64 0, .int .i64 0, .int .i64 0, .int .i64 0] [(0, 4, .v 29)])) <|
    .st (.act none (.ex (some 31) (.app 32 4 [.int .i64 0, .int .i64 0, .int .i64 0, .int .i64 0] (.o (.v 26)) (.p 1 30)))) K32_22) (.exit 3)
@[simp] def W32_23 := @C.wpe _ _ K32_23.eq_1
def K32_24 : C := .cond 26 (.v 29) K32_23 (.skip)
@[simp] def W32_24 := @C.wpe _ _ K32_24.eq_1
def K32_25 : C := .seq (.pl <| .st (.ext 26 4) <|
    .st (.act none (.als 26 none 9)) <|
    .st (.act none (.pget (some 27) (some 26) 9 9 none)) <|
    .st (.act none (.px (some 28) (.bin .eql (.v 27) (.c (.int .i64 0))))) <|
    .st (.act none (.px (some 29) (.mv (.v 28)))) .done) K32_24
@[simp] def W32_25 := @C.wpe _ _ K32_25.eq_1
def K32_26 : C := .cond 26 (.v 37) (.exit 3) K32_25
@[simp] def W32_26 := @C.wpe _ _ K32_26.eq_1
def K32_27 : Pl := .st (.act none (.px (some 31) (.un .not (.v 30)))) <|
    .st (.act none (.px (some 32) (.mv (.v 31)))) <|
    .st (.act (some (.v 32, false)) (.als 33 none 9)) <|
    .st (.act (some (.v 32, false)) (.pget (some 34) (some 33) 9 9 none)) <|
    .st (.act (some (.v 32, false)) (.px (some 35) (.bin .lss (.v 34) (.c (.int .i64 0))))) <|
    .st (.act none (.px (some 36) (.pick (.v 32) (.c (.bool true)) (.v 35)))) <|
    .st (.act none (.px (some 37) (.mv (.v 36)))) .done
@[simp] def W32_27 := @Pl.wpe _ _ K32_27.eq_1
def K32_28 : C := .seq (.block 4 (.seq (.pl <| .st (.ext 26 12) <|
    .st (.act none (.pget (some 26) none 2 0 (some 2))) <|
    .st (.act none (.pget (some 27) none 3 0 (some 2))) <|
    .st (.act none (.px (some 28) (.mv (.v 6)))) <|
    .st (.act none (.px (some 29) (.mv (.v 8)))) <|
    .st (.act none (.ex (some 30) (.call fn_impl_System_ready [.v 26, .v 27, .v 28, .v 29]))) K32_27) K32_26)) K32_21
@[simp] def W32_28 := @C.wpe _ _ K32_28.eq_1
def K32_29 : C := .seq (.block 3 (.seq (.pl <| .st (.ext 26 3) <|
    .st (.act none (.px (some 26) (.mv (.v 19)))) <|
    .st (.act none (.px (some 27) (.ia 10 (.v 17) (.v 19)))) <|
    .st (.act none (.ld (some 28) (.v 27) (some 10))) <|
    .st (.act none (.pnew 9 (.c (.agg #[.int .i64 0, .int .i64 0, .int .i64 0, .int .i64 0, .slice none 0 0, .int .i64 0, .int .i64 0, .int .i64 0, .slice none 0 0, .int .i64 0])) [])) <|
    .st (.act none (.px (some 8) (.mv (.v 26)))) <|
    .st (.act none (.pset none 9 0 10 (.v 28))) .done) K32_28)) K32_4
@[simp] def W32_29 := @C.wpe _ _ K32_29.eq_1
def K32_30 : C := .seq (.cond 26 (.v 26) (.skip) (.exit 2)) K32_29
@[simp] def W32_30 := @C.wpe _ _ K32_30.eq_1
def K32_31 : C := .seq (.pl <| .st (.ext 26 1) <|
    .st (.act none (.px (some 26) (.bin .lss (.v 19) (.v 18)))) .done) K32_30
@[simp] def W32_31 := @C.wpe _ _ K32_31.eq_1
def K32_32 : C := .block 2 (.loop 26 [0, 1, 4, 7, 8, 9, 10, 11, 12, 13, 20, 21, 22, 23, 24, 25] K32_31)
@[simp] def W32_32 := @C.wpe _ _ K32_32.eq_1
def K32_33 : C := .seq (.pl <| .st (.ext 26 1) <|
    .st (.act none (.als 26 none 7)) <|
    .st (.act none (.pget (some 17) (some 26) 7 1 none)) <|
    .st (.act none (.px (some 18) (.lenV (.v 17)))) <|
    .st (.act none (.px (some 19) (.mv (.c (.int .i64 0))))) .done) K32_32
@[simp] def W32_33 := @C.wpe _ _ K32_33.eq_1
def K32_34 : C := .seq (.block 1 (.seq (.pl <| .st (.ext 26 3) <|
    .st (.act none (.px (some 26) (.mv (.v 16)))) <|
    .st (.act none (.px (some 27) (.ia 2 (.v 14) (.v 16)))) <|
    .st (.act none (.ld (some 28) (.v 27) (some 2))) <|
    .st (.act none (.pnew 7 (.c (.agg #[.int .i64 0, .slice none 0 0])) [])) <|
    .st (.act none (.px (some 6) (.mv (.v 26)))) <|
    .st (.act none (.pset none 7 0 2 (.v 28))) .done) K32_33)) K32_3
@[simp] def W32_34 := @C.wpe _ _ K32_34.eq_1
def K32_35 : C := .seq (.cond 26 (.v 26) (.skip) (.exit 0)) K32_34
@[simp] def W32_35 := @C.wpe _ _ K32_35.eq_1
def K32_36 : C := .seq (.pl <| .st (.ext 26 1) <|
    .st (.act none (.px (some 26) (.bin .lss (.v 16) (.v 15)))) .done) K32_35
@[simp] def W32_36 := @C.wpe _ _ K32_36.eq_1
def K32_37 : C := .block 0 (.loop 26 [0, 1, 4, 6, 7, 8, 9, 10, 11, 12, 13, 17, 18, 19, 20, 21, 22, 23, 24, 25] K32_36)
@[simp] def W32_37 := @C.wpe _ _ K32_37.eq_1
def K32_38 : C := .seq (.seq (.pl <| .st (.ext 26 1) <|
    .st (.act none (.als 26 none 2)) <|
    .st (.act none (.pget (some 14) (some 26) 2 1 none)) <|
    .st (.act none (.px (some 15) (.lenV (.v 14)))) <|
    .st (.act none (.px (some 16) (.mv (.c (.int .i64 0))))) .done) K32_37) K32_2
@[simp] def W32_38 := @C.wpe _ _ K32_38.eq_1
def K32_39 : C := .seq (.pl <| .st (.ext 26 0) <|
    .st (.act none (.px (some 5) (.mv (.c (.slice none 0 0))))) .done) K32_38
@[simp] def W32_39 := @C.wpe _ _ K32_39.eq_1
def B_impl_System_enabled : C := .seq (.pl <| .st (.ext 26 0) <|
    .st (.act none (.pnew 2 (.v 0) [])) <|
    .st (.act none (.pnew 3 (.v 1) [])) <|
    .st (.act none (.px (some 4) (.mv (.c (.slice none 0 0))))) .done) K32_39
@[simp] def WB_impl_System_enabled := @C.wpe _ _ B_impl_System_enabled.eq_1
def R_impl_System_enabled : FIR := ⟨B_impl_System_enabled, 26, [(4, none)]⟩
theorem IR_impl_System_enabled : cfun Try.prog H_impl_System_enabled Try.f32 = some R_impl_System_enabled := by kernel_rfl
theorem EN_impl_System_enabled {args : List Value} {h : Heap} {k : Value → Heap → Prop} (hargs : args.length = 2) (hw : B_impl_System_enabled.wp Try.prog (retQ [(4, none)] k) (env0 args 26) h) : CallE Try.prog fn_impl_System_enabled args h k := enter Try.func32 rfl IR_impl_System_enabled hargs hw

def H_impl_System_ready : Hint := ⟨[(0, false), (1, false), (2, false), (3, false), (4, true), (5, true), (8, false), (9, true)], []⟩
def K67_1 : Pl := .st (.act (some (.v 16, true)) (.px (some 22) (.bin .neq (.v 21) (.c (.int .i64 0))))) <|
    .st (.act none (.px (some 23) (.pick (.v 16) (.v 22) (.c (.bool false))))) <|
    .st (.act none (.px (some 6) (.mv (.v 23)))) .done
@[simp] def W67_1 := @Pl.wpe _ _ K67_1.eq_1
def K67_2 : C := .seq (.pl <| .st (.ext 8 16) <|
    .st (.act none (.als 8 none 5)) <|
    .st (.act none (.pget (some 9) (some 8) 5 0 none)) <|
    .st (.act none (.px (some 10) (.mv (.v 2)))) <|
    .st (.act none (.px (some 11) (.ia 1 (.v 9) (.v 10)))) <|
    .st (.act none (.ld (some 12) (.v 11) none)) <|
    .st (.act none (.als 13 none 7)) <|
    .st (.act none (.pget (some 14) (some 13) 7 0 none)) <|
    .st (.act none (.px (some 15) (.bin .eql (.v 12) (.v 14)))) <|
    .st (.act none (.px (some 16) (.mv (.v 15)))) <|
    .st (.act (some (.v 16, true)) (.als 17 none 7)) <|
    .st (.act (some (.v 16, true)) (.pget (some 18) (some 17) 7 2 (some 3))) <|
    .st (.act (some (.v 16, true)) (.als 19 none 5)) <|
    .st (.act (some (.v 16, true)) (.pget (some 20) (some 19) 5 1 none)) <|
    .st (.act (some (.v 16, true)) (.ex (some 21) (.call fn_impl_Expr_eval [.v 18, .v 20]))) K67_1) (.ret)
@[simp] def W67_2 := @C.wpe _ _ K67_2.eq_1
def K67_3 : C := .seq (.pl <| .st (.ext 8 9) <|
    .st (.act none (.als 8 none 4)) <|
    .st (.act none (.pget (some 9) (some 8) 4 1 none)) <|
    .st (.act none (.px (some 10) (.mv (.v 2)))) <|
    .st (.act none (.px (some 11) (.ia 2 (.v 9) (.v 10)))) <|
    .st (.act none (.px (some 12) (.fa 1 (.v 11)))) <|
    .st (.act none (.ld (some 13) (.v 12) none)) <|
    .st (.act none (.px (some 14) (.mv (.v 3)))) <|
    .st (.act none (.px (some 15) (.ia 10 (.v 13) (.v 14)))) <|
    .st (.act none (.ld (some 16) (.v 15) (some 10))) <|
    .st (.act none (.pnew 7 (.c (.agg #[.int .i64 0, .int .i64 0, .int .i64 0, .int .i64 0, .slice none 0 0, .int .i64 0, .int .i64 0, .int .i64 0, .slice none 0 0, .int .i64 0])) [])) <|
    .st (.act none (.pset none 7 0 10 (.v 16))) .done) K67_2
@[simp] def W67_3 := @C.wpe _ _ K67_3.eq_1
def B_impl_System_ready : C := .seq (.pl <| .st (.ext 8 0) <|
    .st (.act none (.pnew 4 (.v 0) [])) <|
    .st (.act none (.pnew 5 (.v 1) [])) <|
    .st (.act none (.px (some 6) (.mv (.c (.bool false))))) .done) K67_3
@[simp] def WB_impl_System_ready := @C.wpe _ _ B_impl_System_ready.eq_1
def R_impl_System_ready : FIR := ⟨B_impl_System_ready, 8, [(6, none)]⟩
theorem IR_impl_System_ready : cfun Try.prog H_impl_System_ready Try.f67 = some R_impl_System_ready := by kernel_rfl
theorem EN_impl_System_ready {args : List Value} {h : Heap} {k : Value → Heap → Prop} (hargs : args.length = 4) (hw : B_impl_System_ready.wp Try.prog (retQ [(6, none)] k) (env0 args 8) h) : CallE Try.prog fn_impl_System_ready args h k := enter Try.func67 rfl IR_impl_System_ready hargs hw

def H_slices_Clip_S_impl_Step_impl_Step : Hint := ⟨[(0, false), (2, false)], []⟩
def K68_1 : C := .seq (.pl <| .st (.ext 2 6) <|
    .st (.act none (.px (some 2) (.mv (.v 0)))) <|
    .st (.act none (.px (some 3) (.mv (.v 0)))) <|
    .st (.act none (.px (some 4) (.lenV (.v 3)))) <|
    .st (.act none (.px (some 5) (.mv (.v 0)))) <|
    .st (.act none (.px (some 6) (.lenV (.v 5)))) <|
    .st (.act none (.px (some 7) (.sliceV 4 (.v 2) none (some (.v 4)) (some (.v 6))))) <|
    .st (.act none (.px (some 1) (.mv (.v 7)))) .done) (.ret)
@[simp] def W68_1 := @C.wpe _ _ K68_1.eq_1
def B_slices_Clip_S_impl_Step_impl_Step : C := .seq (.pl <| .st (.ext 2 0) <|
    .st (.act none (.px (some 1) (.mv (.c (.slice none 0 0))))) .done) K68_1
@[simp] def WB_slices_Clip_S_impl_Step_impl_Step := @C.wpe _ _ B_slices_Clip_S_impl_Step_impl_Step.eq_1
def R_slices_Clip_S_impl_Step_impl_Step : FIR := ⟨B_slices_Clip_S_impl_Step_impl_Step, 2, [(1, none)]⟩
theorem IR_slices_Clip_S_impl_Step_impl_Step : cfun Try.prog H_slices_Clip_S_impl_Step_impl_Step Try.f68 = some R_slices_Clip_S_impl_Step_impl_Step := by kernel_rfl
theorem EN_slices_Clip_S_impl_Step_impl_Step {args : List Value} {h : Heap} {k : Value → Heap → Prop} (hargs : args.length = 1) (hw : B_slices_Clip_S_impl_Step_impl_Step.wp Try.prog (retQ [(1, none)] k) (env0 args 2) h) : CallE Try.prog fn_slices_Clip_S_impl_Step_impl_Step args h k := enter Try.func68 rfl IR_slices_Clip_S_impl_Step_impl_Step hargs hw


end Go.Proofs.Ytonjglbachhdcaa

/-
  Bodies of functions in the small language, as a program printed them, and that each is what the translation gives.
-/
namespace Go.Proofs.Ytonjglbachhdcaa
open Go
set_option linter.all false
set_option linter.defProp false
set_option maxRecDepth 1000000

end Go.Proofs.Ytonjglbachhdcaa

/-
  Bodies of functions in the small language, as a program printed them, and that each is what the translation gives.
-/
namespace Go.Proofs.Ytonjglbachhdcaa
open Go
set_option linter.all false
set_option linter.defProp false
set_option maxRecDepth 1000000

end Go.Proofs.Ytonjglbachhdcaa

/-
  Bodies of functions in the small language, as a program printed them, and that each is what the translation gives.
-/
namespace Go.Proofs.Ytonjglbachhdcaa
open Go
set_option linter.all false
set_option linter.defProp false
set_option maxRecDepth 1000000

end Go.Proofs.Ytonjglbachhdcaa

/-
  Bodies of functions in the small language, as a program printed them, and that each is what the translation gives.
-/
namespace Go.Proofs.Ytonjglbachhdcaa
open Go
set_option linter.all false
set_option linter.defProp false
set_option maxRecDepth 1000000

end Go.Proofs.Ytonjglbachhdcaa

/-
  Instances of functions over slices: copies, and whether some element meets a condition. Printed by a program.
-/
namespace Go.Proofs.Ytonjglbachhdcaa
open Go
set_option linter.all false
set_option linter.unusedVariables false
set_option linter.unusedSimpArgs false
set_option linter.defProp false
set_option maxRecDepth 1000000

theorem c_Clone_int {h : Heap} {a : Value} {x : List (Int)} (Ra : Rep h a x) (hs : x.length ≤ 1073741824) : CallE Try.prog fn_slices_Clone_S_int_int [a] h (fun v h' => HS h [ow v x] h') := by
  refine CallE.gen fun k hk => EN_slices_Clone_S_int_int rfl ?_
  obtain ⟨b, hb, hb2⟩ := Ra.isNil
  simp -implicitDefEqProofs (disch := first | omega | (simp only [List.length_set, List.length_replicate, List.length_append, List.length_map, List.length_take, List.length_cons, List.length_nil]; omega)) [wrap64, hb]
  refine IteW.mk (fun h1 => ?_) (fun h1 => ?_)
  · simp -implicitDefEqProofs (disch := first | omega | (simp only [List.length_set, List.length_replicate, List.length_append, List.length_map, List.length_take, List.length_cons, List.length_nil]; omega)) [wrap64]
    have h2 : x = [] := hb2 h1
    subst h2
    exact RetK.keep (hk _ _ HS.init.nil_ow)
  · simp -implicitDefEqProofs (disch := first | omega | (simp only [List.length_set, List.length_replicate, List.length_append, List.length_map, List.length_take, List.length_cons, List.length_nil]; omega)) [wrap64]
    refine HS.init.appPL (α := Int) (l2 := x) (u := a) rfl rfl Ra rfl rfl (by omega) fun v h1 H => ?_
    simp -implicitDefEqProofs (disch := first | omega | (simp only [List.length_set, List.length_replicate, List.length_append, List.length_map, List.length_take, List.length_cons, List.length_nil]; omega)) [wrap64]
    exact RetK.keep (hk _ _ H)

theorem c_Clip_int {g h : Heap} {Γ : List HP} {a : Value} {x : List (Int)} (H : HS g (ow a x :: Γ) h) : CallE Try.prog fn_slices_Clip_S_int_int [a] h (fun v h' => HS g (ow v x :: Γ) h') := by
  refine CallE.gen fun k hk => EN_slices_Clip_S_int_int rfl ?_
  obtain ⟨v', h1, h2⟩ := H.clip (esz := 1) (k := .i64)
  simp -implicitDefEqProofs (disch := first | omega | (simp only [List.length_set, List.length_replicate, List.length_append, List.length_map, List.length_take, List.length_cons, List.length_nil]; omega)) [wrap64, H.rep.I, h1]
  exact RetK.keep (hk _ _ h2)

theorem c_clone_int {h : Heap} {a : Value} {x : List (Int)} (Ra : Rep h a x) (hs : x.length ≤ 1073741824) : CallE Try.prog fn_impl_clone_int [a] h (fun v h' => HS h [ow v x] h') := by
  refine CallE.gen fun k hk => EN_impl_clone_int rfl ?_
  simp -implicitDefEqProofs (disch := first | omega | (simp only [List.length_set, List.length_replicate, List.length_append, List.length_map, List.length_take, List.length_cons, List.length_nil]; omega)) [wrap64]
  refine (c_Clone_int Ra hs).go ?_
  intro v h1 H
  simp -implicitDefEqProofs (disch := first | omega | (simp only [List.length_set, List.length_replicate, List.length_append, List.length_map, List.length_take, List.length_cons, List.length_nil]; omega)) [wrap64]
  refine (c_Clip_int H).go ?_
  intro v' h2 H
  simp -implicitDefEqProofs (disch := first | omega | (simp only [List.length_set, List.length_replicate, List.length_append, List.length_map, List.length_take, List.length_cons, List.length_nil]; omega)) [wrap64]
  exact RetK.keep (hk _ _ H)

end Go.Proofs.Ytonjglbachhdcaa

/-
  States of systems; projections of states: by the program and by the reference.
-/
namespace Go.Proofs.Ytonjglbachhdcaa
open Go
set_option linter.all false
set_option linter.unusedVariables false
set_option linter.unusedSimpArgs false
set_option linter.defProp false
set_option maxRecDepth 1000000

/-- a state of a system -/
structure Sta.Ok (s : Sy) (st : Sta) : Prop where
  len : st.locs.length = s.procs.length
  vs : VOk st.vals
  lc : ∀ (i : Nat) (h1 : i < st.locs.length) (h2 : i < s.procs.length), 0 ≤ st.locs[i] ∧ st.locs[i] < s.procs[i].locs
noncomputable instance instDecStaOk {s : Sy} {st : Sta} : Decidable (st.Ok s) := Classical.propDecidable _

theorem c_State_copyOf {h : Heap} {v : Value} {st : Sta} (R : Rep h v st) (h1 : st.locs.length ≤ 1073741824) (h2 : st.vals.length ≤ 1073741824) : CallE Try.prog fn_impl_State_copyOf [v] h (fun u h' => HS h [ow u st] h') := by
  obtain ⟨v1, v2, rfl, R1, R2⟩ := Rep_Sta.1 R
  refine CallE.gen fun k hk => EN_impl_State_copyOf rfl ?_
  simp -implicitDefEqProofs (disch := first | omega | (simp only [List.length_set, List.length_replicate, List.length_append, List.length_map, List.length_take, List.length_cons, List.length_nil]; omega)) [wrap64]
  refine (c_clone_int R1 h1).go ?_
  intro u1 m1 H
  simp -implicitDefEqProofs (disch := first | omega | (simp only [List.length_set, List.length_replicate, List.length_append, List.length_map, List.length_take, List.length_cons, List.length_nil]; omega)) [wrap64]
  refine (c_clone_int (R2.on H) h2).go ?_
  intro u2 m2 H2
  have H := H2.app H
  simp -implicitDefEqProofs (disch := first | omega | (simp only [List.length_set, List.length_replicate, List.length_append, List.length_map, List.length_take, List.length_cons, List.length_nil]; omega)) [wrap64, H.rep.cells, H.rep.one, H.sw1.rep.cells, H.sw1.rep.one, setC]
  exact RetK.keep (hk _ _ (HS.mkSta H.sw1))

/-- the values that are kept, and the first values where they don't matter -/
def prV (s : Sy) (L : List Exq) (st : Sta) : List Int := (List.range 3).map fun i => if (s.rel L).getD i false then st.vals.getD i 0 else s.init.getD i 0
noncomputable def prR (s : Sy) (L : List Exq) (st : Sta) : Sta := if s.Ok ∧ LOk L ∧ st.Ok s then ⟨st.locs, prV s L st⟩ else Sta.zero
theorem zero_St {g h : Heap} {Γ : List HP} (H : HS g Γ h) : HS g (ow (.agg #[.slice none 0 0, .slice none 0 0]) Sta.zero :: Γ) h := HS.mkSta (a := Sta.zero) H.nil_ow.nil_ow

end Go.Proofs.Ytonjglbachhdcaa

/-
  Steps in plain Lean: which are enabled, and what they lead to.
-/
namespace Go.Proofs.Ytonjglbachhdcaa
open Go
set_option linter.all false
set_option linter.unusedVariables false
set_option linter.unusedSimpArgs false
set_option linter.defProp false
set_option maxRecDepth 1000000

theorem fm_tk {α β : Type} {f : α × Nat → List β} {l : List α} {i : Nat} (hi : i < l.length) : (l.zipIdx.take (i + 1)).flatMap f = (l.zipIdx.take i).flatMap f ++ f (l[i], i) := by
  rw [List.take_add_one, List.getElem?_eq_getElem (by simpa using hi), List.flatMap_append]
  simp
theorem fm_all {α β : Type} {f : α × Nat → List β} {l : List α} {i : Nat} (hi : l.length ≤ i) : (l.zipIdx.take i).flatMap f = l.zipIdx.flatMap f := by
  rw [List.take_of_length_le (by simpa using hi)]
theorem len_fm {α β : Type} {f : α → List β} {c : Nat} : ∀ {l : List α}, (∀ x ∈ l, (f x).length ≤ c) → (l.flatMap f).length ≤ l.length * c
  | [], _ => by simp
  | x :: l, h => by
    have h1 := len_fm (l := l) fun y hy => h y (by simp [hy])
    have h2 := h x (by simp)
    rw [List.flatMap_cons, List.length_append, List.length_cons, Nat.add_mul]
    omega
theorem len_fmz {α β : Type} {f : α × Nat → List β} {c : Nat} {l : List α} (h : ∀ (i : Nat) (hi : i < l.length), (f (l[i], i)).length ≤ c) (n : Nat) : ((l.zipIdx.take n).flatMap f).length ≤ l.length * c := by
  have h1 : ((l.zipIdx.take n).flatMap f).length ≤ (l.zipIdx.take n).length * c := len_fm fun x hx => by
    have h2 := List.mem_of_mem_take hx
    rw [List.mem_zipIdx_iff_getElem?, List.getElem?_eq_some_iff] at h2
    obtain ⟨h3, h4⟩ := h2
    have := h x.2 h3
    rw [h4] at this
    exact this
  have h2 : (l.zipIdx.take n).length * c ≤ l.length * c := Nat.mul_le_mul_right _ (by simp; omega)
  omega
theorem mem_fmz {α β : Type} {f : α × Nat → List β} {l : List α} {t : β} : t ∈ l.zipIdx.flatMap f ↔ ∃ (i : Nat) (hi : i < l.length), t ∈ f (l[i], i) := by
  rw [List.mem_flatMap]
  constructor
  · rintro ⟨x, hx, ht⟩
    rw [List.mem_zipIdx_iff_getElem?, List.getElem?_eq_some_iff] at hx
    obtain ⟨h3, h4⟩ := hx
    exact ⟨x.2, h3, by rw [h4]; exact ht⟩
  · rintro ⟨i, hi, ht⟩
    exact ⟨(l[i], i), by rw [List.mem_zipIdx_iff_getElem?]; simp [hi], ht⟩

/-- an edge is ready -/
def Ed.rdy (e : Ed) (st : Sta) (i : Nat) : Bool := decide (st.locs.getD i 0 = e.frm ∧ e.guard.ev st.vals ≠ 0)
def prt2 (st : Sta) (i k : Nat) (c : Int) (j : Nat) (x : Ed × Nat) : List Stp := if j ≠ i ∧ x.1.sync = -c ∧ x.1.rdy st j = true then [⟨i, k, j, x.2⟩] else []
def prt1 (st : Sta) (i k : Nat) (c : Int) (x : Pr × Nat) : List Stp := x.1.edges.zipIdx.flatMap (prt2 st i k c x.2)
/-- the steps with partners -/
def prt (s : Sy) (st : Sta) (i k : Nat) (c : Int) : List Stp := s.procs.zipIdx.flatMap (prt1 st i k c)
def enb2 (s : Sy) (st : Sta) (i : Nat) (x : Ed × Nat) : List Stp := if x.1.sync < 0 ∨ x.1.rdy st i = false then [] else if x.1.sync = 0 then [⟨i, x.2, -1, -1⟩] else prt s st i x.2 x.1.sync
def enb1 (s : Sy) (st : Sta) (x : Pr × Nat) : List Stp := x.1.edges.zipIdx.flatMap (enb2 s st x.2)
/-- the enabled steps -/
def enb (s : Sy) (st : Sta) : List Stp := s.procs.zipIdx.flatMap (enb1 s st)

theorem prt1_len {st : Sta} {i k : Nat} {c : Int} {p : Pr} {j n : Nat} (hp : p.Ok) : ((p.edges.zipIdx.take n).flatMap (prt2 st i k c j)).length ≤ 6 := by
  have h1 := len_fmz (f := prt2 st i k c j) (c := 1) (l := p.edges) (fun m hm => by unfold prt2; split <;> simp) n
  have := hp.el
  omega
theorem prt_len {s : Sy} {st : Sta} {i k n : Nat} {c : Int} (hs : s.Ok) : ((s.procs.zipIdx.take n).flatMap (prt1 st i k c)).length ≤ 18 := by
  have h1 := len_fmz (f := prt1 st i k c) (c := 6) (l := s.procs) (fun m hm => by
    have := prt1_len (st := st) (i := i) (k := k) (c := c) (j := m) (n := s.procs[m].edges.length) (hs.at hm)
    rw [fm_all (Nat.le_refl _)] at this
    exact this) n
  have := hs.p3
  omega
theorem prt_len' {s : Sy} {st : Sta} {i k : Nat} {c : Int} (hs : s.Ok) : (prt s st i k c).length ≤ 18 := by
  have := prt_len (st := st) (i := i) (k := k) (c := c) (n := s.procs.length) hs
  rwa [fm_all (Nat.le_refl _)] at this
theorem enb2_len {s : Sy} {st : Sta} {i : Nat} {x : Ed × Nat} (hs : s.Ok) : (enb2 s st i x).length ≤ 18 := by
  unfold enb2
  split
  · simp
  · split
    · simp
    · exact prt_len' hs
theorem enb1_len {s : Sy} {st : Sta} {i n : Nat} {p : Pr} (hs : s.Ok) (hp : p.Ok) : ((p.edges.zipIdx.take n).flatMap (enb2 s st i)).length ≤ 108 := by
  have h1 := len_fmz (f := enb2 s st i) (c := 18) (l := p.edges) (fun m hm => enb2_len hs) n
  have := hp.el
  omega
theorem enb_len {s : Sy} {st : Sta} {n : Nat} (hs : s.Ok) : ((s.procs.zipIdx.take n).flatMap (enb1 s st)).length ≤ 324 := by
  have h1 := len_fmz (f := enb1 s st) (c := 108) (l := s.procs) (fun m hm => by
    have := enb1_len (s := s) (st := st) (i := m) (n := s.procs[m].edges.length) hs (hs.at hm)
    rw [fm_all (Nat.le_refl _)] at this
    exact this) n
  have := hs.p3
  omega
theorem enb_len' {s : Sy} {st : Sta} (hs : s.Ok) : (enb s st).length ≤ 324 := by
  have := enb_len (st := st) (n := s.procs.length) hs
  rwa [fm_all (Nat.le_refl _)] at this

/-- where a step's edges lie -/
structure Stp.In (s : Sy) (t : Stp) : Prop where
  ex : ∃ (i k : Nat) (hi : i < s.procs.length) (_ : k < s.procs[i].edges.length), t.proc = i ∧ t.edge = k
  pt : t.partner = -1 ∨ ∃ (j m : Nat) (hj : j < s.procs.length) (_ : m < s.procs[j].edges.length), t.partner = j ∧ t.pedge = m
theorem enb_in {s : Sy} {st : Sta} {t : Stp} (h : t ∈ enb s st) : t.In s := by
  unfold enb at h
  obtain ⟨i, hi, h⟩ := mem_fmz.1 h
  unfold enb1 at h
  obtain ⟨k, hk, h⟩ := mem_fmz.1 h
  unfold enb2 at h
  split at h
  · simp at h
  · split at h
    · simp at h; subst h
      exact ⟨⟨i, k, hi, hk, rfl, rfl⟩, .inl rfl⟩
    · unfold prt at h
      obtain ⟨j, hj, h⟩ := mem_fmz.1 h
      unfold prt1 at h
      obtain ⟨m, hm, h⟩ := mem_fmz.1 h
      unfold prt2 at h
      split at h
      · simp at h; subst h
        exact ⟨⟨i, k, hi, hk, rfl, rfl⟩, .inr ⟨j, m, hj, hm, rfl, rfl⟩⟩
      · simp at h

/-- an edge is taken -/
def Sta.tk (st : Sta) (i : Nat) (e : Ed) : Sta := ⟨st.locs.set i e.to, if 0 ≤ e.var then st.vals.set e.var.toNat (e.value.ev st.vals) else st.vals⟩
def Sy.ed (s : Sy) (i k : Nat) : Ed := (s.procs.getD i ⟨0, []⟩).edges.getD k ⟨0, 0, Exq.zero, 0, Exq.zero, 0⟩
theorem Sy.ed_eq {s : Sy} {i k : Nat} (hi : i < s.procs.length) (hk : k < s.procs[i].edges.length) : s.ed i k = s.procs[i].edges[k] := by
  simp [Sy.ed, hi, hk]
/-- the state after a step -/
def Sta.aft (s : Sy) (st : Sta) (t : Stp) : Sta := if 0 ≤ t.partner then (st.tk t.proc.toNat (s.ed t.proc.toNat t.edge.toNat)).tk t.partner.toNat (s.ed t.partner.toNat t.pedge.toNat) else st.tk t.proc.toNat (s.ed t.proc.toNat t.edge.toNat)
theorem Sta.tk_ok {s : Sy} {st : Sta} {i : Nat} {e : Ed} (h : st.Ok s) (hi : i < s.procs.length) (he : e.Ok s.procs[i].locs) : (st.tk i e).Ok s := by
  have hv := h.vs
  refine ⟨by simp [Sta.tk, h.len], ?_, fun j h1 h2 => ?_⟩
  · unfold Sta.tk
    simp only
    split
    · rename_i h0
      have hvo : e.value.Ok := he.vl.elim (fun hh => hh.2) (fun hh => absurd hh.1 (by omega))
      have hb := Exq.ev_bnd hv hvo.1
      refine ⟨by simp [hv.len], fun x hx => ?_⟩
      rcases List.mem_or_eq_of_mem_set hx with h1 | h1
      · exact hv.2 x h1
      · rw [h1]; exact hb
    · exact hv
  · simp only [Sta.tk, List.getElem_set]
    split
    · rename_i e1
      subst e1
      exact ⟨he.t0, he.t1⟩
    · exact h.lc j (by simpa [Sta.tk] using h1) h2
theorem Sta.aft_ok {s : Sy} {st : Sta} {t : Stp} (hs : s.Ok) (h : st.Ok s) (ht : t.In s) : (st.aft s t).Ok s := by
  obtain ⟨⟨i, k, hi, hk, h1, h2⟩, h3⟩ := ht
  have g1 : (st.tk t.proc.toNat (s.ed t.proc.toNat t.edge.toNat)).Ok s := by
    rw [h1, h2, Int.toNat_natCast, Int.toNat_natCast, Sy.ed_eq hi hk]
    exact Sta.tk_ok h hi ((hs.at hi).at hk)
  unfold Sta.aft
  rcases h3 with h3 | ⟨j, m, hj, hm, h3, h4⟩
  · rw [if_neg (by omega)]; exact g1
  · rw [if_pos (by omega)]
    have : (st.tk t.proc.toNat (s.ed t.proc.toNat t.edge.toNat)).tk t.partner.toNat (s.ed t.partner.toNat t.pedge.toNat) = (st.tk t.proc.toNat (s.ed t.proc.toNat t.edge.toNat)).tk j (s.procs[j].edges[m]) := by
      rw [h3, h4, Int.toNat_natCast, Int.toNat_natCast, Sy.ed_eq hj hm]
    rw [this]
    exact Sta.tk_ok g1 hj ((hs.at hj).at hm)
noncomputable def ens (s : Sy) (st : Sta) : List Stp := if s.Ok ∧ st.Ok s then enb s st else []
end Go.Proofs.Ytonjglbachhdcaa

/-
  Instances of functions over slices: copies, and whether some element meets a condition. Printed by a program.
-/
namespace Go.Proofs.Ytonjglbachhdcaa
open Go
set_option linter.all false
set_option linter.unusedVariables false
set_option linter.unusedSimpArgs false
set_option linter.defProp false
set_option maxRecDepth 1000000

theorem c_Clip_impl_Step {g h : Heap} {Γ : List HP} {a : Value} {x : List Stp} (H : HS g (ow a x :: Γ) h) : CallE Try.prog fn_slices_Clip_S_impl_Step_impl_Step [a] h (fun v h' => HS g (ow v x :: Γ) h') := by
  refine CallE.gen fun k hk => EN_slices_Clip_S_impl_Step_impl_Step rfl ?_
  obtain ⟨v', h1, h2⟩ := H.clip (esz := 4) (k := .i64)
  simp -implicitDefEqProofs (disch := first | omega | (simp only [List.length_set, List.length_replicate, List.length_append, List.length_map, List.length_take, List.length_cons, List.length_nil]; omega)) [wrap64, H.rep.len, h1]
  exact RetK.keep (hk _ _ h2)

end Go.Proofs.Ytonjglbachhdcaa

/-
  Steps: which are enabled, by the program and by the reference.
-/
namespace Go.Proofs.Ytonjglbachhdcaa
open Go
set_option linter.all false
set_option linter.unusedVariables false
set_option linter.unusedSimpArgs false
set_option linter.defProp false
set_option maxRecDepth 1000000

/-- where an edge of a system lies -/
theorem Rep.edge {h : Heap} {v : Value} {l : List Pr} (R : Rep h v l) {i k : Nat} (hi : i < l.length) (hk : k < l[i].edges.length) :
    ∃ we w1 w2, hload h (some (elp 2 v i)) (some 2) = some (.agg ([.int .i64 l[i].locs, we] : List Value).toArray) ∧ Rep h we l[i].edges ∧ hload h (some (elp 10 we k)) (some 10) = some (.agg (l[i].edges[k].cs w1 w2).toArray) ∧
      l[i].edges[k].ok ∧ Rep h w1 l[i].edges[k].guard.kids ∧ Rep h w2 l[i].edges[k].value.kids := by
  obtain ⟨u, hu, Ru⟩ := R.ld hi
  obtain ⟨we, rfl, k1, R3⟩ := Rep_Pr.1 Ru
  obtain ⟨u2, hu2, Ru2⟩ := R3.ld hk
  obtain ⟨w1, w2, rfl, ok, G1, G2⟩ := Rep_Ed.1 Ru2
  exact ⟨we, w1, w2, hu, R3, hu2, ok, G1, G2⟩

theorem c_ready {h : Heap} {v w : Value} {s : Sy} {st : Sta} (hs : s.Ok) (ht : st.Ok s) (R : Rep h v s) (Rt : Rep h w st) {i m : Nat} (hi : i < s.procs.length) (hm : m < s.procs[i].edges.length) :
    CallE Try.prog fn_impl_System_ready [v, w, .int .i64 i, .int .i64 m] h (fun u h' => h' = h ∧ u = .bool (s.procs[i].edges[m].rdy st i)) := by
  obtain ⟨v1, v2, rfl, R1, R2'⟩ := Rep_Sy.1 R
  obtain ⟨t1, t2, rfl, T1, T2⟩ := Rep_Sta.1 Rt
  obtain ⟨we, w1, w2, hu, R3, hu2, ok, G1, G2⟩ := R2'.edge hi hm
  have hP := hld_parts hu
  have heo := (hs.at hi).at hm
  have hil : i < st.locs.length := by rw [ht.len]; exact hi
  have hF3 := G1.one
  have hF4 := G2.one
  refine CallE.gen fun k hk => EN_impl_System_ready rfl ?_
  by_cases a1 : st.locs[i] = s.procs[i].edges[m].frm
  case neg =>
    simp -implicitDefEqProofs (disch := first | omega | (simp only [List.length_set, List.length_replicate, List.length_append, List.length_map, List.length_take, List.length_cons, List.length_nil]; omega)) [wrap64, R2'.X (n := 2) rfl, hP.1, hP.2.2.1, R3.X (n := 10) rfl, hu2, Ed.cs, setC, hF3, hF4, T1.I, a1]
    exact RetK.keep (hk _ _ ⟨rfl, by simp [Ed.rdy, hil, a1]⟩)
  simp -implicitDefEqProofs (disch := first | omega | (simp only [List.length_set, List.length_replicate, List.length_append, List.length_map, List.length_take, List.length_cons, List.length_nil]; omega)) [wrap64, R2'.X (n := 2) rfl, hP.1, hP.2.2.1, R3.X (n := 10) rfl, hu2, Ed.cs, setC, hF3, hF4, T1.I, a1]
  refine (c_eval _ ht.vs heo.gd.1 (Rep.gd (w2 := w2) ok G1) T2).go ?_
  rintro _ h ⟨rfl, rfl⟩
  simp -implicitDefEqProofs (disch := first | omega | (simp only [List.length_set, List.length_replicate, List.length_append, List.length_map, List.length_take, List.length_cons, List.length_nil]; omega)) [wrap64]
  exact RetK.keep (hk _ _ ⟨rfl, by simp [Ed.rdy, hil, a1]⟩)
theorem c_l3Ready {h : Heap} {v w : Value} {s : Sy} {st : Sta} (hs : s.Ok) (ht : st.Ok s) (R : Rep h v s) (Rt : Rep h w st) {i m : Nat} (hi : i < s.procs.length) (hm : m < s.procs[i].edges.length) :
    CallE Try.prog fn_spec_l3Ready [v, w, .int .i64 i, .int .i64 m] h (fun u h' => h' = h ∧ u = .bool (s.procs[i].edges[m].rdy st i)) := by
  obtain ⟨v1, v2, rfl, R1, R2'⟩ := Rep_Sy.1 R
  obtain ⟨t1, t2, rfl, T1, T2⟩ := Rep_Sta.1 Rt
  obtain ⟨we, w1, w2, hu, R3, hu2, ok, G1, G2⟩ := R2'.edge hi hm
  have hP := hld_parts hu
  have heo := (hs.at hi).at hm
  have hil : i < st.locs.length := by rw [ht.len]; exact hi
  have hF3 := G1.one
  have hF4 := G2.one
  refine CallE.gen fun k hk => EN_spec_l3Ready rfl ?_
  by_cases a1 : s.procs[i].edges[m].frm = st.locs[i]
  case neg =>
    simp -implicitDefEqProofs (disch := first | omega | (simp only [List.length_set, List.length_replicate, List.length_append, List.length_map, List.length_take, List.length_cons, List.length_nil]; omega)) [wrap64, R2'.X (n := 2) rfl, hP.1, hP.2.2.1, R3.X (n := 10) rfl, hu2, Ed.cs, setC, hF3, hF4, T1.I, a1]
    exact RetK.keep (hk _ _ ⟨rfl, by simp [Ed.rdy, hil, Ne.symm a1]⟩)
  simp -implicitDefEqProofs (disch := first | omega | (simp only [List.length_set, List.length_replicate, List.length_append, List.length_map, List.length_take, List.length_cons, List.length_nil]; omega)) [wrap64, R2'.X (n := 2) rfl, hP.1, hP.2.2.1, R3.X (n := 10) rfl, hu2, Ed.cs, setC, hF3, hF4, T1.I, a1]
  refine (c_l1Eval _ ht.vs heo.gd.1 (Rep.gd (w2 := w2) ok G1) T2).go ?_
  rintro _ h ⟨rfl, rfl⟩
  simp -implicitDefEqProofs (disch := first | omega | (simp only [List.length_set, List.length_replicate, List.length_append, List.length_map, List.length_take, List.length_cons, List.length_nil]; omega)) [wrap64]
  exact RetK.keep (hk _ _ ⟨rfl, by simp [Ed.rdy, hil, a1]⟩)

theorem c_enabled {h : Heap} {v w : Value} {s : Sy} {st : Sta} (hs : s.Ok) (ht : st.Ok s) (R : Rep h v s) (Rt : Rep h w st) : CallE Try.prog fn_impl_System_enabled [v, w] h (fun u h' => HS h [ow u (enb s st)] h') := by
  have FS := R.aSy
  have FT := Rt.aSta
  have R0 := R
  have Rt0 := Rt
  obtain ⟨v1, v2, rfl, R1, R2'⟩ := Rep_Sy.1 R
  obtain ⟨t1, t2, rfl, T1, T2⟩ := Rep_Sta.1 Rt
  have hp3 := hs.p3
  refine CallE.gen fun k hk => EN_impl_System_enabled rfl ?_
  simp -implicitDefEqProofs (disch := first | omega | (simp only [List.length_set, List.length_replicate, List.length_append, List.length_map, List.length_take, List.length_cons, List.length_nil]; omega)) [wrap64, R2'.len]
  refine wp_count s.procs.length (fun i e h' => ∃ o, e = [none, none, some (.agg #[v1, v2]), some (.agg #[t1, t2]), none, some o, none, none, none, none, none, none, none, none, some v2, some (.int .i64 s.procs.length), some (.int .i64 i), none, none, none, none, none, none, none, none, none] ∧ HS h [ow o ((s.procs.zipIdx.take i).flatMap (enb1 s st))] h') ⟨.slice none 0 0, by simp, by simpa using HS.init.nil_ow (α := Stp)⟩ ?_
  rintro J0 i _ h1 hJ0 hi ⟨o, rfl, H⟩
  simp -implicitDefEqProofs (disch := first | omega | (simp only [List.length_set, List.length_replicate, List.length_append, List.length_map, List.length_take, List.length_cons, List.length_nil]; omega)) [wrap64]
  refine IteW.mk (fun hlt => ?_) (fun hge => ?_)
  · have hi : i < s.procs.length := by omega
    obtain ⟨A, hA⟩ : ∃ A, A = (s.procs.zipIdx.take i).flatMap (enb1 s st) := ⟨_, rfl⟩
    have hAl : A.length ≤ 324 := by rw [hA]; exact enb_len hs
    obtain ⟨u, hu, Ru⟩ := R2'.ld hi
    have hu2 := hload_le H.base hu
    change hload _ (some (elp 2 v2 i)) (some 2) = some u at hu2
    obtain ⟨we, rfl, k1, R3⟩ := Rep_Pr.1 Ru
    have hpo := hs.at hi
    have hel := hpo.el
    have hF1 := R3.cells
    have hF2 := R3.one
    rw [← hA] at H
    simp -implicitDefEqProofs (disch := first | omega | (simp only [List.length_set, List.length_replicate, List.length_append, List.length_map, List.length_take, List.length_cons, List.length_nil]; omega)) [wrap64, R2'.X (n := 2) rfl, hu2, hF1, hF2, setC, R3.len]
    refine wp_count s.procs[i].edges.length (fun m e h' => ∃ o, e = [none, none, some (.agg #[v1, v2]), some (.agg #[t1, t2]), none, some o, some (.int .i64 i), none, none, none, none, none, none, none, some v2, some (.int .i64 s.procs.length), some (.int .i64 i), some we, some (.int .i64 s.procs[i].edges.length), some (.int .i64 m), none, none, none, none, none, none] ∧ HS h [ow o (A ++ (s.procs[i].edges.zipIdx.take m).flatMap (enb2 s st i))] h') ⟨o, by simp, by simpa using H⟩ ?_
    clear H
    rintro J1 m _ h2 hJ1 hm ⟨o, rfl, H⟩
    simp -implicitDefEqProofs (disch := first | omega | (simp only [List.length_set, List.length_replicate, List.length_append, List.length_map, List.length_take, List.length_cons, List.length_nil]; omega)) [wrap64]
    refine IteW.mk (fun hlt1 => ?_) (fun hge1 => ?_)
    · have hm : m < s.procs[i].edges.length := by omega
      obtain ⟨B, hB⟩ : ∃ B, B = A ++ (s.procs[i].edges.zipIdx.take m).flatMap (enb2 s st i) := ⟨_, rfl⟩
      have hBl : B.length ≤ 432 := by
        rw [hB, List.length_append]
        have := enb1_len (st := st) (i := i) (n := m) hs hpo
        omega
      have hstep : A ++ (s.procs[i].edges.zipIdx.take (m + 1)).flatMap (enb2 s st i) = B ++ enb2 s st i (s.procs[i].edges[m], m) := by rw [fm_tk hm, ← List.append_assoc, ← hB]
      rw [← hB] at H
      obtain ⟨u, hu, Ru⟩ := R3.ld hm
      have hu2 := hload_le H.base hu
      change hload _ (some (elp 10 we m)) (some 10) = some u at hu2
      obtain ⟨w1, w2, rfl, ok, G1, G2⟩ := Rep_Ed.1 Ru
      have heo := hpo.at hm
      have hF3 := G1.one
      have hF4 := G2.one
      have hgo : ∀ {o' h'}, HS h [ow o' (B ++ enb2 s st i (s.procs[i].edges[m], m))] h' → J1 [none, none, some (.agg #[v1, v2]), some (.agg #[t1, t2]), none, some o', some (.int .i64 i), none, none, none, none, none, none, none, some v2, some (.int .i64 s.procs.length), some (.int .i64 i), some we, some (.int .i64 s.procs[i].edges.length), some (.int .i64 ((m + 1 : Nat) : Int)), none, none, none, none, none, none] h' :=
        fun {o' h'} H => hJ1 _ _ hm ⟨o', by simp, by rw [hstep]; exact H⟩
      simp -implicitDefEqProofs (disch := first | omega | (simp only [List.length_set, List.length_replicate, List.length_append, List.length_map, List.length_take, List.length_cons, List.length_nil]; omega)) [wrap64, R3.X (n := 10) rfl, hu2, Ed.cs, setC, hF3, hF4]
      refine (c_ready hs ht (R0.on H) (Rt0.on H) hi hm).go ?_
      rintro _ h2 ⟨rfl, rfl⟩
      by_cases a1 : s.procs[i].edges[m].rdy st i = true
      case neg =>
        simp -implicitDefEqProofs (disch := first | omega | (simp only [List.length_set, List.length_replicate, List.length_append, List.length_map, List.length_take, List.length_cons, List.length_nil]; omega)) [wrap64, a1]
        exact hgo (by rw [enb2, if_pos (.inr (by simpa using a1))]; simpa using H)
      by_cases a2 : s.procs[i].edges[m].sync < 0
      · simp -implicitDefEqProofs (disch := first | omega | (simp only [List.length_set, List.length_replicate, List.length_append, List.length_map, List.length_take, List.length_cons, List.length_nil]; omega)) [wrap64, a1, a2]
        exact hgo (by rw [enb2, if_pos (.inl a2)]; simpa using H)
      by_cases a3 : s.procs[i].edges[m].sync = 0
      · simp -implicitDefEqProofs (disch := first | omega | (simp only [List.length_set, List.length_replicate, List.length_append, List.length_map, List.length_take, List.length_cons, List.length_nil]; omega)) [wrap64, a1, a2, a3, setC]
        refine H.app1 (bytes := 32) (⟨i, m, -1, -1⟩ : Stp) rfl rfl rfl (Stp.ok_iff.2 ⟨by dsimp only; omega, by dsimp only; omega, by dsimp only; omega, by dsimp only; omega⟩) rfl rfl (by omega) (by omega) fun o' h3 H => ?_
        simp -implicitDefEqProofs (disch := first | omega | (simp only [List.length_set, List.length_replicate, List.length_append, List.length_map, List.length_take, List.length_cons, List.length_nil]; omega)) [wrap64]
        refine hgo ?_
        rw [enb2, if_neg (by simp [a2, a1]), if_pos a3]; exact H
      simp -implicitDefEqProofs (disch := first | omega | (simp only [List.length_set, List.length_replicate, List.length_append, List.length_map, List.length_take, List.length_cons, List.length_nil]; omega)) [wrap64, a1, a2, a3, R2'.len]
      have hen : enb2 s st i (s.procs[i].edges[m], m) = prt s st i m s.procs[i].edges[m].sync := by rw [enb2, if_neg (by simp [a2, a1]), if_neg a3]
      rw [hen] at hgo
      obtain ⟨c, hc⟩ : ∃ c, c = s.procs[i].edges[m].sync := ⟨_, rfl⟩
      rw [← hc] at hgo
      have hs0 := heo.s0
      have hs1 := heo.s1
      refine wp_count s.procs.length (fun j e h' => ∃ o, e = [none, none, some (.agg #[v1, v2]), some (.agg #[t1, t2]), none, some o, some (.int .i64 i), none, some (.int .i64 m), some (.agg (s.procs[i].edges[m].cs w1 w2).toArray), none, none, none, none, some v2, some (.int .i64 s.procs.length), some (.int .i64 i), some we, some (.int .i64 s.procs[i].edges.length), some (.int .i64 m), some v2, some (.int .i64 s.procs.length), some (.int .i64 j), none, none, none] ∧ HS h [ow o (B ++ (s.procs.zipIdx.take j).flatMap (prt1 st i m c))] h') ⟨o, by simp [Ed.cs], by simpa using H⟩ ?_
      clear H
      rintro J2 j _ h3 hJ2 hj ⟨o, rfl, H⟩
      simp -implicitDefEqProofs (disch := first | omega | (simp only [List.length_set, List.length_replicate, List.length_append, List.length_map, List.length_take, List.length_cons, List.length_nil]; omega)) [wrap64]
      refine IteW.mk (fun hlt2 => ?_) (fun hge2 => ?_)
      · have hj : j < s.procs.length := by omega
        obtain ⟨D, hD⟩ : ∃ D, D = B ++ (s.procs.zipIdx.take j).flatMap (prt1 st i m c) := ⟨_, rfl⟩
        have hDl : D.length ≤ 450 := by
          rw [hD, List.length_append]
          have := prt_len (st := st) (i := i) (k := m) (c := c) (n := j) hs
          omega
        rw [← hD] at H
        obtain ⟨u, hu, Ru⟩ := R2'.ld hj
        have hu2 := hload_le H.base hu
        change hload _ (some (elp 2 v2 j)) (some 2) = some u at hu2
        obtain ⟨wf, rfl, k2, R4⟩ := Rep_Pr.1 Ru
        have hpj := hs.at hj
        have hej := hpj.el
        have hF5 := R4.cells
        have hF6 := R4.one
        simp -implicitDefEqProofs (disch := first | omega | (simp only [List.length_set, List.length_replicate, List.length_append, List.length_map, List.length_take, List.length_cons, List.length_nil]; omega)) [wrap64, R2'.X (n := 2) rfl, hu2, hF5, hF6, setC, R4.len]
        refine wp_count s.procs[j].edges.length (fun n e h' => ∃ o, e = [none, none, some (.agg #[v1, v2]), some (.agg #[t1, t2]), none, some o, some (.int .i64 i), none, some (.int .i64 m), some (.agg (s.procs[i].edges[m].cs w1 w2).toArray), some (.int .i64 j), none, none, none, some v2, some (.int .i64 s.procs.length), some (.int .i64 i), some we, some (.int .i64 s.procs[i].edges.length), some (.int .i64 m), some v2, some (.int .i64 s.procs.length), some (.int .i64 j), some wf, some (.int .i64 s.procs[j].edges.length), some (.int .i64 n)] ∧ HS h [ow o (D ++ (s.procs[j].edges.zipIdx.take n).flatMap (prt2 st i m c j))] h') ⟨o, by simp, by simpa using H⟩ ?_
        clear H
        rintro J3 n _ h4 hJ3 hn ⟨o, rfl, H⟩
        simp -implicitDefEqProofs (disch := first | omega | (simp only [List.length_set, List.length_replicate, List.length_append, List.length_map, List.length_take, List.length_cons, List.length_nil]; omega)) [wrap64]
        refine IteW.mk (fun hlt3 => ?_) (fun hge3 => ?_)
        · have hn : n < s.procs[j].edges.length := by omega
          obtain ⟨E, hE⟩ : ∃ E, E = D ++ (s.procs[j].edges.zipIdx.take n).flatMap (prt2 st i m c j) := ⟨_, rfl⟩
          have hEl : E.length ≤ 456 := by
            rw [hE, List.length_append]
            have := prt1_len (st := st) (i := i) (k := m) (c := c) (j := j) (n := n) hpj
            omega
          have hstep2 : D ++ (s.procs[j].edges.zipIdx.take (n + 1)).flatMap (prt2 st i m c j) = E ++ prt2 st i m c j (s.procs[j].edges[n], n) := by rw [fm_tk hn, ← List.append_assoc, ← hE]
          rw [← hE] at H
          obtain ⟨u, hu, Ru⟩ := R4.ld hn
          have hu2 := hload_le H.base hu
          change hload _ (some (elp 10 wf n)) (some 10) = some u at hu2
          obtain ⟨x1, x2, rfl, okf, X1, X2⟩ := Rep_Ed.1 Ru
          have hF7 := X1.one
          have hF8 := X2.one
          have hgo2 : ∀ {o' h'}, HS h [ow o' (E ++ prt2 st i m c j (s.procs[j].edges[n], n))] h' → J3 [none, none, some (.agg #[v1, v2]), some (.agg #[t1, t2]), none, some o', some (.int .i64 i), none, some (.int .i64 m), some (.agg (s.procs[i].edges[m].cs w1 w2).toArray), some (.int .i64 j), none, none, none, some v2, some (.int .i64 s.procs.length), some (.int .i64 i), some we, some (.int .i64 s.procs[i].edges.length), some (.int .i64 m), some v2, some (.int .i64 s.procs.length), some (.int .i64 j), some wf, some (.int .i64 s.procs[j].edges.length), some (.int .i64 ((n + 1 : Nat) : Int))] h' :=
            fun {o' h'} H => hJ3 _ _ hn ⟨o', by simp, by rw [hstep2]; exact H⟩
          simp only [Ed.cs] at hgo2
          by_cases b1 : j = i
          · simp -implicitDefEqProofs (disch := first | omega | (simp only [List.length_set, List.length_replicate, List.length_append, List.length_map, List.length_take, List.length_cons, List.length_nil]; omega)) [wrap64, R4.X (n := 10) rfl, hu2, Ed.cs, setC, hF7, hF8, b1]
            subst b1
            exact hgo2 (by rw [prt2, if_neg (fun hh => hh.1 rfl)]; simpa using H)
          have b1' : ¬ ((j : Int) = i) := by omega
          by_cases b2 : s.procs[j].edges[n].sync = -c
          case neg =>
            have b2' := b2
            rw [hc] at b2'
            simp -implicitDefEqProofs (disch := first | omega | (simp only [List.length_set, List.length_replicate, List.length_append, List.length_map, List.length_take, List.length_cons, List.length_nil]; omega)) [wrap64, R4.X (n := 10) rfl, hu2, Ed.cs, setC, hF7, hF8, b1, b1', b2']
            exact hgo2 (by rw [prt2, if_neg (fun hh => b2 hh.2.1)]; simpa using H)
          have b2' := b2
          rw [hc] at b2'
          simp -implicitDefEqProofs (disch := first | omega | (simp only [List.length_set, List.length_replicate, List.length_append, List.length_map, List.length_take, List.length_cons, List.length_nil]; omega)) [wrap64, R4.X (n := 10) rfl, hu2, Ed.cs, setC, hF7, hF8, b1, b1', b2']
          refine (c_ready hs ht (R0.on H) (Rt0.on H) hj hn).go ?_
          rintro _ h4 ⟨rfl, rfl⟩
          by_cases b3 : s.procs[j].edges[n].rdy st j = true
          case neg =>
            simp -implicitDefEqProofs (disch := first | omega | (simp only [List.length_set, List.length_replicate, List.length_append, List.length_map, List.length_take, List.length_cons, List.length_nil]; omega)) [wrap64, b3]
            exact hgo2 (by rw [prt2, if_neg (fun hh => b3 hh.2.2)]; simpa using H)
          simp -implicitDefEqProofs (disch := first | omega | (simp only [List.length_set, List.length_replicate, List.length_append, List.length_map, List.length_take, List.length_cons, List.length_nil]; omega)) [wrap64, b3, setC]
          refine H.app1 (bytes := 32) (⟨i, m, j, n⟩ : Stp) rfl rfl rfl (Stp.ok_iff.2 ⟨by dsimp only; omega, by dsimp only; omega, by dsimp only; omega, by dsimp only; omega⟩) rfl rfl (by omega) (by omega) fun o' h5 H => ?_
          simp -implicitDefEqProofs (disch := first | omega | (simp only [List.length_set, List.length_replicate, List.length_append, List.length_map, List.length_take, List.length_cons, List.length_nil]; omega)) [wrap64]
          refine hgo2 ?_
          rw [prt2, if_pos ⟨b1, b2, b3⟩]; exact H
        simp -implicitDefEqProofs (disch := first | omega | (simp only [List.length_set, List.length_replicate, List.length_append, List.length_map, List.length_take, List.length_cons, List.length_nil]; omega)) [wrap64]
        rw [fm_all (by omega)] at H
        exact hJ2 _ _ hj ⟨o, by simp, by rw [fm_tk hj, ← List.append_assoc, ← hD]; exact H⟩
      simp -implicitDefEqProofs (disch := first | omega | (simp only [List.length_set, List.length_replicate, List.length_append, List.length_map, List.length_take, List.length_cons, List.length_nil]; omega)) [wrap64]
      rw [fm_all (by omega)] at H
      exact hgo H
    simp -implicitDefEqProofs (disch := first | omega | (simp only [List.length_set, List.length_replicate, List.length_append, List.length_map, List.length_take, List.length_cons, List.length_nil]; omega)) [wrap64]
    rw [fm_all (by omega)] at H
    exact hJ0 _ _ hi ⟨o, by simp, by rw [fm_tk hi, ← hA]; exact H⟩
  simp -implicitDefEqProofs (disch := first | omega | (simp only [List.length_set, List.length_replicate, List.length_append, List.length_map, List.length_take, List.length_cons, List.length_nil]; omega)) [wrap64]
  rw [fm_all (by omega)] at H
  refine (c_Clip_impl_Step H).go ?_
  intro o' h2 H
  simp -implicitDefEqProofs (disch := first | omega | (simp only [List.length_set, List.length_replicate, List.length_append, List.length_map, List.length_take, List.length_cons, List.length_nil]; omega)) [wrap64]
  exact RetK.keep (hk _ _ H)
end Go.Proofs.Ytonjglbachhdcaa

/-
  Steps by the reference; the state after a step, by the program and by the reference.
-/
namespace Go.Proofs.Ytonjglbachhdcaa
open Go
set_option linter.all false
set_option linter.unusedVariables false
set_option linter.unusedSimpArgs false
set_option linter.defProp false
set_option maxRecDepth 1000000

theorem c_l3Partners {h : Heap} {v w : Value} {s : Sy} {st : Sta} (hs : s.Ok) (ht : st.Ok s) (R : Rep h v s) (Rt : Rep h w st) {i m : Nat} (hi : i < s.procs.length) (hm : m < s.procs[i].edges.length) :
    CallE Try.prog fn_spec_l3Partners [v, w, .int .i64 i, .int .i64 m] h (fun u h' => HS h [ow u (prt s st i m s.procs[i].edges[m].sync)] h') := by
  have R0 := R
  have Rt0 := Rt
  obtain ⟨v1, v2, rfl, R1, R2'⟩ := Rep_Sy.1 R
  obtain ⟨t1, t2, rfl, T1, T2⟩ := Rep_Sta.1 Rt
  have hp3 := hs.p3
  have heo := (hs.at hi).at hm
  have hs0 := heo.s0
  have hs1 := heo.s1
  obtain ⟨we, w1, w2, hu, R3, hu2, ok, G1, G2⟩ := R2'.edge hi hm
  obtain ⟨c, hc⟩ : ∃ c, c = s.procs[i].edges[m].sync := ⟨_, rfl⟩
  refine CallE.gen fun k hk => EN_spec_l3Partners rfl ?_
  rw [← hc] at hk hs0 hs1
  simp -implicitDefEqProofs (disch := first | omega | (simp only [List.length_set, List.length_replicate, List.length_append, List.length_map, List.length_take, List.length_cons, List.length_nil]; omega)) [wrap64]
  refine HS.init.bls0 Stp fun o h1 H => ?_
  have hP := hld_parts (hload_le H.base hu)
  have hQ := hld_parts (hload_le H.base hu2)
  simp -implicitDefEqProofs (disch := first | omega | (simp only [List.length_set, List.length_replicate, List.length_append, List.length_map, List.length_take, List.length_cons, List.length_nil]; omega)) [wrap64, R2'.X (n := 2) rfl, hP.1, hP.2.2.1, R3.X (n := 10) rfl, hQ.1, hQ.2.2.1, Ed.cs]
  refine wp_count s.procs.length (fun j e h' => ∃ o, e = [none, none, some (.int .i64 i), some (.int .i64 m), some (.agg #[v1, v2]), some (.agg #[t1, t2]), none, some o, some (.int .i64 c), some (.int .i64 j), none] ∧ HS h [ow o ((s.procs.zipIdx.take j).flatMap (prt1 st i m c))] h') ⟨o, by simp [hc], by simpa using H⟩ ?_
  clear H hP hQ
  rintro J2 j _ h3 hJ2 hj ⟨o, rfl, H⟩
  simp -implicitDefEqProofs (disch := first | omega | (simp only [List.length_set, List.length_replicate, List.length_append, List.length_map, List.length_take, List.length_cons, List.length_nil]; omega)) [wrap64, R2'.len]
  refine IteW.mk (fun hlt2 => ?_) (fun hge2 => ?_)
  · have hj : j < s.procs.length := by omega
    obtain ⟨D, hD⟩ : ∃ D, D = (s.procs.zipIdx.take j).flatMap (prt1 st i m c) := ⟨_, rfl⟩
    have hDl : D.length ≤ 18 := by rw [hD]; exact prt_len hs
    rw [← hD] at H
    obtain ⟨u, hu, Ru⟩ := R2'.ld hj
    change hload _ (some (elp 2 v2 j)) (some 2) = some u at hu
    obtain ⟨wf, rfl, k2, R4⟩ := Rep_Pr.1 Ru
    have hpj := hs.at hj
    have hej := hpj.el
    have hP : ∀ {h'}, h.le h' → _ := fun {h'} (hl : h.le h') => hld_parts (hload_le hl hu)
    simp -implicitDefEqProofs (disch := first | omega | (simp only [List.length_set, List.length_replicate, List.length_append, List.length_map, List.length_take, List.length_cons, List.length_nil]; omega)) [wrap64]
    refine wp_count s.procs[j].edges.length (fun n e h' => ∃ o, e = [none, none, some (.int .i64 i), some (.int .i64 m), some (.agg #[v1, v2]), some (.agg #[t1, t2]), none, some o, some (.int .i64 c), some (.int .i64 j), some (.int .i64 n)] ∧ HS h [ow o (D ++ (s.procs[j].edges.zipIdx.take n).flatMap (prt2 st i m c j))] h') ⟨o, by simp, by simpa using H⟩ ?_
    clear H
    rintro J3 n _ h4 hJ3 hn ⟨o, rfl, H⟩
    have hP1 := (hP H.base).1
    have hP2 := (hP H.base).2.2.1
    simp -implicitDefEqProofs (disch := first | omega | (simp only [List.length_set, List.length_replicate, List.length_append, List.length_map, List.length_take, List.length_cons, List.length_nil]; omega)) [wrap64, R2'.X (n := 2) rfl, hP1, hP2, R4.len]
    refine IteW.mk (fun hlt3 => ?_) (fun hge3 => ?_)
    · have hn : n < s.procs[j].edges.length := by omega
      obtain ⟨E, hE⟩ : ∃ E, E = D ++ (s.procs[j].edges.zipIdx.take n).flatMap (prt2 st i m c j) := ⟨_, rfl⟩
      have hEl : E.length ≤ 24 := by
        rw [hE, List.length_append]
        have := prt1_len (st := st) (i := i) (k := m) (c := c) (j := j) (n := n) hpj
        omega
      have hstep2 : D ++ (s.procs[j].edges.zipIdx.take (n + 1)).flatMap (prt2 st i m c j) = E ++ prt2 st i m c j (s.procs[j].edges[n], n) := by rw [fm_tk hn, ← List.append_assoc, ← hE]
      rw [← hE] at H
      obtain ⟨u, hu, Ru⟩ := R4.ld hn
      have hu2 := hload_le H.base hu
      change hload _ (some (elp 10 wf n)) (some 10) = some u at hu2
      obtain ⟨x1, x2, rfl, okf, X1, X2⟩ := Rep_Ed.1 Ru
      have hQ := hld_parts hu2
      have hgo2 : ∀ {o' h'}, HS h [ow o' (E ++ prt2 st i m c j (s.procs[j].edges[n], n))] h' → J3 [none, none, some (.int .i64 i), some (.int .i64 m), some (.agg #[v1, v2]), some (.agg #[t1, t2]), none, some o', some (.int .i64 c), some (.int .i64 j), some (.int .i64 ((n + 1 : Nat) : Int))] h' :=
        fun {o' h'} H => hJ3 _ _ hn ⟨o', by simp, by rw [hstep2]; exact H⟩
      by_cases b1 : j = i
      · simp -implicitDefEqProofs (disch := first | omega | (simp only [List.length_set, List.length_replicate, List.length_append, List.length_map, List.length_take, List.length_cons, List.length_nil]; omega)) [wrap64, b1]
        subst b1
        exact hgo2 (by rw [prt2, if_neg (fun hh => hh.1 rfl)]; simpa using H)
      have b1' : ¬ ((j : Int) = i) := by omega
      by_cases b2 : s.procs[j].edges[n].sync = -c
      case neg =>
        simp -implicitDefEqProofs (disch := first | omega | (simp only [List.length_set, List.length_replicate, List.length_append, List.length_map, List.length_take, List.length_cons, List.length_nil]; omega)) [wrap64, R2'.X (n := 2) rfl, hP1, hP2, R4.X (n := 10) rfl, hQ.1, hQ.2.2.1, Ed.cs, b1, b1', b2]
        exact hgo2 (by rw [prt2, if_neg (fun hh => b2 hh.2.1)]; simpa using H)
      simp -implicitDefEqProofs (disch := first | omega | (simp only [List.length_set, List.length_replicate, List.length_append, List.length_map, List.length_take, List.length_cons, List.length_nil]; omega)) [wrap64, R2'.X (n := 2) rfl, hP1, hP2, R4.X (n := 10) rfl, hQ.1, hQ.2.2.1, Ed.cs, b1, b1', b2]
      refine (c_l3Ready hs ht (R0.on H) (Rt0.on H) hj hn).go ?_
      rintro _ h4 ⟨rfl, rfl⟩
      by_cases b3 : s.procs[j].edges[n].rdy st j = true
      case neg =>
        simp -implicitDefEqProofs (disch := first | omega | (simp only [List.length_set, List.length_replicate, List.length_append, List.length_map, List.length_take, List.length_cons, List.length_nil]; omega)) [wrap64, b3]
        exact hgo2 (by rw [prt2, if_neg (fun hh => b3 hh.2.2)]; simpa using H)
      have hel := (hs.at hi).el
      simp -implicitDefEqProofs (disch := first | omega | (simp only [List.length_set, List.length_replicate, List.length_append, List.length_map, List.length_take, List.length_cons, List.length_nil]; omega)) [wrap64, b3, setC]
      refine H.app1 (bytes := 32) (⟨i, m, j, n⟩ : Stp) rfl rfl rfl (Stp.ok_iff.2 ⟨by dsimp only; omega, by dsimp only; omega, by dsimp only; omega, by dsimp only; omega⟩) rfl rfl (by omega) (by omega) fun o' h5 H => ?_
      simp -implicitDefEqProofs (disch := first | omega | (simp only [List.length_set, List.length_replicate, List.length_append, List.length_map, List.length_take, List.length_cons, List.length_nil]; omega)) [wrap64]
      refine hgo2 ?_
      rw [prt2, if_pos ⟨b1, b2, b3⟩]; exact H
    simp -implicitDefEqProofs (disch := first | omega | (simp only [List.length_set, List.length_replicate, List.length_append, List.length_map, List.length_take, List.length_cons, List.length_nil]; omega)) [wrap64]
    rw [fm_all (by omega)] at H
    exact hJ2 _ _ hj ⟨o, by simp, by rw [fm_tk hj, ← hD]; exact H⟩
  simp -implicitDefEqProofs (disch := first | omega | (simp only [List.length_set, List.length_replicate, List.length_append, List.length_map, List.length_take, List.length_cons, List.length_nil]; omega)) [wrap64]
  rw [fm_all (by omega)] at H
  exact RetK.keep (hk _ _ H)

theorem c_l3Steps {h : Heap} {v w : Value} {s : Sy} {st : Sta} (hs : s.Ok) (ht : st.Ok s) (R : Rep h v s) (Rt : Rep h w st) : CallE Try.prog fn_spec_l3Steps [v, w] h (fun u h' => HS h [ow u (enb s st)] h') := by
  have FS := R.aSy
  have FT := Rt.aSta
  have R0 := R
  have Rt0 := Rt
  obtain ⟨v1, v2, rfl, R1, R2'⟩ := Rep_Sy.1 R
  obtain ⟨t1, t2, rfl, T1, T2⟩ := Rep_Sta.1 Rt
  have hp3 := hs.p3
  refine CallE.gen fun k hk => EN_spec_l3Steps rfl ?_
  simp -implicitDefEqProofs (disch := first | omega | (simp only [List.length_set, List.length_replicate, List.length_append, List.length_map, List.length_take, List.length_cons, List.length_nil]; omega)) [wrap64]
  refine HS.init.bls0 Stp fun o h1 H => ?_
  simp -implicitDefEqProofs (disch := first | omega | (simp only [List.length_set, List.length_replicate, List.length_append, List.length_map, List.length_take, List.length_cons, List.length_nil]; omega)) [wrap64]
  refine wp_count s.procs.length (fun i e h' => ∃ o, e = [none, none, some (.agg #[v1, v2]), some (.agg #[t1, t2]), none, some o, some (.int .i64 i), none, none] ∧ HS h [ow o ((s.procs.zipIdx.take i).flatMap (enb1 s st))] h') ⟨o, by simp, by simpa using H⟩ ?_
  clear H
  rintro J0 i _ h1 hJ0 hi ⟨o, rfl, H⟩
  simp -implicitDefEqProofs (disch := first | omega | (simp only [List.length_set, List.length_replicate, List.length_append, List.length_map, List.length_take, List.length_cons, List.length_nil]; omega)) [wrap64, R2'.len]
  refine IteW.mk (fun hlt => ?_) (fun hge => ?_)
  · have hi : i < s.procs.length := by omega
    obtain ⟨A, hA⟩ : ∃ A, A = (s.procs.zipIdx.take i).flatMap (enb1 s st) := ⟨_, rfl⟩
    have hAl : A.length ≤ 324 := by rw [hA]; exact enb_len hs
    obtain ⟨u, hu, Ru⟩ := R2'.ld hi
    change hload _ (some (elp 2 v2 i)) (some 2) = some u at hu
    obtain ⟨we, rfl, k1, R3⟩ := Rep_Pr.1 Ru
    have hpo := hs.at hi
    have hel := hpo.el
    have hP : ∀ {h'}, h.le h' → _ := fun {h'} (hl : h.le h') => hld_parts (hload_le hl hu)
    rw [← hA] at H
    simp -implicitDefEqProofs (disch := first | omega | (simp only [List.length_set, List.length_replicate, List.length_append, List.length_map, List.length_take, List.length_cons, List.length_nil]; omega)) [wrap64]
    refine wp_count s.procs[i].edges.length (fun m e h' => ∃ o, e = [none, none, some (.agg #[v1, v2]), some (.agg #[t1, t2]), none, some o, some (.int .i64 i), some (.int .i64 m), none] ∧ HS h [ow o (A ++ (s.procs[i].edges.zipIdx.take m).flatMap (enb2 s st i))] h') ⟨o, by simp, by simpa using H⟩ ?_
    clear H
    rintro J1 m _ h2 hJ1 hm ⟨o, rfl, H⟩
    have hP1 := (hP H.base).1
    have hP2 := (hP H.base).2.2.1
    simp -implicitDefEqProofs (disch := first | omega | (simp only [List.length_set, List.length_replicate, List.length_append, List.length_map, List.length_take, List.length_cons, List.length_nil]; omega)) [wrap64, R2'.X (n := 2) rfl, hP1, hP2, R3.len]
    refine IteW.mk (fun hlt1 => ?_) (fun hge1 => ?_)
    · have hm : m < s.procs[i].edges.length := by omega
      obtain ⟨B, hB⟩ : ∃ B, B = A ++ (s.procs[i].edges.zipIdx.take m).flatMap (enb2 s st i) := ⟨_, rfl⟩
      have hBl : B.length ≤ 432 := by
        rw [hB, List.length_append]
        have := enb1_len (st := st) (i := i) (n := m) hs hpo
        omega
      have hstep : A ++ (s.procs[i].edges.zipIdx.take (m + 1)).flatMap (enb2 s st i) = B ++ enb2 s st i (s.procs[i].edges[m], m) := by rw [fm_tk hm, ← List.append_assoc, ← hB]
      rw [← hB] at H
      obtain ⟨u, hu, Ru⟩ := R3.ld hm
      have hu2 := hload_le H.base hu
      change hload _ (some (elp 10 we m)) (some 10) = some u at hu2
      obtain ⟨w1, w2, rfl, ok, G1, G2⟩ := Rep_Ed.1 Ru
      have heo := hpo.at hm
      have hQ := hld_parts hu2
      have hgo : ∀ {o' h'}, HS h [ow o' (B ++ enb2 s st i (s.procs[i].edges[m], m))] h' → J1 [none, none, some (.agg #[v1, v2]), some (.agg #[t1, t2]), none, some o', some (.int .i64 i), some (.int .i64 ((m + 1 : Nat) : Int)), none] h' :=
        fun {o' h'} H => hJ1 _ _ hm ⟨o', by simp, by rw [hstep]; exact H⟩
      by_cases a2 : s.procs[i].edges[m].sync < 0
      · simp -implicitDefEqProofs (disch := first | omega | (simp only [List.length_set, List.length_replicate, List.length_append, List.length_map, List.length_take, List.length_cons, List.length_nil]; omega)) [wrap64, R2'.X (n := 2) rfl, hP1, hP2, R3.X (n := 10) rfl, hQ.1, hQ.2.2.1, Ed.cs, a2]
        exact hgo (by rw [enb2, if_pos (.inl a2)]; simpa using H)
      simp -implicitDefEqProofs (disch := first | omega | (simp only [List.length_set, List.length_replicate, List.length_append, List.length_map, List.length_take, List.length_cons, List.length_nil]; omega)) [wrap64, R2'.X (n := 2) rfl, hP1, hP2, R3.X (n := 10) rfl, hQ.1, hQ.2.2.1, Ed.cs, a2]
      refine (c_l3Ready hs ht (R0.on H) (Rt0.on H) hi hm).go ?_
      rintro _ h2 ⟨rfl, rfl⟩
      by_cases a1 : s.procs[i].edges[m].rdy st i = true
      case neg =>
        simp -implicitDefEqProofs (disch := first | omega | (simp only [List.length_set, List.length_replicate, List.length_append, List.length_map, List.length_take, List.length_cons, List.length_nil]; omega)) [wrap64, a1]
        exact hgo (by rw [enb2, if_pos (.inr (by simpa using a1))]; simpa using H)
      by_cases a3 : s.procs[i].edges[m].sync = 0
      · simp -implicitDefEqProofs (disch := first | omega | (simp only [List.length_set, List.length_replicate, List.length_append, List.length_map, List.length_take, List.length_cons, List.length_nil]; omega)) [wrap64, a1, a2, a3, setC]
        refine H.app1 (bytes := 32) (⟨i, m, -1, -1⟩ : Stp) rfl rfl rfl (Stp.ok_iff.2 ⟨by dsimp only; omega, by dsimp only; omega, by dsimp only; omega, by dsimp only; omega⟩) rfl rfl (by omega) (by omega) fun o' h3 H => ?_
        simp -implicitDefEqProofs (disch := first | omega | (simp only [List.length_set, List.length_replicate, List.length_append, List.length_map, List.length_take, List.length_cons, List.length_nil]; omega)) [wrap64]
        refine hgo ?_
        rw [enb2, if_neg (by simp [a2, a1]), if_pos a3]; exact H
      have hen : enb2 s st i (s.procs[i].edges[m], m) = prt s st i m s.procs[i].edges[m].sync := by rw [enb2, if_neg (by simp [a2, a1]), if_neg a3]
      have hpl := prt_len' (st := st) (i := i) (k := m) (c := s.procs[i].edges[m].sync) hs
      rw [hen] at hgo
      simp -implicitDefEqProofs (disch := first | omega | (simp only [List.length_set, List.length_replicate, List.length_append, List.length_map, List.length_take, List.length_cons, List.length_nil]; omega)) [wrap64, a1, a2, a3]
      refine (c_l3Partners hs ht (R0.on H) (Rt0.on H) hi hm).go ?_
      intro p h3 G
      have H := G.app H
      simp -implicitDefEqProofs (disch := first | omega | (simp only [List.length_set, List.length_replicate, List.length_append, List.length_map, List.length_take, List.length_cons, List.length_nil]; omega)) [wrap64]
      refine HS.appL (u := p) (l2 := prt s st i m s.procs[i].edges[m].sync) H.sw1 rfl rfl H.rep rfl rfl (by omega) (by omega) fun o' h4 H => ?_
      simp -implicitDefEqProofs (disch := first | omega | (simp only [List.length_set, List.length_replicate, List.length_append, List.length_map, List.length_take, List.length_cons, List.length_nil]; omega)) [wrap64]
      exact hgo H.only
    simp -implicitDefEqProofs (disch := first | omega | (simp only [List.length_set, List.length_replicate, List.length_append, List.length_map, List.length_take, List.length_cons, List.length_nil]; omega)) [wrap64]
    rw [fm_all (by omega)] at H
    exact hJ0 _ _ hi ⟨o, by simp, by rw [fm_tk hi, ← hA]; exact H⟩
  simp -implicitDefEqProofs (disch := first | omega | (simp only [List.length_set, List.length_replicate, List.length_append, List.length_map, List.length_take, List.length_cons, List.length_nil]; omega)) [wrap64]
  rw [fm_all (by omega)] at H
  exact RetK.keep (hk _ _ H)

theorem c_take {g h : Heap} {Γ : List HP} {t1 t2 v : Value} {s : Sy} {st : Sta} {e : Ed} {i : Nat} (hi : i < s.procs.length) (ht : st.Ok s) (he : e.Ok s.procs[i].locs) (R : Rep g v e) (H : HS g (ow t1 st.locs :: ow t2 st.vals :: Γ) h) :
    CallE Try.prog fn_impl_State_take [.agg #[t1, t2], .int .i64 i, v] h (fun _ h' => HS g (ow t1 (st.tk i e).locs :: ow t2 (st.tk i e).vals :: Γ) h') := by
  obtain ⟨w1, w2, rfl, ok, G1, G2⟩ := Rep_Ed.1 R
  have hil : i < st.locs.length := by rw [ht.len]; exact hi
  have hvl := ht.vs.len
  refine CallE.gen fun k hk => EN_impl_State_take rfl ?_
  simp -implicitDefEqProofs (disch := first | omega | (simp only [List.length_set, List.length_replicate, List.length_append, List.length_map, List.length_take, List.length_cons, List.length_nil]; omega)) [wrap64, Ed.cs, H.rep.I]
  refine H.storeF e.to (i := i) hil rfl rfl ok.to rfl fun h1 H => ?_
  by_cases a1 : 0 ≤ e.var
  case neg =>
    simp -implicitDefEqProofs (disch := first | omega | (simp only [List.length_set, List.length_replicate, List.length_append, List.length_map, List.length_take, List.length_cons, List.length_nil]; omega)) [wrap64, a1]
    exact RetK.keep (hk _ _ (by simp only [Sta.tk]; rw [if_neg a1]; exact H))
  have hvo : e.value.Ok := he.vl.elim (fun hh => hh.2) (fun hh => absurd hh.1 (by omega))
  have hv1 := he.v1
  obtain ⟨q, hq⟩ : ∃ q : Nat, e.var = q := ⟨_, (Int.toNat_of_nonneg a1).symm⟩
  have hb := Exq.ev_bnd ht.vs hvo.1
  simp -implicitDefEqProofs (disch := first | omega | (simp only [List.length_set, List.length_replicate, List.length_append, List.length_map, List.length_take, List.length_cons, List.length_nil]; omega)) [wrap64, a1, hq]
  refine (c_eval _ ht.vs hvo.1 ((Rep.vl ok G2).on H) H.sw1.rep).go ?_
  rintro _ h1 ⟨rfl, rfl⟩
  simp -implicitDefEqProofs (disch := first | omega | (simp only [List.length_set, List.length_replicate, List.length_append, List.length_map, List.length_take, List.length_cons, List.length_nil]; omega)) [wrap64, H.sw1.rep.I]
  refine H.sw1.storeF (e.value.ev st.vals) (i := q) (by omega) rfl rfl ⟨by omega, by omega⟩ rfl fun h2 H => ?_
  simp -implicitDefEqProofs (disch := first | omega | (simp only [List.length_set, List.length_replicate, List.length_append, List.length_map, List.length_take, List.length_cons, List.length_nil]; omega)) [wrap64]
  exact RetK.keep (hk _ _ (by simp only [Sta.tk]; rw [if_pos a1, hq, Int.toNat_natCast]; exact H.sw1))
theorem c_l3Take {g h : Heap} {Γ : List HP} {t1 t2 v : Value} {s : Sy} {st : Sta} {e : Ed} {i : Nat} (hi : i < s.procs.length) (ht : st.Ok s) (he : e.Ok s.procs[i].locs) (R : Rep g v e) (H : HS g (ow t1 st.locs :: ow t2 st.vals :: Γ) h) :
    CallE Try.prog fn_spec_l3Take [.agg #[t1, t2], .int .i64 i, v] h (fun u h' => u = .agg #[t1, t2] ∧ HS g (ow t1 (st.tk i e).locs :: ow t2 (st.tk i e).vals :: Γ) h') := by
  obtain ⟨w1, w2, rfl, ok, G1, G2⟩ := Rep_Ed.1 R
  have hil : i < st.locs.length := by rw [ht.len]; exact hi
  have hvl := ht.vs.len
  have hO1 := H.rep.one
  have hO2 := H.sw1.rep.one
  refine CallE.gen fun k hk => EN_spec_l3Take rfl ?_
  simp -implicitDefEqProofs (disch := first | omega | (simp only [List.length_set, List.length_replicate, List.length_append, List.length_map, List.length_take, List.length_cons, List.length_nil]; omega)) [wrap64, Ed.cs, H.rep.I]
  refine H.storeF e.to (i := i) hil rfl rfl ok.to rfl fun h1 H => ?_
  by_cases a1 : 0 ≤ e.var
  case neg =>
    simp -implicitDefEqProofs (disch := first | omega | (simp only [List.length_set, List.length_replicate, List.length_append, List.length_map, List.length_take, List.length_cons, List.length_nil]; omega)) [wrap64, a1, setC, hO1, hO2]
    exact RetK.keep (hk _ _ ⟨rfl, by simp only [Sta.tk]; rw [if_neg a1]; exact H⟩)
  have hvo : e.value.Ok := he.vl.elim (fun hh => hh.2) (fun hh => absurd hh.1 (by omega))
  have hv1 := he.v1
  obtain ⟨q, hq⟩ : ∃ q : Nat, e.var = q := ⟨_, (Int.toNat_of_nonneg a1).symm⟩
  have hb := Exq.ev_bnd ht.vs hvo.1
  simp -implicitDefEqProofs (disch := first | omega | (simp only [List.length_set, List.length_replicate, List.length_append, List.length_map, List.length_take, List.length_cons, List.length_nil]; omega)) [wrap64, a1, hq]
  refine (c_l1Eval _ ht.vs hvo.1 ((Rep.vl ok G2).on H) H.sw1.rep).go ?_
  rintro _ h1 ⟨rfl, rfl⟩
  simp -implicitDefEqProofs (disch := first | omega | (simp only [List.length_set, List.length_replicate, List.length_append, List.length_map, List.length_take, List.length_cons, List.length_nil]; omega)) [wrap64, H.sw1.rep.I]
  refine H.sw1.storeF (e.value.ev st.vals) (i := q) (by omega) rfl rfl ⟨by omega, by omega⟩ rfl fun h2 H => ?_
  simp -implicitDefEqProofs (disch := first | omega | (simp only [List.length_set, List.length_replicate, List.length_append, List.length_map, List.length_take, List.length_cons, List.length_nil]; omega)) [wrap64, setC, hO1, hO2]
  exact RetK.keep (hk _ _ ⟨rfl, by simp only [Sta.tk]; rw [if_pos a1, hq, Int.toNat_natCast]; exact H.sw1⟩)

theorem c_after {h : Heap} {v w : Value} {s : Sy} {st : Sta} {t : Stp} (hs : s.Ok) (ht : st.Ok s) (hin : t.In s) (R : Rep h v s) (Rt : Rep h w st) : CallE Try.prog fn_impl_System_after [v, w, t.v] h (fun u h' => HS h [ow u (st.aft s t)] h') := by
  have FT := Rt.aSta
  obtain ⟨v1, v2, rfl, R1, R2'⟩ := Rep_Sy.1 R
  obtain ⟨⟨i, m, hi, hm, e1, e2⟩, hpt⟩ := hin
  have hp3 := hs.p3
  have hll := ht.len
  have hvl := ht.vs.len
  have hed : s.ed t.proc.toNat t.edge.toNat = s.procs[i].edges[m] := by rw [e1, e2, Int.toNat_natCast, Int.toNat_natCast, Sy.ed_eq hi hm]
  refine CallE.gen fun k hk => EN_impl_System_after rfl ?_
  simp -implicitDefEqProofs (disch := first | omega | (simp only [List.length_set, List.length_replicate, List.length_append, List.length_map, List.length_take, List.length_cons, List.length_nil]; omega)) [wrap64, FT]
  refine (c_State_copyOf Rt (by omega) (by omega)).go ?_
  intro o h1 HO
  obtain ⟨o1, o2, rfl, H⟩ := HO.unSta
  obtain ⟨we, w1, w2, hu, R3, hu2, ok, G1, G2⟩ := R2'.edge hi hm
  have hP := hld_parts (hload_le H.base hu)
  have hu3 := hload_le H.base hu2
  have hC1 := H.rep.one
  have hC2 := H.sw1.rep.one
  have heo := (hs.at hi).at hm
  have Re : Rep h (.agg (s.procs[i].edges[m].cs w1 w2).toArray) s.procs[i].edges[m] := Rep_Ed.2 ⟨w1, w2, rfl, ok, G1, G2⟩
  simp -implicitDefEqProofs (disch := first | omega | (simp only [List.length_set, List.length_replicate, List.length_append, List.length_map, List.length_take, List.length_cons, List.length_nil]; omega)) [wrap64, setC, hC1, hC2, Stp.v, e1, e2, R2'.X (n := 2) rfl, hP.1, hP.2.2.1, R3.X (n := 10) rfl, hu3]
  refine (c_take (s := s) hi ht heo Re H).go ?_
  intro _ h2 H
  have ht2 := Sta.tk_ok ht hi heo
  have hC1 := H.rep.one
  have hC2 := H.sw1.rep.one
  rcases hpt with hpt | ⟨j, n, hj, hn, e3, e4⟩
  · simp -implicitDefEqProofs (disch := first | omega | (simp only [List.length_set, List.length_replicate, List.length_append, List.length_map, List.length_take, List.length_cons, List.length_nil]; omega)) [wrap64, Stp.v, hpt, setC, hC1, hC2]
    refine RetK.keep (hk _ _ ?_)
    rw [Sta.aft, if_neg (by omega), hed, e1, Int.toNat_natCast]
    exact H.mkSta
  · have hed2 : s.ed t.partner.toNat t.pedge.toNat = s.procs[j].edges[n] := by rw [e3, e4, Int.toNat_natCast, Int.toNat_natCast, Sy.ed_eq hj hn]
    have heo2 := (hs.at hj).at hn
    obtain ⟨wf, x1, x2, hu, R3, hu2, ok, X1, X2⟩ := R2'.edge hj hn
    have hP := hld_parts (hload_le H.base hu)
    have hu3 := hload_le H.base hu2
    have Rf : Rep h (.agg (s.procs[j].edges[n].cs x1 x2).toArray) s.procs[j].edges[n] := Rep_Ed.2 ⟨x1, x2, rfl, ok, X1, X2⟩
    simp -implicitDefEqProofs (disch := first | omega | (simp only [List.length_set, List.length_replicate, List.length_append, List.length_map, List.length_take, List.length_cons, List.length_nil]; omega)) [wrap64, setC, hC1, hC2, Stp.v, e3, e4, R2'.X (n := 2) rfl, hP.1, hP.2.2.1, R3.X (n := 10) rfl, hu3]
    refine (c_take (s := s) hj ht2 heo2 Rf H).go ?_
    intro _ h3 H
    simp -implicitDefEqProofs (disch := first | omega | (simp only [List.length_set, List.length_replicate, List.length_append, List.length_map, List.length_take, List.length_cons, List.length_nil]; omega)) [wrap64, setC, hC1, hC2]
    refine RetK.keep (hk _ _ ?_)
    rw [Sta.aft, if_pos (by omega), hed, hed2, e1, e3, Int.toNat_natCast, Int.toNat_natCast]
    exact H.mkSta
theorem c_l3Apply {h : Heap} {v w : Value} {s : Sy} {st : Sta} {t : Stp} (hs : s.Ok) (ht : st.Ok s) (hin : t.In s) (R : Rep h v s) (Rt : Rep h w st) : CallE Try.prog fn_spec_l3Apply [v, w, t.v] h (fun u h' => HS h [ow u (st.aft s t)] h') := by
  have FT := Rt.aSta
  obtain ⟨v1, v2, rfl, R1, R2'⟩ := Rep_Sy.1 R
  obtain ⟨⟨i, m, hi, hm, e1, e2⟩, hpt⟩ := hin
  have hp3 := hs.p3
  have hll := ht.len
  have hvl := ht.vs.len
  have hed : s.ed t.proc.toNat t.edge.toNat = s.procs[i].edges[m] := by rw [e1, e2, Int.toNat_natCast, Int.toNat_natCast, Sy.ed_eq hi hm]
  refine CallE.gen fun k hk => EN_spec_l3Apply rfl ?_
  obtain ⟨t1, t2, rfl, T1, T2⟩ := Rep_Sta.1 Rt
  simp -implicitDefEqProofs (disch := first | omega | (simp only [List.length_set, List.length_replicate, List.length_append, List.length_map, List.length_take, List.length_cons, List.length_nil]; omega)) [wrap64]
  refine HS.appPL (α := Int) (l2 := st.locs) HS.init rfl rfl T1 rfl rfl (by omega) fun o1 h1 H => ?_
  simp -implicitDefEqProofs (disch := first | omega | (simp only [List.length_set, List.length_replicate, List.length_append, List.length_map, List.length_take, List.length_cons, List.length_nil]; omega)) [wrap64]
  refine HS.appPL (α := Int) (l2 := st.vals) H rfl rfl (T2.on H) rfl rfl (by omega) fun o2 h1 H => ?_
  replace H := H.sw1
  have hK1 := H.rep.cells
  have hK2 := H.sw1.rep.cells
  obtain ⟨we, w1, w2, hu, R3, hu2, ok, G1, G2⟩ := R2'.edge hi hm
  have hP := hld_parts (hload_le H.base hu)
  have hu3 := hload_le H.base hu2
  have hC1 := H.rep.one
  have hC2 := H.sw1.rep.one
  have heo := (hs.at hi).at hm
  have Re : Rep h (.agg (s.procs[i].edges[m].cs w1 w2).toArray) s.procs[i].edges[m] := Rep_Ed.2 ⟨w1, w2, rfl, ok, G1, G2⟩
  simp -implicitDefEqProofs (disch := first | omega | (simp only [List.length_set, List.length_replicate, List.length_append, List.length_map, List.length_take, List.length_cons, List.length_nil]; omega)) [wrap64, setC, hC1, hC2, hK1, hK2, Stp.v, e1, e2, R2'.X (n := 2) rfl, hP.1, hP.2.2.1, R3.X (n := 10) rfl, hu3]
  refine (c_l3Take (s := s) hi ht heo Re H).go ?_
  rintro _ h2 ⟨rfl, H⟩
  have ht2 := Sta.tk_ok ht hi heo
  have hC1 := H.rep.one
  have hC2 := H.sw1.rep.one
  rcases hpt with hpt | ⟨j, n, hj, hn, e3, e4⟩
  · simp -implicitDefEqProofs (disch := first | omega | (simp only [List.length_set, List.length_replicate, List.length_append, List.length_map, List.length_take, List.length_cons, List.length_nil]; omega)) [wrap64, Stp.v, hpt, setC, hC1, hC2]
    refine RetK.keep (hk _ _ ?_)
    rw [Sta.aft, if_neg (by omega), hed, e1, Int.toNat_natCast]
    exact H.mkSta
  · have hed2 : s.ed t.partner.toNat t.pedge.toNat = s.procs[j].edges[n] := by rw [e3, e4, Int.toNat_natCast, Int.toNat_natCast, Sy.ed_eq hj hn]
    have heo2 := (hs.at hj).at hn
    obtain ⟨wf, x1, x2, hu, R3, hu2, ok, X1, X2⟩ := R2'.edge hj hn
    have hP := hld_parts (hload_le H.base hu)
    have hu3 := hload_le H.base hu2
    have Rf : Rep h (.agg (s.procs[j].edges[n].cs x1 x2).toArray) s.procs[j].edges[n] := Rep_Ed.2 ⟨x1, x2, rfl, ok, X1, X2⟩
    simp -implicitDefEqProofs (disch := first | omega | (simp only [List.length_set, List.length_replicate, List.length_append, List.length_map, List.length_take, List.length_cons, List.length_nil]; omega)) [wrap64, setC, hC1, hC2, Stp.v, e3, e4, R2'.X (n := 2) rfl, hP.1, hP.2.2.1, R3.X (n := 10) rfl, hu3]
    refine (c_l3Take (s := s) hj ht2 heo2 Rf H).go ?_
    rintro _ h3 ⟨rfl, H⟩
    simp -implicitDefEqProofs (disch := first | omega | (simp only [List.length_set, List.length_replicate, List.length_append, List.length_map, List.length_take, List.length_cons, List.length_nil]; omega)) [wrap64, setC, hC1, hC2]
    refine RetK.keep (hk _ _ ?_)
    rw [Sta.aft, if_pos (by omega), hed, hed2, e1, e3, Int.toNat_natCast, Int.toNat_natCast]
    exact H.mkSta

end Go.Proofs.Ytonjglbachhdcaa

/-
  Graphs of systems in plain Lean: how they are built.
-/
namespace Go.Proofs.Ytonjglbachhdcaa
open Go
set_option linter.all false
set_option linter.unusedVariables false
set_option linter.unusedSimpArgs false
set_option linter.defProp false
set_option maxRecDepth 1000000

/-- where a state lies -/
def fx (xs : List Sta) (st : Sta) : Int := match xs.findIdx? (fun y => decide (y = st)) with | some i => (i : Int) | none => -1
theorem fx_mem {xs : List Sta} {st : Sta} (h : st ∈ xs) : ∃ (i : Nat) (hi : i < xs.length), fx xs st = i ∧ xs[i] = st := by
  obtain ⟨i, hi⟩ : ∃ i, xs.findIdx? (fun y => decide (y = st)) = some i := by
    rcases hf : xs.findIdx? (fun y => decide (y = st)) with _ | i
    · rw [List.findIdx?_eq_none_iff] at hf
      have := hf st h
      simp at this
    · exact ⟨i, rfl⟩
  have h2 := hi
  rw [List.findIdx?_eq_some_iff_getElem] at h2
  obtain ⟨h3, h4, _⟩ := h2
  exact ⟨i, h3, by rw [fx, hi], by simpa using h4⟩
theorem fx_not {xs : List Sta} {st : Sta} (h : st ∉ xs) : fx xs st = -1 := by
  have : xs.findIdx? (fun y => decide (y = st)) = none := by
    rw [List.findIdx?_eq_none_iff]
    intro y hy
    simp only [decide_eq_false_iff_not]
    rintro rfl
    exact h hy
  rw [fx, this]
def adS (xs : List Sta) (st : Sta) : List Sta := if st ∈ xs then xs else xs ++ [st]
def atS (xs : List Sta) (st : Sta) : Int := if st ∈ xs then fx xs st else xs.length
def adI (l : List Int) (n : Int) : List Int := if n ∈ l then l else l ++ [n]
def g1 (p : List Sta × List Int) (st : Sta) : List Sta × List Int := (adS p.1 st, adI p.2 (atS p.1 st))
theorem mem_adI {l : List Int} {n x : Int} : x ∈ adI l n ↔ x ∈ l ∨ x = n := by
  unfold adI
  split
  · constructor
    · exact .inl
    · rintro (h | rfl) <;> assumption
  · simp
theorem adI_len {l : List Int} {n : Int} : (adI l n).length ≤ l.length + 1 := by
  unfold adI; split <;> simp
theorem adI_ne {l : List Int} {n : Int} : adI l n ≠ [] := by
  unfold adI
  split
  · rename_i h; rintro rfl; simp at h
  · simp
theorem adS_len {xs : List Sta} {st : Sta} : (adS xs st).length ≤ xs.length + 1 := by
  unfold adS; split <;> simp
theorem adS_ge {xs : List Sta} {st : Sta} : xs.length ≤ (adS xs st).length := by
  unfold adS; split <;> simp
theorem atS_rng {xs : List Sta} {st : Sta} : 0 ≤ atS xs st ∧ atS xs st < (adS xs st).length := by
  unfold atS adS
  split
  · rename_i h
    obtain ⟨i, hi, e, _⟩ := fx_mem h
    omega
  · simp; omega

/-- one state's steps -/
def gF (s : Sy) (x : Sta) (n : Nat) (xs : List Sta) : List Sta × List Int := ((enb s x).take n).foldl (fun p t => g1 p (x.aft s t)) (xs, [])
theorem gF_zero {s : Sy} {x : Sta} {xs : List Sta} : gF s x 0 xs = (xs, []) := rfl
theorem gF_succ {s : Sy} {x : Sta} {n : Nat} {xs : List Sta} (hn : n < (enb s x).length) : gF s x (n + 1) xs = g1 (gF s x n xs) (x.aft s (enb s x)[n]) := by
  unfold gF
  rw [List.take_add_one, List.getElem?_eq_getElem hn, List.foldl_append]
  rfl
structure GI (s : Sy) (xs : List Sta) (n : Nat) (p : List Sta × List Int) : Prop where
  pre : ∃ t, p.1 = xs ++ t
  ok : ∀ st ∈ p.1, st.Ok s
  rng : ∀ x ∈ p.2, 0 ≤ x ∧ x < p.1.length
  new : ∀ j : Nat, xs.length ≤ j → j < p.1.length → (j : Int) ∈ p.2
  l1 : p.1.length ≤ xs.length + n
  l2 : p.2.length ≤ n
  ne : 1 ≤ n → p.2 ≠ []
theorem GI.ge {s : Sy} {xs : List Sta} {n : Nat} {p : List Sta × List Int} (h : GI s xs n p) : xs.length ≤ p.1.length := by
  obtain ⟨t, e⟩ := h.pre
  rw [e]; simp
theorem GI.step {s : Sy} {xs : List Sta} {n : Nat} {p : List Sta × List Int} {st : Sta} (h : GI s xs n p) (hst : st.Ok s) : GI s xs (n + 1) (g1 p st) := by
  have hr := atS_rng (xs := p.1) (st := st)
  have hl := adS_len (xs := p.1) (st := st)
  have hg := adS_ge (xs := p.1) (st := st)
  have hl2 := adI_len (l := p.2) (n := atS p.1 st)
  refine ⟨?_, ?_, ?_, ?_, ?_, ?_, fun _ => adI_ne⟩
  · obtain ⟨t, e⟩ := h.pre
    unfold g1 adS
    simp only
    split
    · exact ⟨t, e⟩
    · exact ⟨t ++ [st], by rw [e, List.append_assoc]⟩
  · intro y hy
    simp only [g1, adS] at hy
    split at hy
    · exact h.ok y hy
    · simp only [List.mem_append, List.mem_singleton] at hy
      rcases hy with hy | rfl
      · exact h.ok y hy
      · exact hst
  · intro x hx
    simp only [g1, mem_adI] at hx
    rcases hx with hx | rfl
    · have := h.rng x hx
      simp only [g1]; omega
    · exact hr
  · intro j h1 h2
    simp only [g1] at h2 ⊢
    rw [mem_adI]
    by_cases hj : j < p.1.length
    · exact .inl (h.new j h1 hj)
    · right
      unfold adS at h2
      unfold atS
      split at h2
      · omega
      · rename_i q
        rw [if_neg q]
        simp at h2; omega
  · have := h.l1; simp only [g1]; omega
  · have := h.l2; simp only [g1]; omega
theorem gF_inv {s : Sy} {x : Sta} {xs : List Sta} (hs : s.Ok) (hx : x.Ok s) (hxs : ∀ st ∈ xs, st.Ok s) : ∀ n, n ≤ (enb s x).length → GI s xs n (gF s x n xs)
  | 0, _ => ⟨⟨[], by simp [gF_zero]⟩, hxs, fun x hx => by simp [gF_zero] at hx, fun j h1 h2 => by simp only [gF_zero] at h2; omega, by simp [gF_zero], by simp [gF_zero], fun h => absurd h (by decide)⟩
  | n + 1, hn => by
    rw [gF_succ (by omega)]
    exact (gF_inv hs hx hxs n (by omega)).step (Sta.aft_ok hs hx (enb_in (List.getElem_mem _)))

/-- the graph after some states are done -/
def nxS (i : Nat) (l : List Int) : List Int := if l = [] then [(i : Int)] else l
def rnd (s : Sy) (i : Nat) (g : Gr) : Gr :=
  if h : i < g.states.length then ⟨(gF s g.states[i] (enb s g.states[i]).length g.states).1, g.next ++ [nxS i (gF s g.states[i] (enb s g.states[i]).length g.states).2]⟩ else g
def ini (s : Sy) : Sta := ⟨List.replicate s.procs.length 0, s.init⟩
def gN (s : Sy) : Nat → Gr
  | 0 => ⟨[ini s], []⟩
  | n + 1 => rnd s n (gN s n)
theorem gN_succ {s : Sy} {n : Nat} (h : n < (gN s n).states.length) : gN s (n + 1) = ⟨(gF s (gN s n).states[n] (enb s (gN s n).states[n]).length (gN s n).states).1, (gN s n).next ++ [nxS n (gF s (gN s n).states[n] (enb s (gN s n).states[n]).length (gN s n).states).2]⟩ := by
  rw [gN, rnd, dif_pos h]
theorem gN_stop {s : Sy} {n : Nat} (h : (gN s n).states.length ≤ n) : gN s (n + 1) = gN s n := by
  rw [gN, rnd, dif_neg (by omega)]
theorem ini_ok {s : Sy} (hs : s.Ok) : (ini s).Ok s :=
  ⟨by simp [ini], hs.vs, fun i h1 h2 => by
    have := (hs.at h2).n1
    simp only [ini, List.getElem_replicate]; omega⟩
structure GInv (s : Sy) (n : Nat) (g : Gr) : Prop where
  ok : ∀ st ∈ g.states, st.Ok s
  pos : 1 ≤ g.states.length
  nl : g.next.length = min n g.states.length
  ent : ∀ l ∈ g.next, l ≠ [] ∧ ∀ x ∈ l, 0 ≤ x ∧ x < g.states.length
  ll : ∀ l ∈ g.next, l.length ≤ 325
  rch : ∀ j : Nat, 1 ≤ j → j < g.states.length → ∃ (i : Nat) (hi : i < g.next.length), i < j ∧ (j : Int) ∈ g.next[i]
theorem gN_inv {s : Sy} (hs : s.Ok) : ∀ n, GInv s n (gN s n)
  | 0 => ⟨fun st h => by simp [gN] at h; subst h; exact ini_ok hs, by simp [gN], by simp [gN], fun l hl => by simp [gN] at hl, fun l hl => by simp [gN] at hl, fun j h1 h2 => by simp [gN] at h2; omega⟩
  | n + 1 => by
    have ih := gN_inv hs n
    by_cases h : n < (gN s n).states.length
    case neg =>
      rw [gN_stop (by omega)]
      exact ⟨ih.ok, ih.pos, by rw [ih.nl]; omega, ih.ent, ih.ll, ih.rch⟩
    rw [gN_succ h]
    have hxo := ih.ok _ (List.getElem_mem h)
    have gi := gF_inv hs hxo ih.ok _ (Nat.le_refl (enb s (gN s n).states[n]).length)
    have hge := gi.ge
    have hel := enb_len' (st := (gN s n).states[n]) hs
    have hnl : (gN s n).next.length = n := by rw [ih.nl]; omega
    generalize gF s (gN s n).states[n] (enb s (gN s n).states[n]).length (gN s n).states = p at gi hge
    have hnx : ∀ j : Nat, (gN s n).states.length ≤ j → j < p.1.length → (j : Int) ∈ nxS n p.2 := fun j h1 h2 => by
      have h3 := gi.new j h1 h2
      unfold nxS
      split
      · rename_i e; rw [e] at h3; simp at h3
      · exact h3
    refine ⟨gi.ok, by have := ih.pos; simp only; omega, by simp [hnl]; omega, fun l hl => ?_, fun l hl => ?_, fun j h1 h2 => ?_⟩
    · simp only [List.mem_append, List.mem_singleton] at hl
      rcases hl with hl | rfl
      · have := ih.ent l hl
        exact ⟨this.1, fun x hx => by have := this.2 x hx; simp only; omega⟩
      · unfold nxS
        split
        · exact ⟨by simp, fun x hx => by simp at hx; subst hx; simp only; omega⟩
        · exact ⟨by assumption, gi.rng⟩
    · simp only [List.mem_append, List.mem_singleton] at hl
      rcases hl with hl | rfl
      · exact ih.ll l hl
      · unfold nxS
        split
        · simp
        · have := gi.l2; omega
    · by_cases hj : j < (gN s n).states.length
      · obtain ⟨i, hi, h3, h4⟩ := ih.rch j h1 hj
        refine ⟨i, by simp; omega, h3, ?_⟩
        simp only [List.getElem_append_left hi]
        exact h4
      · refine ⟨n, by simp; omega, by omega, ?_⟩
        have : ((gN s n).next ++ [nxS n p.2])[n]'(by simp; omega) = nxS n p.2 := by
          rw [List.getElem_append_right (by omega)]
          simp
        simp only [this]
        exact hnx j (by omega) h2
theorem gN_mono {s : Sy} (hs : s.Ok) {n m : Nat} (h : n ≤ m) : (gN s n).states.length ≤ (gN s m).states.length := by
  induction m with
  | zero => have : n = 0 := by omega
            subst this; exact Nat.le_refl _
  | succ m ih =>
    by_cases e : n = m + 1
    · subst e; exact Nat.le_refl _
    refine Nat.le_trans (ih (by omega)) ?_
    by_cases h2 : m < (gN s m).states.length
    · rw [gN_succ h2]
      exact (gF_inv hs ((gN_inv hs m).ok _ (List.getElem_mem h2)) (gN_inv hs m).ok _ (Nat.le_refl _)).ge
    · rw [gN_stop (by omega)]
      exact Nat.le_refl _
theorem gN_fix {s : Sy} {n m : Nat} (h : (gN s n).states.length ≤ n) (hm : n ≤ m) : gN s m = gN s n := by
  induction m with
  | zero => have : n = 0 := by omega
            subst this; rfl
  | succ m ih =>
    by_cases e : n = m + 1
    · subst e; rfl
    have := ih (by omega)
    rw [gN_stop (by rw [this]; omega), this]
def Gr.zero : Gr := ⟨[], []⟩
/-- small graphs -/
def bgOk (s : Sy) : Prop := s.Ok ∧ (gN s 60).states.length ≤ 60
noncomputable instance {s : Sy} : Decidable (bgOk s) := Classical.propDecidable _
noncomputable def bgR (s : Sy) : Gr := if bgOk s then gN s 60 else Gr.zero
structure Gr.Fin (s : Sy) (g : Gr) : Prop where
  ok : ∀ st ∈ g.states, st.Ok s
  pos : 1 ≤ g.states.length
  n60 : g.states.length ≤ 60
  nl : g.next.length = g.states.length
  ent : ∀ l ∈ g.next, l ≠ [] ∧ ∀ x ∈ l, 0 ≤ x ∧ x < g.states.length
  ll : ∀ l ∈ g.next, l.length ≤ 325
  rch : ∀ j : Nat, 1 ≤ j → j < g.states.length → ∃ (i : Nat) (hi : i < g.next.length), i < j ∧ (j : Int) ∈ g.next[i]
theorem bgR_fin {s : Sy} (h : bgOk s) : (bgR s).Fin s := by
  have hi := gN_inv h.1 60
  have h2 := h.2
  rw [bgR, if_pos h]
  exact ⟨hi.ok, hi.pos, h.2, by rw [hi.nl]; omega, hi.ent, hi.ll, hi.rch⟩
theorem bg_big {s : Sy} {n : Nat} (hs : s.Ok) (hn : n ≤ 60) (h : 60 < (gN s n).states.length) : ¬ bgOk s := fun hb => by
  have := gN_mono hs hn
  have := hb.2
  omega
theorem bg_end {s : Sy} {n : Nat} (hs : s.Ok) (hn : (gN s n).states.length ≤ n) (h : n ≤ 60) : bgOk s ∧ gN s n = bgR s := by
  have h1 := gN_fix hn h
  have h2 : bgOk s := ⟨hs, by rw [h1]; omega⟩
  exact ⟨h2, by rw [bgR, if_pos h2, h1]⟩
end Go.Proofs.Ytonjglbachhdcaa

/-
  Equal states, and where a state lies in a list: by the program and by the reference.
-/
namespace Go.Proofs.Ytonjglbachhdcaa
open Go
set_option linter.all false
set_option linter.unusedVariables false
set_option linter.unusedSimpArgs false
set_option linter.defProp false
set_option maxRecDepth 1000000

theorem c_Equal_int {h : Heap} {a b : Value} {x y : List Int} (Ra : Rep h a x) (Rb : Rep h b y) : CallE Try.prog fn_slices_Equal_S_int_int [a, b] h (fun u h' => h' = h ∧ u = .bool (decide (x = y))) := by
  have hL := Ra.lt
  refine CallE.gen fun k hk => EN_slices_Equal_S_int_int rfl ?_
  by_cases hl : (x.length : Int) = y.length
  case neg =>
    simp -implicitDefEqProofs (disch := first | omega | (simp only [List.length_set, List.length_replicate, List.length_append, List.length_map, List.length_take, List.length_cons, List.length_nil]; omega)) [wrap64, Ra.len, Rb.len, hl]
    exact RetK.keep (hk _ _ ⟨rfl, by congr 1; rw [eq_comm, decide_eq_false_iff_not]; intro e; subst e; exact hl rfl⟩)
  simp -implicitDefEqProofs (disch := first | omega | (simp only [List.length_set, List.length_replicate, List.length_append, List.length_map, List.length_take, List.length_cons, List.length_nil]; omega)) [wrap64, Ra.len, Rb.len, hl]
  refine wp_count x.length (fun i e h' => e = [some a, some b, none, none, some (.int .i64 x.length), some (.int .i64 i)] ∧ h' = h ∧ x.take i = y.take i) ⟨by simp [hl], rfl, rfl⟩ ?_
  rintro J i _ h1 hJ hi ⟨rfl, rfl, hq⟩
  simp -implicitDefEqProofs (disch := first | omega | (simp only [List.length_set, List.length_replicate, List.length_append, List.length_map, List.length_take, List.length_cons, List.length_nil]; omega)) [wrap64]
  refine IteW.mk (fun hlt => ?_) (fun hge => ?_)
  · have hlx : i < x.length := by omega
    have hly : i < y.length := by omega
    by_cases he : x[i] = y[i]
    · simp -implicitDefEqProofs (disch := first | omega | (simp only [List.length_set, List.length_replicate, List.length_append, List.length_map, List.length_take, List.length_cons, List.length_nil]; omega)) [wrap64, Ra.I, Rb.I, he]
      exact hJ _ _ hlx ⟨rfl, rfl, take_step hq hlx hly he⟩
    · simp -implicitDefEqProofs (disch := first | omega | (simp only [List.length_set, List.length_replicate, List.length_append, List.length_map, List.length_take, List.length_cons, List.length_nil]; omega)) [wrap64, Ra.I, Rb.I, he]
      exact RetK.keep (hk _ _ ⟨rfl, by congr 1; rw [eq_comm, decide_eq_false_iff_not]; intro e; subst e; exact he rfl⟩)
  · simp -implicitDefEqProofs (disch := first | omega | (simp only [List.length_set, List.length_replicate, List.length_append, List.length_map, List.length_take, List.length_cons, List.length_nil]; omega)) [wrap64]
    rw [List.take_of_length_le (by omega), List.take_of_length_le (by omega)] at hq
    exact RetK.keep (hk _ _ ⟨rfl, by simp [hq]⟩)
theorem c_l2Ints {h : Heap} {a b : Value} {x y : List Int} (Ra : Rep h a x) (Rb : Rep h b y) : CallE Try.prog fn_spec_l2Ints [a, b] h (fun u h' => h' = h ∧ u = .bool (decide (x = y))) := by
  have hL := Ra.lt
  refine CallE.gen fun k hk => EN_spec_l2Ints rfl ?_
  by_cases hl : (x.length : Int) = y.length
  case neg =>
    simp -implicitDefEqProofs (disch := first | omega | (simp only [List.length_set, List.length_replicate, List.length_append, List.length_map, List.length_take, List.length_cons, List.length_nil]; omega)) [wrap64, Ra.len, Rb.len, hl]
    exact RetK.keep (hk _ _ ⟨rfl, by congr 1; rw [eq_comm, decide_eq_false_iff_not]; intro e; subst e; exact hl rfl⟩)
  simp -implicitDefEqProofs (disch := first | omega | (simp only [List.length_set, List.length_replicate, List.length_append, List.length_map, List.length_take, List.length_cons, List.length_nil]; omega)) [wrap64, Ra.len, Rb.len, hl]
  refine wp_count x.length (fun i e h' => e = [some a, some b, none, some (.int .i64 i)] ∧ h' = h ∧ x.take i = y.take i) ⟨by simp, rfl, rfl⟩ ?_
  rintro J i _ h1 hJ hi ⟨rfl, rfl, hq⟩
  simp -implicitDefEqProofs (disch := first | omega | (simp only [List.length_set, List.length_replicate, List.length_append, List.length_map, List.length_take, List.length_cons, List.length_nil]; omega)) [wrap64, Ra.len]
  refine IteW.mk (fun hlt => ?_) (fun hge => ?_)
  · have hlx : i < x.length := by omega
    have hly : i < y.length := by omega
    by_cases he : x[i] = y[i]
    · simp -implicitDefEqProofs (disch := first | omega | (simp only [List.length_set, List.length_replicate, List.length_append, List.length_map, List.length_take, List.length_cons, List.length_nil]; omega)) [wrap64, Ra.I, Rb.I, he]
      exact hJ _ _ hlx ⟨rfl, rfl, take_step hq hlx hly he⟩
    · simp -implicitDefEqProofs (disch := first | omega | (simp only [List.length_set, List.length_replicate, List.length_append, List.length_map, List.length_take, List.length_cons, List.length_nil]; omega)) [wrap64, Ra.I, Rb.I, he]
      exact RetK.keep (hk _ _ ⟨rfl, by congr 1; rw [eq_comm, decide_eq_false_iff_not]; intro e; subst e; exact he rfl⟩)
  · simp -implicitDefEqProofs (disch := first | omega | (simp only [List.length_set, List.length_replicate, List.length_append, List.length_map, List.length_take, List.length_cons, List.length_nil]; omega)) [wrap64]
    rw [List.take_of_length_le (by omega), List.take_of_length_le (by omega)] at hq
    exact RetK.keep (hk _ _ ⟨rfl, by simp [hq]⟩)
theorem c_StateSame {h : Heap} {v w : Value} {a b : Sta} (Ra : Rep h v a) (Rb : Rep h w b) : CallE Try.prog fn_impl_StateSame [v, w] h (fun u h' => h' = h ∧ u = .bool (decide (a = b))) := by
  obtain ⟨v1, v2, rfl, R1, R2⟩ := Rep_Sta.1 Ra
  obtain ⟨w1, w2, rfl, S1, S2⟩ := Rep_Sta.1 Rb
  refine CallE.gen fun k hk => EN_impl_StateSame rfl ?_
  simp -implicitDefEqProofs (disch := first | omega | (simp only [List.length_set, List.length_replicate, List.length_append, List.length_map, List.length_take, List.length_cons, List.length_nil]; omega)) [wrap64]
  refine (c_Equal_int R1 S1).go ?_
  rintro _ h ⟨rfl, rfl⟩
  by_cases h1 : a.locs = b.locs
  case neg =>
    simp -implicitDefEqProofs (disch := first | omega | (simp only [List.length_set, List.length_replicate, List.length_append, List.length_map, List.length_take, List.length_cons, List.length_nil]; omega)) [wrap64, h1]
    exact RetK.keep (hk _ _ ⟨rfl, by simp [Sta.ext_iff', h1]⟩)
  simp -implicitDefEqProofs (disch := first | omega | (simp only [List.length_set, List.length_replicate, List.length_append, List.length_map, List.length_take, List.length_cons, List.length_nil]; omega)) [wrap64, h1]
  refine (c_Equal_int R2 S2).go ?_
  rintro _ h ⟨rfl, rfl⟩
  simp -implicitDefEqProofs (disch := first | omega | (simp only [List.length_set, List.length_replicate, List.length_append, List.length_map, List.length_take, List.length_cons, List.length_nil]; omega)) [wrap64]
  exact RetK.keep (hk _ _ ⟨rfl, by simp [Sta.ext_iff', h1]⟩)
theorem c_spec_StateSame {h : Heap} {v w : Value} {a b : Sta} (Ra : Rep h v a) (Rb : Rep h w b) : CallE Try.prog fn_spec_StateSame [v, w] h (fun u h' => h' = h ∧ u = .bool (decide (a = b))) := by
  obtain ⟨v1, v2, rfl, R1, R2⟩ := Rep_Sta.1 Ra
  obtain ⟨w1, w2, rfl, S1, S2⟩ := Rep_Sta.1 Rb
  refine CallE.gen fun k hk => EN_spec_StateSame rfl ?_
  simp -implicitDefEqProofs (disch := first | omega | (simp only [List.length_set, List.length_replicate, List.length_append, List.length_map, List.length_take, List.length_cons, List.length_nil]; omega)) [wrap64]
  refine (c_l2Ints R1 S1).go ?_
  rintro _ h ⟨rfl, rfl⟩
  by_cases h1 : a.locs = b.locs
  case neg =>
    simp -implicitDefEqProofs (disch := first | omega | (simp only [List.length_set, List.length_replicate, List.length_append, List.length_map, List.length_take, List.length_cons, List.length_nil]; omega)) [wrap64, h1]
    exact RetK.keep (hk _ _ ⟨rfl, by simp [Sta.ext_iff', h1]⟩)
  simp -implicitDefEqProofs (disch := first | omega | (simp only [List.length_set, List.length_replicate, List.length_append, List.length_map, List.length_take, List.length_cons, List.length_nil]; omega)) [wrap64, h1]
  refine (c_l2Ints R2 S2).go ?_
  rintro _ h ⟨rfl, rfl⟩
  simp -implicitDefEqProofs (disch := first | omega | (simp only [List.length_set, List.length_replicate, List.length_append, List.length_map, List.length_take, List.length_cons, List.length_nil]; omega)) [wrap64]
  exact RetK.keep (hk _ _ ⟨rfl, by simp [Sta.ext_iff', h1]⟩)
theorem fx_at {xs : List Sta} {st : Sta} {i : Nat} (hi : i < xs.length) (he : xs[i] = st) (hn : ∀ (j : Nat) (hj : j < xs.length), j < i → xs[j] ≠ st) : fx xs st = i := by
  have : xs.findIdx? (fun y => decide (y = st)) = some i := by
    rw [List.findIdx?_eq_some_iff_getElem]
    exact ⟨hi, by simp [he], fun j hj => by simpa using hn j (by omega) hj⟩
  rw [fx, this]
theorem c_l4Find {h : Heap} {v w : Value} {xs : List Sta} {st : Sta} (R : Rep h v xs) (Rt : Rep h w st) : CallE Try.prog fn_spec_l4Find [v, w] h (fun u h' => h' = h ∧ u = .int .i64 (fx xs st)) := by
  have hL := R.lt
  have FT := Rt.aSta
  refine CallE.gen fun k hk => EN_spec_l4Find rfl ?_
  simp -implicitDefEqProofs (disch := first | omega | (simp only [List.length_set, List.length_replicate, List.length_append, List.length_map, List.length_take, List.length_cons, List.length_nil]; omega)) [wrap64]
  refine wp_count xs.length (fun i e h' => e = [some v, none, some w, none, some (.int .i64 i)] ∧ h' = h ∧ ∀ (j : Nat) (hj : j < xs.length), j < i → xs[j] ≠ st) ⟨by simp, rfl, fun j _ hj => absurd hj (Nat.not_lt_zero j)⟩ ?_
  rintro J i _ h hJ hi ⟨rfl, rfl, hn⟩
  simp -implicitDefEqProofs (disch := first | omega | (simp only [List.length_set, List.length_replicate, List.length_append, List.length_map, List.length_take, List.length_cons, List.length_nil]; omega)) [wrap64, R.len]
  refine IteW.mk (fun hlt => ?_) (fun hge => ?_)
  · have hlx : i < xs.length := by omega
    obtain ⟨u, hu, Ru⟩ := R.ld hlx
    change hload _ (some (elp 2 v i)) (some 2) = some u at hu
    simp -implicitDefEqProofs (disch := first | omega | (simp only [List.length_set, List.length_replicate, List.length_append, List.length_map, List.length_take, List.length_cons, List.length_nil]; omega)) [wrap64, R.X (n := 2) rfl, hu, FT, Ru.aSta]
    refine (c_spec_StateSame Ru Rt).go ?_
    rintro _ h ⟨rfl, rfl⟩
    by_cases e : xs[i] = st
    · simp -implicitDefEqProofs (disch := first | omega | (simp only [List.length_set, List.length_replicate, List.length_append, List.length_map, List.length_take, List.length_cons, List.length_nil]; omega)) [wrap64, e]
      exact RetK.keep (hk _ _ ⟨rfl, by rw [fx_at hlx e hn]⟩)
    · simp -implicitDefEqProofs (disch := first | omega | (simp only [List.length_set, List.length_replicate, List.length_append, List.length_map, List.length_take, List.length_cons, List.length_nil]; omega)) [wrap64, e]
      refine hJ _ _ hlx ⟨by simp, rfl, fun j hj hji => ?_⟩
      by_cases hji2 : j = i
      · subst hji2; exact e
      · exact hn j hj (by omega)
  · simp -implicitDefEqProofs (disch := first | omega | (simp only [List.length_set, List.length_replicate, List.length_append, List.length_map, List.length_take, List.length_cons, List.length_nil]; omega)) [wrap64]
    refine RetK.keep (hk _ _ ⟨rfl, ?_⟩)
    rw [fx_not]
    intro hm
    obtain ⟨j, hj, h1⟩ := List.mem_iff_getElem.1 hm
    exact hn j hj (by omega) h1
end Go.Proofs.Ytonjglbachhdcaa

/-
  Instances of functions over slices: copies, and whether some element meets a condition. Printed by a program.
-/
namespace Go.Proofs.Ytonjglbachhdcaa
open Go
set_option linter.all false
set_option linter.unusedVariables false
set_option linter.unusedSimpArgs false
set_option linter.defProp false
set_option maxRecDepth 1000000

theorem c_Clip_impl_State {g h : Heap} {Γ : List HP} {a : Value} {x : List (Sta)} (H : HS g (ow a x :: Γ) h) : CallE Try.prog fn_slices_Clip_S_impl_State_impl_State [a] h (fun v h' => HS g (ow v x :: Γ) h') := by
  refine CallE.gen fun k hk => EN_slices_Clip_S_impl_State_impl_State rfl ?_
  obtain ⟨v', h1, h2⟩ := H.clip (esz := 2) (k := .i64)
  simp -implicitDefEqProofs (disch := first | omega | (simp only [List.length_set, List.length_replicate, List.length_append, List.length_map, List.length_take, List.length_cons, List.length_nil]; omega)) [wrap64, H.rep.len, h1]
  exact RetK.keep (hk _ _ h2)

theorem c_Clip_S_int {g h : Heap} {Γ : List HP} {a : Value} {x : List (List Int)} (H : HS g (ow a x :: Γ) h) : CallE Try.prog fn_slices_Clip_S_S_int_S_int [a] h (fun v h' => HS g (ow v x :: Γ) h') := by
  refine CallE.gen fun k hk => EN_slices_Clip_S_S_int_S_int rfl ?_
  obtain ⟨v', h1, h2⟩ := H.clip (esz := 1) (k := .i64)
  simp -implicitDefEqProofs (disch := first | omega | (simp only [List.length_set, List.length_replicate, List.length_append, List.length_map, List.length_take, List.length_cons, List.length_nil]; omega)) [wrap64, H.rep.len, h1]
  exact RetK.keep (hk _ _ h2)

end Go.Proofs.Ytonjglbachhdcaa

/-
  The initial state, by the reference.
-/
namespace Go.Proofs.Ytonjglbachhdcaa
open Go
set_option linter.all false
set_option linter.unusedVariables false
set_option linter.unusedSimpArgs false
set_option linter.defProp false
set_option maxRecDepth 1000000

theorem c_spec_InitialState {h : Heap} {v : Value} {s : Sy} (R : Rep h v s) : CallE Try.prog fn_spec_InitialState [v] h (R2 (decide s.Ok) (if s.Ok then ini s else Sta.zero) h) := by
  have FS := R.aSy
  have R0 := R
  obtain ⟨v1, v2, rfl, R1, R2'⟩ := Rep_Sy.1 R
  refine CallE.gen fun k hk => EN_spec_InitialState rfl ?_
  simp -implicitDefEqProofs (disch := first | omega | (simp only [List.length_set, List.length_replicate, List.length_append, List.length_map, List.length_take, List.length_cons, List.length_nil]; omega)) [wrap64, FS]
  refine (c_spec_SystemValid R0).go ?_
  rintro _ h ⟨rfl, rfl⟩
  by_cases hs : s.Ok
  case neg =>
    simp -implicitDefEqProofs (disch := first | omega | (simp only [List.length_set, List.length_replicate, List.length_append, List.length_map, List.length_take, List.length_cons, List.length_nil]; omega)) [wrap64, hs, setC]
    exact RetK.keep (hk _ _ ⟨_, by rw [decide_eq_false hs], by rw [if_neg hs]; exact zero_St (Γ := []) (Heap.le.refl _)⟩)
  have hp3 := hs.p3
  have hvl := hs.vs.len
  simp -implicitDefEqProofs (disch := first | omega | (simp only [List.length_set, List.length_replicate, List.length_append, List.length_map, List.length_take, List.length_cons, List.length_nil]; omega)) [wrap64, hs, R2'.len]
  refine ⟨?_, ?_⟩
  · simp -implicitDefEqProofs (disch := first | omega | (simp only [List.length_set, List.length_replicate, List.length_append, List.length_map, List.length_take, List.length_cons, List.length_nil]; omega)) [wrap64]
    refine HS.init.mks (α := Int) (z := (0 : Int)) rfl rfl (own_zero (by decide) (by decide)) (Nat.le_refl _) (by omega) (by omega) fun o h1 H => ?_
    simp -implicitDefEqProofs (disch := first | omega | (simp only [List.length_set, List.length_replicate, List.length_append, List.length_map, List.length_take, List.length_cons, List.length_nil]; omega)) [wrap64]
    refine HS.appPL (α := Int) (l2 := s.init) H rfl rfl (R1.on H) rfl rfl (by omega) fun o2 h1 H => ?_
    simp -implicitDefEqProofs (disch := first | omega | (simp only [List.length_set, List.length_replicate, List.length_append, List.length_map, List.length_take, List.length_cons, List.length_nil]; omega)) [wrap64, setC, H.rep.cells, H.rep.one, H.sw1.rep.cells, H.sw1.rep.one]
    exact RetK.keep (hk _ _ ⟨_, by rw [decide_eq_true hs], by rw [if_pos hs]; exact HS.mkSta (a := ini s) H.sw1⟩)
  · simp -implicitDefEqProofs (disch := first | omega | (simp only [List.length_set, List.length_replicate, List.length_append, List.length_map, List.length_take, List.length_cons, List.length_nil]; omega)) [wrap64]
    refine HS.appPL (α := Int) (l2 := s.init) HS.init rfl rfl R1 rfl rfl (by omega) fun o2 h1 H => ?_
    simp -implicitDefEqProofs (disch := first | omega | (simp only [List.length_set, List.length_replicate, List.length_append, List.length_map, List.length_take, List.length_cons, List.length_nil]; omega)) [wrap64]
    refine H.mks (α := Int) (z := (0 : Int)) rfl rfl (own_zero (by decide) (by decide)) (Nat.le_refl _) (by omega) (by omega) fun o h1 H => ?_
    simp -implicitDefEqProofs (disch := first | omega | (simp only [List.length_set, List.length_replicate, List.length_append, List.length_map, List.length_take, List.length_cons, List.length_nil]; omega)) [wrap64, setC, H.rep.cells, H.rep.one, H.sw1.rep.cells, H.sw1.rep.one]
    exact RetK.keep (hk _ _ ⟨_, by rw [decide_eq_true hs], by rw [if_pos hs]; exact HS.mkSta (a := ini s) H⟩)
end Go.Proofs.Ytonjglbachhdcaa

/-
  The graph of a system: by the program.
-/
namespace Go.Proofs.Ytonjglbachhdcaa
open Go
set_option linter.all false
set_option linter.unusedVariables false
set_option linter.unusedSimpArgs false
set_option linter.defProp false
set_option maxRecDepth 1000000

theorem c_initial {h : Heap} {v : Value} {s : Sy} (hs : s.Ok) (R : Rep h v s) : CallE Try.prog fn_impl_System_initial [v] h (fun u h' => HS h [ow u (ini s)] h') := by
  obtain ⟨v1, v2, rfl, R1, R2'⟩ := Rep_Sy.1 R
  have hp3 := hs.p3
  have hvl := hs.vs.len
  refine CallE.gen fun k hk => EN_impl_System_initial rfl ?_
  simp -implicitDefEqProofs (disch := first | omega | (simp only [List.length_set, List.length_replicate, List.length_append, List.length_map, List.length_take, List.length_cons, List.length_nil]; omega)) [wrap64, R2'.len]
  refine ⟨?_, ?_⟩
  · simp -implicitDefEqProofs (disch := first | omega | (simp only [List.length_set, List.length_replicate, List.length_append, List.length_map, List.length_take, List.length_cons, List.length_nil]; omega)) [wrap64]
    refine HS.init.mks (α := Int) (z := (0 : Int)) rfl rfl (own_zero (by decide) (by decide)) (Nat.le_refl _) (by omega) (by omega) fun o h1 H => ?_
    simp -implicitDefEqProofs (disch := first | omega | (simp only [List.length_set, List.length_replicate, List.length_append, List.length_map, List.length_take, List.length_cons, List.length_nil]; omega)) [wrap64]
    refine (c_clone_int (R1.on H) (by omega)).go ?_
    intro u h2 G
    have H := G.app H
    simp -implicitDefEqProofs (disch := first | omega | (simp only [List.length_set, List.length_replicate, List.length_append, List.length_map, List.length_take, List.length_cons, List.length_nil]; omega)) [wrap64, setC, H.rep.cells, H.rep.one, H.sw1.rep.cells, H.sw1.rep.one]
    exact RetK.keep (hk _ _ (HS.mkSta (a := ini s) H.sw1))
  · simp -implicitDefEqProofs (disch := first | omega | (simp only [List.length_set, List.length_replicate, List.length_append, List.length_map, List.length_take, List.length_cons, List.length_nil]; omega)) [wrap64]
    refine (c_clone_int R1 (by omega)).go ?_
    intro u h2 H
    simp -implicitDefEqProofs (disch := first | omega | (simp only [List.length_set, List.length_replicate, List.length_append, List.length_map, List.length_take, List.length_cons, List.length_nil]; omega)) [wrap64]
    refine H.mks (α := Int) (z := (0 : Int)) rfl rfl (own_zero (by decide) (by decide)) (Nat.le_refl _) (by omega) (by omega) fun o h1 H => ?_
    simp -implicitDefEqProofs (disch := first | omega | (simp only [List.length_set, List.length_replicate, List.length_append, List.length_map, List.length_take, List.length_cons, List.length_nil]; omega)) [wrap64, setC, H.rep.cells, H.rep.one, H.sw1.rep.cells, H.sw1.rep.one]
    exact RetK.keep (hk _ _ (HS.mkSta (a := ini s) H))
theorem c_build_1 {h : Heap} {v w : Value} {a st : Sta} {b : Nat} (R : Rep h v a) (Rt : Rep h w st) (hb : hload h (some (.pointer (some ⟨b, 0, none⟩))) (some 2) = some w) :
    CallE Try.prog fn_impl_System_build_1 [v, .pointer (some ⟨b, 0, none⟩)] h (fun u h' => h.le h' ∧ u = .bool (decide (a = st))) := by
  have FS := R.aSta
  refine CallE.gen fun k hk => EN_impl_System_build_1 rfl ?_
  simp -implicitDefEqProofs (disch := first | omega | (simp only [List.length_set, List.length_replicate, List.length_append, List.length_map, List.length_take, List.length_cons, List.length_nil]; omega)) [wrap64, FS, hb]
  refine (c_StateSame R Rt).go ?_
  rintro _ h ⟨rfl, rfl⟩
  simp -implicitDefEqProofs (disch := first | omega | (simp only [List.length_set, List.length_replicate, List.length_append, List.length_map, List.length_take, List.length_cons, List.length_nil]; omega)) [wrap64]
  exact RetK.keep (hk _ _ ⟨Heap.le.refl _, rfl⟩)

theorem gN_at {s : Sy} {x : Sta} {n i : Nat} {xs : List Sta} {p : List Sta × List Int} (gi : GI s xs n p) (hi : i < xs.length) : ∃ h : i < p.1.length, p.1[i] = xs[i] := by
  obtain ⟨t, e⟩ := gi.pre
  have hl : i < p.1.length := by have := gi.ge; omega
  refine ⟨hl, ?_⟩
  have : p.1[i]? = xs[i]? := by rw [e, List.getElem?_append_left hi]
  rw [List.getElem?_eq_getElem hl, List.getElem?_eq_getElem hi] at this
  exact Option.some.inj this
theorem zero_Gr {g h : Heap} {Γ : List HP} (H : HS g Γ h) : HS g (ow (.agg #[.slice none 0 0, .slice none 0 0]) Gr.zero :: Γ) h := HS.mkGr (a := Gr.zero) H.nil_ow.nil_ow

theorem c_build {h : Heap} {v : Value} {s : Sy} (hs : s.Ok) (R : Rep h v s) : CallE Try.prog fn_impl_System_build [v] h (R2 (decide (bgOk s)) (bgR s) h) := by
  have FS := R.aSy
  have R0 := R
  obtain ⟨v1, v2, rfl, R1, R2'⟩ := Rep_Sy.1 R
  refine CallE.gen fun k hk => EN_impl_System_build rfl ?_
  have hno : ¬ bgOk s → ∀ {h'}, h.le h' → k (.tuple #[.agg #[.slice none 0 0, .slice none 0 0], .bool false]) h' := fun hn h' hl => hk _ _ ⟨_, by rw [decide_eq_false hn], by rw [bgR, if_neg hn]; exact zero_Gr (Γ := []) hl⟩
  simp -implicitDefEqProofs (disch := first | omega | (simp only [List.length_set, List.length_replicate, List.length_append, List.length_map, List.length_take, List.length_cons, List.length_nil]; omega)) [wrap64, FS]
  refine (c_initial hs R0).go ?_
  intro u h1 H
  obtain ⟨o1, o2, rfl, H'⟩ := H.unSta
  have hc1 := H'.rep.one
  have hc2 := H'.sw1.rep.one
  simp -implicitDefEqProofs (disch := first | omega | (simp only [List.length_set, List.length_replicate, List.length_append, List.length_map, List.length_take, List.length_cons, List.length_nil]; omega)) [wrap64, setC, hc1, hc2]
  refine HS.blsO1 H rfl fun xs h2 H => ?_
  simp -implicitDefEqProofs (disch := first | omega | (simp only [List.length_set, List.length_replicate, List.length_append, List.length_map, List.length_take, List.length_cons, List.length_nil]; omega)) [wrap64, setC, H.rep.cells, H.rep.one]
  refine wp_while (σ := Nat) (fun i e h' => ∃ xs nx, e = [none, some (.agg #[v1, v2]), some (.agg #[.slice none 0 0, .slice none 0 0]), none, some (.agg #[xs, nx]), some (.int .i64 i), none, none, none, none, none, none, none] ∧ HS h [ow xs (gN s i).states, ow nx (gN s i).next] h' ∧ i ≤ (gN s i).states.length ∧ (gN s i).states.length ≤ 60) (fun i => 61 - i) 0 ⟨xs, .slice none 0 0, by simp, H.nil_ow.sw1, by simp [gN], by simp [gN]⟩ ?_
  clear H hc1 hc2 H'
  rintro J i _ h3 hJ ⟨xs, nx, rfl, H, hi, h60⟩
  have inv := gN_inv hs i
  have hnl := inv.nl
  simp -implicitDefEqProofs (disch := first | omega | (simp only [List.length_set, List.length_replicate, List.length_append, List.length_map, List.length_take, List.length_cons, List.length_nil]; omega)) [wrap64, H.rep.len]
  refine IteW.mk (fun hlt => ?_) (fun hge => ?_)
  · have hlt : i < (gN s i).states.length := by omega
    have hxo := inv.ok _ (List.getElem_mem hlt)
    have hsucc := gN_succ hlt
    generalize hg : gN s i = g at *
    obtain ⟨x, hx⟩ : ∃ x, x = g.states[i] := ⟨_, rfl⟩
    rw [← hx] at hxo hsucc
    obtain ⟨u, hu, Ru⟩ := H.rep.ld hlt
    change hload _ (some (elp 2 xs i)) (some 2) = some u at hu
    rw [← hx] at Ru
    simp -implicitDefEqProofs (disch := first | omega | (simp only [List.length_set, List.length_replicate, List.length_append, List.length_map, List.length_take, List.length_cons, List.length_nil]; omega)) [wrap64, H.rep.X (n := 2) rfl, hu, Ru.aSta, FS]
    have hel := enb_len' (st := x) hs
    refine pl_cut (fun e' h' => ∃ el r, e' = none :: some (.agg #[v1, v2]) :: some (.agg #[.slice none 0 0, .slice none 0 0]) :: none :: some (.agg #[xs, nx]) :: some (.int .i64 i) :: some (.slice none 0 0) :: none :: none :: none :: some el :: some (.int .i64 (enb s x).length) :: some (.int .i64 0) :: r ∧ HS h [ow el (enb s x), ow xs g.states, ow nx g.next] h') (fun K hK => ?_) ?_
    · refine ⟨?_, ?_⟩
      · simp -implicitDefEqProofs (disch := first | omega | (simp only [List.length_set, List.length_replicate, List.length_append, List.length_map, List.length_take, List.length_cons, List.length_nil]; omega)) [wrap64]
        refine (c_enabled hs hxo (R0.on H) Ru).go ?_
        intro el h4 G
        have hu2 := hload_le G.base hu
        have H := G.app H
        refine ⟨?_, ?_⟩
        · simp -implicitDefEqProofs (disch := first | omega | (simp only [List.length_set, List.length_replicate, List.length_append, List.length_map, List.length_take, List.length_cons, List.length_nil]; omega)) [wrap64, H.rep.len, hu2]
          exact hK _ _ ⟨_, _, rfl, H⟩
        · simp -implicitDefEqProofs (disch := first | omega | (simp only [List.length_set, List.length_replicate, List.length_append, List.length_map, List.length_take, List.length_cons, List.length_nil]; omega)) [wrap64, H.rep.len, hu2]
          exact hK _ _ ⟨_, _, rfl, H⟩
      · simp -implicitDefEqProofs (disch := first | omega | (simp only [List.length_set, List.length_replicate, List.length_append, List.length_map, List.length_take, List.length_cons, List.length_nil]; omega)) [wrap64, hu]
        refine (c_enabled hs hxo (R0.on H) Ru).go ?_
        intro el h4 G
        have H := G.app H
        simp -implicitDefEqProofs (disch := first | omega | (simp only [List.length_set, List.length_replicate, List.length_append, List.length_map, List.length_take, List.length_cons, List.length_nil]; omega)) [wrap64, H.rep.len]
        exact hK _ _ ⟨_, _, rfl, H⟩
    clear H hu Ru u
    rintro _ h4 ⟨el, r, rfl, H⟩
    simp -implicitDefEqProofs (disch := first | omega | (simp only [List.length_set, List.length_replicate, List.length_append, List.length_map, List.length_take, List.length_cons, List.length_nil]; omega)) [wrap64]
    refine wp_count (enb s x).length (fun m e h' => ∃ xs q, e = [none, some (.agg #[v1, v2]), some (.agg #[.slice none 0 0, .slice none 0 0]), none, some (.agg #[xs, nx]), some (.int .i64 i), some q, none, none, none, some el, some (.int .i64 (enb s x).length), some (.int .i64 m)] ∧ HS h [ow xs (gF s x m g.states).1, ow q (gF s x m g.states).2, ow nx g.next, ow el (enb s x)] h') ⟨xs, .slice none 0 0, by simp, by rw [gF_zero]; exact (H.bk2.nil_ow (α := Int)).sw1⟩ ?_
    clear H r xs
    rintro J1 m _ h5 hJ1 hm ⟨xs, q, rfl, H⟩
    simp -implicitDefEqProofs (disch := first | omega | (simp only [List.length_set, List.length_replicate, List.length_append, List.length_map, List.length_take, List.length_cons, List.length_nil]; omega)) [wrap64]
    refine IteW.mk (fun hlt1 => ?_) (fun hge1 => ?_)
    · have hm : m < (enb s x).length := by omega
      have gi := gF_inv (xs := g.states) hs hxo inv.ok m (by omega)
      have hsu := gF_succ (xs := g.states) hm
      have hin := enb_in (List.getElem_mem hm)
      obtain ⟨t, ht⟩ : ∃ t, t = (enb s x)[m] := ⟨_, rfl⟩
      generalize gF s x m g.states = p at gi hsu H
      obtain ⟨hip, hxp⟩ := gN_at (x := x) gi hlt
      rw [← hx] at hxp
      rw [← ht] at hsu hin
      obtain ⟨u, hu, Ru⟩ := H.rep.ld hip
      change hload _ (some (elp 2 xs i)) (some 2) = some u at hu
      rw [hxp] at Ru
      have hst := Sta.aft_ok hs hxo hin
      have hl1 := gi.l1
      have hl2 := gi.l2
      simp -implicitDefEqProofs (disch := first | omega | (simp only [List.length_set, List.length_replicate, List.length_append, List.length_map, List.length_take, List.length_cons, List.length_nil]; omega)) [wrap64, H.sw3.rep.xStp, ← ht, H.rep.X (n := 2) rfl, hu, Stp.v, setC]
      refine pl_cut (fun e' h' => ∃ b o1 o2 r, e' = none :: some (.agg #[v1, v2]) :: some (.agg #[.slice none 0 0, .slice none 0 0]) :: none :: some (.agg #[xs, nx]) :: some (.int .i64 i) :: some q :: some t.v :: some (.pointer (some ⟨b, 0, none⟩)) :: none :: some el :: some (.int .i64 (enb s x).length) :: some (.int .i64 m) :: r ∧ HS h [bx b [o1, o2], ow (.agg #[o1, o2]) (x.aft s t), ow xs p.1, ow q p.2, ow nx g.next, ow el (enb s x)] h') (fun K hK => ?_) ?_
      · refine ⟨?_, ?_⟩
        · simp -implicitDefEqProofs (disch := first | omega | (simp only [List.length_set, List.length_replicate, List.length_append, List.length_map, List.length_take, List.length_cons, List.length_nil]; omega)) [wrap64, Stp.v]
          refine (c_after hs hxo hin (R0.on H) Ru).go ?_
          intro o h6 HO
          obtain ⟨o1, o2, rfl, HO2⟩ := HO.unSta
          have hC1 := HO2.rep.one
          have hC2 := HO2.sw1.rep.one
          simp -implicitDefEqProofs (disch := first | omega | (simp only [List.length_set, List.length_replicate, List.length_append, List.length_map, List.length_take, List.length_cons, List.length_nil]; omega)) [wrap64]
          refine HO.alloc rfl fun b h7 HO => ?_
          have hu2 := hload_le HO.base hu
          have H := HO.app H
          simp -implicitDefEqProofs (disch := first | omega | (simp only [List.length_set, List.length_replicate, List.length_append, List.length_map, List.length_take, List.length_cons, List.length_nil]; omega)) [wrap64, hu2]
          refine HS.bxst (o := 0) (sz := 2) (u := .agg #[o1, o2]) H rfl rfl rfl (by simp [hC1, hC2]) (by simp) fun h8 H => ?_
          simp -implicitDefEqProofs (disch := first | omega | (simp only [List.length_set, List.length_replicate, List.length_append, List.length_map, List.length_take, List.length_cons, List.length_nil]; omega)) [wrap64]
          exact hK _ _ ⟨b, o1, o2, _, rfl, H⟩
        · simp -implicitDefEqProofs (disch := first | omega | (simp only [List.length_set, List.length_replicate, List.length_append, List.length_map, List.length_take, List.length_cons, List.length_nil]; omega)) [wrap64, Stp.v]
          refine (HS.init (h := h5)).alloc rfl fun b h6 G => ?_
          have hu2 := hload_le G.base hu
          have H := G.app H
          simp -implicitDefEqProofs (disch := first | omega | (simp only [List.length_set, List.length_replicate, List.length_append, List.length_map, List.length_take, List.length_cons, List.length_nil]; omega)) [wrap64, hu2]
          refine (c_after hs hxo hin (R0.on H) (Ru.on G)).go ?_
          intro o h6 HO
          obtain ⟨o1, o2, rfl, HO2⟩ := HO.unSta
          have hC1 := HO2.rep.one
          have hC2 := HO2.sw1.rep.one
          have H := (HO.app H).sw1
          simp -implicitDefEqProofs (disch := first | omega | (simp only [List.length_set, List.length_replicate, List.length_append, List.length_map, List.length_take, List.length_cons, List.length_nil]; omega)) [wrap64]
          refine HS.bxst (o := 0) (sz := 2) (u := .agg #[o1, o2]) H rfl rfl rfl (by simp [hC1, hC2]) (by simp) fun h8 H => ?_
          simp -implicitDefEqProofs (disch := first | omega | (simp only [List.length_set, List.length_replicate, List.length_append, List.length_map, List.length_take, List.length_cons, List.length_nil]; omega)) [wrap64]
          exact hK _ _ ⟨b, o1, o2, _, rfl, H⟩
      rintro _ h6 ⟨b, o1, o2, r, rfl, H⟩
      have hb : hload h6 (some (.pointer (some ⟨b, 0, none⟩))) (some 2) = some (.agg #[o1, o2]) := H.bxlds (o := 0) (n := 2) (by simp)
      simp -implicitDefEqProofs (disch := first | omega | (simp only [List.length_set, List.length_replicate, List.length_append, List.length_map, List.length_take, List.length_cons, List.length_nil]; omega)) [wrap64]
      refine (c_IndexFunc_impl_State H.sw2.rep (c1 := []) (c2 := [.pointer (some ⟨b, 0, none⟩)]) (f := fn_impl_System_build_1) rfl (fun y => decide (y = x.aft s t)) ?_).go ?_
      · intro h7 hl j hj w Rw
        exact c_build_1 Rw (H.sw1.rep.le hl) (hload_le hl hb)
      rintro _ h7 ⟨l7, hv⟩
      have hv : _ = Value.int .i64 (fx p.1 (x.aft s t)) := hv
      subst hv
      have hb := hload_le l7 hb
      have H := H.le l7
      by_cases q1 : x.aft s t ∈ p.1
      · obtain ⟨i', hi', e1, e2⟩ := fx_mem q1
        simp -implicitDefEqProofs (disch := first | omega | (simp only [List.length_set, List.length_replicate, List.length_append, List.length_map, List.length_take, List.length_cons, List.length_nil]; omega)) [wrap64, e1, show ¬ ((i' : Int) < 0) by omega]
        refine (c_Contains_int H.sw3.rep).go ?_
        rintro _ h8 ⟨rfl, rfl⟩
        by_cases q2 : (i' : Int) ∈ p.2
        · simp -implicitDefEqProofs (disch := first | omega | (simp only [List.length_set, List.length_replicate, List.length_append, List.length_map, List.length_take, List.length_cons, List.length_nil]; omega)) [wrap64, q2]
          refine hJ1 _ _ hm ⟨xs, q, by simp, ?_⟩
          rw [hsu, g1]
          simp only [adS, atS, q1, if_pos, if_neg, not_false_eq_true, e1, adI, q2]
          exact H.drop.drop
        · simp -implicitDefEqProofs (disch := first | omega | (simp only [List.length_set, List.length_replicate, List.length_append, List.length_map, List.length_take, List.length_cons, List.length_nil]; omega)) [wrap64, q2, setC]
          refine HS.app1 (bytes := 8) H.sw3 (i' : Int) rfl rfl rfl (by exact ⟨by omega, by omega⟩) rfl rfl (by omega) (by omega) fun q' h9 H => ?_
          simp -implicitDefEqProofs (disch := first | omega | (simp only [List.length_set, List.length_replicate, List.length_append, List.length_map, List.length_take, List.length_cons, List.length_nil]; omega)) [wrap64]
          refine hJ1 _ _ hm ⟨xs, q', by simp, ?_⟩
          rw [hsu, g1]
          simp only [adS, atS, q1, if_pos, if_neg, not_false_eq_true, e1, adI, q2]
          exact H.bk3.drop.drop
      · have e1 : (p.1.length : Int) = p.1.length := rfl
        have hC1 := H.sw1.rep.aSta
        simp -implicitDefEqProofs (disch := first | omega | (simp only [List.length_set, List.length_replicate, List.length_append, List.length_map, List.length_take, List.length_cons, List.length_nil]; omega)) [wrap64, fx_not q1, H.sw2.rep.len, hb, setC, hC1]
        refine HS.appO (bytes := 48) (H.drop.sw1.bk1) rfl rfl rfl rfl rfl (by omega) (by omega) fun xs' h8 H => ?_
        simp -implicitDefEqProofs (disch := first | omega | (simp only [List.length_set, List.length_replicate, List.length_append, List.length_map, List.length_take, List.length_cons, List.length_nil]; omega)) [wrap64, setC, H.rep.cells, H.rep.one]
        refine (c_Contains_int H.sw1.rep).go ?_
        rintro _ h8 ⟨rfl, rfl⟩
        by_cases q2 : (p.1.length : Int) ∈ p.2
        · simp -implicitDefEqProofs (disch := first | omega | (simp only [List.length_set, List.length_replicate, List.length_append, List.length_map, List.length_take, List.length_cons, List.length_nil]; omega)) [wrap64, q2]
          refine hJ1 _ _ hm ⟨xs', q, by simp, ?_⟩
          rw [hsu, g1]
          simp only [adS, atS, q1, if_pos, if_neg, not_false_eq_true, e1, adI, q2]
          exact H
        · simp -implicitDefEqProofs (disch := first | omega | (simp only [List.length_set, List.length_replicate, List.length_append, List.length_map, List.length_take, List.length_cons, List.length_nil]; omega)) [wrap64, q2, setC]
          refine HS.app1 (bytes := 8) H.sw1 (p.1.length : Int) rfl rfl rfl (by exact ⟨by omega, by omega⟩) rfl rfl (by omega) (by omega) fun q' h9 H => ?_
          simp -implicitDefEqProofs (disch := first | omega | (simp only [List.length_set, List.length_replicate, List.length_append, List.length_map, List.length_take, List.length_cons, List.length_nil]; omega)) [wrap64]
          refine hJ1 _ _ hm ⟨xs', q', by simp, ?_⟩
          rw [hsu, g1]
          simp only [adS, atS, q1, if_pos, if_neg, not_false_eq_true, e1, adI, q2]
          exact H.sw1
    obtain rfl : m = (enb s x).length := by omega
    have gi := gF_inv (xs := g.states) hs hxo inv.ok _ (Nat.le_refl (enb s x).length)
    generalize gF s x (enb s x).length g.states = p at gi hsucc H
    have hge := gi.ge
    have hl2 := gi.l2
    by_cases q0 : p.2 = []
    · have hl0 : (p.2.length : Int) = 0 := by rw [q0]; rfl
      simp -implicitDefEqProofs (disch := first | omega | (simp only [List.length_set, List.length_replicate, List.length_append, List.length_map, List.length_take, List.length_cons, List.length_nil]; omega)) [wrap64, H.sw1.rep.len, hl0]
      refine H.bls [(i : Int)] rfl rfl (by simp; exact ⟨by omega, by omega⟩) (by decide) fun q' h6 H => ?_
      simp -implicitDefEqProofs (disch := first | omega | (simp only [List.length_set, List.length_replicate, List.length_append, List.length_map, List.length_take, List.length_cons, List.length_nil]; omega)) [wrap64]
      have H : HS h [ow q' (nxS i p.2), ow xs p.1, ow q p.2, ow nx g.next, ow el (enb s x)] h6 := by rw [nxS, if_pos q0]; exact H
      replace H := H.sw2.drop
      refine (c_Clip_int (x := nxS i p.2) H).go ?_
      intro q' h6 H
      have hcl := H.rep.cells
      simp -implicitDefEqProofs (disch := first | omega | (simp only [List.length_set, List.length_replicate, List.length_append, List.length_map, List.length_take, List.length_cons, List.length_nil]; omega)) [wrap64, setC, H.rep.cells, H.rep.one]
      refine HS.appO (bytes := 24) H.sw2.sw1 rfl rfl (by rw [hcl]) rfl rfl (by omega) (by omega) fun nx' h7 H => ?_
      simp -implicitDefEqProofs (disch := first | omega | (simp only [List.length_set, List.length_replicate, List.length_append, List.length_map, List.length_take, List.length_cons, List.length_nil]; omega)) [wrap64, setC, H.rep.cells, H.rep.one, H.sw1.rep.len]
      by_cases q2 : 60 < (p.1.length : Int)
      · simp -implicitDefEqProofs (disch := first | omega | (simp only [List.length_set, List.length_replicate, List.length_append, List.length_map, List.length_take, List.length_cons, List.length_nil]; omega)) [wrap64, q2, setC]
        exact RetK.keep (hno (bg_big (n := i + 1) hs (by omega) (by rw [hsucc]; simp only; omega)) H.base)
      · simp -implicitDefEqProofs (disch := first | omega | (simp only [List.length_set, List.length_replicate, List.length_append, List.length_map, List.length_take, List.length_cons, List.length_nil]; omega)) [wrap64, q2]
        exact hJ (i + 1) _ _ (by omega) ⟨xs, nx', by simp, by rw [hsucc]; exact H.sw1.sw2.drop, by rw [hsucc]; simp only; omega, by rw [hsucc]; simp only; omega⟩
    · have hl0 : ¬ (p.2.length : Int) = 0 := fun e => q0 (List.length_eq_zero_iff.1 (by omega))
      simp -implicitDefEqProofs (disch := first | omega | (simp only [List.length_set, List.length_replicate, List.length_append, List.length_map, List.length_take, List.length_cons, List.length_nil]; omega)) [wrap64, H.sw1.rep.len, q0]
      have H : HS h [ow q (nxS i p.2), ow xs p.1, ow nx g.next, ow el (enb s x)] h5 := by rw [nxS, if_neg q0]; exact H.sw1
      refine (c_Clip_int (x := nxS i p.2) H).go ?_
      intro q' h6 H
      have hcl := H.rep.cells
      simp -implicitDefEqProofs (disch := first | omega | (simp only [List.length_set, List.length_replicate, List.length_append, List.length_map, List.length_take, List.length_cons, List.length_nil]; omega)) [wrap64, setC, H.rep.cells, H.rep.one]
      refine HS.appO (bytes := 24) H.sw2.sw1 rfl rfl (by rw [hcl]) rfl rfl (by omega) (by omega) fun nx' h7 H => ?_
      simp -implicitDefEqProofs (disch := first | omega | (simp only [List.length_set, List.length_replicate, List.length_append, List.length_map, List.length_take, List.length_cons, List.length_nil]; omega)) [wrap64, setC, H.rep.cells, H.rep.one, H.sw1.rep.len]
      by_cases q2 : 60 < (p.1.length : Int)
      · simp -implicitDefEqProofs (disch := first | omega | (simp only [List.length_set, List.length_replicate, List.length_append, List.length_map, List.length_take, List.length_cons, List.length_nil]; omega)) [wrap64, q2, setC]
        exact RetK.keep (hno (bg_big (n := i + 1) hs (by omega) (by rw [hsucc]; simp only; omega)) H.base)
      · simp -implicitDefEqProofs (disch := first | omega | (simp only [List.length_set, List.length_replicate, List.length_append, List.length_map, List.length_take, List.length_cons, List.length_nil]; omega)) [wrap64, q2]
        exact hJ (i + 1) _ _ (by omega) ⟨xs, nx', by simp, by rw [hsucc]; exact H.sw1.sw2.drop, by rw [hsucc]; simp only; omega, by rw [hsucc]; simp only; omega⟩
  · simp -implicitDefEqProofs (disch := first | omega | (simp only [List.length_set, List.length_replicate, List.length_append, List.length_map, List.length_take, List.length_cons, List.length_nil]; omega)) [wrap64]
    obtain ⟨b1, b2⟩ := bg_end (n := i) hs (by omega) (by omega)
    rw [b2] at H
    refine (c_Clip_impl_State H).go ?_
    intro xs' h4 H
    simp -implicitDefEqProofs (disch := first | omega | (simp only [List.length_set, List.length_replicate, List.length_append, List.length_map, List.length_take, List.length_cons, List.length_nil]; omega)) [wrap64]
    refine (c_Clip_S_int H.sw1).go ?_
    intro nx' h5 H
    simp -implicitDefEqProofs (disch := first | omega | (simp only [List.length_set, List.length_replicate, List.length_append, List.length_map, List.length_take, List.length_cons, List.length_nil]; omega)) [wrap64, setC, H.rep.cells, H.rep.one, H.sw1.rep.cells, H.sw1.rep.one]
    exact RetK.keep (hk _ _ ⟨_, by rw [decide_eq_true b1], HS.mkGr H.sw1⟩)
end Go.Proofs.Ytonjglbachhdcaa
