/-
  Texts of this proof, one behind the other.
-/
import Derived.Test.YthgimpheeemooaaM5
/-
  Arguments of laws: valid expressions, copies, guards that are drawn.
-/
namespace Go.Proofs.Ythgimpheeemooaa
open Go
set_option linter.all false
set_option linter.unusedVariables false
set_option linter.unusedSimpArgs false
set_option linter.defProp false
set_option maxRecDepth 1000000

theorem Exq.len_nods : ∀ {l : List Exq}, l.length ≤ Exq.nods l
  | [] => by simp
  | x :: l => by
    have := Exq.len_nods (l := l)
    have := x.nod_pos
    simp only [List.length_cons, Exq.nods]; omega
theorem HS.mkE0 {g h : Heap} {Γ : List HP} {kd vl : Int} (H : HS g Γ h) (h1 : I64 kd) (h2 : I64 vl) : HS g (ow (.agg #[.int .i64 kd, .int .i64 vl, .slice none 0 0]) (Exq.mk kd vl []) :: Γ) h := HS.mkExq' H.nil_ow h1 h2
theorem Exq.nod_mk0 {k v : Int} : (Exq.mk k v []).nod = 1 := rfl

theorem c_l1Expr {g h : Heap} {Γ : List HP} {b : Nat} {sl : Value} {l : List (BitVec 8)} {p : Int} (R : Rep g sl l) (H : HS g (rb b sl p :: Γ) h) (hp : 0 ≤ p) (hp2 : p + 100 ≤ 1000000000000) :
    CallE Try.prog fn_spec_l1Expr [.pointer (some ⟨b, 0, none⟩)] h (fun u h' => ∃ (y : Exq) (p' : Int), HS g (ow u y :: rb b sl p' :: Γ) h' ∧ y.nod ≤ 31 ∧ p ≤ p' ∧ p' ≤ p + 70) := by
  refine CallE.gen fun k hk => EN_spec_l1Expr rfl ?_
  simp -implicitDefEqProofs (disch := first | omega | (simp only [List.length_set, List.length_replicate, List.length_append, List.length_map, List.length_take, List.length_cons, List.length_nil]; omega)) [wrap64]
  refine H.bls [(3 : Int), 2, 3, 4] rfl rfl (okL (by decide)) (by decide) fun v h1 H => ?_
  simp -implicitDefEqProofs (disch := first | omega | (simp only [List.length_set, List.length_replicate, List.length_append, List.length_map, List.length_take, List.length_cons, List.length_nil]; omega)) [wrap64]
  refine (c_num R H (by omega) (by omega) (by simp)).go ?_
  rintro _ h2 ⟨r, rfl, _, hr, H⟩
  obtain ⟨d, rfl, hd, hpw⟩ : ∃ d : Nat, r = d ∧ d ≤ 4 ∧ 2 ^ d ≤ 16 := by
    simp at hr
    rcases hr with rfl | rfl | rfl | rfl
    · exact ⟨3, rfl, by decide, by decide⟩
    · exact ⟨2, rfl, by decide, by decide⟩
    · exact ⟨3, rfl, by decide, by decide⟩
    · exact ⟨4, rfl, by decide, by decide⟩
  simp -implicitDefEqProofs (disch := first | omega | (simp only [List.length_set, List.length_replicate, List.length_append, List.length_map, List.length_take, List.length_cons, List.length_nil]; omega)) [wrap64]
  refine (c_l1Random d hd R H (by omega) (by omega)).go ?_
  rintro _ h3 ⟨y, p1, H, hy, hp3, hp4⟩
  have hy2 : y.nod ≤ 31 := by rw [Nat.pow_succ] at hy; omega
  have FA := H.rep.aExq
  simp -implicitDefEqProofs (disch := first | omega | (simp only [List.length_set, List.length_replicate, List.length_append, List.length_map, List.length_take, List.length_cons, List.length_nil]; omega)) [wrap64, FA]
  refine (c_spec_ExprValid H.rep).go ?_
  rintro _ h3 ⟨rfl, rfl⟩
  by_cases q : y.Ok
  · simp -implicitDefEqProofs (disch := first | omega | (simp only [List.length_set, List.length_replicate, List.length_append, List.length_map, List.length_take, List.length_cons, List.length_nil]; omega)) [wrap64, q, FA, setC]
    exact RetK.keep (hk _ _ ⟨y, p1, H, hy2, by omega, by omega⟩)
  · simp -implicitDefEqProofs (disch := first | omega | (simp only [List.length_set, List.length_replicate, List.length_append, List.length_map, List.length_take, List.length_cons, List.length_nil]; omega)) [wrap64, q]
    refine (c_pick (n := 3) R H.sw1 (by omega) (by omega) ⟨by decide, by decide⟩).go ?_
    rintro _ h4 ⟨r1, rfl, o1, z1, y1, H⟩
    simp -implicitDefEqProofs (disch := first | omega | (simp only [List.length_set, List.length_replicate, List.length_append, List.length_map, List.length_take, List.length_cons, List.length_nil]; omega)) [wrap64, setC]
    exact RetK.keep (hk _ _ ⟨Exq.mk 2 r1 [], _, (H.sw1.drop).mkE0 ⟨by decide, by decide⟩ o1, by rw [Exq.nod_mk0]; omega, by omega, by omega⟩)

/-- expressions without parts -/
def ez : Value := .agg #[.int .i64 0, .int .i64 0, .slice none 0 0]
theorem c_l1Subst0 {h : Heap} : CallE Try.prog fn_spec_l1Subst [ez, .int .i64 (-1), ez] h (fun u h' => HS h [ow u Exq.zero] h') := by
  refine CallE.gen fun k hk => EN_spec_l1Subst rfl ?_
  simp -implicitDefEqProofs (disch := first | omega | (simp only [List.length_set, List.length_replicate, List.length_append, List.length_map, List.length_take, List.length_cons, List.length_nil]; omega)) [wrap64, ez, setC]
  refine wp_count 0 (fun i e h' => e = [none, some (.int .i64 (-1)), none, some ez, some ez, some ez, some ez, some (.int .i64 i)] ∧ h' = h) ⟨by simp [ez], rfl⟩ ?_
  rintro J i _ h1 hJ hi ⟨rfl, rfl⟩
  obtain rfl : i = 0 := by omega
  have hL0 : lenVV (.slice none 0 0) = some (.int .i64 0) := rfl
  simp -implicitDefEqProofs (disch := first | omega | (simp only [List.length_set, List.length_replicate, List.length_append, List.length_map, List.length_take, List.length_cons, List.length_nil]; omega)) [wrap64, ez, setC, hL0]
  exact RetK.keep (hk _ _ (HS.mkE0 HS.init ⟨by decide, by decide⟩ ⟨by decide, by decide⟩))
theorem c_l1Subst : ∀ (x : Exq) {h : Heap} {v : Value}, Rep h v x → x.nod ≤ 1000 → CallE Try.prog fn_spec_l1Subst [v, .int .i64 (-1), ez] h (fun u h' => ∃ y : Exq, HS h [ow u y] h' ∧ y.nod ≤ x.nod) := by
  refine Exq.ind fun x ih => ?_
  intro h v R hn
  have hne := Exq.nod_eq x
  obtain ⟨w, rfl, k1, k2, Rw⟩ := Rep_Exq.1 R
  have hR1 := Rw.one
  have hkl : x.kids.length ≤ Exq.nods x.kids := Exq.len_nods
  refine CallE.gen fun k hk => EN_spec_l1Subst rfl ?_
  by_cases c1 : x.kind = 2 ∧ x.val = -1
  · simp -implicitDefEqProofs (disch := first | omega | (simp only [List.length_set, List.length_replicate, List.length_append, List.length_map, List.length_take, List.length_cons, List.length_nil]; omega)) [wrap64, ez, setC, hR1, c1]
    refine c_l1Subst0.go ?_
    intro u h1 H
    have hA := H.rep.aExq
    simp -implicitDefEqProofs (disch := first | omega | (simp only [List.length_set, List.length_replicate, List.length_append, List.length_map, List.length_take, List.length_cons, List.length_nil]; omega)) [wrap64, setC, hA]
    exact RetK.keep (hk _ _ ⟨_, H, by rw [show Exq.zero.nod = 1 from rfl]; omega⟩)
  · have c1' : x.kind = 2 → ¬ x.val = -1 := fun e e2 => c1 ⟨e, e2⟩
    by_cases c2 : x.kind = 2
    · have c3 := c1' c2
      simp -implicitDefEqProofs (disch := first | omega | (simp only [List.length_set, List.length_replicate, List.length_append, List.length_map, List.length_take, List.length_cons, List.length_nil]; omega)) [wrap64, ez, setC, hR1, c2, c3]
      refine wp_count x.kids.length (fun i e h' => ∃ (ks : List Exq) (w' : Value), e = [none, some (.int .i64 (-1)), none, some (.agg #[.int .i64 2, .int .i64 x.val, w]), some ez, some ez, some (.agg #[.int .i64 2, .int .i64 x.val, w']), some (.int .i64 i)] ∧ HS h [ow w' ks] h' ∧ ks.length = i ∧ Exq.nods ks ≤ Exq.nods (x.kids.take i)) ⟨[], .slice none 0 0, by simp [ez], HS.init.nil_ow, rfl, by simp [Exq.nods]⟩ ?_
      rintro J i _ h1 hJ hi ⟨ks, w', rfl, H, hkl2, hkn⟩
      have hO := H.rep.one
      have hC := H.rep.cells
      simp -implicitDefEqProofs (disch := first | omega | (simp only [List.length_set, List.length_replicate, List.length_append, List.length_map, List.length_take, List.length_cons, List.length_nil]; omega)) [wrap64, Rw.len]
      refine IteW.mk (fun hlt => ?_) (fun hge => ?_)
      · have hlx : i < x.kids.length := by omega
        obtain ⟨u, hu, Ru⟩ := (Rw.on H).ld hlx
        change hload _ (some (elp 3 w i)) (some 3) = some u at hu
        have hnt := Exq.nods_take hlx
        have hnl := Exq.nods_le x.kids (i + 1)
        simp -implicitDefEqProofs (disch := first | omega | (simp only [List.length_set, List.length_replicate, List.length_append, List.length_map, List.length_take, List.length_cons, List.length_nil]; omega)) [wrap64, ez, setC, (Rw.on H).X (n := 3) rfl, hu, Ru.aExq]
        refine (ih _ (List.getElem_mem hlx) Ru (by omega)).go ?_
        rintro o h2 ⟨y, G, hy⟩
        obtain ⟨wy, rfl, ky1, ky2, G'⟩ := G.unExq
        have hO' := G'.rep.one
        have hC' := G'.rep.cells
        have H := G.app H
        simp -implicitDefEqProofs (disch := first | omega | (simp only [List.length_set, List.length_replicate, List.length_append, List.length_map, List.length_take, List.length_cons, List.length_nil]; omega)) [wrap64, ez, setC, hO', hC']
        refine HS.appO (bytes := 40) H rfl rfl rfl rfl rfl (by omega) (by omega) fun w2 h3 H => ?_
        have hO2 := H.rep.one
        have hC2 := H.rep.cells
        simp -implicitDefEqProofs (disch := first | omega | (simp only [List.length_set, List.length_replicate, List.length_append, List.length_map, List.length_take, List.length_cons, List.length_nil]; omega)) [wrap64, ez, setC, hO2, hC2]
        refine hJ _ _ hlx ⟨ks ++ [y], w2, by simp [ez], H, by simp [hkl2], ?_⟩
        rw [Exq.nods_append, show Exq.nods [y] = y.nod by simp [Exq.nods]]
        omega
      · simp -implicitDefEqProofs (disch := first | omega | (simp only [List.length_set, List.length_replicate, List.length_append, List.length_map, List.length_take, List.length_cons, List.length_nil]; omega)) [wrap64, ez, setC, hO, hC]
        rw [List.take_of_length_le (by omega)] at hkn
        refine RetK.keep (hk _ _ ⟨Exq.mk 2 x.val ks, HS.mkExq' H ⟨by decide, by decide⟩ k2, ?_⟩)
        rw [Exq.nod_eq, Exq.kids_mk]; omega
    · simp -implicitDefEqProofs (disch := first | omega | (simp only [List.length_set, List.length_replicate, List.length_append, List.length_map, List.length_take, List.length_cons, List.length_nil]; omega)) [wrap64, ez, setC, hR1, c2]
      refine wp_count x.kids.length (fun i e h' => ∃ (ks : List Exq) (w' : Value), e = [none, some (.int .i64 (-1)), none, some (.agg #[.int .i64 x.kind, .int .i64 x.val, w]), some ez, some ez, some (.agg #[.int .i64 x.kind, .int .i64 x.val, w']), some (.int .i64 i)] ∧ HS h [ow w' ks] h' ∧ ks.length = i ∧ Exq.nods ks ≤ Exq.nods (x.kids.take i)) ⟨[], .slice none 0 0, by simp [ez], HS.init.nil_ow, rfl, by simp [Exq.nods]⟩ ?_
      rintro J i _ h1 hJ hi ⟨ks, w', rfl, H, hkl2, hkn⟩
      have hO := H.rep.one
      have hC := H.rep.cells
      simp -implicitDefEqProofs (disch := first | omega | (simp only [List.length_set, List.length_replicate, List.length_append, List.length_map, List.length_take, List.length_cons, List.length_nil]; omega)) [wrap64, Rw.len]
      refine IteW.mk (fun hlt => ?_) (fun hge => ?_)
      · have hlx : i < x.kids.length := by omega
        obtain ⟨u, hu, Ru⟩ := (Rw.on H).ld hlx
        change hload _ (some (elp 3 w i)) (some 3) = some u at hu
        have hnt := Exq.nods_take hlx
        have hnl := Exq.nods_le x.kids (i + 1)
        simp -implicitDefEqProofs (disch := first | omega | (simp only [List.length_set, List.length_replicate, List.length_append, List.length_map, List.length_take, List.length_cons, List.length_nil]; omega)) [wrap64, ez, setC, (Rw.on H).X (n := 3) rfl, hu, Ru.aExq]
        refine (ih _ (List.getElem_mem hlx) Ru (by omega)).go ?_
        rintro o h2 ⟨y, G, hy⟩
        obtain ⟨wy, rfl, ky1, ky2, G'⟩ := G.unExq
        have hO' := G'.rep.one
        have hC' := G'.rep.cells
        have H := G.app H
        simp -implicitDefEqProofs (disch := first | omega | (simp only [List.length_set, List.length_replicate, List.length_append, List.length_map, List.length_take, List.length_cons, List.length_nil]; omega)) [wrap64, ez, setC, hO', hC']
        refine HS.appO (bytes := 40) H rfl rfl rfl rfl rfl (by omega) (by omega) fun w2 h3 H => ?_
        have hO2 := H.rep.one
        have hC2 := H.rep.cells
        simp -implicitDefEqProofs (disch := first | omega | (simp only [List.length_set, List.length_replicate, List.length_append, List.length_map, List.length_take, List.length_cons, List.length_nil]; omega)) [wrap64, ez, setC, hO2, hC2]
        refine hJ _ _ hlx ⟨ks ++ [y], w2, by simp [ez], H, by simp [hkl2], ?_⟩
        rw [Exq.nods_append, show Exq.nods [y] = y.nod by simp [Exq.nods]]
        omega
      · simp -implicitDefEqProofs (disch := first | omega | (simp only [List.length_set, List.length_replicate, List.length_append, List.length_map, List.length_take, List.length_cons, List.length_nil]; omega)) [wrap64, ez, setC, hO, hC]
        rw [List.take_of_length_le (by omega)] at hkn
        refine RetK.keep (hk _ _ ⟨Exq.mk x.kind x.val ks, HS.mkExq' H k1 k2, ?_⟩)
        rw [Exq.nod_eq, Exq.kids_mk]; omega
end Go.Proofs.Ythgimpheeemooaa

/-
  Arguments of laws: changed expressions, guards that are drawn.
-/
namespace Go.Proofs.Ythgimpheeemooaa
open Go
set_option linter.all false
set_option linter.unusedVariables false
set_option linter.unusedSimpArgs false
set_option linter.defProp false
set_option maxRecDepth 1000000

theorem c_l1Mutate {g h : Heap} {Γ : List HP} {b : Nat} {sl v : Value} {l : List (BitVec 8)} {p : Int} {x : Exq} (R : Rep g sl l) (Rx : Rep g v x) (hx : x.nod ≤ 1000) (H : HS g (rb b sl p :: Γ) h) (hp : 0 ≤ p) (hp2 : p + 100 ≤ 1000000000000) :
    CallE Try.prog fn_spec_l1Mutate [.pointer (some ⟨b, 0, none⟩), v] h (fun u h' => ∃ (y : Exq) (p' : Int), HS g (ow u y :: rb b sl p' :: Γ) h' ∧ y.nod ≤ x.nod + 1 ∧ p ≤ p' ∧ p' ≤ p + 2) := by
  have FX := Rx.aExq
  have hnp := x.nod_pos
  refine CallE.gen fun k hk => EN_spec_l1Mutate rfl ?_
  simp -implicitDefEqProofs (disch := first | omega | (simp only [List.length_set, List.length_replicate, List.length_append, List.length_map, List.length_take, List.length_cons, List.length_nil]; omega)) [wrap64, FX]
  refine (c_l1Subst x (Rx.on H) hx).go ?_
  rintro o h1 ⟨y, G, hy⟩
  obtain ⟨w, rfl, k1, k2, G'⟩ := G.unExq
  have hO := G'.rep.one
  have hC := G'.rep.cells
  have H := G'.app H
  have hyn := Exq.nod_eq y
  have hyl := Exq.len_nods (l := y.kids)
  simp -implicitDefEqProofs (disch := first | omega | (simp only [List.length_set, List.length_replicate, List.length_append, List.length_map, List.length_take, List.length_cons, List.length_nil]; omega)) [wrap64, setC, hO, hC]
  refine (c_pick (n := 40) R H.sw1 (by omega) (by omega) ⟨by decide, by decide⟩).go ?_
  rintro _ h2 ⟨r, rfl, o1, z1, y1, H⟩
  by_cases c0 : r = 0
  · simp -implicitDefEqProofs (disch := first | omega | (simp only [List.length_set, List.length_replicate, List.length_append, List.length_map, List.length_take, List.length_cons, List.length_nil]; omega)) [wrap64, c0]
    refine H.bls [(0 : Int), 10, -1, 1, 2, 3, 4] rfl rfl (okL (by decide)) (by decide) fun q h3 H => ?_
    simp -implicitDefEqProofs (disch := first | omega | (simp only [List.length_set, List.length_replicate, List.length_append, List.length_map, List.length_take, List.length_cons, List.length_nil]; omega)) [wrap64]
    refine (c_num R H (by omega) (by omega) (by simp)).go ?_
    rintro _ h4 ⟨r2, rfl, o2, _, H⟩
    simp -implicitDefEqProofs (disch := first | omega | (simp only [List.length_set, List.length_replicate, List.length_append, List.length_map, List.length_take, List.length_cons, List.length_nil]; omega)) [wrap64, setC, hO, hC]
    exact RetK.keep (hk _ _ ⟨Exq.mk r2 y.val y.kids, _, HS.mkExq' H.sw1 o2 k2, by rw [Exq.nod_eq, Exq.kids_mk]; omega, by omega, by omega⟩)
  by_cases c1 : r = 1
  · simp -implicitDefEqProofs (disch := first | omega | (simp only [List.length_set, List.length_replicate, List.length_append, List.length_map, List.length_take, List.length_cons, List.length_nil]; omega)) [wrap64, c0, c1]
    refine H.bls [(-1 : Int), 4, 3, 9223372036854775807] rfl rfl (okL (by decide)) (by decide) fun q h3 H => ?_
    simp -implicitDefEqProofs (disch := first | omega | (simp only [List.length_set, List.length_replicate, List.length_append, List.length_map, List.length_take, List.length_cons, List.length_nil]; omega)) [wrap64]
    refine (c_num R H (by omega) (by omega) (by simp)).go ?_
    rintro _ h4 ⟨r2, rfl, o2, _, H⟩
    simp -implicitDefEqProofs (disch := first | omega | (simp only [List.length_set, List.length_replicate, List.length_append, List.length_map, List.length_take, List.length_cons, List.length_nil]; omega)) [wrap64, setC, hO, hC]
    exact RetK.keep (hk _ _ ⟨Exq.mk y.kind r2 y.kids, _, HS.mkExq' H.sw1 k1 o2, by rw [Exq.nod_eq, Exq.kids_mk]; omega, by omega, by omega⟩)
  by_cases c2 : r = 2
  · simp -implicitDefEqProofs (disch := first | omega | (simp only [List.length_set, List.length_replicate, List.length_append, List.length_map, List.length_take, List.length_cons, List.length_nil]; omega)) [wrap64, c0, c1, c2, setC]
    refine HS.appO (bytes := 40) (H.sw1.mkE0 (kd := 1) (vl := 0) ⟨by decide, by decide⟩ ⟨by decide, by decide⟩) rfl rfl rfl rfl rfl (by omega) (by omega) fun w2 h3 H => ?_
    have hO2 := H.rep.one
    have hC2 := H.rep.cells
    simp -implicitDefEqProofs (disch := first | omega | (simp only [List.length_set, List.length_replicate, List.length_append, List.length_map, List.length_take, List.length_cons, List.length_nil]; omega)) [wrap64, setC, hO2, hC2]
    refine RetK.keep (hk _ _ ⟨Exq.mk y.kind y.val _, _, HS.mkExq' H k1 k2, ?_, by omega, by omega⟩)
    rw [Exq.nod_eq, Exq.kids_mk, Exq.nods_append, show Exq.nods [Exq.mk 1 0 []] = 1 from rfl]; omega
  by_cases c3 : r = 3
  · simp -implicitDefEqProofs (disch := first | omega | (simp only [List.length_set, List.length_replicate, List.length_append, List.length_map, List.length_take, List.length_cons, List.length_nil]; omega)) [wrap64, c0, c1, c2, c3, setC]
    exact RetK.keep (hk _ _ ⟨Exq.mk 0 0 [], _, (H.sw1.drop).mkE0 ⟨by decide, by decide⟩ ⟨by decide, by decide⟩, by rw [Exq.nod_mk0]; omega, by omega, by omega⟩)
  · simp -implicitDefEqProofs (disch := first | omega | (simp only [List.length_set, List.length_replicate, List.length_append, List.length_map, List.length_take, List.length_cons, List.length_nil]; omega)) [wrap64, c0, c1, c2, c3, setC, hO, hC]
    exact RetK.keep (hk _ _ ⟨y, _, HS.mkExq H.sw1 k1 k2, by omega, by omega, by omega⟩)

theorem c_l2Guard {g h : Heap} {Γ : List HP} {b : Nat} {sl : Value} {l : List (BitVec 8)} {p : Int} (R : Rep g sl l) (H : HS g (rb b sl p :: Γ) h) (hp : 0 ≤ p) (hp2 : p + 100 ≤ 1000000000000) :
    CallE Try.prog fn_spec_l2Guard [.pointer (some ⟨b, 0, none⟩)] h (fun u h' => ∃ (y : Exq) (p' : Int), HS g (ow u y :: rb b sl p' :: Γ) h' ∧ y.nod ≤ 4 ∧ p ≤ p' ∧ p' ≤ p + 5) := by
  refine CallE.gen fun k hk => EN_spec_l2Guard rfl ?_
  simp -implicitDefEqProofs (disch := first | omega | (simp only [List.length_set, List.length_replicate, List.length_append, List.length_map, List.length_take, List.length_cons, List.length_nil]; omega)) [wrap64]
  refine (c_pick (n := 3) R H (by omega) (by omega) ⟨by decide, by decide⟩).go ?_
  rintro _ h1 ⟨r1, rfl, o1, z1, y1, H⟩
  by_cases c1 : r1 = 0
  · simp -implicitDefEqProofs (disch := first | omega | (simp only [List.length_set, List.length_replicate, List.length_append, List.length_map, List.length_take, List.length_cons, List.length_nil]; omega)) [wrap64, c1, setC]
    exact RetK.keep (hk _ _ ⟨Exq.mk 1 1 [], _, H.mkE0 ⟨by decide, by decide⟩ ⟨by decide, by decide⟩, by rw [Exq.nod_mk0]; omega, by omega, by omega⟩)
  simp -implicitDefEqProofs (disch := first | omega | (simp only [List.length_set, List.length_replicate, List.length_append, List.length_map, List.length_take, List.length_cons, List.length_nil]; omega)) [wrap64, c1]
  refine H.bls [(0 : Int), 1, 0, 2] rfl rfl (okL (by decide)) (by decide) fun q h3 H => ?_
  simp -implicitDefEqProofs (disch := first | omega | (simp only [List.length_set, List.length_replicate, List.length_append, List.length_map, List.length_take, List.length_cons, List.length_nil]; omega)) [wrap64]
  refine (c_num R H (by omega) (by omega) (by simp)).go ?_
  rintro _ h4 ⟨r2, rfl, o2, _, H⟩
  simp -implicitDefEqProofs (disch := first | omega | (simp only [List.length_set, List.length_replicate, List.length_append, List.length_map, List.length_take, List.length_cons, List.length_nil]; omega)) [wrap64, setC]
  refine (c_pick (n := 3) R H (by omega) (by omega) ⟨by decide, by decide⟩).go ?_
  rintro _ h1 ⟨r3, rfl, o3, z3, y3, H⟩
  simp -implicitDefEqProofs (disch := first | omega | (simp only [List.length_set, List.length_replicate, List.length_append, List.length_map, List.length_take, List.length_cons, List.length_nil]; omega)) [wrap64, setC]
  refine pl_cut (fun e' h' => ∃ kd w r, e' = some (.pointer (some ⟨b, 0, none⟩)) :: some ez :: some (.agg #[.int .i64 2, .int .i64 r2, .slice none 0 0]) :: some (.agg #[.int .i64 1, .int .i64 r3, .slice none 0 0]) :: some (.agg #[.int .i64 kd, .int .i64 0, w]) :: r ∧ I64 kd ∧ HS g (ow w [Exq.mk 2 r2 [], Exq.mk 1 r3 []] :: rb b sl (p + 1 + 1 + 1 + 1) :: Γ) h') (fun K hK => ?_) ?_
  · refine ⟨?_, ?_⟩
    · simp -implicitDefEqProofs (disch := first | omega | (simp only [List.length_set, List.length_replicate, List.length_append, List.length_map, List.length_take, List.length_cons, List.length_nil]; omega)) [wrap64]
      refine H.bls [(6 : Int), 7, 6] rfl rfl (okL (by decide)) (by decide) fun q h6 H => ?_
      refine ⟨?_, ?_⟩
      · simp -implicitDefEqProofs (disch := first | omega | (simp only [List.length_set, List.length_replicate, List.length_append, List.length_map, List.length_take, List.length_cons, List.length_nil]; omega)) [wrap64]
        refine (c_num R H (by omega) (by omega) (by simp)).go ?_
        rintro _ h7 ⟨kd, rfl, okd, _, H⟩
        simp -implicitDefEqProofs (disch := first | omega | (simp only [List.length_set, List.length_replicate, List.length_append, List.length_map, List.length_take, List.length_cons, List.length_nil]; omega)) [wrap64]
        refine HS.blsO2 ((H.mkE0 (kd := 1) (vl := r3) ⟨by decide, by decide⟩ o3).mkE0 (kd := 2) (vl := r2) ⟨by decide, by decide⟩ o2) rfl fun w h8 H => ?_
        simp -implicitDefEqProofs (disch := first | omega | (simp only [List.length_set, List.length_replicate, List.length_append, List.length_map, List.length_take, List.length_cons, List.length_nil]; omega)) [wrap64, setC, H.rep.one, H.rep.cells]
        exact hK _ _ ⟨kd, w, _, rfl, okd, H⟩
      · simp -implicitDefEqProofs (disch := first | omega | (simp only [List.length_set, List.length_replicate, List.length_append, List.length_map, List.length_take, List.length_cons, List.length_nil]; omega)) [wrap64]
        refine HS.blsO2 ((H.mkE0 (kd := 1) (vl := r3) ⟨by decide, by decide⟩ o3).mkE0 (kd := 2) (vl := r2) ⟨by decide, by decide⟩ o2) rfl fun w h8 H => ?_
        simp -implicitDefEqProofs (disch := first | omega | (simp only [List.length_set, List.length_replicate, List.length_append, List.length_map, List.length_take, List.length_cons, List.length_nil]; omega)) [wrap64]
        refine (c_num R H.bk2 (by omega) (by omega) (by simp)).go ?_
        rintro _ h7 ⟨kd, rfl, okd, _, H⟩
        simp -implicitDefEqProofs (disch := first | omega | (simp only [List.length_set, List.length_replicate, List.length_append, List.length_map, List.length_take, List.length_cons, List.length_nil]; omega)) [wrap64, setC, H.sw1.rep.one, H.sw1.rep.cells]
        exact hK _ _ ⟨kd, w, _, rfl, okd, H.sw1⟩
    · simp -implicitDefEqProofs (disch := first | omega | (simp only [List.length_set, List.length_replicate, List.length_append, List.length_map, List.length_take, List.length_cons, List.length_nil]; omega)) [wrap64]
      refine HS.blsO2 ((H.mkE0 (kd := 1) (vl := r3) ⟨by decide, by decide⟩ o3).mkE0 (kd := 2) (vl := r2) ⟨by decide, by decide⟩ o2) rfl fun w h8 H => ?_
      simp -implicitDefEqProofs (disch := first | omega | (simp only [List.length_set, List.length_replicate, List.length_append, List.length_map, List.length_take, List.length_cons, List.length_nil]; omega)) [wrap64]
      refine H.bls [(6 : Int), 7, 6] rfl rfl (okL (by decide)) (by decide) fun q h6 H => ?_
      simp -implicitDefEqProofs (disch := first | omega | (simp only [List.length_set, List.length_replicate, List.length_append, List.length_map, List.length_take, List.length_cons, List.length_nil]; omega)) [wrap64]
      refine (c_num R H.sw1.bk2 (by omega) (by omega) (by simp)).go ?_
      rintro _ h7 ⟨kd, rfl, okd, _, H⟩
      simp -implicitDefEqProofs (disch := first | omega | (simp only [List.length_set, List.length_replicate, List.length_append, List.length_map, List.length_take, List.length_cons, List.length_nil]; omega)) [wrap64, setC, H.sw1.rep.one, H.sw1.rep.cells]
      exact hK _ _ ⟨kd, w, _, rfl, okd, H.sw1⟩
  rintro _ h5 ⟨kd, w, r, rfl, okd, H⟩
  have hO := H.rep.one
  have hC := H.rep.cells
  simp -implicitDefEqProofs (disch := first | omega | (simp only [List.length_set, List.length_replicate, List.length_append, List.length_map, List.length_take, List.length_cons, List.length_nil]; omega)) [wrap64]
  refine (c_pick (n := 5) R H.sw1 (by omega) (by omega) ⟨by decide, by decide⟩).go ?_
  rintro _ h6 ⟨r4, rfl, o4, z4, y4, H⟩
  by_cases c2 : r4 = 0
  · simp -implicitDefEqProofs (disch := first | omega | (simp only [List.length_set, List.length_replicate, List.length_append, List.length_map, List.length_take, List.length_cons, List.length_nil]; omega)) [wrap64, c2, setC, hO, hC]
    refine HS.blsO1 (HS.mkExq' (kd := kd) (vl := 0) H.sw1 okd ⟨by decide, by decide⟩) rfl fun w2 h7 H => ?_
    have hO2 := H.rep.one
    have hC2 := H.rep.cells
    simp -implicitDefEqProofs (disch := first | omega | (simp only [List.length_set, List.length_replicate, List.length_append, List.length_map, List.length_take, List.length_cons, List.length_nil]; omega)) [wrap64, setC, hO2, hC2, ez]
    exact RetK.keep (hk _ _ ⟨Exq.mk 3 0 _, _, HS.mkExq' H ⟨by decide, by decide⟩ ⟨by decide, by decide⟩, by simp [Exq.nods, Exq.nod], by omega, by omega⟩)
  · simp -implicitDefEqProofs (disch := first | omega | (simp only [List.length_set, List.length_replicate, List.length_append, List.length_map, List.length_take, List.length_cons, List.length_nil]; omega)) [wrap64, c2, setC, hO, hC, ez]
    exact RetK.keep (hk _ _ ⟨_, _, HS.mkExq' H.sw1 okd ⟨by decide, by decide⟩, by rw [Exq.nod_eq, Exq.kids_mk]; simp [Exq.nods, Exq.nod], by omega, by omega⟩)
end Go.Proofs.Ythgimpheeemooaa

/-
  Arguments of laws: systems that are drawn.
-/
namespace Go.Proofs.Ythgimpheeemooaa
open Go
set_option linter.all false
set_option linter.unusedVariables false
set_option linter.unusedSimpArgs false
set_option linter.defProp false
set_option maxRecDepth 1000000

structure Ed.Sm (n : Nat) (e : Ed) : Prop where
  g : e.guard.nod ≤ n
  v : e.value.nod ≤ n
structure Pr.Sm (n : Nat) (p : Pr) : Prop where
  el : p.edges.length ≤ n
  ee : ∀ e ∈ p.edges, e.Sm n
structure Sy.Sm (n : Nat) (s : Sy) : Prop where
  il : s.init.length ≤ n
  pl : s.procs.length ≤ n
  pp : ∀ p ∈ s.procs, p.Sm n

theorem c_l2DrawEdge {g h : Heap} {Γ : List HP} {b : Nat} {sl : Value} {l : List (BitVec 8)} {p n : Int} (R : Rep g sl l) (H : HS g (rb b sl p :: Γ) h) (hp : 0 ≤ p) (hp2 : p + 200 ≤ 1000000000000) (hn : I64 n) :
    CallE Try.prog fn_spec_l2DrawEdge [.pointer (some ⟨b, 0, none⟩), .int .i64 n] h (fun u h' => ∃ (y : Ed) (p' : Int), HS g (ow u y :: rb b sl p' :: Γ) h' ∧ y.Sm 40 ∧ p ≤ p' ∧ p' ≤ p + 90) := by
  have i0 : I64 0 := ⟨by decide, by decide⟩
  have i1 : I64 1 := ⟨by decide, by decide⟩
  have im : I64 (-1) := ⟨by decide, by decide⟩
  have i8 : I64 8 := ⟨by decide, by decide⟩
  have i9 : I64 9 := ⟨by decide, by decide⟩
  refine CallE.gen fun k hk => EN_spec_l2DrawEdge rfl ?_
  simp -implicitDefEqProofs (disch := first | omega | (simp only [List.length_set, List.length_replicate, List.length_append, List.length_map, List.length_take, List.length_cons, List.length_nil]; omega)) [wrap64]
  refine (c_pick R H (by omega) (by omega) hn).go ?_
  rintro _ h1 ⟨r1, rfl, o1, z1, y1, H⟩
  simp -implicitDefEqProofs (disch := first | omega | (simp only [List.length_set, List.length_replicate, List.length_append, List.length_map, List.length_take, List.length_cons, List.length_nil]; omega)) [wrap64]
  refine (c_pick R H (by omega) (by omega) hn).go ?_
  rintro _ h1 ⟨r2, rfl, o2, z2, y2, H⟩
  simp -implicitDefEqProofs (disch := first | omega | (simp only [List.length_set, List.length_replicate, List.length_append, List.length_map, List.length_take, List.length_cons, List.length_nil]; omega)) [wrap64]
  refine (c_l2Guard R H (by omega) (by omega)).go ?_
  rintro _ h1 ⟨gu, p1, H, hgn, hp3, hp4⟩
  obtain ⟨wg, rfl, k1, k2, H⟩ := H.unExq
  have hOg := H.rep.one
  have hCg := H.rep.cells
  simp -implicitDefEqProofs (disch := first | omega | (simp only [List.length_set, List.length_replicate, List.length_append, List.length_map, List.length_take, List.length_cons, List.length_nil]; omega)) [wrap64, setC, hOg, hCg]
  refine (c_pick (n := 3) R H.sw1 (by omega) (by omega) ⟨by decide, by decide⟩).go ?_
  rintro _ h1 ⟨r3, rfl, o3, z3, y3, H⟩
  by_cases c3 : 0 < r3
  case neg =>
    simp -implicitDefEqProofs (disch := first | omega | (simp only [List.length_set, List.length_replicate, List.length_append, List.length_map, List.length_take, List.length_cons, List.length_nil]; omega)) [wrap64, c3]
    have H := (H.sw1.nil_ow (α := Exq)).sw2
    refine (c_pick (n := 4) R H (by omega) (by omega) ⟨by decide, by decide⟩).go ?_
    rintro _ ht ⟨r9, rfl, o9, z9, y9, H⟩
    by_cases c9 : r9 = 0
    · simp -implicitDefEqProofs (disch := first | omega | (simp only [List.length_set, List.length_replicate, List.length_append, List.length_map, List.length_take, List.length_cons, List.length_nil]; omega)) [wrap64, c9]
      refine H.bls [(1 : Int), -1, 1, -1, 2, -2] rfl rfl (okL (by decide)) (by decide) fun q hq H => ?_
      simp -implicitDefEqProofs (disch := first | omega | (simp only [List.length_set, List.length_replicate, List.length_append, List.length_map, List.length_take, List.length_cons, List.length_nil]; omega)) [wrap64]
      refine (c_num R H (by omega) (by omega) (by simp)).go ?_
      rintro _ ht2 ⟨sy, rfl, osy, _, H⟩
      simp -implicitDefEqProofs (disch := first | omega | (simp only [List.length_set, List.length_replicate, List.length_append, List.length_map, List.length_take, List.length_cons, List.length_nil]; omega)) [wrap64, setC, hOg, hCg]
      exact RetK.keep (hk _ _ ⟨⟨r1, r2, gu, -1, (Exq.mk 0 0 []), sy⟩, _, HS.mkEd (e := ⟨r1, r2, gu, -1, (Exq.mk 0 0 []), sy⟩) (H.bk2.sw1) ⟨o1, o2, k1, k2, im, i0, i0, osy⟩, ⟨by dsimp only; omega, by simp [Exq.nod, Exq.nods]⟩, by omega, by omega⟩)
    · simp -implicitDefEqProofs (disch := first | omega | (simp only [List.length_set, List.length_replicate, List.length_append, List.length_map, List.length_take, List.length_cons, List.length_nil]; omega)) [wrap64, c9, setC, hOg, hCg]
      exact RetK.keep (hk _ _ ⟨⟨r1, r2, gu, -1, (Exq.mk 0 0 []), 0⟩, _, HS.mkEd (e := ⟨r1, r2, gu, -1, (Exq.mk 0 0 []), 0⟩) (H.bk2.sw1) ⟨o1, o2, k1, k2, im, i0, i0, i0⟩, ⟨by dsimp only; omega, by simp [Exq.nod, Exq.nods]⟩, by omega, by omega⟩)
  simp -implicitDefEqProofs (disch := first | omega | (simp only [List.length_set, List.length_replicate, List.length_append, List.length_map, List.length_take, List.length_cons, List.length_nil]; omega)) [wrap64, c3]
  refine H.bls [(0 : Int), 1, 0, 2] rfl rfl (okL (by decide)) (by decide) fun q hq H => ?_
  simp -implicitDefEqProofs (disch := first | omega | (simp only [List.length_set, List.length_replicate, List.length_append, List.length_map, List.length_take, List.length_cons, List.length_nil]; omega)) [wrap64]
  refine (c_num R H (by omega) (by omega) (by simp)).go ?_
  rintro _ ht2 ⟨vr, rfl, ovr, _, H⟩
  simp -implicitDefEqProofs (disch := first | omega | (simp only [List.length_set, List.length_replicate, List.length_append, List.length_map, List.length_take, List.length_cons, List.length_nil]; omega)) [wrap64, setC, hOg, hCg]
  refine (c_pick (n := 4) R H (by omega) (by omega) ⟨by decide, by decide⟩).go ?_
  rintro _ h1 ⟨r5, rfl, o5, z5, y5, H⟩
  by_cases d0 : r5 = 0
  · simp -implicitDefEqProofs (disch := first | omega | (simp only [List.length_set, List.length_replicate, List.length_append, List.length_map, List.length_take, List.length_cons, List.length_nil]; omega)) [wrap64, d0]
    refine (c_pick (n := 3) R H (by omega) (by omega) ⟨by decide, by decide⟩).go ?_
    rintro _ h1 ⟨r6, rfl, o6, z6, y6, H⟩
    simp -implicitDefEqProofs (disch := first | omega | (simp only [List.length_set, List.length_replicate, List.length_append, List.length_map, List.length_take, List.length_cons, List.length_nil]; omega)) [wrap64, setC, hOg, hCg]
    have H := (H.sw1.nil_ow (α := Exq)).sw2
    refine (c_pick (n := 4) R H (by omega) (by omega) ⟨by decide, by decide⟩).go ?_
    rintro _ ht ⟨r9, rfl, o9, z9, y9, H⟩
    by_cases c9 : r9 = 0
    · simp -implicitDefEqProofs (disch := first | omega | (simp only [List.length_set, List.length_replicate, List.length_append, List.length_map, List.length_take, List.length_cons, List.length_nil]; omega)) [wrap64, c9]
      refine H.bls [(1 : Int), -1, 1, -1, 2, -2] rfl rfl (okL (by decide)) (by decide) fun q hq H => ?_
      simp -implicitDefEqProofs (disch := first | omega | (simp only [List.length_set, List.length_replicate, List.length_append, List.length_map, List.length_take, List.length_cons, List.length_nil]; omega)) [wrap64]
      refine (c_num R H (by omega) (by omega) (by simp)).go ?_
      rintro _ ht2 ⟨sy, rfl, osy, _, H⟩
      simp -implicitDefEqProofs (disch := first | omega | (simp only [List.length_set, List.length_replicate, List.length_append, List.length_map, List.length_take, List.length_cons, List.length_nil]; omega)) [wrap64, setC, hOg, hCg]
      exact RetK.keep (hk _ _ ⟨⟨r1, r2, gu, vr, (Exq.mk 1 r6 []), sy⟩, _, HS.mkEd (e := ⟨r1, r2, gu, vr, (Exq.mk 1 r6 []), sy⟩) (H.bk2.sw1) ⟨o1, o2, k1, k2, ovr, i1, o6, osy⟩, ⟨by dsimp only; omega, by simp [Exq.nod, Exq.nods]⟩, by omega, by omega⟩)
    · simp -implicitDefEqProofs (disch := first | omega | (simp only [List.length_set, List.length_replicate, List.length_append, List.length_map, List.length_take, List.length_cons, List.length_nil]; omega)) [wrap64, c9, setC, hOg, hCg]
      exact RetK.keep (hk _ _ ⟨⟨r1, r2, gu, vr, (Exq.mk 1 r6 []), 0⟩, _, HS.mkEd (e := ⟨r1, r2, gu, vr, (Exq.mk 1 r6 []), 0⟩) (H.bk2.sw1) ⟨o1, o2, k1, k2, ovr, i1, o6, i0⟩, ⟨by dsimp only; omega, by simp [Exq.nod, Exq.nods]⟩, by omega, by omega⟩)
  by_cases d1 : r5 = 1
  · simp -implicitDefEqProofs (disch := first | omega | (simp only [List.length_set, List.length_replicate, List.length_append, List.length_map, List.length_take, List.length_cons, List.length_nil]; omega)) [wrap64, d0, d1, setC]
    refine HS.blsO2 ((H.mkE0 (kd := 1) (vl := 1) ⟨by decide, by decide⟩ ⟨by decide, by decide⟩).mkE0 (kd := 2) (vl := vr) ⟨by decide, by decide⟩ ovr) rfl fun w h8 H => ?_
    have hOv := H.rep.one
    have hCv := H.rep.cells
    simp -implicitDefEqProofs (disch := first | omega | (simp only [List.length_set, List.length_replicate, List.length_append, List.length_map, List.length_take, List.length_cons, List.length_nil]; omega)) [wrap64, setC, hOg, hCg, hOv, hCv]
    have H := H.sw1
    refine (c_pick (n := 4) R H (by omega) (by omega) ⟨by decide, by decide⟩).go ?_
    rintro _ ht ⟨r9, rfl, o9, z9, y9, H⟩
    by_cases c9 : r9 = 0
    · simp -implicitDefEqProofs (disch := first | omega | (simp only [List.length_set, List.length_replicate, List.length_append, List.length_map, List.length_take, List.length_cons, List.length_nil]; omega)) [wrap64, c9]
      refine H.bls [(1 : Int), -1, 1, -1, 2, -2] rfl rfl (okL (by decide)) (by decide) fun q hq H => ?_
      simp -implicitDefEqProofs (disch := first | omega | (simp only [List.length_set, List.length_replicate, List.length_append, List.length_map, List.length_take, List.length_cons, List.length_nil]; omega)) [wrap64]
      refine (c_num R H (by omega) (by omega) (by simp)).go ?_
      rintro _ ht2 ⟨sy, rfl, osy, _, H⟩
      simp -implicitDefEqProofs (disch := first | omega | (simp only [List.length_set, List.length_replicate, List.length_append, List.length_map, List.length_take, List.length_cons, List.length_nil]; omega)) [wrap64, setC, hOg, hCg, hOv, hCv]
      exact RetK.keep (hk _ _ ⟨⟨r1, r2, gu, vr, (Exq.mk 8 0 [Exq.mk 2 vr [], Exq.mk 1 1 []]), sy⟩, _, HS.mkEd (e := ⟨r1, r2, gu, vr, (Exq.mk 8 0 [Exq.mk 2 vr [], Exq.mk 1 1 []]), sy⟩) (H.bk2.sw1) ⟨o1, o2, k1, k2, ovr, i8, i0, osy⟩, ⟨by dsimp only; omega, by simp [Exq.nod, Exq.nods]⟩, by omega, by omega⟩)
    · simp -implicitDefEqProofs (disch := first | omega | (simp only [List.length_set, List.length_replicate, List.length_append, List.length_map, List.length_take, List.length_cons, List.length_nil]; omega)) [wrap64, c9, setC, hOg, hCg, hOv, hCv]
      exact RetK.keep (hk _ _ ⟨⟨r1, r2, gu, vr, (Exq.mk 8 0 [Exq.mk 2 vr [], Exq.mk 1 1 []]), 0⟩, _, HS.mkEd (e := ⟨r1, r2, gu, vr, (Exq.mk 8 0 [Exq.mk 2 vr [], Exq.mk 1 1 []]), 0⟩) (H.bk2.sw1) ⟨o1, o2, k1, k2, ovr, i8, i0, i0⟩, ⟨by dsimp only; omega, by simp [Exq.nod, Exq.nods]⟩, by omega, by omega⟩)
  by_cases d2 : r5 = 2
  · simp -implicitDefEqProofs (disch := first | omega | (simp only [List.length_set, List.length_replicate, List.length_append, List.length_map, List.length_take, List.length_cons, List.length_nil]; omega)) [wrap64, d0, d1, d2, setC]
    refine HS.blsO2 ((H.mkE0 (kd := 2) (vl := vr) ⟨by decide, by decide⟩ ovr).mkE0 (kd := 1) (vl := 1) ⟨by decide, by decide⟩ ⟨by decide, by decide⟩) rfl fun w h8 H => ?_
    have hOv := H.rep.one
    have hCv := H.rep.cells
    simp -implicitDefEqProofs (disch := first | omega | (simp only [List.length_set, List.length_replicate, List.length_append, List.length_map, List.length_take, List.length_cons, List.length_nil]; omega)) [wrap64, setC, hOg, hCg, hOv, hCv]
    have H := H.sw1
    refine (c_pick (n := 4) R H (by omega) (by omega) ⟨by decide, by decide⟩).go ?_
    rintro _ ht ⟨r9, rfl, o9, z9, y9, H⟩
    by_cases c9 : r9 = 0
    · simp -implicitDefEqProofs (disch := first | omega | (simp only [List.length_set, List.length_replicate, List.length_append, List.length_map, List.length_take, List.length_cons, List.length_nil]; omega)) [wrap64, c9]
      refine H.bls [(1 : Int), -1, 1, -1, 2, -2] rfl rfl (okL (by decide)) (by decide) fun q hq H => ?_
      simp -implicitDefEqProofs (disch := first | omega | (simp only [List.length_set, List.length_replicate, List.length_append, List.length_map, List.length_take, List.length_cons, List.length_nil]; omega)) [wrap64]
      refine (c_num R H (by omega) (by omega) (by simp)).go ?_
      rintro _ ht2 ⟨sy, rfl, osy, _, H⟩
      simp -implicitDefEqProofs (disch := first | omega | (simp only [List.length_set, List.length_replicate, List.length_append, List.length_map, List.length_take, List.length_cons, List.length_nil]; omega)) [wrap64, setC, hOg, hCg, hOv, hCv]
      exact RetK.keep (hk _ _ ⟨⟨r1, r2, gu, vr, (Exq.mk 9 0 [Exq.mk 1 1 [], Exq.mk 2 vr []]), sy⟩, _, HS.mkEd (e := ⟨r1, r2, gu, vr, (Exq.mk 9 0 [Exq.mk 1 1 [], Exq.mk 2 vr []]), sy⟩) (H.bk2.sw1) ⟨o1, o2, k1, k2, ovr, i9, i0, osy⟩, ⟨by dsimp only; omega, by simp [Exq.nod, Exq.nods]⟩, by omega, by omega⟩)
    · simp -implicitDefEqProofs (disch := first | omega | (simp only [List.length_set, List.length_replicate, List.length_append, List.length_map, List.length_take, List.length_cons, List.length_nil]; omega)) [wrap64, c9, setC, hOg, hCg, hOv, hCv]
      exact RetK.keep (hk _ _ ⟨⟨r1, r2, gu, vr, (Exq.mk 9 0 [Exq.mk 1 1 [], Exq.mk 2 vr []]), 0⟩, _, HS.mkEd (e := ⟨r1, r2, gu, vr, (Exq.mk 9 0 [Exq.mk 1 1 [], Exq.mk 2 vr []]), 0⟩) (H.bk2.sw1) ⟨o1, o2, k1, k2, ovr, i9, i0, i0⟩, ⟨by dsimp only; omega, by simp [Exq.nod, Exq.nods]⟩, by omega, by omega⟩)
  · simp -implicitDefEqProofs (disch := first | omega | (simp only [List.length_set, List.length_replicate, List.length_append, List.length_map, List.length_take, List.length_cons, List.length_nil]; omega)) [wrap64, d0, d1, d2]
    refine (c_l1Expr R H (by omega) (by omega)).go ?_
    rintro _ h1 ⟨va, p5, H, hvn, hp5, hp6⟩
    obtain ⟨wv, rfl, k3, k4, H⟩ := H.unExq
    have hOv := H.rep.one
    have hCv := H.rep.cells
    simp -implicitDefEqProofs (disch := first | omega | (simp only [List.length_set, List.length_replicate, List.length_append, List.length_map, List.length_take, List.length_cons, List.length_nil]; omega)) [wrap64, setC, hOg, hCg, hOv, hCv]
    have H := H.sw1
    refine (c_pick (n := 4) R H (by omega) (by omega) ⟨by decide, by decide⟩).go ?_
    rintro _ ht ⟨r9, rfl, o9, z9, y9, H⟩
    by_cases c9 : r9 = 0
    · simp -implicitDefEqProofs (disch := first | omega | (simp only [List.length_set, List.length_replicate, List.length_append, List.length_map, List.length_take, List.length_cons, List.length_nil]; omega)) [wrap64, c9]
      refine H.bls [(1 : Int), -1, 1, -1, 2, -2] rfl rfl (okL (by decide)) (by decide) fun q hq H => ?_
      simp -implicitDefEqProofs (disch := first | omega | (simp only [List.length_set, List.length_replicate, List.length_append, List.length_map, List.length_take, List.length_cons, List.length_nil]; omega)) [wrap64]
      refine (c_num R H (by omega) (by omega) (by simp)).go ?_
      rintro _ ht2 ⟨sy, rfl, osy, _, H⟩
      simp -implicitDefEqProofs (disch := first | omega | (simp only [List.length_set, List.length_replicate, List.length_append, List.length_map, List.length_take, List.length_cons, List.length_nil]; omega)) [wrap64, setC, hOg, hCg, hOv, hCv]
      exact RetK.keep (hk _ _ ⟨⟨r1, r2, gu, vr, va, sy⟩, _, HS.mkEd (e := ⟨r1, r2, gu, vr, va, sy⟩) (H.bk2.sw1) ⟨o1, o2, k1, k2, ovr, k3, k4, osy⟩, ⟨by dsimp only; omega, by dsimp only; omega⟩, by omega, by omega⟩)
    · simp -implicitDefEqProofs (disch := first | omega | (simp only [List.length_set, List.length_replicate, List.length_append, List.length_map, List.length_take, List.length_cons, List.length_nil]; omega)) [wrap64, c9, setC, hOg, hCg, hOv, hCv]
      exact RetK.keep (hk _ _ ⟨⟨r1, r2, gu, vr, va, 0⟩, _, HS.mkEd (e := ⟨r1, r2, gu, vr, va, 0⟩) (H.bk2.sw1) ⟨o1, o2, k1, k2, ovr, k3, k4, i0⟩, ⟨by dsimp only; omega, by dsimp only; omega⟩, by omega, by omega⟩)
end Go.Proofs.Ythgimpheeemooaa

/-
  Arguments of laws: systems that are drawn.
-/
namespace Go.Proofs.Ythgimpheeemooaa
open Go
set_option linter.all false
set_option linter.unusedVariables false
set_option linter.unusedSimpArgs false
set_option linter.defProp false
set_option maxRecDepth 1000000

theorem c_l2System {g h : Heap} {Γ : List HP} {b : Nat} {sl : Value} {l : List (BitVec 8)} {p : Int} (R : Rep g sl l) (H : HS g (rb b sl p :: Γ) h) (hp : 0 ≤ p) (hp2 : p + 2000 ≤ 1000000000000) :
    CallE Try.prog fn_spec_l2System [.pointer (some ⟨b, 0, none⟩)] h (fun u h' => ∃ (y : Sy) (p' : Int), HS g (ow u y :: rb b sl p' :: Γ) h' ∧ y.Sm 40 ∧ p ≤ p' ∧ p' ≤ p + 1400) := by
  have i0 : I64 0 := ⟨by decide, by decide⟩
  refine CallE.gen fun k hk => EN_spec_l2System rfl ?_
  simp -implicitDefEqProofs (disch := first | omega | (simp only [List.length_set, List.length_replicate, List.length_append, List.length_map, List.length_take, List.length_cons, List.length_nil]; omega)) [wrap64]
  refine (c_pick (n := 2) R H (by omega) (by omega) ⟨by decide, by decide⟩).go ?_
  rintro _ h1 ⟨r1, rfl, o1, z1, y1, H⟩
  simp -implicitDefEqProofs (disch := first | omega | (simp only [List.length_set, List.length_replicate, List.length_append, List.length_map, List.length_take, List.length_cons, List.length_nil]; omega)) [wrap64]
  refine H.bls [(0 : Int), 0, 1, 3] rfl rfl (okL (by decide)) (by decide) fun q hq H => ?_
  simp -implicitDefEqProofs (disch := first | omega | (simp only [List.length_set, List.length_replicate, List.length_append, List.length_map, List.length_take, List.length_cons, List.length_nil]; omega)) [wrap64]
  refine (c_num R H (by omega) (by omega) (by simp)).go ?_
  rintro _ h1 ⟨r2, rfl, o2, _, H⟩
  simp -implicitDefEqProofs (disch := first | omega | (simp only [List.length_set, List.length_replicate, List.length_append, List.length_map, List.length_take, List.length_cons, List.length_nil]; omega)) [wrap64]
  refine H.bls [r1, r2, 0] rfl rfl (by intro x hx; simp at hx; rcases hx with rfl | rfl | rfl <;> first | exact o1 | exact o2 | exact i0) (by decide) fun wi hq H => ?_
  have hOi := H.rep.one
  have hCi := H.rep.cells
  simp -implicitDefEqProofs (disch := first | omega | (simp only [List.length_set, List.length_replicate, List.length_append, List.length_map, List.length_take, List.length_cons, List.length_nil]; omega)) [wrap64, setC, hOi, hCi]
  refine H.bls [(2 : Int), 1, 2, 3] rfl rfl (okL (by decide)) (by decide) fun q hq H => ?_
  simp -implicitDefEqProofs (disch := first | omega | (simp only [List.length_set, List.length_replicate, List.length_append, List.length_map, List.length_take, List.length_cons, List.length_nil]; omega)) [wrap64]
  refine (c_num R H.sw1.bk2 (by omega) (by omega) (by simp)).go ?_
  rintro _ h1 ⟨r3, rfl, o3, hr3, H⟩
  obtain ⟨n, rfl, hn⟩ : ∃ n : Nat, r3 = n ∧ n ≤ 3 := by
    simp at hr3
    rcases hr3 with rfl | rfl | rfl | rfl <;> first | exact ⟨2, rfl, by decide⟩ | exact ⟨1, rfl, by decide⟩ | exact ⟨3, rfl, by decide⟩
  simp -implicitDefEqProofs (disch := first | omega | (simp only [List.length_set, List.length_replicate, List.length_append, List.length_map, List.length_take, List.length_cons, List.length_nil]; omega)) [wrap64]
  refine wp_while (σ := Nat) (fun i e h' => ∃ (ps : List Pr) (w : Value) (p' : Int), e = [some (.pointer (some ⟨b, 0, none⟩)), some (.agg #[.slice none 0 0, .slice none 0 0]), some (.agg #[wi, w]), some (.int .i64 i), none, none] ∧ HS g (ow w ps :: ow wi [r1, r2, 0] :: rb b sl p' :: Γ) h' ∧ ps.length + i ≤ 3 ∧ (∀ x ∈ ps, x.Sm 40) ∧ p ≤ p' ∧ p' + 452 * i ≤ p + 3 + 3 * 452) (fun i => i) n ⟨[], .slice none 0 0, _, by simp, H.sw1.nil_ow, by simpa using hn, by simp, by omega, by omega⟩ ?_
  clear H hOi hCi
  rintro J i _ h3 hJ ⟨ps, w, p1, rfl, H, hpl, hps, hp3, hp4⟩
  have hOi := H.sw1.rep.one
  have hCi := H.sw1.rep.cells
  have hOw := H.rep.one
  have hCw := H.rep.cells
  by_cases c0 : 0 < i
  · have c0' : (0 : Int) < i := by omega
    simp -implicitDefEqProofs (disch := first | omega | (simp only [List.length_set, List.length_replicate, List.length_append, List.length_map, List.length_take, List.length_cons, List.length_nil]; omega)) [wrap64, c0, c0']
    refine H.bls [(2 : Int), 3, 1, 2] rfl rfl (okL (by decide)) (by decide) fun q hq H => ?_
    simp -implicitDefEqProofs (disch := first | omega | (simp only [List.length_set, List.length_replicate, List.length_append, List.length_map, List.length_take, List.length_cons, List.length_nil]; omega)) [wrap64]
    refine (c_num R (H.under fun _ H => H.sw2) (by omega) (by omega) (by simp)).go ?_
    rintro _ h4 ⟨lo, rfl, olo, _, H⟩
    simp -implicitDefEqProofs (disch := first | omega | (simp only [List.length_set, List.length_replicate, List.length_append, List.length_map, List.length_take, List.length_cons, List.length_nil]; omega)) [wrap64, setC]
    refine H.bls [(3 : Int), 4, 2, 5, 1] rfl rfl (okL (by decide)) (by decide) fun q hq H => ?_
    simp -implicitDefEqProofs (disch := first | omega | (simp only [List.length_set, List.length_replicate, List.length_append, List.length_map, List.length_take, List.length_cons, List.length_nil]; omega)) [wrap64]
    refine (c_num R H (by omega) (by omega) (by simp)).go ?_
    rintro _ h4 ⟨r5, rfl, o5, hr5, H⟩
    obtain ⟨n5, rfl, hn5⟩ : ∃ n : Nat, r5 = n ∧ n ≤ 5 := by
      simp at hr5
      rcases hr5 with rfl | rfl | rfl | rfl | rfl <;> first | exact ⟨3, rfl, by decide⟩ | exact ⟨4, rfl, by decide⟩ | exact ⟨2, rfl, by decide⟩ | exact ⟨5, rfl, by decide⟩ | exact ⟨1, rfl, by decide⟩
    simp -implicitDefEqProofs (disch := first | omega | (simp only [List.length_set, List.length_replicate, List.length_append, List.length_map, List.length_take, List.length_cons, List.length_nil]; omega)) [wrap64]
    refine wp_while (σ := Nat) (fun k e h' => ∃ (es : List Ed) (we : Value) (p' : Int), e = [some (.pointer (some ⟨b, 0, none⟩)), some (.agg #[.slice none 0 0, .slice none 0 0]), some (.agg #[wi, w]), some (.int .i64 i), some (.agg #[.int .i64 lo, we]), some (.int .i64 k)] ∧ HS g (ow we es :: rb b sl p' :: ow w ps :: ow wi [r1, r2, 0] :: Γ) h' ∧ es.length + k ≤ 5 ∧ (∀ x ∈ es, x.Sm 40) ∧ p1 ≤ p' ∧ p' + 90 * k ≤ p1 + 2 + 450) (fun i => i) n5 ⟨[], .slice none 0 0, _, by simp, H.nil_ow, by simpa using hn5, by simp, by omega, by omega⟩ ?_
    clear H
    rintro J2 k2 _ h5 hJ2 ⟨es, we, p2, rfl, H, hel, hes, hp5, hp6⟩
    by_cases c1 : 0 < k2
    · have c1' : (0 : Int) < k2 := by omega
      simp -implicitDefEqProofs (disch := first | omega | (simp only [List.length_set, List.length_replicate, List.length_append, List.length_map, List.length_take, List.length_cons, List.length_nil]; omega)) [wrap64, c1, c1', setC]
      refine (c_l2DrawEdge R H.sw1 (by omega) (by omega) olo).go ?_
      rintro _ h6 ⟨y, p3, H, hy, hp7, hp8⟩
      obtain ⟨w1, w2, rfl, ok, H'⟩ := H.unEd
      have hO1 := H'.rep.one
      have hC1 := H'.rep.cells
      have hO2 := H'.sw1.rep.one
      have hC2 := H'.sw1.rep.cells
      simp -implicitDefEqProofs (disch := first | omega | (simp only [List.length_set, List.length_replicate, List.length_append, List.length_map, List.length_take, List.length_cons, List.length_nil]; omega)) [wrap64, setC, Ed.cs, hO1, hC1, hO2, hC2]
      refine HS.appO (bytes := 112) H.sw2.sw1 rfl rfl rfl rfl rfl (by omega) (by omega) fun we' h7 H => ?_
      simp -implicitDefEqProofs (disch := first | omega | (simp only [List.length_set, List.length_replicate, List.length_append, List.length_map, List.length_take, List.length_cons, List.length_nil]; omega)) [wrap64, setC, H.rep.one, H.rep.cells]
      refine hJ2 (k2 - 1) _ _ (by omega) ⟨es ++ [y], we', p3, by simp; omega, H, by simp; omega, ?_, by omega, by omega⟩
      intro x hx
      simp only [List.mem_append, List.mem_singleton] at hx
      rcases hx with hx | rfl
      · exact hes x hx
      · exact hy
    · have c1' : ¬ ((0 : Int) < k2) := by omega
      have hOe := H.rep.one
      have hCe := H.rep.cells
      simp -implicitDefEqProofs (disch := first | omega | (simp only [List.length_set, List.length_replicate, List.length_append, List.length_map, List.length_take, List.length_cons, List.length_nil]; omega)) [wrap64, c1, c1', setC, hOe, hCe]
      refine HS.appO (bytes := 32) (HS.mkPr (p := ⟨lo, es⟩) H olo |>.sw2.sw1) rfl rfl rfl rfl rfl (by omega) (by omega) fun w' h7 H => ?_
      simp -implicitDefEqProofs (disch := first | omega | (simp only [List.length_set, List.length_replicate, List.length_append, List.length_map, List.length_take, List.length_cons, List.length_nil]; omega)) [wrap64, setC, H.rep.one, H.rep.cells]
      refine hJ (i - 1) _ _ (by omega) ⟨ps ++ [⟨lo, es⟩], w', p2, by simp; omega, H.under fun _ H => H.sw1, by simp; omega, ?_, by omega, by omega⟩
      intro x hx
      simp only [List.mem_append, List.mem_singleton] at hx
      rcases hx with hx | rfl
      · exact hps x hx
      · exact ⟨by dsimp only; omega, hes⟩
  · have c0' : ¬ ((0 : Int) < i) := by omega
    simp -implicitDefEqProofs (disch := first | omega | (simp only [List.length_set, List.length_replicate, List.length_append, List.length_map, List.length_take, List.length_cons, List.length_nil]; omega)) [wrap64, c0, c0', setC, hOi, hCi, hOw, hCw]
    exact RetK.keep (hk _ _ ⟨⟨[r1, r2, 0], ps⟩, p1, HS.mkSy (s := ⟨[r1, r2, 0], ps⟩) H.sw1, ⟨by simp, by dsimp only; omega, hps⟩, by omega, by omega⟩)
end Go.Proofs.Ythgimpheeemooaa

/-
  Arguments of laws: copies of systems.
-/
namespace Go.Proofs.Ythgimpheeemooaa
open Go
set_option linter.all false
set_option linter.unusedVariables false
set_option linter.unusedSimpArgs false
set_option linter.defProp false
set_option maxRecDepth 1000000

theorem c_l2Copy {h : Heap} {v : Value} {s : Sy} {n : Nat} (R : Rep h v s) (hs : s.Sm n) (hn : n ≤ 1000) : CallE Try.prog fn_spec_l2Copy [v] h (fun u h' => ∃ y : Sy, HS h [ow u y] h' ∧ y.Sm n ∧ y.procs.length = s.procs.length) := by
  obtain ⟨v1, v2, rfl, R1, R2'⟩ := Rep_Sy.1 R
  have hil := hs.il
  have hpl := hs.pl
  have hO1 := R1.one
  have hO2 := R2'.one
  refine CallE.gen fun k hk => EN_spec_l2Copy rfl ?_
  simp -implicitDefEqProofs (disch := first | omega | (simp only [List.length_set, List.length_replicate, List.length_append, List.length_map, List.length_take, List.length_cons, List.length_nil]; omega)) [wrap64]
  refine HS.appPL (α := Int) (l2 := s.init) HS.init rfl rfl R1 rfl rfl (by omega) fun wi h1 H => ?_
  simp -implicitDefEqProofs (disch := first | omega | (simp only [List.length_set, List.length_replicate, List.length_append, List.length_map, List.length_take, List.length_cons, List.length_nil]; omega)) [wrap64, setC, H.rep.one, H.rep.cells]
  refine wp_count s.procs.length (fun i e h' => ∃ (ps : List Pr) (w : Value), e = [none, some (.agg #[v1, v2]), some (.agg #[.slice none 0 0, .slice none 0 0]), some (.agg #[wi, w]), some (.int .i64 i), none, none, none] ∧ HS h [ow w ps, ow wi s.init] h' ∧ ps.length = i ∧ ∀ x ∈ ps, x.Sm n) ⟨[], .slice none 0 0, by simp, H.nil_ow, rfl, by simp⟩ ?_
  clear H
  rintro J i _ h2 hJ hi ⟨ps, w, rfl, H, hpsl, hps⟩
  have hOi := H.sw1.rep.one
  have hCi := H.sw1.rep.cells
  have hOw := H.rep.one
  have hCw := H.rep.cells
  simp -implicitDefEqProofs (disch := first | omega | (simp only [List.length_set, List.length_replicate, List.length_append, List.length_map, List.length_take, List.length_cons, List.length_nil]; omega)) [wrap64, (R2'.on H).len]
  refine IteW.mk (fun hlt => ?_) (fun hge => ?_)
  · have hi : i < s.procs.length := by omega
    have hpi := hs.pp _ (List.getElem_mem hi)
    have hel := hpi.el
    obtain ⟨u, hu, Ru⟩ := R2'.ld hi
    change hload _ (some (elp 2 v2 i)) (some 2) = some u at hu
    obtain ⟨we, rfl, k1, R3⟩ := Rep_Pr.1 Ru
    have hP : ∀ {h'}, h.le h' → _ := fun {h'} (hl : h.le h') => hld_parts (hload_le hl hu)
    have hP1 := (hP H.base).1
    have hP2 := (hP H.base).2.2.1
    simp -implicitDefEqProofs (disch := first | omega | (simp only [List.length_set, List.length_replicate, List.length_append, List.length_map, List.length_take, List.length_cons, List.length_nil]; omega)) [wrap64, R2'.X (n := 2) rfl, hP1, hP2, setC]
    refine wp_count s.procs[i].edges.length (fun k e h' => ∃ (es : List Ed) (wp : Value), e = [none, some (.agg #[v1, v2]), some (.agg #[.slice none 0 0, .slice none 0 0]), some (.agg #[wi, w]), some (.int .i64 i), some (.agg #[.int .i64 s.procs[i].locs, wp]), some (.int .i64 k), none] ∧ HS h [ow wp es, ow w ps, ow wi s.init] h' ∧ es.length = k ∧ ∀ x ∈ es, x.Sm n) ⟨[], .slice none 0 0, by simp, H.nil_ow, rfl, by simp⟩ ?_
    clear H hP1 hP2
    rintro J2 k2 _ h3 hJ2 hk2 ⟨es, wp, rfl, H, hesl, hes⟩
    have hP1 := (hP H.base).1
    have hP2 := (hP H.base).2.2.1
    simp -implicitDefEqProofs (disch := first | omega | (simp only [List.length_set, List.length_replicate, List.length_append, List.length_map, List.length_take, List.length_cons, List.length_nil]; omega)) [wrap64, R2'.X (n := 2) rfl, hP1, hP2, R3.len]
    refine IteW.mk (fun hlt2 => ?_) (fun hge2 => ?_)
    · have hk2 : k2 < s.procs[i].edges.length := by omega
      have hek := hpi.ee _ (List.getElem_mem hk2)
      obtain ⟨u2, hu2, Ru2⟩ := R3.ld hk2
      have hu2 := hload_le H.base hu2
      change hload _ (some (elp 10 we k2)) (some 10) = some u2 at hu2
      obtain ⟨w1, w2, rfl, ok, G1, G2⟩ := Rep_Ed.1 Ru2
      have hF1 := G1.one
      have hF2 := G2.one
      have hF3 := G1.cells
      have hF4 := G2.cells
      simp -implicitDefEqProofs (disch := first | omega | (simp only [List.length_set, List.length_replicate, List.length_append, List.length_map, List.length_take, List.length_cons, List.length_nil]; omega)) [wrap64, R2'.X (n := 2) rfl, hP1, hP2, R3.X (n := 10) rfl, hu2, Ed.cs, setC, hF1, hF2]
      refine (c_l1Subst _ ((Rep.gd (w2 := w2) ok G1).on H) (by have := hek.g; omega)).go ?_
      rintro _ h4 ⟨gu, G, hgn⟩
      obtain ⟨wg, rfl, kg1, kg2, G'⟩ := G.unExq
      have hOg := G'.rep.one
      have hCg := G'.rep.cells
      have H := G'.app H
      simp -implicitDefEqProofs (disch := first | omega | (simp only [List.length_set, List.length_replicate, List.length_append, List.length_map, List.length_take, List.length_cons, List.length_nil]; omega)) [wrap64, setC, hF1, hF2, hOg, hCg]
      refine (c_l1Subst _ ((Rep.vl ok G2).on H) (by have := hek.v; omega)).go ?_
      rintro _ h4 ⟨va, G, hvn⟩
      obtain ⟨wv, rfl, kv1, kv2, G'⟩ := G.unExq
      have hOv := G'.rep.one
      have hCv := G'.rep.cells
      have H := G'.app H
      simp -implicitDefEqProofs (disch := first | omega | (simp only [List.length_set, List.length_replicate, List.length_append, List.length_map, List.length_take, List.length_cons, List.length_nil]; omega)) [wrap64, setC, hF1, hF2, hOg, hCg, hOv, hCv]
      have H := HS.mkEd (e := ⟨s.procs[i].edges[k2].frm, s.procs[i].edges[k2].to, gu, s.procs[i].edges[k2].var, va, s.procs[i].edges[k2].sync⟩) H.sw1 ⟨ok.frm, ok.to, kg1, kg2, ok.var, kv1, kv2, ok.sync⟩
      refine HS.appO (bytes := 112) H rfl rfl rfl rfl rfl (by omega) (by omega) fun we' h7 H => ?_
      simp -implicitDefEqProofs (disch := first | omega | (simp only [List.length_set, List.length_replicate, List.length_append, List.length_map, List.length_take, List.length_cons, List.length_nil]; omega)) [wrap64, setC, H.rep.one, H.rep.cells]
      refine hJ2 _ _ hk2 ⟨_, we', by simp, H, by simp [hesl], ?_⟩
      intro x hx
      simp only [List.mem_append, List.mem_singleton] at hx
      rcases hx with hx | rfl
      · exact hes x hx
      · exact ⟨by have := hek.g; dsimp only; omega, by have := hek.v; dsimp only; omega⟩
    · have hOe := H.rep.one
      have hCe := H.rep.cells
      simp -implicitDefEqProofs (disch := first | omega | (simp only [List.length_set, List.length_replicate, List.length_append, List.length_map, List.length_take, List.length_cons, List.length_nil]; omega)) [wrap64, setC, hOe, hCe, hOw, hCw, hOi, hCi]
      refine HS.appO (bytes := 32) (HS.mkPr (p := ⟨s.procs[i].locs, es⟩) H k1) rfl rfl rfl rfl rfl (by omega) (by omega) fun w' h7 H => ?_
      simp -implicitDefEqProofs (disch := first | omega | (simp only [List.length_set, List.length_replicate, List.length_append, List.length_map, List.length_take, List.length_cons, List.length_nil]; omega)) [wrap64, setC, H.rep.one, H.rep.cells, hOi, hCi]
      refine hJ _ _ hi ⟨_, w', by simp, H, by simp [hpsl], ?_⟩
      intro x hx
      simp only [List.mem_append, List.mem_singleton] at hx
      rcases hx with hx | rfl
      · exact hps x hx
      · exact ⟨by dsimp only; omega, hes⟩
  · simp -implicitDefEqProofs (disch := first | omega | (simp only [List.length_set, List.length_replicate, List.length_append, List.length_map, List.length_take, List.length_cons, List.length_nil]; omega)) [wrap64, setC, hOi, hCi, hOw, hCw]
    exact RetK.keep (hk _ _ ⟨⟨s.init, ps⟩, HS.mkSy (s := ⟨s.init, ps⟩) H.sw1, ⟨hs.il, by dsimp only; omega, hps⟩, by dsimp only; omega⟩)
end Go.Proofs.Ythgimpheeemooaa

/-
  Arguments of laws: changed systems.
-/
namespace Go.Proofs.Ythgimpheeemooaa
open Go
set_option linter.all false
set_option linter.unusedVariables false
set_option linter.unusedSimpArgs false
set_option linter.defProp false
set_option maxRecDepth 1000000

theorem Ed.Sm.le {n m : Nat} {e : Ed} (h : e.Sm n) (hn : n ≤ m) : e.Sm m := ⟨by have := h.g; omega, by have := h.v; omega⟩
theorem Pr.Sm.le {n m : Nat} {p : Pr} (h : p.Sm n) (hn : n ≤ m) : p.Sm m := ⟨by have := h.el; omega, fun e he => (h.ee e he).le hn⟩
theorem Sy.Sm.le {n m : Nat} {s : Sy} (h : s.Sm n) (hn : n ≤ m) : s.Sm m := ⟨by have := h.il; omega, by have := h.pl; omega, fun p hp => (h.pp p hp).le hn⟩
theorem Sy.Sm.set {n : Nat} {s : Sy} (h : s.Sm n) {i : Nat} (hi : i < s.procs.length) (he : 0 < s.procs[i].edges.length) {e : Ed} (hs : e.Sm n) : Sy.Sm n ⟨s.init, s.procs.set i ⟨s.procs[i].locs, s.procs[i].edges.set 0 e⟩⟩ := by
  refine ⟨h.il, by simpa using h.pl, fun p hp => ?_⟩
  rcases List.mem_or_eq_of_mem_set hp with h1 | rfl
  · exact h.pp p h1
  · have h2 := h.pp _ (List.getElem_mem hi)
    refine ⟨by simpa using h2.el, fun x hx => ?_⟩
    rcases List.mem_or_eq_of_mem_set hx with h3 | rfl
    · exact h2.ee x h3
    · exact hs

set_option maxHeartbeats 2000000 in
theorem c_l2Mutate {g h : Heap} {Γ : List HP} {b n : Nat} {sl v : Value} {l : List (BitVec 8)} {p : Int} {s : Sy} (R : Rep g sl l) (Rs : Rep g v s) (hs : s.Sm n) (hn : 40 ≤ n) (hn2 : n ≤ 900) (H : HS g (rb b sl p :: Γ) h) (hp : 0 ≤ p) (hp2 : p + 200 ≤ 1000000000000) :
    CallE Try.prog fn_spec_l2Mutate [.pointer (some ⟨b, 0, none⟩), v] h (fun u h' => ∃ (y : Sy) (p' : Int), HS g (ow u y :: rb b sl p' :: Γ) h' ∧ y.Sm (n + 1) ∧ p ≤ p' ∧ p' ≤ p + 100) := by
  have FS := Rs.aSy
  have Rs0 := Rs
  obtain ⟨v1, v2, rfl, R1, R2'⟩ := Rep_Sy.1 Rs
  have hspl := hs.pl
  refine CallE.gen fun k hk => EN_spec_l2Mutate rfl ?_
  simp -implicitDefEqProofs (disch := first | omega | (simp only [List.length_set, List.length_replicate, List.length_append, List.length_map, List.length_take, List.length_cons, List.length_nil]; omega)) [wrap64, FS]
  refine (c_l2Copy (Rs0.on H) hs (by omega)).go ?_
  rintro _ h1 ⟨y, G, hyn, hypl⟩
  obtain ⟨wi, w, rfl, G'⟩ := G.unSy
  have H := G'.app H
  have hy := hyn.le (show n ≤ n + 1 by omega)
  have hyil := hyn.il
  have hOi := H.rep.one
  have hCi := H.rep.cells
  have hOw := H.sw1.rep.one
  have hCw := H.sw1.rep.cells
  have hL2 := (R2'.on H).len
  simp -implicitDefEqProofs (disch := first | omega | (simp only [List.length_set, List.length_replicate, List.length_append, List.length_map, List.length_take, List.length_cons, List.length_nil]; omega)) [wrap64, setC, hOi, hCi, hOw, hCw, hL2]
  have H := H.sw2
  refine (c_pick R H (by omega) (by omega) ⟨by omega, by omega⟩).go ?_
  rintro _ h2 ⟨r, rfl, o0, z0, y0, H⟩
  have y0 := y0 (by omega)
  obtain ⟨p1, hp1⟩ : ∃ p1, p1 = p + 1 := ⟨_, rfl⟩
  rw [← hp1] at H
  have hL2 := (R2'.on H).len
  by_cases q0 : r = s.procs.length
  · simp -implicitDefEqProofs (disch := first | omega | (simp only [List.length_set, List.length_replicate, List.length_append, List.length_map, List.length_take, List.length_cons, List.length_nil]; omega)) [wrap64, hL2, q0]
    refine (c_pick (n := 50) R H (by omega) (by omega) ⟨by decide, by decide⟩).go ?_
    rintro _ h3 ⟨r6, rfl, o6, z6, y6, H⟩
    by_cases c0 : r6 = 0
    · simp -implicitDefEqProofs (disch := first | omega | (simp only [List.length_set, List.length_replicate, List.length_append, List.length_map, List.length_take, List.length_cons, List.length_nil]; omega)) [wrap64, c0, setC]
      refine HS.app1 (bytes := 8) H.sw1 (0 : Int) rfl rfl rfl ⟨by decide, by decide⟩ rfl rfl (by omega) (by omega) fun wi' h5 H => ?_
      simp -implicitDefEqProofs (disch := first | omega | (simp only [List.length_set, List.length_replicate, List.length_append, List.length_map, List.length_take, List.length_cons, List.length_nil]; omega)) [wrap64, setC, H.rep.one, H.rep.cells, hOw, hCw]
      exact RetK.keep (hk _ _ ⟨⟨y.init ++ [0], y.procs⟩, _, HS.mkSy (s := ⟨y.init ++ [0], y.procs⟩) (H.under fun _ H => H.sw1), ⟨by have := hyn.il; simp; omega, hy.pl, hy.pp⟩, by omega, by omega⟩)
    by_cases c1 : r6 = 1
    · simp -implicitDefEqProofs (disch := first | omega | (simp only [List.length_set, List.length_replicate, List.length_append, List.length_map, List.length_take, List.length_cons, List.length_nil]; omega)) [wrap64, c0, c1]
      refine H.bls [(0 : Int), 1, 4, 5] rfl rfl (okL (by decide)) (by decide) fun q hq H => ?_
      simp -implicitDefEqProofs (disch := first | omega | (simp only [List.length_set, List.length_replicate, List.length_append, List.length_map, List.length_take, List.length_cons, List.length_nil]; omega)) [wrap64]
      refine (c_num R H (by omega) (by omega) (by simp)).go ?_
      rintro _ h4 ⟨r7, rfl, o7, _, H⟩
      simp -implicitDefEqProofs (disch := first | omega | (simp only [List.length_set, List.length_replicate, List.length_append, List.length_map, List.length_take, List.length_cons, List.length_nil]; omega)) [wrap64, setC]
      have H := HS.mkPr (p := ⟨r7, []⟩) (H.nil_ow (α := Ed)) o7
      refine HS.appO (bytes := 32) (H.sw3.sw1) rfl rfl rfl rfl rfl (by omega) (by omega) fun w' h7 H => ?_
      simp -implicitDefEqProofs (disch := first | omega | (simp only [List.length_set, List.length_replicate, List.length_append, List.length_map, List.length_take, List.length_cons, List.length_nil]; omega)) [wrap64, setC, hOi, hCi, H.rep.one, H.rep.cells]
      refine RetK.keep (hk _ _ ⟨_, _, HS.mkSy (s := ⟨y.init, y.procs ++ [⟨r7, []⟩]⟩) H.sw2, ⟨hy.il, by have := hyn.pl; simp; omega, ?_⟩, by omega, by omega⟩)
      intro x hx
      simp only [List.mem_append, List.mem_singleton] at hx
      rcases hx with hx | rfl
      · exact hy.pp x hx
      · exact ⟨by simp, by simp⟩
    by_cases c2 : r6 = 2
    · simp -implicitDefEqProofs (disch := first | omega | (simp only [List.length_set, List.length_replicate, List.length_append, List.length_map, List.length_take, List.length_cons, List.length_nil]; omega)) [wrap64, c0, c1, c2, setC, hOi, hCi, hOw, hCw]
      exact RetK.keep (hk _ _ ⟨y, _, HS.mkSy H.sw2.sw2, hy, by omega, by omega⟩)
    by_cases c3 : r6 = 3
    · simp -implicitDefEqProofs (disch := first | omega | (simp only [List.length_set, List.length_replicate, List.length_append, List.length_map, List.length_take, List.length_cons, List.length_nil]; omega)) [wrap64, c0, c1, c2, c3, setC, hOi, hCi, hOw, hCw]
      exact RetK.keep (hk _ _ ⟨y, _, HS.mkSy H.sw2.sw2, hy, by omega, by omega⟩)
    by_cases c4 : r6 = 4
    · simp -implicitDefEqProofs (disch := first | omega | (simp only [List.length_set, List.length_replicate, List.length_append, List.length_map, List.length_take, List.length_cons, List.length_nil]; omega)) [wrap64, c0, c1, c2, c3, c4, setC, hOi, hCi, hOw, hCw]
      exact RetK.keep (hk _ _ ⟨y, _, HS.mkSy H.sw2.sw2, hy, by omega, by omega⟩)
    by_cases c5 : r6 = 5
    · simp -implicitDefEqProofs (disch := first | omega | (simp only [List.length_set, List.length_replicate, List.length_append, List.length_map, List.length_take, List.length_cons, List.length_nil]; omega)) [wrap64, c0, c1, c2, c3, c4, c5, setC, hOi, hCi, hOw, hCw]
      exact RetK.keep (hk _ _ ⟨y, _, HS.mkSy H.sw2.sw2, hy, by omega, by omega⟩)
    by_cases c6 : r6 = 6
    · simp -implicitDefEqProofs (disch := first | omega | (simp only [List.length_set, List.length_replicate, List.length_append, List.length_map, List.length_take, List.length_cons, List.length_nil]; omega)) [wrap64, c0, c1, c2, c3, c4, c5, c6, setC]
      exact RetK.keep (hk _ _ ⟨⟨[], []⟩, p1 + 1, HS.mkSy (s := ⟨[], []⟩) (H.sw2.drop.sw1.drop.nil_ow.nil_ow), ⟨by simp, by simp, by simp⟩, by omega, by omega⟩)
    · simp -implicitDefEqProofs (disch := first | omega | (simp only [List.length_set, List.length_replicate, List.length_append, List.length_map, List.length_take, List.length_cons, List.length_nil]; omega)) [wrap64, c0, c1, c2, c3, c4, c5, c6, setC, hOi, hCi, hOw, hCw]
      exact RetK.keep (hk _ _ ⟨y, _, HS.mkSy H.sw2.sw2, hy, by omega, by omega⟩)
  obtain ⟨i, rfl⟩ : ∃ i : Nat, r = i := ⟨r.toNat, (Int.toNat_of_nonneg z0).symm⟩
  have hi : i < y.procs.length := by omega
  have hpi := hyn.pp _ (List.getElem_mem hi)
  obtain ⟨u, hu, Ru⟩ := H.sw2.rep.ld hi
  change hload _ (some (elp 2 w i)) (some 2) = some u at hu
  obtain ⟨we, rfl, kl, R3⟩ := Rep_Pr.1 Ru
  have hP := hld_parts (cs := [.int .i64 y.procs[i].locs, we]) hu
  obtain ⟨ln, hln⟩ : ∃ ln : Int, ln = y.procs[i].edges.length := ⟨_, rfl⟩
  have hlen := R3.len
  rw [← hln] at hlen
  have hX := H.sw2.rep.X (n := 2) rfl
  by_cases q1 : ln = 0
  · simp -implicitDefEqProofs (disch := first | omega | (simp only [List.length_set, List.length_replicate, List.length_append, List.length_map, List.length_take, List.length_cons, List.length_nil]; omega)) [wrap64, hL2, q0, hX, hP.1, hP.2.2.1, hlen, q1]
    refine (c_pick (n := 50) R H (by omega) (by omega) ⟨by decide, by decide⟩).go ?_
    rintro _ h3 ⟨r6, rfl, o6, z6, y6, H⟩
    by_cases c0 : r6 = 0
    · simp -implicitDefEqProofs (disch := first | omega | (simp only [List.length_set, List.length_replicate, List.length_append, List.length_map, List.length_take, List.length_cons, List.length_nil]; omega)) [wrap64, c0, setC]
      refine HS.app1 (bytes := 8) H.sw1 (0 : Int) rfl rfl rfl ⟨by decide, by decide⟩ rfl rfl (by omega) (by omega) fun wi' h5 H => ?_
      simp -implicitDefEqProofs (disch := first | omega | (simp only [List.length_set, List.length_replicate, List.length_append, List.length_map, List.length_take, List.length_cons, List.length_nil]; omega)) [wrap64, setC, H.rep.one, H.rep.cells, hOw, hCw]
      exact RetK.keep (hk _ _ ⟨⟨y.init ++ [0], y.procs⟩, _, HS.mkSy (s := ⟨y.init ++ [0], y.procs⟩) (H.under fun _ H => H.sw1), ⟨by have := hyn.il; simp; omega, hy.pl, hy.pp⟩, by omega, by omega⟩)
    by_cases c1 : r6 = 1
    · simp -implicitDefEqProofs (disch := first | omega | (simp only [List.length_set, List.length_replicate, List.length_append, List.length_map, List.length_take, List.length_cons, List.length_nil]; omega)) [wrap64, c0, c1]
      refine H.bls [(0 : Int), 1, 4, 5] rfl rfl (okL (by decide)) (by decide) fun q hq H => ?_
      simp -implicitDefEqProofs (disch := first | omega | (simp only [List.length_set, List.length_replicate, List.length_append, List.length_map, List.length_take, List.length_cons, List.length_nil]; omega)) [wrap64]
      refine (c_num R H (by omega) (by omega) (by simp)).go ?_
      rintro _ h4 ⟨r7, rfl, o7, _, H⟩
      simp -implicitDefEqProofs (disch := first | omega | (simp only [List.length_set, List.length_replicate, List.length_append, List.length_map, List.length_take, List.length_cons, List.length_nil]; omega)) [wrap64, setC]
      have H := HS.mkPr (p := ⟨r7, []⟩) (H.nil_ow (α := Ed)) o7
      refine HS.appO (bytes := 32) (H.sw3.sw1) rfl rfl rfl rfl rfl (by omega) (by omega) fun w' h7 H => ?_
      simp -implicitDefEqProofs (disch := first | omega | (simp only [List.length_set, List.length_replicate, List.length_append, List.length_map, List.length_take, List.length_cons, List.length_nil]; omega)) [wrap64, setC, hOi, hCi, H.rep.one, H.rep.cells]
      refine RetK.keep (hk _ _ ⟨_, _, HS.mkSy (s := ⟨y.init, y.procs ++ [⟨r7, []⟩]⟩) H.sw2, ⟨hy.il, by have := hyn.pl; simp; omega, ?_⟩, by omega, by omega⟩)
      intro x hx
      simp only [List.mem_append, List.mem_singleton] at hx
      rcases hx with hx | rfl
      · exact hy.pp x hx
      · exact ⟨by simp, by simp⟩
    by_cases c2 : r6 = 2
    · simp -implicitDefEqProofs (disch := first | omega | (simp only [List.length_set, List.length_replicate, List.length_append, List.length_map, List.length_take, List.length_cons, List.length_nil]; omega)) [wrap64, c0, c1, c2, setC, hOi, hCi, hOw, hCw]
      exact RetK.keep (hk _ _ ⟨y, _, HS.mkSy H.sw2.sw2, hy, by omega, by omega⟩)
    by_cases c3 : r6 = 3
    · simp -implicitDefEqProofs (disch := first | omega | (simp only [List.length_set, List.length_replicate, List.length_append, List.length_map, List.length_take, List.length_cons, List.length_nil]; omega)) [wrap64, c0, c1, c2, c3, setC, hOi, hCi, hOw, hCw]
      exact RetK.keep (hk _ _ ⟨y, _, HS.mkSy H.sw2.sw2, hy, by omega, by omega⟩)
    by_cases c4 : r6 = 4
    · simp -implicitDefEqProofs (disch := first | omega | (simp only [List.length_set, List.length_replicate, List.length_append, List.length_map, List.length_take, List.length_cons, List.length_nil]; omega)) [wrap64, c0, c1, c2, c3, c4, setC, hOi, hCi, hOw, hCw]
      exact RetK.keep (hk _ _ ⟨y, _, HS.mkSy H.sw2.sw2, hy, by omega, by omega⟩)
    by_cases c5 : r6 = 5
    · simp -implicitDefEqProofs (disch := first | omega | (simp only [List.length_set, List.length_replicate, List.length_append, List.length_map, List.length_take, List.length_cons, List.length_nil]; omega)) [wrap64, c0, c1, c2, c3, c4, c5, setC, hOi, hCi, hOw, hCw]
      exact RetK.keep (hk _ _ ⟨y, _, HS.mkSy H.sw2.sw2, hy, by omega, by omega⟩)
    by_cases c6 : r6 = 6
    · simp -implicitDefEqProofs (disch := first | omega | (simp only [List.length_set, List.length_replicate, List.length_append, List.length_map, List.length_take, List.length_cons, List.length_nil]; omega)) [wrap64, c0, c1, c2, c3, c4, c5, c6, setC]
      exact RetK.keep (hk _ _ ⟨⟨[], []⟩, p1 + 1, HS.mkSy (s := ⟨[], []⟩) (H.sw2.drop.sw1.drop.nil_ow.nil_ow), ⟨by simp, by simp, by simp⟩, by omega, by omega⟩)
    · simp -implicitDefEqProofs (disch := first | omega | (simp only [List.length_set, List.length_replicate, List.length_append, List.length_map, List.length_take, List.length_cons, List.length_nil]; omega)) [wrap64, c0, c1, c2, c3, c4, c5, c6, setC, hOi, hCi, hOw, hCw]
      exact RetK.keep (hk _ _ ⟨y, _, HS.mkSy H.sw2.sw2, hy, by omega, by omega⟩)
  have he : 0 < y.procs[i].edges.length := by omega
  have hek := hpi.ee _ (List.getElem_mem he)
  have heg : y.procs[i].edges[0].guard.nod ≤ n + 1 := by have := hek.g; omega
  have hev : y.procs[i].edges[0].value.nod ≤ n + 1 := by have := hek.v; omega
  simp -implicitDefEqProofs (disch := first | omega | (simp only [List.length_set, List.length_replicate, List.length_append, List.length_map, List.length_take, List.length_cons, List.length_nil]; omega)) [wrap64, hL2, q0, hX, hP.1, hP.2.2.1, hlen, q1]
  refine (c_pick (n := 50) R H (by omega) (by omega) ⟨by decide, by decide⟩).go ?_
  rintro _ h3 ⟨r6, rfl, o6, z6, y6, H⟩
  by_cases c0 : r6 = 0
  · simp -implicitDefEqProofs (disch := first | omega | (simp only [List.length_set, List.length_replicate, List.length_append, List.length_map, List.length_take, List.length_cons, List.length_nil]; omega)) [wrap64, c0, setC]
    refine HS.app1 (bytes := 8) H.sw1 (0 : Int) rfl rfl rfl ⟨by decide, by decide⟩ rfl rfl (by omega) (by omega) fun wi' h5 H => ?_
    simp -implicitDefEqProofs (disch := first | omega | (simp only [List.length_set, List.length_replicate, List.length_append, List.length_map, List.length_take, List.length_cons, List.length_nil]; omega)) [wrap64, setC, H.rep.one, H.rep.cells, hOw, hCw]
    exact RetK.keep (hk _ _ ⟨⟨y.init ++ [0], y.procs⟩, _, HS.mkSy (s := ⟨y.init ++ [0], y.procs⟩) (H.under fun _ H => H.sw1), ⟨by have := hyn.il; simp; omega, hy.pl, hy.pp⟩, by omega, by omega⟩)
  by_cases c1 : r6 = 1
  · simp -implicitDefEqProofs (disch := first | omega | (simp only [List.length_set, List.length_replicate, List.length_append, List.length_map, List.length_take, List.length_cons, List.length_nil]; omega)) [wrap64, c0, c1]
    refine H.bls [(0 : Int), 1, 4, 5] rfl rfl (okL (by decide)) (by decide) fun q hq H => ?_
    simp -implicitDefEqProofs (disch := first | omega | (simp only [List.length_set, List.length_replicate, List.length_append, List.length_map, List.length_take, List.length_cons, List.length_nil]; omega)) [wrap64]
    refine (c_num R H (by omega) (by omega) (by simp)).go ?_
    rintro _ h4 ⟨r7, rfl, o7, _, H⟩
    simp -implicitDefEqProofs (disch := first | omega | (simp only [List.length_set, List.length_replicate, List.length_append, List.length_map, List.length_take, List.length_cons, List.length_nil]; omega)) [wrap64, setC]
    have H := HS.mkPr (p := ⟨r7, []⟩) (H.nil_ow (α := Ed)) o7
    refine HS.appO (bytes := 32) (H.sw3.sw1) rfl rfl rfl rfl rfl (by omega) (by omega) fun w' h7 H => ?_
    simp -implicitDefEqProofs (disch := first | omega | (simp only [List.length_set, List.length_replicate, List.length_append, List.length_map, List.length_take, List.length_cons, List.length_nil]; omega)) [wrap64, setC, hOi, hCi, H.rep.one, H.rep.cells]
    refine RetK.keep (hk _ _ ⟨_, _, HS.mkSy (s := ⟨y.init, y.procs ++ [⟨r7, []⟩]⟩) H.sw2, ⟨hy.il, by have := hyn.pl; simp; omega, ?_⟩, by omega, by omega⟩)
    intro x hx
    simp only [List.mem_append, List.mem_singleton] at hx
    rcases hx with hx | rfl
    · exact hy.pp x hx
    · exact ⟨by simp, by simp⟩
  by_cases c2 : r6 = 2
  · have H := H.sw2
    obtain ⟨uP, huP, H⟩ := HS.take H hi
    obtain ⟨we, rfl, kl, H⟩ := H.unPr
    obtain ⟨uE, huE, H⟩ := HS.take H he
    obtain ⟨x1, x2, rfl, ok, H⟩ := H.unEd
    have hiaP := HS.holeia H.sw3 (n := 2) (kd := .i64) rfl hi
    have hPP := hld_parts (cs := [.int .i64 y.procs[i].locs, we]) (HS.holeP H.sw3 (n := 2) rfl rfl)
    have hiaE : iaV 10 we (.int .i64 0) = some (elp 10 we 0) := HS.holeia H.sw2 (n := 10) (kd := .i64) rfl he
    have H := H.sw4
    simp -implicitDefEqProofs (disch := first | omega | (simp only [List.length_set, List.length_replicate, List.length_append, List.length_map, List.length_take, List.length_cons, List.length_nil]; omega)) [wrap64, c0, c1, c2, hiaP, hPP.1, hPP.2.2.1, hiaE]
    refine (c_l1Expr R H (by omega) (by omega)).go ?_
    rintro _ h4 ⟨e1, p3, H, hen, hp5, hp6⟩
    have FA := H.rep.aExq
    have hPP := hld_parts (cs := [.int .i64 y.procs[i].locs, we]) (HS.holeP H.sw5 (n := 2) rfl rfl)
    simp -implicitDefEqProofs (disch := first | omega | (simp only [List.length_set, List.length_replicate, List.length_append, List.length_map, List.length_take, List.length_cons, List.length_nil]; omega)) [wrap64, hiaP, hPP.1, hPP.2.2.1, hiaE, FA]
    obtain ⟨g1, H1, H2⟩ := HS.rebase (Δ := [rb b sl p3]) H.sw1
    refine (c_l1Mutate (R.on H1) H1.rep (by omega) H2 (by omega) (by omega)).go ?_
    rintro _ h5 ⟨y2, p4, H3, hyn, hp7, hp8⟩
    have H := H3.app H1
    obtain ⟨w2, rfl, k3, k4, H⟩ := H.unExq
    have hO2 := H.rep.one
    have hPP := hld_parts (cs := [.int .i64 y.procs[i].locs, we]) (HS.holeP H.sw6 (n := 2) rfl rfl)
    have hPE := hld_parts (HS.holeP H.sw5 (n := 10) rfl rfl)
    simp -implicitDefEqProofs (disch := first | omega | (simp only [List.length_set, List.length_replicate, List.length_append, List.length_map, List.length_take, List.length_cons, List.length_nil]; omega)) [wrap64, hiaP, hPP.1, hPP.2.2.1, hiaE, hPE.1]
    refine HS.holest H.sw5 rfl (n := 10) rfl rfl rfl rfl (by simp [hO2]) (by decide) fun h5 H => ?_
    have H : HS g (hole we y.procs[i].edges 0 (.agg (Ed.cs ⟨y.procs[i].edges[0].frm, y.procs[i].edges[0].to, y2, y.procs[i].edges[0].var, y.procs[i].edges[0].value, y.procs[i].edges[0].sync⟩ w2 x2).toArray) :: ow w2 y2.kids :: rb b sl p4 :: ow _ e1 :: ow x1 y.procs[i].edges[0].guard.kids :: ow x2 y.procs[i].edges[0].value.kids :: hole w y.procs i (.agg #[.int .i64 y.procs[i].locs, we]) :: ow wi y.init :: Γ) h5 := H
    have H := HS.put (HS.mkEd (e := ⟨y.procs[i].edges[0].frm, y.procs[i].edges[0].to, y2, y.procs[i].edges[0].var, y.procs[i].edges[0].value, y.procs[i].edges[0].sync⟩) H.sw5.sw2 ⟨ok.frm, ok.to, k3, k4, ok.var, ok.vk, ok.vv, ok.sync⟩)
    have H := HS.put ((HS.mkPr (p := ⟨y.procs[i].locs, y.procs[i].edges.set 0 ⟨y.procs[i].edges[0].frm, y.procs[i].edges[0].to, y2, y.procs[i].edges[0].var, y.procs[i].edges[0].value, y.procs[i].edges[0].sync⟩⟩) H kl).under fun _ H => H.sw3)
    have hOi := H.sw4.rep.one
    have hCi := H.sw4.rep.cells
    have hOw := H.rep.one
    have hCw := H.rep.cells
    simp -implicitDefEqProofs (disch := first | omega | (simp only [List.length_set, List.length_replicate, List.length_append, List.length_map, List.length_take, List.length_cons, List.length_nil]; omega)) [wrap64, setC, hOi, hCi, hOw, hCw]
    exact RetK.keep (hk _ _ ⟨_, _, (HS.mkSy (s := ⟨y.init, y.procs.set i ⟨y.procs[i].locs, y.procs[i].edges.set 0 ⟨y.procs[i].edges[0].frm, y.procs[i].edges[0].to, y2, y.procs[i].edges[0].var, y.procs[i].edges[0].value, y.procs[i].edges[0].sync⟩⟩⟩) H.sw4).sw3.drop.sw2.drop, Sy.Sm.set hy hi he ⟨by first | omega | (dsimp only; omega), hev⟩, by omega, by omega⟩)
  by_cases c3 : r6 = 3
  · have H := H.sw2
    obtain ⟨uP, huP, H⟩ := HS.take H hi
    obtain ⟨we, rfl, kl, H⟩ := H.unPr
    obtain ⟨uE, huE, H⟩ := HS.take H he
    obtain ⟨x1, x2, rfl, ok, H⟩ := H.unEd
    have hiaP := HS.holeia H.sw3 (n := 2) (kd := .i64) rfl hi
    have hPP := hld_parts (cs := [.int .i64 y.procs[i].locs, we]) (HS.holeP H.sw3 (n := 2) rfl rfl)
    have hiaE : iaV 10 we (.int .i64 0) = some (elp 10 we 0) := HS.holeia H.sw2 (n := 10) (kd := .i64) rfl he
    simp -implicitDefEqProofs (disch := first | omega | (simp only [List.length_set, List.length_replicate, List.length_append, List.length_map, List.length_take, List.length_cons, List.length_nil]; omega)) [wrap64, c0, c1, c2, c3, hiaP, hPP.1, hPP.2.2.1, hiaE]
    refine H.bls [(-1 : Int), 3, 0, -2] rfl rfl (okL (by decide)) (by decide) fun q hq H => ?_
    have H := H.sw5.sw1
    have hPP := hld_parts (cs := [.int .i64 y.procs[i].locs, we]) (HS.holeP H.sw5 (n := 2) rfl rfl)
    simp -implicitDefEqProofs (disch := first | omega | (simp only [List.length_set, List.length_replicate, List.length_append, List.length_map, List.length_take, List.length_cons, List.length_nil]; omega)) [wrap64, hiaP, hPP.1, hPP.2.2.1, hiaE]
    refine (c_num R H (by omega) (by omega) (by simp)).go ?_
    rintro _ h4 ⟨r7, rfl, o7, _, H⟩
    have hPP := hld_parts (cs := [.int .i64 y.procs[i].locs, we]) (HS.holeP H.sw4 (n := 2) rfl rfl)
    have hPE := hld_parts (HS.holeP H.sw3 (n := 10) rfl rfl)
    simp -implicitDefEqProofs (disch := first | omega | (simp only [List.length_set, List.length_replicate, List.length_append, List.length_map, List.length_take, List.length_cons, List.length_nil]; omega)) [wrap64, hiaP, hPP.1, hPP.2.2.1, hiaE, hPE.1]
    refine HS.holest H.sw3 rfl (n := 10) rfl rfl rfl rfl rfl (by decide) fun h5 H => ?_
    have H : HS g (hole we y.procs[i].edges 0 (.agg (Ed.cs ⟨y.procs[i].edges[0].frm, y.procs[i].edges[0].to, y.procs[i].edges[0].guard, r7, y.procs[i].edges[0].value, y.procs[i].edges[0].sync⟩ x1 x2).toArray) :: rb b sl (p1 + 1 + 1) :: ow x1 y.procs[i].edges[0].guard.kids :: ow x2 y.procs[i].edges[0].value.kids :: hole w y.procs i (.agg #[.int .i64 y.procs[i].locs, we]) :: ow wi y.init :: Γ) h5 := H
    have H := HS.put (HS.mkEd (e := ⟨y.procs[i].edges[0].frm, y.procs[i].edges[0].to, y.procs[i].edges[0].guard, r7, y.procs[i].edges[0].value, y.procs[i].edges[0].sync⟩) H.sw3.sw3 ⟨ok.frm, ok.to, ok.gk, ok.gv, o7, ok.vk, ok.vv, ok.sync⟩)
    have H := HS.put ((HS.mkPr (p := ⟨y.procs[i].locs, y.procs[i].edges.set 0 ⟨y.procs[i].edges[0].frm, y.procs[i].edges[0].to, y.procs[i].edges[0].guard, r7, y.procs[i].edges[0].value, y.procs[i].edges[0].sync⟩⟩) H kl).under fun _ H => H.sw1)
    have hOi := H.sw2.rep.one
    have hCi := H.sw2.rep.cells
    have hOw := H.rep.one
    have hCw := H.rep.cells
    simp -implicitDefEqProofs (disch := first | omega | (simp only [List.length_set, List.length_replicate, List.length_append, List.length_map, List.length_take, List.length_cons, List.length_nil]; omega)) [wrap64, setC, hOi, hCi, hOw, hCw]
    exact RetK.keep (hk _ _ ⟨_, _, HS.mkSy (s := ⟨y.init, y.procs.set i ⟨y.procs[i].locs, y.procs[i].edges.set 0 ⟨y.procs[i].edges[0].frm, y.procs[i].edges[0].to, y.procs[i].edges[0].guard, r7, y.procs[i].edges[0].value, y.procs[i].edges[0].sync⟩⟩⟩) H.sw2, Sy.Sm.set hy hi he ⟨heg, hev⟩, by omega, by omega⟩)
  by_cases c4 : r6 = 4
  · have H := H.sw2
    obtain ⟨uP, huP, H⟩ := HS.take H hi
    obtain ⟨we, rfl, kl, H⟩ := H.unPr
    obtain ⟨uE, huE, H⟩ := HS.take H he
    obtain ⟨x1, x2, rfl, ok, H⟩ := H.unEd
    have hiaP := HS.holeia H.sw3 (n := 2) (kd := .i64) rfl hi
    have hPP := hld_parts (cs := [.int .i64 y.procs[i].locs, we]) (HS.holeP H.sw3 (n := 2) rfl rfl)
    have hiaE : iaV 10 we (.int .i64 0) = some (elp 10 we 0) := HS.holeia H.sw2 (n := 10) (kd := .i64) rfl he
    simp -implicitDefEqProofs (disch := first | omega | (simp only [List.length_set, List.length_replicate, List.length_append, List.length_map, List.length_take, List.length_cons, List.length_nil]; omega)) [wrap64, c0, c1, c2, c3, c4, hiaP, hPP.1, hPP.2.2.1, hiaE]
    refine H.bls [(3 : Int), -3, 2, -9223372036854775808] rfl rfl (okL (by decide)) (by decide) fun q hq H => ?_
    have H := H.sw5.sw1
    have hPP := hld_parts (cs := [.int .i64 y.procs[i].locs, we]) (HS.holeP H.sw5 (n := 2) rfl rfl)
    simp -implicitDefEqProofs (disch := first | omega | (simp only [List.length_set, List.length_replicate, List.length_append, List.length_map, List.length_take, List.length_cons, List.length_nil]; omega)) [wrap64, hiaP, hPP.1, hPP.2.2.1, hiaE]
    refine (c_num R H (by omega) (by omega) (by simp)).go ?_
    rintro _ h4 ⟨r7, rfl, o7, _, H⟩
    have hPP := hld_parts (cs := [.int .i64 y.procs[i].locs, we]) (HS.holeP H.sw4 (n := 2) rfl rfl)
    have hPE := hld_parts (HS.holeP H.sw3 (n := 10) rfl rfl)
    simp -implicitDefEqProofs (disch := first | omega | (simp only [List.length_set, List.length_replicate, List.length_append, List.length_map, List.length_take, List.length_cons, List.length_nil]; omega)) [wrap64, hiaP, hPP.1, hPP.2.2.1, hiaE, hPE.1]
    refine HS.holest H.sw3 rfl (n := 10) rfl rfl rfl rfl rfl (by decide) fun h5 H => ?_
    have H : HS g (hole we y.procs[i].edges 0 (.agg (Ed.cs ⟨y.procs[i].edges[0].frm, y.procs[i].edges[0].to, y.procs[i].edges[0].guard, y.procs[i].edges[0].var, y.procs[i].edges[0].value, r7⟩ x1 x2).toArray) :: rb b sl (p1 + 1 + 1) :: ow x1 y.procs[i].edges[0].guard.kids :: ow x2 y.procs[i].edges[0].value.kids :: hole w y.procs i (.agg #[.int .i64 y.procs[i].locs, we]) :: ow wi y.init :: Γ) h5 := H
    have H := HS.put (HS.mkEd (e := ⟨y.procs[i].edges[0].frm, y.procs[i].edges[0].to, y.procs[i].edges[0].guard, y.procs[i].edges[0].var, y.procs[i].edges[0].value, r7⟩) H.sw3.sw3 ⟨ok.frm, ok.to, ok.gk, ok.gv, ok.var, ok.vk, ok.vv, o7⟩)
    have H := HS.put ((HS.mkPr (p := ⟨y.procs[i].locs, y.procs[i].edges.set 0 ⟨y.procs[i].edges[0].frm, y.procs[i].edges[0].to, y.procs[i].edges[0].guard, y.procs[i].edges[0].var, y.procs[i].edges[0].value, r7⟩⟩) H kl).under fun _ H => H.sw1)
    have hOi := H.sw2.rep.one
    have hCi := H.sw2.rep.cells
    have hOw := H.rep.one
    have hCw := H.rep.cells
    simp -implicitDefEqProofs (disch := first | omega | (simp only [List.length_set, List.length_replicate, List.length_append, List.length_map, List.length_take, List.length_cons, List.length_nil]; omega)) [wrap64, setC, hOi, hCi, hOw, hCw]
    exact RetK.keep (hk _ _ ⟨_, _, HS.mkSy (s := ⟨y.init, y.procs.set i ⟨y.procs[i].locs, y.procs[i].edges.set 0 ⟨y.procs[i].edges[0].frm, y.procs[i].edges[0].to, y.procs[i].edges[0].guard, y.procs[i].edges[0].var, y.procs[i].edges[0].value, r7⟩⟩⟩) H.sw2, Sy.Sm.set hy hi he ⟨heg, hev⟩, by omega, by omega⟩)
  by_cases c5 : r6 = 5
  · have H := H.sw2
    obtain ⟨uP, huP, H⟩ := HS.take H hi
    obtain ⟨we, rfl, kl, H⟩ := H.unPr
    obtain ⟨uE, huE, H⟩ := HS.take H he
    obtain ⟨x1, x2, rfl, ok, H⟩ := H.unEd
    have hiaP := HS.holeia H.sw3 (n := 2) (kd := .i64) rfl hi
    have hPP := hld_parts (cs := [.int .i64 y.procs[i].locs, we]) (HS.holeP H.sw3 (n := 2) rfl rfl)
    have hiaE : iaV 10 we (.int .i64 0) = some (elp 10 we 0) := HS.holeia H.sw2 (n := 10) (kd := .i64) rfl he
    simp -implicitDefEqProofs (disch := first | omega | (simp only [List.length_set, List.length_replicate, List.length_append, List.length_map, List.length_take, List.length_cons, List.length_nil]; omega)) [wrap64, c0, c1, c2, c3, c4, c5, hiaP, hPP.1, hPP.2.2.1, hiaE]
    refine H.bls [(-1 : Int), 4, 0, 9223372036854775807] rfl rfl (okL (by decide)) (by decide) fun q hq H => ?_
    have H := H.sw5.sw1
    have hPP := hld_parts (cs := [.int .i64 y.procs[i].locs, we]) (HS.holeP H.sw5 (n := 2) rfl rfl)
    simp -implicitDefEqProofs (disch := first | omega | (simp only [List.length_set, List.length_replicate, List.length_append, List.length_map, List.length_take, List.length_cons, List.length_nil]; omega)) [wrap64, hiaP, hPP.1, hPP.2.2.1, hiaE]
    refine (c_num R H (by omega) (by omega) (by simp)).go ?_
    rintro _ h4 ⟨r7, rfl, o7, _, H⟩
    have hPP := hld_parts (cs := [.int .i64 y.procs[i].locs, we]) (HS.holeP H.sw4 (n := 2) rfl rfl)
    have hPE := hld_parts (HS.holeP H.sw3 (n := 10) rfl rfl)
    simp -implicitDefEqProofs (disch := first | omega | (simp only [List.length_set, List.length_replicate, List.length_append, List.length_map, List.length_take, List.length_cons, List.length_nil]; omega)) [wrap64, hiaP, hPP.1, hPP.2.2.1, hiaE, hPE.1]
    refine HS.holest H.sw3 rfl (n := 10) rfl rfl rfl rfl rfl (by decide) fun h5 H => ?_
    have H : HS g (hole we y.procs[i].edges 0 (.agg (Ed.cs ⟨y.procs[i].edges[0].frm, r7, y.procs[i].edges[0].guard, y.procs[i].edges[0].var, y.procs[i].edges[0].value, y.procs[i].edges[0].sync⟩ x1 x2).toArray) :: rb b sl (p1 + 1 + 1) :: ow x1 y.procs[i].edges[0].guard.kids :: ow x2 y.procs[i].edges[0].value.kids :: hole w y.procs i (.agg #[.int .i64 y.procs[i].locs, we]) :: ow wi y.init :: Γ) h5 := H
    have H := HS.put (HS.mkEd (e := ⟨y.procs[i].edges[0].frm, r7, y.procs[i].edges[0].guard, y.procs[i].edges[0].var, y.procs[i].edges[0].value, y.procs[i].edges[0].sync⟩) H.sw3.sw3 ⟨ok.frm, o7, ok.gk, ok.gv, ok.var, ok.vk, ok.vv, ok.sync⟩)
    have H := HS.put ((HS.mkPr (p := ⟨y.procs[i].locs, y.procs[i].edges.set 0 ⟨y.procs[i].edges[0].frm, r7, y.procs[i].edges[0].guard, y.procs[i].edges[0].var, y.procs[i].edges[0].value, y.procs[i].edges[0].sync⟩⟩) H kl).under fun _ H => H.sw1)
    have hOi := H.sw2.rep.one
    have hCi := H.sw2.rep.cells
    have hOw := H.rep.one
    have hCw := H.rep.cells
    simp -implicitDefEqProofs (disch := first | omega | (simp only [List.length_set, List.length_replicate, List.length_append, List.length_map, List.length_take, List.length_cons, List.length_nil]; omega)) [wrap64, setC, hOi, hCi, hOw, hCw]
    exact RetK.keep (hk _ _ ⟨_, _, HS.mkSy (s := ⟨y.init, y.procs.set i ⟨y.procs[i].locs, y.procs[i].edges.set 0 ⟨y.procs[i].edges[0].frm, r7, y.procs[i].edges[0].guard, y.procs[i].edges[0].var, y.procs[i].edges[0].value, y.procs[i].edges[0].sync⟩⟩⟩) H.sw2, Sy.Sm.set hy hi he ⟨heg, hev⟩, by omega, by omega⟩)
  by_cases c6 : r6 = 6
  · simp -implicitDefEqProofs (disch := first | omega | (simp only [List.length_set, List.length_replicate, List.length_append, List.length_map, List.length_take, List.length_cons, List.length_nil]; omega)) [wrap64, c0, c1, c2, c3, c4, c5, c6, setC]
    exact RetK.keep (hk _ _ ⟨⟨[], []⟩, p1 + 1, HS.mkSy (s := ⟨[], []⟩) (H.sw2.drop.sw1.drop.nil_ow.nil_ow), ⟨by simp, by simp, by simp⟩, by omega, by omega⟩)
  · simp -implicitDefEqProofs (disch := first | omega | (simp only [List.length_set, List.length_replicate, List.length_append, List.length_map, List.length_take, List.length_cons, List.length_nil]; omega)) [wrap64, c0, c1, c2, c3, c4, c5, c6, setC, hOi, hCi, hOw, hCw]
    exact RetK.keep (hk _ _ ⟨y, _, HS.mkSy H.sw2.sw2, hy, by omega, by omega⟩)
end Go.Proofs.Ythgimpheeemooaa

/-
  Arguments of laws: labels that are drawn.
-/
namespace Go.Proofs.Ythgimpheeemooaa
open Go
set_option linter.all false
set_option linter.unusedVariables false
set_option linter.unusedSimpArgs false
set_option linter.defProp false
set_option maxRecDepth 1000000

end Go.Proofs.Ythgimpheeemooaa

/-
  Arguments of laws: systems with labels.
-/
namespace Go.Proofs.Ythgimpheeemooaa
open Go
set_option linter.all false
set_option linter.unusedVariables false
set_option linter.unusedSimpArgs false
set_option linter.defProp false
set_option maxRecDepth 1000000

end Go.Proofs.Ythgimpheeemooaa

/-
  Bodies of functions in the small language, as a program printed them, and that each is what the translation gives.
-/
namespace Go.Proofs.Ythgimpheeemooaa
open Go
set_option linter.all false
set_option linter.defProp false
set_option maxRecDepth 1000000

def H_spec_l3Steps : Hint := ⟨[(0, false), (1, false), (2, true), (3, true), (4, false), (5, false), (6, false), (7, false), (8, false)], [[0, 1, 4, 7, 8], [0, 1, 4, 8]]⟩
def K137_1 : C := .seq (.pl <| .st (.ext 9 1) <|
    .st (.act none (.px (some 9) (.mv (.v 5)))) <|
    .st (.act none (.px (some 4) (.mv (.v 9)))) .done) (.ret)
@[simp] def W137_1 := @C.wpe _ _ K137_1.eq_1
def K137_2 : C := .pl <| .st (.ext 9 2) <|
    .st (.act none (.px (some 9) (.mv (.v 6)))) <|
    .st (.act none (.px (some 10) (.bin .add (.v 9) (.c (.int .i64 1))))) <|
    .st (.act none (.px (some 6) (.mv (.v 10)))) .done
@[simp] def W137_2 := @C.wpe _ _ K137_2.eq_1
def K137_3 : C := .pl <| .st (.ext 9 2) <|
    .st (.act none (.px (some 9) (.mv (.v 7)))) <|
    .st (.act none (.px (some 10) (.bin .add (.v 9) (.c (.int .i64 1))))) <|
    .st (.act none (.px (some 7) (.mv (.v 10)))) .done
@[simp] def W137_3 := @C.wpe _ _ K137_3.eq_1
def K137_4 : Pl := .st (.act none (.px (some 5) (.mv (.v 14)))) .done
@[simp] def W137_4 := @Pl.wpe _ _ K137_4.eq_1
def K137_5 : C := .pl <| .st (.ext 9 6) <|
    .st (.act none (.px (some 9) (.mv (.v 5)))) <|
    .st (.act none (.px (some 10) (.mv (.v 6)))) <|
    .st (.act none (.px (some 11) (.mv (.v 7)))) <|
    .st (.act none (.px (some 12) (.build [.int .i64 0, .int .i64 0, .int .i64 0, .int .i64 0] [(0, 1, .v 10), (1, 1, .v 11), (2, 1, .c (.int .i64 (-1))), (3, 1, .c (.int .i64 (-1)))]))) <|
    .st (.act none (.psl 13 [.int .i64 0, .int .i64 0, .int .i64 0, .int .i64 0] [(0, 4, .v 12)])) <|
    .st (.act none (.ex (some 14) (.app 32 4 [.int .i64 0, .int .i64 0, .int .i64 0, .int .i64 0] (.o (.v 9)) (.p 1 13)))) K137_4
@[simp] def W137_5 := @C.wpe _ _ K137_5.eq_1
def K137_6 : Pl := .st (.act none (.px (some 5) (.mv (.v 15)))) .done
@[simp] def W137_6 := @Pl.wpe _ _ K137_6.eq_1
def K137_7 : Pl := .st (.act none (.ex (some 15) (.app 32 4 [.int .i64 0, .int .i64 0, .int .i64 0, .int .i64 0] (.o (.v 9)) (.o (.v 14))))) K137_6
@[simp] def W137_7 := @Pl.wpe _ _ K137_7.eq_1
def K137_8 : C := .pl <| .st (.ext 9 7) <|
    .st (.act none (.px (some 9) (.mv (.v 5)))) <|
    .st (.act none (.pget (some 10) none 2 0 (some 2))) <|
    .st (.act none (.pget (some 11) none 3 0 (some 2))) <|
    .st (.act none (.px (some 12) (.mv (.v 6)))) <|
    .st (.act none (.px (some 13) (.mv (.v 7)))) <|
    .st (.act none (.ex (some 14) (.call fn_spec_l3Partners [.v 10, .v 11, .v 12, .v 13]))) K137_7
@[simp] def W137_8 := @C.wpe _ _ K137_8.eq_1
def K137_9 : C := .cond 9 (.v 10) K137_5 K137_8
@[simp] def W137_9 := @C.wpe _ _ K137_9.eq_1
def K137_10 : C := .seq (.pl <| .st (.ext 9 2) <|
    .st (.act none (.px (some 9) (.mv (.v 8)))) <|
    .st (.act none (.px (some 10) (.bin .eql (.v 9) (.c (.int .i64 0))))) .done) K137_9
@[simp] def W137_10 := @C.wpe _ _ K137_10.eq_1
def K137_11 : C := .cond 9 (.v 18) (.exit 3) (.skip)
@[simp] def W137_11 := @C.wpe _ _ K137_11.eq_1
def K137_12 : Pl := .st (.act (some (.v 11, false)) (.px (some 17) (.un .not (.v 16)))) <|
    .st (.act none (.px (some 18) (.pick (.v 11) (.c (.bool true)) (.v 17)))) .done
@[simp] def W137_12 := @Pl.wpe _ _ K137_12.eq_1
def K137_13 : C := .seq (.seq (.pl <| .st (.ext 9 10) <|
    .st (.act none (.px (some 9) (.mv (.v 8)))) <|
    .st (.act none (.px (some 10) (.bin .lss (.v 9) (.c (.int .i64 0))))) <|
    .st (.act none (.px (some 11) (.mv (.v 10)))) <|
    .st (.act (some (.v 11, false)) (.pget (some 12) none 2 0 (some 2))) <|
    .st (.act (some (.v 11, false)) (.pget (some 13) none 3 0 (some 2))) <|
    .st (.act (some (.v 11, false)) (.px (some 14) (.mv (.v 6)))) <|
    .st (.act (some (.v 11, false)) (.px (some 15) (.mv (.v 7)))) <|
    .st (.act (some (.v 11, false)) (.ex (some 16) (.call fn_spec_l3Ready [.v 12, .v 13, .v 14, .v 15]))) K137_12) K137_11) K137_10
@[simp] def W137_13 := @C.wpe _ _ K137_13.eq_1
def K137_14 : C := .seq (.block 3 (.seq (.pl <| .st (.ext 9 10) <|
    .st (.act none (.als 9 none 2)) <|
    .st (.act none (.pget (some 10) (some 9) 2 1 none)) <|
    .st (.act none (.px (some 11) (.mv (.v 6)))) <|
    .st (.act none (.px (some 12) (.ia 2 (.v 10) (.v 11)))) <|
    .st (.act none (.px (some 13) (.fa 1 (.v 12)))) <|
    .st (.act none (.ld (some 14) (.v 13) none)) <|
    .st (.act none (.px (some 15) (.mv (.v 7)))) <|
    .st (.act none (.px (some 16) (.ia 10 (.v 14) (.v 15)))) <|
    .st (.act none (.px (some 17) (.fa 9 (.v 16)))) <|
    .st (.act none (.ld (some 18) (.v 17) none)) <|
    .st (.act none (.px (some 8) (.mv (.v 18)))) .done) K137_13)) K137_3
@[simp] def W137_14 := @C.wpe _ _ K137_14.eq_1
def K137_15 : C := .cond 9 (.v 17) (.skip) (.exit 2)
@[simp] def W137_15 := @C.wpe _ _ K137_15.eq_1
def K137_16 : C := .seq (.seq (.pl <| .st (.ext 9 9) <|
    .st (.act none (.px (some 9) (.mv (.v 7)))) <|
    .st (.act none (.als 10 none 2)) <|
    .st (.act none (.pget (some 11) (some 10) 2 1 none)) <|
    .st (.act none (.px (some 12) (.mv (.v 6)))) <|
    .st (.act none (.px (some 13) (.ia 2 (.v 11) (.v 12)))) <|
    .st (.act none (.px (some 14) (.fa 1 (.v 13)))) <|
    .st (.act none (.ld (some 15) (.v 14) none)) <|
    .st (.act none (.px (some 16) (.lenV (.v 15)))) <|
    .st (.act none (.px (some 17) (.bin .lss (.v 9) (.v 16)))) .done) K137_15) K137_14
@[simp] def W137_16 := @C.wpe _ _ K137_16.eq_1
def K137_17 : C := .block 2 (.loop 9 [0, 1, 4, 8] K137_16)
@[simp] def W137_17 := @C.wpe _ _ K137_17.eq_1
def K137_18 : C := .seq (.block 1 (.seq (.pl <| .st (.ext 9 0) <|
    .st (.act none (.px (some 7) (.mv (.c (.int .i64 0))))) .done) K137_17)) K137_2
@[simp] def W137_18 := @C.wpe _ _ K137_18.eq_1
def K137_19 : C := .cond 9 (.v 13) (.skip) (.exit 0)
@[simp] def W137_19 := @C.wpe _ _ K137_19.eq_1
def K137_20 : C := .seq (.seq (.pl <| .st (.ext 9 5) <|
    .st (.act none (.px (some 9) (.mv (.v 6)))) <|
    .st (.act none (.als 10 none 2)) <|
    .st (.act none (.pget (some 11) (some 10) 2 1 none)) <|
    .st (.act none (.px (some 12) (.lenV (.v 11)))) <|
    .st (.act none (.px (some 13) (.bin .lss (.v 9) (.v 12)))) .done) K137_19) K137_18
@[simp] def W137_20 := @C.wpe _ _ K137_20.eq_1
def K137_21 : C := .block 0 (.loop 9 [0, 1, 4, 7, 8] K137_20)
@[simp] def W137_21 := @C.wpe _ _ K137_21.eq_1
def K137_22 : C := .seq (.seq (.pl <| .st (.ext 9 0) <|
    .st (.act none (.px (some 6) (.mv (.c (.int .i64 0))))) .done) K137_21) K137_1
@[simp] def W137_22 := @C.wpe _ _ K137_22.eq_1
def K137_23 : Pl := .st (.act none (.px (some 5) (.mv (.v 9)))) .done
@[simp] def W137_23 := @Pl.wpe _ _ K137_23.eq_1
def K137_24 : C := .seq (.pl <| .st (.ext 9 1) <|
    .st (.act none (.ex (some 9) (.bls 4 0 [.int .i64 0, .int .i64 0, .int .i64 0, .int .i64 0] []))) K137_23) K137_22
@[simp] def W137_24 := @C.wpe _ _ K137_24.eq_1
def B_spec_l3Steps : C := .seq (.pl <| .st (.ext 9 0) <|
    .st (.act none (.pnew 2 (.v 0) [])) <|
    .st (.act none (.pnew 3 (.v 1) [])) <|
    .st (.act none (.px (some 4) (.mv (.c (.slice none 0 0))))) .done) K137_24
@[simp] def WB_spec_l3Steps := @C.wpe _ _ B_spec_l3Steps.eq_1
def R_spec_l3Steps : FIR := ⟨B_spec_l3Steps, 9, [(4, none)]⟩
theorem IR_spec_l3Steps : cfun Try.prog H_spec_l3Steps Try.f137 = some R_spec_l3Steps := by kernel_rfl
theorem EN_spec_l3Steps {args : List Value} {h : Heap} {k : Value → Heap → Prop} (hargs : args.length = 2) (hw : B_spec_l3Steps.wp Try.prog (retQ [(4, none)] k) (env0 args 9) h) : CallE Try.prog fn_spec_l3Steps args h k := enter Try.func137 rfl IR_spec_l3Steps hargs hw

def H_spec_l3Take : Hint := ⟨[(0, false), (1, false), (2, false), (3, true), (5, true), (6, true)], []⟩
def K138_1 : C := .seq (.pl <| .st (.ext 6 1) <|
    .st (.act none (.pget (some 6) none 3 0 (some 2))) <|
    .st (.act none (.pset none 5 0 2 (.v 6))) .done) (.ret)
@[simp] def W138_1 := @C.wpe _ _ K138_1.eq_1
def K138_2 : Pl := .st (.act none (.px (some 15) (.ia 1 (.v 7) (.v 9)))) <|
    .st (.act none (.ex none (.store 1 (.v 15) (.v 14)))) .done
@[simp] def W138_2 := @Pl.wpe _ _ K138_2.eq_1
def K138_3 : C := .pl <| .st (.ext 6 10) <|
    .st (.act none (.als 6 none 3)) <|
    .st (.act none (.pget (some 7) (some 6) 3 1 none)) <|
    .st (.act none (.als 8 none 4)) <|
    .st (.act none (.pget (some 9) (some 8) 4 5 none)) <|
    .st (.act none (.als 10 none 4)) <|
    .st (.act none (.pget (some 11) (some 10) 4 6 (some 3))) <|
    .st (.act none (.als 12 none 3)) <|
    .st (.act none (.pget (some 13) (some 12) 3 1 none)) <|
    .st (.act none (.ex (some 14) (.call fn_spec_l1Eval [.v 11, .v 13]))) K138_2
@[simp] def W138_3 := @C.wpe _ _ K138_3.eq_1
def K138_4 : C := .cond 6 (.v 8) K138_3 (.skip)
@[simp] def W138_4 := @C.wpe _ _ K138_4.eq_1
def K138_5 : C := .seq (.seq (.pl <| .st (.ext 6 3) <|
    .st (.act none (.als 6 none 4)) <|
    .st (.act none (.pget (some 7) (some 6) 4 5 none)) <|
    .st (.act none (.px (some 8) (.bin .geq (.v 7) (.c (.int .i64 0))))) .done) K138_4) K138_1
@[simp] def W138_5 := @C.wpe _ _ K138_5.eq_1
def K138_6 : C := .seq (.pl <| .st (.ext 6 6) <|
    .st (.act none (.als 6 none 3)) <|
    .st (.act none (.pget (some 7) (some 6) 3 0 none)) <|
    .st (.act none (.px (some 8) (.mv (.v 1)))) <|
    .st (.act none (.als 9 none 4)) <|
    .st (.act none (.pget (some 10) (some 9) 4 1 none)) <|
    .st (.act none (.px (some 11) (.ia 1 (.v 7) (.v 8)))) <|
    .st (.act none (.ex none (.store 1 (.v 11) (.v 10)))) .done) K138_5
@[simp] def W138_6 := @C.wpe _ _ K138_6.eq_1
def B_spec_l3Take : C := .seq (.pl <| .st (.ext 6 0) <|
    .st (.act none (.pnew 3 (.v 0) [])) <|
    .st (.act none (.pnew 4 (.v 2) [])) <|
    .st (.act none (.pnew 5 (.c (.agg #[.slice none 0 0, .slice none 0 0])) [])) .done) K138_6
@[simp] def WB_spec_l3Take := @C.wpe _ _ B_spec_l3Take.eq_1
def R_spec_l3Take : FIR := ⟨B_spec_l3Take, 6, [(5, some (some 2))]⟩
theorem IR_spec_l3Take : cfun Try.prog H_spec_l3Take Try.f138 = some R_spec_l3Take := by kernel_rfl
theorem EN_spec_l3Take {args : List Value} {h : Heap} {k : Value → Heap → Prop} (hargs : args.length = 3) (hw : B_spec_l3Take.wp Try.prog (retQ [(5, some (some 2))] k) (env0 args 6) h) : CallE Try.prog fn_spec_l3Take args h k := enter Try.func138 rfl IR_spec_l3Take hargs hw


end Go.Proofs.Ythgimpheeemooaa

/-
  Bodies of functions in the small language, as a program printed them, and that each is what the translation gives.
-/
namespace Go.Proofs.Ythgimpheeemooaa
open Go
set_option linter.all false
set_option linter.defProp false
set_option maxRecDepth 1000000

def H_impl_clone_int : Hint := ⟨[(0, false), (2, false)], []⟩
def K131_1 : Pl := .st (.act none (.px (some 1) (.mv (.v 4)))) .done
@[simp] def W131_1 := @Pl.wpe _ _ K131_1.eq_1
def K131_2 : Pl := .st (.act none (.ex (some 4) (.call fn_slices_Clip_S_int_int [.v 3]))) K131_1
@[simp] def W131_2 := @Pl.wpe _ _ K131_2.eq_1
def K131_3 : C := .seq (.pl <| .st (.ext 2 3) <|
    .st (.act none (.px (some 2) (.mv (.v 0)))) <|
    .st (.act none (.ex (some 3) (.call fn_slices_Clone_S_int_int [.v 2]))) K131_2) (.ret)
@[simp] def W131_3 := @C.wpe _ _ K131_3.eq_1
def B_impl_clone_int : C := .seq (.pl <| .st (.ext 2 0) <|
    .st (.act none (.px (some 1) (.mv (.c (.slice none 0 0))))) .done) K131_3
@[simp] def WB_impl_clone_int := @C.wpe _ _ B_impl_clone_int.eq_1
def R_impl_clone_int : FIR := ⟨B_impl_clone_int, 2, [(1, none)]⟩
theorem IR_impl_clone_int : cfun Try.prog H_impl_clone_int Try.f131 = some R_impl_clone_int := by kernel_rfl
theorem EN_impl_clone_int {args : List Value} {h : Heap} {k : Value → Heap → Prop} (hargs : args.length = 1) (hw : B_impl_clone_int.wp Try.prog (retQ [(1, none)] k) (env0 args 2) h) : CallE Try.prog fn_impl_clone_int args h k := enter Try.func131 rfl IR_impl_clone_int hargs hw

def H_slices_Clip_S_int_int : Hint := ⟨[(0, false), (2, false)], []⟩
def K165_1 : C := .seq (.pl <| .st (.ext 2 6) <|
    .st (.act none (.px (some 2) (.mv (.v 0)))) <|
    .st (.act none (.px (some 3) (.mv (.v 0)))) <|
    .st (.act none (.px (some 4) (.lenV (.v 3)))) <|
    .st (.act none (.px (some 5) (.mv (.v 0)))) <|
    .st (.act none (.px (some 6) (.lenV (.v 5)))) <|
    .st (.act none (.px (some 7) (.sliceV 1 (.v 2) none (some (.v 4)) (some (.v 6))))) <|
    .st (.act none (.px (some 1) (.mv (.v 7)))) .done) (.ret)
@[simp] def W165_1 := @C.wpe _ _ K165_1.eq_1
def B_slices_Clip_S_int_int : C := .seq (.pl <| .st (.ext 2 0) <|
    .st (.act none (.px (some 1) (.mv (.c (.slice none 0 0))))) .done) K165_1
@[simp] def WB_slices_Clip_S_int_int := @C.wpe _ _ B_slices_Clip_S_int_int.eq_1
def R_slices_Clip_S_int_int : FIR := ⟨B_slices_Clip_S_int_int, 2, [(1, none)]⟩
theorem IR_slices_Clip_S_int_int : cfun Try.prog H_slices_Clip_S_int_int Try.f165 = some R_slices_Clip_S_int_int := by kernel_rfl
theorem EN_slices_Clip_S_int_int {args : List Value} {h : Heap} {k : Value → Heap → Prop} (hargs : args.length = 1) (hw : B_slices_Clip_S_int_int.wp Try.prog (retQ [(1, none)] k) (env0 args 2) h) : CallE Try.prog fn_slices_Clip_S_int_int args h k := enter Try.func165 rfl IR_slices_Clip_S_int_int hargs hw

def H_slices_Clone_S_int_int : Hint := ⟨[(0, false), (2, false)], []⟩
def K166_1 : Pl := .st (.act none (.px (some 1) (.mv (.v 4)))) .done
@[simp] def W166_1 := @Pl.wpe _ _ K166_1.eq_1
def K166_2 : C := .seq (.pl <| .st (.ext 2 3) <|
    .st (.act none (.psl 2 [] [])) <|
    .st (.act none (.px (some 3) (.mv (.v 0)))) <|
    .st (.act none (.ex (some 4) (.app 8 1 [.int .i64 0] (.p 0 2) (.o (.v 3))))) K166_1) (.ret)
@[simp] def W166_2 := @C.wpe _ _ K166_2.eq_1
def K166_3 : C := .seq (.pl <| .st (.ext 2 0) <|
    .st (.act none (.px (some 1) (.mv (.c (.slice none 0 0))))) .done) (.ret)
@[simp] def W166_3 := @C.wpe _ _ K166_3.eq_1
def K166_4 : C := .cond 2 (.v 3) K166_3 (.skip)
@[simp] def W166_4 := @C.wpe _ _ K166_4.eq_1
def K166_5 : C := .seq (.seq (.pl <| .st (.ext 2 2) <|
    .st (.act none (.px (some 2) (.mv (.v 0)))) <|
    .st (.act none (.px (some 3) (.isNil false (.v 2)))) .done) K166_4) K166_2
@[simp] def W166_5 := @C.wpe _ _ K166_5.eq_1
def B_slices_Clone_S_int_int : C := .seq (.pl <| .st (.ext 2 0) <|
    .st (.act none (.px (some 1) (.mv (.c (.slice none 0 0))))) .done) K166_5
@[simp] def WB_slices_Clone_S_int_int := @C.wpe _ _ B_slices_Clone_S_int_int.eq_1
def R_slices_Clone_S_int_int : FIR := ⟨B_slices_Clone_S_int_int, 2, [(1, none)]⟩
theorem IR_slices_Clone_S_int_int : cfun Try.prog H_slices_Clone_S_int_int Try.f166 = some R_slices_Clone_S_int_int := by kernel_rfl
theorem EN_slices_Clone_S_int_int {args : List Value} {h : Heap} {k : Value → Heap → Prop} (hargs : args.length = 1) (hw : B_slices_Clone_S_int_int.wp Try.prog (retQ [(1, none)] k) (env0 args 2) h) : CallE Try.prog fn_slices_Clone_S_int_int args h k := enter Try.func166 rfl IR_slices_Clone_S_int_int hargs hw

def H_slices_Equal_S_int_int : Hint := ⟨[(0, false), (1, false), (4, false), (5, false), (12, false), (13, false)], [[2, 3]]⟩
def K99_1 : C := .seq (.pl <| .st (.ext 6 0) <|
    .st (.act none (.px (some 2) (.mv (.c (.bool true))))) .done) (.ret)
@[simp] def W99_1 := @C.wpe _ _ K99_1.eq_1
def K99_2 : C := .pl <| .st (.ext 6 1) <|
    .st (.act none (.px (some 6) (.bin .add (.v 5) (.c (.int .i64 1))))) <|
    .st (.act none (.px (some 5) (.mv (.v 6)))) .done
@[simp] def W99_2 := @C.wpe _ _ K99_2.eq_1
def K99_3 : C := .seq (.pl <| .st (.ext 6 0) <|
    .st (.act none (.px (some 2) (.mv (.c (.bool false))))) .done) (.ret)
@[simp] def W99_3 := @C.wpe _ _ K99_3.eq_1
def K99_4 : C := .cond 6 (.v 14) K99_3 (.skip)
@[simp] def W99_4 := @C.wpe _ _ K99_4.eq_1
def K99_5 : C := .seq (.pl <| .st (.ext 6 9) <|
    .st (.act none (.px (some 6) (.mv (.v 0)))) <|
    .st (.act none (.px (some 7) (.mv (.v 3)))) <|
    .st (.act none (.px (some 8) (.ia 1 (.v 6) (.v 7)))) <|
    .st (.act none (.ld (some 9) (.v 8) none)) <|
    .st (.act none (.px (some 10) (.mv (.v 1)))) <|
    .st (.act none (.px (some 11) (.mv (.v 3)))) <|
    .st (.act none (.px (some 12) (.ia 1 (.v 10) (.v 11)))) <|
    .st (.act none (.ld (some 13) (.v 12) none)) <|
    .st (.act none (.px (some 14) (.bin .neq (.v 9) (.v 13)))) .done) K99_4
@[simp] def W99_5 := @C.wpe _ _ K99_5.eq_1
def K99_6 : C := .seq (.block 1 (.seq (.pl <| .st (.ext 6 1) <|
    .st (.act none (.px (some 6) (.mv (.v 5)))) <|
    .st (.act none (.px (some 3) (.mv (.v 6)))) .done) K99_5)) K99_2
@[simp] def W99_6 := @C.wpe _ _ K99_6.eq_1
def K99_7 : C := .seq (.cond 6 (.v 6) (.skip) (.exit 0)) K99_6
@[simp] def W99_7 := @C.wpe _ _ K99_7.eq_1
def K99_8 : C := .seq (.pl <| .st (.ext 6 1) <|
    .st (.act none (.px (some 6) (.bin .lss (.v 5) (.v 4)))) .done) K99_7
@[simp] def W99_8 := @C.wpe _ _ K99_8.eq_1
def K99_9 : C := .block 0 (.loop 6 [2, 3] K99_8)
@[simp] def W99_9 := @C.wpe _ _ K99_9.eq_1
def K99_10 : C := .seq (.seq (.pl <| .st (.ext 6 1) <|
    .st (.act none (.px (some 6) (.mv (.v 0)))) <|
    .st (.act none (.px (some 4) (.lenV (.v 6)))) <|
    .st (.act none (.px (some 5) (.mv (.c (.int .i64 0))))) .done) K99_9) K99_1
@[simp] def W99_10 := @C.wpe _ _ K99_10.eq_1
def K99_11 : C := .seq (.pl <| .st (.ext 6 0) <|
    .st (.act none (.px (some 2) (.mv (.c (.bool false))))) .done) (.ret)
@[simp] def W99_11 := @C.wpe _ _ K99_11.eq_1
def K99_12 : C := .cond 6 (.v 10) K99_11 (.skip)
@[simp] def W99_12 := @C.wpe _ _ K99_12.eq_1
def K99_13 : C := .seq (.seq (.pl <| .st (.ext 6 5) <|
    .st (.act none (.px (some 6) (.mv (.v 0)))) <|
    .st (.act none (.px (some 7) (.lenV (.v 6)))) <|
    .st (.act none (.px (some 8) (.mv (.v 1)))) <|
    .st (.act none (.px (some 9) (.lenV (.v 8)))) <|
    .st (.act none (.px (some 10) (.bin .neq (.v 7) (.v 9)))) .done) K99_12) K99_10
@[simp] def W99_13 := @C.wpe _ _ K99_13.eq_1
def B_slices_Equal_S_int_int : C := .seq (.pl <| .st (.ext 6 0) <|
    .st (.act none (.px (some 2) (.mv (.c (.bool false))))) .done) K99_13
@[simp] def WB_slices_Equal_S_int_int := @C.wpe _ _ B_slices_Equal_S_int_int.eq_1
def R_slices_Equal_S_int_int : FIR := ⟨B_slices_Equal_S_int_int, 6, [(2, none)]⟩
theorem IR_slices_Equal_S_int_int : cfun Try.prog H_slices_Equal_S_int_int Try.f99 = some R_slices_Equal_S_int_int := by kernel_rfl
theorem EN_slices_Equal_S_int_int {args : List Value} {h : Heap} {k : Value → Heap → Prop} (hargs : args.length = 2) (hw : B_slices_Equal_S_int_int.wp Try.prog (retQ [(2, none)] k) (env0 args 6) h) : CallE Try.prog fn_slices_Equal_S_int_int args h k := enter Try.func99 rfl IR_slices_Equal_S_int_int hargs hw


end Go.Proofs.Ythgimpheeemooaa

/-
  Instances of functions over slices: copies, and whether some element meets a condition. Printed by a program.
-/
namespace Go.Proofs.Ythgimpheeemooaa
open Go
set_option linter.all false
set_option linter.unusedVariables false
set_option linter.unusedSimpArgs false
set_option linter.defProp false
set_option maxRecDepth 1000000

theorem c_Clone_int {h : Heap} {a : Value} {x : List (Int)} (Ra : Rep h a x) (hs : x.length ≤ 1073741824) : CallE Try.prog fn_slices_Clone_S_int_int [a] h (fun v h' => HS h [ow v x] h') := by
  refine CallE.gen fun k hk => EN_slices_Clone_S_int_int rfl ?_
  obtain ⟨b, hb, hb2⟩ := Ra.isNil
  simp -implicitDefEqProofs (disch := first | omega | (simp only [List.length_set, List.length_replicate, List.length_append, List.length_map, List.length_take, List.length_cons, List.length_nil]; omega)) [wrap64, hb]
  refine IteW.mk (fun h1 => ?_) (fun h1 => ?_)
  · simp -implicitDefEqProofs (disch := first | omega | (simp only [List.length_set, List.length_replicate, List.length_append, List.length_map, List.length_take, List.length_cons, List.length_nil]; omega)) [wrap64]
    have h2 : x = [] := hb2 h1
    subst h2
    exact RetK.keep (hk _ _ HS.init.nil_ow)
  · simp -implicitDefEqProofs (disch := first | omega | (simp only [List.length_set, List.length_replicate, List.length_append, List.length_map, List.length_take, List.length_cons, List.length_nil]; omega)) [wrap64]
    refine HS.init.appPL (α := Int) (l2 := x) (u := a) rfl rfl Ra rfl rfl (by omega) fun v h1 H => ?_
    simp -implicitDefEqProofs (disch := first | omega | (simp only [List.length_set, List.length_replicate, List.length_append, List.length_map, List.length_take, List.length_cons, List.length_nil]; omega)) [wrap64]
    exact RetK.keep (hk _ _ H)

theorem c_Clip_int {g h : Heap} {Γ : List HP} {a : Value} {x : List (Int)} (H : HS g (ow a x :: Γ) h) : CallE Try.prog fn_slices_Clip_S_int_int [a] h (fun v h' => HS g (ow v x :: Γ) h') := by
  refine CallE.gen fun k hk => EN_slices_Clip_S_int_int rfl ?_
  obtain ⟨v', h1, h2⟩ := H.clip (esz := 1) (k := .i64)
  simp -implicitDefEqProofs (disch := first | omega | (simp only [List.length_set, List.length_replicate, List.length_append, List.length_map, List.length_take, List.length_cons, List.length_nil]; omega)) [wrap64, H.rep.I, h1]
  exact RetK.keep (hk _ _ h2)

theorem c_clone_int {h : Heap} {a : Value} {x : List (Int)} (Ra : Rep h a x) (hs : x.length ≤ 1073741824) : CallE Try.prog fn_impl_clone_int [a] h (fun v h' => HS h [ow v x] h') := by
  refine CallE.gen fun k hk => EN_impl_clone_int rfl ?_
  simp -implicitDefEqProofs (disch := first | omega | (simp only [List.length_set, List.length_replicate, List.length_append, List.length_map, List.length_take, List.length_cons, List.length_nil]; omega)) [wrap64]
  refine (c_Clone_int Ra hs).go ?_
  intro v h1 H
  simp -implicitDefEqProofs (disch := first | omega | (simp only [List.length_set, List.length_replicate, List.length_append, List.length_map, List.length_take, List.length_cons, List.length_nil]; omega)) [wrap64]
  refine (c_Clip_int H).go ?_
  intro v' h2 H
  simp -implicitDefEqProofs (disch := first | omega | (simp only [List.length_set, List.length_replicate, List.length_append, List.length_map, List.length_take, List.length_cons, List.length_nil]; omega)) [wrap64]
  exact RetK.keep (hk _ _ H)

end Go.Proofs.Ythgimpheeemooaa

/-
  States of systems; projections of states: by the program and by the reference.
-/
namespace Go.Proofs.Ythgimpheeemooaa
open Go
set_option linter.all false
set_option linter.unusedVariables false
set_option linter.unusedSimpArgs false
set_option linter.defProp false
set_option maxRecDepth 1000000

/-- a state of a system -/
structure Sta.Ok (s : Sy) (st : Sta) : Prop where
  len : st.locs.length = s.procs.length
  vs : VOk st.vals
  lc : ∀ (i : Nat) (h1 : i < st.locs.length) (h2 : i < s.procs.length), 0 ≤ st.locs[i] ∧ st.locs[i] < s.procs[i].locs
noncomputable instance instDecStaOk {s : Sy} {st : Sta} : Decidable (st.Ok s) := Classical.propDecidable _

theorem c_has {h : Heap} {v w : Value} {s : Sy} {st : Sta} (hs : s.Ok) (R : Rep h v s) (Rt : Rep h w st) : CallE Try.prog fn_impl_System_has [v, w] h (fun u h' => h.le h' ∧ u = .bool (decide (st.Ok s))) := by
  obtain ⟨v1, v2, rfl, R1, R2⟩ := Rep_Sy.1 R
  obtain ⟨w1, w2, rfl, T1, T2⟩ := Rep_Sta.1 Rt
  have hL1 := R2.lt
  have hL2 := T1.lt
  refine CallE.gen fun k hk => EN_impl_System_has rfl ?_
  have hno : ∀ {h'}, h.le h' → ¬ st.Ok s → k (.bool false) h' := fun hl hh => hk _ _ ⟨hl, by rw [decide_eq_false hh]⟩
  by_cases q1 : (st.locs.length : Int) = s.procs.length
  case neg => simp -implicitDefEqProofs (disch := first | omega | (simp only [List.length_set, List.length_replicate, List.length_append, List.length_map, List.length_take, List.length_cons, List.length_nil]; omega)) [wrap64, T1.len, R2.len, q1]; exact RetK.keep (hno (Heap.le.refl _) fun hh => q1 (by rw [hh.len]))
  simp -implicitDefEqProofs (disch := first | omega | (simp only [List.length_set, List.length_replicate, List.length_append, List.length_map, List.length_take, List.length_cons, List.length_nil]; omega)) [wrap64, T1.len, R2.len, q1]
  refine (c_valsOk T2).go ?_
  rintro _ h1 ⟨l1, rfl⟩
  by_cases q2 : VOk st.vals
  case neg => simp -implicitDefEqProofs (disch := first | omega | (simp only [List.length_set, List.length_replicate, List.length_append, List.length_map, List.length_take, List.length_cons, List.length_nil]; omega)) [wrap64, q2]; exact RetK.keep (hno l1 fun hh => q2 hh.vs)
  have T1' := T1.le l1
  have R2' := R2.le l1
  simp -implicitDefEqProofs (disch := first | omega | (simp only [List.length_set, List.length_replicate, List.length_append, List.length_map, List.length_take, List.length_cons, List.length_nil]; omega)) [wrap64, q2, T1'.len]
  refine wp_count st.locs.length (fun i e h' => e = [none, none, some (.agg #[v1, v2]), none, none, none, none, some w1, some (.int .i64 st.locs.length), some (.int .i64 i)] ∧ h' = h1 ∧ ∀ (j : Nat) (a : j < st.locs.length) (b : j < s.procs.length), j < i → 0 ≤ st.locs[j] ∧ st.locs[j] < s.procs[j].locs) ⟨by simp [q1], rfl, fun j _ _ hj => absurd hj (Nat.not_lt_zero j)⟩ ?_
  rintro J i _ h2 hJ hi ⟨rfl, rfl, hall⟩
  simp -implicitDefEqProofs (disch := first | omega | (simp only [List.length_set, List.length_replicate, List.length_append, List.length_map, List.length_take, List.length_cons, List.length_nil]; omega)) [wrap64]
  refine IteW.mk (fun hlt => ?_) (fun hge => ?_)
  · have hlx : i < st.locs.length := by omega
    have hlp : i < s.procs.length := by omega
    obtain ⟨u, hu, Ru⟩ := R2'.ld hlp
    change hload _ (some (elp 2 v2 i)) (some 2) = some u at hu
    obtain ⟨we, rfl, k1, R3⟩ := Rep_Pr.1 Ru
    have hP := hld_parts hu
    have hp1 := (hs.at hlp).n1
    have hp4 := (hs.at hlp).n4
    simp -implicitDefEqProofs (disch := first | omega | (simp only [List.length_set, List.length_replicate, List.length_append, List.length_map, List.length_take, List.length_cons, List.length_nil]; omega)) [wrap64, T1'.I, R2'.X (n := 2) rfl, hP.1, hP.2.2.1]
    refine c_in.go ?_
    rintro _ h2 ⟨rfl, rfl⟩
    by_cases q3 : 0 ≤ st.locs[i] ∧ st.locs[i] ≤ s.procs[i].locs - 1
    case neg => simp -implicitDefEqProofs (disch := first | omega | (simp only [List.length_set, List.length_replicate, List.length_append, List.length_map, List.length_take, List.length_cons, List.length_nil]; omega)) [wrap64, q3]; exact RetK.keep (hno l1 fun hh => q3 (by have := hh.lc i hlx hlp; omega))
    simp -implicitDefEqProofs (disch := first | omega | (simp only [List.length_set, List.length_replicate, List.length_append, List.length_map, List.length_take, List.length_cons, List.length_nil]; omega)) [wrap64, q3]
    refine hJ _ _ hlx ⟨by simp, rfl, fun j a b hji => ?_⟩
    by_cases hji2 : j = i
    · subst hji2; omega
    · exact hall j a b (by omega)
  · simp -implicitDefEqProofs (disch := first | omega | (simp only [List.length_set, List.length_replicate, List.length_append, List.length_map, List.length_take, List.length_cons, List.length_nil]; omega)) [wrap64]
    exact RetK.keep (hk _ _ ⟨l1, by rw [decide_eq_true (show st.Ok s from ⟨by omega, q2, fun i a b => hall i a b (by omega)⟩)]⟩)

theorem c_spec_StateValid {h : Heap} {v w : Value} {s : Sy} {st : Sta} (R : Rep h v s) (Rt : Rep h w st) : CallE Try.prog fn_spec_StateValid [v, w] h (fun u h' => h' = h ∧ u = .bool (decide (s.Ok ∧ st.Ok s))) := by
  have F := R.aSy
  obtain ⟨v1, v2, rfl, R1, R2⟩ := Rep_Sy.1 R
  obtain ⟨w1, w2, rfl, T1, T2⟩ := Rep_Sta.1 Rt
  have hL1 := R2.lt
  have hL2 := T1.lt
  refine CallE.gen fun k hk => EN_spec_StateValid rfl ?_
  simp -implicitDefEqProofs (disch := first | omega | (simp only [List.length_set, List.length_replicate, List.length_append, List.length_map, List.length_take, List.length_cons, List.length_nil]; omega)) [wrap64, F]
  refine (c_spec_SystemValid R).go ?_
  rintro _ h ⟨rfl, rfl⟩
  have hno : ¬ (s.Ok ∧ st.Ok s) → k (.bool false) h := fun hh => hk _ _ ⟨rfl, by rw [decide_eq_false hh]⟩
  by_cases hs : s.Ok
  case neg => simp -implicitDefEqProofs (disch := first | omega | (simp only [List.length_set, List.length_replicate, List.length_append, List.length_map, List.length_take, List.length_cons, List.length_nil]; omega)) [wrap64, hs]; exact RetK.keep (hno fun hh => hs hh.1)
  by_cases q1 : (st.locs.length : Int) = s.procs.length
  case neg => simp -implicitDefEqProofs (disch := first | omega | (simp only [List.length_set, List.length_replicate, List.length_append, List.length_map, List.length_take, List.length_cons, List.length_nil]; omega)) [wrap64, hs, T1.len, R2.len, q1]; exact RetK.keep (hno fun hh => q1 (by rw [hh.2.len]))
  simp -implicitDefEqProofs (disch := first | omega | (simp only [List.length_set, List.length_replicate, List.length_append, List.length_map, List.length_take, List.length_cons, List.length_nil]; omega)) [wrap64, hs, T1.len, R2.len, q1]
  refine (c_l1Vals T2).go ?_
  rintro _ h ⟨rfl, rfl⟩
  by_cases q2 : VOk st.vals
  case neg => simp -implicitDefEqProofs (disch := first | omega | (simp only [List.length_set, List.length_replicate, List.length_append, List.length_map, List.length_take, List.length_cons, List.length_nil]; omega)) [wrap64, q2]; exact RetK.keep (hno fun hh => q2 hh.2.vs)
  simp -implicitDefEqProofs (disch := first | omega | (simp only [List.length_set, List.length_replicate, List.length_append, List.length_map, List.length_take, List.length_cons, List.length_nil]; omega)) [wrap64, q2]
  refine wp_count st.locs.length (fun i e h' => e = [none, none, some (.agg #[v1, v2]), some (.agg #[w1, w2]), none, some (.int .i64 i)] ∧ h' = h ∧ ∀ (j : Nat) (a : j < st.locs.length) (b : j < s.procs.length), j < i → 0 ≤ st.locs[j] ∧ st.locs[j] < s.procs[j].locs) ⟨by simp, rfl, fun j _ _ hj => absurd hj (Nat.not_lt_zero j)⟩ ?_
  rintro J i _ h2 hJ hi ⟨rfl, rfl, hall⟩
  simp -implicitDefEqProofs (disch := first | omega | (simp only [List.length_set, List.length_replicate, List.length_append, List.length_map, List.length_take, List.length_cons, List.length_nil]; omega)) [wrap64, T1.len]
  refine IteW.mk (fun hlt => ?_) (fun hge => ?_)
  · have hlx : i < st.locs.length := by omega
    have hlp : i < s.procs.length := by omega
    obtain ⟨u, hu, Ru⟩ := R2.ld hlp
    change hload _ (some (elp 2 v2 i)) (some 2) = some u at hu
    obtain ⟨we, rfl, k1, R3⟩ := Rep_Pr.1 Ru
    have hP := hld_parts hu
    by_cases q3 : st.locs[i] < 0
    · simp -implicitDefEqProofs (disch := first | omega | (simp only [List.length_set, List.length_replicate, List.length_append, List.length_map, List.length_take, List.length_cons, List.length_nil]; omega)) [wrap64, T1.I, q3]; exact RetK.keep (hno fun hh => by have := hh.2.lc i hlx hlp; omega)
    by_cases q4 : s.procs[i].locs ≤ st.locs[i]
    · simp -implicitDefEqProofs (disch := first | omega | (simp only [List.length_set, List.length_replicate, List.length_append, List.length_map, List.length_take, List.length_cons, List.length_nil]; omega)) [wrap64, T1.I, q3, q4, R2.X (n := 2) rfl, hP.1, hP.2.2.1]; exact RetK.keep (hno fun hh => by have := hh.2.lc i hlx hlp; omega)
    simp -implicitDefEqProofs (disch := first | omega | (simp only [List.length_set, List.length_replicate, List.length_append, List.length_map, List.length_take, List.length_cons, List.length_nil]; omega)) [wrap64, T1.I, q3, q4, R2.X (n := 2) rfl, hP.1, hP.2.2.1]
    refine hJ _ _ hlx ⟨by simp, rfl, fun j a b hji => ?_⟩
    by_cases hji2 : j = i
    · subst hji2; omega
    · exact hall j a b (by omega)
  · simp -implicitDefEqProofs (disch := first | omega | (simp only [List.length_set, List.length_replicate, List.length_append, List.length_map, List.length_take, List.length_cons, List.length_nil]; omega)) [wrap64]
    exact RetK.keep (hk _ _ ⟨rfl, by rw [decide_eq_true (show s.Ok ∧ st.Ok s from ⟨hs, by omega, q2, fun i a b => hall i a b (by omega)⟩)]⟩)

theorem c_State_copyOf {h : Heap} {v : Value} {st : Sta} (R : Rep h v st) (h1 : st.locs.length ≤ 1073741824) (h2 : st.vals.length ≤ 1073741824) : CallE Try.prog fn_impl_State_copyOf [v] h (fun u h' => HS h [ow u st] h') := by
  obtain ⟨v1, v2, rfl, R1, R2⟩ := Rep_Sta.1 R
  refine CallE.gen fun k hk => EN_impl_State_copyOf rfl ?_
  simp -implicitDefEqProofs (disch := first | omega | (simp only [List.length_set, List.length_replicate, List.length_append, List.length_map, List.length_take, List.length_cons, List.length_nil]; omega)) [wrap64]
  refine (c_clone_int R1 h1).go ?_
  intro u1 m1 H
  simp -implicitDefEqProofs (disch := first | omega | (simp only [List.length_set, List.length_replicate, List.length_append, List.length_map, List.length_take, List.length_cons, List.length_nil]; omega)) [wrap64]
  refine (c_clone_int (R2.on H) h2).go ?_
  intro u2 m2 H2
  have H := H2.app H
  simp -implicitDefEqProofs (disch := first | omega | (simp only [List.length_set, List.length_replicate, List.length_append, List.length_map, List.length_take, List.length_cons, List.length_nil]; omega)) [wrap64, H.rep.cells, H.rep.one, H.sw1.rep.cells, H.sw1.rep.one, setC]
  exact RetK.keep (hk _ _ (HS.mkSta H.sw1))

/-- the values that are kept, and the first values where they don't matter -/
def prV (s : Sy) (L : List Exq) (st : Sta) : List Int := (List.range 3).map fun i => if (s.rel L).getD i false then st.vals.getD i 0 else s.init.getD i 0
noncomputable def prR (s : Sy) (L : List Exq) (st : Sta) : Sta := if s.Ok ∧ LOk L ∧ st.Ok s then ⟨st.locs, prV s L st⟩ else Sta.zero
theorem zero_St {g h : Heap} {Γ : List HP} (H : HS g Γ h) : HS g (ow (.agg #[.slice none 0 0, .slice none 0 0]) Sta.zero :: Γ) h := HS.mkSta (a := Sta.zero) H.nil_ow.nil_ow

end Go.Proofs.Ythgimpheeemooaa

/-
  Steps in plain Lean: which are enabled, and what they lead to.
-/
namespace Go.Proofs.Ythgimpheeemooaa
open Go
set_option linter.all false
set_option linter.unusedVariables false
set_option linter.unusedSimpArgs false
set_option linter.defProp false
set_option maxRecDepth 1000000

theorem fm_tk {α β : Type} {f : α × Nat → List β} {l : List α} {i : Nat} (hi : i < l.length) : (l.zipIdx.take (i + 1)).flatMap f = (l.zipIdx.take i).flatMap f ++ f (l[i], i) := by
  rw [List.take_add_one, List.getElem?_eq_getElem (by simpa using hi), List.flatMap_append]
  simp
theorem fm_all {α β : Type} {f : α × Nat → List β} {l : List α} {i : Nat} (hi : l.length ≤ i) : (l.zipIdx.take i).flatMap f = l.zipIdx.flatMap f := by
  rw [List.take_of_length_le (by simpa using hi)]
theorem len_fm {α β : Type} {f : α → List β} {c : Nat} : ∀ {l : List α}, (∀ x ∈ l, (f x).length ≤ c) → (l.flatMap f).length ≤ l.length * c
  | [], _ => by simp
  | x :: l, h => by
    have h1 := len_fm (l := l) fun y hy => h y (by simp [hy])
    have h2 := h x (by simp)
    rw [List.flatMap_cons, List.length_append, List.length_cons, Nat.add_mul]
    omega
theorem len_fmz {α β : Type} {f : α × Nat → List β} {c : Nat} {l : List α} (h : ∀ (i : Nat) (hi : i < l.length), (f (l[i], i)).length ≤ c) (n : Nat) : ((l.zipIdx.take n).flatMap f).length ≤ l.length * c := by
  have h1 : ((l.zipIdx.take n).flatMap f).length ≤ (l.zipIdx.take n).length * c := len_fm fun x hx => by
    have h2 := List.mem_of_mem_take hx
    rw [List.mem_zipIdx_iff_getElem?, List.getElem?_eq_some_iff] at h2
    obtain ⟨h3, h4⟩ := h2
    have := h x.2 h3
    rw [h4] at this
    exact this
  have h2 : (l.zipIdx.take n).length * c ≤ l.length * c := Nat.mul_le_mul_right _ (by simp; omega)
  omega
theorem mem_fmz {α β : Type} {f : α × Nat → List β} {l : List α} {t : β} : t ∈ l.zipIdx.flatMap f ↔ ∃ (i : Nat) (hi : i < l.length), t ∈ f (l[i], i) := by
  rw [List.mem_flatMap]
  constructor
  · rintro ⟨x, hx, ht⟩
    rw [List.mem_zipIdx_iff_getElem?, List.getElem?_eq_some_iff] at hx
    obtain ⟨h3, h4⟩ := hx
    exact ⟨x.2, h3, by rw [h4]; exact ht⟩
  · rintro ⟨i, hi, ht⟩
    exact ⟨(l[i], i), by rw [List.mem_zipIdx_iff_getElem?]; simp [hi], ht⟩

/-- an edge is ready -/
def Ed.rdy (e : Ed) (st : Sta) (i : Nat) : Bool := decide (st.locs.getD i 0 = e.frm ∧ e.guard.ev st.vals ≠ 0)
def prt2 (st : Sta) (i k : Nat) (c : Int) (j : Nat) (x : Ed × Nat) : List Stp := if j ≠ i ∧ x.1.sync = -c ∧ x.1.rdy st j = true then [⟨i, k, j, x.2⟩] else []
def prt1 (st : Sta) (i k : Nat) (c : Int) (x : Pr × Nat) : List Stp := x.1.edges.zipIdx.flatMap (prt2 st i k c x.2)
/-- the steps with partners -/
def prt (s : Sy) (st : Sta) (i k : Nat) (c : Int) : List Stp := s.procs.zipIdx.flatMap (prt1 st i k c)
def enb2 (s : Sy) (st : Sta) (i : Nat) (x : Ed × Nat) : List Stp := if x.1.sync < 0 ∨ x.1.rdy st i = false then [] else if x.1.sync = 0 then [⟨i, x.2, -1, -1⟩] else prt s st i x.2 x.1.sync
def enb1 (s : Sy) (st : Sta) (x : Pr × Nat) : List Stp := x.1.edges.zipIdx.flatMap (enb2 s st x.2)
/-- the enabled steps -/
def enb (s : Sy) (st : Sta) : List Stp := s.procs.zipIdx.flatMap (enb1 s st)

theorem prt1_len {st : Sta} {i k : Nat} {c : Int} {p : Pr} {j n : Nat} (hp : p.Ok) : ((p.edges.zipIdx.take n).flatMap (prt2 st i k c j)).length ≤ 6 := by
  have h1 := len_fmz (f := prt2 st i k c j) (c := 1) (l := p.edges) (fun m hm => by unfold prt2; split <;> simp) n
  have := hp.el
  omega
theorem prt_len {s : Sy} {st : Sta} {i k n : Nat} {c : Int} (hs : s.Ok) : ((s.procs.zipIdx.take n).flatMap (prt1 st i k c)).length ≤ 18 := by
  have h1 := len_fmz (f := prt1 st i k c) (c := 6) (l := s.procs) (fun m hm => by
    have := prt1_len (st := st) (i := i) (k := k) (c := c) (j := m) (n := s.procs[m].edges.length) (hs.at hm)
    rw [fm_all (Nat.le_refl _)] at this
    exact this) n
  have := hs.p3
  omega
theorem prt_len' {s : Sy} {st : Sta} {i k : Nat} {c : Int} (hs : s.Ok) : (prt s st i k c).length ≤ 18 := by
  have := prt_len (st := st) (i := i) (k := k) (c := c) (n := s.procs.length) hs
  rwa [fm_all (Nat.le_refl _)] at this
theorem enb2_len {s : Sy} {st : Sta} {i : Nat} {x : Ed × Nat} (hs : s.Ok) : (enb2 s st i x).length ≤ 18 := by
  unfold enb2
  split
  · simp
  · split
    · simp
    · exact prt_len' hs
theorem enb1_len {s : Sy} {st : Sta} {i n : Nat} {p : Pr} (hs : s.Ok) (hp : p.Ok) : ((p.edges.zipIdx.take n).flatMap (enb2 s st i)).length ≤ 108 := by
  have h1 := len_fmz (f := enb2 s st i) (c := 18) (l := p.edges) (fun m hm => enb2_len hs) n
  have := hp.el
  omega
theorem enb_len {s : Sy} {st : Sta} {n : Nat} (hs : s.Ok) : ((s.procs.zipIdx.take n).flatMap (enb1 s st)).length ≤ 324 := by
  have h1 := len_fmz (f := enb1 s st) (c := 108) (l := s.procs) (fun m hm => by
    have := enb1_len (s := s) (st := st) (i := m) (n := s.procs[m].edges.length) hs (hs.at hm)
    rw [fm_all (Nat.le_refl _)] at this
    exact this) n
  have := hs.p3
  omega
theorem enb_len' {s : Sy} {st : Sta} (hs : s.Ok) : (enb s st).length ≤ 324 := by
  have := enb_len (st := st) (n := s.procs.length) hs
  rwa [fm_all (Nat.le_refl _)] at this

/-- where a step's edges lie -/
structure Stp.In (s : Sy) (t : Stp) : Prop where
  ex : ∃ (i k : Nat) (hi : i < s.procs.length) (_ : k < s.procs[i].edges.length), t.proc = i ∧ t.edge = k
  pt : t.partner = -1 ∨ ∃ (j m : Nat) (hj : j < s.procs.length) (_ : m < s.procs[j].edges.length), t.partner = j ∧ t.pedge = m
theorem enb_in {s : Sy} {st : Sta} {t : Stp} (h : t ∈ enb s st) : t.In s := by
  unfold enb at h
  obtain ⟨i, hi, h⟩ := mem_fmz.1 h
  unfold enb1 at h
  obtain ⟨k, hk, h⟩ := mem_fmz.1 h
  unfold enb2 at h
  split at h
  · simp at h
  · split at h
    · simp at h; subst h
      exact ⟨⟨i, k, hi, hk, rfl, rfl⟩, .inl rfl⟩
    · unfold prt at h
      obtain ⟨j, hj, h⟩ := mem_fmz.1 h
      unfold prt1 at h
      obtain ⟨m, hm, h⟩ := mem_fmz.1 h
      unfold prt2 at h
      split at h
      · simp at h; subst h
        exact ⟨⟨i, k, hi, hk, rfl, rfl⟩, .inr ⟨j, m, hj, hm, rfl, rfl⟩⟩
      · simp at h

/-- an edge is taken -/
def Sta.tk (st : Sta) (i : Nat) (e : Ed) : Sta := ⟨st.locs.set i e.to, if 0 ≤ e.var then st.vals.set e.var.toNat (e.value.ev st.vals) else st.vals⟩
def Sy.ed (s : Sy) (i k : Nat) : Ed := (s.procs.getD i ⟨0, []⟩).edges.getD k ⟨0, 0, Exq.zero, 0, Exq.zero, 0⟩
theorem Sy.ed_eq {s : Sy} {i k : Nat} (hi : i < s.procs.length) (hk : k < s.procs[i].edges.length) : s.ed i k = s.procs[i].edges[k] := by
  simp [Sy.ed, hi, hk]
/-- the state after a step -/
def Sta.aft (s : Sy) (st : Sta) (t : Stp) : Sta := if 0 ≤ t.partner then (st.tk t.proc.toNat (s.ed t.proc.toNat t.edge.toNat)).tk t.partner.toNat (s.ed t.partner.toNat t.pedge.toNat) else st.tk t.proc.toNat (s.ed t.proc.toNat t.edge.toNat)
theorem Sta.tk_ok {s : Sy} {st : Sta} {i : Nat} {e : Ed} (h : st.Ok s) (hi : i < s.procs.length) (he : e.Ok s.procs[i].locs) : (st.tk i e).Ok s := by
  have hv := h.vs
  refine ⟨by simp [Sta.tk, h.len], ?_, fun j h1 h2 => ?_⟩
  · unfold Sta.tk
    simp only
    split
    · rename_i h0
      have hvo : e.value.Ok := he.vl.elim (fun hh => hh.2) (fun hh => absurd hh.1 (by omega))
      have hb := Exq.ev_bnd hv hvo.1
      refine ⟨by simp [hv.len], fun x hx => ?_⟩
      rcases List.mem_or_eq_of_mem_set hx with h1 | h1
      · exact hv.2 x h1
      · rw [h1]; exact hb
    · exact hv
  · simp only [Sta.tk, List.getElem_set]
    split
    · rename_i e1
      subst e1
      exact ⟨he.t0, he.t1⟩
    · exact h.lc j (by simpa [Sta.tk] using h1) h2
theorem Sta.aft_ok {s : Sy} {st : Sta} {t : Stp} (hs : s.Ok) (h : st.Ok s) (ht : t.In s) : (st.aft s t).Ok s := by
  obtain ⟨⟨i, k, hi, hk, h1, h2⟩, h3⟩ := ht
  have g1 : (st.tk t.proc.toNat (s.ed t.proc.toNat t.edge.toNat)).Ok s := by
    rw [h1, h2, Int.toNat_natCast, Int.toNat_natCast, Sy.ed_eq hi hk]
    exact Sta.tk_ok h hi ((hs.at hi).at hk)
  unfold Sta.aft
  rcases h3 with h3 | ⟨j, m, hj, hm, h3, h4⟩
  · rw [if_neg (by omega)]; exact g1
  · rw [if_pos (by omega)]
    have : (st.tk t.proc.toNat (s.ed t.proc.toNat t.edge.toNat)).tk t.partner.toNat (s.ed t.partner.toNat t.pedge.toNat) = (st.tk t.proc.toNat (s.ed t.proc.toNat t.edge.toNat)).tk j (s.procs[j].edges[m]) := by
      rw [h3, h4, Int.toNat_natCast, Int.toNat_natCast, Sy.ed_eq hj hm]
    rw [this]
    exact Sta.tk_ok g1 hj ((hs.at hj).at hm)
noncomputable def ens (s : Sy) (st : Sta) : List Stp := if s.Ok ∧ st.Ok s then enb s st else []
end Go.Proofs.Ythgimpheeemooaa

/-
  Instances of functions over slices: copies, and whether some element meets a condition. Printed by a program.
-/
namespace Go.Proofs.Ythgimpheeemooaa
open Go
set_option linter.all false
set_option linter.unusedVariables false
set_option linter.unusedSimpArgs false
set_option linter.defProp false
set_option maxRecDepth 1000000

theorem c_Clip_impl_Step {g h : Heap} {Γ : List HP} {a : Value} {x : List Stp} (H : HS g (ow a x :: Γ) h) : CallE Try.prog fn_slices_Clip_S_impl_Step_impl_Step [a] h (fun v h' => HS g (ow v x :: Γ) h') := by
  refine CallE.gen fun k hk => EN_slices_Clip_S_impl_Step_impl_Step rfl ?_
  obtain ⟨v', h1, h2⟩ := H.clip (esz := 4) (k := .i64)
  simp -implicitDefEqProofs (disch := first | omega | (simp only [List.length_set, List.length_replicate, List.length_append, List.length_map, List.length_take, List.length_cons, List.length_nil]; omega)) [wrap64, H.rep.len, h1]
  exact RetK.keep (hk _ _ h2)

end Go.Proofs.Ythgimpheeemooaa

/-
  Steps: which are enabled, by the program and by the reference.
-/
namespace Go.Proofs.Ythgimpheeemooaa
open Go
set_option linter.all false
set_option linter.unusedVariables false
set_option linter.unusedSimpArgs false
set_option linter.defProp false
set_option maxRecDepth 1000000

/-- where an edge of a system lies -/
theorem Rep.edge {h : Heap} {v : Value} {l : List Pr} (R : Rep h v l) {i k : Nat} (hi : i < l.length) (hk : k < l[i].edges.length) :
    ∃ we w1 w2, hload h (some (elp 2 v i)) (some 2) = some (.agg ([.int .i64 l[i].locs, we] : List Value).toArray) ∧ Rep h we l[i].edges ∧ hload h (some (elp 10 we k)) (some 10) = some (.agg (l[i].edges[k].cs w1 w2).toArray) ∧
      l[i].edges[k].ok ∧ Rep h w1 l[i].edges[k].guard.kids ∧ Rep h w2 l[i].edges[k].value.kids := by
  obtain ⟨u, hu, Ru⟩ := R.ld hi
  obtain ⟨we, rfl, k1, R3⟩ := Rep_Pr.1 Ru
  obtain ⟨u2, hu2, Ru2⟩ := R3.ld hk
  obtain ⟨w1, w2, rfl, ok, G1, G2⟩ := Rep_Ed.1 Ru2
  exact ⟨we, w1, w2, hu, R3, hu2, ok, G1, G2⟩

theorem c_ready {h : Heap} {v w : Value} {s : Sy} {st : Sta} (hs : s.Ok) (ht : st.Ok s) (R : Rep h v s) (Rt : Rep h w st) {i m : Nat} (hi : i < s.procs.length) (hm : m < s.procs[i].edges.length) :
    CallE Try.prog fn_impl_System_ready [v, w, .int .i64 i, .int .i64 m] h (fun u h' => h' = h ∧ u = .bool (s.procs[i].edges[m].rdy st i)) := by
  obtain ⟨v1, v2, rfl, R1, R2'⟩ := Rep_Sy.1 R
  obtain ⟨t1, t2, rfl, T1, T2⟩ := Rep_Sta.1 Rt
  obtain ⟨we, w1, w2, hu, R3, hu2, ok, G1, G2⟩ := R2'.edge hi hm
  have hP := hld_parts hu
  have heo := (hs.at hi).at hm
  have hil : i < st.locs.length := by rw [ht.len]; exact hi
  have hF3 := G1.one
  have hF4 := G2.one
  refine CallE.gen fun k hk => EN_impl_System_ready rfl ?_
  by_cases a1 : st.locs[i] = s.procs[i].edges[m].frm
  case neg =>
    simp -implicitDefEqProofs (disch := first | omega | (simp only [List.length_set, List.length_replicate, List.length_append, List.length_map, List.length_take, List.length_cons, List.length_nil]; omega)) [wrap64, R2'.X (n := 2) rfl, hP.1, hP.2.2.1, R3.X (n := 10) rfl, hu2, Ed.cs, setC, hF3, hF4, T1.I, a1]
    exact RetK.keep (hk _ _ ⟨rfl, by simp [Ed.rdy, hil, a1]⟩)
  simp -implicitDefEqProofs (disch := first | omega | (simp only [List.length_set, List.length_replicate, List.length_append, List.length_map, List.length_take, List.length_cons, List.length_nil]; omega)) [wrap64, R2'.X (n := 2) rfl, hP.1, hP.2.2.1, R3.X (n := 10) rfl, hu2, Ed.cs, setC, hF3, hF4, T1.I, a1]
  refine (c_eval _ ht.vs heo.gd.1 (Rep.gd (w2 := w2) ok G1) T2).go ?_
  rintro _ h ⟨rfl, rfl⟩
  simp -implicitDefEqProofs (disch := first | omega | (simp only [List.length_set, List.length_replicate, List.length_append, List.length_map, List.length_take, List.length_cons, List.length_nil]; omega)) [wrap64]
  exact RetK.keep (hk _ _ ⟨rfl, by simp [Ed.rdy, hil, a1]⟩)
theorem c_l3Ready {h : Heap} {v w : Value} {s : Sy} {st : Sta} (hs : s.Ok) (ht : st.Ok s) (R : Rep h v s) (Rt : Rep h w st) {i m : Nat} (hi : i < s.procs.length) (hm : m < s.procs[i].edges.length) :
    CallE Try.prog fn_spec_l3Ready [v, w, .int .i64 i, .int .i64 m] h (fun u h' => h' = h ∧ u = .bool (s.procs[i].edges[m].rdy st i)) := by
  obtain ⟨v1, v2, rfl, R1, R2'⟩ := Rep_Sy.1 R
  obtain ⟨t1, t2, rfl, T1, T2⟩ := Rep_Sta.1 Rt
  obtain ⟨we, w1, w2, hu, R3, hu2, ok, G1, G2⟩ := R2'.edge hi hm
  have hP := hld_parts hu
  have heo := (hs.at hi).at hm
  have hil : i < st.locs.length := by rw [ht.len]; exact hi
  have hF3 := G1.one
  have hF4 := G2.one
  refine CallE.gen fun k hk => EN_spec_l3Ready rfl ?_
  by_cases a1 : s.procs[i].edges[m].frm = st.locs[i]
  case neg =>
    simp -implicitDefEqProofs (disch := first | omega | (simp only [List.length_set, List.length_replicate, List.length_append, List.length_map, List.length_take, List.length_cons, List.length_nil]; omega)) [wrap64, R2'.X (n := 2) rfl, hP.1, hP.2.2.1, R3.X (n := 10) rfl, hu2, Ed.cs, setC, hF3, hF4, T1.I, a1]
    exact RetK.keep (hk _ _ ⟨rfl, by simp [Ed.rdy, hil, Ne.symm a1]⟩)
  simp -implicitDefEqProofs (disch := first | omega | (simp only [List.length_set, List.length_replicate, List.length_append, List.length_map, List.length_take, List.length_cons, List.length_nil]; omega)) [wrap64, R2'.X (n := 2) rfl, hP.1, hP.2.2.1, R3.X (n := 10) rfl, hu2, Ed.cs, setC, hF3, hF4, T1.I, a1]
  refine (c_l1Eval _ ht.vs heo.gd.1 (Rep.gd (w2 := w2) ok G1) T2).go ?_
  rintro _ h ⟨rfl, rfl⟩
  simp -implicitDefEqProofs (disch := first | omega | (simp only [List.length_set, List.length_replicate, List.length_append, List.length_map, List.length_take, List.length_cons, List.length_nil]; omega)) [wrap64]
  exact RetK.keep (hk _ _ ⟨rfl, by simp [Ed.rdy, hil, a1]⟩)

theorem c_enabled {h : Heap} {v w : Value} {s : Sy} {st : Sta} (hs : s.Ok) (ht : st.Ok s) (R : Rep h v s) (Rt : Rep h w st) : CallE Try.prog fn_impl_System_enabled [v, w] h (fun u h' => HS h [ow u (enb s st)] h') := by
  have FS := R.aSy
  have FT := Rt.aSta
  have R0 := R
  have Rt0 := Rt
  obtain ⟨v1, v2, rfl, R1, R2'⟩ := Rep_Sy.1 R
  obtain ⟨t1, t2, rfl, T1, T2⟩ := Rep_Sta.1 Rt
  have hp3 := hs.p3
  refine CallE.gen fun k hk => EN_impl_System_enabled rfl ?_
  simp -implicitDefEqProofs (disch := first | omega | (simp only [List.length_set, List.length_replicate, List.length_append, List.length_map, List.length_take, List.length_cons, List.length_nil]; omega)) [wrap64, R2'.len]
  refine wp_count s.procs.length (fun i e h' => ∃ o, e = [none, none, some (.agg #[v1, v2]), some (.agg #[t1, t2]), none, some o, none, none, none, none, none, none, none, none, some v2, some (.int .i64 s.procs.length), some (.int .i64 i), none, none, none, none, none, none, none, none, none] ∧ HS h [ow o ((s.procs.zipIdx.take i).flatMap (enb1 s st))] h') ⟨.slice none 0 0, by simp, by simpa using HS.init.nil_ow (α := Stp)⟩ ?_
  rintro J0 i _ h1 hJ0 hi ⟨o, rfl, H⟩
  simp -implicitDefEqProofs (disch := first | omega | (simp only [List.length_set, List.length_replicate, List.length_append, List.length_map, List.length_take, List.length_cons, List.length_nil]; omega)) [wrap64]
  refine IteW.mk (fun hlt => ?_) (fun hge => ?_)
  · have hi : i < s.procs.length := by omega
    obtain ⟨A, hA⟩ : ∃ A, A = (s.procs.zipIdx.take i).flatMap (enb1 s st) := ⟨_, rfl⟩
    have hAl : A.length ≤ 324 := by rw [hA]; exact enb_len hs
    obtain ⟨u, hu, Ru⟩ := R2'.ld hi
    have hu2 := hload_le H.base hu
    change hload _ (some (elp 2 v2 i)) (some 2) = some u at hu2
    obtain ⟨we, rfl, k1, R3⟩ := Rep_Pr.1 Ru
    have hpo := hs.at hi
    have hel := hpo.el
    have hF1 := R3.cells
    have hF2 := R3.one
    rw [← hA] at H
    simp -implicitDefEqProofs (disch := first | omega | (simp only [List.length_set, List.length_replicate, List.length_append, List.length_map, List.length_take, List.length_cons, List.length_nil]; omega)) [wrap64, R2'.X (n := 2) rfl, hu2, hF1, hF2, setC, R3.len]
    refine wp_count s.procs[i].edges.length (fun m e h' => ∃ o, e = [none, none, some (.agg #[v1, v2]), some (.agg #[t1, t2]), none, some o, some (.int .i64 i), none, none, none, none, none, none, none, some v2, some (.int .i64 s.procs.length), some (.int .i64 i), some we, some (.int .i64 s.procs[i].edges.length), some (.int .i64 m), none, none, none, none, none, none] ∧ HS h [ow o (A ++ (s.procs[i].edges.zipIdx.take m).flatMap (enb2 s st i))] h') ⟨o, by simp, by simpa using H⟩ ?_
    clear H
    rintro J1 m _ h2 hJ1 hm ⟨o, rfl, H⟩
    simp -implicitDefEqProofs (disch := first | omega | (simp only [List.length_set, List.length_replicate, List.length_append, List.length_map, List.length_take, List.length_cons, List.length_nil]; omega)) [wrap64]
    refine IteW.mk (fun hlt1 => ?_) (fun hge1 => ?_)
    · have hm : m < s.procs[i].edges.length := by omega
      obtain ⟨B, hB⟩ : ∃ B, B = A ++ (s.procs[i].edges.zipIdx.take m).flatMap (enb2 s st i) := ⟨_, rfl⟩
      have hBl : B.length ≤ 432 := by
        rw [hB, List.length_append]
        have := enb1_len (st := st) (i := i) (n := m) hs hpo
        omega
      have hstep : A ++ (s.procs[i].edges.zipIdx.take (m + 1)).flatMap (enb2 s st i) = B ++ enb2 s st i (s.procs[i].edges[m], m) := by rw [fm_tk hm, ← List.append_assoc, ← hB]
      rw [← hB] at H
      obtain ⟨u, hu, Ru⟩ := R3.ld hm
      have hu2 := hload_le H.base hu
      change hload _ (some (elp 10 we m)) (some 10) = some u at hu2
      obtain ⟨w1, w2, rfl, ok, G1, G2⟩ := Rep_Ed.1 Ru
      have heo := hpo.at hm
      have hF3 := G1.one
      have hF4 := G2.one
      have hgo : ∀ {o' h'}, HS h [ow o' (B ++ enb2 s st i (s.procs[i].edges[m], m))] h' → J1 [none, none, some (.agg #[v1, v2]), some (.agg #[t1, t2]), none, some o', some (.int .i64 i), none, none, none, none, none, none, none, some v2, some (.int .i64 s.procs.length), some (.int .i64 i), some we, some (.int .i64 s.procs[i].edges.length), some (.int .i64 ((m + 1 : Nat) : Int)), none, none, none, none, none, none] h' :=
        fun {o' h'} H => hJ1 _ _ hm ⟨o', by simp, by rw [hstep]; exact H⟩
      simp -implicitDefEqProofs (disch := first | omega | (simp only [List.length_set, List.length_replicate, List.length_append, List.length_map, List.length_take, List.length_cons, List.length_nil]; omega)) [wrap64, R3.X (n := 10) rfl, hu2, Ed.cs, setC, hF3, hF4]
      refine (c_ready hs ht (R0.on H) (Rt0.on H) hi hm).go ?_
      rintro _ h2 ⟨rfl, rfl⟩
      by_cases a1 : s.procs[i].edges[m].rdy st i = true
      case neg =>
        simp -implicitDefEqProofs (disch := first | omega | (simp only [List.length_set, List.length_replicate, List.length_append, List.length_map, List.length_take, List.length_cons, List.length_nil]; omega)) [wrap64, a1]
        exact hgo (by rw [enb2, if_pos (.inr (by simpa using a1))]; simpa using H)
      by_cases a2 : s.procs[i].edges[m].sync < 0
      · simp -implicitDefEqProofs (disch := first | omega | (simp only [List.length_set, List.length_replicate, List.length_append, List.length_map, List.length_take, List.length_cons, List.length_nil]; omega)) [wrap64, a1, a2]
        exact hgo (by rw [enb2, if_pos (.inl a2)]; simpa using H)
      by_cases a3 : s.procs[i].edges[m].sync = 0
      · simp -implicitDefEqProofs (disch := first | omega | (simp only [List.length_set, List.length_replicate, List.length_append, List.length_map, List.length_take, List.length_cons, List.length_nil]; omega)) [wrap64, a1, a2, a3, setC]
        refine H.app1 (bytes := 32) (⟨i, m, -1, -1⟩ : Stp) rfl rfl rfl (Stp.ok_iff.2 ⟨by dsimp only; omega, by dsimp only; omega, by dsimp only; omega, by dsimp only; omega⟩) rfl rfl (by omega) (by omega) fun o' h3 H => ?_
        simp -implicitDefEqProofs (disch := first | omega | (simp only [List.length_set, List.length_replicate, List.length_append, List.length_map, List.length_take, List.length_cons, List.length_nil]; omega)) [wrap64]
        refine hgo ?_
        rw [enb2, if_neg (by simp [a2, a1]), if_pos a3]; exact H
      simp -implicitDefEqProofs (disch := first | omega | (simp only [List.length_set, List.length_replicate, List.length_append, List.length_map, List.length_take, List.length_cons, List.length_nil]; omega)) [wrap64, a1, a2, a3, R2'.len]
      have hen : enb2 s st i (s.procs[i].edges[m], m) = prt s st i m s.procs[i].edges[m].sync := by rw [enb2, if_neg (by simp [a2, a1]), if_neg a3]
      rw [hen] at hgo
      obtain ⟨c, hc⟩ : ∃ c, c = s.procs[i].edges[m].sync := ⟨_, rfl⟩
      rw [← hc] at hgo
      have hs0 := heo.s0
      have hs1 := heo.s1
      refine wp_count s.procs.length (fun j e h' => ∃ o, e = [none, none, some (.agg #[v1, v2]), some (.agg #[t1, t2]), none, some o, some (.int .i64 i), none, some (.int .i64 m), some (.agg (s.procs[i].edges[m].cs w1 w2).toArray), none, none, none, none, some v2, some (.int .i64 s.procs.length), some (.int .i64 i), some we, some (.int .i64 s.procs[i].edges.length), some (.int .i64 m), some v2, some (.int .i64 s.procs.length), some (.int .i64 j), none, none, none] ∧ HS h [ow o (B ++ (s.procs.zipIdx.take j).flatMap (prt1 st i m c))] h') ⟨o, by simp [Ed.cs], by simpa using H⟩ ?_
      clear H
      rintro J2 j _ h3 hJ2 hj ⟨o, rfl, H⟩
      simp -implicitDefEqProofs (disch := first | omega | (simp only [List.length_set, List.length_replicate, List.length_append, List.length_map, List.length_take, List.length_cons, List.length_nil]; omega)) [wrap64]
      refine IteW.mk (fun hlt2 => ?_) (fun hge2 => ?_)
      · have hj : j < s.procs.length := by omega
        obtain ⟨D, hD⟩ : ∃ D, D = B ++ (s.procs.zipIdx.take j).flatMap (prt1 st i m c) := ⟨_, rfl⟩
        have hDl : D.length ≤ 450 := by
          rw [hD, List.length_append]
          have := prt_len (st := st) (i := i) (k := m) (c := c) (n := j) hs
          omega
        rw [← hD] at H
        obtain ⟨u, hu, Ru⟩ := R2'.ld hj
        have hu2 := hload_le H.base hu
        change hload _ (some (elp 2 v2 j)) (some 2) = some u at hu2
        obtain ⟨wf, rfl, k2, R4⟩ := Rep_Pr.1 Ru
        have hpj := hs.at hj
        have hej := hpj.el
        have hF5 := R4.cells
        have hF6 := R4.one
        simp -implicitDefEqProofs (disch := first | omega | (simp only [List.length_set, List.length_replicate, List.length_append, List.length_map, List.length_take, List.length_cons, List.length_nil]; omega)) [wrap64, R2'.X (n := 2) rfl, hu2, hF5, hF6, setC, R4.len]
        refine wp_count s.procs[j].edges.length (fun n e h' => ∃ o, e = [none, none, some (.agg #[v1, v2]), some (.agg #[t1, t2]), none, some o, some (.int .i64 i), none, some (.int .i64 m), some (.agg (s.procs[i].edges[m].cs w1 w2).toArray), some (.int .i64 j), none, none, none, some v2, some (.int .i64 s.procs.length), some (.int .i64 i), some we, some (.int .i64 s.procs[i].edges.length), some (.int .i64 m), some v2, some (.int .i64 s.procs.length), some (.int .i64 j), some wf, some (.int .i64 s.procs[j].edges.length), some (.int .i64 n)] ∧ HS h [ow o (D ++ (s.procs[j].edges.zipIdx.take n).flatMap (prt2 st i m c j))] h') ⟨o, by simp, by simpa using H⟩ ?_
        clear H
        rintro J3 n _ h4 hJ3 hn ⟨o, rfl, H⟩
        simp -implicitDefEqProofs (disch := first | omega | (simp only [List.length_set, List.length_replicate, List.length_append, List.length_map, List.length_take, List.length_cons, List.length_nil]; omega)) [wrap64]
        refine IteW.mk (fun hlt3 => ?_) (fun hge3 => ?_)
        · have hn : n < s.procs[j].edges.length := by omega
          obtain ⟨E, hE⟩ : ∃ E, E = D ++ (s.procs[j].edges.zipIdx.take n).flatMap (prt2 st i m c j) := ⟨_, rfl⟩
          have hEl : E.length ≤ 456 := by
            rw [hE, List.length_append]
            have := prt1_len (st := st) (i := i) (k := m) (c := c) (j := j) (n := n) hpj
            omega
          have hstep2 : D ++ (s.procs[j].edges.zipIdx.take (n + 1)).flatMap (prt2 st i m c j) = E ++ prt2 st i m c j (s.procs[j].edges[n], n) := by rw [fm_tk hn, ← List.append_assoc, ← hE]
          rw [← hE] at H
          obtain ⟨u, hu, Ru⟩ := R4.ld hn
          have hu2 := hload_le H.base hu
          change hload _ (some (elp 10 wf n)) (some 10) = some u at hu2
          obtain ⟨x1, x2, rfl, okf, X1, X2⟩ := Rep_Ed.1 Ru
          have hF7 := X1.one
          have hF8 := X2.one
          have hgo2 : ∀ {o' h'}, HS h [ow o' (E ++ prt2 st i m c j (s.procs[j].edges[n], n))] h' → J3 [none, none, some (.agg #[v1, v2]), some (.agg #[t1, t2]), none, some o', some (.int .i64 i), none, some (.int .i64 m), some (.agg (s.procs[i].edges[m].cs w1 w2).toArray), some (.int .i64 j), none, none, none, some v2, some (.int .i64 s.procs.length), some (.int .i64 i), some we, some (.int .i64 s.procs[i].edges.length), some (.int .i64 m), some v2, some (.int .i64 s.procs.length), some (.int .i64 j), some wf, some (.int .i64 s.procs[j].edges.length), some (.int .i64 ((n + 1 : Nat) : Int))] h' :=
            fun {o' h'} H => hJ3 _ _ hn ⟨o', by simp, by rw [hstep2]; exact H⟩
          simp only [Ed.cs] at hgo2
          by_cases b1 : j = i
          · simp -implicitDefEqProofs (disch := first | omega | (simp only [List.length_set, List.length_replicate, List.length_append, List.length_map, List.length_take, List.length_cons, List.length_nil]; omega)) [wrap64, R4.X (n := 10) rfl, hu2, Ed.cs, setC, hF7, hF8, b1]
            subst b1
            exact hgo2 (by rw [prt2, if_neg (fun hh => hh.1 rfl)]; simpa using H)
          have b1' : ¬ ((j : Int) = i) := by omega
          by_cases b2 : s.procs[j].edges[n].sync = -c
          case neg =>
            have b2' := b2
            rw [hc] at b2'
            simp -implicitDefEqProofs (disch := first | omega | (simp only [List.length_set, List.length_replicate, List.length_append, List.length_map, List.length_take, List.length_cons, List.length_nil]; omega)) [wrap64, R4.X (n := 10) rfl, hu2, Ed.cs, setC, hF7, hF8, b1, b1', b2']
            exact hgo2 (by rw [prt2, if_neg (fun hh => b2 hh.2.1)]; simpa using H)
          have b2' := b2
          rw [hc] at b2'
          simp -implicitDefEqProofs (disch := first | omega | (simp only [List.length_set, List.length_replicate, List.length_append, List.length_map, List.length_take, List.length_cons, List.length_nil]; omega)) [wrap64, R4.X (n := 10) rfl, hu2, Ed.cs, setC, hF7, hF8, b1, b1', b2']
          refine (c_ready hs ht (R0.on H) (Rt0.on H) hj hn).go ?_
          rintro _ h4 ⟨rfl, rfl⟩
          by_cases b3 : s.procs[j].edges[n].rdy st j = true
          case neg =>
            simp -implicitDefEqProofs (disch := first | omega | (simp only [List.length_set, List.length_replicate, List.length_append, List.length_map, List.length_take, List.length_cons, List.length_nil]; omega)) [wrap64, b3]
            exact hgo2 (by rw [prt2, if_neg (fun hh => b3 hh.2.2)]; simpa using H)
          simp -implicitDefEqProofs (disch := first | omega | (simp only [List.length_set, List.length_replicate, List.length_append, List.length_map, List.length_take, List.length_cons, List.length_nil]; omega)) [wrap64, b3, setC]
          refine H.app1 (bytes := 32) (⟨i, m, j, n⟩ : Stp) rfl rfl rfl (Stp.ok_iff.2 ⟨by dsimp only; omega, by dsimp only; omega, by dsimp only; omega, by dsimp only; omega⟩) rfl rfl (by omega) (by omega) fun o' h5 H => ?_
          simp -implicitDefEqProofs (disch := first | omega | (simp only [List.length_set, List.length_replicate, List.length_append, List.length_map, List.length_take, List.length_cons, List.length_nil]; omega)) [wrap64]
          refine hgo2 ?_
          rw [prt2, if_pos ⟨b1, b2, b3⟩]; exact H
        simp -implicitDefEqProofs (disch := first | omega | (simp only [List.length_set, List.length_replicate, List.length_append, List.length_map, List.length_take, List.length_cons, List.length_nil]; omega)) [wrap64]
        rw [fm_all (by omega)] at H
        exact hJ2 _ _ hj ⟨o, by simp, by rw [fm_tk hj, ← List.append_assoc, ← hD]; exact H⟩
      simp -implicitDefEqProofs (disch := first | omega | (simp only [List.length_set, List.length_replicate, List.length_append, List.length_map, List.length_take, List.length_cons, List.length_nil]; omega)) [wrap64]
      rw [fm_all (by omega)] at H
      exact hgo H
    simp -implicitDefEqProofs (disch := first | omega | (simp only [List.length_set, List.length_replicate, List.length_append, List.length_map, List.length_take, List.length_cons, List.length_nil]; omega)) [wrap64]
    rw [fm_all (by omega)] at H
    exact hJ0 _ _ hi ⟨o, by simp, by rw [fm_tk hi, ← hA]; exact H⟩
  simp -implicitDefEqProofs (disch := first | omega | (simp only [List.length_set, List.length_replicate, List.length_append, List.length_map, List.length_take, List.length_cons, List.length_nil]; omega)) [wrap64]
  rw [fm_all (by omega)] at H
  refine (c_Clip_impl_Step H).go ?_
  intro o' h2 H
  simp -implicitDefEqProofs (disch := first | omega | (simp only [List.length_set, List.length_replicate, List.length_append, List.length_map, List.length_take, List.length_cons, List.length_nil]; omega)) [wrap64]
  exact RetK.keep (hk _ _ H)
end Go.Proofs.Ythgimpheeemooaa

/-
  Steps by the reference; the state after a step, by the program and by the reference.
-/
namespace Go.Proofs.Ythgimpheeemooaa
open Go
set_option linter.all false
set_option linter.unusedVariables false
set_option linter.unusedSimpArgs false
set_option linter.defProp false
set_option maxRecDepth 1000000

theorem c_l3Partners {h : Heap} {v w : Value} {s : Sy} {st : Sta} (hs : s.Ok) (ht : st.Ok s) (R : Rep h v s) (Rt : Rep h w st) {i m : Nat} (hi : i < s.procs.length) (hm : m < s.procs[i].edges.length) :
    CallE Try.prog fn_spec_l3Partners [v, w, .int .i64 i, .int .i64 m] h (fun u h' => HS h [ow u (prt s st i m s.procs[i].edges[m].sync)] h') := by
  have R0 := R
  have Rt0 := Rt
  obtain ⟨v1, v2, rfl, R1, R2'⟩ := Rep_Sy.1 R
  obtain ⟨t1, t2, rfl, T1, T2⟩ := Rep_Sta.1 Rt
  have hp3 := hs.p3
  have heo := (hs.at hi).at hm
  have hs0 := heo.s0
  have hs1 := heo.s1
  obtain ⟨we, w1, w2, hu, R3, hu2, ok, G1, G2⟩ := R2'.edge hi hm
  obtain ⟨c, hc⟩ : ∃ c, c = s.procs[i].edges[m].sync := ⟨_, rfl⟩
  refine CallE.gen fun k hk => EN_spec_l3Partners rfl ?_
  rw [← hc] at hk hs0 hs1
  simp -implicitDefEqProofs (disch := first | omega | (simp only [List.length_set, List.length_replicate, List.length_append, List.length_map, List.length_take, List.length_cons, List.length_nil]; omega)) [wrap64]
  refine HS.init.bls0 Stp fun o h1 H => ?_
  have hP := hld_parts (hload_le H.base hu)
  have hQ := hld_parts (hload_le H.base hu2)
  simp -implicitDefEqProofs (disch := first | omega | (simp only [List.length_set, List.length_replicate, List.length_append, List.length_map, List.length_take, List.length_cons, List.length_nil]; omega)) [wrap64, R2'.X (n := 2) rfl, hP.1, hP.2.2.1, R3.X (n := 10) rfl, hQ.1, hQ.2.2.1, Ed.cs]
  refine wp_count s.procs.length (fun j e h' => ∃ o, e = [none, none, some (.int .i64 i), some (.int .i64 m), some (.agg #[v1, v2]), some (.agg #[t1, t2]), none, some o, some (.int .i64 c), some (.int .i64 j), none] ∧ HS h [ow o ((s.procs.zipIdx.take j).flatMap (prt1 st i m c))] h') ⟨o, by simp [hc], by simpa using H⟩ ?_
  clear H hP hQ
  rintro J2 j _ h3 hJ2 hj ⟨o, rfl, H⟩
  simp -implicitDefEqProofs (disch := first | omega | (simp only [List.length_set, List.length_replicate, List.length_append, List.length_map, List.length_take, List.length_cons, List.length_nil]; omega)) [wrap64, R2'.len]
  refine IteW.mk (fun hlt2 => ?_) (fun hge2 => ?_)
  · have hj : j < s.procs.length := by omega
    obtain ⟨D, hD⟩ : ∃ D, D = (s.procs.zipIdx.take j).flatMap (prt1 st i m c) := ⟨_, rfl⟩
    have hDl : D.length ≤ 18 := by rw [hD]; exact prt_len hs
    rw [← hD] at H
    obtain ⟨u, hu, Ru⟩ := R2'.ld hj
    change hload _ (some (elp 2 v2 j)) (some 2) = some u at hu
    obtain ⟨wf, rfl, k2, R4⟩ := Rep_Pr.1 Ru
    have hpj := hs.at hj
    have hej := hpj.el
    have hP : ∀ {h'}, h.le h' → _ := fun {h'} (hl : h.le h') => hld_parts (hload_le hl hu)
    simp -implicitDefEqProofs (disch := first | omega | (simp only [List.length_set, List.length_replicate, List.length_append, List.length_map, List.length_take, List.length_cons, List.length_nil]; omega)) [wrap64]
    refine wp_count s.procs[j].edges.length (fun n e h' => ∃ o, e = [none, none, some (.int .i64 i), some (.int .i64 m), some (.agg #[v1, v2]), some (.agg #[t1, t2]), none, some o, some (.int .i64 c), some (.int .i64 j), some (.int .i64 n)] ∧ HS h [ow o (D ++ (s.procs[j].edges.zipIdx.take n).flatMap (prt2 st i m c j))] h') ⟨o, by simp, by simpa using H⟩ ?_
    clear H
    rintro J3 n _ h4 hJ3 hn ⟨o, rfl, H⟩
    have hP1 := (hP H.base).1
    have hP2 := (hP H.base).2.2.1
    simp -implicitDefEqProofs (disch := first | omega | (simp only [List.length_set, List.length_replicate, List.length_append, List.length_map, List.length_take, List.length_cons, List.length_nil]; omega)) [wrap64, R2'.X (n := 2) rfl, hP1, hP2, R4.len]
    refine IteW.mk (fun hlt3 => ?_) (fun hge3 => ?_)
    · have hn : n < s.procs[j].edges.length := by omega
      obtain ⟨E, hE⟩ : ∃ E, E = D ++ (s.procs[j].edges.zipIdx.take n).flatMap (prt2 st i m c j) := ⟨_, rfl⟩
      have hEl : E.length ≤ 24 := by
        rw [hE, List.length_append]
        have := prt1_len (st := st) (i := i) (k := m) (c := c) (j := j) (n := n) hpj
        omega
      have hstep2 : D ++ (s.procs[j].edges.zipIdx.take (n + 1)).flatMap (prt2 st i m c j) = E ++ prt2 st i m c j (s.procs[j].edges[n], n) := by rw [fm_tk hn, ← List.append_assoc, ← hE]
      rw [← hE] at H
      obtain ⟨u, hu, Ru⟩ := R4.ld hn
      have hu2 := hload_le H.base hu
      change hload _ (some (elp 10 wf n)) (some 10) = some u at hu2
      obtain ⟨x1, x2, rfl, okf, X1, X2⟩ := Rep_Ed.1 Ru
      have hQ := hld_parts hu2
      have hgo2 : ∀ {o' h'}, HS h [ow o' (E ++ prt2 st i m c j (s.procs[j].edges[n], n))] h' → J3 [none, none, some (.int .i64 i), some (.int .i64 m), some (.agg #[v1, v2]), some (.agg #[t1, t2]), none, some o', some (.int .i64 c), some (.int .i64 j), some (.int .i64 ((n + 1 : Nat) : Int))] h' :=
        fun {o' h'} H => hJ3 _ _ hn ⟨o', by simp, by rw [hstep2]; exact H⟩
      by_cases b1 : j = i
      · simp -implicitDefEqProofs (disch := first | omega | (simp only [List.length_set, List.length_replicate, List.length_append, List.length_map, List.length_take, List.length_cons, List.length_nil]; omega)) [wrap64, b1]
        subst b1
        exact hgo2 (by rw [prt2, if_neg (fun hh => hh.1 rfl)]; simpa using H)
      have b1' : ¬ ((j : Int) = i) := by omega
      by_cases b2 : s.procs[j].edges[n].sync = -c
      case neg =>
        simp -implicitDefEqProofs (disch := first | omega | (simp only [List.length_set, List.length_replicate, List.length_append, List.length_map, List.length_take, List.length_cons, List.length_nil]; omega)) [wrap64, R2'.X (n := 2) rfl, hP1, hP2, R4.X (n := 10) rfl, hQ.1, hQ.2.2.1, Ed.cs, b1, b1', b2]
        exact hgo2 (by rw [prt2, if_neg (fun hh => b2 hh.2.1)]; simpa using H)
      simp -implicitDefEqProofs (disch := first | omega | (simp only [List.length_set, List.length_replicate, List.length_append, List.length_map, List.length_take, List.length_cons, List.length_nil]; omega)) [wrap64, R2'.X (n := 2) rfl, hP1, hP2, R4.X (n := 10) rfl, hQ.1, hQ.2.2.1, Ed.cs, b1, b1', b2]
      refine (c_l3Ready hs ht (R0.on H) (Rt0.on H) hj hn).go ?_
      rintro _ h4 ⟨rfl, rfl⟩
      by_cases b3 : s.procs[j].edges[n].rdy st j = true
      case neg =>
        simp -implicitDefEqProofs (disch := first | omega | (simp only [List.length_set, List.length_replicate, List.length_append, List.length_map, List.length_take, List.length_cons, List.length_nil]; omega)) [wrap64, b3]
        exact hgo2 (by rw [prt2, if_neg (fun hh => b3 hh.2.2)]; simpa using H)
      have hel := (hs.at hi).el
      simp -implicitDefEqProofs (disch := first | omega | (simp only [List.length_set, List.length_replicate, List.length_append, List.length_map, List.length_take, List.length_cons, List.length_nil]; omega)) [wrap64, b3, setC]
      refine H.app1 (bytes := 32) (⟨i, m, j, n⟩ : Stp) rfl rfl rfl (Stp.ok_iff.2 ⟨by dsimp only; omega, by dsimp only; omega, by dsimp only; omega, by dsimp only; omega⟩) rfl rfl (by omega) (by omega) fun o' h5 H => ?_
      simp -implicitDefEqProofs (disch := first | omega | (simp only [List.length_set, List.length_replicate, List.length_append, List.length_map, List.length_take, List.length_cons, List.length_nil]; omega)) [wrap64]
      refine hgo2 ?_
      rw [prt2, if_pos ⟨b1, b2, b3⟩]; exact H
    simp -implicitDefEqProofs (disch := first | omega | (simp only [List.length_set, List.length_replicate, List.length_append, List.length_map, List.length_take, List.length_cons, List.length_nil]; omega)) [wrap64]
    rw [fm_all (by omega)] at H
    exact hJ2 _ _ hj ⟨o, by simp, by rw [fm_tk hj, ← hD]; exact H⟩
  simp -implicitDefEqProofs (disch := first | omega | (simp only [List.length_set, List.length_replicate, List.length_append, List.length_map, List.length_take, List.length_cons, List.length_nil]; omega)) [wrap64]
  rw [fm_all (by omega)] at H
  exact RetK.keep (hk _ _ H)

theorem c_l3Steps {h : Heap} {v w : Value} {s : Sy} {st : Sta} (hs : s.Ok) (ht : st.Ok s) (R : Rep h v s) (Rt : Rep h w st) : CallE Try.prog fn_spec_l3Steps [v, w] h (fun u h' => HS h [ow u (enb s st)] h') := by
  have FS := R.aSy
  have FT := Rt.aSta
  have R0 := R
  have Rt0 := Rt
  obtain ⟨v1, v2, rfl, R1, R2'⟩ := Rep_Sy.1 R
  obtain ⟨t1, t2, rfl, T1, T2⟩ := Rep_Sta.1 Rt
  have hp3 := hs.p3
  refine CallE.gen fun k hk => EN_spec_l3Steps rfl ?_
  simp -implicitDefEqProofs (disch := first | omega | (simp only [List.length_set, List.length_replicate, List.length_append, List.length_map, List.length_take, List.length_cons, List.length_nil]; omega)) [wrap64]
  refine HS.init.bls0 Stp fun o h1 H => ?_
  simp -implicitDefEqProofs (disch := first | omega | (simp only [List.length_set, List.length_replicate, List.length_append, List.length_map, List.length_take, List.length_cons, List.length_nil]; omega)) [wrap64]
  refine wp_count s.procs.length (fun i e h' => ∃ o, e = [none, none, some (.agg #[v1, v2]), some (.agg #[t1, t2]), none, some o, some (.int .i64 i), none, none] ∧ HS h [ow o ((s.procs.zipIdx.take i).flatMap (enb1 s st))] h') ⟨o, by simp, by simpa using H⟩ ?_
  clear H
  rintro J0 i _ h1 hJ0 hi ⟨o, rfl, H⟩
  simp -implicitDefEqProofs (disch := first | omega | (simp only [List.length_set, List.length_replicate, List.length_append, List.length_map, List.length_take, List.length_cons, List.length_nil]; omega)) [wrap64, R2'.len]
  refine IteW.mk (fun hlt => ?_) (fun hge => ?_)
  · have hi : i < s.procs.length := by omega
    obtain ⟨A, hA⟩ : ∃ A, A = (s.procs.zipIdx.take i).flatMap (enb1 s st) := ⟨_, rfl⟩
    have hAl : A.length ≤ 324 := by rw [hA]; exact enb_len hs
    obtain ⟨u, hu, Ru⟩ := R2'.ld hi
    change hload _ (some (elp 2 v2 i)) (some 2) = some u at hu
    obtain ⟨we, rfl, k1, R3⟩ := Rep_Pr.1 Ru
    have hpo := hs.at hi
    have hel := hpo.el
    have hP : ∀ {h'}, h.le h' → _ := fun {h'} (hl : h.le h') => hld_parts (hload_le hl hu)
    rw [← hA] at H
    simp -implicitDefEqProofs (disch := first | omega | (simp only [List.length_set, List.length_replicate, List.length_append, List.length_map, List.length_take, List.length_cons, List.length_nil]; omega)) [wrap64]
    refine wp_count s.procs[i].edges.length (fun m e h' => ∃ o, e = [none, none, some (.agg #[v1, v2]), some (.agg #[t1, t2]), none, some o, some (.int .i64 i), some (.int .i64 m), none] ∧ HS h [ow o (A ++ (s.procs[i].edges.zipIdx.take m).flatMap (enb2 s st i))] h') ⟨o, by simp, by simpa using H⟩ ?_
    clear H
    rintro J1 m _ h2 hJ1 hm ⟨o, rfl, H⟩
    have hP1 := (hP H.base).1
    have hP2 := (hP H.base).2.2.1
    simp -implicitDefEqProofs (disch := first | omega | (simp only [List.length_set, List.length_replicate, List.length_append, List.length_map, List.length_take, List.length_cons, List.length_nil]; omega)) [wrap64, R2'.X (n := 2) rfl, hP1, hP2, R3.len]
    refine IteW.mk (fun hlt1 => ?_) (fun hge1 => ?_)
    · have hm : m < s.procs[i].edges.length := by omega
      obtain ⟨B, hB⟩ : ∃ B, B = A ++ (s.procs[i].edges.zipIdx.take m).flatMap (enb2 s st i) := ⟨_, rfl⟩
      have hBl : B.length ≤ 432 := by
        rw [hB, List.length_append]
        have := enb1_len (st := st) (i := i) (n := m) hs hpo
        omega
      have hstep : A ++ (s.procs[i].edges.zipIdx.take (m + 1)).flatMap (enb2 s st i) = B ++ enb2 s st i (s.procs[i].edges[m], m) := by rw [fm_tk hm, ← List.append_assoc, ← hB]
      rw [← hB] at H
      obtain ⟨u, hu, Ru⟩ := R3.ld hm
      have hu2 := hload_le H.base hu
      change hload _ (some (elp 10 we m)) (some 10) = some u at hu2
      obtain ⟨w1, w2, rfl, ok, G1, G2⟩ := Rep_Ed.1 Ru
      have heo := hpo.at hm
      have hQ := hld_parts hu2
      have hgo : ∀ {o' h'}, HS h [ow o' (B ++ enb2 s st i (s.procs[i].edges[m], m))] h' → J1 [none, none, some (.agg #[v1, v2]), some (.agg #[t1, t2]), none, some o', some (.int .i64 i), some (.int .i64 ((m + 1 : Nat) : Int)), none] h' :=
        fun {o' h'} H => hJ1 _ _ hm ⟨o', by simp, by rw [hstep]; exact H⟩
      by_cases a2 : s.procs[i].edges[m].sync < 0
      · simp -implicitDefEqProofs (disch := first | omega | (simp only [List.length_set, List.length_replicate, List.length_append, List.length_map, List.length_take, List.length_cons, List.length_nil]; omega)) [wrap64, R2'.X (n := 2) rfl, hP1, hP2, R3.X (n := 10) rfl, hQ.1, hQ.2.2.1, Ed.cs, a2]
        exact hgo (by rw [enb2, if_pos (.inl a2)]; simpa using H)
      simp -implicitDefEqProofs (disch := first | omega | (simp only [List.length_set, List.length_replicate, List.length_append, List.length_map, List.length_take, List.length_cons, List.length_nil]; omega)) [wrap64, R2'.X (n := 2) rfl, hP1, hP2, R3.X (n := 10) rfl, hQ.1, hQ.2.2.1, Ed.cs, a2]
      refine (c_l3Ready hs ht (R0.on H) (Rt0.on H) hi hm).go ?_
      rintro _ h2 ⟨rfl, rfl⟩
      by_cases a1 : s.procs[i].edges[m].rdy st i = true
      case neg =>
        simp -implicitDefEqProofs (disch := first | omega | (simp only [List.length_set, List.length_replicate, List.length_append, List.length_map, List.length_take, List.length_cons, List.length_nil]; omega)) [wrap64, a1]
        exact hgo (by rw [enb2, if_pos (.inr (by simpa using a1))]; simpa using H)
      by_cases a3 : s.procs[i].edges[m].sync = 0
      · simp -implicitDefEqProofs (disch := first | omega | (simp only [List.length_set, List.length_replicate, List.length_append, List.length_map, List.length_take, List.length_cons, List.length_nil]; omega)) [wrap64, a1, a2, a3, setC]
        refine H.app1 (bytes := 32) (⟨i, m, -1, -1⟩ : Stp) rfl rfl rfl (Stp.ok_iff.2 ⟨by dsimp only; omega, by dsimp only; omega, by dsimp only; omega, by dsimp only; omega⟩) rfl rfl (by omega) (by omega) fun o' h3 H => ?_
        simp -implicitDefEqProofs (disch := first | omega | (simp only [List.length_set, List.length_replicate, List.length_append, List.length_map, List.length_take, List.length_cons, List.length_nil]; omega)) [wrap64]
        refine hgo ?_
        rw [enb2, if_neg (by simp [a2, a1]), if_pos a3]; exact H
      have hen : enb2 s st i (s.procs[i].edges[m], m) = prt s st i m s.procs[i].edges[m].sync := by rw [enb2, if_neg (by simp [a2, a1]), if_neg a3]
      have hpl := prt_len' (st := st) (i := i) (k := m) (c := s.procs[i].edges[m].sync) hs
      rw [hen] at hgo
      simp -implicitDefEqProofs (disch := first | omega | (simp only [List.length_set, List.length_replicate, List.length_append, List.length_map, List.length_take, List.length_cons, List.length_nil]; omega)) [wrap64, a1, a2, a3]
      refine (c_l3Partners hs ht (R0.on H) (Rt0.on H) hi hm).go ?_
      intro p h3 G
      have H := G.app H
      simp -implicitDefEqProofs (disch := first | omega | (simp only [List.length_set, List.length_replicate, List.length_append, List.length_map, List.length_take, List.length_cons, List.length_nil]; omega)) [wrap64]
      refine HS.appL (u := p) (l2 := prt s st i m s.procs[i].edges[m].sync) H.sw1 rfl rfl H.rep rfl rfl (by omega) (by omega) fun o' h4 H => ?_
      simp -implicitDefEqProofs (disch := first | omega | (simp only [List.length_set, List.length_replicate, List.length_append, List.length_map, List.length_take, List.length_cons, List.length_nil]; omega)) [wrap64]
      exact hgo H.only
    simp -implicitDefEqProofs (disch := first | omega | (simp only [List.length_set, List.length_replicate, List.length_append, List.length_map, List.length_take, List.length_cons, List.length_nil]; omega)) [wrap64]
    rw [fm_all (by omega)] at H
    exact hJ0 _ _ hi ⟨o, by simp, by rw [fm_tk hi, ← hA]; exact H⟩
  simp -implicitDefEqProofs (disch := first | omega | (simp only [List.length_set, List.length_replicate, List.length_append, List.length_map, List.length_take, List.length_cons, List.length_nil]; omega)) [wrap64]
  rw [fm_all (by omega)] at H
  exact RetK.keep (hk _ _ H)

theorem c_StateValid {h : Heap} {v w : Value} {s : Sy} {st : Sta} (R : Rep h v s) (Rt : Rep h w st) : CallE Try.prog fn_impl_StateValid [v, w] h (fun u h' => h.le h' ∧ u = .bool (decide (s.Ok ∧ st.Ok s))) := by
  have FS := R.aSy
  have FT := Rt.aSta
  refine CallE.gen fun k hk => EN_impl_StateValid rfl ?_
  simp -implicitDefEqProofs (disch := first | omega | (simp only [List.length_set, List.length_replicate, List.length_append, List.length_map, List.length_take, List.length_cons, List.length_nil]; omega)) [wrap64, FS, FT]
  refine (c_SystemValid R).go ?_
  rintro _ h1 ⟨l1, rfl⟩
  by_cases hs : s.Ok
  case neg => simp -implicitDefEqProofs (disch := first | omega | (simp only [List.length_set, List.length_replicate, List.length_append, List.length_map, List.length_take, List.length_cons, List.length_nil]; omega)) [wrap64, hs]; exact RetK.keep (hk _ _ ⟨l1, by rw [decide_eq_false (fun hh => hs hh.1)]⟩)
  simp -implicitDefEqProofs (disch := first | omega | (simp only [List.length_set, List.length_replicate, List.length_append, List.length_map, List.length_take, List.length_cons, List.length_nil]; omega)) [wrap64, hs, FS, FT]
  refine (c_has hs (R.le l1) (Rt.le l1)).go ?_
  rintro _ h2 ⟨l2, rfl⟩
  simp -implicitDefEqProofs (disch := first | omega | (simp only [List.length_set, List.length_replicate, List.length_append, List.length_map, List.length_take, List.length_cons, List.length_nil]; omega)) [wrap64]
  exact RetK.keep (hk _ _ ⟨l1.trans l2, by congr 1; rw [Bool.eq_iff_iff]; simp [hs]⟩)
theorem c_EnabledSteps {h : Heap} {v w : Value} {s : Sy} {st : Sta} (R : Rep h v s) (Rt : Rep h w st) : CallE Try.prog fn_impl_EnabledSteps [v, w] h (fun u h' => HS h [ow u (ens s st)] h') := by
  have FS := R.aSy
  have FT := Rt.aSta
  refine CallE.gen fun k hk => EN_impl_EnabledSteps rfl ?_
  have hno : ¬ (s.Ok ∧ st.Ok s) → ∀ {h'}, h.le h' → k (.slice none 0 0) h' := fun hn h' hl => hk _ _ (by rw [ens, if_neg hn]; exact HS.nil_ow (Γ := []) hl)
  simp -implicitDefEqProofs (disch := first | omega | (simp only [List.length_set, List.length_replicate, List.length_append, List.length_map, List.length_take, List.length_cons, List.length_nil]; omega)) [wrap64, FS, FT]
  refine (c_StateValid R Rt).go ?_
  rintro _ h1 ⟨l1, rfl⟩
  by_cases q : s.Ok ∧ st.Ok s
  case neg => simp -implicitDefEqProofs (disch := first | omega | (simp only [List.length_set, List.length_replicate, List.length_append, List.length_map, List.length_take, List.length_cons, List.length_nil]; omega)) [wrap64, q]; exact RetK.keep (hno q l1)
  simp -implicitDefEqProofs (disch := first | omega | (simp only [List.length_set, List.length_replicate, List.length_append, List.length_map, List.length_take, List.length_cons, List.length_nil]; omega)) [wrap64, q, FS, FT]
  refine (c_enabled q.1 q.2 (R.le l1) (Rt.le l1)).go ?_
  intro u h2 H
  simp -implicitDefEqProofs (disch := first | omega | (simp only [List.length_set, List.length_replicate, List.length_append, List.length_map, List.length_take, List.length_cons, List.length_nil]; omega)) [wrap64]
  exact RetK.keep (hk _ _ (by rw [ens, if_pos q]; exact HS.app (Γ := []) H l1))
theorem c_spec_EnabledSteps {h : Heap} {v w : Value} {s : Sy} {st : Sta} (R : Rep h v s) (Rt : Rep h w st) : CallE Try.prog fn_spec_EnabledSteps [v, w] h (fun u h' => HS h [ow u (ens s st)] h') := by
  have FS := R.aSy
  have FT := Rt.aSta
  refine CallE.gen fun k hk => EN_spec_EnabledSteps rfl ?_
  simp -implicitDefEqProofs (disch := first | omega | (simp only [List.length_set, List.length_replicate, List.length_append, List.length_map, List.length_take, List.length_cons, List.length_nil]; omega)) [wrap64, FS, FT]
  refine (c_spec_StateValid R Rt).go ?_
  rintro _ h ⟨rfl, rfl⟩
  by_cases q : s.Ok ∧ st.Ok s
  case neg =>
    simp -implicitDefEqProofs (disch := first | omega | (simp only [List.length_set, List.length_replicate, List.length_append, List.length_map, List.length_take, List.length_cons, List.length_nil]; omega)) [wrap64, q]
    refine HS.init.bls0 Stp fun o h1 H => ?_
    simp -implicitDefEqProofs (disch := first | omega | (simp only [List.length_set, List.length_replicate, List.length_append, List.length_map, List.length_take, List.length_cons, List.length_nil]; omega)) [wrap64]
    exact RetK.keep (hk _ _ (by rw [ens, if_neg q]; exact H))
  simp -implicitDefEqProofs (disch := first | omega | (simp only [List.length_set, List.length_replicate, List.length_append, List.length_map, List.length_take, List.length_cons, List.length_nil]; omega)) [wrap64, q, FS, FT]
  refine (c_l3Steps q.1 q.2 R Rt).go ?_
  intro u h2 H
  simp -implicitDefEqProofs (disch := first | omega | (simp only [List.length_set, List.length_replicate, List.length_append, List.length_map, List.length_take, List.length_cons, List.length_nil]; omega)) [wrap64]
  exact RetK.keep (hk _ _ (by rw [ens, if_pos q]; exact H))

theorem c_take {g h : Heap} {Γ : List HP} {t1 t2 v : Value} {s : Sy} {st : Sta} {e : Ed} {i : Nat} (hi : i < s.procs.length) (ht : st.Ok s) (he : e.Ok s.procs[i].locs) (R : Rep g v e) (H : HS g (ow t1 st.locs :: ow t2 st.vals :: Γ) h) :
    CallE Try.prog fn_impl_State_take [.agg #[t1, t2], .int .i64 i, v] h (fun _ h' => HS g (ow t1 (st.tk i e).locs :: ow t2 (st.tk i e).vals :: Γ) h') := by
  obtain ⟨w1, w2, rfl, ok, G1, G2⟩ := Rep_Ed.1 R
  have hil : i < st.locs.length := by rw [ht.len]; exact hi
  have hvl := ht.vs.len
  refine CallE.gen fun k hk => EN_impl_State_take rfl ?_
  simp -implicitDefEqProofs (disch := first | omega | (simp only [List.length_set, List.length_replicate, List.length_append, List.length_map, List.length_take, List.length_cons, List.length_nil]; omega)) [wrap64, Ed.cs, H.rep.I]
  refine H.storeF e.to (i := i) hil rfl rfl ok.to rfl fun h1 H => ?_
  by_cases a1 : 0 ≤ e.var
  case neg =>
    simp -implicitDefEqProofs (disch := first | omega | (simp only [List.length_set, List.length_replicate, List.length_append, List.length_map, List.length_take, List.length_cons, List.length_nil]; omega)) [wrap64, a1]
    exact RetK.keep (hk _ _ (by simp only [Sta.tk]; rw [if_neg a1]; exact H))
  have hvo : e.value.Ok := he.vl.elim (fun hh => hh.2) (fun hh => absurd hh.1 (by omega))
  have hv1 := he.v1
  obtain ⟨q, hq⟩ : ∃ q : Nat, e.var = q := ⟨_, (Int.toNat_of_nonneg a1).symm⟩
  have hb := Exq.ev_bnd ht.vs hvo.1
  simp -implicitDefEqProofs (disch := first | omega | (simp only [List.length_set, List.length_replicate, List.length_append, List.length_map, List.length_take, List.length_cons, List.length_nil]; omega)) [wrap64, a1, hq]
  refine (c_eval _ ht.vs hvo.1 ((Rep.vl ok G2).on H) H.sw1.rep).go ?_
  rintro _ h1 ⟨rfl, rfl⟩
  simp -implicitDefEqProofs (disch := first | omega | (simp only [List.length_set, List.length_replicate, List.length_append, List.length_map, List.length_take, List.length_cons, List.length_nil]; omega)) [wrap64, H.sw1.rep.I]
  refine H.sw1.storeF (e.value.ev st.vals) (i := q) (by omega) rfl rfl ⟨by omega, by omega⟩ rfl fun h2 H => ?_
  simp -implicitDefEqProofs (disch := first | omega | (simp only [List.length_set, List.length_replicate, List.length_append, List.length_map, List.length_take, List.length_cons, List.length_nil]; omega)) [wrap64]
  exact RetK.keep (hk _ _ (by simp only [Sta.tk]; rw [if_pos a1, hq, Int.toNat_natCast]; exact H.sw1))
theorem c_l3Take {g h : Heap} {Γ : List HP} {t1 t2 v : Value} {s : Sy} {st : Sta} {e : Ed} {i : Nat} (hi : i < s.procs.length) (ht : st.Ok s) (he : e.Ok s.procs[i].locs) (R : Rep g v e) (H : HS g (ow t1 st.locs :: ow t2 st.vals :: Γ) h) :
    CallE Try.prog fn_spec_l3Take [.agg #[t1, t2], .int .i64 i, v] h (fun u h' => u = .agg #[t1, t2] ∧ HS g (ow t1 (st.tk i e).locs :: ow t2 (st.tk i e).vals :: Γ) h') := by
  obtain ⟨w1, w2, rfl, ok, G1, G2⟩ := Rep_Ed.1 R
  have hil : i < st.locs.length := by rw [ht.len]; exact hi
  have hvl := ht.vs.len
  have hO1 := H.rep.one
  have hO2 := H.sw1.rep.one
  refine CallE.gen fun k hk => EN_spec_l3Take rfl ?_
  simp -implicitDefEqProofs (disch := first | omega | (simp only [List.length_set, List.length_replicate, List.length_append, List.length_map, List.length_take, List.length_cons, List.length_nil]; omega)) [wrap64, Ed.cs, H.rep.I]
  refine H.storeF e.to (i := i) hil rfl rfl ok.to rfl fun h1 H => ?_
  by_cases a1 : 0 ≤ e.var
  case neg =>
    simp -implicitDefEqProofs (disch := first | omega | (simp only [List.length_set, List.length_replicate, List.length_append, List.length_map, List.length_take, List.length_cons, List.length_nil]; omega)) [wrap64, a1, setC, hO1, hO2]
    exact RetK.keep (hk _ _ ⟨rfl, by simp only [Sta.tk]; rw [if_neg a1]; exact H⟩)
  have hvo : e.value.Ok := he.vl.elim (fun hh => hh.2) (fun hh => absurd hh.1 (by omega))
  have hv1 := he.v1
  obtain ⟨q, hq⟩ : ∃ q : Nat, e.var = q := ⟨_, (Int.toNat_of_nonneg a1).symm⟩
  have hb := Exq.ev_bnd ht.vs hvo.1
  simp -implicitDefEqProofs (disch := first | omega | (simp only [List.length_set, List.length_replicate, List.length_append, List.length_map, List.length_take, List.length_cons, List.length_nil]; omega)) [wrap64, a1, hq]
  refine (c_l1Eval _ ht.vs hvo.1 ((Rep.vl ok G2).on H) H.sw1.rep).go ?_
  rintro _ h1 ⟨rfl, rfl⟩
  simp -implicitDefEqProofs (disch := first | omega | (simp only [List.length_set, List.length_replicate, List.length_append, List.length_map, List.length_take, List.length_cons, List.length_nil]; omega)) [wrap64, H.sw1.rep.I]
  refine H.sw1.storeF (e.value.ev st.vals) (i := q) (by omega) rfl rfl ⟨by omega, by omega⟩ rfl fun h2 H => ?_
  simp -implicitDefEqProofs (disch := first | omega | (simp only [List.length_set, List.length_replicate, List.length_append, List.length_map, List.length_take, List.length_cons, List.length_nil]; omega)) [wrap64, setC, hO1, hO2]
  exact RetK.keep (hk _ _ ⟨rfl, by simp only [Sta.tk]; rw [if_pos a1, hq, Int.toNat_natCast]; exact H.sw1⟩)

theorem c_after {h : Heap} {v w : Value} {s : Sy} {st : Sta} {t : Stp} (hs : s.Ok) (ht : st.Ok s) (hin : t.In s) (R : Rep h v s) (Rt : Rep h w st) : CallE Try.prog fn_impl_System_after [v, w, t.v] h (fun u h' => HS h [ow u (st.aft s t)] h') := by
  have FT := Rt.aSta
  obtain ⟨v1, v2, rfl, R1, R2'⟩ := Rep_Sy.1 R
  obtain ⟨⟨i, m, hi, hm, e1, e2⟩, hpt⟩ := hin
  have hp3 := hs.p3
  have hll := ht.len
  have hvl := ht.vs.len
  have hed : s.ed t.proc.toNat t.edge.toNat = s.procs[i].edges[m] := by rw [e1, e2, Int.toNat_natCast, Int.toNat_natCast, Sy.ed_eq hi hm]
  refine CallE.gen fun k hk => EN_impl_System_after rfl ?_
  simp -implicitDefEqProofs (disch := first | omega | (simp only [List.length_set, List.length_replicate, List.length_append, List.length_map, List.length_take, List.length_cons, List.length_nil]; omega)) [wrap64, FT]
  refine (c_State_copyOf Rt (by omega) (by omega)).go ?_
  intro o h1 HO
  obtain ⟨o1, o2, rfl, H⟩ := HO.unSta
  obtain ⟨we, w1, w2, hu, R3, hu2, ok, G1, G2⟩ := R2'.edge hi hm
  have hP := hld_parts (hload_le H.base hu)
  have hu3 := hload_le H.base hu2
  have hC1 := H.rep.one
  have hC2 := H.sw1.rep.one
  have heo := (hs.at hi).at hm
  have Re : Rep h (.agg (s.procs[i].edges[m].cs w1 w2).toArray) s.procs[i].edges[m] := Rep_Ed.2 ⟨w1, w2, rfl, ok, G1, G2⟩
  simp -implicitDefEqProofs (disch := first | omega | (simp only [List.length_set, List.length_replicate, List.length_append, List.length_map, List.length_take, List.length_cons, List.length_nil]; omega)) [wrap64, setC, hC1, hC2, Stp.v, e1, e2, R2'.X (n := 2) rfl, hP.1, hP.2.2.1, R3.X (n := 10) rfl, hu3]
  refine (c_take (s := s) hi ht heo Re H).go ?_
  intro _ h2 H
  have ht2 := Sta.tk_ok ht hi heo
  have hC1 := H.rep.one
  have hC2 := H.sw1.rep.one
  rcases hpt with hpt | ⟨j, n, hj, hn, e3, e4⟩
  · simp -implicitDefEqProofs (disch := first | omega | (simp only [List.length_set, List.length_replicate, List.length_append, List.length_map, List.length_take, List.length_cons, List.length_nil]; omega)) [wrap64, Stp.v, hpt, setC, hC1, hC2]
    refine RetK.keep (hk _ _ ?_)
    rw [Sta.aft, if_neg (by omega), hed, e1, Int.toNat_natCast]
    exact H.mkSta
  · have hed2 : s.ed t.partner.toNat t.pedge.toNat = s.procs[j].edges[n] := by rw [e3, e4, Int.toNat_natCast, Int.toNat_natCast, Sy.ed_eq hj hn]
    have heo2 := (hs.at hj).at hn
    obtain ⟨wf, x1, x2, hu, R3, hu2, ok, X1, X2⟩ := R2'.edge hj hn
    have hP := hld_parts (hload_le H.base hu)
    have hu3 := hload_le H.base hu2
    have Rf : Rep h (.agg (s.procs[j].edges[n].cs x1 x2).toArray) s.procs[j].edges[n] := Rep_Ed.2 ⟨x1, x2, rfl, ok, X1, X2⟩
    simp -implicitDefEqProofs (disch := first | omega | (simp only [List.length_set, List.length_replicate, List.length_append, List.length_map, List.length_take, List.length_cons, List.length_nil]; omega)) [wrap64, setC, hC1, hC2, Stp.v, e3, e4, R2'.X (n := 2) rfl, hP.1, hP.2.2.1, R3.X (n := 10) rfl, hu3]
    refine (c_take (s := s) hj ht2 heo2 Rf H).go ?_
    intro _ h3 H
    simp -implicitDefEqProofs (disch := first | omega | (simp only [List.length_set, List.length_replicate, List.length_append, List.length_map, List.length_take, List.length_cons, List.length_nil]; omega)) [wrap64, setC, hC1, hC2]
    refine RetK.keep (hk _ _ ?_)
    rw [Sta.aft, if_pos (by omega), hed, hed2, e1, e3, Int.toNat_natCast, Int.toNat_natCast]
    exact H.mkSta
theorem c_l3Apply {h : Heap} {v w : Value} {s : Sy} {st : Sta} {t : Stp} (hs : s.Ok) (ht : st.Ok s) (hin : t.In s) (R : Rep h v s) (Rt : Rep h w st) : CallE Try.prog fn_spec_l3Apply [v, w, t.v] h (fun u h' => HS h [ow u (st.aft s t)] h') := by
  have FT := Rt.aSta
  obtain ⟨v1, v2, rfl, R1, R2'⟩ := Rep_Sy.1 R
  obtain ⟨⟨i, m, hi, hm, e1, e2⟩, hpt⟩ := hin
  have hp3 := hs.p3
  have hll := ht.len
  have hvl := ht.vs.len
  have hed : s.ed t.proc.toNat t.edge.toNat = s.procs[i].edges[m] := by rw [e1, e2, Int.toNat_natCast, Int.toNat_natCast, Sy.ed_eq hi hm]
  refine CallE.gen fun k hk => EN_spec_l3Apply rfl ?_
  obtain ⟨t1, t2, rfl, T1, T2⟩ := Rep_Sta.1 Rt
  simp -implicitDefEqProofs (disch := first | omega | (simp only [List.length_set, List.length_replicate, List.length_append, List.length_map, List.length_take, List.length_cons, List.length_nil]; omega)) [wrap64]
  refine HS.appPL (α := Int) (l2 := st.locs) HS.init rfl rfl T1 rfl rfl (by omega) fun o1 h1 H => ?_
  simp -implicitDefEqProofs (disch := first | omega | (simp only [List.length_set, List.length_replicate, List.length_append, List.length_map, List.length_take, List.length_cons, List.length_nil]; omega)) [wrap64]
  refine HS.appPL (α := Int) (l2 := st.vals) H rfl rfl (T2.on H) rfl rfl (by omega) fun o2 h1 H => ?_
  replace H := H.sw1
  have hK1 := H.rep.cells
  have hK2 := H.sw1.rep.cells
  obtain ⟨we, w1, w2, hu, R3, hu2, ok, G1, G2⟩ := R2'.edge hi hm
  have hP := hld_parts (hload_le H.base hu)
  have hu3 := hload_le H.base hu2
  have hC1 := H.rep.one
  have hC2 := H.sw1.rep.one
  have heo := (hs.at hi).at hm
  have Re : Rep h (.agg (s.procs[i].edges[m].cs w1 w2).toArray) s.procs[i].edges[m] := Rep_Ed.2 ⟨w1, w2, rfl, ok, G1, G2⟩
  simp -implicitDefEqProofs (disch := first | omega | (simp only [List.length_set, List.length_replicate, List.length_append, List.length_map, List.length_take, List.length_cons, List.length_nil]; omega)) [wrap64, setC, hC1, hC2, hK1, hK2, Stp.v, e1, e2, R2'.X (n := 2) rfl, hP.1, hP.2.2.1, R3.X (n := 10) rfl, hu3]
  refine (c_l3Take (s := s) hi ht heo Re H).go ?_
  rintro _ h2 ⟨rfl, H⟩
  have ht2 := Sta.tk_ok ht hi heo
  have hC1 := H.rep.one
  have hC2 := H.sw1.rep.one
  rcases hpt with hpt | ⟨j, n, hj, hn, e3, e4⟩
  · simp -implicitDefEqProofs (disch := first | omega | (simp only [List.length_set, List.length_replicate, List.length_append, List.length_map, List.length_take, List.length_cons, List.length_nil]; omega)) [wrap64, Stp.v, hpt, setC, hC1, hC2]
    refine RetK.keep (hk _ _ ?_)
    rw [Sta.aft, if_neg (by omega), hed, e1, Int.toNat_natCast]
    exact H.mkSta
  · have hed2 : s.ed t.partner.toNat t.pedge.toNat = s.procs[j].edges[n] := by rw [e3, e4, Int.toNat_natCast, Int.toNat_natCast, Sy.ed_eq hj hn]
    have heo2 := (hs.at hj).at hn
    obtain ⟨wf, x1, x2, hu, R3, hu2, ok, X1, X2⟩ := R2'.edge hj hn
    have hP := hld_parts (hload_le H.base hu)
    have hu3 := hload_le H.base hu2
    have Rf : Rep h (.agg (s.procs[j].edges[n].cs x1 x2).toArray) s.procs[j].edges[n] := Rep_Ed.2 ⟨x1, x2, rfl, ok, X1, X2⟩
    simp -implicitDefEqProofs (disch := first | omega | (simp only [List.length_set, List.length_replicate, List.length_append, List.length_map, List.length_take, List.length_cons, List.length_nil]; omega)) [wrap64, setC, hC1, hC2, Stp.v, e3, e4, R2'.X (n := 2) rfl, hP.1, hP.2.2.1, R3.X (n := 10) rfl, hu3]
    refine (c_l3Take (s := s) hj ht2 heo2 Rf H).go ?_
    rintro _ h3 ⟨rfl, H⟩
    simp -implicitDefEqProofs (disch := first | omega | (simp only [List.length_set, List.length_replicate, List.length_append, List.length_map, List.length_take, List.length_cons, List.length_nil]; omega)) [wrap64, setC, hC1, hC2]
    refine RetK.keep (hk _ _ ?_)
    rw [Sta.aft, if_pos (by omega), hed, hed2, e1, e3, Int.toNat_natCast, Int.toNat_natCast]
    exact H.mkSta

end Go.Proofs.Ythgimpheeemooaa

/-
  What the helpers of the laws do: copying, counting, comparing, marking. Printed by a program.
-/
namespace Go.Proofs.Ythgimpheeemooaa
open Go
set_option linter.all false
set_option linter.unusedVariables false
set_option linter.unusedSimpArgs false
set_option linter.defProp false
set_option maxRecDepth 1000000

end Go.Proofs.Ythgimpheeemooaa

/-
  The state after a step: the functions of the packages.
-/
namespace Go.Proofs.Ythgimpheeemooaa
open Go
set_option linter.all false
set_option linter.unusedVariables false
set_option linter.unusedSimpArgs false
set_option linter.defProp false
set_option maxRecDepth 1000000

theorem Stp.rep {h : Heap} {t : Stp} (ok : t.ok) : Rep h t.v t := Rep_Stp.2 ⟨rfl, ok⟩
theorem c_Index_Step {h : Heap} {a : Value} {x : List Stp} (Ra : Rep h a x) {t : Stp} : CallE Try.prog fn_slices_Index_S_impl_Step_impl_Step [a, t.v] h (fun v h' => h' = h ∧ ∃ r : Int, v = .int .i64 r ∧ (0 ≤ r ↔ t ∈ x)) := by
  refine CallE.gen fun k hk => EN_slices_Index_S_impl_Step_impl_Step rfl ?_
  have hL := Ra.lt
  simp -implicitDefEqProofs (disch := first | omega | (simp only [List.length_set, List.length_replicate, List.length_append, List.length_map, List.length_take, List.length_cons, List.length_nil]; omega)) [wrap64, Ra.len]
  refine wp_count x.length (fun i e h' => e = [some a, none, some t.v, none, none, some (.int .i64 x.length), some (.int .i64 i)] ∧ h' = h ∧ ∀ (j : Nat) (hj : j < x.length), j < i → x[j] ≠ t) ⟨by simp, rfl, fun j _ hj => absurd hj (Nat.not_lt_zero j)⟩ ?_
  rintro J i _ h1 hJ hi ⟨rfl, rfl, hn⟩
  simp -implicitDefEqProofs (disch := first | omega | (simp only [List.length_set, List.length_replicate, List.length_append, List.length_map, List.length_take, List.length_cons, List.length_nil]; omega)) [wrap64]
  refine IteW.mk (fun hlt => ?_) (fun hge => ?_)
  · have hlx : i < x.length := by omega
    by_cases he : x[i] = t
    · simp -implicitDefEqProofs (disch := first | omega | (simp only [List.length_set, List.length_replicate, List.length_append, List.length_map, List.length_take, List.length_cons, List.length_nil]; omega)) [wrap64, Ra.xStp, Stp.v, he]
      exact RetK.keep (hk _ _ ⟨rfl, i, rfl, by simp only [Int.natCast_nonneg, true_iff]; rw [← he]; exact List.getElem_mem hlx⟩)
    · have he2 : ¬ (t.proc = x[i].proc ∧ t.edge = x[i].edge ∧ t.partner = x[i].partner ∧ t.pedge = x[i].pedge) := fun hh => he (by rw [Stp.ext_iff']; exact ⟨hh.1.symm, hh.2.1.symm, hh.2.2.1.symm, hh.2.2.2.symm⟩)
      simp -implicitDefEqProofs (disch := first | omega | (simp only [List.length_set, List.length_replicate, List.length_append, List.length_map, List.length_take, List.length_cons, List.length_nil]; omega)) [wrap64, Ra.xStp, Stp.v]
      refine IteW.mk (fun hh => absurd hh ?_) (fun _ => ?_)
      · simpa using he2
      · simp -implicitDefEqProofs (disch := first | omega | (simp only [List.length_set, List.length_replicate, List.length_append, List.length_map, List.length_take, List.length_cons, List.length_nil]; omega)) [wrap64]
        refine hJ _ _ hlx ⟨by simp [Stp.v], rfl, fun j hj hji => ?_⟩
        by_cases hji2 : j = i
        · subst hji2; exact he
        · exact hn j hj (by omega)
  · simp -implicitDefEqProofs (disch := first | omega | (simp only [List.length_set, List.length_replicate, List.length_append, List.length_map, List.length_take, List.length_cons, List.length_nil]; omega)) [wrap64]
    refine RetK.keep (hk _ _ ⟨rfl, -1, rfl, ?_⟩)
    simp only [show ¬ (0 : Int) ≤ -1 by decide, false_iff]
    intro hm
    obtain ⟨j, hj, h1⟩ := List.mem_iff_getElem.1 hm
    exact hn j hj (by omega) h1
theorem c_Contains_Step {h : Heap} {a : Value} {x : List Stp} (Ra : Rep h a x) {t : Stp} : CallE Try.prog fn_slices_Contains_S_impl_Step_impl_Step [a, t.v] h (fun v h' => h' = h ∧ v = .bool (decide (t ∈ x))) := by
  refine CallE.gen fun k hk => EN_slices_Contains_S_impl_Step_impl_Step rfl ?_
  simp -implicitDefEqProofs (disch := first | omega | (simp only [List.length_set, List.length_replicate, List.length_append, List.length_map, List.length_take, List.length_cons, List.length_nil]; omega)) [wrap64, Stp.v]
  refine (c_Index_Step Ra (t := t)).go ?_
  rintro _ h1 ⟨rfl, r, rfl, hr⟩
  simp -implicitDefEqProofs (disch := first | omega | (simp only [List.length_set, List.length_replicate, List.length_append, List.length_map, List.length_take, List.length_cons, List.length_nil]; omega)) [wrap64]
  exact RetK.keep (hk _ _ ⟨rfl, by congr 1; rw [Bool.eq_iff_iff]; simp [hr]⟩)

theorem ens_mem {s : Sy} {st : Sta} {t : Stp} (h : t ∈ ens s st) : s.Ok ∧ st.Ok s ∧ t.In s := by
  unfold ens at h
  split at h
  · rename_i q; exact ⟨q.1, q.2, enb_in h⟩
  · simp at h
noncomputable def aplR (s : Sy) (st : Sta) (t : Stp) : Sta := if t ∈ ens s st then st.aft s t else Sta.zero
theorem c_ApplyStep {h : Heap} {v w : Value} {s : Sy} {st : Sta} {t : Stp} (R : Rep h v s) (Rt : Rep h w st) (ok : t.ok) : CallE Try.prog fn_impl_ApplyStep [v, w, t.v] h (R2 (decide (t ∈ ens s st)) (aplR s st t) h) := by
  have FS := R.aSy
  have FT := Rt.aSta
  have FE := (Stp.rep (h := h) ok).aStp
  refine CallE.gen fun k hk => EN_impl_ApplyStep rfl ?_
  simp -implicitDefEqProofs (disch := first | omega | (simp only [List.length_set, List.length_replicate, List.length_append, List.length_map, List.length_take, List.length_cons, List.length_nil]; omega)) [wrap64, FS, FT, FE]
  refine (c_EnabledSteps R Rt).go ?_
  intro l h1 H
  simp -implicitDefEqProofs (disch := first | omega | (simp only [List.length_set, List.length_replicate, List.length_append, List.length_map, List.length_take, List.length_cons, List.length_nil]; omega)) [wrap64]
  refine (c_Contains_Step H.rep).go ?_
  rintro _ h1 ⟨rfl, rfl⟩
  by_cases q : t ∈ ens s st
  case neg =>
    simp -implicitDefEqProofs (disch := first | omega | (simp only [List.length_set, List.length_replicate, List.length_append, List.length_map, List.length_take, List.length_cons, List.length_nil]; omega)) [wrap64, q, setC]
    exact RetK.keep (hk _ _ ⟨_, by rw [decide_eq_false q], by rw [aplR, if_neg q]; exact zero_St (Γ := []) H.base⟩)
  obtain ⟨q1, q2, q3⟩ := ens_mem q
  simp -implicitDefEqProofs (disch := first | omega | (simp only [List.length_set, List.length_replicate, List.length_append, List.length_map, List.length_take, List.length_cons, List.length_nil]; omega)) [wrap64, q, FS, FT, FE]
  refine (c_after q1 q2 q3 (R.on H) (Rt.on H)).go ?_
  intro o h2 HO
  obtain ⟨o1, o2, rfl, HO2⟩ := HO.unSta
  have hC1 := HO2.rep.one
  have hC2 := HO2.sw1.rep.one
  have H := HO.app H
  simp -implicitDefEqProofs (disch := first | omega | (simp only [List.length_set, List.length_replicate, List.length_append, List.length_map, List.length_take, List.length_cons, List.length_nil]; omega)) [wrap64, hC1, hC2, setC]
  exact RetK.keep (hk _ _ ⟨_, by rw [decide_eq_true q], by rw [aplR, if_pos q]; exact H.only⟩)
theorem c_spec_ApplyStep {h : Heap} {v w : Value} {s : Sy} {st : Sta} {t : Stp} (R : Rep h v s) (Rt : Rep h w st) (ok : t.ok) : CallE Try.prog fn_spec_ApplyStep [v, w, t.v] h (R2 (decide (t ∈ ens s st)) (aplR s st t) h) := by
  have FS := R.aSy
  have FT := Rt.aSta
  have FE := (Stp.rep (h := h) ok).aStp
  refine CallE.gen fun k hk => EN_spec_ApplyStep rfl ?_
  simp -implicitDefEqProofs (disch := first | omega | (simp only [List.length_set, List.length_replicate, List.length_append, List.length_map, List.length_take, List.length_cons, List.length_nil]; omega)) [wrap64, FS, FT, FE]
  refine (c_spec_EnabledSteps R Rt).go ?_
  intro l h1 H
  have hll := H.rep.lt
  simp -implicitDefEqProofs (disch := first | omega | (simp only [List.length_set, List.length_replicate, List.length_append, List.length_map, List.length_take, List.length_cons, List.length_nil]; omega)) [wrap64]
  refine wp_count (ens s st).length (fun i e h' => e = [none, none, none, some v, some w, some t.v, some (.agg #[.slice none 0 0, .slice none 0 0]), none, some l, some (.int .i64 i)] ∧ HS h [ow l (ens s st)] h' ∧ ∀ (j : Nat) (hj : j < (ens s st).length), j < i → (ens s st)[j] ≠ t) ⟨by simp, H, fun j _ hj => absurd hj (Nat.not_lt_zero j)⟩ ?_
  clear H
  rintro J i _ h2 hJ hi ⟨rfl, H, hn⟩
  simp -implicitDefEqProofs (disch := first | omega | (simp only [List.length_set, List.length_replicate, List.length_append, List.length_map, List.length_take, List.length_cons, List.length_nil]; omega)) [wrap64, H.rep.len]
  refine IteW.mk (fun hlt => ?_) (fun hge => ?_)
  · have hlx : i < (ens s st).length := by omega
    by_cases he : (ens s st)[i] = t
    · have q : t ∈ ens s st := he ▸ List.getElem_mem hlx
      obtain ⟨q1, q2, q3⟩ := ens_mem q
      simp -implicitDefEqProofs (disch := first | omega | (simp only [List.length_set, List.length_replicate, List.length_append, List.length_map, List.length_take, List.length_cons, List.length_nil]; omega)) [wrap64, H.rep.xStp, he, Stp.v, FS, FT]
      refine (c_l3Apply q1 q2 q3 (R.on H) (Rt.on H)).go ?_
      intro o h3 HO
      obtain ⟨o1, o2, rfl, HO2⟩ := HO.unSta
      have hC1 := HO2.rep.one
      have hC2 := HO2.sw1.rep.one
      have H := HO.app H
      simp -implicitDefEqProofs (disch := first | omega | (simp only [List.length_set, List.length_replicate, List.length_append, List.length_map, List.length_take, List.length_cons, List.length_nil]; omega)) [wrap64, hC1, hC2, setC]
      exact RetK.keep (hk _ _ ⟨_, by rw [decide_eq_true q], by rw [aplR, if_pos q]; exact H.only⟩)
    · have he2 : ¬ ((ens s st)[i].proc = t.proc ∧ (ens s st)[i].edge = t.edge ∧ (ens s st)[i].partner = t.partner ∧ (ens s st)[i].pedge = t.pedge) := fun hh => he (by rw [Stp.ext_iff']; exact hh)
      simp -implicitDefEqProofs (disch := first | omega | (simp only [List.length_set, List.length_replicate, List.length_append, List.length_map, List.length_take, List.length_cons, List.length_nil]; omega)) [wrap64, H.rep.xStp, Stp.v]
      refine IteW.mk (fun hh => absurd hh ?_) (fun _ => ?_)
      · simpa using he2
      · simp -implicitDefEqProofs (disch := first | omega | (simp only [List.length_set, List.length_replicate, List.length_append, List.length_map, List.length_take, List.length_cons, List.length_nil]; omega)) [wrap64]
        refine hJ _ _ hlx ⟨by simp [Stp.v], H, fun j hj hji => ?_⟩
        by_cases hji2 : j = i
        · subst hji2; exact he
        · exact hn j hj (by omega)
  · have q : ¬ t ∈ ens s st := by
      intro hm
      obtain ⟨j, hj, h1⟩ := List.mem_iff_getElem.1 hm
      exact hn j hj (by omega) h1
    simp -implicitDefEqProofs (disch := first | omega | (simp only [List.length_set, List.length_replicate, List.length_append, List.length_map, List.length_take, List.length_cons, List.length_nil]; omega)) [wrap64, setC]
    exact RetK.keep (hk _ _ ⟨_, by rw [decide_eq_false q], by rw [aplR, if_neg q]; exact zero_St (Γ := []) H.base⟩)

end Go.Proofs.Ythgimpheeemooaa

/-
  Graphs of systems in plain Lean: how they are built.
-/
namespace Go.Proofs.Ythgimpheeemooaa
open Go
set_option linter.all false
set_option linter.unusedVariables false
set_option linter.unusedSimpArgs false
set_option linter.defProp false
set_option maxRecDepth 1000000

/-- where a state lies -/
def fx (xs : List Sta) (st : Sta) : Int := match xs.findIdx? (fun y => decide (y = st)) with | some i => (i : Int) | none => -1
theorem fx_mem {xs : List Sta} {st : Sta} (h : st ∈ xs) : ∃ (i : Nat) (hi : i < xs.length), fx xs st = i ∧ xs[i] = st := by
  obtain ⟨i, hi⟩ : ∃ i, xs.findIdx? (fun y => decide (y = st)) = some i := by
    rcases hf : xs.findIdx? (fun y => decide (y = st)) with _ | i
    · rw [List.findIdx?_eq_none_iff] at hf
      have := hf st h
      simp at this
    · exact ⟨i, rfl⟩
  have h2 := hi
  rw [List.findIdx?_eq_some_iff_getElem] at h2
  obtain ⟨h3, h4, _⟩ := h2
  exact ⟨i, h3, by rw [fx, hi], by simpa using h4⟩
def adS (xs : List Sta) (st : Sta) : List Sta := if st ∈ xs then xs else xs ++ [st]
def atS (xs : List Sta) (st : Sta) : Int := if st ∈ xs then fx xs st else xs.length
def adI (l : List Int) (n : Int) : List Int := if n ∈ l then l else l ++ [n]
def g1 (p : List Sta × List Int) (st : Sta) : List Sta × List Int := (adS p.1 st, adI p.2 (atS p.1 st))
theorem mem_adI {l : List Int} {n x : Int} : x ∈ adI l n ↔ x ∈ l ∨ x = n := by
  unfold adI
  split
  · constructor
    · exact .inl
    · rintro (h | rfl) <;> assumption
  · simp
theorem adI_len {l : List Int} {n : Int} : (adI l n).length ≤ l.length + 1 := by
  unfold adI; split <;> simp
theorem adI_ne {l : List Int} {n : Int} : adI l n ≠ [] := by
  unfold adI
  split
  · rename_i h; rintro rfl; simp at h
  · simp
theorem adS_len {xs : List Sta} {st : Sta} : (adS xs st).length ≤ xs.length + 1 := by
  unfold adS; split <;> simp
theorem adS_ge {xs : List Sta} {st : Sta} : xs.length ≤ (adS xs st).length := by
  unfold adS; split <;> simp
theorem atS_rng {xs : List Sta} {st : Sta} : 0 ≤ atS xs st ∧ atS xs st < (adS xs st).length := by
  unfold atS adS
  split
  · rename_i h
    obtain ⟨i, hi, e, _⟩ := fx_mem h
    omega
  · simp; omega

/-- one state's steps -/
def gF (s : Sy) (x : Sta) (n : Nat) (xs : List Sta) : List Sta × List Int := ((enb s x).take n).foldl (fun p t => g1 p (x.aft s t)) (xs, [])
structure GI (s : Sy) (xs : List Sta) (n : Nat) (p : List Sta × List Int) : Prop where
  pre : ∃ t, p.1 = xs ++ t
  ok : ∀ st ∈ p.1, st.Ok s
  rng : ∀ x ∈ p.2, 0 ≤ x ∧ x < p.1.length
  new : ∀ j : Nat, xs.length ≤ j → j < p.1.length → (j : Int) ∈ p.2
  l1 : p.1.length ≤ xs.length + n
  l2 : p.2.length ≤ n
  ne : 1 ≤ n → p.2 ≠ []
theorem GI.step {s : Sy} {xs : List Sta} {n : Nat} {p : List Sta × List Int} {st : Sta} (h : GI s xs n p) (hst : st.Ok s) : GI s xs (n + 1) (g1 p st) := by
  have hr := atS_rng (xs := p.1) (st := st)
  have hl := adS_len (xs := p.1) (st := st)
  have hg := adS_ge (xs := p.1) (st := st)
  have hl2 := adI_len (l := p.2) (n := atS p.1 st)
  refine ⟨?_, ?_, ?_, ?_, ?_, ?_, fun _ => adI_ne⟩
  · obtain ⟨t, e⟩ := h.pre
    unfold g1 adS
    simp only
    split
    · exact ⟨t, e⟩
    · exact ⟨t ++ [st], by rw [e, List.append_assoc]⟩
  · intro y hy
    simp only [g1, adS] at hy
    split at hy
    · exact h.ok y hy
    · simp only [List.mem_append, List.mem_singleton] at hy
      rcases hy with hy | rfl
      · exact h.ok y hy
      · exact hst
  · intro x hx
    simp only [g1, mem_adI] at hx
    rcases hx with hx | rfl
    · have := h.rng x hx
      simp only [g1]; omega
    · exact hr
  · intro j h1 h2
    simp only [g1] at h2 ⊢
    rw [mem_adI]
    by_cases hj : j < p.1.length
    · exact .inl (h.new j h1 hj)
    · right
      unfold adS at h2
      unfold atS
      split at h2
      · omega
      · rename_i q
        rw [if_neg q]
        simp at h2; omega
  · have := h.l1; simp only [g1]; omega
  · have := h.l2; simp only [g1]; omega
/-- the graph after some states are done -/
def nxS (i : Nat) (l : List Int) : List Int := if l = [] then [(i : Int)] else l
def rnd (s : Sy) (i : Nat) (g : Gr) : Gr :=
  if h : i < g.states.length then ⟨(gF s g.states[i] (enb s g.states[i]).length g.states).1, g.next ++ [nxS i (gF s g.states[i] (enb s g.states[i]).length g.states).2]⟩ else g
def ini (s : Sy) : Sta := ⟨List.replicate s.procs.length 0, s.init⟩
def gN (s : Sy) : Nat → Gr
  | 0 => ⟨[ini s], []⟩
  | n + 1 => rnd s n (gN s n)
theorem ini_ok {s : Sy} (hs : s.Ok) : (ini s).Ok s :=
  ⟨by simp [ini], hs.vs, fun i h1 h2 => by
    have := (hs.at h2).n1
    simp only [ini, List.getElem_replicate]; omega⟩
structure GInv (s : Sy) (n : Nat) (g : Gr) : Prop where
  ok : ∀ st ∈ g.states, st.Ok s
  pos : 1 ≤ g.states.length
  nl : g.next.length = min n g.states.length
  ent : ∀ l ∈ g.next, l ≠ [] ∧ ∀ x ∈ l, 0 ≤ x ∧ x < g.states.length
  ll : ∀ l ∈ g.next, l.length ≤ 325
  rch : ∀ j : Nat, 1 ≤ j → j < g.states.length → ∃ (i : Nat) (hi : i < g.next.length), i < j ∧ (j : Int) ∈ g.next[i]
def Gr.zero : Gr := ⟨[], []⟩
/-- small graphs -/
def bgOk (s : Sy) : Prop := s.Ok ∧ (gN s 60).states.length ≤ 60
noncomputable instance {s : Sy} : Decidable (bgOk s) := Classical.propDecidable _
noncomputable def bgR (s : Sy) : Gr := if bgOk s then gN s 60 else Gr.zero
structure Gr.Fin (s : Sy) (g : Gr) : Prop where
  ok : ∀ st ∈ g.states, st.Ok s
  pos : 1 ≤ g.states.length
  n60 : g.states.length ≤ 60
  nl : g.next.length = g.states.length
  ent : ∀ l ∈ g.next, l ≠ [] ∧ ∀ x ∈ l, 0 ≤ x ∧ x < g.states.length
  ll : ∀ l ∈ g.next, l.length ≤ 325
  rch : ∀ j : Nat, 1 ≤ j → j < g.states.length → ∃ (i : Nat) (hi : i < g.next.length), i < j ∧ (j : Int) ∈ g.next[i]
end Go.Proofs.Ythgimpheeemooaa

/-
  The initial state, by the reference.
-/
namespace Go.Proofs.Ythgimpheeemooaa
open Go
set_option linter.all false
set_option linter.unusedVariables false
set_option linter.unusedSimpArgs false
set_option linter.defProp false
set_option maxRecDepth 1000000

theorem c_spec_InitialState {h : Heap} {v : Value} {s : Sy} (R : Rep h v s) : CallE Try.prog fn_spec_InitialState [v] h (R2 (decide s.Ok) (if s.Ok then ini s else Sta.zero) h) := by
  have FS := R.aSy
  have R0 := R
  obtain ⟨v1, v2, rfl, R1, R2'⟩ := Rep_Sy.1 R
  refine CallE.gen fun k hk => EN_spec_InitialState rfl ?_
  simp -implicitDefEqProofs (disch := first | omega | (simp only [List.length_set, List.length_replicate, List.length_append, List.length_map, List.length_take, List.length_cons, List.length_nil]; omega)) [wrap64, FS]
  refine (c_spec_SystemValid R0).go ?_
  rintro _ h ⟨rfl, rfl⟩
  by_cases hs : s.Ok
  case neg =>
    simp -implicitDefEqProofs (disch := first | omega | (simp only [List.length_set, List.length_replicate, List.length_append, List.length_map, List.length_take, List.length_cons, List.length_nil]; omega)) [wrap64, hs, setC]
    exact RetK.keep (hk _ _ ⟨_, by rw [decide_eq_false hs], by rw [if_neg hs]; exact zero_St (Γ := []) (Heap.le.refl _)⟩)
  have hp3 := hs.p3
  have hvl := hs.vs.len
  simp -implicitDefEqProofs (disch := first | omega | (simp only [List.length_set, List.length_replicate, List.length_append, List.length_map, List.length_take, List.length_cons, List.length_nil]; omega)) [wrap64, hs, R2'.len]
  refine ⟨?_, ?_⟩
  · simp -implicitDefEqProofs (disch := first | omega | (simp only [List.length_set, List.length_replicate, List.length_append, List.length_map, List.length_take, List.length_cons, List.length_nil]; omega)) [wrap64]
    refine HS.init.mks (α := Int) (z := (0 : Int)) rfl rfl (own_zero (by decide) (by decide)) (Nat.le_refl _) (by omega) (by omega) fun o h1 H => ?_
    simp -implicitDefEqProofs (disch := first | omega | (simp only [List.length_set, List.length_replicate, List.length_append, List.length_map, List.length_take, List.length_cons, List.length_nil]; omega)) [wrap64]
    refine HS.appPL (α := Int) (l2 := s.init) H rfl rfl (R1.on H) rfl rfl (by omega) fun o2 h1 H => ?_
    simp -implicitDefEqProofs (disch := first | omega | (simp only [List.length_set, List.length_replicate, List.length_append, List.length_map, List.length_take, List.length_cons, List.length_nil]; omega)) [wrap64, setC, H.rep.cells, H.rep.one, H.sw1.rep.cells, H.sw1.rep.one]
    exact RetK.keep (hk _ _ ⟨_, by rw [decide_eq_true hs], by rw [if_pos hs]; exact HS.mkSta (a := ini s) H.sw1⟩)
  · simp -implicitDefEqProofs (disch := first | omega | (simp only [List.length_set, List.length_replicate, List.length_append, List.length_map, List.length_take, List.length_cons, List.length_nil]; omega)) [wrap64]
    refine HS.appPL (α := Int) (l2 := s.init) HS.init rfl rfl R1 rfl rfl (by omega) fun o2 h1 H => ?_
    simp -implicitDefEqProofs (disch := first | omega | (simp only [List.length_set, List.length_replicate, List.length_append, List.length_map, List.length_take, List.length_cons, List.length_nil]; omega)) [wrap64]
    refine H.mks (α := Int) (z := (0 : Int)) rfl rfl (own_zero (by decide) (by decide)) (Nat.le_refl _) (by omega) (by omega) fun o h1 H => ?_
    simp -implicitDefEqProofs (disch := first | omega | (simp only [List.length_set, List.length_replicate, List.length_append, List.length_map, List.length_take, List.length_cons, List.length_nil]; omega)) [wrap64, setC, H.rep.cells, H.rep.one, H.sw1.rep.cells, H.sw1.rep.one]
    exact RetK.keep (hk _ _ ⟨_, by rw [decide_eq_true hs], by rw [if_pos hs]; exact HS.mkSta (a := ini s) H⟩)
end Go.Proofs.Ythgimpheeemooaa

/-
  Arguments of laws: states that are drawn.
-/
namespace Go.Proofs.Ythgimpheeemooaa
open Go
set_option linter.all false
set_option linter.unusedVariables false
set_option linter.unusedSimpArgs false
set_option linter.defProp false
set_option maxRecDepth 1000000

structure Sta.Sm (st : Sta) : Prop where
  ll : st.locs.length ≤ 4
  vl : st.vals.length ≤ 4

theorem c_l3State {g h : Heap} {Γ : List HP} {b : Nat} {sl v : Value} {l : List (BitVec 8)} {p : Int} {s : Sy} (R : Rep g sl l) (Rs : Rep g v s) (H : HS g (rb b sl p :: Γ) h) (hp : 0 ≤ p) (hp2 : p + 200 ≤ 1000000000000) :
    CallE Try.prog fn_spec_l3State [.pointer (some ⟨b, 0, none⟩), v] h (fun u h' => ∃ (y : Sta) (p' : Int), HS g (ow u y :: rb b sl p' :: Γ) h' ∧ y.Sm ∧ p ≤ p' ∧ p' ≤ p + 50) := by
  have FS := Rs.aSy
  have Rs0 := Rs
  obtain ⟨v1, v2, rfl, R1, R2'⟩ := Rep_Sy.1 Rs
  refine CallE.gen fun k hk => EN_spec_l3State rfl ?_
  simp -implicitDefEqProofs (disch := first | omega | (simp only [List.length_set, List.length_replicate, List.length_append, List.length_map, List.length_take, List.length_cons, List.length_nil]; omega)) [wrap64, FS]
  refine (c_spec_InitialState (Rs0.on H)).go ?_
  rintro _ h1 ⟨u, rfl, G⟩
  obtain ⟨o1, o2, rfl, G'⟩ := G.unSta
  have H := G'.app H
  have hO1 := H.rep.one
  have hC1 := H.rep.cells
  have hO2 := H.sw1.rep.one
  have hC2 := H.sw1.rep.cells
  by_cases hs : s.Ok
  case neg =>
    simp -implicitDefEqProofs (disch := first | omega | (simp only [List.length_set, List.length_replicate, List.length_append, List.length_map, List.length_take, List.length_cons, List.length_nil]; omega)) [wrap64, hs, setC, hO1, hC1, hO2, hC2]
    refine H.bls [(0 : Int)] rfl rfl (okL (by decide)) (by decide) fun q1 hq H => ?_
    simp -implicitDefEqProofs (disch := first | omega | (simp only [List.length_set, List.length_replicate, List.length_append, List.length_map, List.length_take, List.length_cons, List.length_nil]; omega)) [wrap64]
    refine H.bls [(0 : Int), 0, 0] rfl rfl (okL (by decide)) (by decide) fun q2 hq H => ?_
    simp -implicitDefEqProofs (disch := first | omega | (simp only [List.length_set, List.length_replicate, List.length_append, List.length_map, List.length_take, List.length_cons, List.length_nil]; omega)) [wrap64, setC, H.rep.one, H.rep.cells, H.sw1.rep.one, H.sw1.rep.cells]
    exact RetK.keep (hk _ _ ⟨⟨[0], [0, 0, 0]⟩, p, HS.mkSta (a := ⟨[0], [0, 0, 0]⟩) (H.sw1.under fun _ H => H.under fun _ H => H.drop.drop), ⟨by simp, by simp⟩, by omega, by omega⟩)
  rw [if_pos hs] at H
  have hp3 := hs.p3
  have hst := ini_ok hs
  have hil := hst.len
  have hvl := hst.vs.len
  generalize ini s = st at *
  simp -implicitDefEqProofs (disch := first | omega | (simp only [List.length_set, List.length_replicate, List.length_append, List.length_map, List.length_take, List.length_cons, List.length_nil]; omega)) [wrap64, hs, setC, hO1, hC1, hO2, hC2]
  refine (c_pick (n := 4) R H.sw2 (by omega) (by omega) ⟨by decide, by decide⟩).go ?_
  rintro _ h3 ⟨r1, rfl, q1, z1, y1, H⟩
  by_cases c0 : r1 = 0
  · simp -implicitDefEqProofs (disch := first | omega | (simp only [List.length_set, List.length_replicate, List.length_append, List.length_map, List.length_take, List.length_cons, List.length_nil]; omega)) [wrap64, c0]
    refine wp_count s.procs.length (fun i e h' => ∃ (y : List Int) (p' : Int), e = [some (.pointer (some ⟨b, 0, none⟩)), none, some (.agg #[v1, v2]), some (.agg #[.slice none 0 0, .slice none 0 0]), some (.agg #[o1, o2]), none, some (.int .i64 i), none, none] ∧ HS g (ow o1 y :: rb b sl p' :: ow o2 st.vals :: Γ) h' ∧ y.length = s.procs.length ∧ p' = p + 1 + i) ⟨st.locs, _, by simp, H.sw1, hil, by simp⟩ ?_
    clear H
    rintro J i _ h4 hJ hi ⟨y, p1, rfl, H, hyl, hp3'⟩
    simp -implicitDefEqProofs (disch := first | omega | (simp only [List.length_set, List.length_replicate, List.length_append, List.length_map, List.length_take, List.length_cons, List.length_nil]; omega)) [wrap64, H.rep.len]
    refine IteW.mk (fun hlt => ?_) (fun hge => ?_)
    · have hi : i < s.procs.length := by omega
      obtain ⟨u, hu, Ru⟩ := R2'.ld hi
      have hu := hload_le H.base hu
      change hload _ (some (elp 2 v2 i)) (some 2) = some u at hu
      obtain ⟨we, rfl, kl, R3⟩ := Rep_Pr.1 Ru
      have hP := hld_parts (cs := [.int .i64 s.procs[i].locs, we]) hu
      have hX := R2'.X (n := 2) rfl
      simp -implicitDefEqProofs (disch := first | omega | (simp only [List.length_set, List.length_replicate, List.length_append, List.length_map, List.length_take, List.length_cons, List.length_nil]; omega)) [wrap64, hX, hP.1, hP.2.2.1]
      refine (c_pick R H.sw1 (by omega) (by omega) kl).go ?_
      rintro _ h5 ⟨r2, rfl, q2, z2, y2, H⟩
      simp -implicitDefEqProofs (disch := first | omega | (simp only [List.length_set, List.length_replicate, List.length_append, List.length_map, List.length_take, List.length_cons, List.length_nil]; omega)) [wrap64, H.sw1.rep.I]
      refine H.sw1.storeF r2 (i := i) (by omega) rfl rfl q2 rfl fun h6 H => ?_
      simp -implicitDefEqProofs (disch := first | omega | (simp only [List.length_set, List.length_replicate, List.length_append, List.length_map, List.length_take, List.length_cons, List.length_nil]; omega)) [wrap64]
      exact hJ _ _ hi ⟨_, _, by simp, H, by simp [hyl], by push_cast; omega⟩
    simp -implicitDefEqProofs (disch := first | omega | (simp only [List.length_set, List.length_replicate, List.length_append, List.length_map, List.length_take, List.length_cons, List.length_nil]; omega)) [wrap64]
    refine (c_pick (n := 4) R H.sw1 (by omega) (by omega) ⟨by decide, by decide⟩).go ?_
    rintro _ h5 ⟨a1, rfl, k1, _, _, H⟩
    simp -implicitDefEqProofs (disch := first | omega | (simp only [List.length_set, List.length_replicate, List.length_append, List.length_map, List.length_take, List.length_cons, List.length_nil]; omega)) [wrap64]
    refine (c_pick (n := 4) R H (by omega) (by omega) ⟨by decide, by decide⟩).go ?_
    rintro _ h5 ⟨a2, rfl, k2, _, _, H⟩
    simp -implicitDefEqProofs (disch := first | omega | (simp only [List.length_set, List.length_replicate, List.length_append, List.length_map, List.length_take, List.length_cons, List.length_nil]; omega)) [wrap64]
    refine (c_pick (n := 4) R H (by omega) (by omega) ⟨by decide, by decide⟩).go ?_
    rintro _ h5 ⟨a3, rfl, k3, _, _, H⟩
    simp -implicitDefEqProofs (disch := first | omega | (simp only [List.length_set, List.length_replicate, List.length_append, List.length_map, List.length_take, List.length_cons, List.length_nil]; omega)) [wrap64]
    refine H.bls [a1, a2, a3] rfl rfl (by intro x hx; simp at hx; rcases hx with rfl | rfl | rfl <;> first | exact k1 | exact k2 | exact k3) (by decide) fun q2 hq H => ?_
    have hO3 := H.rep.one
    have hC3 := H.rep.cells
    simp -implicitDefEqProofs (disch := first | omega | (simp only [List.length_set, List.length_replicate, List.length_append, List.length_map, List.length_take, List.length_cons, List.length_nil]; omega)) [wrap64, setC, hO1, hC1, hO3, hC3]
    exact RetK.keep (hk _ _ ⟨⟨y, [a1, a2, a3]⟩, _, HS.mkSta (a := ⟨y, [a1, a2, a3]⟩) ((H.sw2.under fun _ H => H.under fun _ H => H.under fun _ H => H.drop)), ⟨by dsimp only; omega, by simp⟩, by omega, by omega⟩)
  · simp -implicitDefEqProofs (disch := first | omega | (simp only [List.length_set, List.length_replicate, List.length_append, List.length_map, List.length_take, List.length_cons, List.length_nil]; omega)) [wrap64, c0]
    refine H.bls [(2 : Int), 4, 1, 0, 6] rfl rfl (okL (by decide)) (by decide) fun q hq H => ?_
    simp -implicitDefEqProofs (disch := first | omega | (simp only [List.length_set, List.length_replicate, List.length_append, List.length_map, List.length_take, List.length_cons, List.length_nil]; omega)) [wrap64]
    refine (c_num R H (by omega) (by omega) (by simp)).go ?_
    rintro _ h4 ⟨r2, rfl, q2, hr2, H⟩
    obtain ⟨n, rfl, hn⟩ : ∃ n : Nat, r2 = n ∧ n ≤ 6 := by
      simp at hr2
      rcases hr2 with rfl | rfl | rfl | rfl | rfl <;> first | exact ⟨2, rfl, by decide⟩ | exact ⟨4, rfl, by decide⟩ | exact ⟨1, rfl, by decide⟩ | exact ⟨0, rfl, by decide⟩ | exact ⟨6, rfl, by decide⟩
    simp -implicitDefEqProofs (disch := first | omega | (simp only [List.length_set, List.length_replicate, List.length_append, List.length_map, List.length_take, List.length_cons, List.length_nil]; omega)) [wrap64]
    refine wp_while (σ := Nat) (fun i e h' => ∃ (y : Sta) (w1 w2 : Value) (p' : Int), e = [some (.pointer (some ⟨b, 0, none⟩)), none, some (.agg #[v1, v2]), some (.agg #[.slice none 0 0, .slice none 0 0]), some (.agg #[w1, w2]), none, none, some (.int .i64 i), none] ∧ HS g (ow w1 y.locs :: ow w2 y.vals :: rb b sl p' :: Γ) h' ∧ y.Ok s ∧ i ≤ 6 ∧ p ≤ p' ∧ p' + i ≤ p + 2 + 6) (fun i => i) n ⟨st, o1, o2, _, by simp, H.bk2, hst, hn, by omega, by omega⟩ ?_
    clear H hst hil hvl
    rintro J i _ h4 hJ ⟨y, w1, w2, p1, rfl, H, hst, hi, hp4, hp5⟩
    have hil := hst.len
    have hvl := hst.vs.len
    have hO1 := H.rep.one
    have hC1 := H.rep.cells
    have hO2 := H.sw1.rep.one
    have hC2 := H.sw1.rep.cells
    have hfin : ∀ {h'}, HS g (ow w1 y.locs :: ow w2 y.vals :: rb b sl p1 :: Γ) h' → k (.agg #[w1, w2]) h' := fun H => hk _ _ ⟨y, p1, HS.mkSta H, ⟨by omega, by omega⟩, by omega, by omega⟩
    by_cases c1 : 0 < i
    · have c1' : (0 : Int) < i := by omega
      have RY : Rep h4 (.agg #[w1, w2]) y := Rep_Sta.2 ⟨w1, w2, rfl, H.rep, H.sw1.rep⟩
      simp -implicitDefEqProofs (disch := first | omega | (simp only [List.length_set, List.length_replicate, List.length_append, List.length_map, List.length_take, List.length_cons, List.length_nil]; omega)) [wrap64, c1, c1', FS, hO1, hO2]
      refine (c_l3Steps hs hst (Rs0.on H) RY).go ?_
      intro el h5 G
      have H := G.app H
      obtain ⟨ln, hln⟩ : ∃ ln : Int, ln = (enb s y).length := ⟨_, rfl⟩
      have hlen := H.rep.len
      have hel := enb_len' (st := y) hs
      rw [← hln] at hlen
      by_cases c2 : ln = 0
      · simp -implicitDefEqProofs (disch := first | omega | (simp only [List.length_set, List.length_replicate, List.length_append, List.length_map, List.length_take, List.length_cons, List.length_nil]; omega)) [wrap64, hlen, c2, setC, hO1, hC1, hO2, hC2]
        exact RetK.keep (hfin H.drop)
      · simp -implicitDefEqProofs (disch := first | omega | (simp only [List.length_set, List.length_replicate, List.length_append, List.length_map, List.length_take, List.length_cons, List.length_nil]; omega)) [wrap64, hlen, c2, FS, hO1, hO2]
        refine (c_pick R H.sw3 (by omega) (by omega) ⟨by omega, by omega⟩).go ?_
        rintro _ h6 ⟨r5, rfl, q5, z5, y5, H⟩
        obtain ⟨m, rfl⟩ : ∃ m : Nat, r5 = m := ⟨r5.toNat, (Int.toNat_of_nonneg z5).symm⟩
        have hm : m < (enb s y).length := by have := y5 (by omega); omega
        have hin := enb_in (List.getElem_mem hm)
        have RY : Rep h6 (.agg #[w1, w2]) y := Rep_Sta.2 ⟨w1, w2, rfl, H.sw2.rep, H.sw3.rep⟩
        simp -implicitDefEqProofs (disch := first | omega | (simp only [List.length_set, List.length_replicate, List.length_append, List.length_map, List.length_take, List.length_cons, List.length_nil]; omega)) [wrap64, H.sw1.rep.xStp]
        refine (c_l3Apply hs hst hin (Rs0.on H) RY).go ?_
        intro o h7 G
        obtain ⟨x1, x2, rfl, G'⟩ := G.unSta
        have H := G'.app H
        simp -implicitDefEqProofs (disch := first | omega | (simp only [List.length_set, List.length_replicate, List.length_append, List.length_map, List.length_take, List.length_cons, List.length_nil]; omega)) [wrap64, setC, H.rep.one, H.rep.cells, H.sw1.rep.one, H.sw1.rep.cells]
        exact hJ (i - 1) _ _ (by omega) ⟨_, x1, x2, _, by simp; omega, H.under fun _ H => H.under fun _ H => H.under fun _ H => H.drop.drop.drop, Sta.aft_ok hs hst hin, by omega, by omega, by omega⟩
    · have c1' : ¬ ((0 : Int) < i) := by omega
      simp -implicitDefEqProofs (disch := first | omega | (simp only [List.length_set, List.length_replicate, List.length_append, List.length_map, List.length_take, List.length_cons, List.length_nil]; omega)) [wrap64, c1, c1', setC, hO1, hC1, hO2, hC2]
      exact RetK.keep (hfin H)
end Go.Proofs.Ythgimpheeemooaa
