/-
  Marks in expressions, edges, processes, systems.
-/
import Derived.Test.YthgimpheeemooaaGreatI3
import Derived.Test.YthgimpheeemooaaGreatPE
namespace Go.Proofs.YthgimpheeemooaaGreat
open Go
set_option linter.all false
set_option linter.unusedVariables false
set_option linter.unusedSimpArgs false
set_option linter.defProp false
set_option maxRecDepth 1000000

theorem c_markExprS' : ∀ (x0 : Exq) {g h : Heap} {Γ : List HP} {v : Value} {k0 : Int}, HS g (ow v x0.kids :: Γ) h → 0 ≤ k0 → k0 + Mk.cnt x0.kids < 4611686018427387904 →
    CallE Tryz.prog fn_laws_markExprS [v, .int .i64 k0] h (fun u h' => HS g (ow v (Mk.wr k0 x0.kids) :: Γ) h' ∧ u = .int .i64 (k0 + Mk.cnt x0.kids)) := by
  refine Exq.ind fun x0 ih g h Γ v k0 H hk0 hk1 => ?_
  generalize hx0 : x0.kids = x at *
  refine CallE.gen fun k hk => EN_laws_markExprS rfl ?_
  simp -implicitDefEqProofs (disch := first | omega | (simp only [List.length_set, List.length_replicate, List.length_append, List.length_map, List.length_take, List.length_cons, List.length_nil]; omega)) [wrap64]
  refine wp_count x.length (fun i e h' => e = [some v, some (.int .i64 (k0 + cntL (x.take i))), none, some (.int .i64 i)] ∧ ∃ y, HS g (ow v y :: Γ) h' ∧ Mkd k0 x y i) ⟨by simp [cntL], x, H, Mkd.zero⟩ ?_
  rintro J i _ h2 hJ hi ⟨rfl, y, H, M⟩
  have hl := M.len
  have hL := H.rep.lt
  have hcx : Mk.cnt x = cntL x := rfl
  simp -implicitDefEqProofs (disch := first | omega | (simp only [List.length_set, List.length_replicate, List.length_append, List.length_map, List.length_take, List.length_cons, List.length_nil]; omega)) [wrap64, H.rep.len]
  refine IteW.mk (fun hlt => ?_) (fun hge => ?_)
  · have hlx : i < x.length := by omega
    have hly : i < y.length := by omega
    have hb := cntL_le x (i + 1)
    have hc := cntL_take x i hlx
    have hce := cnt_Exq x[i]
    have hwe := wr_Exq (k0 + cntL (x.take i)) x[i]
    have M' := M.step hlx
    obtain ⟨q, hq⟩ : ∃ q, q = k0 + cntL (x.take i) := ⟨_, rfl⟩
    obtain ⟨u, hu, H⟩ := HS.take H hly
    rw [M.get hlx] at H
    obtain ⟨w, rfl, k1, k2, H⟩ := H.unExq
    have hia := HS.holeia H.sw1 (n := 3) (kd := .i64) rfl hly
    have hP := hld_parts (HS.holeP H.sw1 (n := 3) rfl rfl)
    rw [← hq] at hwe M' ⊢
    simp -implicitDefEqProofs (disch := first | omega | (simp only [List.length_set, List.length_replicate, List.length_append, List.length_map, List.length_take, List.length_cons, List.length_nil]; omega)) [wrap64, hia, hP.1]
    refine HS.holest H.sw1 rfl (n := 3) rfl rfl rfl rfl rfl (by decide) fun h3 H => ?_
    replace H : HS g (hole v y i (.agg #[.int .i64 q, .int .i64 x[i].val, w]) :: ow w x[i].kids :: Γ) h3 := H
    have hP := hld_parts (HS.holeP H (n := 3) rfl rfl)
    simp -implicitDefEqProofs (disch := first | omega | (simp only [List.length_set, List.length_replicate, List.length_append, List.length_map, List.length_take, List.length_cons, List.length_nil]; omega)) [wrap64, hia, hP.1]
    refine HS.holest H rfl (n := 3) rfl rfl rfl rfl rfl (by decide) fun h4 H => ?_
    replace H : HS g (hole v y i (.agg #[.int .i64 q, .int .i64 (q + 1), w]) :: ow w x[i].kids :: Γ) h4 := H
    have hP := hld_parts (HS.holeP H (n := 3) rfl rfl)
    simp -implicitDefEqProofs (disch := first | omega | (simp only [List.length_set, List.length_replicate, List.length_append, List.length_map, List.length_take, List.length_cons, List.length_nil]; omega)) [wrap64, hia, hP.1, hP.2.2.1]
    refine (ih x[i] (List.getElem_mem hlx) (k0 := q + 1 + 1) H.sw1 (by omega) (by omega)).go ?_
    rintro _ h5 ⟨H, rfl⟩
    have H := HS.put (H.mkExq' (kd := q) (vl := q + 1) ⟨by omega, by omega⟩ ⟨by omega, by omega⟩)
    simp -implicitDefEqProofs (disch := first | omega | (simp only [List.length_set, List.length_replicate, List.length_append, List.length_map, List.length_take, List.length_cons, List.length_nil]; omega)) [wrap64]
    refine hJ _ _ hlx ⟨?_, _, H, ?_⟩
    · simp only [List.cons.injEq, Option.some.injEq, Value.int.injEq, true_and, and_true]
      refine ⟨?_, by simp⟩
      rw [hc]; push_cast; omega
    · rw [hwe, show q + 2 = q + 1 + 1 by omega] at M'
      exact M'
  · simp -implicitDefEqProofs (disch := first | omega | (simp only [List.length_set, List.length_replicate, List.length_append, List.length_map, List.length_take, List.length_cons, List.length_nil]; omega)) [wrap64]
    have h2 : x.take i = x := List.take_of_length_le (by omega)
    refine RetK.keep (hk _ _ ⟨?_, by rw [h2]; rfl⟩)
    have h3 : y = Mk.wr k0 x := M.all (by omega)
    rw [← h3]; exact H
theorem c_markExprS {g h : Heap} {Γ : List HP} {v : Value} {x : List Exq} {k0 : Int} (H : HS g (ow v x :: Γ) h) (hk0 : 0 ≤ k0) (hk1 : k0 + Mk.cnt x < 4611686018427387904) :
    CallE Tryz.prog fn_laws_markExprS [v, .int .i64 k0] h (fun u h' => HS g (ow v (Mk.wr k0 x) :: Γ) h' ∧ u = .int .i64 (k0 + Mk.cnt x)) := c_markExprS' (Exq.mk 0 0 x) H hk0 hk1

theorem c_markEdgeS {g h : Heap} {Γ : List HP} {v : Value} {x : List Ed} {k0 : Int} (H : HS g (ow v x :: Γ) h) (hk0 : 0 ≤ k0) (hk1 : k0 + Mk.cnt x < 4611686018427387904) :
    CallE Tryz.prog fn_laws_markEdgeS [v, .int .i64 k0] h (fun u h' => HS g (ow v (Mk.wr k0 x) :: Γ) h' ∧ u = .int .i64 (k0 + Mk.cnt x)) := by
  refine CallE.gen fun k hk => EN_laws_markEdgeS rfl ?_
  simp -implicitDefEqProofs (disch := first | omega | (simp only [List.length_set, List.length_replicate, List.length_append, List.length_map, List.length_take, List.length_cons, List.length_nil]; omega)) [wrap64]
  refine wp_count x.length (fun i e h' => e = [some v, some (.int .i64 (k0 + cntL (x.take i))), none, some (.int .i64 i)] ∧ ∃ y, HS g (ow v y :: Γ) h' ∧ Mkd k0 x y i) ⟨by simp [cntL], x, H, Mkd.zero⟩ ?_
  rintro J i _ h2 hJ hi ⟨rfl, y, H, M⟩
  have hl := M.len
  have hL := H.rep.lt
  have hcx : Mk.cnt x = cntL x := rfl
  simp -implicitDefEqProofs (disch := first | omega | (simp only [List.length_set, List.length_replicate, List.length_append, List.length_map, List.length_take, List.length_cons, List.length_nil]; omega)) [wrap64, H.rep.len]
  refine IteW.mk (fun hlt => ?_) (fun hge => ?_)
  · have hlx : i < x.length := by omega
    have hly : i < y.length := by omega
    have hb := cntL_le x (i + 1)
    have hc := cntL_take x i hlx
    have hce := cnt_Ed x[i]
    have M' := M.step hlx
    obtain ⟨q, hq⟩ : ∃ q, q = k0 + cntL (x.take i) := ⟨_, rfl⟩
    obtain ⟨u, hu, H⟩ := HS.take H hly
    rw [M.get hlx] at H
    obtain ⟨n1, hn1⟩ : ∃ n1, n1 = Mk.cnt x[i].guard.kids := ⟨_, rfl⟩
    obtain ⟨n2, hn2⟩ : ∃ n2, n2 = Mk.cnt x[i].value.kids := ⟨_, rfl⟩
    have hwe : Mk.wr q x[i] = ⟨q, q + 1, .mk (q + 1 + 1) (q + 1 + 1 + 1) (Mk.wr (q + 1 + 1 + 1 + 1) x[i].guard.kids), q + 1 + 1 + 1 + 1 + n1,
        .mk (q + 1 + 1 + 1 + 1 + n1 + 1) (q + 1 + 1 + 1 + 1 + n1 + 1 + 1) (Mk.wr (q + 1 + 1 + 1 + 1 + n1 + 1 + 1 + 1) x[i].value.kids), q + 1 + 1 + 1 + 1 + n1 + 1 + 1 + 1 + n2⟩ := by
      show (⟨_, _, Mk.wr _ x[i].guard, _, Mk.wr _ x[i].value, _⟩ : Ed) = _
      rw [wr_Exq, wr_Exq, Ed.ext_iff']
      have e1 := cnt_Exq x[i].guard
      have e2 := cnt_Exq x[i].value
      have e3 : Mk.cnt x[i].frm = 1 := rfl
      have e4 : Mk.cnt x[i].to = 1 := rfl
      have e5 : Mk.cnt x[i].var = 1 := rfl
      have e6 : ∀ (a b : Int) (l : List Exq), a = b → Mk.wr a l = Mk.wr b l := fun a b l h => by rw [h]
      simp only [Exq.ext_iff', Exq.kind_mk, Exq.val_mk, Exq.kids_mk]
      refine ⟨rfl, ?_, ⟨?_, ?_, e6 _ _ _ ?_⟩, ?_, ⟨?_, ?_, e6 _ _ _ ?_⟩, ?_⟩ <;> (try show _ + _ = _) <;> (try show Mk.wr _ (_ : Int) = _) <;> (try simp only [Mk.wr]) <;> push_cast [e1, e2, e3, e4, e5] <;> omega
    rw [← hn1, ← hn2] at hce
    obtain ⟨w1, w2, rfl, ok, H⟩ := H.unEd
    replace H := H.sw2
    have hia := HS.holeia H (n := 10) (kd := .i64) rfl hly
    have hP := hld_parts (HS.holeP H (n := 10) rfl rfl)
    rw [← hq] at M' ⊢
    simp -implicitDefEqProofs (disch := first | omega | (simp only [List.length_set, List.length_replicate, List.length_append, List.length_map, List.length_take, List.length_cons, List.length_nil]; omega)) [wrap64, hia, hP.1, hP.2.1]
    refine HS.holest H rfl (n := 10) rfl rfl rfl rfl rfl (by decide) fun h3 H => ?_
    have hP := hld_parts (HS.holeP H (n := 10) rfl rfl)
    simp -implicitDefEqProofs (disch := first | omega | (simp only [List.length_set, List.length_replicate, List.length_append, List.length_map, List.length_take, List.length_cons, List.length_nil]; omega)) [wrap64, hia, hP.1, hP.2.1]
    refine HS.holest H rfl (n := 10) rfl rfl rfl rfl rfl (by decide) fun h4 H => ?_
    have hP := hld_parts (HS.holeP H (n := 10) rfl rfl)
    simp -implicitDefEqProofs (disch := first | omega | (simp only [List.length_set, List.length_replicate, List.length_append, List.length_map, List.length_take, List.length_cons, List.length_nil]; omega)) [wrap64, hia, hP.1, hP.2.1]
    refine HS.holest H rfl (n := 10) rfl rfl rfl rfl rfl (by decide) fun h5 H => ?_
    have hP := hld_parts (HS.holeP H (n := 10) rfl rfl)
    simp -implicitDefEqProofs (disch := first | omega | (simp only [List.length_set, List.length_replicate, List.length_append, List.length_map, List.length_take, List.length_cons, List.length_nil]; omega)) [wrap64, hia, hP.1, hP.2.1]
    refine HS.holest H rfl (n := 10) rfl rfl rfl rfl rfl (by decide) fun h6 H => ?_
    replace H : HS g (hole v y i (.agg #[.int .i64 q, .int .i64 (q + 1), .int .i64 (q + 1 + 1), .int .i64 (q + 1 + 1 + 1), w1, .int .i64 x[i].var, .int .i64 x[i].value.kind, .int .i64 x[i].value.val, w2, .int .i64 x[i].sync]) :: ow w1 x[i].guard.kids :: ow w2 x[i].value.kids :: Γ) h6 := H
    have hP := hld_parts (HS.holeP H (n := 10) rfl rfl)
    simp -implicitDefEqProofs (disch := first | omega | (simp only [List.length_set, List.length_replicate, List.length_append, List.length_map, List.length_take, List.length_cons, List.length_nil]; omega)) [wrap64, hia, hP.1, hP.2.1, hP.2.2.1]
    refine (c_markExprS (k0 := q + 1 + 1 + 1 + 1) H.sw1 (by omega) (by omega)).go ?_
    rintro _ h7 ⟨H, rfl⟩
    rw [← hn1]
    replace H := H.sw1
    have hP := hld_parts (HS.holeP H (n := 10) rfl rfl)
    simp -implicitDefEqProofs (disch := first | omega | (simp only [List.length_set, List.length_replicate, List.length_append, List.length_map, List.length_take, List.length_cons, List.length_nil]; omega)) [wrap64, hia, hP.1, hP.2.1]
    refine HS.holest H rfl (n := 10) rfl rfl rfl rfl rfl (by decide) fun h8 H => ?_
    have hP := hld_parts (HS.holeP H (n := 10) rfl rfl)
    simp -implicitDefEqProofs (disch := first | omega | (simp only [List.length_set, List.length_replicate, List.length_append, List.length_map, List.length_take, List.length_cons, List.length_nil]; omega)) [wrap64, hia, hP.1, hP.2.1]
    refine HS.holest H rfl (n := 10) rfl rfl rfl rfl rfl (by decide) fun h9 H => ?_
    have hP := hld_parts (HS.holeP H (n := 10) rfl rfl)
    simp -implicitDefEqProofs (disch := first | omega | (simp only [List.length_set, List.length_replicate, List.length_append, List.length_map, List.length_take, List.length_cons, List.length_nil]; omega)) [wrap64, hia, hP.1, hP.2.1]
    refine HS.holest H rfl (n := 10) rfl rfl rfl rfl rfl (by decide) fun h10 H => ?_
    replace H : HS g (hole v y i (.agg #[.int .i64 q, .int .i64 (q + 1), .int .i64 (q + 1 + 1), .int .i64 (q + 1 + 1 + 1), w1, .int .i64 (q + 1 + 1 + 1 + 1 + n1), .int .i64 (q + 1 + 1 + 1 + 1 + n1 + 1), .int .i64 (q + 1 + 1 + 1 + 1 + n1 + 1 + 1), w2, .int .i64 x[i].sync]) :: ow w1 (Mk.wr (q + 1 + 1 + 1 + 1) x[i].guard.kids) :: ow w2 x[i].value.kids :: Γ) h10 := H
    have hP := hld_parts (HS.holeP H (n := 10) rfl rfl)
    simp -implicitDefEqProofs (disch := first | omega | (simp only [List.length_set, List.length_replicate, List.length_append, List.length_map, List.length_take, List.length_cons, List.length_nil]; omega)) [wrap64, hia, hP.1, hP.2.1, hP.2.2.1]
    refine (c_markExprS (k0 := q + 1 + 1 + 1 + 1 + n1 + 1 + 1 + 1) H.sw2 (by omega) (by omega)).go ?_
    rintro _ h11 ⟨H, rfl⟩
    rw [← hn2]
    replace H := H.sw1
    have hP := hld_parts (HS.holeP H (n := 10) rfl rfl)
    simp -implicitDefEqProofs (disch := first | omega | (simp only [List.length_set, List.length_replicate, List.length_append, List.length_map, List.length_take, List.length_cons, List.length_nil]; omega)) [wrap64, hia, hP.1, hP.2.1]
    refine HS.holest H rfl (n := 10) rfl rfl rfl rfl rfl (by decide) fun h12 H => ?_
    have ok' : Ed.ok ⟨q, q + 1, .mk (q + 1 + 1) (q + 1 + 1 + 1) (Mk.wr (q + 1 + 1 + 1 + 1) x[i].guard.kids), q + 1 + 1 + 1 + 1 + n1,
        .mk (q + 1 + 1 + 1 + 1 + n1 + 1) (q + 1 + 1 + 1 + 1 + n1 + 1 + 1) (Mk.wr (q + 1 + 1 + 1 + 1 + n1 + 1 + 1 + 1) x[i].value.kids), q + 1 + 1 + 1 + 1 + n1 + 1 + 1 + 1 + n2⟩ := by
      refine ⟨?_, ?_, ?_, ?_, ?_, ?_, ?_, ?_⟩ <;> (simp only [I64, Exq.kind_mk, Exq.val_mk]) <;> constructor <;> omega
    have H := HS.put (HS.mkEd (e := ⟨q, q + 1, .mk (q + 1 + 1) (q + 1 + 1 + 1) (Mk.wr (q + 1 + 1 + 1 + 1) x[i].guard.kids), q + 1 + 1 + 1 + 1 + n1,
        .mk (q + 1 + 1 + 1 + 1 + n1 + 1) (q + 1 + 1 + 1 + 1 + n1 + 1 + 1) (Mk.wr (q + 1 + 1 + 1 + 1 + n1 + 1 + 1 + 1) x[i].value.kids), q + 1 + 1 + 1 + 1 + n1 + 1 + 1 + 1 + n2⟩) H.sw2.sw2.sw1 ok')
    simp -implicitDefEqProofs (disch := first | omega | (simp only [List.length_set, List.length_replicate, List.length_append, List.length_map, List.length_take, List.length_cons, List.length_nil]; omega)) [wrap64]
    refine hJ _ _ hlx ⟨?_, _, H, ?_⟩
    · simp only [List.cons.injEq, Option.some.injEq, Value.int.injEq, true_and, and_true]
      refine ⟨?_, by simp⟩
      rw [hc]; push_cast; omega
    · rw [← hwe]; exact M'
  · simp -implicitDefEqProofs (disch := first | omega | (simp only [List.length_set, List.length_replicate, List.length_append, List.length_map, List.length_take, List.length_cons, List.length_nil]; omega)) [wrap64]
    have h2 : x.take i = x := List.take_of_length_le (by omega)
    refine RetK.keep (hk _ _ ⟨?_, by rw [h2]; rfl⟩)
    have h3 : y = Mk.wr k0 x := M.all (by omega)
    rw [← h3]; exact H

theorem c_markProcessS {g h : Heap} {Γ : List HP} {v : Value} {x : List Pr} {k0 : Int} (H : HS g (ow v x :: Γ) h) (hk0 : 0 ≤ k0) (hk1 : k0 + Mk.cnt x < 4611686018427387904) :
    CallE Tryz.prog fn_laws_markProcessS [v, .int .i64 k0] h (fun u h' => HS g (ow v (Mk.wr k0 x) :: Γ) h' ∧ u = .int .i64 (k0 + Mk.cnt x)) := by
  refine CallE.gen fun k hk => EN_laws_markProcessS rfl ?_
  simp -implicitDefEqProofs (disch := first | omega | (simp only [List.length_set, List.length_replicate, List.length_append, List.length_map, List.length_take, List.length_cons, List.length_nil]; omega)) [wrap64]
  refine wp_count x.length (fun i e h' => e = [some v, some (.int .i64 (k0 + cntL (x.take i))), none, some (.int .i64 i)] ∧ ∃ y, HS g (ow v y :: Γ) h' ∧ Mkd k0 x y i) ⟨by simp [cntL], x, H, Mkd.zero⟩ ?_
  rintro J i _ h2 hJ hi ⟨rfl, y, H, M⟩
  have hl := M.len
  have hL := H.rep.lt
  have hcx : Mk.cnt x = cntL x := rfl
  simp -implicitDefEqProofs (disch := first | omega | (simp only [List.length_set, List.length_replicate, List.length_append, List.length_map, List.length_take, List.length_cons, List.length_nil]; omega)) [wrap64, H.rep.len]
  refine IteW.mk (fun hlt => ?_) (fun hge => ?_)
  · have hlx : i < x.length := by omega
    have hly : i < y.length := by omega
    have hb := cntL_le x (i + 1)
    have hc := cntL_take x i hlx
    have hce := cnt_Pr x[i]
    have M' := M.step hlx
    obtain ⟨q, hq⟩ : ∃ q, q = k0 + cntL (x.take i) := ⟨_, rfl⟩
    obtain ⟨u, hu, H⟩ := HS.take H hly
    rw [M.get hlx] at H
    obtain ⟨w, rfl, k1, H⟩ := H.unPr
    replace H := H.sw1
    have hia := HS.holeia H (n := 2) (kd := .i64) rfl hly
    have hP := hld_parts (HS.holeP H (n := 2) rfl rfl)
    rw [← hq] at M' ⊢
    simp -implicitDefEqProofs (disch := first | omega | (simp only [List.length_set, List.length_replicate, List.length_append, List.length_map, List.length_take, List.length_cons, List.length_nil]; omega)) [wrap64, hia, hP.1]
    refine HS.holest H rfl (n := 2) rfl rfl rfl rfl rfl (by decide) fun h3 H => ?_
    replace H : HS g (hole v y i (.agg #[.int .i64 q, w]) :: ow w x[i].edges :: Γ) h3 := H
    have hP := hld_parts (HS.holeP H (n := 2) rfl rfl)
    simp -implicitDefEqProofs (disch := first | omega | (simp only [List.length_set, List.length_replicate, List.length_append, List.length_map, List.length_take, List.length_cons, List.length_nil]; omega)) [wrap64, hia, hP.1, hP.2.2.1]
    refine (c_markEdgeS (k0 := q + 1) H.sw1 (by omega) (by omega)).go ?_
    rintro _ h5 ⟨H, rfl⟩
    have H := HS.put (HS.mkPr (p := ⟨q, Mk.wr (q + 1) x[i].edges⟩) H ⟨by dsimp only; omega, by dsimp only; omega⟩)
    simp -implicitDefEqProofs (disch := first | omega | (simp only [List.length_set, List.length_replicate, List.length_append, List.length_map, List.length_take, List.length_cons, List.length_nil]; omega)) [wrap64]
    refine hJ _ _ hlx ⟨?_, _, H, ?_⟩
    · simp only [List.cons.injEq, Option.some.injEq, Value.int.injEq, true_and, and_true]
      refine ⟨?_, by simp⟩
      rw [hc]; push_cast; omega
    · exact M'
  · simp -implicitDefEqProofs (disch := first | omega | (simp only [List.length_set, List.length_replicate, List.length_append, List.length_map, List.length_take, List.length_cons, List.length_nil]; omega)) [wrap64]
    have h2 : x.take i = x := List.take_of_length_le (by omega)
    refine RetK.keep (hk _ _ ⟨?_, by rw [h2]; rfl⟩)
    have h3 : y = Mk.wr k0 x := M.all (by omega)
    rw [← h3]; exact H

theorem c_markSystem {g h : Heap} {Γ : List HP} {v : Value} {x : Sy} {k0 : Int} (H : HS g (ow v x :: Γ) h) (hk0 : 0 ≤ k0) (hk1 : k0 + Mk.cnt x < 4611686018427387904) :
    CallE Tryz.prog fn_laws_markSystem [v, .int .i64 k0] h (fun u h' => HS g (ow v (Mk.wr k0 x) :: Γ) h' ∧ u = .int .i64 (k0 + Mk.cnt x)) := by
  have hc := cnt_Sy x
  obtain ⟨v1, v2, rfl, H0⟩ := H.unSy
  refine CallE.gen fun k hk => EN_laws_markSystem rfl ?_
  simp -implicitDefEqProofs (disch := first | omega | (simp only [List.length_set, List.length_replicate, List.length_append, List.length_map, List.length_take, List.length_cons, List.length_nil]; omega)) [wrap64]
  refine (c_markIntS (x := x.init) (k0 := k0) H0 (by omega) (by omega)).go ?_
  rintro _ h1 ⟨H, rfl⟩
  simp -implicitDefEqProofs (disch := first | omega | (simp only [List.length_set, List.length_replicate, List.length_append, List.length_map, List.length_take, List.length_cons, List.length_nil]; omega)) [wrap64]
  refine (c_markProcessS (x := x.procs) (k0 := k0 + (Mk.cnt x.init : Nat)) H.sw1 (by omega) (by omega)).go ?_
  rintro _ h2 ⟨H, rfl⟩
  simp -implicitDefEqProofs (disch := first | omega | (simp only [List.length_set, List.length_replicate, List.length_append, List.length_map, List.length_take, List.length_cons, List.length_nil]; omega)) [wrap64]
  refine RetK.keep (hk _ _ ⟨HS.mkSy (s := Mk.wr k0 x) H.sw1, ?_⟩)
  rw [hc]; congr 1; push_cast; omega
end Go.Proofs.YthgimpheeemooaaGreat
