/-
  Whether the marks in expressions, edges, processes, systems are still held.
-/
import Derived.Test.YthgimpheeemooaaI24
import Derived.Test.YthgimpheeemooaaPM
import Derived.Test.YthgimpheeemooaaPF0
namespace Go.Proofs.Ythgimpheeemooaa
open Go
set_option linter.all false
set_option linter.unusedVariables false
set_option linter.unusedSimpArgs false
set_option linter.defProp false
set_option maxRecDepth 1000000

theorem c_heldExprS' : ∀ (x0 : Exq) {h : Heap} {v : Value} {k0 : Int}, Rep h v x0.kids → 0 ≤ k0 → k0 + Mk.cnt x0.kids < 4611686018427387904 →
    CallE Try.prog fn_laws_heldExprS [v, .int .i64 k0] h (fun u h' => h' = h ∧ u = .int .i64 (if Mk.wr k0 x0.kids = x0.kids then k0 + Mk.cnt x0.kids else -1)) := by
  refine Exq.ind fun x0 ih h v k0 Rv hk0 hk1 => ?_
  generalize hx0 : x0.kids = x at *
  refine CallE.gen fun k hk => EN_laws_heldExprS rfl ?_
  have hL := Rv.lt
  have hcx : Mk.cnt x = cntL x := rfl
  simp -implicitDefEqProofs (disch := first | omega | (simp only [List.length_set, List.length_replicate, List.length_append, List.length_map, List.length_take, List.length_cons, List.length_nil]; omega)) [wrap64]
  refine wp_count x.length (fun i e h' => h' = h ∧ e = [some v, some (.int .i64 (k0 + cntL (x.take i))), none, some (.int .i64 i)] ∧ (mkL k0 x).take i = x.take i) ⟨rfl, by simp [cntL], rfl⟩ ?_
  rintro J i _ h1 hJ hi ⟨rfl, rfl, M⟩
  simp -implicitDefEqProofs (disch := first | omega | (simp only [List.length_set, List.length_replicate, List.length_append, List.length_map, List.length_take, List.length_cons, List.length_nil]; omega)) [wrap64, Rv.len]
  refine IteW.mk (fun hlt => ?_) (fun hge => ?_)
  · have hlx : i < x.length := by omega
    have hb := cntL_le x (i + 1)
    have hc := cntL_take x i hlx
    have hg := mkL_get k0 x i hlx
    have hce := cnt_Exq x[i]
    obtain ⟨q, hq⟩ : ∃ q, q = k0 + cntL (x.take i) := ⟨_, rfl⟩
    rw [← hq] at hg ⊢
    have hw := wr_Exq q x[i]
    have hno : Mk.wr q x[i] ≠ x[i] → k (.int .i64 (-1)) h1 := by
      intro hm
      refine hk _ _ ⟨rfl, ?_⟩
      rw [if_neg]
      intro he
      have he2 : mkL k0 x = x := he
      simp only [he2] at hg
      exact hm hg.symm
    obtain ⟨u, hu, Ru⟩ := Rv.ld hlx
    change hload _ (some (elp 3 v i)) (some 3) = some u at hu
    obtain ⟨w, rfl, k1, k2, R1⟩ := Rep_Exq.1 Ru
    have hP := hld_parts hu
    by_cases m0 : x[i].kind = q
    case neg =>
      simp -implicitDefEqProofs (disch := first | omega | (simp only [List.length_set, List.length_replicate, List.length_append, List.length_map, List.length_take, List.length_cons, List.length_nil]; omega)) [wrap64, Rv.X (n := 3) rfl, hP.1, hP.2.2.1, m0]
      exact RetK.keep (hno fun he => m0 (by rw [hw] at he; rw [← he]; rfl))
    by_cases m1 : x[i].val = q + 1
    case neg =>
      simp -implicitDefEqProofs (disch := first | omega | (simp only [List.length_set, List.length_replicate, List.length_append, List.length_map, List.length_take, List.length_cons, List.length_nil]; omega)) [wrap64, Rv.X (n := 3) rfl, hP.1, hP.2.2.1, m0, m1]
      exact RetK.keep (hno fun he => m1 (by rw [hw] at he; rw [← he]; rfl))
    simp -implicitDefEqProofs (disch := first | omega | (simp only [List.length_set, List.length_replicate, List.length_append, List.length_map, List.length_take, List.length_cons, List.length_nil]; omega)) [wrap64, Rv.X (n := 3) rfl, hP.1, hP.2.2.1, m0, m1]
    refine (ih x[i] (List.getElem_mem hlx) (k0 := q + 1 + 1) R1 (by omega) (by omega)).go ?_
    rintro _ h1 ⟨rfl, rfl⟩
    by_cases m2 : Mk.wr (q + 1 + 1) x[i].kids = x[i].kids
    case neg =>
      rw [if_neg m2]
      simp -implicitDefEqProofs (disch := first | omega | (simp only [List.length_set, List.length_replicate, List.length_append, List.length_map, List.length_take, List.length_cons, List.length_nil]; omega)) [wrap64]
      exact RetK.keep (hno fun he => m2 (by rw [hw, show q + 2 = q + 1 + 1 by omega] at he; exact congrArg Exq.kids he))
    rw [if_pos m2]
    simp -implicitDefEqProofs (disch := first | omega | (simp only [List.length_set, List.length_replicate, List.length_append, List.length_map, List.length_take, List.length_cons, List.length_nil]; omega)) [wrap64]
    rw [IteW_neg (by omega)]
    simp -implicitDefEqProofs (disch := first | omega | (simp only [List.length_set, List.length_replicate, List.length_append, List.length_map, List.length_take, List.length_cons, List.length_nil]; omega)) [wrap64]
    refine hJ _ _ hlx ⟨rfl, ?_, take_step M (by simpa using hlx) hlx ?_⟩
    · simp only [List.cons.injEq, Option.some.injEq, Value.int.injEq, true_and, and_true]
      refine ⟨?_, by simp⟩
      rw [hc, hce, hq]; push_cast; omega
    · rw [hg, hw, Exq.ext_iff', show q + 2 = q + 1 + 1 by omega]
      exact ⟨m0.symm, m1.symm, m2⟩
  · simp -implicitDefEqProofs (disch := first | omega | (simp only [List.length_set, List.length_replicate, List.length_append, List.length_map, List.length_take, List.length_cons, List.length_nil]; omega)) [wrap64]
    have h2 : x.take i = x := List.take_of_length_le (by omega)
    rw [List.take_of_length_le (by simp; omega), h2] at M
    exact RetK.keep (hk _ _ ⟨rfl, by rw [h2]; exact congrArg _ (if_pos M).symm⟩)
theorem c_heldExprS {h : Heap} {v : Value} {x : List Exq} {k0 : Int} (Rv : Rep h v x) (hk0 : 0 ≤ k0) (hk1 : k0 + Mk.cnt x < 4611686018427387904) :
    CallE Try.prog fn_laws_heldExprS [v, .int .i64 k0] h (fun u h' => h' = h ∧ u = .int .i64 (if Mk.wr k0 x = x then k0 + Mk.cnt x else -1)) := c_heldExprS' (Exq.mk 0 0 x) Rv hk0 hk1

theorem wr_Ed (q : Int) (e : Ed) : Mk.wr q e = ⟨q, q + 1, .mk (q + 1 + 1) (q + 1 + 1 + 1) (Mk.wr (q + 1 + 1 + 1 + 1) e.guard.kids), q + 1 + 1 + 1 + 1 + Mk.cnt e.guard.kids,
        .mk (q + 1 + 1 + 1 + 1 + Mk.cnt e.guard.kids + 1) (q + 1 + 1 + 1 + 1 + Mk.cnt e.guard.kids + 1 + 1) (Mk.wr (q + 1 + 1 + 1 + 1 + Mk.cnt e.guard.kids + 1 + 1 + 1) e.value.kids), q + 1 + 1 + 1 + 1 + Mk.cnt e.guard.kids + 1 + 1 + 1 + Mk.cnt e.value.kids⟩ := by
  show (⟨_, _, Mk.wr _ e.guard, _, Mk.wr _ e.value, _⟩ : Ed) = _
  rw [wr_Exq, wr_Exq, Ed.ext_iff']
  have e1 := cnt_Exq e.guard
  have e2 := cnt_Exq e.value
  have e3 : Mk.cnt e.frm = 1 := rfl
  have e4 : Mk.cnt e.to = 1 := rfl
  have e5 : Mk.cnt e.var = 1 := rfl
  have e6 : ∀ (a b : Int) (l : List Exq), a = b → Mk.wr a l = Mk.wr b l := fun a b l h => by rw [h]
  simp only [Exq.ext_iff', Exq.kind_mk, Exq.val_mk, Exq.kids_mk]
  refine ⟨rfl, ?_, ⟨?_, ?_, e6 _ _ _ ?_⟩, ?_, ⟨?_, ?_, e6 _ _ _ ?_⟩, ?_⟩ <;> (try show _ + _ = _) <;> (try show Mk.wr _ (_ : Int) = _) <;> (try simp only [Mk.wr]) <;> push_cast [e1, e2, e3, e4, e5] <;> omega

set_option maxHeartbeats 1000000 in
theorem c_heldEdgeS {h : Heap} {v : Value} {x : List Ed} {k0 : Int} (Rv : Rep h v x) (hk0 : 0 ≤ k0) (hk1 : k0 + Mk.cnt x < 4611686018427387904) :
    CallE Try.prog fn_laws_heldEdgeS [v, .int .i64 k0] h (fun u h' => h' = h ∧ u = .int .i64 (if Mk.wr k0 x = x then k0 + Mk.cnt x else -1)) := by
  refine CallE.gen fun k hk => EN_laws_heldEdgeS rfl ?_
  have hL := Rv.lt
  have hcx : Mk.cnt x = cntL x := rfl
  simp -implicitDefEqProofs (disch := first | omega | (simp only [List.length_set, List.length_replicate, List.length_append, List.length_map, List.length_take, List.length_cons, List.length_nil]; omega)) [wrap64]
  refine wp_count x.length (fun i e h' => h' = h ∧ e = [some v, some (.int .i64 (k0 + cntL (x.take i))), none, some (.int .i64 i)] ∧ (mkL k0 x).take i = x.take i) ⟨rfl, by simp [cntL], rfl⟩ ?_
  rintro J i _ h1 hJ hi ⟨rfl, rfl, M⟩
  simp -implicitDefEqProofs (disch := first | omega | (simp only [List.length_set, List.length_replicate, List.length_append, List.length_map, List.length_take, List.length_cons, List.length_nil]; omega)) [wrap64, Rv.len]
  refine IteW.mk (fun hlt => ?_) (fun hge => ?_)
  · have hlx : i < x.length := by omega
    have hb := cntL_le x (i + 1)
    have hc := cntL_take x i hlx
    have hg := mkL_get k0 x i hlx
    have hce := cnt_Ed x[i]
    obtain ⟨q, hq⟩ : ∃ q, q = k0 + cntL (x.take i) := ⟨_, rfl⟩
    rw [← hq] at hg ⊢
    have hw := wr_Ed q x[i]
    have hno : Mk.wr q x[i] ≠ x[i] → k (.int .i64 (-1)) h1 := by
      intro hm
      refine hk _ _ ⟨rfl, ?_⟩
      rw [if_neg]
      intro he
      have he2 : mkL k0 x = x := he
      simp only [he2] at hg
      exact hm hg.symm
    obtain ⟨n1, hn1⟩ : ∃ n1, n1 = Mk.cnt x[i].guard.kids := ⟨_, rfl⟩
    obtain ⟨n2, hn2⟩ : ∃ n2, n2 = Mk.cnt x[i].value.kids := ⟨_, rfl⟩
    rw [← hn1, ← hn2] at hw hce
    obtain ⟨u, hu, Ru⟩ := Rv.ld hlx
    change hload _ (some (elp 10 v i)) (some 10) = some u at hu
    obtain ⟨w1, w2, rfl, ok, G1, G2⟩ := Rep_Ed.1 Ru
    have hP := hld_parts hu
    by_cases m0 : x[i].frm = q
    case neg =>
      simp -implicitDefEqProofs (disch := first | omega | (simp only [List.length_set, List.length_replicate, List.length_append, List.length_map, List.length_take, List.length_cons, List.length_nil]; omega)) [wrap64, Rv.X (n := 10) rfl, hP.1, hP.2.1, hP.2.2.1, Ed.cs, m0]
      exact RetK.keep (hno fun he => m0 (by rw [hw] at he; rw [← he]))
    by_cases m1 : x[i].to = q + 1
    case neg =>
      simp -implicitDefEqProofs (disch := first | omega | (simp only [List.length_set, List.length_replicate, List.length_append, List.length_map, List.length_take, List.length_cons, List.length_nil]; omega)) [wrap64, Rv.X (n := 10) rfl, hP.1, hP.2.1, hP.2.2.1, Ed.cs, m0, m1]
      exact RetK.keep (hno fun he => m1 (by rw [hw] at he; rw [← he]))
    by_cases m2 : x[i].guard.kind = q + 1 + 1
    case neg =>
      simp -implicitDefEqProofs (disch := first | omega | (simp only [List.length_set, List.length_replicate, List.length_append, List.length_map, List.length_take, List.length_cons, List.length_nil]; omega)) [wrap64, Rv.X (n := 10) rfl, hP.1, hP.2.1, hP.2.2.1, Ed.cs, m0, m1, m2]
      exact RetK.keep (hno fun he => m2 (by rw [hw] at he; rw [← he]; rfl))
    by_cases m3 : x[i].guard.val = q + 1 + 1 + 1
    case neg =>
      simp -implicitDefEqProofs (disch := first | omega | (simp only [List.length_set, List.length_replicate, List.length_append, List.length_map, List.length_take, List.length_cons, List.length_nil]; omega)) [wrap64, Rv.X (n := 10) rfl, hP.1, hP.2.1, hP.2.2.1, Ed.cs, m0, m1, m2, m3]
      exact RetK.keep (hno fun he => m3 (by rw [hw] at he; rw [← he]; rfl))
    simp -implicitDefEqProofs (disch := first | omega | (simp only [List.length_set, List.length_replicate, List.length_append, List.length_map, List.length_take, List.length_cons, List.length_nil]; omega)) [wrap64, Rv.X (n := 10) rfl, hP.1, hP.2.1, hP.2.2.1, Ed.cs, m0, m1, m2, m3]
    refine (c_heldExprS (k0 := q + 1 + 1 + 1 + 1) G1 (by omega) (by omega)).go ?_
    rintro _ h1 ⟨rfl, rfl⟩
    by_cases m4 : Mk.wr (q + 1 + 1 + 1 + 1) x[i].guard.kids = x[i].guard.kids
    case neg =>
      rw [if_neg m4]
      simp -implicitDefEqProofs (disch := first | omega | (simp only [List.length_set, List.length_replicate, List.length_append, List.length_map, List.length_take, List.length_cons, List.length_nil]; omega)) [wrap64]
      exact RetK.keep (hno fun he => m4 (by rw [hw] at he; exact congrArg (fun e : Ed => e.guard.kids) he))
    rw [if_pos m4, ← hn1]
    simp -implicitDefEqProofs (disch := first | omega | (simp only [List.length_set, List.length_replicate, List.length_append, List.length_map, List.length_take, List.length_cons, List.length_nil]; omega)) [wrap64]
    rw [IteW_neg (by omega)]
    by_cases m5 : x[i].var = q + 1 + 1 + 1 + 1 + n1
    case neg =>
      simp -implicitDefEqProofs (disch := first | omega | (simp only [List.length_set, List.length_replicate, List.length_append, List.length_map, List.length_take, List.length_cons, List.length_nil]; omega)) [wrap64, Rv.X (n := 10) rfl, hP.1, hP.2.1, hP.2.2.1, Ed.cs, m5]
      exact RetK.keep (hno fun he => m5 (by rw [hw] at he; rw [← he]))
    by_cases m6 : x[i].value.kind = q + 1 + 1 + 1 + 1 + n1 + 1
    case neg =>
      simp -implicitDefEqProofs (disch := first | omega | (simp only [List.length_set, List.length_replicate, List.length_append, List.length_map, List.length_take, List.length_cons, List.length_nil]; omega)) [wrap64, Rv.X (n := 10) rfl, hP.1, hP.2.1, hP.2.2.1, Ed.cs, m5, m6]
      exact RetK.keep (hno fun he => m6 (by rw [hw] at he; rw [← he]; rfl))
    by_cases m7 : x[i].value.val = q + 1 + 1 + 1 + 1 + n1 + 1 + 1
    case neg =>
      simp -implicitDefEqProofs (disch := first | omega | (simp only [List.length_set, List.length_replicate, List.length_append, List.length_map, List.length_take, List.length_cons, List.length_nil]; omega)) [wrap64, Rv.X (n := 10) rfl, hP.1, hP.2.1, hP.2.2.1, Ed.cs, m5, m6, m7]
      exact RetK.keep (hno fun he => m7 (by rw [hw] at he; rw [← he]; rfl))
    simp -implicitDefEqProofs (disch := first | omega | (simp only [List.length_set, List.length_replicate, List.length_append, List.length_map, List.length_take, List.length_cons, List.length_nil]; omega)) [wrap64, Rv.X (n := 10) rfl, hP.1, hP.2.1, hP.2.2.1, Ed.cs, m5, m6, m7]
    refine (c_heldExprS (k0 := q + 1 + 1 + 1 + 1 + n1 + 1 + 1 + 1) G2 (by omega) (by omega)).go ?_
    rintro _ h1 ⟨rfl, rfl⟩
    by_cases m8 : Mk.wr (q + 1 + 1 + 1 + 1 + n1 + 1 + 1 + 1) x[i].value.kids = x[i].value.kids
    case neg =>
      rw [if_neg m8]
      simp -implicitDefEqProofs (disch := first | omega | (simp only [List.length_set, List.length_replicate, List.length_append, List.length_map, List.length_take, List.length_cons, List.length_nil]; omega)) [wrap64]
      exact RetK.keep (hno fun he => m8 (by rw [hw] at he; exact congrArg (fun e : Ed => e.value.kids) he))
    rw [if_pos m8, ← hn2]
    simp -implicitDefEqProofs (disch := first | omega | (simp only [List.length_set, List.length_replicate, List.length_append, List.length_map, List.length_take, List.length_cons, List.length_nil]; omega)) [wrap64]
    rw [IteW_neg (by omega)]
    by_cases m9 : x[i].sync = q + 1 + 1 + 1 + 1 + n1 + 1 + 1 + 1 + n2
    case neg =>
      simp -implicitDefEqProofs (disch := first | omega | (simp only [List.length_set, List.length_replicate, List.length_append, List.length_map, List.length_take, List.length_cons, List.length_nil]; omega)) [wrap64, Rv.X (n := 10) rfl, hP.1, hP.2.1, hP.2.2.1, Ed.cs, m9]
      exact RetK.keep (hno fun he => m9 (by rw [hw] at he; rw [← he]))
    simp -implicitDefEqProofs (disch := first | omega | (simp only [List.length_set, List.length_replicate, List.length_append, List.length_map, List.length_take, List.length_cons, List.length_nil]; omega)) [wrap64, Rv.X (n := 10) rfl, hP.1, hP.2.1, hP.2.2.1, Ed.cs, m9]
    refine hJ _ _ hlx ⟨rfl, ?_, take_step M (by simpa using hlx) hlx ?_⟩
    · simp only [List.cons.injEq, Option.some.injEq, Value.int.injEq, true_and, and_true]
      refine ⟨?_, by simp⟩
      rw [hc, hce, hq]; push_cast; omega
    · rw [hg, hw, Ed.ext_iff', Exq.ext_iff', Exq.ext_iff']
      exact ⟨m0.symm, m1.symm, ⟨m2.symm, m3.symm, m4⟩, m5.symm, ⟨m6.symm, m7.symm, m8⟩, m9.symm⟩
  · simp -implicitDefEqProofs (disch := first | omega | (simp only [List.length_set, List.length_replicate, List.length_append, List.length_map, List.length_take, List.length_cons, List.length_nil]; omega)) [wrap64]
    have h2 : x.take i = x := List.take_of_length_le (by omega)
    rw [List.take_of_length_le (by simp; omega), h2] at M
    exact RetK.keep (hk _ _ ⟨rfl, by rw [h2]; exact congrArg _ (if_pos M).symm⟩)

theorem c_heldProcessS {h : Heap} {v : Value} {x : List Pr} {k0 : Int} (Rv : Rep h v x) (hk0 : 0 ≤ k0) (hk1 : k0 + Mk.cnt x < 4611686018427387904) :
    CallE Try.prog fn_laws_heldProcessS [v, .int .i64 k0] h (fun u h' => h' = h ∧ u = .int .i64 (if Mk.wr k0 x = x then k0 + Mk.cnt x else -1)) := by
  refine CallE.gen fun k hk => EN_laws_heldProcessS rfl ?_
  have hL := Rv.lt
  have hcx : Mk.cnt x = cntL x := rfl
  simp -implicitDefEqProofs (disch := first | omega | (simp only [List.length_set, List.length_replicate, List.length_append, List.length_map, List.length_take, List.length_cons, List.length_nil]; omega)) [wrap64]
  refine wp_count x.length (fun i e h' => h' = h ∧ e = [some v, some (.int .i64 (k0 + cntL (x.take i))), none, some (.int .i64 i)] ∧ (mkL k0 x).take i = x.take i) ⟨rfl, by simp [cntL], rfl⟩ ?_
  rintro J i _ h1 hJ hi ⟨rfl, rfl, M⟩
  simp -implicitDefEqProofs (disch := first | omega | (simp only [List.length_set, List.length_replicate, List.length_append, List.length_map, List.length_take, List.length_cons, List.length_nil]; omega)) [wrap64, Rv.len]
  refine IteW.mk (fun hlt => ?_) (fun hge => ?_)
  · have hlx : i < x.length := by omega
    have hb := cntL_le x (i + 1)
    have hc := cntL_take x i hlx
    have hg := mkL_get k0 x i hlx
    have hce := cnt_Pr x[i]
    obtain ⟨q, hq⟩ : ∃ q, q = k0 + cntL (x.take i) := ⟨_, rfl⟩
    rw [← hq] at hg ⊢
    have hw : Mk.wr q x[i] = ⟨q, Mk.wr (q + 1) x[i].edges⟩ := rfl
    have hno : Mk.wr q x[i] ≠ x[i] → k (.int .i64 (-1)) h1 := by
      intro hm
      refine hk _ _ ⟨rfl, ?_⟩
      rw [if_neg]
      intro he
      have he2 : mkL k0 x = x := he
      simp only [he2] at hg
      exact hm hg.symm
    obtain ⟨u, hu, Ru⟩ := Rv.ld hlx
    change hload _ (some (elp 2 v i)) (some 2) = some u at hu
    obtain ⟨w, rfl, k1, R1⟩ := Rep_Pr.1 Ru
    have hP := hld_parts hu
    by_cases m0 : x[i].locs = q
    case neg =>
      simp -implicitDefEqProofs (disch := first | omega | (simp only [List.length_set, List.length_replicate, List.length_append, List.length_map, List.length_take, List.length_cons, List.length_nil]; omega)) [wrap64, Rv.X (n := 2) rfl, hP.1, hP.2.2.1, m0]
      exact RetK.keep (hno fun he => m0 (by rw [hw] at he; rw [← he]))
    simp -implicitDefEqProofs (disch := first | omega | (simp only [List.length_set, List.length_replicate, List.length_append, List.length_map, List.length_take, List.length_cons, List.length_nil]; omega)) [wrap64, Rv.X (n := 2) rfl, hP.1, hP.2.2.1, m0]
    refine (c_heldEdgeS (k0 := q + 1) R1 (by omega) (by omega)).go ?_
    rintro _ h1 ⟨rfl, rfl⟩
    by_cases m2 : Mk.wr (q + 1) x[i].edges = x[i].edges
    case neg =>
      rw [if_neg m2]
      simp -implicitDefEqProofs (disch := first | omega | (simp only [List.length_set, List.length_replicate, List.length_append, List.length_map, List.length_take, List.length_cons, List.length_nil]; omega)) [wrap64]
      exact RetK.keep (hno fun he => m2 (by rw [hw] at he; exact congrArg Pr.edges he))
    rw [if_pos m2]
    simp -implicitDefEqProofs (disch := first | omega | (simp only [List.length_set, List.length_replicate, List.length_append, List.length_map, List.length_take, List.length_cons, List.length_nil]; omega)) [wrap64]
    rw [IteW_neg (by omega)]
    simp -implicitDefEqProofs (disch := first | omega | (simp only [List.length_set, List.length_replicate, List.length_append, List.length_map, List.length_take, List.length_cons, List.length_nil]; omega)) [wrap64]
    refine hJ _ _ hlx ⟨rfl, ?_, take_step M (by simpa using hlx) hlx ?_⟩
    · simp only [List.cons.injEq, Option.some.injEq, Value.int.injEq, true_and, and_true]
      refine ⟨?_, by simp⟩
      rw [hc, hce, hq]; push_cast; omega
    · rw [hg, hw, Pr.ext_iff']
      exact ⟨m0.symm, m2⟩
  · simp -implicitDefEqProofs (disch := first | omega | (simp only [List.length_set, List.length_replicate, List.length_append, List.length_map, List.length_take, List.length_cons, List.length_nil]; omega)) [wrap64]
    have h2 : x.take i = x := List.take_of_length_le (by omega)
    rw [List.take_of_length_le (by simp; omega), h2] at M
    exact RetK.keep (hk _ _ ⟨rfl, by rw [h2]; exact congrArg _ (if_pos M).symm⟩)

theorem c_heldSystem {h : Heap} {v : Value} {x : Sy} {k0 : Int} (Rv : Rep h v x) (hk0 : 0 ≤ k0) (hk1 : k0 + Mk.cnt x < 4611686018427387904) : CallE Try.prog fn_laws_heldSystem [v, .int .i64 k0] h (fun u h' => h' = h ∧ u = .int .i64 (if Mk.wr k0 x = x then k0 + Mk.cnt x else -1)) := by
  have hc : Mk.cnt x = Mk.cnt x.init + Mk.cnt x.procs := rfl
  have hw : Mk.wr k0 x = ⟨Mk.wr (k0) x.init, Mk.wr (k0 + (Mk.cnt x.init : Nat)) x.procs⟩ := rfl
  obtain ⟨v1, v2, rfl, R1, R2⟩ := Rep_Sy.1 Rv
  refine CallE.gen fun k hk => EN_laws_heldSystem rfl ?_
  simp -implicitDefEqProofs (disch := first | omega | (simp only [List.length_set, List.length_replicate, List.length_append, List.length_map, List.length_take, List.length_cons, List.length_nil]; omega)) [wrap64]
  refine (c_heldIntS (k0 := k0) R1 (by omega) (by omega)).go ?_
  rintro _ _ ⟨rfl, rfl⟩
  by_cases m1 : Mk.wr (k0) x.init = x.init
  case neg =>
    rw [if_neg m1]
    simp -implicitDefEqProofs (disch := first | omega | (simp only [List.length_set, List.length_replicate, List.length_append, List.length_map, List.length_take, List.length_cons, List.length_nil]; omega)) [wrap64]
    refine RetK.keep (hk _ _ ⟨rfl, ?_⟩)
    rw [if_neg]
    intro he
    rw [hw] at he
    exact m1 (congrArg Sy.init he)
  rw [if_pos m1]
  simp -implicitDefEqProofs (disch := first | omega | (simp only [List.length_set, List.length_replicate, List.length_append, List.length_map, List.length_take, List.length_cons, List.length_nil]; omega)) [wrap64]
  rw [IteW_neg (by omega)]
  simp -implicitDefEqProofs (disch := first | omega | (simp only [List.length_set, List.length_replicate, List.length_append, List.length_map, List.length_take, List.length_cons, List.length_nil]; omega)) [wrap64]
  refine (c_heldProcessS (k0 := k0 + (Mk.cnt x.init : Nat)) R2 (by omega) (by omega)).go ?_
  rintro _ _ ⟨rfl, rfl⟩
  by_cases m2 : Mk.wr (k0 + (Mk.cnt x.init : Nat)) x.procs = x.procs
  case neg =>
    rw [if_neg m2]
    simp -implicitDefEqProofs (disch := first | omega | (simp only [List.length_set, List.length_replicate, List.length_append, List.length_map, List.length_take, List.length_cons, List.length_nil]; omega)) [wrap64]
    refine RetK.keep (hk _ _ ⟨rfl, ?_⟩)
    rw [if_neg]
    intro he
    rw [hw] at he
    exact m2 (congrArg Sy.procs he)
  rw [if_pos m2]
  simp -implicitDefEqProofs (disch := first | omega | (simp only [List.length_set, List.length_replicate, List.length_append, List.length_map, List.length_take, List.length_cons, List.length_nil]; omega)) [wrap64]
  rw [IteW_neg (by omega)]
  simp -implicitDefEqProofs (disch := first | omega | (simp only [List.length_set, List.length_replicate, List.length_append, List.length_map, List.length_take, List.length_cons, List.length_nil]; omega)) [wrap64]
  refine RetK.keep (hk _ _ ⟨rfl, ?_⟩)
  rw [if_pos, hc]
  · congr 1; omega
  · rw [hw, m1, m2]

end Go.Proofs.Ythgimpheeemooaa
