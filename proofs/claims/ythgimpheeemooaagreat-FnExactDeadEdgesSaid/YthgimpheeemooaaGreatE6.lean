/-
  What expressions are worth, by the program and by the reference. Printed by a program.
-/
import Derived.Test.YthgimpheeemooaaGreatI2
import Derived.Test.YthgimpheeemooaaGreatI4
import Derived.Test.YthgimpheeemooaaGreatE3
namespace Go.Proofs.YthgimpheeemooaaGreat
open Go
set_option linter.all false
set_option linter.unusedVariables false
set_option linter.unusedSimpArgs false
set_option linter.defProp false
set_option maxRecDepth 1000000

theorem c_truth {h : Heap} {b : Bool} : CallE Tryz.prog fn_impl_truth [.bool b] h (fun u h' => h' = h ∧ u = .int .i64 (if b then 1 else 0)) := by
  refine CallE.gen fun k hk => EN_impl_truth rfl ?_
  cases b
  · simp -implicitDefEqProofs (disch := first | omega | (simp only [List.length_set, List.length_replicate, List.length_append, List.length_map, List.length_take, List.length_cons, List.length_nil]; omega)) [wrap64]
    exact RetK.keep (hk _ _ ⟨rfl, rfl⟩)
  · simp -implicitDefEqProofs (disch := first | omega | (simp only [List.length_set, List.length_replicate, List.length_append, List.length_map, List.length_take, List.length_cons, List.length_nil]; omega)) [wrap64]
    exact RetK.keep (hk _ _ ⟨rfl, rfl⟩)
theorem c_l1Bool {h : Heap} {b : Bool} : CallE Tryz.prog fn_spec_l1Bool [.bool b] h (fun u h' => h' = h ∧ u = .int .i64 (if b then 1 else 0)) := by
  refine CallE.gen fun k hk => EN_spec_l1Bool rfl ?_
  cases b
  · simp -implicitDefEqProofs (disch := first | omega | (simp only [List.length_set, List.length_replicate, List.length_append, List.length_map, List.length_take, List.length_cons, List.length_nil]; omega)) [wrap64]
    exact RetK.keep (hk _ _ ⟨rfl, rfl⟩)
  · simp -implicitDefEqProofs (disch := first | omega | (simp only [List.length_set, List.length_replicate, List.length_append, List.length_map, List.length_take, List.length_cons, List.length_nil]; omega)) [wrap64]
    exact RetK.keep (hk _ _ ⟨rfl, rfl⟩)

theorem c_eval : ∀ (n : Nat) {x : Exq} {h : Heap} {v w : Value} {vs : List Int}, VOk vs → x.Shp n → Rep h v x → Rep h w vs → CallE Tryz.prog fn_impl_Expr_eval [v, w] h (fun u h' => h' = h ∧ u = .int .i64 (x.ev vs)) := by
  intro n
  induction n with
  | zero => intro x h v w vs _ hs; exact hs.elim
  | succ n ih0 =>
  intro x h v w vs hv hs R Rw
  have ih : ∀ {y : Exq} {h : Heap} {u : Value}, y.Shp n → Rep h u y → Rep h w vs → CallE Tryz.prog fn_impl_Expr_eval [u, w] h (fun u h' => h' = h ∧ u = .int .i64 (y.ev vs)) := fun a b c => ih0 hv a b c
  obtain ⟨wk, rfl, k1, k2, R1⟩ := Rep_Exq.1 R
  have hL := R1.lt
  have hev := x.ev_eq (vs := vs)
  have har := hs.1.ar
  have hlo := hs.1.lo
  have hhi := hs.1.hi
  have hkd := hs.1.kind
  have hvl := hv.len
  refine CallE.gen fun k hk => EN_impl_Expr_eval rfl ?_
  by_cases c1 : x.kind = 1
  · simp -implicitDefEqProofs (disch := first | omega | (simp only [List.length_set, List.length_replicate, List.length_append, List.length_map, List.length_take, List.length_cons, List.length_nil]; omega)) [wrap64, c1]
    exact RetK.keep (hk _ _ ⟨rfl, by rw [hev]; simp [Exq.evk, c1]⟩)
  by_cases c2 : x.kind = 2
  · rw [c2] at hhi
    simp [Exq.most] at hhi
    obtain ⟨q, hq⟩ : ∃ q : Nat, x.val = q := ⟨x.val.toNat, by omega⟩
    simp -implicitDefEqProofs (disch := first | omega | (simp only [List.length_set, List.length_replicate, List.length_append, List.length_map, List.length_take, List.length_cons, List.length_nil]; omega)) [wrap64, c2, hq, Rw.I]
    refine RetK.keep (hk _ _ ⟨rfl, ?_⟩)
    have hg : vs.getD q 0 = vs[q]'(by omega) := by rw [List.getD_eq_getElem?_getD, List.getElem?_eq_getElem (by omega)]; rfl
    rw [hev, ← hg]
    simp [Exq.evk, c2, hq]
  by_cases c3 : x.kind = 3
  · have hl : x.kids.length = 1 := by
      rw [c3] at har; simp [Exq.arity] at har; omega
    obtain ⟨u0, hu0, Ru0⟩ := R1.ld (i := 0) (by omega)
    change hload _ (some (elp 3 wk 0)) (some 3) = some u0 at hu0
    simp -implicitDefEqProofs (disch := first | omega | (simp only [List.length_set, List.length_replicate, List.length_append, List.length_map, List.length_take, List.length_cons, List.length_nil]; omega)) [wrap64, c1, c2, c3, R1.X (n := 3) rfl, hu0]
    refine (ih (hs.kid (i := 0) (by omega)) Ru0 Rw).go ?_
    rintro _ h ⟨rfl, rfl⟩
    simp -implicitDefEqProofs (disch := first | omega | (simp only [List.length_set, List.length_replicate, List.length_append, List.length_map, List.length_take, List.length_cons, List.length_nil]; omega)) [wrap64, c3]
    refine c_truth.go ?_
    rintro _ h ⟨rfl, rfl⟩
    simp -implicitDefEqProofs (disch := first | omega | (simp only [List.length_set, List.length_replicate, List.length_append, List.length_map, List.length_take, List.length_cons, List.length_nil]; omega)) [wrap64]
    refine RetK.keep (hk _ _ ⟨rfl, ?_⟩)
    rw [hev, Exq.kev_at (by omega)]
    simp [Exq.evk, c3, Exq.tr]
  have hl : x.kids.length = 2 := by
    unfold Exq.arity at har
    rw [if_neg (by omega), if_neg c3, if_pos (by omega)] at har; omega
  obtain ⟨u0, hu0, Ru0⟩ := R1.ld (i := 0) (by omega)
  change hload _ (some (elp 3 wk 0)) (some 3) = some u0 at hu0
  obtain ⟨u1, hu1, Ru1⟩ := R1.ld (i := 1) (by omega)
  change hload _ (some (elp 3 wk 1)) (some 3) = some u1 at hu1
  have b0 := Exq.ev_bnd hv (hs.kid (i := 0) (by omega))
  have b1 := Exq.ev_bnd hv (hs.kid (i := 1) (by omega))
  rw [Exq.kev_at (by omega), Exq.kev_at (by omega)] at hev
  simp -implicitDefEqProofs (disch := first | omega | (simp only [List.length_set, List.length_replicate, List.length_append, List.length_map, List.length_take, List.length_cons, List.length_nil]; omega)) [wrap64, c1, c2, c3, R1.X (n := 3) rfl, hu0]
  refine (ih (hs.kid (i := 0) (by omega)) Ru0 Rw).go ?_
  rintro _ h ⟨rfl, rfl⟩
  simp -implicitDefEqProofs (disch := first | omega | (simp only [List.length_set, List.length_replicate, List.length_append, List.length_map, List.length_take, List.length_cons, List.length_nil]; omega)) [wrap64, c3, R1.X (n := 3) rfl, hu1]
  refine (ih (hs.kid (i := 1) (by omega)) Ru1 Rw).go ?_
  rintro _ h ⟨rfl, rfl⟩
  obtain ⟨a, ha⟩ : ∃ a, a = x.kids[0].ev vs := ⟨_, rfl⟩
  obtain ⟨b, hb⟩ : ∃ b, b = x.kids[1].ev vs := ⟨_, rfl⟩
  rw [← ha] at b0 hev ⊢
  rw [← hb] at b1 hev ⊢
  by_cases c4 : x.kind = 4
  · by_cases d1 : a = 0
    all_goals
      simp -implicitDefEqProofs (disch := first | omega | (simp only [List.length_set, List.length_replicate, List.length_append, List.length_map, List.length_take, List.length_cons, List.length_nil]; omega)) [wrap64, c4, d1]
      refine c_truth.go ?_
      rintro _ h ⟨rfl, rfl⟩
      simp -implicitDefEqProofs (disch := first | omega | (simp only [List.length_set, List.length_replicate, List.length_append, List.length_map, List.length_take, List.length_cons, List.length_nil]; omega)) [wrap64]
      exact RetK.keep (hk _ _ ⟨rfl, by rw [hev]; simp [Exq.evk, c4, d1, Exq.tr]⟩)
  by_cases c5 : x.kind = 5
  · by_cases d1 : a = 0
    all_goals
      simp -implicitDefEqProofs (disch := first | omega | (simp only [List.length_set, List.length_replicate, List.length_append, List.length_map, List.length_take, List.length_cons, List.length_nil]; omega)) [wrap64, c5, d1]
      refine c_truth.go ?_
      rintro _ h ⟨rfl, rfl⟩
      simp -implicitDefEqProofs (disch := first | omega | (simp only [List.length_set, List.length_replicate, List.length_append, List.length_map, List.length_take, List.length_cons, List.length_nil]; omega)) [wrap64]
      exact RetK.keep (hk _ _ ⟨rfl, by rw [hev]; simp [Exq.evk, c5, d1, Exq.tr]⟩)
  by_cases c6 : x.kind = 6
  · simp -implicitDefEqProofs (disch := first | omega | (simp only [List.length_set, List.length_replicate, List.length_append, List.length_map, List.length_take, List.length_cons, List.length_nil]; omega)) [wrap64, c6]
    refine c_truth.go ?_
    rintro _ h ⟨rfl, rfl⟩
    simp -implicitDefEqProofs (disch := first | omega | (simp only [List.length_set, List.length_replicate, List.length_append, List.length_map, List.length_take, List.length_cons, List.length_nil]; omega)) [wrap64]
    exact RetK.keep (hk _ _ ⟨rfl, by rw [hev]; simp [Exq.evk, c6, Exq.tr]⟩)
  by_cases c7 : x.kind = 7
  · simp -implicitDefEqProofs (disch := first | omega | (simp only [List.length_set, List.length_replicate, List.length_append, List.length_map, List.length_take, List.length_cons, List.length_nil]; omega)) [wrap64, c7]
    refine c_truth.go ?_
    rintro _ h ⟨rfl, rfl⟩
    simp -implicitDefEqProofs (disch := first | omega | (simp only [List.length_set, List.length_replicate, List.length_append, List.length_map, List.length_take, List.length_cons, List.length_nil]; omega)) [wrap64]
    exact RetK.keep (hk _ _ ⟨rfl, by rw [hev]; simp [Exq.evk, c7, Exq.tr]⟩)
  by_cases c8 : x.kind = 8
  · simp -implicitDefEqProofs (disch := first | omega | (simp only [List.length_set, List.length_replicate, List.length_append, List.length_map, List.length_take, List.length_cons, List.length_nil]; omega)) [wrap64, c8]
    exact RetK.keep (hk _ _ ⟨rfl, by rw [hev]; simp [Exq.evk, c8]⟩)
  simp -implicitDefEqProofs (disch := first | omega | (simp only [List.length_set, List.length_replicate, List.length_append, List.length_map, List.length_take, List.length_cons, List.length_nil]; omega)) [wrap64, c4, c5, c6, c7, c8]
  refine RetK.keep (hk _ _ ⟨rfl, ?_⟩)
  rw [hev]
  simp only [Exq.evk, c1, c2, c3, c4, c5, c6, c7, c8, if_false]
  congr 2
  omega

theorem c_l1Eval : ∀ (n : Nat) {x : Exq} {h : Heap} {v w : Value} {vs : List Int}, VOk vs → x.Shp n → Rep h v x → Rep h w vs → CallE Tryz.prog fn_spec_l1Eval [v, w] h (fun u h' => h' = h ∧ u = .int .i64 (x.ev vs)) := by
  intro n
  induction n with
  | zero => intro x h v w vs _ hs; exact hs.elim
  | succ n ih0 =>
  intro x h v w vs hv hs R Rw
  have ih : ∀ {y : Exq} {h : Heap} {u : Value}, y.Shp n → Rep h u y → Rep h w vs → CallE Tryz.prog fn_spec_l1Eval [u, w] h (fun u h' => h' = h ∧ u = .int .i64 (y.ev vs)) := fun a b c => ih0 hv a b c
  obtain ⟨wk, rfl, k1, k2, R1⟩ := Rep_Exq.1 R
  have hL := R1.lt
  have hev := x.ev_eq (vs := vs)
  have har := hs.1.ar
  have hlo := hs.1.lo
  have hhi := hs.1.hi
  have hkd := hs.1.kind
  have hvl := hv.len
  refine CallE.gen fun k hk => EN_spec_l1Eval rfl ?_
  by_cases c1 : x.kind = 1
  · simp -implicitDefEqProofs (disch := first | omega | (simp only [List.length_set, List.length_replicate, List.length_append, List.length_map, List.length_take, List.length_cons, List.length_nil]; omega)) [wrap64, c1]
    exact RetK.keep (hk _ _ ⟨rfl, by rw [hev]; simp [Exq.evk, c1]⟩)
  by_cases c2 : x.kind = 2
  · rw [c2] at hhi
    simp [Exq.most] at hhi
    obtain ⟨q, hq⟩ : ∃ q : Nat, x.val = q := ⟨x.val.toNat, by omega⟩
    simp -implicitDefEqProofs (disch := first | omega | (simp only [List.length_set, List.length_replicate, List.length_append, List.length_map, List.length_take, List.length_cons, List.length_nil]; omega)) [wrap64, c2, hq, Rw.I]
    refine RetK.keep (hk _ _ ⟨rfl, ?_⟩)
    have hg : vs.getD q 0 = vs[q]'(by omega) := by rw [List.getD_eq_getElem?_getD, List.getElem?_eq_getElem (by omega)]; rfl
    rw [hev, ← hg]
    simp [Exq.evk, c2, hq]
  by_cases c3 : x.kind = 3
  · have hl : x.kids.length = 1 := by
      rw [c3] at har; simp [Exq.arity] at har; omega
    obtain ⟨u0, hu0, Ru0⟩ := R1.ld (i := 0) (by omega)
    change hload _ (some (elp 3 wk 0)) (some 3) = some u0 at hu0
    simp -implicitDefEqProofs (disch := first | omega | (simp only [List.length_set, List.length_replicate, List.length_append, List.length_map, List.length_take, List.length_cons, List.length_nil]; omega)) [wrap64, c1, c2, c3, R1.X (n := 3) rfl, hu0]
    refine (ih (hs.kid (i := 0) (by omega)) Ru0 Rw).go ?_
    rintro _ h ⟨rfl, rfl⟩
    simp -implicitDefEqProofs (disch := first | omega | (simp only [List.length_set, List.length_replicate, List.length_append, List.length_map, List.length_take, List.length_cons, List.length_nil]; omega)) [wrap64, c3]
    refine c_l1Bool.go ?_
    rintro _ h ⟨rfl, rfl⟩
    simp -implicitDefEqProofs (disch := first | omega | (simp only [List.length_set, List.length_replicate, List.length_append, List.length_map, List.length_take, List.length_cons, List.length_nil]; omega)) [wrap64]
    refine RetK.keep (hk _ _ ⟨rfl, ?_⟩)
    rw [hev, Exq.kev_at (by omega)]
    simp [Exq.evk, c3, Exq.tr]
  have hl : x.kids.length = 2 := by
    unfold Exq.arity at har
    rw [if_neg (by omega), if_neg c3, if_pos (by omega)] at har; omega
  obtain ⟨u0, hu0, Ru0⟩ := R1.ld (i := 0) (by omega)
  change hload _ (some (elp 3 wk 0)) (some 3) = some u0 at hu0
  obtain ⟨u1, hu1, Ru1⟩ := R1.ld (i := 1) (by omega)
  change hload _ (some (elp 3 wk 1)) (some 3) = some u1 at hu1
  have b0 := Exq.ev_bnd hv (hs.kid (i := 0) (by omega))
  have b1 := Exq.ev_bnd hv (hs.kid (i := 1) (by omega))
  rw [Exq.kev_at (by omega), Exq.kev_at (by omega)] at hev
  simp -implicitDefEqProofs (disch := first | omega | (simp only [List.length_set, List.length_replicate, List.length_append, List.length_map, List.length_take, List.length_cons, List.length_nil]; omega)) [wrap64, c1, c2, c3, R1.X (n := 3) rfl, hu0]
  refine (ih (hs.kid (i := 0) (by omega)) Ru0 Rw).go ?_
  rintro _ h ⟨rfl, rfl⟩
  simp -implicitDefEqProofs (disch := first | omega | (simp only [List.length_set, List.length_replicate, List.length_append, List.length_map, List.length_take, List.length_cons, List.length_nil]; omega)) [wrap64, c3, R1.X (n := 3) rfl, hu1]
  refine (ih (hs.kid (i := 1) (by omega)) Ru1 Rw).go ?_
  rintro _ h ⟨rfl, rfl⟩
  obtain ⟨a, ha⟩ : ∃ a, a = x.kids[0].ev vs := ⟨_, rfl⟩
  obtain ⟨b, hb⟩ : ∃ b, b = x.kids[1].ev vs := ⟨_, rfl⟩
  rw [← ha] at b0 hev ⊢
  rw [← hb] at b1 hev ⊢
  by_cases c4 : x.kind = 4
  · by_cases d1 : a = 0
    all_goals
      simp -implicitDefEqProofs (disch := first | omega | (simp only [List.length_set, List.length_replicate, List.length_append, List.length_map, List.length_take, List.length_cons, List.length_nil]; omega)) [wrap64, c4, d1]
      refine c_l1Bool.go ?_
      rintro _ h ⟨rfl, rfl⟩
      simp -implicitDefEqProofs (disch := first | omega | (simp only [List.length_set, List.length_replicate, List.length_append, List.length_map, List.length_take, List.length_cons, List.length_nil]; omega)) [wrap64]
      exact RetK.keep (hk _ _ ⟨rfl, by rw [hev]; simp [Exq.evk, c4, d1, Exq.tr]⟩)
  by_cases c5 : x.kind = 5
  · by_cases d1 : a = 0
    all_goals
      simp -implicitDefEqProofs (disch := first | omega | (simp only [List.length_set, List.length_replicate, List.length_append, List.length_map, List.length_take, List.length_cons, List.length_nil]; omega)) [wrap64, c5, d1]
      refine c_l1Bool.go ?_
      rintro _ h ⟨rfl, rfl⟩
      simp -implicitDefEqProofs (disch := first | omega | (simp only [List.length_set, List.length_replicate, List.length_append, List.length_map, List.length_take, List.length_cons, List.length_nil]; omega)) [wrap64]
      exact RetK.keep (hk _ _ ⟨rfl, by rw [hev]; simp [Exq.evk, c5, d1, Exq.tr]⟩)
  by_cases c6 : x.kind = 6
  · simp -implicitDefEqProofs (disch := first | omega | (simp only [List.length_set, List.length_replicate, List.length_append, List.length_map, List.length_take, List.length_cons, List.length_nil]; omega)) [wrap64, c6]
    refine c_l1Bool.go ?_
    rintro _ h ⟨rfl, rfl⟩
    simp -implicitDefEqProofs (disch := first | omega | (simp only [List.length_set, List.length_replicate, List.length_append, List.length_map, List.length_take, List.length_cons, List.length_nil]; omega)) [wrap64]
    exact RetK.keep (hk _ _ ⟨rfl, by rw [hev]; simp [Exq.evk, c6, Exq.tr]⟩)
  by_cases c7 : x.kind = 7
  · simp -implicitDefEqProofs (disch := first | omega | (simp only [List.length_set, List.length_replicate, List.length_append, List.length_map, List.length_take, List.length_cons, List.length_nil]; omega)) [wrap64, c7]
    refine c_l1Bool.go ?_
    rintro _ h ⟨rfl, rfl⟩
    simp -implicitDefEqProofs (disch := first | omega | (simp only [List.length_set, List.length_replicate, List.length_append, List.length_map, List.length_take, List.length_cons, List.length_nil]; omega)) [wrap64]
    exact RetK.keep (hk _ _ ⟨rfl, by rw [hev]; simp [Exq.evk, c7, Exq.tr]⟩)
  by_cases c8 : x.kind = 8
  · simp -implicitDefEqProofs (disch := first | omega | (simp only [List.length_set, List.length_replicate, List.length_append, List.length_map, List.length_take, List.length_cons, List.length_nil]; omega)) [wrap64, c8]
    exact RetK.keep (hk _ _ ⟨rfl, by rw [hev]; simp [Exq.evk, c8]⟩)
  simp -implicitDefEqProofs (disch := first | omega | (simp only [List.length_set, List.length_replicate, List.length_append, List.length_map, List.length_take, List.length_cons, List.length_nil]; omega)) [wrap64, c4, c5, c6, c7, c8]
  refine RetK.keep (hk _ _ ⟨rfl, ?_⟩)
  rw [hev]
  simp only [Exq.evk, c1, c2, c3, c4, c5, c6, c7, c8, if_false]
  congr 2
  omega

end Go.Proofs.YthgimpheeemooaaGreat
