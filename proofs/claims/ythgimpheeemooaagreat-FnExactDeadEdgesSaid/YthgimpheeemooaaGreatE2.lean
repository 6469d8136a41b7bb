/-
  Valid expressions, edges, systems and labels, by the program.
-/
import Derived.Test.YthgimpheeemooaaGreatI2
import Derived.Test.YthgimpheeemooaaGreatI3
import Derived.Test.YthgimpheeemooaaGreatPC
namespace Go.Proofs.YthgimpheeemooaaGreat
open Go
set_option linter.all false
set_option linter.unusedVariables false
set_option linter.unusedSimpArgs false
set_option linter.defProp false
set_option maxRecDepth 1000000

theorem c_ExprNodes {h : Heap} {v : Value} {x : Exq} (R : Rep h v x) : CallE Tryz.prog fn_impl_ExprNodes [v] h (fun u h' => h.le h' ∧ u = .int .i64 (if x.Ok then (x.nod : Int) else 0)) := by
  have F := R.aExq
  refine CallE.gen fun k hk => EN_impl_ExprNodes rfl ?_
  simp -implicitDefEqProofs (disch := first | omega | (simp only [List.length_set, List.length_replicate, List.length_append, List.length_map, List.length_take, List.length_cons, List.length_nil]; omega)) [wrap64]
  refine HS.init.alloc rfl fun b h1 H => ?_
  simp only [cells_int] at H
  simp -implicitDefEqProofs (disch := first | omega | (simp only [List.length_set, List.length_replicate, List.length_append, List.length_map, List.length_take, List.length_cons, List.length_nil]; omega)) [wrap64]
  refine HS.bxst (o := 0) (sz := 1) (u := .int .i64 0) H rfl rfl rfl rfl (by simp) fun h2 H => ?_
  have H : HS h [bx b [.int .i64 ((0 : Nat) : Int)]] h2 := H
  simp -implicitDefEqProofs (disch := first | omega | (simp only [List.length_set, List.length_replicate, List.length_append, List.length_map, List.length_take, List.length_cons, List.length_nil]; omega)) [wrap64, F]
  refine (c_walk x (d := 1) rfl R H (by omega) (by omega) (by omega)).go ?_
  rintro _ h3 ⟨n', ok, rfl, H, g1, g2⟩
  have hok : ok = true ↔ x.Ok := by rw [g1]; simp [Exq.Ok]
  cases ok with
  | true =>
    have e := g2 rfl
    have ho := hok.1 rfl
    simp -implicitDefEqProofs (disch := first | omega | (simp only [List.length_set, List.length_replicate, List.length_append, List.length_map, List.length_take, List.length_cons, List.length_nil]; omega)) [wrap64, H.bxld0]
    refine RetK.keep (hk _ _ ⟨H.base, ?_⟩)
    rw [if_pos ho, e]; simp
  | false =>
    simp -implicitDefEqProofs (disch := first | omega | (simp only [List.length_set, List.length_replicate, List.length_append, List.length_map, List.length_take, List.length_cons, List.length_nil]; omega)) [wrap64]
    refine RetK.keep (hk _ _ ⟨H.base, ?_⟩)
    rw [if_neg (fun ho => by have := hok.2 ho; simp at this)]
theorem Exq.nod_pos (x : Exq) : 0 < x.nod := by rw [Exq.nod_eq]; omega
theorem c_ExprValid {h : Heap} {v : Value} {x : Exq} (R : Rep h v x) : CallE Tryz.prog fn_impl_ExprValid [v] h (fun u h' => h.le h' ∧ u = .bool (decide x.Ok)) := by
  have F := R.aExq
  have hp := x.nod_pos
  refine CallE.gen fun k hk => EN_impl_ExprValid rfl ?_
  simp -implicitDefEqProofs (disch := first | omega | (simp only [List.length_set, List.length_replicate, List.length_append, List.length_map, List.length_take, List.length_cons, List.length_nil]; omega)) [wrap64, F]
  refine (c_ExprNodes R).go ?_
  rintro _ h1 ⟨hl, rfl⟩
  simp -implicitDefEqProofs (disch := first | omega | (simp only [List.length_set, List.length_replicate, List.length_append, List.length_map, List.length_take, List.length_cons, List.length_nil]; omega)) [wrap64]
  refine RetK.keep (hk _ _ ⟨hl, ?_⟩)
  congr 1
  by_cases e : x.Ok
  · simp [e]; omega
  · simp [e]

theorem c_EqualFunc_Expr {h : Heap} {a b fv : Value} {x y : List Exq} (Ra : Rep h a x) (Rb : Rep h b y) {f : FuncId} (hf : fnOf fv = some (f, [], []))
    (hp : ∀ z ∈ x, ∀ {h : Heap} {a b : Value} {w : Exq}, Rep h a z → Rep h b w → CallE Tryz.prog f [a, b] h (fun u h' => h' = h ∧ u = .bool (decide (z = w)))) :
    CallE Tryz.prog fn_slices_EqualFunc_S_impl_Expr_S_impl_Expr_impl_Expr_impl_Expr [a, b, fv] h (fun u h' => h' = h ∧ u = .bool (decide (x = y))) := by
  refine CallE.gen fun k hk => EN_slices_EqualFunc_S_impl_Expr_S_impl_Expr_impl_Expr_impl_Expr rfl ?_
  have hL := Ra.lt
  simp -implicitDefEqProofs (disch := first | omega | (simp only [List.length_set, List.length_replicate, List.length_append, List.length_map, List.length_take, List.length_cons, List.length_nil]; omega)) [wrap64, Ra.len, Rb.len]
  refine IteW.mkr (fun hne => ?_) (fun heq => ?_)
  · simp -implicitDefEqProofs (disch := first | omega | (simp only [List.length_set, List.length_replicate, List.length_append, List.length_map, List.length_take, List.length_cons, List.length_nil]; omega)) [wrap64]
    exact RetK.keep (hk _ _ ⟨rfl, by simp; rintro rfl; exact hne rfl⟩)
  simp -implicitDefEqProofs (disch := first | omega | (simp only [List.length_set, List.length_replicate, List.length_append, List.length_map, List.length_take, List.length_cons, List.length_nil]; omega)) [wrap64, Ra.len]
  refine wp_count x.length (fun i e h' => h' = h ∧ e = [none, some b, some fv, none, none, none, none, some a, some (.int .i64 x.length), some (.int .i64 i)] ∧ x.take i = y.take i) ⟨rfl, by simp [heq], rfl⟩ ?_
  rintro J i _ _ hJ hi ⟨rfl, rfl, hxy⟩
  simp -implicitDefEqProofs (disch := first | omega | (simp only [List.length_set, List.length_replicate, List.length_append, List.length_map, List.length_take, List.length_cons, List.length_nil]; omega)) [wrap64]
  refine IteW.mk (fun hlt => ?_) (fun hge => ?_)
  · have hly : i < y.length := by omega
    have hlx : i < x.length := by omega
    obtain ⟨u, hu, Ru⟩ := Ra.ld hlx
    obtain ⟨w, hw, Rw⟩ := Rb.ld hly
    change hload _ (some (elp 3 a i)) (some 3) = some u at hu
    change hload _ (some (elp 3 b i)) (some 3) = some w at hw
    simp -implicitDefEqProofs (disch := first | omega | (simp only [List.length_set, List.length_replicate, List.length_append, List.length_map, List.length_take, List.length_cons, List.length_nil]; omega)) [wrap64, Ra.X (n := 3) rfl, Rb.X (n := 3) rfl, hu, hw, Ru.aExq, Rw.aExq, hf]
    refine (hp _ (List.getElem_mem hlx) Ru Rw).go ?_
    rintro _ _ ⟨rfl, rfl⟩
    simp -implicitDefEqProofs (disch := first | omega | (simp only [List.length_set, List.length_replicate, List.length_append, List.length_map, List.length_take, List.length_cons, List.length_nil]; omega)) [wrap64]
    refine IteW.mkr (fun hne => ?_) (fun heq => ?_)
    · simp -implicitDefEqProofs (disch := first | omega | (simp only [List.length_set, List.length_replicate, List.length_append, List.length_map, List.length_take, List.length_cons, List.length_nil]; omega)) [wrap64]
      exact RetK.keep (hk _ _ ⟨rfl, by simp; rintro rfl; exact hne rfl⟩)
    simp -implicitDefEqProofs (disch := first | omega | (simp only [List.length_set, List.length_replicate, List.length_append, List.length_map, List.length_take, List.length_cons, List.length_nil]; omega)) [wrap64]
    exact hJ _ _ hlx ⟨rfl, rfl, take_step hxy hlx hly heq⟩
  · simp -implicitDefEqProofs (disch := first | omega | (simp only [List.length_set, List.length_replicate, List.length_append, List.length_map, List.length_take, List.length_cons, List.length_nil]; omega)) [wrap64]
    refine RetK.keep (hk _ _ ⟨rfl, ?_⟩)
    simp
    rw [List.take_of_length_le (by omega), List.take_of_length_le (by omega)] at hxy
    exact hxy
theorem c_ExprSame' : ∀ (x : Exq) {h : Heap} {a b : Value} {y : Exq}, Rep h a x → Rep h b y → CallE Tryz.prog fn_impl_ExprSame [a, b] h (fun u h' => h' = h ∧ u = .bool (decide (x = y))) := by
  refine Exq.ind fun x ih h a b y Ra Rb => ?_
  obtain ⟨w, rfl, k1, k2, R1⟩ := Rep_Exq.1 Ra
  obtain ⟨w2, rfl, k3, k4, R2⟩ := Rep_Exq.1 Rb
  refine CallE.gen fun k hk => EN_impl_ExprSame rfl ?_
  by_cases h1 : x.kind = y.kind
  case neg =>
    simp -implicitDefEqProofs (disch := first | omega | (simp only [List.length_set, List.length_replicate, List.length_append, List.length_map, List.length_take, List.length_cons, List.length_nil]; omega)) [wrap64, h1]
    exact RetK.keep (hk _ _ ⟨rfl, by simp [Exq.ext_iff', h1]⟩)
  by_cases h2 : x.val = y.val
  case neg =>
    simp -implicitDefEqProofs (disch := first | omega | (simp only [List.length_set, List.length_replicate, List.length_append, List.length_map, List.length_take, List.length_cons, List.length_nil]; omega)) [wrap64, h1, h2]
    exact RetK.keep (hk _ _ ⟨rfl, by simp [Exq.ext_iff', h2]⟩)
  simp -implicitDefEqProofs (disch := first | omega | (simp only [List.length_set, List.length_replicate, List.length_append, List.length_map, List.length_take, List.length_cons, List.length_nil]; omega)) [wrap64, h1, h2]
  refine (c_EqualFunc_Expr R1 R2 (f := fn_impl_ExprSame) rfl ih).go ?_
  rintro _ _ ⟨rfl, rfl⟩
  simp -implicitDefEqProofs (disch := first | omega | (simp only [List.length_set, List.length_replicate, List.length_append, List.length_map, List.length_take, List.length_cons, List.length_nil]; omega)) [wrap64]
  exact RetK.keep (hk _ _ ⟨rfl, by simp [Exq.ext_iff', h1, h2]⟩)
theorem c_ExprSame {x : Exq} {h : Heap} {a b : Value} {y : Exq} (Ra : Rep h a x) (Rb : Rep h b y) : CallE Tryz.prog fn_impl_ExprSame [a, b] h (fun u h' => h' = h ∧ u = .bool (decide (x = y))) := c_ExprSame' x Ra Rb
theorem rep_zero {h : Heap} : Rep h (.agg #[.int .i64 0, .int .i64 0, .slice none 0 0]) Exq.zero := Rep_Exq.2 ⟨_, rfl, i64_0, i64_0, (Own_nils.rep.le fun _ _ h => by simp [Heap.nil] at h)⟩

theorem c_EdgeValid {h : Heap} {v : Value} {e : Ed} (R : Rep h v e) {n : Int} (hn : I64 n) : CallE Tryz.prog fn_impl_EdgeValid [v, .int .i64 n] h (fun u h' => h.le h' ∧ u = .bool (decide (e.Ok n))) := by
  obtain ⟨w1, w2, rfl, ok, R1, R2⟩ := Rep_Ed.1 R
  have G1 : Rep h (.agg #[.int .i64 e.guard.kind, .int .i64 e.guard.val, w1]) e.guard := Rep_Exq.2 ⟨w1, rfl, ok.gk, ok.gv, R1⟩
  have G2 : Rep h (.agg #[.int .i64 e.value.kind, .int .i64 e.value.val, w2]) e.value := Rep_Exq.2 ⟨w2, rfl, ok.vk, ok.vv, R2⟩
  refine CallE.gen fun k hk => EN_impl_EdgeValid rfl ?_
  have hno : ∀ {h'}, h.le h' → ¬ e.Ok n → k (.bool false) h' := fun hl hh => hk _ _ ⟨hl, by rw [decide_eq_false hh]⟩
  have hyes : ∀ {h'}, h.le h' → e.Ok n → k (.bool true) h' := fun hl hh => hk _ _ ⟨hl, by rw [decide_eq_true hh]⟩
  simp -implicitDefEqProofs (disch := first | omega | (simp only [List.length_set, List.length_replicate, List.length_append, List.length_map, List.length_take, List.length_cons, List.length_nil]; omega)) [wrap64]
  refine c_in.go ?_
  rintro _ _ ⟨rfl, rfl⟩
  by_cases q1 : 1 ≤ n ∧ n ≤ 4
  case neg => simp -implicitDefEqProofs (disch := first | omega | (simp only [List.length_set, List.length_replicate, List.length_append, List.length_map, List.length_take, List.length_cons, List.length_nil]; omega)) [wrap64, q1]; exact RetK.keep (hno (Heap.le.refl _) fun hh => q1 ⟨hh.n1, hh.n4⟩)
  simp -implicitDefEqProofs (disch := first | omega | (simp only [List.length_set, List.length_replicate, List.length_append, List.length_map, List.length_take, List.length_cons, List.length_nil]; omega)) [wrap64, q1, Ed.cs]
  refine c_in.go ?_
  rintro _ _ ⟨rfl, rfl⟩
  by_cases q2 : 0 ≤ e.frm ∧ e.frm ≤ n - 1
  case neg => simp -implicitDefEqProofs (disch := first | omega | (simp only [List.length_set, List.length_replicate, List.length_append, List.length_map, List.length_take, List.length_cons, List.length_nil]; omega)) [wrap64, q2]; exact RetK.keep (hno (Heap.le.refl _) fun hh => q2 ⟨hh.f0, by have := hh.f1; omega⟩)
  simp -implicitDefEqProofs (disch := first | omega | (simp only [List.length_set, List.length_replicate, List.length_append, List.length_map, List.length_take, List.length_cons, List.length_nil]; omega)) [wrap64, q2, Ed.cs]
  refine c_in.go ?_
  rintro _ _ ⟨rfl, rfl⟩
  by_cases q3 : 0 ≤ e.to ∧ e.to ≤ n - 1
  case neg => simp -implicitDefEqProofs (disch := first | omega | (simp only [List.length_set, List.length_replicate, List.length_append, List.length_map, List.length_take, List.length_cons, List.length_nil]; omega)) [wrap64, q3]; exact RetK.keep (hno (Heap.le.refl _) fun hh => q3 ⟨hh.t0, by have := hh.t1; omega⟩)
  simp -implicitDefEqProofs (disch := first | omega | (simp only [List.length_set, List.length_replicate, List.length_append, List.length_map, List.length_take, List.length_cons, List.length_nil]; omega)) [wrap64, q3, Ed.cs]
  refine (c_ExprValid G1).go ?_
  rintro _ h1 ⟨l1, rfl⟩
  by_cases q4 : e.guard.Ok
  case neg => simp -implicitDefEqProofs (disch := first | omega | (simp only [List.length_set, List.length_replicate, List.length_append, List.length_map, List.length_take, List.length_cons, List.length_nil]; omega)) [wrap64, q4]; exact RetK.keep (hno l1 fun hh => q4 hh.gd)
  simp -implicitDefEqProofs (disch := first | omega | (simp only [List.length_set, List.length_replicate, List.length_append, List.length_map, List.length_take, List.length_cons, List.length_nil]; omega)) [wrap64, q4, Ed.cs]
  refine c_in.go ?_
  rintro _ _ ⟨rfl, rfl⟩
  by_cases q5 : -1 ≤ e.var ∧ e.var ≤ 2
  case neg => simp -implicitDefEqProofs (disch := first | omega | (simp only [List.length_set, List.length_replicate, List.length_append, List.length_map, List.length_take, List.length_cons, List.length_nil]; omega)) [wrap64, q5]; exact RetK.keep (hno l1 fun hh => q5 ⟨hh.v0, hh.v1⟩)
  by_cases q6 : 0 ≤ e.var
  · simp -implicitDefEqProofs (disch := first | omega | (simp only [List.length_set, List.length_replicate, List.length_append, List.length_map, List.length_take, List.length_cons, List.length_nil]; omega)) [wrap64, q5, q6, Ed.cs]
    refine (c_ExprValid (G2.le l1)).go ?_
    rintro _ h2 ⟨l2, rfl⟩
    by_cases q7 : e.value.Ok
    case neg => simp -implicitDefEqProofs (disch := first | omega | (simp only [List.length_set, List.length_replicate, List.length_append, List.length_map, List.length_take, List.length_cons, List.length_nil]; omega)) [wrap64, q7, q6, Ed.cs, show ¬ e.var < 0 by omega]; exact RetK.keep (hno (l1.trans l2) fun hh => hh.vl.elim (fun h3 => q7 h3.2) (fun h3 => absurd h3.1 (by omega)))
    simp -implicitDefEqProofs (disch := first | omega | (simp only [List.length_set, List.length_replicate, List.length_append, List.length_map, List.length_take, List.length_cons, List.length_nil]; omega)) [wrap64, q7, Ed.cs]
    refine c_in.go ?_
    rintro _ _ ⟨rfl, rfl⟩
    by_cases q8 : -2 ≤ e.sync ∧ e.sync ≤ 2
    case neg => simp -implicitDefEqProofs (disch := first | omega | (simp only [List.length_set, List.length_replicate, List.length_append, List.length_map, List.length_take, List.length_cons, List.length_nil]; omega)) [wrap64, q8]; exact RetK.keep (hno (l1.trans l2) fun hh => q8 ⟨hh.s0, hh.s1⟩)
    simp -implicitDefEqProofs (disch := first | omega | (simp only [List.length_set, List.length_replicate, List.length_append, List.length_map, List.length_take, List.length_cons, List.length_nil]; omega)) [wrap64, q8]
    exact RetK.keep (hyes (l1.trans l2) ⟨q1.1, q1.2, q2.1, by omega, q3.1, by omega, q4, q5.1, q5.2, .inl ⟨q6, q7⟩, q8.1, q8.2⟩)
  · simp -implicitDefEqProofs (disch := first | omega | (simp only [List.length_set, List.length_replicate, List.length_append, List.length_map, List.length_take, List.length_cons, List.length_nil]; omega)) [wrap64, q5, q6, Ed.cs, show e.var < 0 by omega]
    refine (c_ExprSame (G2.le l1) rep_zero).go ?_
    rintro _ _ ⟨rfl, rfl⟩
    by_cases q7 : e.value = Exq.zero
    case neg => simp -implicitDefEqProofs (disch := first | omega | (simp only [List.length_set, List.length_replicate, List.length_append, List.length_map, List.length_take, List.length_cons, List.length_nil]; omega)) [wrap64, q7]; exact RetK.keep (hno l1 fun hh => hh.vl.elim (fun h3 => q6 h3.1) (fun h3 => q7 h3.2))
    simp -implicitDefEqProofs (disch := first | omega | (simp only [List.length_set, List.length_replicate, List.length_append, List.length_map, List.length_take, List.length_cons, List.length_nil]; omega)) [wrap64, q7, Ed.cs]
    refine c_in.go ?_
    rintro _ _ ⟨rfl, rfl⟩
    by_cases q8 : -2 ≤ e.sync ∧ e.sync ≤ 2
    case neg => simp -implicitDefEqProofs (disch := first | omega | (simp only [List.length_set, List.length_replicate, List.length_append, List.length_map, List.length_take, List.length_cons, List.length_nil]; omega)) [wrap64, q8]; exact RetK.keep (hno l1 fun hh => q8 ⟨hh.s0, hh.s1⟩)
    simp -implicitDefEqProofs (disch := first | omega | (simp only [List.length_set, List.length_replicate, List.length_append, List.length_map, List.length_take, List.length_cons, List.length_nil]; omega)) [wrap64, q8]
    exact RetK.keep (hyes l1 ⟨q1.1, q1.2, q2.1, by omega, q3.1, by omega, q4, q5.1, q5.2, .inr ⟨by omega, q7⟩, q8.1, q8.2⟩)

theorem c_valsOk_1 {h : Heap} {n : Int} : CallE Tryz.prog fn_impl_valsOk_1 [.int .i64 n] h (fun u h' => h' = h ∧ u = .bool (!decide (0 ≤ n ∧ n ≤ 3))) := by
  refine CallE.gen fun k hk => EN_impl_valsOk_1 rfl ?_
  simp -implicitDefEqProofs (disch := first | omega | (simp only [List.length_set, List.length_replicate, List.length_append, List.length_map, List.length_take, List.length_cons, List.length_nil]; omega)) [wrap64]
  refine c_in.go ?_
  rintro _ _ ⟨rfl, rfl⟩
  simp -implicitDefEqProofs (disch := first | omega | (simp only [List.length_set, List.length_replicate, List.length_append, List.length_map, List.length_take, List.length_cons, List.length_nil]; omega)) [wrap64]
  exact RetK.keep (hk _ _ ⟨rfl, by simp⟩)
theorem c_valsOk {h : Heap} {w : Value} {W : List Int} (Rw : Rep h w W) : CallE Tryz.prog fn_impl_valsOk [w] h (fun u h' => h.le h' ∧ u = .bool (decide (VOk W))) := by
  have hL := Rw.lt
  refine CallE.gen fun k hk => EN_impl_valsOk rfl ?_
  by_cases h1 : (W.length : Int) = 3
  case neg =>
    simp -implicitDefEqProofs (disch := first | omega | (simp only [List.length_set, List.length_replicate, List.length_append, List.length_map, List.length_take, List.length_cons, List.length_nil]; omega)) [wrap64, Rw.len, h1]
    exact RetK.keep (hk _ _ ⟨Heap.le.refl _, by rw [decide_eq_false (fun hh : VOk W => h1 (by rw [hh.len]; rfl))]⟩)
  simp -implicitDefEqProofs (disch := first | omega | (simp only [List.length_set, List.length_replicate, List.length_append, List.length_map, List.length_take, List.length_cons, List.length_nil]; omega)) [wrap64, Rw.len, h1]
  refine (c_ContainsFunc_int Rw (c1 := []) (c2 := []) (f := fn_impl_valsOk_1) rfl (fun n => !decide (0 ≤ n ∧ n ≤ 3)) ?_).go ?_
  · intro h3 hl j hj u Ru
    obtain ⟨rfl, _⟩ := Rep_int.1 Ru
    exact (c_valsOk_1 (n := W[j])).to fun _ _ ⟨h4, h5⟩ => ⟨h4 ▸ Heap.le.refl _, h5⟩
  · rintro _ h3 ⟨hl, rfl⟩
    simp -implicitDefEqProofs (disch := first | omega | (simp only [List.length_set, List.length_replicate, List.length_append, List.length_map, List.length_take, List.length_cons, List.length_nil]; omega)) [wrap64]
    refine RetK.keep (hk _ _ ⟨hl, ?_⟩)
    congr 1
    rw [Bool.eq_iff_iff]
    have : W.length = 3 := by omega
    simp [VOk, this]

theorem c_SystemValid_1 {h : Heap} {v : Value} {e : Ed} {b : Nat} {n : Int} (R : Rep h v e) (hn : I64 n) (hb : hload h (some (.pointer (some ⟨b, 0, none⟩))) none = some (.int .i64 n)) :
    CallE Tryz.prog fn_impl_SystemValid_1 [v, .pointer (some ⟨b, 0, none⟩)] h (fun u h' => h.le h' ∧ u = .bool (!decide (e.Ok n))) := by
  have F := R.aEd
  refine CallE.gen fun k hk => EN_impl_SystemValid_1 rfl ?_
  simp -implicitDefEqProofs (disch := first | omega | (simp only [List.length_set, List.length_replicate, List.length_append, List.length_map, List.length_take, List.length_cons, List.length_nil]; omega)) [wrap64, F, hb]
  refine (c_EdgeValid R hn).go ?_
  rintro _ h1 ⟨l1, rfl⟩
  simp -implicitDefEqProofs (disch := first | omega | (simp only [List.length_set, List.length_replicate, List.length_append, List.length_map, List.length_take, List.length_cons, List.length_nil]; omega)) [wrap64]
  exact RetK.keep (hk _ _ ⟨l1, rfl⟩)
theorem c_SystemValid {h : Heap} {v : Value} {s : Sy} (R : Rep h v s) : CallE Tryz.prog fn_impl_SystemValid [v] h (fun u h' => h.le h' ∧ u = .bool (decide s.Ok)) := by
  obtain ⟨v1, v2, rfl, R1, R2⟩ := Rep_Sy.1 R
  have hL := R2.lt
  refine CallE.gen fun k hk => EN_impl_SystemValid rfl ?_
  have hno : ∀ {h'}, h.le h' → ¬ s.Ok → k (.bool false) h' := fun hl hh => hk _ _ ⟨hl, by rw [decide_eq_false hh]⟩
  simp -implicitDefEqProofs (disch := first | omega | (simp only [List.length_set, List.length_replicate, List.length_append, List.length_map, List.length_take, List.length_cons, List.length_nil]; omega)) [wrap64]
  refine (c_valsOk R1).go ?_
  rintro _ h1 ⟨l1, rfl⟩
  by_cases q1 : VOk s.init
  case neg => simp -implicitDefEqProofs (disch := first | omega | (simp only [List.length_set, List.length_replicate, List.length_append, List.length_map, List.length_take, List.length_cons, List.length_nil]; omega)) [wrap64, q1]; exact RetK.keep (hno l1 fun hh => q1 hh.vs)
  simp -implicitDefEqProofs (disch := first | omega | (simp only [List.length_set, List.length_replicate, List.length_append, List.length_map, List.length_take, List.length_cons, List.length_nil]; omega)) [wrap64, q1, R2.len]
  refine c_in.go ?_
  rintro _ _ ⟨rfl, rfl⟩
  by_cases q2 : (1 : Int) ≤ s.procs.length ∧ (s.procs.length : Int) ≤ 3
  case neg => simp -implicitDefEqProofs (disch := first | omega | (simp only [List.length_set, List.length_replicate, List.length_append, List.length_map, List.length_take, List.length_cons, List.length_nil]; omega)) [wrap64, q2]; exact RetK.keep (hno l1 fun hh => q2 ⟨by have := hh.p1; omega, by have := hh.p3; omega⟩)
  simp -implicitDefEqProofs (disch := first | omega | (simp only [List.length_set, List.length_replicate, List.length_append, List.length_map, List.length_take, List.length_cons, List.length_nil]; omega)) [wrap64, q2, R2.len]
  refine wp_count s.procs.length (fun i e h' => h.le h' ∧ e = [none, none, none, none, some v2, some (.int .i64 s.procs.length), some (.int .i64 i)] ∧ ∀ p ∈ s.procs.take i, p.Ok) ⟨l1, by simp, by simp⟩ ?_
  rintro J i _ h2 hJ hi ⟨l2, rfl, hall⟩
  simp -implicitDefEqProofs (disch := first | omega | (simp only [List.length_set, List.length_replicate, List.length_append, List.length_map, List.length_take, List.length_cons, List.length_nil]; omega)) [wrap64]
  refine IteW.mk (fun hlt => ?_) (fun hge => ?_)
  · have hlx : i < s.procs.length := by omega
    obtain ⟨u, hu, Ru⟩ := (R2.le l2).ld hlx
    change hload _ (some (elp 2 v2 i)) (some 2) = some u at hu
    obtain ⟨w, rfl, k1, R3⟩ := Rep_Pr.1 Ru
    have hw1 := R3.cells
    have hw2 := R3.one
    have hel := R3.lt
    simp -implicitDefEqProofs (disch := first | omega | (simp only [List.length_set, List.length_replicate, List.length_append, List.length_map, List.length_take, List.length_cons, List.length_nil]; omega)) [wrap64, R2.X (n := 2) rfl, hu]
    refine HS.init.alloc rfl fun b h3 H => ?_
    simp -implicitDefEqProofs (disch := first | omega | (simp only [List.length_set, List.length_replicate, List.length_append, List.length_map, List.length_take, List.length_cons, List.length_nil]; omega)) [wrap64]
    refine HS.bxst (o := 0) (sz := 2) H rfl rfl rfl (by simp [hw2]) (by simp) fun h4 H => ?_
    have H : HS h2 [bx b [.int .i64 s.procs[i].locs, w]] h4 := H
    have l4 := l2.trans H.base
    have hb0 := H.bxld (o := 0) (u := .int .i64 s.procs[i].locs) rfl
    have hb1 := H.bxld (o := 1) (u := w) rfl
    simp -implicitDefEqProofs (disch := first | omega | (simp only [List.length_set, List.length_replicate, List.length_append, List.length_map, List.length_take, List.length_cons, List.length_nil]; omega)) [wrap64, hb0]
    refine c_in.go ?_
    rintro _ _ ⟨rfl, rfl⟩
    by_cases q3 : 1 ≤ s.procs[i].locs ∧ s.procs[i].locs ≤ 4
    case neg => simp -implicitDefEqProofs (disch := first | omega | (simp only [List.length_set, List.length_replicate, List.length_append, List.length_map, List.length_take, List.length_cons, List.length_nil]; omega)) [wrap64, q3, hb1, (R3.on H).len]; exact RetK.keep (hno l4 fun hh => q3 ⟨(hh.at hlx).n1, (hh.at hlx).n4⟩)
    by_cases q4 : (6 : Int) < s.procs[i].edges.length
    · simp -implicitDefEqProofs (disch := first | omega | (simp only [List.length_set, List.length_replicate, List.length_append, List.length_map, List.length_take, List.length_cons, List.length_nil]; omega)) [wrap64, q3, q4, hb1, (R3.on H).len]; exact RetK.keep (hno l4 fun hh => by have := (hh.at hlx).el; omega)
    simp -implicitDefEqProofs (disch := first | omega | (simp only [List.length_set, List.length_replicate, List.length_append, List.length_map, List.length_take, List.length_cons, List.length_nil]; omega)) [wrap64, q3, q4, hb1, (R3.on H).len]
    refine (c_ContainsFunc_impl_Edge (R3.on H) (c1 := []) (c2 := [.pointer (some ⟨b, 0, none⟩)]) (f := fn_impl_SystemValid_1) rfl (fun e => !decide (e.Ok s.procs[i].locs)) ?_).go ?_
    · intro h5 hl5 j hj u Ru
      exact c_SystemValid_1 Ru k1 (hload_le hl5 hb0)
    · rintro _ h5 ⟨l5, rfl⟩
      have hex : s.procs[i].edges.any (fun e => !decide (e.Ok s.procs[i].locs)) = false ↔ s.procs[i].Ok := by
        simp only [List.any_eq_false, Bool.not_eq_true, Bool.not_eq_false', decide_eq_true_iff]
        exact ⟨fun hh => ⟨q3.1, q3.2, by omega, hh⟩, fun hh => hh.ed⟩
      by_cases q5 : s.procs[i].Ok
      · simp -implicitDefEqProofs (disch := first | omega | (simp only [List.length_set, List.length_replicate, List.length_append, List.length_map, List.length_take, List.length_cons, List.length_nil]; omega)) [wrap64, hex.2 q5]
        refine hJ _ _ hlx ⟨l4.trans l5, by simp, fun p hp => ?_⟩
        rw [List.take_add_one, List.getElem?_eq_getElem hlx] at hp
        rcases List.mem_append.1 hp with hp | hp
        · exact hall p hp
        · simp at hp; subst hp; exact q5
      · have hf : s.procs[i].edges.any (fun e => !decide (e.Ok s.procs[i].locs)) = true := by
          cases hh : s.procs[i].edges.any (fun e => !decide (e.Ok s.procs[i].locs)) with
          | true => rfl
          | false => exact absurd (hex.1 hh) q5
        simp -implicitDefEqProofs (disch := first | omega | (simp only [List.length_set, List.length_replicate, List.length_append, List.length_map, List.length_take, List.length_cons, List.length_nil]; omega)) [wrap64, hf]
        exact RetK.keep (hno (l4.trans l5) fun hh => q5 (hh.at hlx))
  · simp -implicitDefEqProofs (disch := first | omega | (simp only [List.length_set, List.length_replicate, List.length_append, List.length_map, List.length_take, List.length_cons, List.length_nil]; omega)) [wrap64]
    rw [List.take_of_length_le (by omega)] at hall
    exact RetK.keep (hk _ _ ⟨l2, by rw [decide_eq_true (show s.Ok from ⟨q1, by omega, by omega, hall⟩)]⟩)
end Go.Proofs.YthgimpheeemooaaGreat
