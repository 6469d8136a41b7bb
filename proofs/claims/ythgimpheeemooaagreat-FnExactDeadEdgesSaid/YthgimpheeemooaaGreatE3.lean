/-
  Valid expressions, edges, systems and labels, by the reference.
-/
import Derived.Test.YthgimpheeemooaaGreatI4
import Derived.Test.YthgimpheeemooaaGreatE2
namespace Go.Proofs.YthgimpheeemooaaGreat
open Go
set_option linter.all false
set_option linter.unusedVariables false
set_option linter.unusedSimpArgs false
set_option linter.defProp false
set_option maxRecDepth 1000000

theorem c_l1Arity {h : Heap} {n : Int} : CallE Tryz.prog fn_spec_l1Arity [.int .i64 n] h (fun u h' => h' = h ∧ u = .int .i64 (Exq.arity n)) := by
  refine CallE.gen fun k hk => EN_spec_l1Arity rfl ?_
  by_cases c1 : n = 1
  · simp -implicitDefEqProofs (disch := first | omega | (simp only [List.length_set, List.length_replicate, List.length_append, List.length_map, List.length_take, List.length_cons, List.length_nil]; omega)) [wrap64, c1]
    exact RetK.keep (hk _ _ ⟨rfl, by simp [Exq.arity, c1]⟩)
  by_cases c2 : n = 2
  · simp -implicitDefEqProofs (disch := first | omega | (simp only [List.length_set, List.length_replicate, List.length_append, List.length_map, List.length_take, List.length_cons, List.length_nil]; omega)) [wrap64, c1, c2]
    exact RetK.keep (hk _ _ ⟨rfl, by simp [Exq.arity, c2]⟩)
  by_cases c3 : n = 3
  · simp -implicitDefEqProofs (disch := first | omega | (simp only [List.length_set, List.length_replicate, List.length_append, List.length_map, List.length_take, List.length_cons, List.length_nil]; omega)) [wrap64, c1, c2, c3]
    exact RetK.keep (hk _ _ ⟨rfl, by simp [Exq.arity, c3]⟩)
  by_cases c4 : 4 ≤ n
  case neg =>
    simp -implicitDefEqProofs (disch := first | omega | (simp only [List.length_set, List.length_replicate, List.length_append, List.length_map, List.length_take, List.length_cons, List.length_nil]; omega)) [wrap64, c1, c2, c3, c4]
    exact RetK.keep (hk _ _ ⟨rfl, by simp [Exq.arity, c1, c2, c3, c4]⟩)
  by_cases c5 : n ≤ 9
  case neg =>
    simp -implicitDefEqProofs (disch := first | omega | (simp only [List.length_set, List.length_replicate, List.length_append, List.length_map, List.length_take, List.length_cons, List.length_nil]; omega)) [wrap64, c1, c2, c3, c4, c5]
    exact RetK.keep (hk _ _ ⟨rfl, by simp [Exq.arity, c1, c2, c3, c4, c5]⟩)
  simp -implicitDefEqProofs (disch := first | omega | (simp only [List.length_set, List.length_replicate, List.length_append, List.length_map, List.length_take, List.length_cons, List.length_nil]; omega)) [wrap64, c1, c2, c3, c4, c5]
  exact RetK.keep (hk _ _ ⟨rfl, by simp [Exq.arity, c1, c2, c3, c4, c5]⟩)

noncomputable instance {n : Nat} {x : Exq} : Decidable (x.Shp n) := Classical.propDecidable _
theorem c_l1Shape : ∀ (n : Nat) {x : Exq} {h : Heap} {v : Value} {dv : Int}, dv = n → n ≤ 6 → Rep h v x → CallE Tryz.prog fn_spec_l1Shape [v, .int .i64 dv] h (fun u h' => h' = h ∧ u = .bool (decide (x.Shp n))) := by
  intro n
  induction n with
  | zero =>
    intro x h v dv hd _ R
    have hd : dv = 0 := hd
    obtain ⟨w, rfl, k1, k2, R1⟩ := Rep_Exq.1 R
    refine CallE.gen fun k hk => EN_spec_l1Shape rfl ?_
    simp -implicitDefEqProofs (disch := first | omega | (simp only [List.length_set, List.length_replicate, List.length_append, List.length_map, List.length_take, List.length_cons, List.length_nil]; omega)) [wrap64, hd]
    exact RetK.keep (hk _ _ ⟨rfl, by rw [decide_eq_false (fun hh : x.Shp 0 => hh)]⟩)
  | succ n ih =>
    intro x h v dv hd hd6 R
    obtain ⟨w, rfl, k1, k2, R1⟩ := Rep_Exq.1 R
    have hL := R1.lt
    obtain ⟨ln, hln⟩ : ∃ ln : Int, ln = x.kids.length := ⟨_, rfl⟩
    have hlen := R1.len
    rw [← hln] at hlen
    refine CallE.gen fun k hk => EN_spec_l1Shape rfl ?_
    have hno : ¬ x.Shp (n + 1) → k (.bool false) h := fun hh => hk _ _ ⟨rfl, by rw [decide_eq_false hh]⟩
    simp -implicitDefEqProofs (disch := first | omega | (simp only [List.length_set, List.length_replicate, List.length_append, List.length_map, List.length_take, List.length_cons, List.length_nil]; omega)) [wrap64, hlen, show ¬ dv < 1 by omega]
    refine c_l1Arity.go ?_
    rintro _ h ⟨rfl, rfl⟩
    by_cases q1 : ln = Exq.arity x.kind
    case neg => simp -implicitDefEqProofs (disch := first | omega | (simp only [List.length_set, List.length_replicate, List.length_append, List.length_map, List.length_take, List.length_cons, List.length_nil]; omega)) [wrap64, q1]; exact RetK.keep (hno fun hh => q1 (by rw [hln]; exact hh.1.ar))
    have hm : (x.kind = 1 ∧ Exq.most x.kind = 3) ∨ (x.kind = 2 ∧ Exq.most x.kind = 2) ∨ ((¬ x.kind = 1 ∧ ¬ x.kind = 2) ∧ Exq.most x.kind = 0) := by
      unfold Exq.most
      by_cases c1 : x.kind = 1
      · exact .inl ⟨c1, by simp [c1]⟩
      by_cases c2 : x.kind = 2
      · exact .inr (.inl ⟨c2, by simp [c2]⟩)
      · exact .inr (.inr ⟨⟨c1, c2⟩, by simp [c1, c2]⟩)
    rcases hm with ⟨c1, hmo⟩ | ⟨c1, hmo⟩ | ⟨c1, hmo⟩
    all_goals
      by_cases q2 : x.val < 0
      · simp -implicitDefEqProofs (disch := first | omega | (simp only [List.length_set, List.length_replicate, List.length_append, List.length_map, List.length_take, List.length_cons, List.length_nil]; omega)) [wrap64, q1, c1, q2]; exact RetK.keep (hno fun hh => by have := hh.1.lo; omega)
      by_cases q3 : Exq.most x.kind < x.val
      · rw [hmo] at q3
        simp -implicitDefEqProofs (disch := first | omega | (simp only [List.length_set, List.length_replicate, List.length_append, List.length_map, List.length_take, List.length_cons, List.length_nil]; omega)) [wrap64, q1, c1, q2, q3]; exact RetK.keep (hno fun hh => by have := hh.1.hi; omega)
      rw [hmo] at q3
      simp -implicitDefEqProofs (disch := first | omega | (simp only [List.length_set, List.length_replicate, List.length_append, List.length_map, List.length_take, List.length_cons, List.length_nil]; omega)) [wrap64, q1, c1, q2, q3]
      refine wp_count x.kids.length (fun i e h' => h' = h ∧ (∃ kd : Int, kd = x.kind ∧ e = [none, some (.int .i64 dv), some (.agg #[.int .i64 kd, .int .i64 x.val, w]), none, none, some (.int .i64 i), none]) ∧ ∀ y ∈ x.kids.take i, y.Shp n) ⟨rfl, ⟨_, rfl, by simp [c1]⟩, by simp⟩ ?_
      rintro J i _ _ hJ hi ⟨rfl, ⟨kd, hkd, rfl⟩, hall⟩
      simp -implicitDefEqProofs (disch := first | omega | (simp only [List.length_set, List.length_replicate, List.length_append, List.length_map, List.length_take, List.length_cons, List.length_nil]; omega)) [wrap64, R1.len]
      refine IteW.mk (fun hlt => ?_) (fun hge => ?_)
      · have hlx : i < x.kids.length := by omega
        obtain ⟨u, hu, Ru⟩ := R1.ld hlx
        change hload _ (some (elp 3 w i)) (some 3) = some u at hu
        simp -implicitDefEqProofs (disch := first | omega | (simp only [List.length_set, List.length_replicate, List.length_append, List.length_map, List.length_take, List.length_cons, List.length_nil]; omega)) [wrap64, R1.X (n := 3) rfl, hu]
        refine (ih (dv := dv - 1) (by omega) (by omega) Ru).go ?_
        rintro _ _ ⟨rfl, rfl⟩
        by_cases q4 : x.kids[i].Shp n
        case neg => simp -implicitDefEqProofs (disch := first | omega | (simp only [List.length_set, List.length_replicate, List.length_append, List.length_map, List.length_take, List.length_cons, List.length_nil]; omega)) [wrap64, q4]; exact RetK.keep (hno fun hh => q4 (hh.kid hlx))
        simp -implicitDefEqProofs (disch := first | omega | (simp only [List.length_set, List.length_replicate, List.length_append, List.length_map, List.length_take, List.length_cons, List.length_nil]; omega)) [wrap64, q4]
        refine hJ _ _ hlx ⟨rfl, ⟨kd, hkd, by simp⟩, fun y hy => ?_⟩
        rw [List.take_add_one, List.getElem?_eq_getElem hlx] at hy
        rcases List.mem_append.1 hy with hy | hy
        · exact hall y hy
        · simp at hy; subst hy; exact q4
      · simp -implicitDefEqProofs (disch := first | omega | (simp only [List.length_set, List.length_replicate, List.length_append, List.length_map, List.length_take, List.length_cons, List.length_nil]; omega)) [wrap64]
        rw [List.take_of_length_le (by omega)] at hall
        refine RetK.keep (hk _ _ ⟨rfl, ?_⟩)
        rw [decide_eq_true (show x.Shp (n + 1) from ⟨⟨by omega, by omega, by omega⟩, hall⟩)]

theorem c_l1Count : ∀ (n : Nat) {x : Exq} {h : Heap} {v : Value} {dv : Int}, dv = n → n ≤ 6 → x.Shp n → Rep h v x → CallE Tryz.prog fn_spec_l1Count [v, .int .i64 dv] h (fun u h' => h' = h ∧ u = .int .i64 x.nod) := by
  intro n
  induction n with
  | zero => intro x h v dv hd _ hs; exact hs.elim
  | succ n ih =>
    intro x h v dv hd hd6 hs R
    obtain ⟨w, rfl, k1, k2, R1⟩ := Rep_Exq.1 R
    have hL := R1.lt
    have hbnd := hs.bnd
    have hpow : 2 ^ (n + 1) ≤ 2 ^ 6 := Nat.pow_le_pow_right (by decide) hd6
    have hnod := x.nod_eq
    refine CallE.gen fun k hk => EN_spec_l1Count rfl ?_
    simp -implicitDefEqProofs (disch := first | omega | (simp only [List.length_set, List.length_replicate, List.length_append, List.length_map, List.length_take, List.length_cons, List.length_nil]; omega)) [wrap64]
    refine wp_count x.kids.length (fun i e h' => h' = h ∧ e = [none, some (.int .i64 dv), some (.agg #[.int .i64 x.kind, .int .i64 x.val, w]), none, some (.int .i64 ((1 + Exq.nods (x.kids.take i) : Nat) : Int)), some (.int .i64 i)]) ⟨rfl, by simp [Exq.nods]⟩ ?_
    rintro J i _ _ hJ hi ⟨rfl, rfl⟩
    by_cases hlt : i < x.kids.length
    · obtain ⟨u, hu, Ru⟩ := R1.ld hlt
      change hload _ (some (elp 3 w i)) (some 3) = some u at hu
      have hn1 := Exq.nods_take hlt
      have hn2 := Exq.nods_le x.kids (i + 1)
      simp -implicitDefEqProofs (disch := first | omega | (simp only [List.length_set, List.length_replicate, List.length_append, List.length_map, List.length_take, List.length_cons, List.length_nil]; omega)) [wrap64, hlt, R1.len, R1.X (n := 3) rfl, hu, show 0 < dv by omega]
      refine (ih (dv := dv - 1) (by omega) (by omega) (hs.kid hlt) Ru).go ?_
      rintro _ _ ⟨rfl, rfl⟩
      simp -implicitDefEqProofs (disch := first | omega | (simp only [List.length_set, List.length_replicate, List.length_append, List.length_map, List.length_take, List.length_cons, List.length_nil]; omega)) [wrap64]
      refine hJ _ _ hlt ⟨rfl, ?_⟩
      simp [hn1]; omega
    · simp -implicitDefEqProofs (disch := first | omega | (simp only [List.length_set, List.length_replicate, List.length_append, List.length_map, List.length_take, List.length_cons, List.length_nil]; omega)) [wrap64, hlt, R1.len]
      rw [List.take_of_length_le (by omega)]
      refine RetK.keep (hk _ _ ⟨rfl, ?_⟩)
      rw [hnod]; push_cast; rfl

theorem c_spec_ExprValid {h : Heap} {v : Value} {x : Exq} (R : Rep h v x) : CallE Tryz.prog fn_spec_ExprValid [v] h (fun u h' => h' = h ∧ u = .bool (decide x.Ok)) := by
  have F := R.aExq
  refine CallE.gen fun k hk => EN_spec_ExprValid rfl ?_
  simp -implicitDefEqProofs (disch := first | omega | (simp only [List.length_set, List.length_replicate, List.length_append, List.length_map, List.length_take, List.length_cons, List.length_nil]; omega)) [wrap64, F]
  refine (c_l1Shape 6 (dv := 6) rfl (by omega) R).go ?_
  rintro _ _ ⟨rfl, rfl⟩
  by_cases q1 : x.Shp 6
  case neg => simp -implicitDefEqProofs (disch := first | omega | (simp only [List.length_set, List.length_replicate, List.length_append, List.length_map, List.length_take, List.length_cons, List.length_nil]; omega)) [wrap64, q1]; exact RetK.keep (hk _ _ ⟨rfl, by rw [decide_eq_false (fun hh : x.Ok => q1 hh.1)]⟩)
  simp -implicitDefEqProofs (disch := first | omega | (simp only [List.length_set, List.length_replicate, List.length_append, List.length_map, List.length_take, List.length_cons, List.length_nil]; omega)) [wrap64, q1, F]
  refine (c_l1Count 6 (dv := 6) rfl (by omega) q1 R).go ?_
  rintro _ _ ⟨rfl, rfl⟩
  simp -implicitDefEqProofs (disch := first | omega | (simp only [List.length_set, List.length_replicate, List.length_append, List.length_map, List.length_take, List.length_cons, List.length_nil]; omega)) [wrap64]
  refine RetK.keep (hk _ _ ⟨rfl, ?_⟩)
  congr 1
  rw [Bool.eq_iff_iff]
  simp [Exq.Ok, q1]
  omega

theorem c_l2None {h : Heap} {v : Value} {x : Exq} (R : Rep h v x) : CallE Tryz.prog fn_spec_l2None [v] h (fun u h' => h' = h ∧ u = .bool (decide (x = Exq.zero))) := by
  obtain ⟨w, rfl, k1, k2, R1⟩ := Rep_Exq.1 R
  have hno : ∀ {P : Prop}, (P → x = Exq.zero → False) → P → x ≠ Exq.zero := fun hh hp he => hh hp he
  refine CallE.gen fun k hk => EN_spec_l2None rfl ?_
  by_cases q1 : x.kind = 0
  case neg => simp -implicitDefEqProofs (disch := first | omega | (simp only [List.length_set, List.length_replicate, List.length_append, List.length_map, List.length_take, List.length_cons, List.length_nil]; omega)) [wrap64, q1]; exact RetK.keep (hk _ _ ⟨rfl, by rw [decide_eq_false (fun hh : x = Exq.zero => q1 (by rw [hh]; rfl))]⟩)
  by_cases q2 : x.val = 0
  case neg => simp -implicitDefEqProofs (disch := first | omega | (simp only [List.length_set, List.length_replicate, List.length_append, List.length_map, List.length_take, List.length_cons, List.length_nil]; omega)) [wrap64, q1, q2]; exact RetK.keep (hk _ _ ⟨rfl, by rw [decide_eq_false (fun hh : x = Exq.zero => q2 (by rw [hh]; rfl))]⟩)
  simp -implicitDefEqProofs (disch := first | omega | (simp only [List.length_set, List.length_replicate, List.length_append, List.length_map, List.length_take, List.length_cons, List.length_nil]; omega)) [wrap64, q1, q2, R1.len]
  refine RetK.keep (hk _ _ ⟨rfl, ?_⟩)
  congr 1
  rw [Bool.eq_iff_iff]
  simp [Exq.ext_iff', q1, q2, Exq.zero]

theorem c_spec_EdgeValid {h : Heap} {v : Value} {e : Ed} (R : Rep h v e) {n : Int} : CallE Tryz.prog fn_spec_EdgeValid [v, .int .i64 n] h (fun u h' => h' = h ∧ u = .bool (decide (e.Ok n))) := by
  obtain ⟨w1, w2, rfl, ok, R1, R2⟩ := Rep_Ed.1 R
  have G1 : Rep h (.agg #[.int .i64 e.guard.kind, .int .i64 e.guard.val, w1]) e.guard := Rep_Exq.2 ⟨w1, rfl, ok.gk, ok.gv, R1⟩
  have G2 : Rep h (.agg #[.int .i64 e.value.kind, .int .i64 e.value.val, w2]) e.value := Rep_Exq.2 ⟨w2, rfl, ok.vk, ok.vv, R2⟩
  refine CallE.gen fun k hk => EN_spec_EdgeValid rfl ?_
  have hno : ¬ e.Ok n → k (.bool false) h := fun hh => hk _ _ ⟨rfl, by rw [decide_eq_false hh]⟩
  have hyes : e.Ok n → k (.bool true) h := fun hh => hk _ _ ⟨rfl, by rw [decide_eq_true hh]⟩
  by_cases a1 : e.frm < 0
  · simp -implicitDefEqProofs (disch := first | omega | (simp only [List.length_set, List.length_replicate, List.length_append, List.length_map, List.length_take, List.length_cons, List.length_nil]; omega)) [wrap64, a1, Ed.cs]; exact RetK.keep (hno fun hh => by have := hh.f0; omega)
  by_cases a2 : n ≤ e.frm
  · simp -implicitDefEqProofs (disch := first | omega | (simp only [List.length_set, List.length_replicate, List.length_append, List.length_map, List.length_take, List.length_cons, List.length_nil]; omega)) [wrap64, a1, a2, Ed.cs]; exact RetK.keep (hno fun hh => by have := hh.f1; omega)
  by_cases a3 : e.to < 0
  · simp -implicitDefEqProofs (disch := first | omega | (simp only [List.length_set, List.length_replicate, List.length_append, List.length_map, List.length_take, List.length_cons, List.length_nil]; omega)) [wrap64, a1, a2, a3, Ed.cs]; exact RetK.keep (hno fun hh => by have := hh.t0; omega)
  by_cases a4 : n ≤ e.to
  · simp -implicitDefEqProofs (disch := first | omega | (simp only [List.length_set, List.length_replicate, List.length_append, List.length_map, List.length_take, List.length_cons, List.length_nil]; omega)) [wrap64, a1, a2, a3, a4, Ed.cs]; exact RetK.keep (hno fun hh => by have := hh.t1; omega)
  by_cases a5 : 4 < n
  · simp -implicitDefEqProofs (disch := first | omega | (simp only [List.length_set, List.length_replicate, List.length_append, List.length_map, List.length_take, List.length_cons, List.length_nil]; omega)) [wrap64, a1, a2, a3, a4, a5, Ed.cs]; exact RetK.keep (hno fun hh => by have := hh.n4; omega)
  simp -implicitDefEqProofs (disch := first | omega | (simp only [List.length_set, List.length_replicate, List.length_append, List.length_map, List.length_take, List.length_cons, List.length_nil]; omega)) [wrap64, a1, a2, a3, a4, a5, Ed.cs]
  refine (c_spec_ExprValid G1).go ?_
  rintro _ _ ⟨rfl, rfl⟩
  by_cases q4 : e.guard.Ok
  case neg => simp -implicitDefEqProofs (disch := first | omega | (simp only [List.length_set, List.length_replicate, List.length_append, List.length_map, List.length_take, List.length_cons, List.length_nil]; omega)) [wrap64, q4]; exact RetK.keep (hno fun hh => q4 hh.gd)
  by_cases b1 : e.sync < -2
  · simp -implicitDefEqProofs (disch := first | omega | (simp only [List.length_set, List.length_replicate, List.length_append, List.length_map, List.length_take, List.length_cons, List.length_nil]; omega)) [wrap64, q4, b1, Ed.cs]; exact RetK.keep (hno fun hh => by have := hh.s0; omega)
  by_cases b2 : 2 < e.sync
  · simp -implicitDefEqProofs (disch := first | omega | (simp only [List.length_set, List.length_replicate, List.length_append, List.length_map, List.length_take, List.length_cons, List.length_nil]; omega)) [wrap64, q4, b1, b2, Ed.cs]; exact RetK.keep (hno fun hh => by have := hh.s1; omega)
  by_cases b3 : e.var < -1
  · simp -implicitDefEqProofs (disch := first | omega | (simp only [List.length_set, List.length_replicate, List.length_append, List.length_map, List.length_take, List.length_cons, List.length_nil]; omega)) [wrap64, q4, b1, b2, b3, Ed.cs]; exact RetK.keep (hno fun hh => by have := hh.v0; omega)
  by_cases b4 : 3 ≤ e.var
  · simp -implicitDefEqProofs (disch := first | omega | (simp only [List.length_set, List.length_replicate, List.length_append, List.length_map, List.length_take, List.length_cons, List.length_nil]; omega)) [wrap64, q4, b1, b2, b3, b4, Ed.cs]; exact RetK.keep (hno fun hh => by have := hh.v1; omega)
  by_cases q6 : e.var < 0
  · simp -implicitDefEqProofs (disch := first | omega | (simp only [List.length_set, List.length_replicate, List.length_append, List.length_map, List.length_take, List.length_cons, List.length_nil]; omega)) [wrap64, q4, b1, b2, b3, b4, q6, Ed.cs]
    refine (c_l2None G2).go ?_
    rintro _ _ ⟨rfl, rfl⟩
    by_cases q7 : e.value = Exq.zero
    case neg => simp -implicitDefEqProofs (disch := first | omega | (simp only [List.length_set, List.length_replicate, List.length_append, List.length_map, List.length_take, List.length_cons, List.length_nil]; omega)) [wrap64, q7, q6, Ed.cs, show ¬ 0 ≤ e.var by omega]; exact RetK.keep (hno fun hh => hh.vl.elim (fun h3 => by omega) (fun h3 => q7 h3.2))
    simp -implicitDefEqProofs (disch := first | omega | (simp only [List.length_set, List.length_replicate, List.length_append, List.length_map, List.length_take, List.length_cons, List.length_nil]; omega)) [wrap64, q7]
    exact RetK.keep (hyes ⟨by omega, by omega, by omega, by omega, by omega, by omega, q4, by omega, by omega, .inr ⟨q6, q7⟩, by omega, by omega⟩)
  · simp -implicitDefEqProofs (disch := first | omega | (simp only [List.length_set, List.length_replicate, List.length_append, List.length_map, List.length_take, List.length_cons, List.length_nil]; omega)) [wrap64, q4, b1, b2, b3, b4, q6, Ed.cs, show 0 ≤ e.var by omega]
    refine (c_spec_ExprValid G2).go ?_
    rintro _ _ ⟨rfl, rfl⟩
    by_cases q7 : e.value.Ok
    case neg => simp -implicitDefEqProofs (disch := first | omega | (simp only [List.length_set, List.length_replicate, List.length_append, List.length_map, List.length_take, List.length_cons, List.length_nil]; omega)) [wrap64, q7]; exact RetK.keep (hno fun hh => hh.vl.elim (fun h3 => q7 h3.2) (fun h3 => by omega))
    simp -implicitDefEqProofs (disch := first | omega | (simp only [List.length_set, List.length_replicate, List.length_append, List.length_map, List.length_take, List.length_cons, List.length_nil]; omega)) [wrap64, q7]
    exact RetK.keep (hyes ⟨by omega, by omega, by omega, by omega, by omega, by omega, q4, by omega, by omega, .inl ⟨by omega, q7⟩, by omega, by omega⟩)

theorem c_l1Vals {h : Heap} {w : Value} {W : List Int} (Rw : Rep h w W) : CallE Tryz.prog fn_spec_l1Vals [w] h (fun u h' => h' = h ∧ u = .bool (decide (VOk W))) := by
  have hL := Rw.lt
  refine CallE.gen fun k hk => EN_spec_l1Vals rfl ?_
  simp -implicitDefEqProofs (disch := first | omega | (simp only [List.length_set, List.length_replicate, List.length_append, List.length_map, List.length_take, List.length_cons, List.length_nil]; omega)) [wrap64]
  refine wp_count W.length (fun i e h' => e = [some w, none, some (.int .i64 i)] ∧ h' = h ∧ ∀ (j : Nat) (hj : j < W.length), j < i → 0 ≤ W[j] ∧ W[j] ≤ 3) ⟨rfl, rfl, fun j _ hj => absurd hj (Nat.not_lt_zero j)⟩ ?_
  rintro J i _ h1 hJ hi ⟨rfl, rfl, hn⟩
  simp -implicitDefEqProofs (disch := first | omega | (simp only [List.length_set, List.length_replicate, List.length_append, List.length_map, List.length_take, List.length_cons, List.length_nil]; omega)) [wrap64, Rw.len]
  refine IteW.mk (fun hlt => ?_) (fun hge => ?_)
  · have hlx : i < W.length := by omega
    have hno : ¬ (0 ≤ W[i] ∧ W[i] ≤ 3) → k (.bool false) h1 := fun hx => hk _ _ ⟨rfl, by rw [decide_eq_false (fun hh : VOk W => hx (hh.at hlx))]⟩
    by_cases h1 : W[i] < 0
    · simp -implicitDefEqProofs (disch := first | omega | (simp only [List.length_set, List.length_replicate, List.length_append, List.length_map, List.length_take, List.length_cons, List.length_nil]; omega)) [wrap64, Rw.I, h1]
      exact RetK.keep (hno (by omega))
    by_cases h2 : 3 < W[i]
    · simp -implicitDefEqProofs (disch := first | omega | (simp only [List.length_set, List.length_replicate, List.length_append, List.length_map, List.length_take, List.length_cons, List.length_nil]; omega)) [wrap64, Rw.I, h1, h2]
      exact RetK.keep (hno (by omega))
    simp -implicitDefEqProofs (disch := first | omega | (simp only [List.length_set, List.length_replicate, List.length_append, List.length_map, List.length_take, List.length_cons, List.length_nil]; omega)) [wrap64, Rw.I, h1, h2]
    refine hJ _ _ hlx ⟨rfl, rfl, fun j hj hji => ?_⟩
    by_cases hji2 : j = i
    · subst hji2; omega
    · exact hn j hj (by omega)
  · simp -implicitDefEqProofs (disch := first | omega | (simp only [List.length_set, List.length_replicate, List.length_append, List.length_map, List.length_take, List.length_cons, List.length_nil]; omega)) [wrap64, Rw.len]
    refine RetK.keep (hk _ _ ⟨rfl, ?_⟩)
    congr 1
    rw [Bool.eq_iff_iff, decide_eq_true_iff, decide_eq_true_iff]
    refine ⟨fun h3 => ⟨by omega, fun x hx => ?_⟩, fun h3 => by have := h3.len; omega⟩
    obtain ⟨j, hj, rfl⟩ := List.mem_iff_getElem.1 hx
    exact hn j hj (by omega)

theorem c_l2Process {h : Heap} {v : Value} {p : Pr} (R : Rep h v p) : CallE Tryz.prog fn_spec_l2Process [v] h (fun u h' => h' = h ∧ u = .bool (decide p.Ok)) := by
  obtain ⟨w, rfl, k1, R1⟩ := Rep_Pr.1 R
  have hL := R1.lt
  refine CallE.gen fun k hk => EN_spec_l2Process rfl ?_
  simp -implicitDefEqProofs (disch := first | omega | (simp only [List.length_set, List.length_replicate, List.length_append, List.length_map, List.length_take, List.length_cons, List.length_nil]; omega)) [wrap64]
  refine wp_count p.edges.length (fun i e h' => e = [none, some (.agg #[.int .i64 p.locs, w]), none, some (.int .i64 i)] ∧ h' = h ∧ ∀ x ∈ p.edges.take i, x.Ok p.locs) ⟨by simp, rfl, by simp⟩ ?_
  rintro J i _ h1 hJ hi ⟨rfl, rfl, hall⟩
  simp -implicitDefEqProofs (disch := first | omega | (simp only [List.length_set, List.length_replicate, List.length_append, List.length_map, List.length_take, List.length_cons, List.length_nil]; omega)) [wrap64, R1.len]
  refine IteW.mk (fun hlt => ?_) (fun hge => ?_)
  · have hlx : i < p.edges.length := by omega
    obtain ⟨u, hu, Ru⟩ := R1.ld hlx
    change hload _ (some (elp 10 w i)) (some 10) = some u at hu
    simp -implicitDefEqProofs (disch := first | omega | (simp only [List.length_set, List.length_replicate, List.length_append, List.length_map, List.length_take, List.length_cons, List.length_nil]; omega)) [wrap64, R1.X (n := 10) rfl, hu]
    refine (c_spec_EdgeValid Ru).go ?_
    rintro _ _ ⟨rfl, rfl⟩
    by_cases q : p.edges[i].Ok p.locs
    case neg => simp -implicitDefEqProofs (disch := first | omega | (simp only [List.length_set, List.length_replicate, List.length_append, List.length_map, List.length_take, List.length_cons, List.length_nil]; omega)) [wrap64, q]; exact RetK.keep (hk _ _ ⟨rfl, by rw [decide_eq_false (fun hh : p.Ok => q (hh.at hlx))]⟩)
    simp -implicitDefEqProofs (disch := first | omega | (simp only [List.length_set, List.length_replicate, List.length_append, List.length_map, List.length_take, List.length_cons, List.length_nil]; omega)) [wrap64, q]
    refine hJ _ _ hlx ⟨by simp, rfl, fun x hx => ?_⟩
    rw [List.take_add_one, List.getElem?_eq_getElem hlx] at hx
    rcases List.mem_append.1 hx with hx | hx
    · exact hall x hx
    · simp at hx; subst hx; exact q
  · simp -implicitDefEqProofs (disch := first | omega | (simp only [List.length_set, List.length_replicate, List.length_append, List.length_map, List.length_take, List.length_cons, List.length_nil]; omega)) [wrap64]
    rw [List.take_of_length_le (by omega)] at hall
    have hno : ¬ p.Ok → k (.bool false) h1 := fun hx => hk _ _ ⟨rfl, by rw [decide_eq_false hx]⟩
    by_cases a1 : 1 ≤ p.locs
    case neg => simp -implicitDefEqProofs (disch := first | omega | (simp only [List.length_set, List.length_replicate, List.length_append, List.length_map, List.length_take, List.length_cons, List.length_nil]; omega)) [wrap64, a1]; exact RetK.keep (hno fun hh => a1 hh.n1)
    by_cases a2 : p.locs ≤ 4
    case neg => simp -implicitDefEqProofs (disch := first | omega | (simp only [List.length_set, List.length_replicate, List.length_append, List.length_map, List.length_take, List.length_cons, List.length_nil]; omega)) [wrap64, a1, a2]; exact RetK.keep (hno fun hh => a2 hh.n4)
    simp -implicitDefEqProofs (disch := first | omega | (simp only [List.length_set, List.length_replicate, List.length_append, List.length_map, List.length_take, List.length_cons, List.length_nil]; omega)) [wrap64, a1, a2, R1.len]
    refine RetK.keep (hk _ _ ⟨rfl, ?_⟩)
    congr 1
    rw [Bool.eq_iff_iff, decide_eq_true_iff, decide_eq_true_iff]
    exact ⟨fun h3 => ⟨a1, a2, by omega, hall⟩, fun h3 => by have := h3.el; omega⟩

theorem c_spec_SystemValid {h : Heap} {v : Value} {s : Sy} (R : Rep h v s) : CallE Tryz.prog fn_spec_SystemValid [v] h (fun u h' => h' = h ∧ u = .bool (decide s.Ok)) := by
  obtain ⟨v1, v2, rfl, R0, R1⟩ := Rep_Sy.1 R
  have hL := R1.lt
  refine CallE.gen fun k hk => EN_spec_SystemValid rfl ?_
  simp -implicitDefEqProofs (disch := first | omega | (simp only [List.length_set, List.length_replicate, List.length_append, List.length_map, List.length_take, List.length_cons, List.length_nil]; omega)) [wrap64]
  refine wp_count s.procs.length (fun i e h' => e = [none, some (.agg #[v1, v2]), none, some (.int .i64 i)] ∧ h' = h ∧ ∀ x ∈ s.procs.take i, x.Ok) ⟨by simp, rfl, by simp⟩ ?_
  rintro J i _ h1 hJ hi ⟨rfl, rfl, hall⟩
  simp -implicitDefEqProofs (disch := first | omega | (simp only [List.length_set, List.length_replicate, List.length_append, List.length_map, List.length_take, List.length_cons, List.length_nil]; omega)) [wrap64, R1.len]
  refine IteW.mk (fun hlt => ?_) (fun hge => ?_)
  · have hlx : i < s.procs.length := by omega
    obtain ⟨u, hu, Ru⟩ := R1.ld hlx
    change hload _ (some (elp 2 v2 i)) (some 2) = some u at hu
    simp -implicitDefEqProofs (disch := first | omega | (simp only [List.length_set, List.length_replicate, List.length_append, List.length_map, List.length_take, List.length_cons, List.length_nil]; omega)) [wrap64, R1.X (n := 2) rfl, hu]
    refine (c_l2Process Ru).go ?_
    rintro _ _ ⟨rfl, rfl⟩
    by_cases q : s.procs[i].Ok
    case neg => simp -implicitDefEqProofs (disch := first | omega | (simp only [List.length_set, List.length_replicate, List.length_append, List.length_map, List.length_take, List.length_cons, List.length_nil]; omega)) [wrap64, q]; exact RetK.keep (hk _ _ ⟨rfl, by rw [decide_eq_false (fun hh : s.Ok => q (hh.at hlx))]⟩)
    simp -implicitDefEqProofs (disch := first | omega | (simp only [List.length_set, List.length_replicate, List.length_append, List.length_map, List.length_take, List.length_cons, List.length_nil]; omega)) [wrap64, q]
    refine hJ _ _ hlx ⟨by simp, rfl, fun x hx => ?_⟩
    rw [List.take_add_one, List.getElem?_eq_getElem hlx] at hx
    rcases List.mem_append.1 hx with hx | hx
    · exact hall x hx
    · simp at hx; subst hx; exact q
  · simp -implicitDefEqProofs (disch := first | omega | (simp only [List.length_set, List.length_replicate, List.length_append, List.length_map, List.length_take, List.length_cons, List.length_nil]; omega)) [wrap64]
    rw [List.take_of_length_le (by omega)] at hall
    have hno : ¬ s.Ok → k (.bool false) h1 := fun hx => hk _ _ ⟨rfl, by rw [decide_eq_false hx]⟩
    refine (c_l1Vals R0).go ?_
    rintro _ _ ⟨rfl, rfl⟩
    by_cases a0 : VOk s.init
    case neg => simp -implicitDefEqProofs (disch := first | omega | (simp only [List.length_set, List.length_replicate, List.length_append, List.length_map, List.length_take, List.length_cons, List.length_nil]; omega)) [wrap64, a0]; exact RetK.keep (hno fun hh => a0 hh.vs)
    by_cases a1 : (1 : Int) ≤ s.procs.length
    case neg => simp -implicitDefEqProofs (disch := first | omega | (simp only [List.length_set, List.length_replicate, List.length_append, List.length_map, List.length_take, List.length_cons, List.length_nil]; omega)) [wrap64, a0, a1, R1.len]; exact RetK.keep (hno fun hh => a1 (by have := hh.p1; omega))
    simp -implicitDefEqProofs (disch := first | omega | (simp only [List.length_set, List.length_replicate, List.length_append, List.length_map, List.length_take, List.length_cons, List.length_nil]; omega)) [wrap64, a0, a1, R1.len]
    refine RetK.keep (hk _ _ ⟨rfl, ?_⟩)
    congr 1
    rw [Bool.eq_iff_iff, decide_eq_true_iff, decide_eq_true_iff]
    exact ⟨fun h3 => ⟨a0, by omega, by omega, hall⟩, fun h3 => by have := h3.p3; omega⟩

end Go.Proofs.YthgimpheeemooaaGreat
