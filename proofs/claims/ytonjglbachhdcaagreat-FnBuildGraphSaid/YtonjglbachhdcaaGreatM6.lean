/-
  Texts of this proof, one behind the other.
-/
import Derived.WalkKit
import Derived.ProofKit
import Derived.OpenShut
import Derived.Carry
import Derived.Deep.Slices
import Derived.SizedLaws
import Derived.Test.YtonjglbachhdcaaGreatM5
/-
  Valid expressions, edges, systems and labels, by the reference.
-/
namespace Go.Proofs.YtonjglbachhdcaaGreat
open Go
set_option linter.all false
set_option linter.unusedVariables false
set_option linter.unusedSimpArgs false
set_option linter.defProp false
set_option maxRecDepth 1000000

theorem c_l1Arity {h : Heap} {n : Int} : CallE Tryz.prog fn_spec_l1Arity [.int .i64 n] h (fun u h' => h' = h ∧ u = .int .i64 (Exq.arity n)) := by
  refine CallE.gen fun k hk => EN_spec_l1Arity rfl ?_
  by_cases c1 : n = 1
  · simp -implicitDefEqProofs (disch := first | omega | (simp only [List.length_set, List.length_replicate, List.length_append, List.length_map, List.length_take, List.length_cons, List.length_nil]; omega)) [wrap64, c1]
    exact RetK.keep (hk _ _ ⟨rfl, by simp [Exq.arity, c1]⟩)
  by_cases c2 : n = 2
  · simp -implicitDefEqProofs (disch := first | omega | (simp only [List.length_set, List.length_replicate, List.length_append, List.length_map, List.length_take, List.length_cons, List.length_nil]; omega)) [wrap64, c1, c2]
    exact RetK.keep (hk _ _ ⟨rfl, by simp [Exq.arity, c2]⟩)
  by_cases c3 : n = 3
  · simp -implicitDefEqProofs (disch := first | omega | (simp only [List.length_set, List.length_replicate, List.length_append, List.length_map, List.length_take, List.length_cons, List.length_nil]; omega)) [wrap64, c1, c2, c3]
    exact RetK.keep (hk _ _ ⟨rfl, by simp [Exq.arity, c3]⟩)
  by_cases c4 : 4 ≤ n
  case neg =>
    simp -implicitDefEqProofs (disch := first | omega | (simp only [List.length_set, List.length_replicate, List.length_append, List.length_map, List.length_take, List.length_cons, List.length_nil]; omega)) [wrap64, c1, c2, c3, c4]
    exact RetK.keep (hk _ _ ⟨rfl, by simp [Exq.arity, c1, c2, c3, c4]⟩)
  by_cases c5 : n ≤ 9
  case neg =>
    simp -implicitDefEqProofs (disch := first | omega | (simp only [List.length_set, List.length_replicate, List.length_append, List.length_map, List.length_take, List.length_cons, List.length_nil]; omega)) [wrap64, c1, c2, c3, c4, c5]
    exact RetK.keep (hk _ _ ⟨rfl, by simp [Exq.arity, c1, c2, c3, c4, c5]⟩)
  simp -implicitDefEqProofs (disch := first | omega | (simp only [List.length_set, List.length_replicate, List.length_append, List.length_map, List.length_take, List.length_cons, List.length_nil]; omega)) [wrap64, c1, c2, c3, c4, c5]
  exact RetK.keep (hk _ _ ⟨rfl, by simp [Exq.arity, c1, c2, c3, c4, c5]⟩)

noncomputable instance {n : Nat} {x : Exq} : Decidable (x.Shp n) := Classical.propDecidable _
theorem c_l1Shape : ∀ (n : Nat) {x : Exq} {h : Heap} {v : Value} {dv : Int}, dv = n → n ≤ 6 → Rep h v x → CallE Tryz.prog fn_spec_l1Shape [v, .int .i64 dv] h (fun u h' => h' = h ∧ u = .bool (decide (x.Shp n))) := by
  intro n
  induction n with
  | zero =>
    intro x h v dv hd _ R
    have hd : dv = 0 := hd
    obtain ⟨w, rfl, k1, k2, R1⟩ := Rep_Exq.1 R
    refine CallE.gen fun k hk => EN_spec_l1Shape rfl ?_
    simp -implicitDefEqProofs (disch := first | omega | (simp only [List.length_set, List.length_replicate, List.length_append, List.length_map, List.length_take, List.length_cons, List.length_nil]; omega)) [wrap64, hd]
    exact RetK.keep (hk _ _ ⟨rfl, by rw [decide_eq_false (fun hh : x.Shp 0 => hh)]⟩)
  | succ n ih =>
    intro x h v dv hd hd6 R
    obtain ⟨w, rfl, k1, k2, R1⟩ := Rep_Exq.1 R
    have hL := R1.lt
    obtain ⟨ln, hln⟩ : ∃ ln : Int, ln = x.kids.length := ⟨_, rfl⟩
    have hlen := R1.len
    rw [← hln] at hlen
    refine CallE.gen fun k hk => EN_spec_l1Shape rfl ?_
    have hno : ¬ x.Shp (n + 1) → k (.bool false) h := fun hh => hk _ _ ⟨rfl, by rw [decide_eq_false hh]⟩
    simp -implicitDefEqProofs (disch := first | omega | (simp only [List.length_set, List.length_replicate, List.length_append, List.length_map, List.length_take, List.length_cons, List.length_nil]; omega)) [wrap64, hlen, show ¬ dv < 1 by omega]
    refine c_l1Arity.go ?_
    rintro _ h ⟨rfl, rfl⟩
    by_cases q1 : ln = Exq.arity x.kind
    case neg => simp -implicitDefEqProofs (disch := first | omega | (simp only [List.length_set, List.length_replicate, List.length_append, List.length_map, List.length_take, List.length_cons, List.length_nil]; omega)) [wrap64, q1]; exact RetK.keep (hno fun hh => q1 (by rw [hln]; exact hh.1.ar))
    have hm : (x.kind = 1 ∧ Exq.most x.kind = 3) ∨ (x.kind = 2 ∧ Exq.most x.kind = 2) ∨ ((¬ x.kind = 1 ∧ ¬ x.kind = 2) ∧ Exq.most x.kind = 0) := by
      unfold Exq.most
      by_cases c1 : x.kind = 1
      · exact .inl ⟨c1, by simp [c1]⟩
      by_cases c2 : x.kind = 2
      · exact .inr (.inl ⟨c2, by simp [c2]⟩)
      · exact .inr (.inr ⟨⟨c1, c2⟩, by simp [c1, c2]⟩)
    rcases hm with ⟨c1, hmo⟩ | ⟨c1, hmo⟩ | ⟨c1, hmo⟩
    all_goals
      by_cases q2 : x.val < 0
      · simp -implicitDefEqProofs (disch := first | omega | (simp only [List.length_set, List.length_replicate, List.length_append, List.length_map, List.length_take, List.length_cons, List.length_nil]; omega)) [wrap64, q1, c1, q2]; exact RetK.keep (hno fun hh => by have := hh.1.lo; omega)
      by_cases q3 : Exq.most x.kind < x.val
      · rw [hmo] at q3
        simp -implicitDefEqProofs (disch := first | omega | (simp only [List.length_set, List.length_replicate, List.length_append, List.length_map, List.length_take, List.length_cons, List.length_nil]; omega)) [wrap64, q1, c1, q2, q3]; exact RetK.keep (hno fun hh => by have := hh.1.hi; omega)
      rw [hmo] at q3
      simp -implicitDefEqProofs (disch := first | omega | (simp only [List.length_set, List.length_replicate, List.length_append, List.length_map, List.length_take, List.length_cons, List.length_nil]; omega)) [wrap64, q1, c1, q2, q3]
      refine wp_count x.kids.length (fun i e h' => h' = h ∧ (∃ kd : Int, kd = x.kind ∧ e = [none, some (.int .i64 dv), some (.agg #[.int .i64 kd, .int .i64 x.val, w]), none, none, some (.int .i64 i), none]) ∧ ∀ y ∈ x.kids.take i, y.Shp n) ⟨rfl, ⟨_, rfl, by simp [c1]⟩, by simp⟩ ?_
      rintro J i _ _ hJ hi ⟨rfl, ⟨kd, hkd, rfl⟩, hall⟩
      simp -implicitDefEqProofs (disch := first | omega | (simp only [List.length_set, List.length_replicate, List.length_append, List.length_map, List.length_take, List.length_cons, List.length_nil]; omega)) [wrap64, R1.len]
      refine IteW.mk (fun hlt => ?_) (fun hge => ?_)
      · have hlx : i < x.kids.length := by omega
        obtain ⟨u, hu, Ru⟩ := R1.ld hlx
        change hload _ (some (elp 3 w i)) (some 3) = some u at hu
        simp -implicitDefEqProofs (disch := first | omega | (simp only [List.length_set, List.length_replicate, List.length_append, List.length_map, List.length_take, List.length_cons, List.length_nil]; omega)) [wrap64, R1.X (n := 3) rfl, hu]
        refine (ih (dv := dv - 1) (by omega) (by omega) Ru).go ?_
        rintro _ _ ⟨rfl, rfl⟩
        by_cases q4 : x.kids[i].Shp n
        case neg => simp -implicitDefEqProofs (disch := first | omega | (simp only [List.length_set, List.length_replicate, List.length_append, List.length_map, List.length_take, List.length_cons, List.length_nil]; omega)) [wrap64, q4]; exact RetK.keep (hno fun hh => q4 (hh.kid hlx))
        simp -implicitDefEqProofs (disch := first | omega | (simp only [List.length_set, List.length_replicate, List.length_append, List.length_map, List.length_take, List.length_cons, List.length_nil]; omega)) [wrap64, q4]
        refine hJ _ _ hlx ⟨rfl, ⟨kd, hkd, by simp⟩, fun y hy => ?_⟩
        rw [List.take_add_one, List.getElem?_eq_getElem hlx] at hy
        rcases List.mem_append.1 hy with hy | hy
        · exact hall y hy
        · simp at hy; subst hy; exact q4
      · simp -implicitDefEqProofs (disch := first | omega | (simp only [List.length_set, List.length_replicate, List.length_append, List.length_map, List.length_take, List.length_cons, List.length_nil]; omega)) [wrap64]
        rw [List.take_of_length_le (by omega)] at hall
        refine RetK.keep (hk _ _ ⟨rfl, ?_⟩)
        rw [decide_eq_true (show x.Shp (n + 1) from ⟨⟨by omega, by omega, by omega⟩, hall⟩)]

theorem c_l1Count : ∀ (n : Nat) {x : Exq} {h : Heap} {v : Value} {dv : Int}, dv = n → n ≤ 6 → x.Shp n → Rep h v x → CallE Tryz.prog fn_spec_l1Count [v, .int .i64 dv] h (fun u h' => h' = h ∧ u = .int .i64 x.nod) := by
  intro n
  induction n with
  | zero => intro x h v dv hd _ hs; exact hs.elim
  | succ n ih =>
    intro x h v dv hd hd6 hs R
    obtain ⟨w, rfl, k1, k2, R1⟩ := Rep_Exq.1 R
    have hL := R1.lt
    have hbnd := hs.bnd
    have hpow : 2 ^ (n + 1) ≤ 2 ^ 6 := Nat.pow_le_pow_right (by decide) hd6
    have hnod := x.nod_eq
    refine CallE.gen fun k hk => EN_spec_l1Count rfl ?_
    simp -implicitDefEqProofs (disch := first | omega | (simp only [List.length_set, List.length_replicate, List.length_append, List.length_map, List.length_take, List.length_cons, List.length_nil]; omega)) [wrap64]
    refine wp_count x.kids.length (fun i e h' => h' = h ∧ e = [none, some (.int .i64 dv), some (.agg #[.int .i64 x.kind, .int .i64 x.val, w]), none, some (.int .i64 ((1 + Exq.nods (x.kids.take i) : Nat) : Int)), some (.int .i64 i)]) ⟨rfl, by simp [Exq.nods]⟩ ?_
    rintro J i _ _ hJ hi ⟨rfl, rfl⟩
    by_cases hlt : i < x.kids.length
    · obtain ⟨u, hu, Ru⟩ := R1.ld hlt
      change hload _ (some (elp 3 w i)) (some 3) = some u at hu
      have hn1 := Exq.nods_take hlt
      have hn2 := Exq.nods_le x.kids (i + 1)
      simp -implicitDefEqProofs (disch := first | omega | (simp only [List.length_set, List.length_replicate, List.length_append, List.length_map, List.length_take, List.length_cons, List.length_nil]; omega)) [wrap64, hlt, R1.len, R1.X (n := 3) rfl, hu, show 0 < dv by omega]
      refine (ih (dv := dv - 1) (by omega) (by omega) (hs.kid hlt) Ru).go ?_
      rintro _ _ ⟨rfl, rfl⟩
      simp -implicitDefEqProofs (disch := first | omega | (simp only [List.length_set, List.length_replicate, List.length_append, List.length_map, List.length_take, List.length_cons, List.length_nil]; omega)) [wrap64]
      refine hJ _ _ hlt ⟨rfl, ?_⟩
      simp [hn1]; omega
    · simp -implicitDefEqProofs (disch := first | omega | (simp only [List.length_set, List.length_replicate, List.length_append, List.length_map, List.length_take, List.length_cons, List.length_nil]; omega)) [wrap64, hlt, R1.len]
      rw [List.take_of_length_le (by omega)]
      refine RetK.keep (hk _ _ ⟨rfl, ?_⟩)
      rw [hnod]; push_cast; rfl

theorem c_spec_ExprValid {h : Heap} {v : Value} {x : Exq} (R : Rep h v x) : CallE Tryz.prog fn_spec_ExprValid [v] h (fun u h' => h' = h ∧ u = .bool (decide x.Ok)) := by
  have F := R.aExq
  refine CallE.gen fun k hk => EN_spec_ExprValid rfl ?_
  simp -implicitDefEqProofs (disch := first | omega | (simp only [List.length_set, List.length_replicate, List.length_append, List.length_map, List.length_take, List.length_cons, List.length_nil]; omega)) [wrap64, F]
  refine (c_l1Shape 6 (dv := 6) rfl (by omega) R).go ?_
  rintro _ _ ⟨rfl, rfl⟩
  by_cases q1 : x.Shp 6
  case neg => simp -implicitDefEqProofs (disch := first | omega | (simp only [List.length_set, List.length_replicate, List.length_append, List.length_map, List.length_take, List.length_cons, List.length_nil]; omega)) [wrap64, q1]; exact RetK.keep (hk _ _ ⟨rfl, by rw [decide_eq_false (fun hh : x.Ok => q1 hh.1)]⟩)
  simp -implicitDefEqProofs (disch := first | omega | (simp only [List.length_set, List.length_replicate, List.length_append, List.length_map, List.length_take, List.length_cons, List.length_nil]; omega)) [wrap64, q1, F]
  refine (c_l1Count 6 (dv := 6) rfl (by omega) q1 R).go ?_
  rintro _ _ ⟨rfl, rfl⟩
  simp -implicitDefEqProofs (disch := first | omega | (simp only [List.length_set, List.length_replicate, List.length_append, List.length_map, List.length_take, List.length_cons, List.length_nil]; omega)) [wrap64]
  refine RetK.keep (hk _ _ ⟨rfl, ?_⟩)
  congr 1
  rw [Bool.eq_iff_iff]
  simp [Exq.Ok, q1]
  omega

theorem c_l2None {h : Heap} {v : Value} {x : Exq} (R : Rep h v x) : CallE Tryz.prog fn_spec_l2None [v] h (fun u h' => h' = h ∧ u = .bool (decide (x = Exq.zero))) := by
  obtain ⟨w, rfl, k1, k2, R1⟩ := Rep_Exq.1 R
  have hno : ∀ {P : Prop}, (P → x = Exq.zero → False) → P → x ≠ Exq.zero := fun hh hp he => hh hp he
  refine CallE.gen fun k hk => EN_spec_l2None rfl ?_
  by_cases q1 : x.kind = 0
  case neg => simp -implicitDefEqProofs (disch := first | omega | (simp only [List.length_set, List.length_replicate, List.length_append, List.length_map, List.length_take, List.length_cons, List.length_nil]; omega)) [wrap64, q1]; exact RetK.keep (hk _ _ ⟨rfl, by rw [decide_eq_false (fun hh : x = Exq.zero => q1 (by rw [hh]; rfl))]⟩)
  by_cases q2 : x.val = 0
  case neg => simp -implicitDefEqProofs (disch := first | omega | (simp only [List.length_set, List.length_replicate, List.length_append, List.length_map, List.length_take, List.length_cons, List.length_nil]; omega)) [wrap64, q1, q2]; exact RetK.keep (hk _ _ ⟨rfl, by rw [decide_eq_false (fun hh : x = Exq.zero => q2 (by rw [hh]; rfl))]⟩)
  simp -implicitDefEqProofs (disch := first | omega | (simp only [List.length_set, List.length_replicate, List.length_append, List.length_map, List.length_take, List.length_cons, List.length_nil]; omega)) [wrap64, q1, q2, R1.len]
  refine RetK.keep (hk _ _ ⟨rfl, ?_⟩)
  congr 1
  rw [Bool.eq_iff_iff]
  simp [Exq.ext_iff', q1, q2, Exq.zero]

theorem c_spec_EdgeValid {h : Heap} {v : Value} {e : Ed} (R : Rep h v e) {n : Int} : CallE Tryz.prog fn_spec_EdgeValid [v, .int .i64 n] h (fun u h' => h' = h ∧ u = .bool (decide (e.Ok n))) := by
  obtain ⟨w1, w2, rfl, ok, R1, R2⟩ := Rep_Ed.1 R
  have G1 : Rep h (.agg #[.int .i64 e.guard.kind, .int .i64 e.guard.val, w1]) e.guard := Rep_Exq.2 ⟨w1, rfl, ok.gk, ok.gv, R1⟩
  have G2 : Rep h (.agg #[.int .i64 e.value.kind, .int .i64 e.value.val, w2]) e.value := Rep_Exq.2 ⟨w2, rfl, ok.vk, ok.vv, R2⟩
  refine CallE.gen fun k hk => EN_spec_EdgeValid rfl ?_
  have hno : ¬ e.Ok n → k (.bool false) h := fun hh => hk _ _ ⟨rfl, by rw [decide_eq_false hh]⟩
  have hyes : e.Ok n → k (.bool true) h := fun hh => hk _ _ ⟨rfl, by rw [decide_eq_true hh]⟩
  by_cases a1 : e.frm < 0
  · simp -implicitDefEqProofs (disch := first | omega | (simp only [List.length_set, List.length_replicate, List.length_append, List.length_map, List.length_take, List.length_cons, List.length_nil]; omega)) [wrap64, a1, Ed.cs]; exact RetK.keep (hno fun hh => by have := hh.f0; omega)
  by_cases a2 : n ≤ e.frm
  · simp -implicitDefEqProofs (disch := first | omega | (simp only [List.length_set, List.length_replicate, List.length_append, List.length_map, List.length_take, List.length_cons, List.length_nil]; omega)) [wrap64, a1, a2, Ed.cs]; exact RetK.keep (hno fun hh => by have := hh.f1; omega)
  by_cases a3 : e.to < 0
  · simp -implicitDefEqProofs (disch := first | omega | (simp only [List.length_set, List.length_replicate, List.length_append, List.length_map, List.length_take, List.length_cons, List.length_nil]; omega)) [wrap64, a1, a2, a3, Ed.cs]; exact RetK.keep (hno fun hh => by have := hh.t0; omega)
  by_cases a4 : n ≤ e.to
  · simp -implicitDefEqProofs (disch := first | omega | (simp only [List.length_set, List.length_replicate, List.length_append, List.length_map, List.length_take, List.length_cons, List.length_nil]; omega)) [wrap64, a1, a2, a3, a4, Ed.cs]; exact RetK.keep (hno fun hh => by have := hh.t1; omega)
  by_cases a5 : 4 < n
  · simp -implicitDefEqProofs (disch := first | omega | (simp only [List.length_set, List.length_replicate, List.length_append, List.length_map, List.length_take, List.length_cons, List.length_nil]; omega)) [wrap64, a1, a2, a3, a4, a5, Ed.cs]; exact RetK.keep (hno fun hh => by have := hh.n4; omega)
  simp -implicitDefEqProofs (disch := first | omega | (simp only [List.length_set, List.length_replicate, List.length_append, List.length_map, List.length_take, List.length_cons, List.length_nil]; omega)) [wrap64, a1, a2, a3, a4, a5, Ed.cs]
  refine (c_spec_ExprValid G1).go ?_
  rintro _ _ ⟨rfl, rfl⟩
  by_cases q4 : e.guard.Ok
  case neg => simp -implicitDefEqProofs (disch := first | omega | (simp only [List.length_set, List.length_replicate, List.length_append, List.length_map, List.length_take, List.length_cons, List.length_nil]; omega)) [wrap64, q4]; exact RetK.keep (hno fun hh => q4 hh.gd)
  by_cases b1 : e.sync < -2
  · simp -implicitDefEqProofs (disch := first | omega | (simp only [List.length_set, List.length_replicate, List.length_append, List.length_map, List.length_take, List.length_cons, List.length_nil]; omega)) [wrap64, q4, b1, Ed.cs]; exact RetK.keep (hno fun hh => by have := hh.s0; omega)
  by_cases b2 : 2 < e.sync
  · simp -implicitDefEqProofs (disch := first | omega | (simp only [List.length_set, List.length_replicate, List.length_append, List.length_map, List.length_take, List.length_cons, List.length_nil]; omega)) [wrap64, q4, b1, b2, Ed.cs]; exact RetK.keep (hno fun hh => by have := hh.s1; omega)
  by_cases b3 : e.var < -1
  · simp -implicitDefEqProofs (disch := first | omega | (simp only [List.length_set, List.length_replicate, List.length_append, List.length_map, List.length_take, List.length_cons, List.length_nil]; omega)) [wrap64, q4, b1, b2, b3, Ed.cs]; exact RetK.keep (hno fun hh => by have := hh.v0; omega)
  by_cases b4 : 3 ≤ e.var
  · simp -implicitDefEqProofs (disch := first | omega | (simp only [List.length_set, List.length_replicate, List.length_append, List.length_map, List.length_take, List.length_cons, List.length_nil]; omega)) [wrap64, q4, b1, b2, b3, b4, Ed.cs]; exact RetK.keep (hno fun hh => by have := hh.v1; omega)
  by_cases q6 : e.var < 0
  · simp -implicitDefEqProofs (disch := first | omega | (simp only [List.length_set, List.length_replicate, List.length_append, List.length_map, List.length_take, List.length_cons, List.length_nil]; omega)) [wrap64, q4, b1, b2, b3, b4, q6, Ed.cs]
    refine (c_l2None G2).go ?_
    rintro _ _ ⟨rfl, rfl⟩
    by_cases q7 : e.value = Exq.zero
    case neg => simp -implicitDefEqProofs (disch := first | omega | (simp only [List.length_set, List.length_replicate, List.length_append, List.length_map, List.length_take, List.length_cons, List.length_nil]; omega)) [wrap64, q7, q6, Ed.cs, show ¬ 0 ≤ e.var by omega]; exact RetK.keep (hno fun hh => hh.vl.elim (fun h3 => by omega) (fun h3 => q7 h3.2))
    simp -implicitDefEqProofs (disch := first | omega | (simp only [List.length_set, List.length_replicate, List.length_append, List.length_map, List.length_take, List.length_cons, List.length_nil]; omega)) [wrap64, q7]
    exact RetK.keep (hyes ⟨by omega, by omega, by omega, by omega, by omega, by omega, q4, by omega, by omega, .inr ⟨q6, q7⟩, by omega, by omega⟩)
  · simp -implicitDefEqProofs (disch := first | omega | (simp only [List.length_set, List.length_replicate, List.length_append, List.length_map, List.length_take, List.length_cons, List.length_nil]; omega)) [wrap64, q4, b1, b2, b3, b4, q6, Ed.cs, show 0 ≤ e.var by omega]
    refine (c_spec_ExprValid G2).go ?_
    rintro _ _ ⟨rfl, rfl⟩
    by_cases q7 : e.value.Ok
    case neg => simp -implicitDefEqProofs (disch := first | omega | (simp only [List.length_set, List.length_replicate, List.length_append, List.length_map, List.length_take, List.length_cons, List.length_nil]; omega)) [wrap64, q7]; exact RetK.keep (hno fun hh => hh.vl.elim (fun h3 => q7 h3.2) (fun h3 => by omega))
    simp -implicitDefEqProofs (disch := first | omega | (simp only [List.length_set, List.length_replicate, List.length_append, List.length_map, List.length_take, List.length_cons, List.length_nil]; omega)) [wrap64, q7]
    exact RetK.keep (hyes ⟨by omega, by omega, by omega, by omega, by omega, by omega, q4, by omega, by omega, .inl ⟨by omega, q7⟩, by omega, by omega⟩)

theorem c_l1Vals {h : Heap} {w : Value} {W : List Int} (Rw : Rep h w W) : CallE Tryz.prog fn_spec_l1Vals [w] h (fun u h' => h' = h ∧ u = .bool (decide (VOk W))) := by
  have hL := Rw.lt
  refine CallE.gen fun k hk => EN_spec_l1Vals rfl ?_
  simp -implicitDefEqProofs (disch := first | omega | (simp only [List.length_set, List.length_replicate, List.length_append, List.length_map, List.length_take, List.length_cons, List.length_nil]; omega)) [wrap64]
  refine wp_count W.length (fun i e h' => e = [some w, none, some (.int .i64 i)] ∧ h' = h ∧ ∀ (j : Nat) (hj : j < W.length), j < i → 0 ≤ W[j] ∧ W[j] ≤ 3) ⟨rfl, rfl, fun j _ hj => absurd hj (Nat.not_lt_zero j)⟩ ?_
  rintro J i _ h1 hJ hi ⟨rfl, rfl, hn⟩
  simp -implicitDefEqProofs (disch := first | omega | (simp only [List.length_set, List.length_replicate, List.length_append, List.length_map, List.length_take, List.length_cons, List.length_nil]; omega)) [wrap64, Rw.len]
  refine IteW.mk (fun hlt => ?_) (fun hge => ?_)
  · have hlx : i < W.length := by omega
    have hno : ¬ (0 ≤ W[i] ∧ W[i] ≤ 3) → k (.bool false) h1 := fun hx => hk _ _ ⟨rfl, by rw [decide_eq_false (fun hh : VOk W => hx (hh.at hlx))]⟩
    by_cases h1 : W[i] < 0
    · simp -implicitDefEqProofs (disch := first | omega | (simp only [List.length_set, List.length_replicate, List.length_append, List.length_map, List.length_take, List.length_cons, List.length_nil]; omega)) [wrap64, Rw.I, h1]
      exact RetK.keep (hno (by omega))
    by_cases h2 : 3 < W[i]
    · simp -implicitDefEqProofs (disch := first | omega | (simp only [List.length_set, List.length_replicate, List.length_append, List.length_map, List.length_take, List.length_cons, List.length_nil]; omega)) [wrap64, Rw.I, h1, h2]
      exact RetK.keep (hno (by omega))
    simp -implicitDefEqProofs (disch := first | omega | (simp only [List.length_set, List.length_replicate, List.length_append, List.length_map, List.length_take, List.length_cons, List.length_nil]; omega)) [wrap64, Rw.I, h1, h2]
    refine hJ _ _ hlx ⟨rfl, rfl, fun j hj hji => ?_⟩
    by_cases hji2 : j = i
    · subst hji2; omega
    · exact hn j hj (by omega)
  · simp -implicitDefEqProofs (disch := first | omega | (simp only [List.length_set, List.length_replicate, List.length_append, List.length_map, List.length_take, List.length_cons, List.length_nil]; omega)) [wrap64, Rw.len]
    refine RetK.keep (hk _ _ ⟨rfl, ?_⟩)
    congr 1
    rw [Bool.eq_iff_iff, decide_eq_true_iff, decide_eq_true_iff]
    refine ⟨fun h3 => ⟨by omega, fun x hx => ?_⟩, fun h3 => by have := h3.len; omega⟩
    obtain ⟨j, hj, rfl⟩ := List.mem_iff_getElem.1 hx
    exact hn j hj (by omega)

theorem c_l2Process {h : Heap} {v : Value} {p : Pr} (R : Rep h v p) : CallE Tryz.prog fn_spec_l2Process [v] h (fun u h' => h' = h ∧ u = .bool (decide p.Ok)) := by
  obtain ⟨w, rfl, k1, R1⟩ := Rep_Pr.1 R
  have hL := R1.lt
  refine CallE.gen fun k hk => EN_spec_l2Process rfl ?_
  simp -implicitDefEqProofs (disch := first | omega | (simp only [List.length_set, List.length_replicate, List.length_append, List.length_map, List.length_take, List.length_cons, List.length_nil]; omega)) [wrap64]
  refine wp_count p.edges.length (fun i e h' => e = [none, some (.agg #[.int .i64 p.locs, w]), none, some (.int .i64 i)] ∧ h' = h ∧ ∀ x ∈ p.edges.take i, x.Ok p.locs) ⟨by simp, rfl, by simp⟩ ?_
  rintro J i _ h1 hJ hi ⟨rfl, rfl, hall⟩
  simp -implicitDefEqProofs (disch := first | omega | (simp only [List.length_set, List.length_replicate, List.length_append, List.length_map, List.length_take, List.length_cons, List.length_nil]; omega)) [wrap64, R1.len]
  refine IteW.mk (fun hlt => ?_) (fun hge => ?_)
  · have hlx : i < p.edges.length := by omega
    obtain ⟨u, hu, Ru⟩ := R1.ld hlx
    change hload _ (some (elp 10 w i)) (some 10) = some u at hu
    simp -implicitDefEqProofs (disch := first | omega | (simp only [List.length_set, List.length_replicate, List.length_append, List.length_map, List.length_take, List.length_cons, List.length_nil]; omega)) [wrap64, R1.X (n := 10) rfl, hu]
    refine (c_spec_EdgeValid Ru).go ?_
    rintro _ _ ⟨rfl, rfl⟩
    by_cases q : p.edges[i].Ok p.locs
    case neg => simp -implicitDefEqProofs (disch := first | omega | (simp only [List.length_set, List.length_replicate, List.length_append, List.length_map, List.length_take, List.length_cons, List.length_nil]; omega)) [wrap64, q]; exact RetK.keep (hk _ _ ⟨rfl, by rw [decide_eq_false (fun hh : p.Ok => q (hh.at hlx))]⟩)
    simp -implicitDefEqProofs (disch := first | omega | (simp only [List.length_set, List.length_replicate, List.length_append, List.length_map, List.length_take, List.length_cons, List.length_nil]; omega)) [wrap64, q]
    refine hJ _ _ hlx ⟨by simp, rfl, fun x hx => ?_⟩
    rw [List.take_add_one, List.getElem?_eq_getElem hlx] at hx
    rcases List.mem_append.1 hx with hx | hx
    · exact hall x hx
    · simp at hx; subst hx; exact q
  · simp -implicitDefEqProofs (disch := first | omega | (simp only [List.length_set, List.length_replicate, List.length_append, List.length_map, List.length_take, List.length_cons, List.length_nil]; omega)) [wrap64]
    rw [List.take_of_length_le (by omega)] at hall
    have hno : ¬ p.Ok → k (.bool false) h1 := fun hx => hk _ _ ⟨rfl, by rw [decide_eq_false hx]⟩
    by_cases a1 : 1 ≤ p.locs
    case neg => simp -implicitDefEqProofs (disch := first | omega | (simp only [List.length_set, List.length_replicate, List.length_append, List.length_map, List.length_take, List.length_cons, List.length_nil]; omega)) [wrap64, a1]; exact RetK.keep (hno fun hh => a1 hh.n1)
    by_cases a2 : p.locs ≤ 4
    case neg => simp -implicitDefEqProofs (disch := first | omega | (simp only [List.length_set, List.length_replicate, List.length_append, List.length_map, List.length_take, List.length_cons, List.length_nil]; omega)) [wrap64, a1, a2]; exact RetK.keep (hno fun hh => a2 hh.n4)
    simp -implicitDefEqProofs (disch := first | omega | (simp only [List.length_set, List.length_replicate, List.length_append, List.length_map, List.length_take, List.length_cons, List.length_nil]; omega)) [wrap64, a1, a2, R1.len]
    refine RetK.keep (hk _ _ ⟨rfl, ?_⟩)
    congr 1
    rw [Bool.eq_iff_iff, decide_eq_true_iff, decide_eq_true_iff]
    exact ⟨fun h3 => ⟨a1, a2, by omega, hall⟩, fun h3 => by have := h3.el; omega⟩

theorem c_spec_SystemValid {h : Heap} {v : Value} {s : Sy} (R : Rep h v s) : CallE Tryz.prog fn_spec_SystemValid [v] h (fun u h' => h' = h ∧ u = .bool (decide s.Ok)) := by
  obtain ⟨v1, v2, rfl, R0, R1⟩ := Rep_Sy.1 R
  have hL := R1.lt
  refine CallE.gen fun k hk => EN_spec_SystemValid rfl ?_
  simp -implicitDefEqProofs (disch := first | omega | (simp only [List.length_set, List.length_replicate, List.length_append, List.length_map, List.length_take, List.length_cons, List.length_nil]; omega)) [wrap64]
  refine wp_count s.procs.length (fun i e h' => e = [none, some (.agg #[v1, v2]), none, some (.int .i64 i)] ∧ h' = h ∧ ∀ x ∈ s.procs.take i, x.Ok) ⟨by simp, rfl, by simp⟩ ?_
  rintro J i _ h1 hJ hi ⟨rfl, rfl, hall⟩
  simp -implicitDefEqProofs (disch := first | omega | (simp only [List.length_set, List.length_replicate, List.length_append, List.length_map, List.length_take, List.length_cons, List.length_nil]; omega)) [wrap64, R1.len]
  refine IteW.mk (fun hlt => ?_) (fun hge => ?_)
  · have hlx : i < s.procs.length := by omega
    obtain ⟨u, hu, Ru⟩ := R1.ld hlx
    change hload _ (some (elp 2 v2 i)) (some 2) = some u at hu
    simp -implicitDefEqProofs (disch := first | omega | (simp only [List.length_set, List.length_replicate, List.length_append, List.length_map, List.length_take, List.length_cons, List.length_nil]; omega)) [wrap64, R1.X (n := 2) rfl, hu]
    refine (c_l2Process Ru).go ?_
    rintro _ _ ⟨rfl, rfl⟩
    by_cases q : s.procs[i].Ok
    case neg => simp -implicitDefEqProofs (disch := first | omega | (simp only [List.length_set, List.length_replicate, List.length_append, List.length_map, List.length_take, List.length_cons, List.length_nil]; omega)) [wrap64, q]; exact RetK.keep (hk _ _ ⟨rfl, by rw [decide_eq_false (fun hh : s.Ok => q (hh.at hlx))]⟩)
    simp -implicitDefEqProofs (disch := first | omega | (simp only [List.length_set, List.length_replicate, List.length_append, List.length_map, List.length_take, List.length_cons, List.length_nil]; omega)) [wrap64, q]
    refine hJ _ _ hlx ⟨by simp, rfl, fun x hx => ?_⟩
    rw [List.take_add_one, List.getElem?_eq_getElem hlx] at hx
    rcases List.mem_append.1 hx with hx | hx
    · exact hall x hx
    · simp at hx; subst hx; exact q
  · simp -implicitDefEqProofs (disch := first | omega | (simp only [List.length_set, List.length_replicate, List.length_append, List.length_map, List.length_take, List.length_cons, List.length_nil]; omega)) [wrap64]
    rw [List.take_of_length_le (by omega)] at hall
    have hno : ¬ s.Ok → k (.bool false) h1 := fun hx => hk _ _ ⟨rfl, by rw [decide_eq_false hx]⟩
    refine (c_l1Vals R0).go ?_
    rintro _ _ ⟨rfl, rfl⟩
    by_cases a0 : VOk s.init
    case neg => simp -implicitDefEqProofs (disch := first | omega | (simp only [List.length_set, List.length_replicate, List.length_append, List.length_map, List.length_take, List.length_cons, List.length_nil]; omega)) [wrap64, a0]; exact RetK.keep (hno fun hh => a0 hh.vs)
    by_cases a1 : (1 : Int) ≤ s.procs.length
    case neg => simp -implicitDefEqProofs (disch := first | omega | (simp only [List.length_set, List.length_replicate, List.length_append, List.length_map, List.length_take, List.length_cons, List.length_nil]; omega)) [wrap64, a0, a1, R1.len]; exact RetK.keep (hno fun hh => a1 (by have := hh.p1; omega))
    simp -implicitDefEqProofs (disch := first | omega | (simp only [List.length_set, List.length_replicate, List.length_append, List.length_map, List.length_take, List.length_cons, List.length_nil]; omega)) [wrap64, a0, a1, R1.len]
    refine RetK.keep (hk _ _ ⟨rfl, ?_⟩)
    congr 1
    rw [Bool.eq_iff_iff, decide_eq_true_iff, decide_eq_true_iff]
    exact ⟨fun h3 => ⟨a0, by omega, by omega, hall⟩, fun h3 => by have := h3.p3; omega⟩

end Go.Proofs.YtonjglbachhdcaaGreat

/-
  What expressions are worth, by the program and by the reference. Printed by a program.
-/
namespace Go.Proofs.YtonjglbachhdcaaGreat
open Go
set_option linter.all false
set_option linter.unusedVariables false
set_option linter.unusedSimpArgs false
set_option linter.defProp false
set_option maxRecDepth 1000000

theorem c_truth {h : Heap} {b : Bool} : CallE Tryz.prog fn_impl_truth [.bool b] h (fun u h' => h' = h ∧ u = .int .i64 (if b then 1 else 0)) := by
  refine CallE.gen fun k hk => EN_impl_truth rfl ?_
  cases b
  · simp -implicitDefEqProofs (disch := first | omega | (simp only [List.length_set, List.length_replicate, List.length_append, List.length_map, List.length_take, List.length_cons, List.length_nil]; omega)) [wrap64]
    exact RetK.keep (hk _ _ ⟨rfl, rfl⟩)
  · simp -implicitDefEqProofs (disch := first | omega | (simp only [List.length_set, List.length_replicate, List.length_append, List.length_map, List.length_take, List.length_cons, List.length_nil]; omega)) [wrap64]
    exact RetK.keep (hk _ _ ⟨rfl, rfl⟩)
theorem c_l1Bool {h : Heap} {b : Bool} : CallE Tryz.prog fn_spec_l1Bool [.bool b] h (fun u h' => h' = h ∧ u = .int .i64 (if b then 1 else 0)) := by
  refine CallE.gen fun k hk => EN_spec_l1Bool rfl ?_
  cases b
  · simp -implicitDefEqProofs (disch := first | omega | (simp only [List.length_set, List.length_replicate, List.length_append, List.length_map, List.length_take, List.length_cons, List.length_nil]; omega)) [wrap64]
    exact RetK.keep (hk _ _ ⟨rfl, rfl⟩)
  · simp -implicitDefEqProofs (disch := first | omega | (simp only [List.length_set, List.length_replicate, List.length_append, List.length_map, List.length_take, List.length_cons, List.length_nil]; omega)) [wrap64]
    exact RetK.keep (hk _ _ ⟨rfl, rfl⟩)

theorem c_eval : ∀ (n : Nat) {x : Exq} {h : Heap} {v w : Value} {vs : List Int}, VOk vs → x.Shp n → Rep h v x → Rep h w vs → CallE Tryz.prog fn_impl_Expr_eval [v, w] h (fun u h' => h' = h ∧ u = .int .i64 (x.ev vs)) := by
  intro n
  induction n with
  | zero => intro x h v w vs _ hs; exact hs.elim
  | succ n ih0 =>
  intro x h v w vs hv hs R Rw
  have ih : ∀ {y : Exq} {h : Heap} {u : Value}, y.Shp n → Rep h u y → Rep h w vs → CallE Tryz.prog fn_impl_Expr_eval [u, w] h (fun u h' => h' = h ∧ u = .int .i64 (y.ev vs)) := fun a b c => ih0 hv a b c
  obtain ⟨wk, rfl, k1, k2, R1⟩ := Rep_Exq.1 R
  have hL := R1.lt
  have hev := x.ev_eq (vs := vs)
  have har := hs.1.ar
  have hlo := hs.1.lo
  have hhi := hs.1.hi
  have hkd := hs.1.kind
  have hvl := hv.len
  refine CallE.gen fun k hk => EN_impl_Expr_eval rfl ?_
  by_cases c1 : x.kind = 1
  · simp -implicitDefEqProofs (disch := first | omega | (simp only [List.length_set, List.length_replicate, List.length_append, List.length_map, List.length_take, List.length_cons, List.length_nil]; omega)) [wrap64, c1]
    exact RetK.keep (hk _ _ ⟨rfl, by rw [hev]; simp [Exq.evk, c1]⟩)
  by_cases c2 : x.kind = 2
  · rw [c2] at hhi
    simp [Exq.most] at hhi
    obtain ⟨q, hq⟩ : ∃ q : Nat, x.val = q := ⟨x.val.toNat, by omega⟩
    simp -implicitDefEqProofs (disch := first | omega | (simp only [List.length_set, List.length_replicate, List.length_append, List.length_map, List.length_take, List.length_cons, List.length_nil]; omega)) [wrap64, c2, hq, Rw.I]
    refine RetK.keep (hk _ _ ⟨rfl, ?_⟩)
    have hg : vs.getD q 0 = vs[q]'(by omega) := by rw [List.getD_eq_getElem?_getD, List.getElem?_eq_getElem (by omega)]; rfl
    rw [hev, ← hg]
    simp [Exq.evk, c2, hq]
  by_cases c3 : x.kind = 3
  · have hl : x.kids.length = 1 := by
      rw [c3] at har; simp [Exq.arity] at har; omega
    obtain ⟨u0, hu0, Ru0⟩ := R1.ld (i := 0) (by omega)
    change hload _ (some (elp 3 wk 0)) (some 3) = some u0 at hu0
    simp -implicitDefEqProofs (disch := first | omega | (simp only [List.length_set, List.length_replicate, List.length_append, List.length_map, List.length_take, List.length_cons, List.length_nil]; omega)) [wrap64, c1, c2, c3, R1.X (n := 3) rfl, hu0]
    refine (ih (hs.kid (i := 0) (by omega)) Ru0 Rw).go ?_
    rintro _ h ⟨rfl, rfl⟩
    simp -implicitDefEqProofs (disch := first | omega | (simp only [List.length_set, List.length_replicate, List.length_append, List.length_map, List.length_take, List.length_cons, List.length_nil]; omega)) [wrap64, c3]
    refine c_truth.go ?_
    rintro _ h ⟨rfl, rfl⟩
    simp -implicitDefEqProofs (disch := first | omega | (simp only [List.length_set, List.length_replicate, List.length_append, List.length_map, List.length_take, List.length_cons, List.length_nil]; omega)) [wrap64]
    refine RetK.keep (hk _ _ ⟨rfl, ?_⟩)
    rw [hev, Exq.kev_at (by omega)]
    simp [Exq.evk, c3, Exq.tr]
  have hl : x.kids.length = 2 := by
    unfold Exq.arity at har
    rw [if_neg (by omega), if_neg c3, if_pos (by omega)] at har; omega
  obtain ⟨u0, hu0, Ru0⟩ := R1.ld (i := 0) (by omega)
  change hload _ (some (elp 3 wk 0)) (some 3) = some u0 at hu0
  obtain ⟨u1, hu1, Ru1⟩ := R1.ld (i := 1) (by omega)
  change hload _ (some (elp 3 wk 1)) (some 3) = some u1 at hu1
  have b0 := Exq.ev_bnd hv (hs.kid (i := 0) (by omega))
  have b1 := Exq.ev_bnd hv (hs.kid (i := 1) (by omega))
  rw [Exq.kev_at (by omega), Exq.kev_at (by omega)] at hev
  simp -implicitDefEqProofs (disch := first | omega | (simp only [List.length_set, List.length_replicate, List.length_append, List.length_map, List.length_take, List.length_cons, List.length_nil]; omega)) [wrap64, c1, c2, c3, R1.X (n := 3) rfl, hu0]
  refine (ih (hs.kid (i := 0) (by omega)) Ru0 Rw).go ?_
  rintro _ h ⟨rfl, rfl⟩
  simp -implicitDefEqProofs (disch := first | omega | (simp only [List.length_set, List.length_replicate, List.length_append, List.length_map, List.length_take, List.length_cons, List.length_nil]; omega)) [wrap64, c3, R1.X (n := 3) rfl, hu1]
  refine (ih (hs.kid (i := 1) (by omega)) Ru1 Rw).go ?_
  rintro _ h ⟨rfl, rfl⟩
  obtain ⟨a, ha⟩ : ∃ a, a = x.kids[0].ev vs := ⟨_, rfl⟩
  obtain ⟨b, hb⟩ : ∃ b, b = x.kids[1].ev vs := ⟨_, rfl⟩
  rw [← ha] at b0 hev ⊢
  rw [← hb] at b1 hev ⊢
  by_cases c4 : x.kind = 4
  · by_cases d1 : a = 0
    all_goals
      simp -implicitDefEqProofs (disch := first | omega | (simp only [List.length_set, List.length_replicate, List.length_append, List.length_map, List.length_take, List.length_cons, List.length_nil]; omega)) [wrap64, c4, d1]
      refine c_truth.go ?_
      rintro _ h ⟨rfl, rfl⟩
      simp -implicitDefEqProofs (disch := first | omega | (simp only [List.length_set, List.length_replicate, List.length_append, List.length_map, List.length_take, List.length_cons, List.length_nil]; omega)) [wrap64]
      exact RetK.keep (hk _ _ ⟨rfl, by rw [hev]; simp [Exq.evk, c4, d1, Exq.tr]⟩)
  by_cases c5 : x.kind = 5
  · by_cases d1 : a = 0
    all_goals
      simp -implicitDefEqProofs (disch := first | omega | (simp only [List.length_set, List.length_replicate, List.length_append, List.length_map, List.length_take, List.length_cons, List.length_nil]; omega)) [wrap64, c5, d1]
      refine c_truth.go ?_
      rintro _ h ⟨rfl, rfl⟩
      simp -implicitDefEqProofs (disch := first | omega | (simp only [List.length_set, List.length_replicate, List.length_append, List.length_map, List.length_take, List.length_cons, List.length_nil]; omega)) [wrap64]
      exact RetK.keep (hk _ _ ⟨rfl, by rw [hev]; simp [Exq.evk, c5, d1, Exq.tr]⟩)
  by_cases c6 : x.kind = 6
  · simp -implicitDefEqProofs (disch := first | omega | (simp only [List.length_set, List.length_replicate, List.length_append, List.length_map, List.length_take, List.length_cons, List.length_nil]; omega)) [wrap64, c6]
    refine c_truth.go ?_
    rintro _ h ⟨rfl, rfl⟩
    simp -implicitDefEqProofs (disch := first | omega | (simp only [List.length_set, List.length_replicate, List.length_append, List.length_map, List.length_take, List.length_cons, List.length_nil]; omega)) [wrap64]
    exact RetK.keep (hk _ _ ⟨rfl, by rw [hev]; simp [Exq.evk, c6, Exq.tr]⟩)
  by_cases c7 : x.kind = 7
  · simp -implicitDefEqProofs (disch := first | omega | (simp only [List.length_set, List.length_replicate, List.length_append, List.length_map, List.length_take, List.length_cons, List.length_nil]; omega)) [wrap64, c7]
    refine c_truth.go ?_
    rintro _ h ⟨rfl, rfl⟩
    simp -implicitDefEqProofs (disch := first | omega | (simp only [List.length_set, List.length_replicate, List.length_append, List.length_map, List.length_take, List.length_cons, List.length_nil]; omega)) [wrap64]
    exact RetK.keep (hk _ _ ⟨rfl, by rw [hev]; simp [Exq.evk, c7, Exq.tr]⟩)
  by_cases c8 : x.kind = 8
  · simp -implicitDefEqProofs (disch := first | omega | (simp only [List.length_set, List.length_replicate, List.length_append, List.length_map, List.length_take, List.length_cons, List.length_nil]; omega)) [wrap64, c8]
    exact RetK.keep (hk _ _ ⟨rfl, by rw [hev]; simp [Exq.evk, c8]⟩)
  simp -implicitDefEqProofs (disch := first | omega | (simp only [List.length_set, List.length_replicate, List.length_append, List.length_map, List.length_take, List.length_cons, List.length_nil]; omega)) [wrap64, c4, c5, c6, c7, c8]
  refine RetK.keep (hk _ _ ⟨rfl, ?_⟩)
  rw [hev]
  simp only [Exq.evk, c1, c2, c3, c4, c5, c6, c7, c8, if_false]
  congr 2
  omega

theorem c_l1Eval : ∀ (n : Nat) {x : Exq} {h : Heap} {v w : Value} {vs : List Int}, VOk vs → x.Shp n → Rep h v x → Rep h w vs → CallE Tryz.prog fn_spec_l1Eval [v, w] h (fun u h' => h' = h ∧ u = .int .i64 (x.ev vs)) := by
  intro n
  induction n with
  | zero => intro x h v w vs _ hs; exact hs.elim
  | succ n ih0 =>
  intro x h v w vs hv hs R Rw
  have ih : ∀ {y : Exq} {h : Heap} {u : Value}, y.Shp n → Rep h u y → Rep h w vs → CallE Tryz.prog fn_spec_l1Eval [u, w] h (fun u h' => h' = h ∧ u = .int .i64 (y.ev vs)) := fun a b c => ih0 hv a b c
  obtain ⟨wk, rfl, k1, k2, R1⟩ := Rep_Exq.1 R
  have hL := R1.lt
  have hev := x.ev_eq (vs := vs)
  have har := hs.1.ar
  have hlo := hs.1.lo
  have hhi := hs.1.hi
  have hkd := hs.1.kind
  have hvl := hv.len
  refine CallE.gen fun k hk => EN_spec_l1Eval rfl ?_
  by_cases c1 : x.kind = 1
  · simp -implicitDefEqProofs (disch := first | omega | (simp only [List.length_set, List.length_replicate, List.length_append, List.length_map, List.length_take, List.length_cons, List.length_nil]; omega)) [wrap64, c1]
    exact RetK.keep (hk _ _ ⟨rfl, by rw [hev]; simp [Exq.evk, c1]⟩)
  by_cases c2 : x.kind = 2
  · rw [c2] at hhi
    simp [Exq.most] at hhi
    obtain ⟨q, hq⟩ : ∃ q : Nat, x.val = q := ⟨x.val.toNat, by omega⟩
    simp -implicitDefEqProofs (disch := first | omega | (simp only [List.length_set, List.length_replicate, List.length_append, List.length_map, List.length_take, List.length_cons, List.length_nil]; omega)) [wrap64, c2, hq, Rw.I]
    refine RetK.keep (hk _ _ ⟨rfl, ?_⟩)
    have hg : vs.getD q 0 = vs[q]'(by omega) := by rw [List.getD_eq_getElem?_getD, List.getElem?_eq_getElem (by omega)]; rfl
    rw [hev, ← hg]
    simp [Exq.evk, c2, hq]
  by_cases c3 : x.kind = 3
  · have hl : x.kids.length = 1 := by
      rw [c3] at har; simp [Exq.arity] at har; omega
    obtain ⟨u0, hu0, Ru0⟩ := R1.ld (i := 0) (by omega)
    change hload _ (some (elp 3 wk 0)) (some 3) = some u0 at hu0
    simp -implicitDefEqProofs (disch := first | omega | (simp only [List.length_set, List.length_replicate, List.length_append, List.length_map, List.length_take, List.length_cons, List.length_nil]; omega)) [wrap64, c1, c2, c3, R1.X (n := 3) rfl, hu0]
    refine (ih (hs.kid (i := 0) (by omega)) Ru0 Rw).go ?_
    rintro _ h ⟨rfl, rfl⟩
    simp -implicitDefEqProofs (disch := first | omega | (simp only [List.length_set, List.length_replicate, List.length_append, List.length_map, List.length_take, List.length_cons, List.length_nil]; omega)) [wrap64, c3]
    refine c_l1Bool.go ?_
    rintro _ h ⟨rfl, rfl⟩
    simp -implicitDefEqProofs (disch := first | omega | (simp only [List.length_set, List.length_replicate, List.length_append, List.length_map, List.length_take, List.length_cons, List.length_nil]; omega)) [wrap64]
    refine RetK.keep (hk _ _ ⟨rfl, ?_⟩)
    rw [hev, Exq.kev_at (by omega)]
    simp [Exq.evk, c3, Exq.tr]
  have hl : x.kids.length = 2 := by
    unfold Exq.arity at har
    rw [if_neg (by omega), if_neg c3, if_pos (by omega)] at har; omega
  obtain ⟨u0, hu0, Ru0⟩ := R1.ld (i := 0) (by omega)
  change hload _ (some (elp 3 wk 0)) (some 3) = some u0 at hu0
  obtain ⟨u1, hu1, Ru1⟩ := R1.ld (i := 1) (by omega)
  change hload _ (some (elp 3 wk 1)) (some 3) = some u1 at hu1
  have b0 := Exq.ev_bnd hv (hs.kid (i := 0) (by omega))
  have b1 := Exq.ev_bnd hv (hs.kid (i := 1) (by omega))
  rw [Exq.kev_at (by omega), Exq.kev_at (by omega)] at hev
  simp -implicitDefEqProofs (disch := first | omega | (simp only [List.length_set, List.length_replicate, List.length_append, List.length_map, List.length_take, List.length_cons, List.length_nil]; omega)) [wrap64, c1, c2, c3, R1.X (n := 3) rfl, hu0]
  refine (ih (hs.kid (i := 0) (by omega)) Ru0 Rw).go ?_
  rintro _ h ⟨rfl, rfl⟩
  simp -implicitDefEqProofs (disch := first | omega | (simp only [List.length_set, List.length_replicate, List.length_append, List.length_map, List.length_take, List.length_cons, List.length_nil]; omega)) [wrap64, c3, R1.X (n := 3) rfl, hu1]
  refine (ih (hs.kid (i := 1) (by omega)) Ru1 Rw).go ?_
  rintro _ h ⟨rfl, rfl⟩
  obtain ⟨a, ha⟩ : ∃ a, a = x.kids[0].ev vs := ⟨_, rfl⟩
  obtain ⟨b, hb⟩ : ∃ b, b = x.kids[1].ev vs := ⟨_, rfl⟩
  rw [← ha] at b0 hev ⊢
  rw [← hb] at b1 hev ⊢
  by_cases c4 : x.kind = 4
  · by_cases d1 : a = 0
    all_goals
      simp -implicitDefEqProofs (disch := first | omega | (simp only [List.length_set, List.length_replicate, List.length_append, List.length_map, List.length_take, List.length_cons, List.length_nil]; omega)) [wrap64, c4, d1]
      refine c_l1Bool.go ?_
      rintro _ h ⟨rfl, rfl⟩
      simp -implicitDefEqProofs (disch := first | omega | (simp only [List.length_set, List.length_replicate, List.length_append, List.length_map, List.length_take, List.length_cons, List.length_nil]; omega)) [wrap64]
      exact RetK.keep (hk _ _ ⟨rfl, by rw [hev]; simp [Exq.evk, c4, d1, Exq.tr]⟩)
  by_cases c5 : x.kind = 5
  · by_cases d1 : a = 0
    all_goals
      simp -implicitDefEqProofs (disch := first | omega | (simp only [List.length_set, List.length_replicate, List.length_append, List.length_map, List.length_take, List.length_cons, List.length_nil]; omega)) [wrap64, c5, d1]
      refine c_l1Bool.go ?_
      rintro _ h ⟨rfl, rfl⟩
      simp -implicitDefEqProofs (disch := first | omega | (simp only [List.length_set, List.length_replicate, List.length_append, List.length_map, List.length_take, List.length_cons, List.length_nil]; omega)) [wrap64]
      exact RetK.keep (hk _ _ ⟨rfl, by rw [hev]; simp [Exq.evk, c5, d1, Exq.tr]⟩)
  by_cases c6 : x.kind = 6
  · simp -implicitDefEqProofs (disch := first | omega | (simp only [List.length_set, List.length_replicate, List.length_append, List.length_map, List.length_take, List.length_cons, List.length_nil]; omega)) [wrap64, c6]
    refine c_l1Bool.go ?_
    rintro _ h ⟨rfl, rfl⟩
    simp -implicitDefEqProofs (disch := first | omega | (simp only [List.length_set, List.length_replicate, List.length_append, List.length_map, List.length_take, List.length_cons, List.length_nil]; omega)) [wrap64]
    exact RetK.keep (hk _ _ ⟨rfl, by rw [hev]; simp [Exq.evk, c6, Exq.tr]⟩)
  by_cases c7 : x.kind = 7
  · simp -implicitDefEqProofs (disch := first | omega | (simp only [List.length_set, List.length_replicate, List.length_append, List.length_map, List.length_take, List.length_cons, List.length_nil]; omega)) [wrap64, c7]
    refine c_l1Bool.go ?_
    rintro _ h ⟨rfl, rfl⟩
    simp -implicitDefEqProofs (disch := first | omega | (simp only [List.length_set, List.length_replicate, List.length_append, List.length_map, List.length_take, List.length_cons, List.length_nil]; omega)) [wrap64]
    exact RetK.keep (hk _ _ ⟨rfl, by rw [hev]; simp [Exq.evk, c7, Exq.tr]⟩)
  by_cases c8 : x.kind = 8
  · simp -implicitDefEqProofs (disch := first | omega | (simp only [List.length_set, List.length_replicate, List.length_append, List.length_map, List.length_take, List.length_cons, List.length_nil]; omega)) [wrap64, c8]
    exact RetK.keep (hk _ _ ⟨rfl, by rw [hev]; simp [Exq.evk, c8]⟩)
  simp -implicitDefEqProofs (disch := first | omega | (simp only [List.length_set, List.length_replicate, List.length_append, List.length_map, List.length_take, List.length_cons, List.length_nil]; omega)) [wrap64, c4, c5, c6, c7, c8]
  refine RetK.keep (hk _ _ ⟨rfl, ?_⟩)
  rw [hev]
  simp only [Exq.evk, c1, c2, c3, c4, c5, c6, c7, c8, if_false]
  congr 2
  omega

end Go.Proofs.YtonjglbachhdcaaGreat

/-
  The program's data: how they lie in cells, how much they hold, how they are marked. Printed by a program.
-/
namespace Go.Proofs.YtonjglbachhdcaaGreat
open Go
set_option linter.all false
set_option linter.unusedVariables false
set_option linter.unusedSimpArgs false
set_option linter.defProp false
set_option maxRecDepth 1000000

structure Sta where
  locs : List Int
  vals : List Int
deriving DecidableEq

instance instTySta : Ty Sta := Ty.via fun (s : Sta) => (s.locs, s.vals)
theorem Sta.ext_iff' {a b : Sta} : a = b ↔ a.locs = b.locs ∧ a.vals = b.vals := by
  cases a; cases b; simp
theorem Rep_Sta {h : Heap} {v : Value} {a : Sta} : Rep h v a ↔ ∃ v1 v2, v = .agg #[v1, v2] ∧ Rep h v1 a.locs ∧ Rep h v2 a.vals := by
  constructor
  · rintro ⟨cs, rfl, c0, d0, rfl, h1, h2⟩
    obtain ⟨v1, rfl, g1⟩ := (rep1 rfl).1 h1
    obtain ⟨v2, rfl, g2⟩ := (rep1 rfl).1 h2
    exact ⟨v1, v2, rfl, g1, g2⟩
  · rintro ⟨v1, v2, rfl, h1, h2⟩
    exact ⟨[v1, v2], rfl, ⟨[v1], [v2], rfl, (rep1 rfl).2 ⟨_, rfl, h1⟩, (rep1 rfl).2 ⟨_, rfl, h2⟩⟩⟩
theorem HS.unSta {g h : Heap} {Γ : List HP} {v : Value} {a : Sta} (H : HS g (ow v a :: Γ) h) : ∃ v1 v2, v = .agg #[v1, v2] ∧ HS g (ow v1 a.locs :: ow v2 a.vals :: Γ) h := by
  obtain ⟨cs, rfl, H0⟩ := HS.unvia (fun (s : Sta) => (s.locs, s.vals)) H
  try dsimp only at H0
  obtain ⟨c0, e0, rfl, H1a⟩ := HS.unprod H0
  obtain ⟨v1, rfl, H1b⟩ := HS.unone rfl H1a
  have H1 := H1b.sw1
  obtain ⟨v2, rfl, HL⟩ := HS.unone rfl H1
  exact ⟨v1, v2, rfl, HL.sw1⟩
theorem HS.mkSta {g h : Heap} {Γ : List HP} {v1 v2 : Value} {a : Sta} (H : HS g (ow v1 a.locs :: ow v2 a.vals :: Γ) h) : HS g (ow (.agg #[v1, v2]) a :: Γ) h := by
  refine HS.via (fun (s : Sta) => (s.locs, s.vals)) ?_
  exact HS.prod rfl (H.under fun _ H => HS.one rfl H)
theorem Rep.aSta {h : Heap} {v : Value} {x : Sta} (hr : Rep h v x) : pgetV (some v) 0 (some 2) = some v ∧ v.cells.size = 2 ∧ allOne v.cells.toList = true ∧ Value.agg v.cells = v := hr.A rfl rfl
instance instSzSta : Sz Sta := ⟨fun a => Sz.sz a.locs + Sz.sz a.vals⟩
instance instMkSta : Mk Sta := ⟨fun a => Mk.cnt a.locs + Mk.cnt a.vals,
  fun k a => ⟨Mk.wr (k) a.locs, Mk.wr (k + Mk.cnt a.locs) a.vals⟩,
  fun k a => by simp [Mk.cnt_wr], fun k j a => by simp [Mk.cnt_wr, Mk.wr_wr]⟩

structure Gr where
  states : List Sta
  next : List (List Int)
deriving DecidableEq

instance instTyGr : Ty Gr := Ty.via fun (g : Gr) => (g.states, g.next)
theorem Gr.ext_iff' {a b : Gr} : a = b ↔ a.states = b.states ∧ a.next = b.next := by
  cases a; cases b; simp
theorem Rep_Gr {h : Heap} {v : Value} {a : Gr} : Rep h v a ↔ ∃ v1 v2, v = .agg #[v1, v2] ∧ Rep h v1 a.states ∧ Rep h v2 a.next := by
  constructor
  · rintro ⟨cs, rfl, c0, d0, rfl, h1, h2⟩
    obtain ⟨v1, rfl, g1⟩ := (rep1 rfl).1 h1
    obtain ⟨v2, rfl, g2⟩ := (rep1 rfl).1 h2
    exact ⟨v1, v2, rfl, g1, g2⟩
  · rintro ⟨v1, v2, rfl, h1, h2⟩
    exact ⟨[v1, v2], rfl, ⟨[v1], [v2], rfl, (rep1 rfl).2 ⟨_, rfl, h1⟩, (rep1 rfl).2 ⟨_, rfl, h2⟩⟩⟩
theorem HS.mkGr {g h : Heap} {Γ : List HP} {v1 v2 : Value} {a : Gr} (H : HS g (ow v1 a.states :: ow v2 a.next :: Γ) h) : HS g (ow (.agg #[v1, v2]) a :: Γ) h := by
  refine HS.via (fun (g : Gr) => (g.states, g.next)) ?_
  exact HS.prod rfl (H.under fun _ H => HS.one rfl H)
theorem Rep.aGr {h : Heap} {v : Value} {x : Gr} (hr : Rep h v x) : pgetV (some v) 0 (some 2) = some v ∧ v.cells.size = 2 ∧ allOne v.cells.toList = true ∧ Value.agg v.cells = v := hr.A rfl rfl
instance instSzGr : Sz Gr := ⟨fun a => Sz.sz a.states + Sz.sz a.next⟩
instance instMkGr : Mk Gr := ⟨fun a => Mk.cnt a.states + Mk.cnt a.next,
  fun k a => ⟨Mk.wr (k) a.states, Mk.wr (k + Mk.cnt a.states) a.next⟩,
  fun k a => by simp [Mk.cnt_wr], fun k j a => by simp [Mk.cnt_wr, Mk.wr_wr]⟩

structure Stp where
  proc : Int
  edge : Int
  partner : Int
  pedge : Int
deriving DecidableEq

instance instTyStp : Ty Stp := Ty.via fun (s : Stp) => (s.proc, s.edge, s.partner, s.pedge)
theorem Stp.ext_iff' {a b : Stp} : a = b ↔ a.proc = b.proc ∧ a.edge = b.edge ∧ a.partner = b.partner ∧ a.pedge = b.pedge := by
  cases a; cases b; simp
instance instFlatStp : Flat Stp := Flat.via fun (s : Stp) => (s.proc, s.edge, s.partner, s.pedge)
def Stp.v (s : Stp) : Value := .agg #[.int .i64 s.proc, .int .i64 s.edge, .int .i64 s.partner, .int .i64 s.pedge]
structure Stp.ok (s : Stp) : Prop where
  proc : -9223372036854775808 ≤ s.proc ∧ s.proc < 9223372036854775808
  edge : -9223372036854775808 ≤ s.edge ∧ s.edge < 9223372036854775808
  partner : -9223372036854775808 ≤ s.partner ∧ s.partner < 9223372036854775808
  pedge : -9223372036854775808 ≤ s.pedge ∧ s.pedge < 9223372036854775808
theorem Stp.ok_iff {s : Stp} : Flat.ok s ↔ s.ok := ⟨fun h => ⟨h.1, h.2.1, h.2.2.1, h.2.2.2⟩, fun h => ⟨h.proc, h.edge, h.partner, h.pedge⟩⟩
theorem Rep_Stp {h : Heap} {v : Value} {s : Stp} : Rep h v s ↔ v = s.v ∧ s.ok := by rw [Rep_flat, Stp.ok_iff]; rfl
theorem Rep.ldStp {h : Heap} {v : Value} {l : List Stp} (hr : Rep h v l) {i : Nat} (hi : i < l.length) : hload h (some (elp 4 v i)) (some 4) = some l[i].v := hr.ldF hi
theorem Rep.okStp {h : Heap} {v : Value} {l : List Stp} (hr : Rep h v l) {i : Nat} (hi : i < l.length) : l[i].ok := Stp.ok_iff.1 (hr.okF hi)
theorem Rep.xStp {h : Heap} {v : Value} {l : List Stp} (hr : Rep h v l) : ((∀ (kd : IntKind) (i : Nat), i < l.length → iaV 4 v (.int kd i) = some (elp 4 v i)) ∧ (∀ (kd : IntKind) (i : Int), 0 ≤ i → i < l.length → iaV 4 v (.int kd i) = some (elp 4 v i.toNat)) ∧ lenVV v = some (.int .i64 l.length)) ∧
    ∀ (i : Nat) (hi : i < l.length), hload h (some (elp 4 v i)) (some 4) = some l[i].v := ⟨hr.X rfl, fun _ hi => hr.ldStp hi⟩
theorem Rep.aStp {h : Heap} {v : Value} {x : Stp} (hr : Rep h v x) : pgetV (some v) 0 (some 4) = some v ∧ v.cells.size = 4 ∧ allOne v.cells.toList = true ∧ Value.agg v.cells = v := hr.A rfl rfl
instance instSzStp : Sz Stp := ⟨fun a => Sz.sz a.proc + Sz.sz a.edge + Sz.sz a.partner + Sz.sz a.pedge⟩
instance instMkStp : Mk Stp := ⟨fun a => Mk.cnt a.proc + Mk.cnt a.edge + Mk.cnt a.partner + Mk.cnt a.pedge,
  fun k a => ⟨Mk.wr (k) a.proc, Mk.wr (k + Mk.cnt a.proc) a.edge, Mk.wr (k + Mk.cnt a.proc + Mk.cnt a.edge) a.partner, Mk.wr (k + Mk.cnt a.proc + Mk.cnt a.edge + Mk.cnt a.partner) a.pedge⟩,
  fun k a => by simp [Mk.cnt_wr], fun k j a => by simp [Mk.cnt_wr, Mk.wr_wr]⟩

end Go.Proofs.YtonjglbachhdcaaGreat

/-
  Whether the marks in lists of numbers are still held.
-/
namespace Go.Proofs.YtonjglbachhdcaaGreat
open Go
set_option linter.all false
set_option linter.unusedVariables false
set_option linter.unusedSimpArgs false
set_option linter.defProp false
set_option maxRecDepth 1000000

end Go.Proofs.YtonjglbachhdcaaGreat

/-
  What the helpers of the laws do: copying, counting, comparing, marking. Printed by a program.
-/
namespace Go.Proofs.YtonjglbachhdcaaGreat
open Go
set_option linter.all false
set_option linter.unusedVariables false
set_option linter.unusedSimpArgs false
set_option linter.defProp false
set_option maxRecDepth 1000000

def Sta.zero : Sta := ⟨[], []⟩
end Go.Proofs.YtonjglbachhdcaaGreat

/-
  Instances of functions over slices: copies, and whether some element meets a condition. Printed by a program.
-/
namespace Go.Proofs.YtonjglbachhdcaaGreat
open Go
set_option linter.all false
set_option linter.unusedVariables false
set_option linter.unusedSimpArgs false
set_option linter.defProp false
set_option maxRecDepth 1000000

theorem c_IndexFunc_impl_State {h : Heap} {a fv : Value} {x : List (Sta)} (Ra : Rep h a x) {f : FuncId} {c1 c2 : List Value} (hf : fnOf fv = some (f, c1, c2)) (p : (Sta) → Bool)
    (hp : ∀ h1, h.le h1 → ∀ (i : Nat) (hi : i < x.length) (u : Value), Rep h1 u x[i] → CallE Tryz.prog f (c1 ++ u :: c2) h1 (fun v h' => h1.le h' ∧ v = .bool (p x[i]))) :
    CallE Tryz.prog fn_slices_IndexFunc_S_impl_State_impl_State [a, fv] h (fun v h' => h.le h' ∧ v = .int .i64 (match x.findIdx? p with | some i => (i : Int) | none => -1)) := by
  refine CallE.gen fun k hk => EN_slices_IndexFunc_S_impl_State_impl_State rfl ?_
  have hL := Ra.lt
  simp -implicitDefEqProofs (disch := first | omega | (simp only [List.length_set, List.length_replicate, List.length_append, List.length_map, List.length_take, List.length_cons, List.length_nil]; omega)) [wrap64, Ra.len]
  refine wp_count x.length (fun i e h' => e = [some a, some fv, none, none, some (.int .i64 x.length), some (.int .i64 i)] ∧ h.le h' ∧ ∀ (j : Nat) (hj : j < x.length), j < i → p x[j] = false) ⟨rfl, Heap.le.refl h, fun j _ hj => absurd hj (Nat.not_lt_zero j)⟩ ?_
  rintro J i _ h1 hJ hi ⟨rfl, hl, hn⟩
  simp -implicitDefEqProofs (disch := first | omega | (simp only [List.length_set, List.length_replicate, List.length_append, List.length_map, List.length_take, List.length_cons, List.length_nil]; omega)) [wrap64]
  refine IteW.mk (fun hlt => ?_) (fun hge => ?_)
  · have hlx : i < x.length := by omega
    obtain ⟨u, hu, Ru⟩ := (Ra.le hl).ld hlx
    change hload _ (some (elp 2 a i)) (some 2) = some u at hu
    simp -implicitDefEqProofs (disch := first | omega | (simp only [List.length_set, List.length_replicate, List.length_append, List.length_map, List.length_take, List.length_cons, List.length_nil]; omega)) [wrap64, (Ra.le hl).X (n := 2) rfl, hu, hf]
    refine (hp h1 hl i hlx u Ru).go ?_
    rintro _ h2 ⟨hl2, rfl⟩
    simp -implicitDefEqProofs (disch := first | omega | (simp only [List.length_set, List.length_replicate, List.length_append, List.length_map, List.length_take, List.length_cons, List.length_nil]; omega)) [wrap64]
    refine IteW.mk (fun hq => ?_) (fun hq => ?_)
    · simp -implicitDefEqProofs (disch := first | omega | (simp only [List.length_set, List.length_replicate, List.length_append, List.length_map, List.length_take, List.length_cons, List.length_nil]; omega)) [wrap64]
      refine RetK.keep (hk _ _ ⟨hl.trans hl2, ?_⟩)
      have h3 : x.findIdx? p = some i := by
        rw [List.findIdx?_eq_some_iff_getElem]
        exact ⟨hlx, hq, fun j hj => by rw [hn j (by omega) hj]; simp⟩
      rw [h3]
    · simp -implicitDefEqProofs (disch := first | omega | (simp only [List.length_set, List.length_replicate, List.length_append, List.length_map, List.length_take, List.length_cons, List.length_nil]; omega)) [wrap64]
      refine hJ _ _ hlx ⟨rfl, hl.trans hl2, fun j hj hji => ?_⟩
      by_cases hji2 : j = i
      · subst hji2; simpa using hq
      · exact hn j hj (by omega)
  · simp -implicitDefEqProofs (disch := first | omega | (simp only [List.length_set, List.length_replicate, List.length_append, List.length_map, List.length_take, List.length_cons, List.length_nil]; omega)) [wrap64]
    refine RetK.keep (hk _ _ ⟨hl, ?_⟩)
    have h3 : x.findIdx? p = none := by
      rw [List.findIdx?_eq_none_iff]
      intro y hy
      obtain ⟨j, hj, rfl⟩ := List.mem_iff_getElem.1 hy
      exact hn j hj (by omega)
    rw [h3]

theorem c_ContainsFunc_impl_State {h : Heap} {a fv : Value} {x : List (Sta)} (Ra : Rep h a x) {f : FuncId} {c1 c2 : List Value} (hf : fnOf fv = some (f, c1, c2)) (p : (Sta) → Bool)
    (hp : ∀ h1, h.le h1 → ∀ (i : Nat) (hi : i < x.length) (u : Value), Rep h1 u x[i] → CallE Tryz.prog f (c1 ++ u :: c2) h1 (fun v h' => h1.le h' ∧ v = .bool (p x[i]))) :
    CallE Tryz.prog fn_slices_ContainsFunc_S_impl_State_impl_State [a, fv] h (fun v h' => h.le h' ∧ v = .bool (x.any p)) := by
  refine CallE.gen fun k hk => EN_slices_ContainsFunc_S_impl_State_impl_State rfl ?_
  simp -implicitDefEqProofs (disch := first | omega | (simp only [List.length_set, List.length_replicate, List.length_append, List.length_map, List.length_take, List.length_cons, List.length_nil]; omega)) [wrap64]
  refine (c_IndexFunc_impl_State Ra hf p hp).go ?_
  rintro _ h1 ⟨hl, rfl⟩
  simp -implicitDefEqProofs (disch := first | omega | (simp only [List.length_set, List.length_replicate, List.length_append, List.length_map, List.length_take, List.length_cons, List.length_nil]; omega)) [wrap64]
  refine RetK.keep (hk _ _ ⟨hl, ?_⟩)
  congr 1
  rw [← List.findIdx?_isSome]
  cases x.findIdx? p <;> simp

theorem c_IndexFunc_S_int {h : Heap} {a fv : Value} {x : List (List Int)} (Ra : Rep h a x) {f : FuncId} {c1 c2 : List Value} (hf : fnOf fv = some (f, c1, c2)) (p : (List Int) → Bool)
    (hp : ∀ h1, h.le h1 → ∀ (i : Nat) (hi : i < x.length) (u : Value), Rep h1 u x[i] → CallE Tryz.prog f (c1 ++ u :: c2) h1 (fun v h' => h1.le h' ∧ v = .bool (p x[i]))) :
    CallE Tryz.prog fn_slices_IndexFunc_S_S_int_S_int [a, fv] h (fun v h' => h.le h' ∧ v = .int .i64 (match x.findIdx? p with | some i => (i : Int) | none => -1)) := by
  refine CallE.gen fun k hk => EN_slices_IndexFunc_S_S_int_S_int rfl ?_
  have hL := Ra.lt
  simp -implicitDefEqProofs (disch := first | omega | (simp only [List.length_set, List.length_replicate, List.length_append, List.length_map, List.length_take, List.length_cons, List.length_nil]; omega)) [wrap64, Ra.len]
  refine wp_count x.length (fun i e h' => e = [some a, some fv, none, none, some (.int .i64 x.length), some (.int .i64 i)] ∧ h.le h' ∧ ∀ (j : Nat) (hj : j < x.length), j < i → p x[j] = false) ⟨rfl, Heap.le.refl h, fun j _ hj => absurd hj (Nat.not_lt_zero j)⟩ ?_
  rintro J i _ h1 hJ hi ⟨rfl, hl, hn⟩
  simp -implicitDefEqProofs (disch := first | omega | (simp only [List.length_set, List.length_replicate, List.length_append, List.length_map, List.length_take, List.length_cons, List.length_nil]; omega)) [wrap64]
  refine IteW.mk (fun hlt => ?_) (fun hge => ?_)
  · have hlx : i < x.length := by omega
    obtain ⟨u, hu, Ru⟩ := (Ra.le hl).ld hlx
    change hload _ (some (elp 1 a i)) none = some u at hu
    simp -implicitDefEqProofs (disch := first | omega | (simp only [List.length_set, List.length_replicate, List.length_append, List.length_map, List.length_take, List.length_cons, List.length_nil]; omega)) [wrap64, (Ra.le hl).X (n := 1) rfl, hu, hf]
    refine (hp h1 hl i hlx u Ru).go ?_
    rintro _ h2 ⟨hl2, rfl⟩
    simp -implicitDefEqProofs (disch := first | omega | (simp only [List.length_set, List.length_replicate, List.length_append, List.length_map, List.length_take, List.length_cons, List.length_nil]; omega)) [wrap64]
    refine IteW.mk (fun hq => ?_) (fun hq => ?_)
    · simp -implicitDefEqProofs (disch := first | omega | (simp only [List.length_set, List.length_replicate, List.length_append, List.length_map, List.length_take, List.length_cons, List.length_nil]; omega)) [wrap64]
      refine RetK.keep (hk _ _ ⟨hl.trans hl2, ?_⟩)
      have h3 : x.findIdx? p = some i := by
        rw [List.findIdx?_eq_some_iff_getElem]
        exact ⟨hlx, hq, fun j hj => by rw [hn j (by omega) hj]; simp⟩
      rw [h3]
    · simp -implicitDefEqProofs (disch := first | omega | (simp only [List.length_set, List.length_replicate, List.length_append, List.length_map, List.length_take, List.length_cons, List.length_nil]; omega)) [wrap64]
      refine hJ _ _ hlx ⟨rfl, hl.trans hl2, fun j hj hji => ?_⟩
      by_cases hji2 : j = i
      · subst hji2; simpa using hq
      · exact hn j hj (by omega)
  · simp -implicitDefEqProofs (disch := first | omega | (simp only [List.length_set, List.length_replicate, List.length_append, List.length_map, List.length_take, List.length_cons, List.length_nil]; omega)) [wrap64]
    refine RetK.keep (hk _ _ ⟨hl, ?_⟩)
    have h3 : x.findIdx? p = none := by
      rw [List.findIdx?_eq_none_iff]
      intro y hy
      obtain ⟨j, hj, rfl⟩ := List.mem_iff_getElem.1 hy
      exact hn j hj (by omega)
    rw [h3]

theorem c_ContainsFunc_S_int {h : Heap} {a fv : Value} {x : List (List Int)} (Ra : Rep h a x) {f : FuncId} {c1 c2 : List Value} (hf : fnOf fv = some (f, c1, c2)) (p : (List Int) → Bool)
    (hp : ∀ h1, h.le h1 → ∀ (i : Nat) (hi : i < x.length) (u : Value), Rep h1 u x[i] → CallE Tryz.prog f (c1 ++ u :: c2) h1 (fun v h' => h1.le h' ∧ v = .bool (p x[i]))) :
    CallE Tryz.prog fn_slices_ContainsFunc_S_S_int_S_int [a, fv] h (fun v h' => h.le h' ∧ v = .bool (x.any p)) := by
  refine CallE.gen fun k hk => EN_slices_ContainsFunc_S_S_int_S_int rfl ?_
  simp -implicitDefEqProofs (disch := first | omega | (simp only [List.length_set, List.length_replicate, List.length_append, List.length_map, List.length_take, List.length_cons, List.length_nil]; omega)) [wrap64]
  refine (c_IndexFunc_S_int Ra hf p hp).go ?_
  rintro _ h1 ⟨hl, rfl⟩
  simp -implicitDefEqProofs (disch := first | omega | (simp only [List.length_set, List.length_replicate, List.length_append, List.length_map, List.length_take, List.length_cons, List.length_nil]; omega)) [wrap64]
  refine RetK.keep (hk _ _ ⟨hl, ?_⟩)
  congr 1
  rw [← List.findIdx?_isSome]
  cases x.findIdx? p <;> simp

end Go.Proofs.YtonjglbachhdcaaGreat

/-
  Which variables matter, by the program and by the reference.
-/
namespace Go.Proofs.YtonjglbachhdcaaGreat
open Go
set_option linter.all false
set_option linter.unusedVariables false
set_option linter.unusedSimpArgs false
set_option linter.defProp false
set_option maxRecDepth 1000000

/-- an edge's two expressions, as values -/
theorem Rep.gd {h : Heap} {e : Ed} {w1 w2 : Value} (ok : e.ok) (R1 : Rep h w1 e.guard.kids) : Rep h (.agg #[.int .i64 e.guard.kind, .int .i64 e.guard.val, w1]) e.guard := Rep_Exq.2 ⟨w1, rfl, ok.gk, ok.gv, R1⟩
theorem Rep.vl {h : Heap} {e : Ed} {w2 : Value} (ok : e.ok) (R1 : Rep h w2 e.value.kids) : Rep h (.agg #[.int .i64 e.value.kind, .int .i64 e.value.val, w2]) e.value := Rep_Exq.2 ⟨w2, rfl, ok.vk, ok.vv, R1⟩

end Go.Proofs.YtonjglbachhdcaaGreat

/-
  Marks in expressions, edges, processes, systems.
-/
namespace Go.Proofs.YtonjglbachhdcaaGreat
open Go
set_option linter.all false
set_option linter.unusedVariables false
set_option linter.unusedSimpArgs false
set_option linter.defProp false
set_option maxRecDepth 1000000

end Go.Proofs.YtonjglbachhdcaaGreat

/-
  Which variables matter: the functions of the packages. How much systems and expressions hold.
-/
namespace Go.Proofs.YtonjglbachhdcaaGreat
open Go
set_option linter.all false
set_option linter.unusedVariables false
set_option linter.unusedSimpArgs false
set_option linter.defProp false
set_option maxRecDepth 1000000

theorem HS.only {g h : Heap} {Γ : List HP} {p : HP} (H : HS g (p :: Γ) h) : HS g [p] h := by
  obtain ⟨g', r, e, d, hp, H⟩ := H
  exact ⟨g', r, e, d, hp, H.base⟩
def R2 {α : Type} [Ty α] (b : Bool) (y : α) (h : Heap) (u : Value) (h' : Heap) : Prop := ∃ v, u = .tuple #[v, .bool b] ∧ HS h [ow v y] h'

noncomputable def relR (s : Sy) (L : List Exq) : List Bool := if s.Ok ∧ LOk L then s.rel L else []
end Go.Proofs.YtonjglbachhdcaaGreat

/-
  How much states and graphs hold.
-/
namespace Go.Proofs.YtonjglbachhdcaaGreat
open Go
set_option linter.all false
set_option linter.unusedVariables false
set_option linter.unusedSimpArgs false
set_option linter.defProp false
set_option maxRecDepth 1000000

end Go.Proofs.YtonjglbachhdcaaGreat

/-
  Valid graphs; the letters of states: by the program and by the reference.
-/
namespace Go.Proofs.YtonjglbachhdcaaGreat
open Go
set_option linter.all false
set_option linter.unusedVariables false
set_option linter.unusedSimpArgs false
set_option linter.defProp false
set_option maxRecDepth 1000000

/-- the front of a list that is only read -/
theorem Rep.cut {α : Type} [Ty α] {h : Heap} {v : Value} {l : List α} (R : Rep h v l) {n esz : Nat} {k : IntKind} (hn : n ≤ l.length) : ∃ v', sliceVV esz v none (some (some (.int k n))) none = some v' ∧ Rep h v' (l.take n) := by
  obtain ⟨p, cap, rfl, h1, h2, h3⟩ := Rep_list.1 R
  have hl : (l.take n).length = n := by simp; omega
  have hc : n ≤ cap := by omega
  cases n with
  | zero =>
    cases p with
    | none =>
      refine ⟨.slice none 0 cap, ?_, Rep_list.2 ⟨none, cap, by simp, by simp, trivial, fun i hi => by simp at hi⟩⟩
      simp [sliceVV, bndV]
    | some a =>
      by_cases hz : cap = 0
      · refine ⟨.slice (some a) 0 cap, ?_, Rep_list.2 ⟨some a, cap, by simp, by simp, trivial, fun i hi => by simp at hi⟩⟩
        simp [sliceVV, bndV, hz]
      · refine ⟨.slice (some (a.add 0)) 0 cap, ?_, Rep_list.2 ⟨some (a.add 0), cap, by simp, by simp, trivial, fun i hi => by simp at hi⟩⟩
        simp [sliceVV, bndV, hz]
  | succ n =>
    obtain ⟨b, off, vs, rfl, _⟩ := h3 0 (by omega)
    refine ⟨.slice (some ⟨b, off, none⟩) (n + 1) cap, ?_, Rep_list.2 ⟨_, cap, by rw [hl], by rw [hl]; omega, trivial, fun i hi => ?_⟩⟩
    · simp [sliceVV, bndV, add_none]
      rw [if_pos (by omega)]
    · rw [hl] at hi
      obtain ⟨b', off', vs, e1, e2, e3⟩ := h3 i (by omega)
      exact ⟨b', off', vs, e1, e2, by simpa using e3⟩

theorem c_Index_int {h : Heap} {a : Value} {x : List Int} (Ra : Rep h a x) {n : Int} : CallE Tryz.prog fn_slices_Index_S_int_int [a, .int .i64 n] h (fun v h' => h' = h ∧ ∃ r : Int, v = .int .i64 r ∧ (0 ≤ r ↔ n ∈ x)) := by
  refine CallE.gen fun k hk => EN_slices_Index_S_int_int rfl ?_
  have hL := Ra.lt
  simp -implicitDefEqProofs (disch := first | omega | (simp only [List.length_set, List.length_replicate, List.length_append, List.length_map, List.length_take, List.length_cons, List.length_nil]; omega)) [wrap64, Ra.len]
  refine wp_count x.length (fun i e h' => e = [some a, some (.int .i64 n), none, none, some (.int .i64 x.length), some (.int .i64 i)] ∧ h' = h ∧ ∀ (j : Nat) (hj : j < x.length), j < i → x[j] ≠ n) ⟨rfl, rfl, fun j _ hj => absurd hj (Nat.not_lt_zero j)⟩ ?_
  rintro J i _ h1 hJ hi ⟨rfl, rfl, hn⟩
  simp -implicitDefEqProofs (disch := first | omega | (simp only [List.length_set, List.length_replicate, List.length_append, List.length_map, List.length_take, List.length_cons, List.length_nil]; omega)) [wrap64]
  refine IteW.mk (fun hlt => ?_) (fun hge => ?_)
  · have hlx : i < x.length := by omega
    simp -implicitDefEqProofs (disch := first | omega | (simp only [List.length_set, List.length_replicate, List.length_append, List.length_map, List.length_take, List.length_cons, List.length_nil]; omega)) [wrap64, Ra.I]
    refine IteW.mk (fun hq => ?_) (fun hq => ?_)
    · simp -implicitDefEqProofs (disch := first | omega | (simp only [List.length_set, List.length_replicate, List.length_append, List.length_map, List.length_take, List.length_cons, List.length_nil]; omega)) [wrap64]
      exact RetK.keep (hk _ _ ⟨rfl, i, rfl, by simp only [Int.natCast_nonneg, true_iff]; rw [hq]; exact List.getElem_mem hlx⟩)
    · simp -implicitDefEqProofs (disch := first | omega | (simp only [List.length_set, List.length_replicate, List.length_append, List.length_map, List.length_take, List.length_cons, List.length_nil]; omega)) [wrap64]
      refine hJ _ _ hlx ⟨rfl, rfl, fun j hj hji => ?_⟩
      by_cases hji2 : j = i
      · subst hji2; exact fun e => hq e.symm
      · exact hn j hj (by omega)
  · simp -implicitDefEqProofs (disch := first | omega | (simp only [List.length_set, List.length_replicate, List.length_append, List.length_map, List.length_take, List.length_cons, List.length_nil]; omega)) [wrap64]
    refine RetK.keep (hk _ _ ⟨rfl, -1, rfl, ?_⟩)
    simp only [show ¬ (0 : Int) ≤ -1 by decide, false_iff]
    intro hm
    obtain ⟨j, hj, h1⟩ := List.mem_iff_getElem.1 hm
    exact hn j hj (by omega) h1

theorem c_Contains_int {h : Heap} {a : Value} {x : List Int} (Ra : Rep h a x) {n : Int} : CallE Tryz.prog fn_slices_Contains_S_int_int [a, .int .i64 n] h (fun v h' => h' = h ∧ v = .bool (decide (n ∈ x))) := by
  refine CallE.gen fun k hk => EN_slices_Contains_S_int_int rfl ?_
  simp -implicitDefEqProofs (disch := first | omega | (simp only [List.length_set, List.length_replicate, List.length_append, List.length_map, List.length_take, List.length_cons, List.length_nil]; omega)) [wrap64]
  refine (c_Index_int Ra).go ?_
  rintro _ h1 ⟨rfl, r, rfl, hr⟩
  simp -implicitDefEqProofs (disch := first | omega | (simp only [List.length_set, List.length_replicate, List.length_append, List.length_map, List.length_take, List.length_cons, List.length_nil]; omega)) [wrap64]
  exact RetK.keep (hk _ _ ⟨rfl, by congr 1; rw [Bool.eq_iff_iff]; simp [hr]⟩)

theorem c_l4In {h : Heap} {a : Value} {x : List Int} (Ra : Rep h a x) {n : Int} : CallE Tryz.prog fn_spec_l4In [a, .int .i64 n] h (fun v h' => h' = h ∧ v = .bool (decide (n ∈ x))) := by
  refine CallE.gen fun k hk => EN_spec_l4In rfl ?_
  have hL := Ra.lt
  simp -implicitDefEqProofs (disch := first | omega | (simp only [List.length_set, List.length_replicate, List.length_append, List.length_map, List.length_take, List.length_cons, List.length_nil]; omega)) [wrap64]
  refine wp_count x.length (fun i e h' => e = [some a, some (.int .i64 n), none, some (.int .i64 i)] ∧ h' = h ∧ ∀ (j : Nat) (hj : j < x.length), j < i → x[j] ≠ n) ⟨rfl, rfl, fun j _ hj => absurd hj (Nat.not_lt_zero j)⟩ ?_
  rintro J i _ h1 hJ hi ⟨rfl, rfl, hn⟩
  simp -implicitDefEqProofs (disch := first | omega | (simp only [List.length_set, List.length_replicate, List.length_append, List.length_map, List.length_take, List.length_cons, List.length_nil]; omega)) [wrap64, Ra.len]
  refine IteW.mk (fun hlt => ?_) (fun hge => ?_)
  · have hlx : i < x.length := by omega
    simp -implicitDefEqProofs (disch := first | omega | (simp only [List.length_set, List.length_replicate, List.length_append, List.length_map, List.length_take, List.length_cons, List.length_nil]; omega)) [wrap64, Ra.I]
    refine IteW.mk (fun hq => ?_) (fun hq => ?_)
    · simp -implicitDefEqProofs (disch := first | omega | (simp only [List.length_set, List.length_replicate, List.length_append, List.length_map, List.length_take, List.length_cons, List.length_nil]; omega)) [wrap64]
      exact RetK.keep (hk _ _ ⟨rfl, by congr 1; rw [eq_comm, decide_eq_true_iff, ← hq]; exact List.getElem_mem hlx⟩)
    · simp -implicitDefEqProofs (disch := first | omega | (simp only [List.length_set, List.length_replicate, List.length_append, List.length_map, List.length_take, List.length_cons, List.length_nil]; omega)) [wrap64]
      refine hJ _ _ hlx ⟨rfl, rfl, fun j hj hji => ?_⟩
      by_cases hji2 : j = i
      · subst hji2; exact hq
      · exact hn j hj (by omega)
  · simp -implicitDefEqProofs (disch := first | omega | (simp only [List.length_set, List.length_replicate, List.length_append, List.length_map, List.length_take, List.length_cons, List.length_nil]; omega)) [wrap64]
    refine RetK.keep (hk _ _ ⟨rfl, ?_⟩)
    congr 1
    rw [eq_comm, decide_eq_false_iff_not]
    intro hm
    obtain ⟨j, hj, h1⟩ := List.mem_iff_getElem.1 hm
    exact hn j hj (by omega) h1


/-- indices, none twice -/
def Dst (l : List Int) (n : Nat) : Prop := ∀ (i : Nat) (hi : i < l.length), 0 ≤ l[i] ∧ l[i] < n ∧ l[i] ∉ l.take i
noncomputable instance instDecDst {l : List Int} {n : Nat} : Decidable (Dst l n) := Classical.propDecidable _
theorem Dst.le {l : List Int} {n : Nat} (h : Dst l n) : l.length ≤ n := by
  have h1 : (l.map Int.toNat).Nodup := by
    rw [List.nodup_iff_pairwise_ne, List.pairwise_iff_getElem]
    intro i j hi hj hij he
    simp only [List.length_map] at hi hj
    simp only [List.getElem_map] at he
    have a := h i hi
    have b := h j hj
    refine b.2.2 ?_
    have e2 : l[i] = l[j] := by omega
    rw [← e2]
    exact List.mem_iff_getElem.2 ⟨i, by simp; omega, by simp⟩
  have h2 : (l.map Int.toNat) ⊆ List.range n := by
    intro x hx
    obtain ⟨y, hy, rfl⟩ := List.mem_map.1 hx
    obtain ⟨i, hi, rfl⟩ := List.mem_iff_getElem.1 hy
    have := h i hi
    rw [List.mem_range]; omega
  simpa using List.Nodup.length_le_of_subset h1 h2
structure Gr.Ok (g : Gr) : Prop where
  n1 : 1 ≤ g.states.length
  n60 : g.states.length ≤ 60
  nl : g.next.length = g.states.length
  vs : ∀ st ∈ g.states, VOk st.vals
  nx : ∀ l ∈ g.next, l ≠ [] ∧ Dst l g.states.length
noncomputable instance instDecGrOk {g : Gr} : Decidable g.Ok := Classical.propDecidable _

theorem c_distinct {h : Heap} {v : Value} {l : List Int} {n : Nat} (R : Rep h v l) (hn : 1 ≤ n) (hn2 : n ≤ 60) : CallE Tryz.prog fn_impl_distinct [v, .int .i64 n] h (fun u h' => h' = h ∧ u = .bool (decide (Dst l n))) := by
  have hL := R.lt
  refine CallE.gen fun k hk => EN_impl_distinct rfl ?_
  simp -implicitDefEqProofs (disch := first | omega | (simp only [List.length_set, List.length_replicate, List.length_append, List.length_map, List.length_take, List.length_cons, List.length_nil]; omega)) [wrap64, R.len]
  refine wp_count l.length (fun i e h' => e = [some v, some (.int .i64 n), none, none, none, some v, some (.int .i64 l.length), some (.int .i64 i)] ∧ h' = h ∧ ∀ (j : Nat) (hj : j < l.length), j < i → 0 ≤ l[j] ∧ l[j] < n ∧ l[j] ∉ l.take j) ⟨by simp, rfl, fun j _ hj => absurd hj (Nat.not_lt_zero j)⟩ ?_
  rintro J i _ h1 hJ hi ⟨rfl, rfl, hall⟩
  have hno : ¬ Dst l n → k (.bool false) h1 := fun hh => hk _ _ ⟨rfl, by rw [decide_eq_false hh]⟩
  simp -implicitDefEqProofs (disch := first | omega | (simp only [List.length_set, List.length_replicate, List.length_append, List.length_map, List.length_take, List.length_cons, List.length_nil]; omega)) [wrap64]
  refine IteW.mk (fun hlt => ?_) (fun hge => ?_)
  · have hlx : i < l.length := by omega
    simp -implicitDefEqProofs (disch := first | omega | (simp only [List.length_set, List.length_replicate, List.length_append, List.length_map, List.length_take, List.length_cons, List.length_nil]; omega)) [wrap64, R.I]
    refine c_in.go ?_
    rintro _ h1 ⟨rfl, rfl⟩
    by_cases q1 : 0 ≤ l[i] ∧ l[i] ≤ (n : Int) - 1
    case neg => simp -implicitDefEqProofs (disch := first | omega | (simp only [List.length_set, List.length_replicate, List.length_append, List.length_map, List.length_take, List.length_cons, List.length_nil]; omega)) [wrap64, q1]; exact RetK.keep (hno fun hh => q1 ⟨(hh i hlx).1, by have := (hh i hlx).2.1; omega⟩)
    obtain ⟨v', e1, R'⟩ := R.cut (n := i) (esz := 1) (k := .i64) (by omega)
    simp -implicitDefEqProofs (disch := first | omega | (simp only [List.length_set, List.length_replicate, List.length_append, List.length_map, List.length_take, List.length_cons, List.length_nil]; omega)) [wrap64, q1, e1]
    refine (c_Contains_int R').go ?_
    rintro _ h1 ⟨rfl, rfl⟩
    by_cases q2 : l[i] ∈ l.take i
    · simp -implicitDefEqProofs (disch := first | omega | (simp only [List.length_set, List.length_replicate, List.length_append, List.length_map, List.length_take, List.length_cons, List.length_nil]; omega)) [wrap64, q2]; exact RetK.keep (hno fun hh => (hh i hlx).2.2 q2)
    simp -implicitDefEqProofs (disch := first | omega | (simp only [List.length_set, List.length_replicate, List.length_append, List.length_map, List.length_take, List.length_cons, List.length_nil]; omega)) [wrap64, q2]
    refine hJ _ _ hlx ⟨by simp, rfl, fun j hj hji => ?_⟩
    by_cases hji2 : j = i
    · subst hji2; exact ⟨q1.1, by omega, q2⟩
    · exact hall j hj (by omega)
  · simp -implicitDefEqProofs (disch := first | omega | (simp only [List.length_set, List.length_replicate, List.length_append, List.length_map, List.length_take, List.length_cons, List.length_nil]; omega)) [wrap64]
    exact RetK.keep (hk _ _ ⟨rfl, by rw [decide_eq_true (show Dst l n from fun i hi => hall i hi (by omega))]⟩)

theorem c_GraphValid_1 {h : Heap} {v : Value} {st : Sta} (R : Rep h v st) : CallE Tryz.prog fn_impl_GraphValid_1 [v] h (fun u h' => h.le h' ∧ u = .bool (!decide (VOk st.vals))) := by
  obtain ⟨v1, v2, rfl, R1, R2⟩ := Rep_Sta.1 R
  refine CallE.gen fun k hk => EN_impl_GraphValid_1 rfl ?_
  simp -implicitDefEqProofs (disch := first | omega | (simp only [List.length_set, List.length_replicate, List.length_append, List.length_map, List.length_take, List.length_cons, List.length_nil]; omega)) [wrap64]
  refine (c_valsOk R2).go ?_
  rintro _ h1 ⟨l1, rfl⟩
  simp -implicitDefEqProofs (disch := first | omega | (simp only [List.length_set, List.length_replicate, List.length_append, List.length_map, List.length_take, List.length_cons, List.length_nil]; omega)) [wrap64]
  exact RetK.keep (hk _ _ ⟨l1, rfl⟩)
theorem c_GraphValid_2 {h : Heap} {v : Value} {l : List Int} {b n : Nat} (R : Rep h v l) (hn : 1 ≤ n) (hn2 : n ≤ 60) (hb : hload h (some (.pointer (some ⟨b, 0, none⟩))) none = some (.int .i64 n)) :
    CallE Tryz.prog fn_impl_GraphValid_2 [v, .pointer (some ⟨b, 0, none⟩)] h (fun u h' => h.le h' ∧ u = .bool (!decide (l ≠ [] ∧ Dst l n))) := by
  refine CallE.gen fun k hk => EN_impl_GraphValid_2 rfl ?_
  obtain ⟨ln, hln⟩ : ∃ ln : Int, ln = l.length := ⟨_, rfl⟩
  have hlen := R.len
  rw [← hln] at hlen
  by_cases q : ln = 0
  · simp -implicitDefEqProofs (disch := first | omega | (simp only [List.length_set, List.length_replicate, List.length_append, List.length_map, List.length_take, List.length_cons, List.length_nil]; omega)) [wrap64, hlen, q]
    have : l = [] := List.length_eq_zero_iff.1 (by omega)
    exact RetK.keep (hk _ _ ⟨Heap.le.refl _, by simp [this]⟩)
  simp -implicitDefEqProofs (disch := first | omega | (simp only [List.length_set, List.length_replicate, List.length_append, List.length_map, List.length_take, List.length_cons, List.length_nil]; omega)) [wrap64, hlen, q, hb]
  refine (c_distinct R hn hn2).go ?_
  rintro _ h ⟨rfl, rfl⟩
  simp -implicitDefEqProofs (disch := first | omega | (simp only [List.length_set, List.length_replicate, List.length_append, List.length_map, List.length_take, List.length_cons, List.length_nil]; omega)) [wrap64]
  have : l ≠ [] := by rintro rfl; exact q (by simpa using hln)
  exact RetK.keep (hk _ _ ⟨Heap.le.refl _, by simp [this]⟩)
theorem c_GraphValid {h : Heap} {v : Value} {g : Gr} (R : Rep h v g) : CallE Tryz.prog fn_impl_GraphValid [v] h (fun u h' => h.le h' ∧ u = .bool (decide g.Ok)) := by
  obtain ⟨v1, v2, rfl, R1, R2⟩ := Rep_Gr.1 R
  have hL1 := R1.lt
  have hL2 := R2.lt
  refine CallE.gen fun k hk => EN_impl_GraphValid rfl ?_
  have hno : ∀ {h'}, h.le h' → ¬ g.Ok → k (.bool false) h' := fun hl hh => hk _ _ ⟨hl, by rw [decide_eq_false hh]⟩
  simp -implicitDefEqProofs (disch := first | omega | (simp only [List.length_set, List.length_replicate, List.length_append, List.length_map, List.length_take, List.length_cons, List.length_nil]; omega)) [wrap64, R1.len]
  refine HS.init.alloc rfl fun b h1 H => ?_
  simp only [cells_int] at H
  simp -implicitDefEqProofs (disch := first | omega | (simp only [List.length_set, List.length_replicate, List.length_append, List.length_map, List.length_take, List.length_cons, List.length_nil]; omega)) [wrap64]
  refine HS.bxst (o := 0) (sz := 1) (u := .int .i64 g.states.length) H rfl rfl rfl rfl (by simp) fun h2 H => ?_
  have H : HS h [bx b [.int .i64 g.states.length]] h2 := H
  have hb := H.bxld0
  simp -implicitDefEqProofs (disch := first | omega | (simp only [List.length_set, List.length_replicate, List.length_append, List.length_map, List.length_take, List.length_cons, List.length_nil]; omega)) [wrap64, hb]
  refine c_in.go ?_
  rintro _ h2 ⟨rfl, rfl⟩
  by_cases q1 : (1 : Int) ≤ g.states.length ∧ (g.states.length : Int) ≤ 60
  case neg => simp -implicitDefEqProofs (disch := first | omega | (simp only [List.length_set, List.length_replicate, List.length_append, List.length_map, List.length_take, List.length_cons, List.length_nil]; omega)) [wrap64, q1]; exact RetK.keep (hno H.base fun hh => q1 ⟨by have := hh.n1; omega, by have := hh.n60; omega⟩)
  by_cases q2 : (g.next.length : Int) = g.states.length
  case neg => simp -implicitDefEqProofs (disch := first | omega | (simp only [List.length_set, List.length_replicate, List.length_append, List.length_map, List.length_take, List.length_cons, List.length_nil]; omega)) [wrap64, q1, q2, (R2.on H).len, hb]; exact RetK.keep (hno H.base fun hh => q2 (by rw [hh.nl]))
  simp -implicitDefEqProofs (disch := first | omega | (simp only [List.length_set, List.length_replicate, List.length_append, List.length_map, List.length_take, List.length_cons, List.length_nil]; omega)) [wrap64, q1, q2, (R2.on H).len, hb]
  refine (c_ContainsFunc_impl_State (R1.on H) (c1 := []) (c2 := []) (f := fn_impl_GraphValid_1) rfl (fun st => !decide (VOk st.vals)) ?_).go ?_
  · intro h3 hl j hj u Ru
    exact c_GraphValid_1 Ru
  rintro _ h3 ⟨l3, rfl⟩
  have l3' := H.base.trans l3
  by_cases q3 : ∀ st ∈ g.states, VOk st.vals
  case neg =>
    have hf : g.states.any (fun st => !decide (VOk st.vals)) = true := by
      rw [List.any_eq_true]
      obtain ⟨x, hx⟩ := Classical.not_forall.1 q3
      obtain ⟨h4, h5⟩ := Classical.not_imp.1 hx
      exact ⟨x, h4, by simpa using h5⟩
    simp -implicitDefEqProofs (disch := first | omega | (simp only [List.length_set, List.length_replicate, List.length_append, List.length_map, List.length_take, List.length_cons, List.length_nil]; omega)) [wrap64, hf]
    exact RetK.keep (hno l3' fun hh => q3 hh.vs)
  have hf : g.states.any (fun st => !decide (VOk st.vals)) = false := by
    rw [List.any_eq_false]
    intro x hx
    simpa using q3 x hx
  simp -implicitDefEqProofs (disch := first | omega | (simp only [List.length_set, List.length_replicate, List.length_append, List.length_map, List.length_take, List.length_cons, List.length_nil]; omega)) [wrap64, hf]
  refine (c_ContainsFunc_S_int (R2.le l3') (c1 := []) (c2 := [.pointer (some ⟨b, 0, none⟩)]) (f := fn_impl_GraphValid_2) rfl (fun l => !decide (l ≠ [] ∧ Dst l g.states.length)) ?_).go ?_
  · intro h4 hl j hj u Ru
    exact c_GraphValid_2 Ru (by omega) (by omega) (hload_le (l3.trans hl) hb)
  rintro _ h4 ⟨l4, rfl⟩
  simp -implicitDefEqProofs (disch := first | omega | (simp only [List.length_set, List.length_replicate, List.length_append, List.length_map, List.length_take, List.length_cons, List.length_nil]; omega)) [wrap64]
  refine RetK.keep (hk _ _ ⟨l3'.trans l4, ?_⟩)
  congr 1
  rw [Bool.eq_iff_iff, Bool.not_eq_true', List.any_eq_false, decide_eq_true_iff]
  exact ⟨fun hh => ⟨by omega, by omega, by omega, q3, fun l hl => by simpa using hh l hl⟩, fun hh l hl => by simpa using hh.nx l hl⟩

/- LETTERS -/
def ltrN (vs : List Int) (L : List Exq) : Nat → Int
  | 0 => 0
  | i + 1 => if (L.getD i Exq.zero).ev vs ≠ 0 then orI .i64 (ltrN vs L i) (shlI .i64 1 i) else ltrN vs L i
def ltr (vs : List Int) (L : List Exq) : Int := ltrN vs L 3
def lbl (g : Gr) (L : List Exq) : List Int := g.states.map fun st => ltr st.vals L
noncomputable def lblR (g : Gr) (L : List Exq) : List Int := if g.Ok ∧ LOk L then lbl g L else []
end Go.Proofs.YtonjglbachhdcaaGreat

/-
  The random source of the laws' arguments: a number, an element of a list.
-/
namespace Go.Proofs.YtonjglbachhdcaaGreat
open Go
set_option linter.all false
set_option linter.unusedVariables false
set_option linter.unusedSimpArgs false
set_option linter.defProp false
set_option maxRecDepth 1000000

/-- bytes -/
instance instTyU8 : Ty (BitVec 8) where
  agg := false
  sz := 1
  rep := fun _ cs n => cs = [.int .u8 n.toNat]
  own := fun r cs n => r = Heap.nil ∧ cs = [.int .u8 n.toNat]
  one := fun _ => rfl
  len := by rintro h cs x rfl; rfl
  cell := by rintro h cs x rfl v hv; simp at hv; subst hv; rfl
  mono := fun _ hr => hr
  own_rep := fun ho => ho.2
instance instFlatU8 : Flat (BitVec 8) := ⟨fun n => [.int .u8 n.toNat], fun _ => True, by simp [Ty.rep], by simp [Ty.own]⟩
theorem Rep.Y {h : Heap} {v : Value} {l : List (BitVec 8)} (hr : Rep h v l) : ((∀ (kd : IntKind) (i : Nat), i < l.length → iaV 1 v (.int kd i) = some (elp 1 v i)) ∧ (∀ (kd : IntKind) (i : Int), 0 ≤ i → i < l.length → iaV 1 v (.int kd i) = some (elp 1 v i.toNat)) ∧ lenVV v = some (.int .i64 l.length)) ∧
    ∀ (i : Nat) (hi : i < l.length), hload h (some (elp 1 v i)) none = some (.int .u8 l[i].toNat) := ⟨hr.X rfl, fun _ hi => hr.ldF hi⟩

theorem xor_nn {a b : Int} (ha : 0 ≤ a) (ha2 : a < 9223372036854775808) (hb : 0 ≤ b) (hb2 : b < 9223372036854775808) : 0 ≤ xorI .i64 a b ∧ xorI .i64 a b < 9223372036854775808 := by
  have e1 : (BitVec.ofInt 64 a).toNat = a.toNat := by rw [BitVec.toNat_ofInt]; congr 1; exact Int.emod_eq_of_lt ha (by omega)
  have e2 : (BitVec.ofInt 64 b).toNat = b.toNat := by rw [BitVec.toNat_ofInt]; congr 1; exact Int.emod_eq_of_lt hb (by omega)
  have h : a.toNat ^^^ b.toNat < 2 ^ 63 := Nat.xor_lt_two_pow (by omega) (by omega)
  have e3 : xorI .i64 a b = ((a.toNat ^^^ b.toNat : Nat) : Int) := by
    unfold xorI
    rw [show IntKind.i64.bits = 64 from rfl, BitVec.toNat_xor, e1, e2]
    exact wrap64 (by omega) (by omega)
  rw [e3]
  omega

/-- the random source: a pointer to its bytes and to how many numbers were drawn -/
abbrev rb (b : Nat) (sl : Value) (p : Int) : HP := bx b [sl, .int .i64 p]
theorem tmod_rng {a b : Int} (ha : 0 ≤ a) (hb : 0 < b) : 0 ≤ a.tmod b ∧ a.tmod b < b := by
  rw [Int.tmod_eq_emod_of_nonneg ha]
  exact ⟨Int.emod_nonneg _ (by omega), Int.emod_lt_of_pos _ hb⟩
theorem tdiv_rng {a b : Int} (ha : 0 ≤ a) (hb : 0 < b) : 0 ≤ a.tdiv b ∧ a.tdiv b ≤ a := by
  rw [Int.tdiv_eq_ediv_of_nonneg ha]
  exact ⟨Int.ediv_nonneg ha (by omega), Int.ediv_le_self _ ha⟩

theorem c_pick {g h : Heap} {Γ : List HP} {b : Nat} {sl : Value} {l : List (BitVec 8)} {p n : Int} (R : Rep g sl l) (H : HS g (rb b sl p :: Γ) h) (hp : 0 ≤ p) (hp2 : p < 1099511627776) (hn : I64 n) :
    CallE Tryz.prog fn_spec_l16Rd_pick [.pointer (some ⟨b, 0, none⟩), .int .i64 n] h (fun u h' => ∃ r, u = .int .i64 r ∧ I64 r ∧ 0 ≤ r ∧ (1 ≤ n → r < n) ∧ HS g (rb b sl (p + 1) :: Γ) h') := by
  have hL := R.lt
  have hn1 := hn.1
  have hn2 := hn.2
  refine CallE.gen fun k hk => EN_spec_l16Rd_pick rfl ?_
  have hb0 : hload h (some (.pointer (some ⟨b, 0, none⟩))) none = some sl := H.bxld rfl
  have hb1 : hload h (some (.pointer (some ⟨b, 1, none⟩))) none = some (.int .i64 p) := H.bxld rfl
  simp -implicitDefEqProofs (disch := first | omega | (simp only [List.length_set, List.length_replicate, List.length_append, List.length_map, List.length_take, List.length_cons, List.length_nil]; omega)) [wrap64, hb0, hb1]
  refine HS.bxst (o := 1) (sz := 1) (u := .int .i64 (p + 1)) H rfl rfl rfl rfl (by simp) fun h2 H => ?_
  replace H : HS g (rb b sl (p + 1) :: Γ) h2 := H
  have hb0 : hload h2 (some (.pointer (some ⟨b, 0, none⟩))) none = some sl := H.bxld rfl
  have hb1 : hload h2 (some (.pointer (some ⟨b, 1, none⟩))) none = some (.int .i64 (p + 1)) := H.bxld rfl
  by_cases a1 : n < 1
  · simp -implicitDefEqProofs (disch := first | omega | (simp only [List.length_set, List.length_replicate, List.length_append, List.length_map, List.length_take, List.length_cons, List.length_nil]; omega)) [wrap64, hb0, hb1, a1]
    exact RetK.keep (hk _ _ ⟨0, rfl, ⟨by omega, by omega⟩, by omega, fun h => absurd h (by omega), H⟩)
  obtain ⟨ln, hln⟩ : ∃ ln : Int, ln = l.length := ⟨_, rfl⟩
  have hlen := (R.on H).len
  rw [← hln] at hlen
  by_cases a2 : ln = 0
  · simp -implicitDefEqProofs (disch := first | omega | (simp only [List.length_set, List.length_replicate, List.length_append, List.length_map, List.length_take, List.length_cons, List.length_nil]; omega)) [wrap64, hb0, hb1, a1, hlen, a2]
    exact RetK.keep (hk _ _ ⟨0, rfl, ⟨by omega, by omega⟩, by omega, fun h => by omega, H⟩)
  obtain ⟨m, rfl⟩ : ∃ m : Nat, p = m := ⟨p.toNat, (Int.toNat_of_nonneg hp).symm⟩
  have hn0 : ¬ n = 0 := by omega
  by_cases a3 : (m : Int) < ln
  · have hk3 : m < l.length := by omega
    obtain ⟨c, hc⟩ : ∃ c : Int, c = l[m].toNat := ⟨_, rfl⟩
    have hc2 : c < 256 := by have := l[m].isLt; omega
    have hc0 : 0 ≤ c := by omega
    have hld := (R.on H).Y.2 m hk3
    rw [← hc] at hld
    obtain ⟨r1, r2⟩ := tmod_rng hc0 (show 0 < n by omega)
    simp -implicitDefEqProofs (disch := first | omega | (simp only [List.length_set, List.length_replicate, List.length_append, List.length_map, List.length_take, List.length_cons, List.length_nil]; omega)) [wrap64, hb0, hb1, a1, hlen, a2, a3, (R.on H).Y.1.1, hld, hn0]
    exact RetK.keep (hk _ _ ⟨c.tmod n, rfl, ⟨by omega, by omega⟩, r1, fun _ => r2, H⟩)
  · obtain ⟨s1, s2⟩ := tmod_rng (a := (m : Int)) (b := ln) (by omega) (by omega)
    obtain ⟨i1, hi1⟩ : ∃ i1 : Nat, (m : Int).tmod ln = i1 := ⟨_, (Int.toNat_of_nonneg s1).symm⟩
    obtain ⟨t1, t2⟩ := tmod_rng (a := (m : Int) * 7 + 3) (b := ln) (by omega) (by omega)
    obtain ⟨i2, hi2⟩ : ∃ i2 : Nat, ((m : Int) * 7 + 3).tmod ln = i2 := ⟨_, (Int.toNat_of_nonneg t1).symm⟩
    obtain ⟨q1, q2⟩ := tdiv_rng (a := (m : Int)) (b := ln) (by omega) (by omega)
    obtain ⟨q, hq⟩ : ∃ q : Int, (m : Int).tdiv ln = q := ⟨_, rfl⟩
    rw [hi1] at s1 s2
    rw [hi2] at t1 t2
    rw [hq] at q1 q2
    have hl1 : i1 < l.length := by omega
    have hl2 : i2 < l.length := by omega
    obtain ⟨c, hc⟩ : ∃ c : Int, c = l[i1].toNat := ⟨_, rfl⟩
    have hc2 : c < 256 := by have := l[i1].isLt; omega
    have hc0 : 0 ≤ c := by omega
    have hld := (R.on H).Y.2 i1 hl1
    rw [← hc] at hld
    obtain ⟨d, hd⟩ : ∃ d : Int, d = l[i2].toNat := ⟨_, rfl⟩
    have hd2 : d < 256 := by have := l[i2].isLt; omega
    have hd0 : 0 ≤ d := by omega
    have hld2 := (R.on H).Y.2 i2 hl2
    rw [← hd] at hld2
    obtain ⟨x, hx⟩ : ∃ x : Int, x = c * 131 + d * 1117 + (m : Int) * 29 + q * 53 := ⟨_, rfl⟩
    have hx0 : 0 ≤ x := by omega
    have hx1 : x < 9223372036854775808 := by omega
    obtain ⟨y1, y2⟩ := tdiv_rng (a := x) (b := 64) hx0 (by omega)
    obtain ⟨z1, z2⟩ := xor_nn hx0 hx1 y1 (by omega)
    obtain ⟨w1, w2⟩ := tmod_rng z1 (show 0 < n by omega)
    simp -implicitDefEqProofs (disch := first | omega | (simp only [List.length_set, List.length_replicate, List.length_append, List.length_map, List.length_take, List.length_cons, List.length_nil]; omega)) [wrap64, hb0, hb1, a1, hlen, a2, a3, (R.on H).Y.1.1, hi1, hi2, hq, hld, hld2, hn0, ← hx]
    exact RetK.keep (hk _ _ ⟨_, rfl, ⟨by omega, by omega⟩, w1, fun _ => w2, H⟩)

/-- an element of a list that is written out -/
theorem c_num {g h : Heap} {Γ : List HP} {b : Nat} {sl v : Value} {l : List (BitVec 8)} {p : Int} {xs : List Int} (R : Rep g sl l) (H : HS g (ow v xs :: rb b sl p :: Γ) h) (hp : 0 ≤ p) (hp2 : p < 1099511627776) (hx : xs ≠ []) :
    CallE Tryz.prog fn_spec_l16Rd_num [.pointer (some ⟨b, 0, none⟩), v] h (fun u h' => ∃ r, u = .int .i64 r ∧ I64 r ∧ r ∈ xs ∧ HS g (rb b sl (p + 1) :: Γ) h') := by
  have hL := H.rep.lt
  have hpos : 0 < xs.length := List.length_pos_iff.2 hx
  refine CallE.gen fun k hk => EN_spec_l16Rd_num rfl ?_
  simp -implicitDefEqProofs (disch := first | omega | (simp only [List.length_set, List.length_replicate, List.length_append, List.length_map, List.length_take, List.length_cons, List.length_nil]; omega)) [wrap64, H.rep.len]
  refine (c_pick R H.sw1 hp hp2 ⟨by omega, by omega⟩).go ?_
  rintro _ h1 ⟨r, rfl, hr, hr0, hr1, H⟩
  obtain ⟨i, rfl⟩ : ∃ i : Nat, r = i := ⟨r.toNat, (Int.toNat_of_nonneg hr0).symm⟩
  have hi : i < xs.length := by have := hr1 (by omega); omega
  have hok := H.sw1.rep.okI hi
  simp -implicitDefEqProofs (disch := first | omega | (simp only [List.length_set, List.length_replicate, List.length_append, List.length_map, List.length_take, List.length_cons, List.length_nil]; omega)) [wrap64, H.sw1.rep.I]
  exact RetK.keep (hk _ _ ⟨xs[i], rfl, ⟨hok.1, hok.2⟩, List.getElem_mem hi, H.sw1.drop⟩)

theorem c_l16Open {h : Heap} {v : Value} {l : List (BitVec 8)} (R : Rep h v l) : CallE Tryz.prog fn_spec_l16Open [v] h (fun u h' => ∃ b sl, ∃ l' : List (BitVec 8), u = .pointer (some ⟨b, 0, none⟩) ∧ Rep h sl l' ∧ HS h [rb b sl 0] h') := by
  have hL := R.lt
  refine CallE.gen fun k hk => EN_spec_l16Open rfl ?_
  by_cases a1 : (2000 : Int) < l.length
  · obtain ⟨v', e1, R'⟩ := R.cut (n := 2000) (esz := 1) (k := .i64) (by omega)
    have hO := R'.one
    have e2 : sliceVV 1 v none (some (some (.int .i64 2000))) none = some v' := e1
    simp -implicitDefEqProofs (disch := first | omega | (simp only [List.length_set, List.length_replicate, List.length_append, List.length_map, List.length_take, List.length_cons, List.length_nil]; omega)) [wrap64, R.len, a1, e2, setC, hO, R'.cells]
    refine HS.init.alloc rfl fun b h1 H => ?_
    simp -implicitDefEqProofs (disch := first | omega | (simp only [List.length_set, List.length_replicate, List.length_append, List.length_map, List.length_take, List.length_cons, List.length_nil]; omega)) [wrap64]
    exact RetK.keep (hk _ _ ⟨b, v', _, rfl, R', H⟩)
  · have hO := R.one
    simp -implicitDefEqProofs (disch := first | omega | (simp only [List.length_set, List.length_replicate, List.length_append, List.length_map, List.length_take, List.length_cons, List.length_nil]; omega)) [wrap64, R.len, a1, setC, hO, R.cells]
    refine HS.init.alloc rfl fun b h1 H => ?_
    simp -implicitDefEqProofs (disch := first | omega | (simp only [List.length_set, List.length_replicate, List.length_append, List.length_map, List.length_take, List.length_cons, List.length_nil]; omega)) [wrap64]
    exact RetK.keep (hk _ _ ⟨b, v, _, rfl, R, H⟩)
end Go.Proofs.YtonjglbachhdcaaGreat

/-
  From a law as a call to the row's statement: what is read as data stands for a piece of plain data; what was there before stays.
-/
namespace Go.Proofs.YtonjglbachhdcaaGreat
open Go Go.RowKit
set_option linter.all false
set_option linter.unusedVariables false
set_option linter.unusedSimpArgs false
set_option linter.defProp false
set_option maxRecDepth 1000000

/-- the whole memory -/
def whole (w : World) : Heap := fun b => w.heap[b]?

theorem calls_law {P : Program} {f : FuncId} {fn : Func} {args : List Value} {W : World} (hf : P.funcs[f]? = some fn) (hname : (fn.name == "runtime.NumGoroutine") = false) (hb : fn.body.isSome = true)
    (h : CallE P f args (whole W) (fun u h' => (whole W).le h' ∧ u = .bool true)) : Calls P f args.toArray W fun e W' => e = .returned (.bool true) ∧ Below W.heap.size W W' := by
  have h1 := h W (fun b o hb => hb)
  obtain ⟨bd, hbd⟩ := Option.isSome_iff_exists.1 hb
  have hname' : ¬ fn.name = "runtime.NumGoroutine" := by simpa using hname
  have hcall : (callFunc f args.toArray).run P W = .ok (.enter f args.toArray) W := by
    simp [callFunc, hf, hname', hbd]
  rw [hcall] at h1
  refine Calls.mono h1 ?_
  rintro e W' ⟨v, h', rfl, ⟨hl, rfl⟩, hs, hF⟩
  refine ⟨rfl, hF.os, hF.tape, hF.output, hF.size, ?_⟩
  intro k hk
  have h2 : whole W k = some W.heap[k] := by simp [whole, hk]
  rw [hs _ _ (hl _ _ h2)]
  simp [hk]

section
variable {H : Type} {enc : TypeId × Value → H} {P : Program}
theorem trodAll_below (hl : laidOutB P = true) {W W' : World} : ∀ {ts : List TypeId} {vs : List Value} {ds : List (DataW H)} {ps : List MemPlace}, (∀ t ∈ ts, P.readableRec t = true ∧ t < P.types.size) →
    DataW.TrodAll enc P W 0 (fun _ => true) true ts vs ds ps → Below W.heap.size W W' → (∀ x ∈ ps, x.block < W.heap.size) → DataW.TrodAll enc P W' 0 (fun b => decide (b < W.heap.size)) true ts vs ds ps
  | [], [], [], _, _, h, _, _ => h
  | _ :: _, _ :: _, _ :: _, _, ht, ⟨p, q, h1, h2, e⟩, hb, hlt =>
    ⟨p, q, Below.trod hl (ht _ (by simp)).1 (ht _ (by simp)).2 h1 hb (fun x hx => hlt x (by rw [e]; exact List.mem_append_left _ hx)),
      trodAll_below hl (fun t h => ht t (by simp [h])) h2 hb (fun x hx => hlt x (by rw [e]; exact List.mem_append_right _ hx)), e⟩

theorem kept_below {W W' : World} (hb : Below W.heap.size W W') (may : MemPlace → Prop) : W.keptBut W' may := by
  refine ⟨hb.os, hb.output, fun i hi => ?_⟩
  rw [hb.block i hi]
  split
  · rename_i h1 h2; rw [h1] at h2; simp only [Option.some.injEq, Obj.cells.injEq] at h2; obtain ⟨rfl, rfl, rfl⟩ := h2; exact ⟨rfl, rfl, rfl, fun _ _ => rfl⟩
  · rename_i h1 h2; rw [h1] at h2; simp only [Option.some.injEq, Obj.map.injEq] at h2; obtain ⟨rfl, rfl⟩ := h2; exact .inr ⟨rfl, rfl⟩
  · rfl

/-- THE LAW's CONTRACT: true; the arguments as they were -/
theorem post_law {f : Func} {s : ChangeSpec} {W W' : World} {args : Array Value} {ds gs : List (DataW H)} {before : List MemPlace} (hl : laidOutB P = true) (hvars : s.vars = []) (ht : ∀ t ∈ f.params.toList, P.readableRec t = true ∧ t < P.types.size)
    (hr : ∃ t, f.resultTypes = #[t] ∧ P.underlying t = some .bool) (hspec : (s.fn H (ds ++ gs)).results = [.lit (.bool true)] ∧ (s.fn H (ds ++ gs)).args = ds ∧ (s.fn H (ds ++ gs)).vars = [])
    (hW : DataW.Whole enc P f.params.toList s.vars false W args.toList ds gs before) (hb : Below W.heap.size W W') : s.post enc P f false true false false W args (.bool true) W' := by
  obtain ⟨t, ht1, ht2⟩ := hr
  obtain ⟨h1, h2, h3⟩ := hspec
  have hW' := hW
  obtain ⟨p, q, hA, hV, rfl, hz, hn⟩ := hW
  rw [hvars] at hV
  obtain ⟨rfl, rfl⟩ := Go.ChangeShapes.trodVars_none hV
  have hlt : ∀ x ∈ p ++ [], x.block < W.heap.size := fun x hx => by simpa using hW'.lt x hx
  refine ⟨ds, [], p ++ [], [], p, [], hW', ?_, ?_, ?_, World.keptBut_mono (fun x hx => ⟨by simpa using hx, .inr (.inl (by simpa using hx))⟩) (kept_below hb (fun x => x ∈ p)), by simp⟩
  · rw [h1, ht1]
    exact trodAll_cons_mk (shut_bool ht2 _) Go.ChangeShapes.trodAll_mk0
  · rw [h2]
    exact trodAll_below hl ht hA hb (fun x hx => hlt x (by simpa using hx))
  · rw [h3, hvars]; rfl
end

/-- what a piece of data weighs is within the reach -/
def wOk {H : Type} (P : Program) (t : TypeId) (d : DataW H) : Prop := ∀ n ∈ d.weights P t, n ≤ reachBytes
theorem wOk_all {H : Type} {P : Program} {e : TypeId} : ∀ {l : List (DataW H)}, (∀ n ∈ DataW.weightsAll P e l, n ≤ reachBytes) → ∀ d ∈ l, wOk P e d
  | [], _, d, hd => by simp at hd
  | x :: l, h, d, hd => by
    simp only [DataW.weightsAll, List.mem_append] at h
    rcases List.mem_cons.1 hd with rfl | hd
    · exact fun n hn => h n (.inl hn)
    · exact wOk_all (fun n hn => h n (.inr hn)) d hd
theorem wOk_each {H : Type} {P : Program} : ∀ {ts : List TypeId} {l : List (DataW H)}, (∀ n ∈ DataW.weightsEach P ts l, n ≤ reachBytes) → ∀ (i : Nat) t d, ts[i]? = some t → l[i]? = some d → wOk P t d
  | [], _, _, i, t, d, h1, _ => by simp at h1
  | _ :: _, [], _, i, t, d, _, h2 => by simp at h2
  | t0 :: ts, x :: l, h, 0, t, d, h1, h2 => by
    simp at h1 h2; subst h1 h2
    exact fun n hn => h n (by simp only [DataW.weightsEach, List.mem_append]; exact .inl hn)
  | t0 :: ts, x :: l, h, i + 1, t, d, h1, h2 => wOk_each (ts := ts) (l := l) (fun n hn => h n (by simp only [DataW.weightsEach, List.mem_append]; exact .inr hn)) i t d (by simpa using h1) (by simpa using h2)

/- what is read stands for plain data -/
def RdT (P : Program) (t : TypeId) (α : Type) [Ty α] : Prop := ∀ {H : Type} (enc : TypeId × Value → H) (W : World) (sp : Nat → Bool) (fuel : Nat) (cs : List Value) (x : DataW H × List MemPlace),
  DataW.trod enc P W 0 sp true fuel t cs = some x → wOk P t x.1 → ∃ y : α, Ty.rep (whole W) cs y

section
variable {P : Program} {t : TypeId}
theorem cells_whole {W : World} {b off : Nat} : ∀ {n : Nat} {l : List Value}, W.cells? 0 ⟨b, off, none⟩ n = some l → hcells (whole W) b off n = some l := by
  have key : ∀ n o l, (List.range' o n).mapM (fun i => W.cell? ((⟨b, off, none⟩ : Addr).add i)) = some l → hcells (whole W) b (off + o) n = some l := by
    intro n
    induction n with
    | zero => intro o l h; simpa [hcells] using h
    | succ n ih =>
      intro o l h
      rw [List.range'_succ, List.mapM_cons] at h
      simp only [Option.bind_eq_bind, Option.bind_eq_some_iff, Option.pure_def, Option.some.injEq] at h
      obtain ⟨v, h1, r, h2, rfl⟩ := h
      have h3 := ih (o + 1) r h2
      have h4 : hcell (whole W) b (off + o) = some v := by
        rw [addr_add0] at h1
        simp only [World.cell?, Option.isSome_none, Bool.false_eq_true, if_false] at h1
        simp only [hcell, whole]
        split at h1
        · rename_i hb; rw [hb]; exact h1
        · simp at h1
      simp only [hcells, h4]
      rw [show off + o + 1 = off + (o + 1) by omega, h3]
  intro n l h
  simp only [World.cells?, Nat.zero_le, if_true] at h
  rw [List.range_eq_range'] at h
  exact key n 0 l h

theorem cells_spot {W : World} {b off s n : Nat} (hn : 0 < n) : W.cells? 0 ⟨b, off, some s⟩ n = none := by
  simp only [World.cells?, Nat.zero_le, if_true]
  cases n with
  | zero => omega
  | succ n =>
    rw [List.range_succ_eq_map, List.mapM_cons]
    have : W.cell? ((⟨b, off, some s⟩ : Addr).add 0) = none := by
      simp only [Addr.add, if_true, World.cell?]
      split <;> simp
    rw [this]; rfl

theorem rd_list {α : Type} [Ty α] {e : TypeId} (ht : P.underlying t = some (.slice e)) (hc : P.cellsOf e = Ty.sz α) (hpos : 0 < Ty.sz α) (hby : 0 < P.bytesOf e) (he : RdT P e α) : RdT P t (List α) := by
  intro H enc W sp fuel cs x h hwt
  rcases Go.Deep.open_slice ht h with ⟨rfl, _⟩ | ⟨a, len, cap, m, n, D, Pl, rfl, _, hlen, hcap, hm, rfl, hel⟩
  · exact ⟨[], none, 0, rfl, by simp, trivial, fun i hi => by simp at hi⟩
  · have hle : len ≤ m := by rw [hm]; split <;> omega
    simp only [wOk, DataW.weights, ht, List.mem_cons, List.mem_append] at hwt
    have hsz : len ≤ reachBytes := by
      have h1 := hwt _ (.inl rfl)
      simp only [List.length_map, List.length_range] at h1
      have h2 : len * 1 ≤ (len + (m - len)) * P.bytesOf e := Nat.mul_le_mul (by omega) hby
      omega
    have hwe := wOk_all (fun n hn => hwt n (.inr (.inl hn)))
    have hall : ∀ i, i < len → ∃ y : α, ∃ b off vs, some a = some (⟨b, off, none⟩ : Addr) ∧ hcells (whole W) b (off + i * Ty.sz α) (Ty.sz α) = some vs ∧ Ty.rep (whole W) vs y := by
      intro i hi
      obtain ⟨cs', h1, h2⟩ := hel i (by omega)
      obtain ⟨y, hy⟩ := he enc W sp n cs' _ h2 (hwe _ (List.mem_map.2 ⟨i, by simpa using hi, rfl⟩))
      obtain ⟨b, off, spot⟩ := a
      rw [hc] at h1
      -- the address is plain: its first element could be read
      have h0 : spot = none := by
        cases spot with
        | none => rfl
        | some s =>
          obtain ⟨cs0, g1, _⟩ := hel 0 (by omega)
          rw [hc] at g1
          simp only [Nat.zero_mul, Addr.add, if_true] at g1
          rw [cells_spot hpos] at g1
          simp at g1
      subst h0
      rw [addr_add0] at h1
      exact ⟨y, b, off, cs', rfl, cells_whole h1, hy⟩
    have hch : ∃ l : List α, l.length = len ∧ ∀ i (hi : i < l.length), ∃ b off vs, some a = some (⟨b, off, none⟩ : Addr) ∧ hcells (whole W) b (off + i * Ty.sz α) (Ty.sz α) = some vs ∧ Ty.rep (whole W) vs l[i] := by
      refine ⟨(List.finRange len).map fun i => Classical.choose (hall i.1 i.2), by simp, fun i hi => ?_⟩
      have hi' : i < len := by simpa using hi
      have := Classical.choose_spec (hall i hi')
      simpa using this
    obtain ⟨l, hl, hr⟩ := hch
    refine ⟨l, some a, cap, by rw [hl], ⟨by omega, ?_⟩, trivial, hr⟩
    have : reachBytes < 4611686018427387904 := by decide
    omega

end

section
variable {P : Program} {W : World} {r : Reach} {base : Nat} {t e : TypeId} {v : Value}
theorem okWide_slice (ht : P.underlying t = some (.slice e)) (h : Value.okWide P W r base t v) : ∃ a n c, v = .slice a n c := by
  unfold Value.okWide at h
  rw [ht] at h
  simp only [Cell.okWide, ht] at h
  cases v <;> simp [Cell.ok, ht] at h ⊢
end
end Go.Proofs.YtonjglbachhdcaaGreat

/-
  Bytes as arguments of laws.
-/
namespace Go.Proofs.YtonjglbachhdcaaGreat
open Go
set_option linter.all false
set_option linter.unusedVariables false
set_option linter.unusedSimpArgs false
set_option linter.defProp false
set_option maxRecDepth 1000000
theorem rd_u8 {P : Program} {t : TypeId} (ht : P.underlying t = some (.int .u8)) : RdT P t (BitVec 8) := by
  intro H enc W sp fuel cs x h hwt
  cases fuel with
  | zero => simp [DataW.trod] at h
  | succ n =>
    unfold DataW.trod at h
    rw [ht] at h
    split at h
    case h_2 k k' m h1 =>
      simp only [Option.some.injEq, TypeDesc.int.injEq] at h1
      subst h1
      split at h
      case isTrue hc =>
        obtain ⟨rfl, hw⟩ := hc
        have := bounds_u8 hw
        refine ⟨BitVec.ofNat 8 m.toNat, ?_⟩
        show _ = [Value.int .u8 ((BitVec.ofNat 8 m.toNat).toNat : Int)]
        have e : ((BitVec.ofNat 8 m.toNat).toNat : Int) = m := by
          rw [BitVec.toNat_ofNat, Nat.mod_eq_of_lt (by omega)]; omega
        rw [e]
      case isFalse => simp at h
    all_goals simp_all
end Go.Proofs.YtonjglbachhdcaaGreat

/-
  Bodies of functions in the small language, as a program printed them, and that each is what the translation gives.
-/
namespace Go.Proofs.YtonjglbachhdcaaGreat
open Go
set_option linter.all false
set_option linter.defProp false
set_option maxRecDepth 1000000

end Go.Proofs.YtonjglbachhdcaaGreat

/-
  Bodies of functions in the small language, as a program printed them, and that each is what the translation gives.
-/
namespace Go.Proofs.YtonjglbachhdcaaGreat
open Go
set_option linter.all false
set_option linter.defProp false
set_option maxRecDepth 1000000

end Go.Proofs.YtonjglbachhdcaaGreat

/-
  Instances of functions over slices: copies, and whether some element meets a condition. Printed by a program.
-/
namespace Go.Proofs.YtonjglbachhdcaaGreat
open Go
set_option linter.all false
set_option linter.unusedVariables false
set_option linter.unusedSimpArgs false
set_option linter.defProp false
set_option maxRecDepth 1000000

theorem c_Clone_int {h : Heap} {a : Value} {x : List (Int)} (Ra : Rep h a x) (hs : x.length ≤ 1073741824) : CallE Tryz.prog fn_slices_Clone_S_int_int [a] h (fun v h' => HS h [ow v x] h') := by
  refine CallE.gen fun k hk => EN_slices_Clone_S_int_int rfl ?_
  obtain ⟨b, hb, hb2⟩ := Ra.isNil
  simp -implicitDefEqProofs (disch := first | omega | (simp only [List.length_set, List.length_replicate, List.length_append, List.length_map, List.length_take, List.length_cons, List.length_nil]; omega)) [wrap64, hb]
  refine IteW.mk (fun h1 => ?_) (fun h1 => ?_)
  · simp -implicitDefEqProofs (disch := first | omega | (simp only [List.length_set, List.length_replicate, List.length_append, List.length_map, List.length_take, List.length_cons, List.length_nil]; omega)) [wrap64]
    have h2 : x = [] := hb2 h1
    subst h2
    exact RetK.keep (hk _ _ HS.init.nil_ow)
  · simp -implicitDefEqProofs (disch := first | omega | (simp only [List.length_set, List.length_replicate, List.length_append, List.length_map, List.length_take, List.length_cons, List.length_nil]; omega)) [wrap64]
    refine HS.init.appPL (α := Int) (l2 := x) (u := a) rfl rfl Ra rfl rfl (by omega) fun v h1 H => ?_
    simp -implicitDefEqProofs (disch := first | omega | (simp only [List.length_set, List.length_replicate, List.length_append, List.length_map, List.length_take, List.length_cons, List.length_nil]; omega)) [wrap64]
    exact RetK.keep (hk _ _ H)

theorem c_Clip_int {g h : Heap} {Γ : List HP} {a : Value} {x : List (Int)} (H : HS g (ow a x :: Γ) h) : CallE Tryz.prog fn_slices_Clip_S_int_int [a] h (fun v h' => HS g (ow v x :: Γ) h') := by
  refine CallE.gen fun k hk => EN_slices_Clip_S_int_int rfl ?_
  obtain ⟨v', h1, h2⟩ := H.clip (esz := 1) (k := .i64)
  simp -implicitDefEqProofs (disch := first | omega | (simp only [List.length_set, List.length_replicate, List.length_append, List.length_map, List.length_take, List.length_cons, List.length_nil]; omega)) [wrap64, H.rep.I, h1]
  exact RetK.keep (hk _ _ h2)

theorem c_clone_int {h : Heap} {a : Value} {x : List (Int)} (Ra : Rep h a x) (hs : x.length ≤ 1073741824) : CallE Tryz.prog fn_impl_clone_int [a] h (fun v h' => HS h [ow v x] h') := by
  refine CallE.gen fun k hk => EN_impl_clone_int rfl ?_
  simp -implicitDefEqProofs (disch := first | omega | (simp only [List.length_set, List.length_replicate, List.length_append, List.length_map, List.length_take, List.length_cons, List.length_nil]; omega)) [wrap64]
  refine (c_Clone_int Ra hs).go ?_
  intro v h1 H
  simp -implicitDefEqProofs (disch := first | omega | (simp only [List.length_set, List.length_replicate, List.length_append, List.length_map, List.length_take, List.length_cons, List.length_nil]; omega)) [wrap64]
  refine (c_Clip_int H).go ?_
  intro v' h2 H
  simp -implicitDefEqProofs (disch := first | omega | (simp only [List.length_set, List.length_replicate, List.length_append, List.length_map, List.length_take, List.length_cons, List.length_nil]; omega)) [wrap64]
  exact RetK.keep (hk _ _ H)

end Go.Proofs.YtonjglbachhdcaaGreat

/-
  States of systems; projections of states: by the program and by the reference.
-/
namespace Go.Proofs.YtonjglbachhdcaaGreat
open Go
set_option linter.all false
set_option linter.unusedVariables false
set_option linter.unusedSimpArgs false
set_option linter.defProp false
set_option maxRecDepth 1000000

/-- a state of a system -/
structure Sta.Ok (s : Sy) (st : Sta) : Prop where
  len : st.locs.length = s.procs.length
  vs : VOk st.vals
  lc : ∀ (i : Nat) (h1 : i < st.locs.length) (h2 : i < s.procs.length), 0 ≤ st.locs[i] ∧ st.locs[i] < s.procs[i].locs
noncomputable instance instDecStaOk {s : Sy} {st : Sta} : Decidable (st.Ok s) := Classical.propDecidable _

theorem c_has {h : Heap} {v w : Value} {s : Sy} {st : Sta} (hs : s.Ok) (R : Rep h v s) (Rt : Rep h w st) : CallE Tryz.prog fn_impl_System_has [v, w] h (fun u h' => h.le h' ∧ u = .bool (decide (st.Ok s))) := by
  obtain ⟨v1, v2, rfl, R1, R2⟩ := Rep_Sy.1 R
  obtain ⟨w1, w2, rfl, T1, T2⟩ := Rep_Sta.1 Rt
  have hL1 := R2.lt
  have hL2 := T1.lt
  refine CallE.gen fun k hk => EN_impl_System_has rfl ?_
  have hno : ∀ {h'}, h.le h' → ¬ st.Ok s → k (.bool false) h' := fun hl hh => hk _ _ ⟨hl, by rw [decide_eq_false hh]⟩
  by_cases q1 : (st.locs.length : Int) = s.procs.length
  case neg => simp -implicitDefEqProofs (disch := first | omega | (simp only [List.length_set, List.length_replicate, List.length_append, List.length_map, List.length_take, List.length_cons, List.length_nil]; omega)) [wrap64, T1.len, R2.len, q1]; exact RetK.keep (hno (Heap.le.refl _) fun hh => q1 (by rw [hh.len]))
  simp -implicitDefEqProofs (disch := first | omega | (simp only [List.length_set, List.length_replicate, List.length_append, List.length_map, List.length_take, List.length_cons, List.length_nil]; omega)) [wrap64, T1.len, R2.len, q1]
  refine (c_valsOk T2).go ?_
  rintro _ h1 ⟨l1, rfl⟩
  by_cases q2 : VOk st.vals
  case neg => simp -implicitDefEqProofs (disch := first | omega | (simp only [List.length_set, List.length_replicate, List.length_append, List.length_map, List.length_take, List.length_cons, List.length_nil]; omega)) [wrap64, q2]; exact RetK.keep (hno l1 fun hh => q2 hh.vs)
  have T1' := T1.le l1
  have R2' := R2.le l1
  simp -implicitDefEqProofs (disch := first | omega | (simp only [List.length_set, List.length_replicate, List.length_append, List.length_map, List.length_take, List.length_cons, List.length_nil]; omega)) [wrap64, q2, T1'.len]
  refine wp_count st.locs.length (fun i e h' => e = [none, none, some (.agg #[v1, v2]), none, none, none, none, some w1, some (.int .i64 st.locs.length), some (.int .i64 i)] ∧ h' = h1 ∧ ∀ (j : Nat) (a : j < st.locs.length) (b : j < s.procs.length), j < i → 0 ≤ st.locs[j] ∧ st.locs[j] < s.procs[j].locs) ⟨by simp [q1], rfl, fun j _ _ hj => absurd hj (Nat.not_lt_zero j)⟩ ?_
  rintro J i _ h2 hJ hi ⟨rfl, rfl, hall⟩
  simp -implicitDefEqProofs (disch := first | omega | (simp only [List.length_set, List.length_replicate, List.length_append, List.length_map, List.length_take, List.length_cons, List.length_nil]; omega)) [wrap64]
  refine IteW.mk (fun hlt => ?_) (fun hge => ?_)
  · have hlx : i < st.locs.length := by omega
    have hlp : i < s.procs.length := by omega
    obtain ⟨u, hu, Ru⟩ := R2'.ld hlp
    change hload _ (some (elp 2 v2 i)) (some 2) = some u at hu
    obtain ⟨we, rfl, k1, R3⟩ := Rep_Pr.1 Ru
    have hP := hld_parts hu
    have hp1 := (hs.at hlp).n1
    have hp4 := (hs.at hlp).n4
    simp -implicitDefEqProofs (disch := first | omega | (simp only [List.length_set, List.length_replicate, List.length_append, List.length_map, List.length_take, List.length_cons, List.length_nil]; omega)) [wrap64, T1'.I, R2'.X (n := 2) rfl, hP.1, hP.2.2.1]
    refine c_in.go ?_
    rintro _ h2 ⟨rfl, rfl⟩
    by_cases q3 : 0 ≤ st.locs[i] ∧ st.locs[i] ≤ s.procs[i].locs - 1
    case neg => simp -implicitDefEqProofs (disch := first | omega | (simp only [List.length_set, List.length_replicate, List.length_append, List.length_map, List.length_take, List.length_cons, List.length_nil]; omega)) [wrap64, q3]; exact RetK.keep (hno l1 fun hh => q3 (by have := hh.lc i hlx hlp; omega))
    simp -implicitDefEqProofs (disch := first | omega | (simp only [List.length_set, List.length_replicate, List.length_append, List.length_map, List.length_take, List.length_cons, List.length_nil]; omega)) [wrap64, q3]
    refine hJ _ _ hlx ⟨by simp, rfl, fun j a b hji => ?_⟩
    by_cases hji2 : j = i
    · subst hji2; omega
    · exact hall j a b (by omega)
  · simp -implicitDefEqProofs (disch := first | omega | (simp only [List.length_set, List.length_replicate, List.length_append, List.length_map, List.length_take, List.length_cons, List.length_nil]; omega)) [wrap64]
    exact RetK.keep (hk _ _ ⟨l1, by rw [decide_eq_true (show st.Ok s from ⟨by omega, q2, fun i a b => hall i a b (by omega)⟩)]⟩)

theorem c_State_copyOf {h : Heap} {v : Value} {st : Sta} (R : Rep h v st) (h1 : st.locs.length ≤ 1073741824) (h2 : st.vals.length ≤ 1073741824) : CallE Tryz.prog fn_impl_State_copyOf [v] h (fun u h' => HS h [ow u st] h') := by
  obtain ⟨v1, v2, rfl, R1, R2⟩ := Rep_Sta.1 R
  refine CallE.gen fun k hk => EN_impl_State_copyOf rfl ?_
  simp -implicitDefEqProofs (disch := first | omega | (simp only [List.length_set, List.length_replicate, List.length_append, List.length_map, List.length_take, List.length_cons, List.length_nil]; omega)) [wrap64]
  refine (c_clone_int R1 h1).go ?_
  intro u1 m1 H
  simp -implicitDefEqProofs (disch := first | omega | (simp only [List.length_set, List.length_replicate, List.length_append, List.length_map, List.length_take, List.length_cons, List.length_nil]; omega)) [wrap64]
  refine (c_clone_int (R2.on H) h2).go ?_
  intro u2 m2 H2
  have H := H2.app H
  simp -implicitDefEqProofs (disch := first | omega | (simp only [List.length_set, List.length_replicate, List.length_append, List.length_map, List.length_take, List.length_cons, List.length_nil]; omega)) [wrap64, H.rep.cells, H.rep.one, H.sw1.rep.cells, H.sw1.rep.one, setC]
  exact RetK.keep (hk _ _ (HS.mkSta H.sw1))

/-- the values that are kept, and the first values where they don't matter -/
def prV (s : Sy) (L : List Exq) (st : Sta) : List Int := (List.range 3).map fun i => if (s.rel L).getD i false then st.vals.getD i 0 else s.init.getD i 0
noncomputable def prR (s : Sy) (L : List Exq) (st : Sta) : Sta := if s.Ok ∧ LOk L ∧ st.Ok s then ⟨st.locs, prV s L st⟩ else Sta.zero
theorem zero_St {g h : Heap} {Γ : List HP} (H : HS g Γ h) : HS g (ow (.agg #[.slice none 0 0, .slice none 0 0]) Sta.zero :: Γ) h := HS.mkSta (a := Sta.zero) H.nil_ow.nil_ow

end Go.Proofs.YtonjglbachhdcaaGreat

/-
  Steps in plain Lean: which are enabled, and what they lead to.
-/
namespace Go.Proofs.YtonjglbachhdcaaGreat
open Go
set_option linter.all false
set_option linter.unusedVariables false
set_option linter.unusedSimpArgs false
set_option linter.defProp false
set_option maxRecDepth 1000000

theorem fm_tk {α β : Type} {f : α × Nat → List β} {l : List α} {i : Nat} (hi : i < l.length) : (l.zipIdx.take (i + 1)).flatMap f = (l.zipIdx.take i).flatMap f ++ f (l[i], i) := by
  rw [List.take_add_one, List.getElem?_eq_getElem (by simpa using hi), List.flatMap_append]
  simp
theorem fm_all {α β : Type} {f : α × Nat → List β} {l : List α} {i : Nat} (hi : l.length ≤ i) : (l.zipIdx.take i).flatMap f = l.zipIdx.flatMap f := by
  rw [List.take_of_length_le (by simpa using hi)]
theorem len_fm {α β : Type} {f : α → List β} {c : Nat} : ∀ {l : List α}, (∀ x ∈ l, (f x).length ≤ c) → (l.flatMap f).length ≤ l.length * c
  | [], _ => by simp
  | x :: l, h => by
    have h1 := len_fm (l := l) fun y hy => h y (by simp [hy])
    have h2 := h x (by simp)
    rw [List.flatMap_cons, List.length_append, List.length_cons, Nat.add_mul]
    omega
theorem len_fmz {α β : Type} {f : α × Nat → List β} {c : Nat} {l : List α} (h : ∀ (i : Nat) (hi : i < l.length), (f (l[i], i)).length ≤ c) (n : Nat) : ((l.zipIdx.take n).flatMap f).length ≤ l.length * c := by
  have h1 : ((l.zipIdx.take n).flatMap f).length ≤ (l.zipIdx.take n).length * c := len_fm fun x hx => by
    have h2 := List.mem_of_mem_take hx
    rw [List.mem_zipIdx_iff_getElem?, List.getElem?_eq_some_iff] at h2
    obtain ⟨h3, h4⟩ := h2
    have := h x.2 h3
    rw [h4] at this
    exact this
  have h2 : (l.zipIdx.take n).length * c ≤ l.length * c := Nat.mul_le_mul_right _ (by simp; omega)
  omega
theorem mem_fmz {α β : Type} {f : α × Nat → List β} {l : List α} {t : β} : t ∈ l.zipIdx.flatMap f ↔ ∃ (i : Nat) (hi : i < l.length), t ∈ f (l[i], i) := by
  rw [List.mem_flatMap]
  constructor
  · rintro ⟨x, hx, ht⟩
    rw [List.mem_zipIdx_iff_getElem?, List.getElem?_eq_some_iff] at hx
    obtain ⟨h3, h4⟩ := hx
    exact ⟨x.2, h3, by rw [h4]; exact ht⟩
  · rintro ⟨i, hi, ht⟩
    exact ⟨(l[i], i), by rw [List.mem_zipIdx_iff_getElem?]; simp [hi], ht⟩

/-- an edge is ready -/
def Ed.rdy (e : Ed) (st : Sta) (i : Nat) : Bool := decide (st.locs.getD i 0 = e.frm ∧ e.guard.ev st.vals ≠ 0)
def prt2 (st : Sta) (i k : Nat) (c : Int) (j : Nat) (x : Ed × Nat) : List Stp := if j ≠ i ∧ x.1.sync = -c ∧ x.1.rdy st j = true then [⟨i, k, j, x.2⟩] else []
def prt1 (st : Sta) (i k : Nat) (c : Int) (x : Pr × Nat) : List Stp := x.1.edges.zipIdx.flatMap (prt2 st i k c x.2)
/-- the steps with partners -/
def prt (s : Sy) (st : Sta) (i k : Nat) (c : Int) : List Stp := s.procs.zipIdx.flatMap (prt1 st i k c)
def enb2 (s : Sy) (st : Sta) (i : Nat) (x : Ed × Nat) : List Stp := if x.1.sync < 0 ∨ x.1.rdy st i = false then [] else if x.1.sync = 0 then [⟨i, x.2, -1, -1⟩] else prt s st i x.2 x.1.sync
def enb1 (s : Sy) (st : Sta) (x : Pr × Nat) : List Stp := x.1.edges.zipIdx.flatMap (enb2 s st x.2)
/-- the enabled steps -/
def enb (s : Sy) (st : Sta) : List Stp := s.procs.zipIdx.flatMap (enb1 s st)

theorem prt1_len {st : Sta} {i k : Nat} {c : Int} {p : Pr} {j n : Nat} (hp : p.Ok) : ((p.edges.zipIdx.take n).flatMap (prt2 st i k c j)).length ≤ 6 := by
  have h1 := len_fmz (f := prt2 st i k c j) (c := 1) (l := p.edges) (fun m hm => by unfold prt2; split <;> simp) n
  have := hp.el
  omega
theorem prt_len {s : Sy} {st : Sta} {i k n : Nat} {c : Int} (hs : s.Ok) : ((s.procs.zipIdx.take n).flatMap (prt1 st i k c)).length ≤ 18 := by
  have h1 := len_fmz (f := prt1 st i k c) (c := 6) (l := s.procs) (fun m hm => by
    have := prt1_len (st := st) (i := i) (k := k) (c := c) (j := m) (n := s.procs[m].edges.length) (hs.at hm)
    rw [fm_all (Nat.le_refl _)] at this
    exact this) n
  have := hs.p3
  omega
theorem prt_len' {s : Sy} {st : Sta} {i k : Nat} {c : Int} (hs : s.Ok) : (prt s st i k c).length ≤ 18 := by
  have := prt_len (st := st) (i := i) (k := k) (c := c) (n := s.procs.length) hs
  rwa [fm_all (Nat.le_refl _)] at this
theorem enb2_len {s : Sy} {st : Sta} {i : Nat} {x : Ed × Nat} (hs : s.Ok) : (enb2 s st i x).length ≤ 18 := by
  unfold enb2
  split
  · simp
  · split
    · simp
    · exact prt_len' hs
theorem enb1_len {s : Sy} {st : Sta} {i n : Nat} {p : Pr} (hs : s.Ok) (hp : p.Ok) : ((p.edges.zipIdx.take n).flatMap (enb2 s st i)).length ≤ 108 := by
  have h1 := len_fmz (f := enb2 s st i) (c := 18) (l := p.edges) (fun m hm => enb2_len hs) n
  have := hp.el
  omega
theorem enb_len {s : Sy} {st : Sta} {n : Nat} (hs : s.Ok) : ((s.procs.zipIdx.take n).flatMap (enb1 s st)).length ≤ 324 := by
  have h1 := len_fmz (f := enb1 s st) (c := 108) (l := s.procs) (fun m hm => by
    have := enb1_len (s := s) (st := st) (i := m) (n := s.procs[m].edges.length) hs (hs.at hm)
    rw [fm_all (Nat.le_refl _)] at this
    exact this) n
  have := hs.p3
  omega
theorem enb_len' {s : Sy} {st : Sta} (hs : s.Ok) : (enb s st).length ≤ 324 := by
  have := enb_len (st := st) (n := s.procs.length) hs
  rwa [fm_all (Nat.le_refl _)] at this

/-- where a step's edges lie -/
structure Stp.In (s : Sy) (t : Stp) : Prop where
  ex : ∃ (i k : Nat) (hi : i < s.procs.length) (_ : k < s.procs[i].edges.length), t.proc = i ∧ t.edge = k
  pt : t.partner = -1 ∨ ∃ (j m : Nat) (hj : j < s.procs.length) (_ : m < s.procs[j].edges.length), t.partner = j ∧ t.pedge = m
theorem enb_in {s : Sy} {st : Sta} {t : Stp} (h : t ∈ enb s st) : t.In s := by
  unfold enb at h
  obtain ⟨i, hi, h⟩ := mem_fmz.1 h
  unfold enb1 at h
  obtain ⟨k, hk, h⟩ := mem_fmz.1 h
  unfold enb2 at h
  split at h
  · simp at h
  · split at h
    · simp at h; subst h
      exact ⟨⟨i, k, hi, hk, rfl, rfl⟩, .inl rfl⟩
    · unfold prt at h
      obtain ⟨j, hj, h⟩ := mem_fmz.1 h
      unfold prt1 at h
      obtain ⟨m, hm, h⟩ := mem_fmz.1 h
      unfold prt2 at h
      split at h
      · simp at h; subst h
        exact ⟨⟨i, k, hi, hk, rfl, rfl⟩, .inr ⟨j, m, hj, hm, rfl, rfl⟩⟩
      · simp at h

/-- an edge is taken -/
def Sta.tk (st : Sta) (i : Nat) (e : Ed) : Sta := ⟨st.locs.set i e.to, if 0 ≤ e.var then st.vals.set e.var.toNat (e.value.ev st.vals) else st.vals⟩
def Sy.ed (s : Sy) (i k : Nat) : Ed := (s.procs.getD i ⟨0, []⟩).edges.getD k ⟨0, 0, Exq.zero, 0, Exq.zero, 0⟩
theorem Sy.ed_eq {s : Sy} {i k : Nat} (hi : i < s.procs.length) (hk : k < s.procs[i].edges.length) : s.ed i k = s.procs[i].edges[k] := by
  simp [Sy.ed, hi, hk]
/-- the state after a step -/
def Sta.aft (s : Sy) (st : Sta) (t : Stp) : Sta := if 0 ≤ t.partner then (st.tk t.proc.toNat (s.ed t.proc.toNat t.edge.toNat)).tk t.partner.toNat (s.ed t.partner.toNat t.pedge.toNat) else st.tk t.proc.toNat (s.ed t.proc.toNat t.edge.toNat)
theorem Sta.tk_ok {s : Sy} {st : Sta} {i : Nat} {e : Ed} (h : st.Ok s) (hi : i < s.procs.length) (he : e.Ok s.procs[i].locs) : (st.tk i e).Ok s := by
  have hv := h.vs
  refine ⟨by simp [Sta.tk, h.len], ?_, fun j h1 h2 => ?_⟩
  · unfold Sta.tk
    simp only
    split
    · rename_i h0
      have hvo : e.value.Ok := he.vl.elim (fun hh => hh.2) (fun hh => absurd hh.1 (by omega))
      have hb := Exq.ev_bnd hv hvo.1
      refine ⟨by simp [hv.len], fun x hx => ?_⟩
      rcases List.mem_or_eq_of_mem_set hx with h1 | h1
      · exact hv.2 x h1
      · rw [h1]; exact hb
    · exact hv
  · simp only [Sta.tk, List.getElem_set]
    split
    · rename_i e1
      subst e1
      exact ⟨he.t0, he.t1⟩
    · exact h.lc j (by simpa [Sta.tk] using h1) h2
theorem Sta.aft_ok {s : Sy} {st : Sta} {t : Stp} (hs : s.Ok) (h : st.Ok s) (ht : t.In s) : (st.aft s t).Ok s := by
  obtain ⟨⟨i, k, hi, hk, h1, h2⟩, h3⟩ := ht
  have g1 : (st.tk t.proc.toNat (s.ed t.proc.toNat t.edge.toNat)).Ok s := by
    rw [h1, h2, Int.toNat_natCast, Int.toNat_natCast, Sy.ed_eq hi hk]
    exact Sta.tk_ok h hi ((hs.at hi).at hk)
  unfold Sta.aft
  rcases h3 with h3 | ⟨j, m, hj, hm, h3, h4⟩
  · rw [if_neg (by omega)]; exact g1
  · rw [if_pos (by omega)]
    have : (st.tk t.proc.toNat (s.ed t.proc.toNat t.edge.toNat)).tk t.partner.toNat (s.ed t.partner.toNat t.pedge.toNat) = (st.tk t.proc.toNat (s.ed t.proc.toNat t.edge.toNat)).tk j (s.procs[j].edges[m]) := by
      rw [h3, h4, Int.toNat_natCast, Int.toNat_natCast, Sy.ed_eq hj hm]
    rw [this]
    exact Sta.tk_ok g1 hj ((hs.at hj).at hm)
noncomputable def ens (s : Sy) (st : Sta) : List Stp := if s.Ok ∧ st.Ok s then enb s st else []
end Go.Proofs.YtonjglbachhdcaaGreat

/-
  Graphs of systems in plain Lean: how they are built.
-/
namespace Go.Proofs.YtonjglbachhdcaaGreat
open Go
set_option linter.all false
set_option linter.unusedVariables false
set_option linter.unusedSimpArgs false
set_option linter.defProp false
set_option maxRecDepth 1000000

/-- where a state lies -/
def fx (xs : List Sta) (st : Sta) : Int := match xs.findIdx? (fun y => decide (y = st)) with | some i => (i : Int) | none => -1
theorem fx_mem {xs : List Sta} {st : Sta} (h : st ∈ xs) : ∃ (i : Nat) (hi : i < xs.length), fx xs st = i ∧ xs[i] = st := by
  obtain ⟨i, hi⟩ : ∃ i, xs.findIdx? (fun y => decide (y = st)) = some i := by
    rcases hf : xs.findIdx? (fun y => decide (y = st)) with _ | i
    · rw [List.findIdx?_eq_none_iff] at hf
      have := hf st h
      simp at this
    · exact ⟨i, rfl⟩
  have h2 := hi
  rw [List.findIdx?_eq_some_iff_getElem] at h2
  obtain ⟨h3, h4, _⟩ := h2
  exact ⟨i, h3, by rw [fx, hi], by simpa using h4⟩
theorem fx_not {xs : List Sta} {st : Sta} (h : st ∉ xs) : fx xs st = -1 := by
  have : xs.findIdx? (fun y => decide (y = st)) = none := by
    rw [List.findIdx?_eq_none_iff]
    intro y hy
    simp only [decide_eq_false_iff_not]
    rintro rfl
    exact h hy
  rw [fx, this]
def adS (xs : List Sta) (st : Sta) : List Sta := if st ∈ xs then xs else xs ++ [st]
def atS (xs : List Sta) (st : Sta) : Int := if st ∈ xs then fx xs st else xs.length
def adI (l : List Int) (n : Int) : List Int := if n ∈ l then l else l ++ [n]
def g1 (p : List Sta × List Int) (st : Sta) : List Sta × List Int := (adS p.1 st, adI p.2 (atS p.1 st))
theorem mem_adI {l : List Int} {n x : Int} : x ∈ adI l n ↔ x ∈ l ∨ x = n := by
  unfold adI
  split
  · constructor
    · exact .inl
    · rintro (h | rfl) <;> assumption
  · simp
theorem adI_len {l : List Int} {n : Int} : (adI l n).length ≤ l.length + 1 := by
  unfold adI; split <;> simp
theorem adI_ne {l : List Int} {n : Int} : adI l n ≠ [] := by
  unfold adI
  split
  · rename_i h; rintro rfl; simp at h
  · simp
theorem adS_len {xs : List Sta} {st : Sta} : (adS xs st).length ≤ xs.length + 1 := by
  unfold adS; split <;> simp
theorem adS_ge {xs : List Sta} {st : Sta} : xs.length ≤ (adS xs st).length := by
  unfold adS; split <;> simp
theorem atS_rng {xs : List Sta} {st : Sta} : 0 ≤ atS xs st ∧ atS xs st < (adS xs st).length := by
  unfold atS adS
  split
  · rename_i h
    obtain ⟨i, hi, e, _⟩ := fx_mem h
    omega
  · simp; omega

/-- one state's steps -/
def gF (s : Sy) (x : Sta) (n : Nat) (xs : List Sta) : List Sta × List Int := ((enb s x).take n).foldl (fun p t => g1 p (x.aft s t)) (xs, [])
theorem gF_zero {s : Sy} {x : Sta} {xs : List Sta} : gF s x 0 xs = (xs, []) := rfl
theorem gF_succ {s : Sy} {x : Sta} {n : Nat} {xs : List Sta} (hn : n < (enb s x).length) : gF s x (n + 1) xs = g1 (gF s x n xs) (x.aft s (enb s x)[n]) := by
  unfold gF
  rw [List.take_add_one, List.getElem?_eq_getElem hn, List.foldl_append]
  rfl
structure GI (s : Sy) (xs : List Sta) (n : Nat) (p : List Sta × List Int) : Prop where
  pre : ∃ t, p.1 = xs ++ t
  ok : ∀ st ∈ p.1, st.Ok s
  rng : ∀ x ∈ p.2, 0 ≤ x ∧ x < p.1.length
  new : ∀ j : Nat, xs.length ≤ j → j < p.1.length → (j : Int) ∈ p.2
  l1 : p.1.length ≤ xs.length + n
  l2 : p.2.length ≤ n
  ne : 1 ≤ n → p.2 ≠ []
theorem GI.ge {s : Sy} {xs : List Sta} {n : Nat} {p : List Sta × List Int} (h : GI s xs n p) : xs.length ≤ p.1.length := by
  obtain ⟨t, e⟩ := h.pre
  rw [e]; simp
theorem GI.step {s : Sy} {xs : List Sta} {n : Nat} {p : List Sta × List Int} {st : Sta} (h : GI s xs n p) (hst : st.Ok s) : GI s xs (n + 1) (g1 p st) := by
  have hr := atS_rng (xs := p.1) (st := st)
  have hl := adS_len (xs := p.1) (st := st)
  have hg := adS_ge (xs := p.1) (st := st)
  have hl2 := adI_len (l := p.2) (n := atS p.1 st)
  refine ⟨?_, ?_, ?_, ?_, ?_, ?_, fun _ => adI_ne⟩
  · obtain ⟨t, e⟩ := h.pre
    unfold g1 adS
    simp only
    split
    · exact ⟨t, e⟩
    · exact ⟨t ++ [st], by rw [e, List.append_assoc]⟩
  · intro y hy
    simp only [g1, adS] at hy
    split at hy
    · exact h.ok y hy
    · simp only [List.mem_append, List.mem_singleton] at hy
      rcases hy with hy | rfl
      · exact h.ok y hy
      · exact hst
  · intro x hx
    simp only [g1, mem_adI] at hx
    rcases hx with hx | rfl
    · have := h.rng x hx
      simp only [g1]; omega
    · exact hr
  · intro j h1 h2
    simp only [g1] at h2 ⊢
    rw [mem_adI]
    by_cases hj : j < p.1.length
    · exact .inl (h.new j h1 hj)
    · right
      unfold adS at h2
      unfold atS
      split at h2
      · omega
      · rename_i q
        rw [if_neg q]
        simp at h2; omega
  · have := h.l1; simp only [g1]; omega
  · have := h.l2; simp only [g1]; omega
theorem gF_inv {s : Sy} {x : Sta} {xs : List Sta} (hs : s.Ok) (hx : x.Ok s) (hxs : ∀ st ∈ xs, st.Ok s) : ∀ n, n ≤ (enb s x).length → GI s xs n (gF s x n xs)
  | 0, _ => ⟨⟨[], by simp [gF_zero]⟩, hxs, fun x hx => by simp [gF_zero] at hx, fun j h1 h2 => by simp only [gF_zero] at h2; omega, by simp [gF_zero], by simp [gF_zero], fun h => absurd h (by decide)⟩
  | n + 1, hn => by
    rw [gF_succ (by omega)]
    exact (gF_inv hs hx hxs n (by omega)).step (Sta.aft_ok hs hx (enb_in (List.getElem_mem _)))

/-- the graph after some states are done -/
def nxS (i : Nat) (l : List Int) : List Int := if l = [] then [(i : Int)] else l
def rnd (s : Sy) (i : Nat) (g : Gr) : Gr :=
  if h : i < g.states.length then ⟨(gF s g.states[i] (enb s g.states[i]).length g.states).1, g.next ++ [nxS i (gF s g.states[i] (enb s g.states[i]).length g.states).2]⟩ else g
def ini (s : Sy) : Sta := ⟨List.replicate s.procs.length 0, s.init⟩
def gN (s : Sy) : Nat → Gr
  | 0 => ⟨[ini s], []⟩
  | n + 1 => rnd s n (gN s n)
theorem gN_succ {s : Sy} {n : Nat} (h : n < (gN s n).states.length) : gN s (n + 1) = ⟨(gF s (gN s n).states[n] (enb s (gN s n).states[n]).length (gN s n).states).1, (gN s n).next ++ [nxS n (gF s (gN s n).states[n] (enb s (gN s n).states[n]).length (gN s n).states).2]⟩ := by
  rw [gN, rnd, dif_pos h]
theorem gN_stop {s : Sy} {n : Nat} (h : (gN s n).states.length ≤ n) : gN s (n + 1) = gN s n := by
  rw [gN, rnd, dif_neg (by omega)]
theorem ini_ok {s : Sy} (hs : s.Ok) : (ini s).Ok s :=
  ⟨by simp [ini], hs.vs, fun i h1 h2 => by
    have := (hs.at h2).n1
    simp only [ini, List.getElem_replicate]; omega⟩
structure GInv (s : Sy) (n : Nat) (g : Gr) : Prop where
  ok : ∀ st ∈ g.states, st.Ok s
  pos : 1 ≤ g.states.length
  nl : g.next.length = min n g.states.length
  ent : ∀ l ∈ g.next, l ≠ [] ∧ ∀ x ∈ l, 0 ≤ x ∧ x < g.states.length
  ll : ∀ l ∈ g.next, l.length ≤ 325
  rch : ∀ j : Nat, 1 ≤ j → j < g.states.length → ∃ (i : Nat) (hi : i < g.next.length), i < j ∧ (j : Int) ∈ g.next[i]
theorem gN_inv {s : Sy} (hs : s.Ok) : ∀ n, GInv s n (gN s n)
  | 0 => ⟨fun st h => by simp [gN] at h; subst h; exact ini_ok hs, by simp [gN], by simp [gN], fun l hl => by simp [gN] at hl, fun l hl => by simp [gN] at hl, fun j h1 h2 => by simp [gN] at h2; omega⟩
  | n + 1 => by
    have ih := gN_inv hs n
    by_cases h : n < (gN s n).states.length
    case neg =>
      rw [gN_stop (by omega)]
      exact ⟨ih.ok, ih.pos, by rw [ih.nl]; omega, ih.ent, ih.ll, ih.rch⟩
    rw [gN_succ h]
    have hxo := ih.ok _ (List.getElem_mem h)
    have gi := gF_inv hs hxo ih.ok _ (Nat.le_refl (enb s (gN s n).states[n]).length)
    have hge := gi.ge
    have hel := enb_len' (st := (gN s n).states[n]) hs
    have hnl : (gN s n).next.length = n := by rw [ih.nl]; omega
    generalize gF s (gN s n).states[n] (enb s (gN s n).states[n]).length (gN s n).states = p at gi hge
    have hnx : ∀ j : Nat, (gN s n).states.length ≤ j → j < p.1.length → (j : Int) ∈ nxS n p.2 := fun j h1 h2 => by
      have h3 := gi.new j h1 h2
      unfold nxS
      split
      · rename_i e; rw [e] at h3; simp at h3
      · exact h3
    refine ⟨gi.ok, by have := ih.pos; simp only; omega, by simp [hnl]; omega, fun l hl => ?_, fun l hl => ?_, fun j h1 h2 => ?_⟩
    · simp only [List.mem_append, List.mem_singleton] at hl
      rcases hl with hl | rfl
      · have := ih.ent l hl
        exact ⟨this.1, fun x hx => by have := this.2 x hx; simp only; omega⟩
      · unfold nxS
        split
        · exact ⟨by simp, fun x hx => by simp at hx; subst hx; simp only; omega⟩
        · exact ⟨by assumption, gi.rng⟩
    · simp only [List.mem_append, List.mem_singleton] at hl
      rcases hl with hl | rfl
      · exact ih.ll l hl
      · unfold nxS
        split
        · simp
        · have := gi.l2; omega
    · by_cases hj : j < (gN s n).states.length
      · obtain ⟨i, hi, h3, h4⟩ := ih.rch j h1 hj
        refine ⟨i, by simp; omega, h3, ?_⟩
        simp only [List.getElem_append_left hi]
        exact h4
      · refine ⟨n, by simp; omega, by omega, ?_⟩
        have : ((gN s n).next ++ [nxS n p.2])[n]'(by simp; omega) = nxS n p.2 := by
          rw [List.getElem_append_right (by omega)]
          simp
        simp only [this]
        exact hnx j (by omega) h2
theorem gN_mono {s : Sy} (hs : s.Ok) {n m : Nat} (h : n ≤ m) : (gN s n).states.length ≤ (gN s m).states.length := by
  induction m with
  | zero => have : n = 0 := by omega
            subst this; exact Nat.le_refl _
  | succ m ih =>
    by_cases e : n = m + 1
    · subst e; exact Nat.le_refl _
    refine Nat.le_trans (ih (by omega)) ?_
    by_cases h2 : m < (gN s m).states.length
    · rw [gN_succ h2]
      exact (gF_inv hs ((gN_inv hs m).ok _ (List.getElem_mem h2)) (gN_inv hs m).ok _ (Nat.le_refl _)).ge
    · rw [gN_stop (by omega)]
      exact Nat.le_refl _
theorem gN_fix {s : Sy} {n m : Nat} (h : (gN s n).states.length ≤ n) (hm : n ≤ m) : gN s m = gN s n := by
  induction m with
  | zero => have : n = 0 := by omega
            subst this; rfl
  | succ m ih =>
    by_cases e : n = m + 1
    · subst e; rfl
    have := ih (by omega)
    rw [gN_stop (by rw [this]; omega), this]
def Gr.zero : Gr := ⟨[], []⟩
/-- small graphs -/
def bgOk (s : Sy) : Prop := s.Ok ∧ (gN s 60).states.length ≤ 60
noncomputable instance {s : Sy} : Decidable (bgOk s) := Classical.propDecidable _
noncomputable def bgR (s : Sy) : Gr := if bgOk s then gN s 60 else Gr.zero
structure Gr.Fin (s : Sy) (g : Gr) : Prop where
  ok : ∀ st ∈ g.states, st.Ok s
  pos : 1 ≤ g.states.length
  n60 : g.states.length ≤ 60
  nl : g.next.length = g.states.length
  ent : ∀ l ∈ g.next, l ≠ [] ∧ ∀ x ∈ l, 0 ≤ x ∧ x < g.states.length
  ll : ∀ l ∈ g.next, l.length ≤ 325
  rch : ∀ j : Nat, 1 ≤ j → j < g.states.length → ∃ (i : Nat) (hi : i < g.next.length), i < j ∧ (j : Int) ∈ g.next[i]
theorem bgR_fin {s : Sy} (h : bgOk s) : (bgR s).Fin s := by
  have hi := gN_inv h.1 60
  have h2 := h.2
  rw [bgR, if_pos h]
  exact ⟨hi.ok, hi.pos, h.2, by rw [hi.nl]; omega, hi.ent, hi.ll, hi.rch⟩
theorem bg_big {s : Sy} {n : Nat} (hs : s.Ok) (hn : n ≤ 60) (h : 60 < (gN s n).states.length) : ¬ bgOk s := fun hb => by
  have := gN_mono hs hn
  have := hb.2
  omega
theorem bg_end {s : Sy} {n : Nat} (hs : s.Ok) (hn : (gN s n).states.length ≤ n) (h : n ≤ 60) : bgOk s ∧ gN s n = bgR s := by
  have h1 := gN_fix hn h
  have h2 : bgOk s := ⟨hs, by rw [h1]; omega⟩
  exact ⟨h2, by rw [bgR, if_pos h2, h1]⟩
end Go.Proofs.YtonjglbachhdcaaGreat

/-
  Searching graphs in plain Lean: shortest paths from the first node.
-/
namespace Go.Proofs.YtonjglbachhdcaaGreat
open Go
set_option linter.all false
set_option linter.unusedVariables false
set_option linter.unusedSimpArgs false
set_option linter.defProp false
set_option maxRecDepth 1000000

def bs1 (at' : Int) (p : List Int × List Int) (to : Int) : List Int × List Int := if p.1.getD to.toNat 0 = -2 then (p.1.set to.toNat at', p.2 ++ [to]) else p
def bsF (l : List Int) (at' : Int) (p : List Int × List Int) (n : Nat) : List Int × List Int := (l.take n).foldl (bs1 at') p
def bsR (next : List (List Int)) (i : Nat) (p : List Int × List Int) : List Int × List Int :=
  if i < p.2.length then bsF (next.getD (p.2.getD i 0).toNat []) (p.2.getD i 0) p (next.getD (p.2.getD i 0).toNat []).length else p
def bsN (next : List (List Int)) : Nat → List Int × List Int
  | 0 => ((List.replicate next.length (-2)).set 0 (-1), [0])
  | n + 1 => bsR next n (bsN next n)
theorem bsF_zero {l : List Int} {a : Int} {p : List Int × List Int} : bsF l a p 0 = p := rfl
theorem bsF_succ {l : List Int} {a : Int} {p : List Int × List Int} {n : Nat} (hn : n < l.length) : bsF l a p (n + 1) = bs1 a (bsF l a p n) l[n] := by
  unfold bsF
  rw [List.take_add_one, List.getElem?_eq_getElem hn, List.foldl_append]
  rfl

/-- what holds of a search -/
structure BI (N : Nat) (p : List Int × List Int) : Prop where
  fl : p.1.length = N
  q0 : ∃ t, p.2 = 0 :: t
  z0 : ∃ t, p.1 = -1 :: t
  inq : ∀ x ∈ p.2, 0 ≤ x ∧ x < N ∧ p.1.getD x.toNat 0 ≠ -2
  vis : ∀ j : Nat, j < N → p.1.getD j 0 ≠ -2 → (j : Int) ∈ p.2
  val : ∀ j : Nat, 1 ≤ j → j < N → p.1.getD j 0 = -2 ∨ 0 ≤ p.1.getD j 0
  par : ∀ q : Nat, 1 ≤ q → q < p.2.length → ∃ r : Nat, r < q ∧ p.1.getD (p.2.getD q 0).toNat 0 = p.2.getD r 0
  cnt : p.2.length + p.1.count (-2) = N
/-- one search goes on from another -/
structure BL (p p' : List Int × List Int) : Prop where
  keep : ∀ j : Nat, p.1.getD j 0 ≠ -2 → p'.1.getD j 0 = p.1.getD j 0
  pre : ∃ t, p'.2 = p.2 ++ t
theorem BL.refl {p : List Int × List Int} : BL p p := ⟨fun _ _ => rfl, ⟨[], by simp⟩⟩
theorem BL.trans {p q r : List Int × List Int} (h : BL p q) (h' : BL q r) : BL p r := by
  refine ⟨fun j hj => ?_, ?_⟩
  · have e := h.keep j hj
    rw [h'.keep j (by rw [e]; exact hj), e]
  · obtain ⟨t, e⟩ := h.pre
    obtain ⟨t', e'⟩ := h'.pre
    exact ⟨t ++ t', by rw [e', e, List.append_assoc]⟩
theorem BL.len {p q : List Int × List Int} (h : BL p q) : p.2.length ≤ q.2.length := by
  obtain ⟨t, e⟩ := h.pre
  rw [e]; simp
theorem BL.at {p q : List Int × List Int} (h : BL p q) {i : Nat} (hi : i < p.2.length) : q.2.getD i 0 = p.2.getD i 0 := by
  obtain ⟨t, e⟩ := h.pre
  rw [e, List.getD_eq_getElem?_getD, List.getD_eq_getElem?_getD, List.getElem?_append_left hi]
theorem count_set {l : List Int} : ∀ {k : Nat} (hk : k < l.length) {a b : Int}, l[k] = a → a ≠ b → (l.set k b).count a + 1 = l.count a := by
  induction l with
  | nil => intro k hk; exact absurd hk (Nat.not_lt_zero k)
  | cons x l ih =>
    intro k hk a b h1 h2
    cases k with
    | zero =>
      simp only [List.getElem_cons_zero] at h1
      subst h1
      simp only [List.set_cons_zero, List.count_cons_self]
      rw [List.count_cons_of_ne (Ne.symm h2)]
    | succ k =>
      simp only [List.getElem_cons_succ] at h1
      have := ih (k := k) (by simpa using hk) h1 h2
      simp only [List.set_cons_succ, List.count_cons]
      omega
theorem getD_setI {l : List Int} {k j : Nat} {a : Int} (hk : k < l.length) : (l.set k a).getD j 0 = if k = j then a else l.getD j 0 := by
  rw [List.getD_eq_getElem?_getD, List.getElem?_set]
  split
  · rename_i e; subst e; simp [hk]
  · rw [List.getD_eq_getElem?_getD]
theorem BI.le {N : Nat} {p : List Int × List Int} (h : BI N p) : p.2.length ≤ N := by have := h.cnt; omega
theorem BI.pos {N : Nat} {p : List Int × List Int} (h : BI N p) : 1 ≤ p.2.length := by
  obtain ⟨t, e⟩ := h.q0
  rw [e]; simp
theorem BI.at {N : Nat} {p : List Int × List Int} (h : BI N p) {i : Nat} (hi : i < p.2.length) : 0 ≤ p.2.getD i 0 ∧ p.2.getD i 0 < N ∧ p.1.getD (p.2.getD i 0).toNat 0 ≠ -2 := by
  have e : p.2.getD i 0 = p.2[i] := by simp [hi]
  rw [e]
  exact h.inq _ (List.getElem_mem hi)
theorem BI.step {N : Nat} {p : List Int × List Int} (h : BI N p) {i : Nat} (hi : i < p.2.length) {to : Int} (h0 : 0 ≤ to) (h1 : to < N) : BI N (bs1 (p.2.getD i 0) p to) ∧ BL p (bs1 (p.2.getD i 0) p to) ∧ (bs1 (p.2.getD i 0) p to).1.getD to.toNat 0 ≠ -2 := by
  obtain ⟨a, ha⟩ : ∃ a, a = p.2.getD i 0 := ⟨_, rfl⟩
  have hat := h.at hi
  rw [← ha] at hat ⊢
  unfold bs1
  split
  case isFalse e => exact ⟨h, BL.refl, e⟩
  rename_i e
  obtain ⟨k, rfl⟩ : ∃ k : Nat, to = k := ⟨to.toNat, (Int.toNat_of_nonneg h0).symm⟩
  simp only [Int.toNat_natCast] at e ⊢
  have hkN : k < p.1.length := by rw [h.fl]; omega
  obtain ⟨t0, e0⟩ := h.z0
  obtain ⟨tq, eq⟩ := h.q0
  have hk0 : k ≠ 0 := by
    rintro rfl
    rw [e0] at e
    simp at e
  have hkq : (k : Int) ∉ p.2 := fun hm => by
    have := (h.inq _ hm).2.2
    rw [Int.toNat_natCast] at this
    exact this e
  have hge : p.1[k] = -2 := by rw [← e]; simp [hkN]
  refine ⟨⟨by simp [h.fl], ⟨tq ++ [(k : Int)], by rw [eq]; simp⟩, ?_, ?_, ?_, ?_, ?_, ?_⟩, ⟨fun j hj => ?_, ⟨_, rfl⟩⟩, ?_⟩
  · obtain ⟨k', rfl⟩ : ∃ k', k = k' + 1 := ⟨k - 1, by omega⟩
    exact ⟨t0.set k' a, by simp [e0]⟩
  · intro x hx
    simp only [List.mem_append, List.mem_singleton] at hx
    simp only [getD_setI hkN]
    rcases hx with hx | rfl
    · have := h.inq x hx
      refine ⟨this.1, this.2.1, ?_⟩
      split
      · omega
      · exact this.2.2
    · refine ⟨by omega, by omega, ?_⟩
      simp; omega
  · intro j hj h2
    simp only [getD_setI hkN] at h2
    simp only [List.mem_append, List.mem_singleton]
    split at h2
    · rename_i e2; right; omega
    · exact .inl (h.vis j hj h2)
  · intro j h2 h3
    simp only [getD_setI hkN]
    split
    · right; omega
    · exact h.val j h2 h3
  · intro q h2 h3
    simp only [List.length_append, List.length_singleton] at h3
    by_cases hq : q < p.2.length
    · obtain ⟨r, hr, e2⟩ := h.par q h2 hq
      have e3 : (p.2 ++ [(k : Int)]).getD q 0 = p.2.getD q 0 := by rw [List.getD_eq_getElem?_getD, List.getElem?_append_left hq, List.getD_eq_getElem?_getD]
      have e4 : (p.2 ++ [(k : Int)]).getD r 0 = p.2.getD r 0 := by rw [List.getD_eq_getElem?_getD, List.getElem?_append_left (by omega), List.getD_eq_getElem?_getD]
      refine ⟨r, hr, ?_⟩
      simp only [e3, e4, getD_setI hkN]
      have := h.at hq
      rw [if_neg (fun e5 => hkq (by
        have e6 : p.2.getD q 0 = p.2[q] := by simp [hq]
        have e7 : (k : Int) = p.2[q] := by rw [← e6]; omega
        rw [e7]; exact List.getElem_mem hq)), e2]
    · have hq2 : q = p.2.length := by omega
      subst hq2
      refine ⟨i, hi, ?_⟩
      have e3 : (p.2 ++ [(k : Int)]).getD p.2.length 0 = k := by simp
      have e4 : (p.2 ++ [(k : Int)]).getD i 0 = a := by rw [List.getD_eq_getElem?_getD, List.getElem?_append_left hi, ← List.getD_eq_getElem?_getD, ha]
      simp only [e3, e4, getD_setI hkN, Int.toNat_natCast, if_pos]
  · have h2 := h.cnt
    have h3 := count_set hkN hge (b := a) (by omega)
    simp only [List.length_append, List.length_singleton]
    omega
  · simp only [getD_setI hkN]
    rw [if_neg]
    rintro rfl
    exact hj e
  · simp only [getD_setI hkN, if_pos]
    omega
theorem BI.fold {N : Nat} {p : List Int × List Int} (h : BI N p) {i : Nat} (hi : i < p.2.length) {l : List Int} (hl : ∀ x ∈ l, 0 ≤ x ∧ x < N) : ∀ n, n ≤ l.length → BI N (bsF l (p.2.getD i 0) p n) ∧ BL p (bsF l (p.2.getD i 0) p n) ∧ ∀ (m : Nat) (hm : m < l.length), m < n → (bsF l (p.2.getD i 0) p n).1.getD l[m].toNat 0 ≠ -2
  | 0, _ => ⟨h, BL.refl, fun m _ hm => absurd hm (Nat.not_lt_zero m)⟩
  | n + 1, hn => by
    obtain ⟨h1, h2, h3⟩ := BI.fold h hi hl n (by omega)
    have hx := hl _ (List.getElem_mem (show n < l.length by omega))
    have hi' : i < (bsF l (p.2.getD i 0) p n).2.length := by have := h2.len; omega
    have := h1.step hi' hx.1 hx.2
    rw [h2.at hi] at this
    rw [bsF_succ (by omega)]
    refine ⟨this.1, h2.trans this.2.1, fun m hm hmn => ?_⟩
    by_cases e : m = n
    · subst e; exact this.2.2
    · have h4 := h3 m hm (by omega)
      rw [this.2.1.keep _ h4]
      exact h4

/-- a graph's edges -/
structure NOk (next : List (List Int)) : Prop where
  pos : 1 ≤ next.length
  n60 : next.length ≤ 60
  ent : ∀ l ∈ next, ∀ x ∈ l, 0 ≤ x ∧ x < next.length
  ll : ∀ l ∈ next, l.length ≤ 325
theorem NOk.get {next : List (List Int)} (h : NOk next) {k : Nat} (hk : k < next.length) : next.getD k [] = next[k] ∧ next[k] ∈ next := ⟨by simp [hk], List.getElem_mem hk⟩
theorem bsN_inv {next : List (List Int)} (hn : NOk next) : ∀ n, BI next.length (bsN next n) ∧ ∀ q : Nat, q < n → q < (bsN next n).2.length → ∀ x ∈ next.getD ((bsN next n).2.getD q 0).toNat [], (bsN next n).1.getD x.toNat 0 ≠ -2
  | 0 => by
    refine ⟨?_, fun q hq => absurd hq (Nat.not_lt_zero q)⟩
    have hp := hn.pos
    obtain ⟨m, hm⟩ : ∃ m, next.length = m + 1 := ⟨next.length - 1, by omega⟩
    have e : (bsN next 0).1 = -1 :: List.replicate m (-2) := by simp [bsN, hm, List.replicate_succ]
    have e2 : (bsN next 0).2 = [0] := rfl
    refine ⟨by rw [e, hm]; simp, ⟨[], e2⟩, ⟨_, e⟩, ?_, ?_, ?_, ?_, ?_⟩
    · intro x hx
      rw [e2, List.mem_singleton] at hx
      subst hx
      refine ⟨by omega, by omega, ?_⟩
      rw [e]; simp
    · intro j hj h1
      rw [e] at h1
      rw [e2, List.mem_singleton]
      cases j with
      | zero => rfl
      | succ j =>
        refine absurd ?_ h1
        rw [List.getD_cons_succ]
        simp [show j < m by omega]
    · intro j h1 h2
      left
      rw [e]
      obtain ⟨j', rfl⟩ : ∃ j', j = j' + 1 := ⟨j - 1, by omega⟩
      rw [List.getD_cons_succ]
      simp [show j' < m by omega]
    · intro q h1 h2
      rw [e2] at h2
      simp at h2
      omega
    · rw [e, e2, hm, List.count_cons_of_ne (by decide), List.count_replicate_self]
      simp; omega
  | n + 1 => by
    obtain ⟨h1, h2⟩ := bsN_inv hn n
    rw [bsN, bsR]
    split
    case isFalse hlt => exact ⟨h1, fun q hq hq2 => h2 q (by omega) hq2⟩
    rename_i hlt
    have hat := h1.at hlt
    obtain ⟨k, hk⟩ : ∃ k : Nat, (bsN next n).2.getD n 0 = k := ⟨_, (Int.toNat_of_nonneg hat.1).symm⟩
    have hg := hn.get (k := k) (by omega)
    have hf := h1.fold hlt (l := next.getD ((bsN next n).2.getD n 0).toNat []) (fun x hx => by
      rw [hk, Int.toNat_natCast, hg.1] at hx
      exact hn.ent _ hg.2 x hx) _ (Nat.le_refl _)
    obtain ⟨f1, f2, f3⟩ := hf
    refine ⟨f1, fun q hq hq2 x hx => ?_⟩
    by_cases e : q = n
    · subst e
      rw [f2.at hlt] at hx
      obtain ⟨m, hm, rfl⟩ := List.mem_iff_getElem.1 hx
      exact f3 m hm hm
    · have hq3 : q < (bsN next n).2.length := by omega
      rw [f2.at hq3] at hx
      have := h2 q (by omega) hq3 x hx
      rw [f2.keep _ this]
      exact this
theorem bsN_succ {next : List (List Int)} {n : Nat} (h : n < (bsN next n).2.length) : bsN next (n + 1) = bsF (next.getD ((bsN next n).2.getD n 0).toNat []) ((bsN next n).2.getD n 0) (bsN next n) (next.getD ((bsN next n).2.getD n 0).toNat []).length := by
  rw [bsN, bsR, if_pos h]
theorem bsN_stop {next : List (List Int)} {n : Nat} (h : (bsN next n).2.length ≤ n) : bsN next (n + 1) = bsN next n := by
  rw [bsN, bsR, if_neg (by omega)]
theorem bsN_bl {next : List (List Int)} (hn : NOk next) {n m : Nat} (h : n ≤ m) : BL (bsN next n) (bsN next m) := by
  induction m with
  | zero => have : n = 0 := by omega
            subst this; exact BL.refl
  | succ m ih =>
    by_cases e : n = m + 1
    · subst e; exact BL.refl
    refine (ih (by omega)).trans ?_
    have hi := (bsN_inv hn m).1
    by_cases hlt : m < (bsN next m).2.length
    · rw [bsN_succ hlt]
      have hat := hi.at hlt
      obtain ⟨k, hk⟩ : ∃ k : Nat, (bsN next m).2.getD m 0 = k := ⟨_, (Int.toNat_of_nonneg hat.1).symm⟩
      have hg := hn.get (k := k) (by omega)
      exact (hi.fold hlt (fun x hx => by
        rw [hk, Int.toNat_natCast, hg.1] at hx
        exact hn.ent _ hg.2 x hx) _ (Nat.le_refl _)).2.1
    · rw [bsN_stop (by omega)]; exact BL.refl
/-- the way back to the first node -/
inductive Chn (f : List Int) : Int → List Int → Prop where
  | z : Chn f (-1) []
  | s {a : Int} {l : List Int} : 0 ≤ a → a < f.length → Chn f (f.getD a.toNat 0) l → Chn f a (l ++ [a])
theorem Chn.neg {f : List Int} {l : List Int} (h : Chn f (-1) l) : l = [] := by
  generalize hx : (-1 : Int) = x at h
  cases h with
  | z => rfl
  | s h0 _ _ => omega
theorem Chn.un {f : List Int} {a : Int} {l : List Int} (h : Chn f a l) (h0 : 0 ≤ a) : ∃ l', l = l' ++ [a] ∧ a < f.length ∧ Chn f (f.getD a.toNat 0) l' := by
  cases h with
  | z => omega
  | s h1 h2 h3 => exact ⟨_, rfl, h2, h3⟩
theorem Chn.ge {f : List Int} {a : Int} {l : List Int} (h : Chn f a l) : -1 ≤ a := by
  cases h with
  | z => decide
  | s h1 _ _ => omega
theorem Chn.det {f : List Int} {a : Int} {l : List Int} (h : Chn f a l) : ∀ {l'}, Chn f a l' → l = l' := by
  induction h with
  | z => exact fun h' => h'.neg.symm
  | s h1 h2 h3 ih =>
    intro l' h'
    obtain ⟨l2, rfl, _, h4⟩ := h'.un h1
    rw [ih h4]
theorem Chn.bl {p p' : List Int × List Int} (hb : BL p p') (hl : p.1.length = p'.1.length) {a : Int} {l : List Int} (h : Chn p.1 a l) : Chn p'.1 a l := by
  induction h with
  | z => exact .z
  | s h1 h2 h3 ih =>
    refine .s h1 (by omega) ?_
    have := h3.ge
    rw [hb.keep _ (by omega)]
    exact ih
theorem Chn.all {f : List Int} {a : Int} {l : List Int} (h : Chn f a l) : ∀ x ∈ l, 0 ≤ x ∧ x < f.length := by
  induction h with
  | z => simp
  | s h1 h2 h3 ih =>
    intro x hx
    simp only [List.mem_append, List.mem_singleton] at hx
    rcases hx with hx | rfl
    · exact ih x hx
    · exact ⟨h1, h2⟩
theorem BI.chn {N : Nat} {p : List Int × List Int} (h : BI N p) : ∀ (q : Nat), q < p.2.length → ∃ l, Chn p.1 (p.2.getD q 0) l ∧ l.length ≤ q + 1 := by
  intro q
  induction q using Nat.strongRecOn with
  | _ q ih =>
    intro hq
    obtain ⟨tz, ez⟩ := h.z0
    obtain ⟨tq, eq⟩ := h.q0
    have hat := h.at hq
    by_cases e : q = 0
    · subst e
      have e1 : p.2.getD 0 0 = 0 := by rw [eq]; simp
      rw [e1]
      refine ⟨[] ++ [0], .s (by decide) (by rw [ez]; simp) ?_, by simp⟩
      rw [ez]
      exact .z
    · obtain ⟨r, hr, e1⟩ := h.par q (by omega) hq
      obtain ⟨l, h1, h2⟩ := ih r hr (by omega)
      refine ⟨l ++ [p.2.getD q 0], .s hat.1 (by rw [h.fl]; exact hat.2.1) (by rw [e1]; exact h1), by simp; omega⟩

/-- all nodes are found -/
theorem bs_all {next : List (List Int)} (hn : NOk next) (hr : ∀ j : Nat, 1 ≤ j → j < next.length → ∃ (i : Nat) (hi : i < next.length), i < j ∧ (j : Int) ∈ next[i]) {n : Nat} (hd : (bsN next n).2.length ≤ n) : ∀ j : Nat, j < next.length → (j : Int) ∈ (bsN next n).2 := by
  intro j
  obtain ⟨h1, h2⟩ := bsN_inv hn n
  induction j using Nat.strongRecOn with
  | _ j ih =>
    intro hj
    by_cases e : j = 0
    · subst e
      obtain ⟨t, e⟩ := h1.q0
      rw [e]; simp
    · obtain ⟨i, hi, hij, hm⟩ := hr j (by omega) hj
      obtain ⟨q, hq, e1⟩ := List.mem_iff_getElem.1 (ih i hij hi)
      have e2 : (bsN next n).2.getD q 0 = i := by rw [← e1]; simp [hq]
      have := h2 q (by omega) hq (j : Int) (by rw [e2, Int.toNat_natCast, (hn.get hi).1]; exact hm)
      rw [Int.toNat_natCast] at this
      exact h1.vis j hj this
noncomputable def pth (next : List (List Int)) (a : Int) : List Int := open Classical in if h : ∃ l, Chn (bsN next next.length).1 a l then h.choose else []
theorem pth_eq {next : List (List Int)} (hn : NOk next) {n : Nat} {a : Int} {l : List Int} (h : Chn (bsN next n).1 a l) (hle : n ≤ next.length) : pth next a = l := by
  have h2 := Chn.bl (bsN_bl hn hle) (by rw [(bsN_inv hn n).1.fl, (bsN_inv hn next.length).1.fl]) h
  have h3 : ∃ l, Chn (bsN next next.length).1 a l := ⟨l, h2⟩
  unfold pth
  rw [dif_pos h3]
  exact h3.choose_spec.det h2
theorem bs_done {next : List (List Int)} (hn : NOk next) : (bsN next next.length).2.length ≤ next.length := (bsN_inv hn _).1.le
theorem pth_chn {next : List (List Int)} (hn : NOk next) (hr : ∀ j : Nat, 1 ≤ j → j < next.length → ∃ (i : Nat) (hi : i < next.length), i < j ∧ (j : Int) ∈ next[i]) {j : Nat} (hj : j < next.length) : Chn (bsN next next.length).1 j (pth next j) ∧ (pth next j).length ≤ 60 := by
  have h1 := bs_all hn hr (bs_done hn) j hj
  obtain ⟨q, hq, e⟩ := List.mem_iff_getElem.1 h1
  obtain ⟨l, h2, h3⟩ := (bsN_inv hn next.length).1.chn q hq
  have e2 : (bsN next next.length).2.getD q 0 = j := by rw [← e]; simp [hq]
  rw [e2] at h2
  rw [pth_eq hn h2 (Nat.le_refl _)]
  have := bs_done hn
  have := hn.n60
  exact ⟨h2, by omega⟩
end Go.Proofs.YtonjglbachhdcaaGreat

/-
  Paths of graphs are executions: in plain Lean.
-/
namespace Go.Proofs.YtonjglbachhdcaaGreat
open Go
set_option linter.all false
set_option linter.unusedVariables false
set_option linter.unusedSimpArgs false
set_option linter.defProp false
set_option maxRecDepth 1000000

theorem adS_pre {xs : List Sta} {st : Sta} {i : Nat} (hi : i < xs.length) : (adS xs st).getD i Sta.zero = xs.getD i Sta.zero := by
  unfold adS
  split
  · rfl
  · rw [List.getD_eq_getElem?_getD, List.getElem?_append_left hi, ← List.getD_eq_getElem?_getD]
theorem atS_get {xs : List Sta} {st : Sta} : (adS xs st).getD (atS xs st).toNat Sta.zero = st := by
  unfold adS atS
  split
  · rename_i h
    obtain ⟨i, hi, e, e2⟩ := fx_mem h
    rw [e, Int.toNat_natCast]
    simp [hi, e2]
  · simp
theorem gF_edge {s : Sy} {x : Sta} {xs : List Sta} (hs : s.Ok) (hx : x.Ok s) (hxs : ∀ st ∈ xs, st.Ok s) : ∀ n, n ≤ (enb s x).length → ∀ y ∈ (gF s x n xs).2, ∃ t ∈ enb s x, (gF s x n xs).1.getD y.toNat Sta.zero = x.aft s t
  | 0, _ => fun y hy => by simp [gF_zero] at hy
  | n + 1, hn => fun y hy => by
    have gi := gF_inv hs hx hxs n (by omega)
    rw [gF_succ (by omega)] at hy ⊢
    simp only [g1, mem_adI] at hy ⊢
    rcases hy with hy | rfl
    · obtain ⟨t, h1, h2⟩ := gF_edge hs hx hxs n (by omega) y hy
      have hr := gi.rng y hy
      exact ⟨t, h1, by rw [adS_pre (by omega)]; exact h2⟩
    · exact ⟨_, List.getElem_mem (show n < (enb s x).length by omega), atS_get⟩
/-- every edge of a graph is a step, or a state without steps stays -/
def Edg (s : Sy) (g : Gr) : Prop := ∀ (i : Nat) (hi : i < g.next.length), ∀ y ∈ g.next[i], (∃ t ∈ enb s (g.states.getD i Sta.zero), g.states.getD y.toNat Sta.zero = (g.states.getD i Sta.zero).aft s t) ∨ y = i
theorem gN_edge {s : Sy} (hs : s.Ok) : ∀ n, Edg s (gN s n) ∧ (gN s n).states.getD 0 Sta.zero = ini s
  | 0 => ⟨fun i hi => by simp [gN] at hi, by simp [gN]⟩
  | n + 1 => by
    have ih := gN_edge hs n
    have inv := gN_inv hs n
    by_cases h : n < (gN s n).states.length
    case neg =>
      rw [gN_stop (by omega)]
      exact ih
    rw [gN_succ h]
    have hxo := inv.ok _ (List.getElem_mem h)
    have gi := gF_inv hs hxo inv.ok _ (Nat.le_refl (enb s (gN s n).states[n]).length)
    have ge := gF_edge hs hxo inv.ok _ (Nat.le_refl (enb s (gN s n).states[n]).length)
    have hnl : (gN s n).next.length = n := by rw [inv.nl]; omega
    have hpos := inv.pos
    have hxe : (gN s n).states.getD n Sta.zero = (gN s n).states[n] := by simp [h]
    generalize gF s (gN s n).states[n] (enb s (gN s n).states[n]).length (gN s n).states = p at gi ge
    have hpre : ∀ i, i < (gN s n).states.length → p.1.getD i Sta.zero = (gN s n).states.getD i Sta.zero := fun i hi => by
      obtain ⟨t, e⟩ := gi.pre
      rw [e, List.getD_eq_getElem?_getD, List.getElem?_append_left hi, ← List.getD_eq_getElem?_getD]
    refine ⟨fun i hi y hy => ?_, by rw [hpre 0 (by omega)]; exact ih.2⟩
    simp only [List.length_append, List.length_singleton] at hi
    by_cases hin : i < n
    · have e1 : ((gN s n).next ++ [nxS n p.2])[i]'(by simp; omega) = (gN s n).next[i]'(by omega) := List.getElem_append_left (by omega)
      simp only [e1] at hy
      have hy2 := (inv.ent _ (List.getElem_mem (show i < (gN s n).next.length by omega))).2 y hy
      rw [hpre i (by omega), hpre y.toNat (by omega)]
      exact ih.1 i (by omega) y hy
    · have hin2 : i = n := by omega
      subst hin2
      have e1 : ((gN s i).next ++ [nxS i p.2])[i]'(by simp; omega) = nxS i p.2 := by
        rw [List.getElem_append_right (by omega)]
        simp
      simp only [e1] at hy
      unfold nxS at hy
      split at hy
      · simp only [List.mem_singleton] at hy
        exact .inr hy
      · obtain ⟨t, h1, h2⟩ := ge y hy
        rw [hpre i h, hxe]
        exact .inl ⟨t, h1, h2⟩
theorem bgR_edge {s : Sy} (h : bgOk s) : Edg s (bgR s) ∧ (bgR s).states.getD 0 Sta.zero = ini s := by
  rw [bgR, if_pos h]
  exact gN_edge h.1 60

/-- where a node was found from -/
def BE (next : List (List Int)) (f : List Int) : Prop := ∀ j : Nat, 0 ≤ f.getD j 0 → j < next.length → (j : Int) ∈ next.getD (f.getD j 0).toNat [] ∧ f.getD j 0 ≠ j
theorem BE.step {next : List (List Int)} {p : List Int × List Int} (h : BE next p.1) (hb : BI next.length p) {i : Nat} (hi : i < p.2.length) {to : Int} (h0 : 0 ≤ to) (h1 : to < next.length) (hm : to ∈ next.getD (p.2.getD i 0).toNat []) : BE next (bs1 (p.2.getD i 0) p to).1 := by
  have hat := hb.at hi
  generalize p.2.getD i 0 = a at *
  unfold bs1
  split
  case isFalse => exact h
  rename_i e
  obtain ⟨k, rfl⟩ : ∃ k : Nat, to = k := ⟨to.toNat, (Int.toNat_of_nonneg h0).symm⟩
  simp only [Int.toNat_natCast] at e ⊢
  have hkN : k < p.1.length := by rw [hb.fl]; omega
  intro j hj hjn
  simp only [getD_setI hkN] at hj ⊢
  split at hj
  · rename_i e2
    subst e2
    rw [if_pos rfl]
    refine ⟨hm, fun e3 => ?_⟩
    rw [e3, Int.toNat_natCast] at hat
    exact hat.2.2 e
  · rename_i e2
    rw [if_neg e2]
    exact h j hj hjn
theorem BE.fold {next : List (List Int)} {p : List Int × List Int} (h : BE next p.1) (hb : BI next.length p) {i : Nat} (hi : i < p.2.length) {l : List Int} (hl : ∀ x ∈ l, 0 ≤ x ∧ x < next.length) (hm : ∀ x ∈ l, x ∈ next.getD (p.2.getD i 0).toNat []) : ∀ n, n ≤ l.length → BE next (bsF l (p.2.getD i 0) p n).1
  | 0, _ => h
  | n + 1, hn => by
    have ih := BE.fold h hb hi hl hm n (by omega)
    obtain ⟨f1, f2, _⟩ := hb.fold hi hl n (by omega)
    have hx := List.getElem_mem (show n < l.length by omega)
    rw [bsF_succ (by omega)]
    have hi' : i < (bsF l (p.2.getD i 0) p n).2.length := by have := f2.len; omega
    have hq := f2.at hi
    have := BE.step ih f1 hi' (hl _ hx).1 (hl _ hx).2 (by rw [hq]; exact hm _ hx)
    rw [hq] at this
    exact this
theorem bsN_BE {next : List (List Int)} (hn : NOk next) : ∀ n, BE next (bsN next n).1
  | 0 => fun j hj hjn => by
    exfalso
    simp only [bsN] at hj
    have h0 : 0 < (List.replicate next.length (-2 : Int)).length := by simp; have := hn.pos; omega
    rw [getD_setI h0] at hj
    split at hj
    · omega
    · simp [hjn] at hj
  | n + 1 => by
    have ih := bsN_BE hn n
    obtain ⟨bi, _⟩ := bsN_inv hn n
    by_cases hlt : n < (bsN next n).2.length
    · rw [bsN_succ hlt]
      have hat := bi.at hlt
      obtain ⟨k, hk⟩ : ∃ k : Nat, (bsN next n).2.getD n 0 = k := ⟨_, (Int.toNat_of_nonneg hat.1).symm⟩
      have hg := hn.get (k := k) (by omega)
      refine BE.fold ih bi hlt (fun x hx => ?_) (fun x hx => hx) _ (Nat.le_refl _)
      rw [hk, Int.toNat_natCast, hg.1] at hx
      exact hn.ent _ hg.2 x hx
    · rw [bsN_stop (by omega)]; exact ih

/-- the nodes of a way back, one behind the other -/
theorem getD_app {l : List Int} {a : Int} {i : Nat} (hi : i < l.length) : (l ++ [a]).getD i 0 = l.getD i 0 := by
  rw [List.getD_eq_getElem?_getD, List.getElem?_append_left hi, ← List.getD_eq_getElem?_getD]
theorem Chn.link {f : List Int} {a : Int} {l : List Int} (h : Chn f a l) : (∀ (i : Nat), i + 1 < l.length → f.getD (l.getD (i + 1) 0).toNat 0 = l.getD i 0) ∧ (0 ≤ a → l.getD (l.length - 1) 0 = a ∧ 0 < l.length) ∧ (0 < l.length → f.getD (l.getD 0 0).toNat 0 = -1) := by
  induction h with
  | z => exact ⟨fun i hi => by simp at hi, fun h => by omega, fun h => by simp at h⟩
  | @s a l h0 h1 h2 ih =>
    obtain ⟨i1, i2, i3⟩ := ih
    refine ⟨fun i hi => ?_, fun _ => ⟨by simp, by simp⟩, fun _ => ?_⟩
    · simp only [List.length_append, List.length_singleton] at hi
      by_cases hl : i + 1 < l.length
      · rw [getD_app hl, getD_app (show i < l.length by omega)]
        exact i1 i hl
      · have hi2 : i + 1 = l.length := by omega
        have e1 : (l ++ [a]).getD (i + 1) 0 = a := by rw [hi2]; simp
        have e2 : (l ++ [a]).getD i 0 = l.getD (l.length - 1) 0 := by
          rw [getD_app (show i < l.length by omega), ← hi2]
          rfl
        rw [e1, e2]
        have hge := h2.ge
        by_cases hb : 0 ≤ f.getD a.toNat 0
        · exact (i2 hb).1.symm
        · have : f.getD a.toNat 0 = -1 := by omega
          rw [this] at h2
          have := h2.neg
          rw [this] at hi2
          simp at hi2
    · by_cases hl : 0 < l.length
      · rw [getD_app hl]
        exact i3 hl
      · have : l = [] := List.length_eq_zero_iff.1 (by omega)
        subst this
        have hge := h2.ge
        simp only [List.nil_append, List.getD_cons_zero]
        by_cases hb : 0 ≤ f.getD a.toNat 0
        · exact absurd (i2 hb).2 (by simp)
        · omega
end Go.Proofs.YtonjglbachhdcaaGreat

/-
  Instances of functions over slices: copies, and whether some element meets a condition. Printed by a program.
-/
namespace Go.Proofs.YtonjglbachhdcaaGreat
open Go
set_option linter.all false
set_option linter.unusedVariables false
set_option linter.unusedSimpArgs false
set_option linter.defProp false
set_option maxRecDepth 1000000

theorem c_Clip_impl_Step {g h : Heap} {Γ : List HP} {a : Value} {x : List Stp} (H : HS g (ow a x :: Γ) h) : CallE Tryz.prog fn_slices_Clip_S_impl_Step_impl_Step [a] h (fun v h' => HS g (ow v x :: Γ) h') := by
  refine CallE.gen fun k hk => EN_slices_Clip_S_impl_Step_impl_Step rfl ?_
  obtain ⟨v', h1, h2⟩ := H.clip (esz := 4) (k := .i64)
  simp -implicitDefEqProofs (disch := first | omega | (simp only [List.length_set, List.length_replicate, List.length_append, List.length_map, List.length_take, List.length_cons, List.length_nil]; omega)) [wrap64, H.rep.len, h1]
  exact RetK.keep (hk _ _ h2)

end Go.Proofs.YtonjglbachhdcaaGreat

/-
  Steps: which are enabled, by the program and by the reference.
-/
namespace Go.Proofs.YtonjglbachhdcaaGreat
open Go
set_option linter.all false
set_option linter.unusedVariables false
set_option linter.unusedSimpArgs false
set_option linter.defProp false
set_option maxRecDepth 1000000

/-- where an edge of a system lies -/
theorem Rep.edge {h : Heap} {v : Value} {l : List Pr} (R : Rep h v l) {i k : Nat} (hi : i < l.length) (hk : k < l[i].edges.length) :
    ∃ we w1 w2, hload h (some (elp 2 v i)) (some 2) = some (.agg ([.int .i64 l[i].locs, we] : List Value).toArray) ∧ Rep h we l[i].edges ∧ hload h (some (elp 10 we k)) (some 10) = some (.agg (l[i].edges[k].cs w1 w2).toArray) ∧
      l[i].edges[k].ok ∧ Rep h w1 l[i].edges[k].guard.kids ∧ Rep h w2 l[i].edges[k].value.kids := by
  obtain ⟨u, hu, Ru⟩ := R.ld hi
  obtain ⟨we, rfl, k1, R3⟩ := Rep_Pr.1 Ru
  obtain ⟨u2, hu2, Ru2⟩ := R3.ld hk
  obtain ⟨w1, w2, rfl, ok, G1, G2⟩ := Rep_Ed.1 Ru2
  exact ⟨we, w1, w2, hu, R3, hu2, ok, G1, G2⟩

theorem c_ready {h : Heap} {v w : Value} {s : Sy} {st : Sta} (hs : s.Ok) (ht : st.Ok s) (R : Rep h v s) (Rt : Rep h w st) {i m : Nat} (hi : i < s.procs.length) (hm : m < s.procs[i].edges.length) :
    CallE Tryz.prog fn_impl_System_ready [v, w, .int .i64 i, .int .i64 m] h (fun u h' => h' = h ∧ u = .bool (s.procs[i].edges[m].rdy st i)) := by
  obtain ⟨v1, v2, rfl, R1, R2'⟩ := Rep_Sy.1 R
  obtain ⟨t1, t2, rfl, T1, T2⟩ := Rep_Sta.1 Rt
  obtain ⟨we, w1, w2, hu, R3, hu2, ok, G1, G2⟩ := R2'.edge hi hm
  have hP := hld_parts hu
  have heo := (hs.at hi).at hm
  have hil : i < st.locs.length := by rw [ht.len]; exact hi
  have hF3 := G1.one
  have hF4 := G2.one
  refine CallE.gen fun k hk => EN_impl_System_ready rfl ?_
  by_cases a1 : st.locs[i] = s.procs[i].edges[m].frm
  case neg =>
    simp -implicitDefEqProofs (disch := first | omega | (simp only [List.length_set, List.length_replicate, List.length_append, List.length_map, List.length_take, List.length_cons, List.length_nil]; omega)) [wrap64, R2'.X (n := 2) rfl, hP.1, hP.2.2.1, R3.X (n := 10) rfl, hu2, Ed.cs, setC, hF3, hF4, T1.I, a1]
    exact RetK.keep (hk _ _ ⟨rfl, by simp [Ed.rdy, hil, a1]⟩)
  simp -implicitDefEqProofs (disch := first | omega | (simp only [List.length_set, List.length_replicate, List.length_append, List.length_map, List.length_take, List.length_cons, List.length_nil]; omega)) [wrap64, R2'.X (n := 2) rfl, hP.1, hP.2.2.1, R3.X (n := 10) rfl, hu2, Ed.cs, setC, hF3, hF4, T1.I, a1]
  refine (c_eval _ ht.vs heo.gd.1 (Rep.gd (w2 := w2) ok G1) T2).go ?_
  rintro _ h ⟨rfl, rfl⟩
  simp -implicitDefEqProofs (disch := first | omega | (simp only [List.length_set, List.length_replicate, List.length_append, List.length_map, List.length_take, List.length_cons, List.length_nil]; omega)) [wrap64]
  exact RetK.keep (hk _ _ ⟨rfl, by simp [Ed.rdy, hil, a1]⟩)
theorem c_l3Ready {h : Heap} {v w : Value} {s : Sy} {st : Sta} (hs : s.Ok) (ht : st.Ok s) (R : Rep h v s) (Rt : Rep h w st) {i m : Nat} (hi : i < s.procs.length) (hm : m < s.procs[i].edges.length) :
    CallE Tryz.prog fn_spec_l3Ready [v, w, .int .i64 i, .int .i64 m] h (fun u h' => h' = h ∧ u = .bool (s.procs[i].edges[m].rdy st i)) := by
  obtain ⟨v1, v2, rfl, R1, R2'⟩ := Rep_Sy.1 R
  obtain ⟨t1, t2, rfl, T1, T2⟩ := Rep_Sta.1 Rt
  obtain ⟨we, w1, w2, hu, R3, hu2, ok, G1, G2⟩ := R2'.edge hi hm
  have hP := hld_parts hu
  have heo := (hs.at hi).at hm
  have hil : i < st.locs.length := by rw [ht.len]; exact hi
  have hF3 := G1.one
  have hF4 := G2.one
  refine CallE.gen fun k hk => EN_spec_l3Ready rfl ?_
  by_cases a1 : s.procs[i].edges[m].frm = st.locs[i]
  case neg =>
    simp -implicitDefEqProofs (disch := first | omega | (simp only [List.length_set, List.length_replicate, List.length_append, List.length_map, List.length_take, List.length_cons, List.length_nil]; omega)) [wrap64, R2'.X (n := 2) rfl, hP.1, hP.2.2.1, R3.X (n := 10) rfl, hu2, Ed.cs, setC, hF3, hF4, T1.I, a1]
    exact RetK.keep (hk _ _ ⟨rfl, by simp [Ed.rdy, hil, Ne.symm a1]⟩)
  simp -implicitDefEqProofs (disch := first | omega | (simp only [List.length_set, List.length_replicate, List.length_append, List.length_map, List.length_take, List.length_cons, List.length_nil]; omega)) [wrap64, R2'.X (n := 2) rfl, hP.1, hP.2.2.1, R3.X (n := 10) rfl, hu2, Ed.cs, setC, hF3, hF4, T1.I, a1]
  refine (c_l1Eval _ ht.vs heo.gd.1 (Rep.gd (w2 := w2) ok G1) T2).go ?_
  rintro _ h ⟨rfl, rfl⟩
  simp -implicitDefEqProofs (disch := first | omega | (simp only [List.length_set, List.length_replicate, List.length_append, List.length_map, List.length_take, List.length_cons, List.length_nil]; omega)) [wrap64]
  exact RetK.keep (hk _ _ ⟨rfl, by simp [Ed.rdy, hil, a1]⟩)

theorem c_enabled {h : Heap} {v w : Value} {s : Sy} {st : Sta} (hs : s.Ok) (ht : st.Ok s) (R : Rep h v s) (Rt : Rep h w st) : CallE Tryz.prog fn_impl_System_enabled [v, w] h (fun u h' => HS h [ow u (enb s st)] h') := by
  have FS := R.aSy
  have FT := Rt.aSta
  have R0 := R
  have Rt0 := Rt
  obtain ⟨v1, v2, rfl, R1, R2'⟩ := Rep_Sy.1 R
  obtain ⟨t1, t2, rfl, T1, T2⟩ := Rep_Sta.1 Rt
  have hp3 := hs.p3
  refine CallE.gen fun k hk => EN_impl_System_enabled rfl ?_
  simp -implicitDefEqProofs (disch := first | omega | (simp only [List.length_set, List.length_replicate, List.length_append, List.length_map, List.length_take, List.length_cons, List.length_nil]; omega)) [wrap64, R2'.len]
  refine wp_count s.procs.length (fun i e h' => ∃ o, e = [none, none, some (.agg #[v1, v2]), some (.agg #[t1, t2]), none, some o, none, none, none, none, none, none, none, none, some v2, some (.int .i64 s.procs.length), some (.int .i64 i), none, none, none, none, none, none, none, none, none] ∧ HS h [ow o ((s.procs.zipIdx.take i).flatMap (enb1 s st))] h') ⟨.slice none 0 0, by simp, by simpa using HS.init.nil_ow (α := Stp)⟩ ?_
  rintro J0 i _ h1 hJ0 hi ⟨o, rfl, H⟩
  simp -implicitDefEqProofs (disch := first | omega | (simp only [List.length_set, List.length_replicate, List.length_append, List.length_map, List.length_take, List.length_cons, List.length_nil]; omega)) [wrap64]
  refine IteW.mk (fun hlt => ?_) (fun hge => ?_)
  · have hi : i < s.procs.length := by omega
    obtain ⟨A, hA⟩ : ∃ A, A = (s.procs.zipIdx.take i).flatMap (enb1 s st) := ⟨_, rfl⟩
    have hAl : A.length ≤ 324 := by rw [hA]; exact enb_len hs
    obtain ⟨u, hu, Ru⟩ := R2'.ld hi
    have hu2 := hload_le H.base hu
    change hload _ (some (elp 2 v2 i)) (some 2) = some u at hu2
    obtain ⟨we, rfl, k1, R3⟩ := Rep_Pr.1 Ru
    have hpo := hs.at hi
    have hel := hpo.el
    have hF1 := R3.cells
    have hF2 := R3.one
    rw [← hA] at H
    simp -implicitDefEqProofs (disch := first | omega | (simp only [List.length_set, List.length_replicate, List.length_append, List.length_map, List.length_take, List.length_cons, List.length_nil]; omega)) [wrap64, R2'.X (n := 2) rfl, hu2, hF1, hF2, setC, R3.len]
    refine wp_count s.procs[i].edges.length (fun m e h' => ∃ o, e = [none, none, some (.agg #[v1, v2]), some (.agg #[t1, t2]), none, some o, some (.int .i64 i), none, none, none, none, none, none, none, some v2, some (.int .i64 s.procs.length), some (.int .i64 i), some we, some (.int .i64 s.procs[i].edges.length), some (.int .i64 m), none, none, none, none, none, none] ∧ HS h [ow o (A ++ (s.procs[i].edges.zipIdx.take m).flatMap (enb2 s st i))] h') ⟨o, by simp, by simpa using H⟩ ?_
    clear H
    rintro J1 m _ h2 hJ1 hm ⟨o, rfl, H⟩
    simp -implicitDefEqProofs (disch := first | omega | (simp only [List.length_set, List.length_replicate, List.length_append, List.length_map, List.length_take, List.length_cons, List.length_nil]; omega)) [wrap64]
    refine IteW.mk (fun hlt1 => ?_) (fun hge1 => ?_)
    · have hm : m < s.procs[i].edges.length := by omega
      obtain ⟨B, hB⟩ : ∃ B, B = A ++ (s.procs[i].edges.zipIdx.take m).flatMap (enb2 s st i) := ⟨_, rfl⟩
      have hBl : B.length ≤ 432 := by
        rw [hB, List.length_append]
        have := enb1_len (st := st) (i := i) (n := m) hs hpo
        omega
      have hstep : A ++ (s.procs[i].edges.zipIdx.take (m + 1)).flatMap (enb2 s st i) = B ++ enb2 s st i (s.procs[i].edges[m], m) := by rw [fm_tk hm, ← List.append_assoc, ← hB]
      rw [← hB] at H
      obtain ⟨u, hu, Ru⟩ := R3.ld hm
      have hu2 := hload_le H.base hu
      change hload _ (some (elp 10 we m)) (some 10) = some u at hu2
      obtain ⟨w1, w2, rfl, ok, G1, G2⟩ := Rep_Ed.1 Ru
      have heo := hpo.at hm
      have hF3 := G1.one
      have hF4 := G2.one
      have hgo : ∀ {o' h'}, HS h [ow o' (B ++ enb2 s st i (s.procs[i].edges[m], m))] h' → J1 [none, none, some (.agg #[v1, v2]), some (.agg #[t1, t2]), none, some o', some (.int .i64 i), none, none, none, none, none, none, none, some v2, some (.int .i64 s.procs.length), some (.int .i64 i), some we, some (.int .i64 s.procs[i].edges.length), some (.int .i64 ((m + 1 : Nat) : Int)), none, none, none, none, none, none] h' :=
        fun {o' h'} H => hJ1 _ _ hm ⟨o', by simp, by rw [hstep]; exact H⟩
      simp -implicitDefEqProofs (disch := first | omega | (simp only [List.length_set, List.length_replicate, List.length_append, List.length_map, List.length_take, List.length_cons, List.length_nil]; omega)) [wrap64, R3.X (n := 10) rfl, hu2, Ed.cs, setC, hF3, hF4]
      refine (c_ready hs ht (R0.on H) (Rt0.on H) hi hm).go ?_
      rintro _ h2 ⟨rfl, rfl⟩
      by_cases a1 : s.procs[i].edges[m].rdy st i = true
      case neg =>
        simp -implicitDefEqProofs (disch := first | omega | (simp only [List.length_set, List.length_replicate, List.length_append, List.length_map, List.length_take, List.length_cons, List.length_nil]; omega)) [wrap64, a1]
        exact hgo (by rw [enb2, if_pos (.inr (by simpa using a1))]; simpa using H)
      by_cases a2 : s.procs[i].edges[m].sync < 0
      · simp -implicitDefEqProofs (disch := first | omega | (simp only [List.length_set, List.length_replicate, List.length_append, List.length_map, List.length_take, List.length_cons, List.length_nil]; omega)) [wrap64, a1, a2]
        exact hgo (by rw [enb2, if_pos (.inl a2)]; simpa using H)
      by_cases a3 : s.procs[i].edges[m].sync = 0
      · simp -implicitDefEqProofs (disch := first | omega | (simp only [List.length_set, List.length_replicate, List.length_append, List.length_map, List.length_take, List.length_cons, List.length_nil]; omega)) [wrap64, a1, a2, a3, setC]
        refine H.app1 (bytes := 32) (⟨i, m, -1, -1⟩ : Stp) rfl rfl rfl (Stp.ok_iff.2 ⟨by dsimp only; omega, by dsimp only; omega, by dsimp only; omega, by dsimp only; omega⟩) rfl rfl (by omega) (by omega) fun o' h3 H => ?_
        simp -implicitDefEqProofs (disch := first | omega | (simp only [List.length_set, List.length_replicate, List.length_append, List.length_map, List.length_take, List.length_cons, List.length_nil]; omega)) [wrap64]
        refine hgo ?_
        rw [enb2, if_neg (by simp [a2, a1]), if_pos a3]; exact H
      simp -implicitDefEqProofs (disch := first | omega | (simp only [List.length_set, List.length_replicate, List.length_append, List.length_map, List.length_take, List.length_cons, List.length_nil]; omega)) [wrap64, a1, a2, a3, R2'.len]
      have hen : enb2 s st i (s.procs[i].edges[m], m) = prt s st i m s.procs[i].edges[m].sync := by rw [enb2, if_neg (by simp [a2, a1]), if_neg a3]
      rw [hen] at hgo
      obtain ⟨c, hc⟩ : ∃ c, c = s.procs[i].edges[m].sync := ⟨_, rfl⟩
      rw [← hc] at hgo
      have hs0 := heo.s0
      have hs1 := heo.s1
      refine wp_count s.procs.length (fun j e h' => ∃ o, e = [none, none, some (.agg #[v1, v2]), some (.agg #[t1, t2]), none, some o, some (.int .i64 i), none, some (.int .i64 m), some (.agg (s.procs[i].edges[m].cs w1 w2).toArray), none, none, none, none, some v2, some (.int .i64 s.procs.length), some (.int .i64 i), some we, some (.int .i64 s.procs[i].edges.length), some (.int .i64 m), some v2, some (.int .i64 s.procs.length), some (.int .i64 j), none, none, none] ∧ HS h [ow o (B ++ (s.procs.zipIdx.take j).flatMap (prt1 st i m c))] h') ⟨o, by simp [Ed.cs], by simpa using H⟩ ?_
      clear H
      rintro J2 j _ h3 hJ2 hj ⟨o, rfl, H⟩
      simp -implicitDefEqProofs (disch := first | omega | (simp only [List.length_set, List.length_replicate, List.length_append, List.length_map, List.length_take, List.length_cons, List.length_nil]; omega)) [wrap64]
      refine IteW.mk (fun hlt2 => ?_) (fun hge2 => ?_)
      · have hj : j < s.procs.length := by omega
        obtain ⟨D, hD⟩ : ∃ D, D = B ++ (s.procs.zipIdx.take j).flatMap (prt1 st i m c) := ⟨_, rfl⟩
        have hDl : D.length ≤ 450 := by
          rw [hD, List.length_append]
          have := prt_len (st := st) (i := i) (k := m) (c := c) (n := j) hs
          omega
        rw [← hD] at H
        obtain ⟨u, hu, Ru⟩ := R2'.ld hj
        have hu2 := hload_le H.base hu
        change hload _ (some (elp 2 v2 j)) (some 2) = some u at hu2
        obtain ⟨wf, rfl, k2, R4⟩ := Rep_Pr.1 Ru
        have hpj := hs.at hj
        have hej := hpj.el
        have hF5 := R4.cells
        have hF6 := R4.one
        simp -implicitDefEqProofs (disch := first | omega | (simp only [List.length_set, List.length_replicate, List.length_append, List.length_map, List.length_take, List.length_cons, List.length_nil]; omega)) [wrap64, R2'.X (n := 2) rfl, hu2, hF5, hF6, setC, R4.len]
        refine wp_count s.procs[j].edges.length (fun n e h' => ∃ o, e = [none, none, some (.agg #[v1, v2]), some (.agg #[t1, t2]), none, some o, some (.int .i64 i), none, some (.int .i64 m), some (.agg (s.procs[i].edges[m].cs w1 w2).toArray), some (.int .i64 j), none, none, none, some v2, some (.int .i64 s.procs.length), some (.int .i64 i), some we, some (.int .i64 s.procs[i].edges.length), some (.int .i64 m), some v2, some (.int .i64 s.procs.length), some (.int .i64 j), some wf, some (.int .i64 s.procs[j].edges.length), some (.int .i64 n)] ∧ HS h [ow o (D ++ (s.procs[j].edges.zipIdx.take n).flatMap (prt2 st i m c j))] h') ⟨o, by simp, by simpa using H⟩ ?_
        clear H
        rintro J3 n _ h4 hJ3 hn ⟨o, rfl, H⟩
        simp -implicitDefEqProofs (disch := first | omega | (simp only [List.length_set, List.length_replicate, List.length_append, List.length_map, List.length_take, List.length_cons, List.length_nil]; omega)) [wrap64]
        refine IteW.mk (fun hlt3 => ?_) (fun hge3 => ?_)
        · have hn : n < s.procs[j].edges.length := by omega
          obtain ⟨E, hE⟩ : ∃ E, E = D ++ (s.procs[j].edges.zipIdx.take n).flatMap (prt2 st i m c j) := ⟨_, rfl⟩
          have hEl : E.length ≤ 456 := by
            rw [hE, List.length_append]
            have := prt1_len (st := st) (i := i) (k := m) (c := c) (j := j) (n := n) hpj
            omega
          have hstep2 : D ++ (s.procs[j].edges.zipIdx.take (n + 1)).flatMap (prt2 st i m c j) = E ++ prt2 st i m c j (s.procs[j].edges[n], n) := by rw [fm_tk hn, ← List.append_assoc, ← hE]
          rw [← hE] at H
          obtain ⟨u, hu, Ru⟩ := R4.ld hn
          have hu2 := hload_le H.base hu
          change hload _ (some (elp 10 wf n)) (some 10) = some u at hu2
          obtain ⟨x1, x2, rfl, okf, X1, X2⟩ := Rep_Ed.1 Ru
          have hF7 := X1.one
          have hF8 := X2.one
          have hgo2 : ∀ {o' h'}, HS h [ow o' (E ++ prt2 st i m c j (s.procs[j].edges[n], n))] h' → J3 [none, none, some (.agg #[v1, v2]), some (.agg #[t1, t2]), none, some o', some (.int .i64 i), none, some (.int .i64 m), some (.agg (s.procs[i].edges[m].cs w1 w2).toArray), some (.int .i64 j), none, none, none, some v2, some (.int .i64 s.procs.length), some (.int .i64 i), some we, some (.int .i64 s.procs[i].edges.length), some (.int .i64 m), some v2, some (.int .i64 s.procs.length), some (.int .i64 j), some wf, some (.int .i64 s.procs[j].edges.length), some (.int .i64 ((n + 1 : Nat) : Int))] h' :=
            fun {o' h'} H => hJ3 _ _ hn ⟨o', by simp, by rw [hstep2]; exact H⟩
          simp only [Ed.cs] at hgo2
          by_cases b1 : j = i
          · simp -implicitDefEqProofs (disch := first | omega | (simp only [List.length_set, List.length_replicate, List.length_append, List.length_map, List.length_take, List.length_cons, List.length_nil]; omega)) [wrap64, R4.X (n := 10) rfl, hu2, Ed.cs, setC, hF7, hF8, b1]
            subst b1
            exact hgo2 (by rw [prt2, if_neg (fun hh => hh.1 rfl)]; simpa using H)
          have b1' : ¬ ((j : Int) = i) := by omega
          by_cases b2 : s.procs[j].edges[n].sync = -c
          case neg =>
            have b2' := b2
            rw [hc] at b2'
            simp -implicitDefEqProofs (disch := first | omega | (simp only [List.length_set, List.length_replicate, List.length_append, List.length_map, List.length_take, List.length_cons, List.length_nil]; omega)) [wrap64, R4.X (n := 10) rfl, hu2, Ed.cs, setC, hF7, hF8, b1, b1', b2']
            exact hgo2 (by rw [prt2, if_neg (fun hh => b2 hh.2.1)]; simpa using H)
          have b2' := b2
          rw [hc] at b2'
          simp -implicitDefEqProofs (disch := first | omega | (simp only [List.length_set, List.length_replicate, List.length_append, List.length_map, List.length_take, List.length_cons, List.length_nil]; omega)) [wrap64, R4.X (n := 10) rfl, hu2, Ed.cs, setC, hF7, hF8, b1, b1', b2']
          refine (c_ready hs ht (R0.on H) (Rt0.on H) hj hn).go ?_
          rintro _ h4 ⟨rfl, rfl⟩
          by_cases b3 : s.procs[j].edges[n].rdy st j = true
          case neg =>
            simp -implicitDefEqProofs (disch := first | omega | (simp only [List.length_set, List.length_replicate, List.length_append, List.length_map, List.length_take, List.length_cons, List.length_nil]; omega)) [wrap64, b3]
            exact hgo2 (by rw [prt2, if_neg (fun hh => b3 hh.2.2)]; simpa using H)
          simp -implicitDefEqProofs (disch := first | omega | (simp only [List.length_set, List.length_replicate, List.length_append, List.length_map, List.length_take, List.length_cons, List.length_nil]; omega)) [wrap64, b3, setC]
          refine H.app1 (bytes := 32) (⟨i, m, j, n⟩ : Stp) rfl rfl rfl (Stp.ok_iff.2 ⟨by dsimp only; omega, by dsimp only; omega, by dsimp only; omega, by dsimp only; omega⟩) rfl rfl (by omega) (by omega) fun o' h5 H => ?_
          simp -implicitDefEqProofs (disch := first | omega | (simp only [List.length_set, List.length_replicate, List.length_append, List.length_map, List.length_take, List.length_cons, List.length_nil]; omega)) [wrap64]
          refine hgo2 ?_
          rw [prt2, if_pos ⟨b1, b2, b3⟩]; exact H
        simp -implicitDefEqProofs (disch := first | omega | (simp only [List.length_set, List.length_replicate, List.length_append, List.length_map, List.length_take, List.length_cons, List.length_nil]; omega)) [wrap64]
        rw [fm_all (by omega)] at H
        exact hJ2 _ _ hj ⟨o, by simp, by rw [fm_tk hj, ← List.append_assoc, ← hD]; exact H⟩
      simp -implicitDefEqProofs (disch := first | omega | (simp only [List.length_set, List.length_replicate, List.length_append, List.length_map, List.length_take, List.length_cons, List.length_nil]; omega)) [wrap64]
      rw [fm_all (by omega)] at H
      exact hgo H
    simp -implicitDefEqProofs (disch := first | omega | (simp only [List.length_set, List.length_replicate, List.length_append, List.length_map, List.length_take, List.length_cons, List.length_nil]; omega)) [wrap64]
    rw [fm_all (by omega)] at H
    exact hJ0 _ _ hi ⟨o, by simp, by rw [fm_tk hi, ← hA]; exact H⟩
  simp -implicitDefEqProofs (disch := first | omega | (simp only [List.length_set, List.length_replicate, List.length_append, List.length_map, List.length_take, List.length_cons, List.length_nil]; omega)) [wrap64]
  rw [fm_all (by omega)] at H
  refine (c_Clip_impl_Step H).go ?_
  intro o' h2 H
  simp -implicitDefEqProofs (disch := first | omega | (simp only [List.length_set, List.length_replicate, List.length_append, List.length_map, List.length_take, List.length_cons, List.length_nil]; omega)) [wrap64]
  exact RetK.keep (hk _ _ H)
end Go.Proofs.YtonjglbachhdcaaGreat

/-
  Steps by the reference; the state after a step, by the program and by the reference.
-/
namespace Go.Proofs.YtonjglbachhdcaaGreat
open Go
set_option linter.all false
set_option linter.unusedVariables false
set_option linter.unusedSimpArgs false
set_option linter.defProp false
set_option maxRecDepth 1000000

theorem c_l3Partners {h : Heap} {v w : Value} {s : Sy} {st : Sta} (hs : s.Ok) (ht : st.Ok s) (R : Rep h v s) (Rt : Rep h w st) {i m : Nat} (hi : i < s.procs.length) (hm : m < s.procs[i].edges.length) :
    CallE Tryz.prog fn_spec_l3Partners [v, w, .int .i64 i, .int .i64 m] h (fun u h' => HS h [ow u (prt s st i m s.procs[i].edges[m].sync)] h') := by
  have R0 := R
  have Rt0 := Rt
  obtain ⟨v1, v2, rfl, R1, R2'⟩ := Rep_Sy.1 R
  obtain ⟨t1, t2, rfl, T1, T2⟩ := Rep_Sta.1 Rt
  have hp3 := hs.p3
  have heo := (hs.at hi).at hm
  have hs0 := heo.s0
  have hs1 := heo.s1
  obtain ⟨we, w1, w2, hu, R3, hu2, ok, G1, G2⟩ := R2'.edge hi hm
  obtain ⟨c, hc⟩ : ∃ c, c = s.procs[i].edges[m].sync := ⟨_, rfl⟩
  refine CallE.gen fun k hk => EN_spec_l3Partners rfl ?_
  rw [← hc] at hk hs0 hs1
  simp -implicitDefEqProofs (disch := first | omega | (simp only [List.length_set, List.length_replicate, List.length_append, List.length_map, List.length_take, List.length_cons, List.length_nil]; omega)) [wrap64]
  refine HS.init.bls0 Stp fun o h1 H => ?_
  have hP := hld_parts (hload_le H.base hu)
  have hQ := hld_parts (hload_le H.base hu2)
  simp -implicitDefEqProofs (disch := first | omega | (simp only [List.length_set, List.length_replicate, List.length_append, List.length_map, List.length_take, List.length_cons, List.length_nil]; omega)) [wrap64, R2'.X (n := 2) rfl, hP.1, hP.2.2.1, R3.X (n := 10) rfl, hQ.1, hQ.2.2.1, Ed.cs]
  refine wp_count s.procs.length (fun j e h' => ∃ o, e = [none, none, some (.int .i64 i), some (.int .i64 m), some (.agg #[v1, v2]), some (.agg #[t1, t2]), none, some o, some (.int .i64 c), some (.int .i64 j), none] ∧ HS h [ow o ((s.procs.zipIdx.take j).flatMap (prt1 st i m c))] h') ⟨o, by simp [hc], by simpa using H⟩ ?_
  clear H hP hQ
  rintro J2 j _ h3 hJ2 hj ⟨o, rfl, H⟩
  simp -implicitDefEqProofs (disch := first | omega | (simp only [List.length_set, List.length_replicate, List.length_append, List.length_map, List.length_take, List.length_cons, List.length_nil]; omega)) [wrap64, R2'.len]
  refine IteW.mk (fun hlt2 => ?_) (fun hge2 => ?_)
  · have hj : j < s.procs.length := by omega
    obtain ⟨D, hD⟩ : ∃ D, D = (s.procs.zipIdx.take j).flatMap (prt1 st i m c) := ⟨_, rfl⟩
    have hDl : D.length ≤ 18 := by rw [hD]; exact prt_len hs
    rw [← hD] at H
    obtain ⟨u, hu, Ru⟩ := R2'.ld hj
    change hload _ (some (elp 2 v2 j)) (some 2) = some u at hu
    obtain ⟨wf, rfl, k2, R4⟩ := Rep_Pr.1 Ru
    have hpj := hs.at hj
    have hej := hpj.el
    have hP : ∀ {h'}, h.le h' → _ := fun {h'} (hl : h.le h') => hld_parts (hload_le hl hu)
    simp -implicitDefEqProofs (disch := first | omega | (simp only [List.length_set, List.length_replicate, List.length_append, List.length_map, List.length_take, List.length_cons, List.length_nil]; omega)) [wrap64]
    refine wp_count s.procs[j].edges.length (fun n e h' => ∃ o, e = [none, none, some (.int .i64 i), some (.int .i64 m), some (.agg #[v1, v2]), some (.agg #[t1, t2]), none, some o, some (.int .i64 c), some (.int .i64 j), some (.int .i64 n)] ∧ HS h [ow o (D ++ (s.procs[j].edges.zipIdx.take n).flatMap (prt2 st i m c j))] h') ⟨o, by simp, by simpa using H⟩ ?_
    clear H
    rintro J3 n _ h4 hJ3 hn ⟨o, rfl, H⟩
    have hP1 := (hP H.base).1
    have hP2 := (hP H.base).2.2.1
    simp -implicitDefEqProofs (disch := first | omega | (simp only [List.length_set, List.length_replicate, List.length_append, List.length_map, List.length_take, List.length_cons, List.length_nil]; omega)) [wrap64, R2'.X (n := 2) rfl, hP1, hP2, R4.len]
    refine IteW.mk (fun hlt3 => ?_) (fun hge3 => ?_)
    · have hn : n < s.procs[j].edges.length := by omega
      obtain ⟨E, hE⟩ : ∃ E, E = D ++ (s.procs[j].edges.zipIdx.take n).flatMap (prt2 st i m c j) := ⟨_, rfl⟩
      have hEl : E.length ≤ 24 := by
        rw [hE, List.length_append]
        have := prt1_len (st := st) (i := i) (k := m) (c := c) (j := j) (n := n) hpj
        omega
      have hstep2 : D ++ (s.procs[j].edges.zipIdx.take (n + 1)).flatMap (prt2 st i m c j) = E ++ prt2 st i m c j (s.procs[j].edges[n], n) := by rw [fm_tk hn, ← List.append_assoc, ← hE]
      rw [← hE] at H
      obtain ⟨u, hu, Ru⟩ := R4.ld hn
      have hu2 := hload_le H.base hu
      change hload _ (some (elp 10 wf n)) (some 10) = some u at hu2
      obtain ⟨x1, x2, rfl, okf, X1, X2⟩ := Rep_Ed.1 Ru
      have hQ := hld_parts hu2
      have hgo2 : ∀ {o' h'}, HS h [ow o' (E ++ prt2 st i m c j (s.procs[j].edges[n], n))] h' → J3 [none, none, some (.int .i64 i), some (.int .i64 m), some (.agg #[v1, v2]), some (.agg #[t1, t2]), none, some o', some (.int .i64 c), some (.int .i64 j), some (.int .i64 ((n + 1 : Nat) : Int))] h' :=
        fun {o' h'} H => hJ3 _ _ hn ⟨o', by simp, by rw [hstep2]; exact H⟩
      by_cases b1 : j = i
      · simp -implicitDefEqProofs (disch := first | omega | (simp only [List.length_set, List.length_replicate, List.length_append, List.length_map, List.length_take, List.length_cons, List.length_nil]; omega)) [wrap64, b1]
        subst b1
        exact hgo2 (by rw [prt2, if_neg (fun hh => hh.1 rfl)]; simpa using H)
      have b1' : ¬ ((j : Int) = i) := by omega
      by_cases b2 : s.procs[j].edges[n].sync = -c
      case neg =>
        simp -implicitDefEqProofs (disch := first | omega | (simp only [List.length_set, List.length_replicate, List.length_append, List.length_map, List.length_take, List.length_cons, List.length_nil]; omega)) [wrap64, R2'.X (n := 2) rfl, hP1, hP2, R4.X (n := 10) rfl, hQ.1, hQ.2.2.1, Ed.cs, b1, b1', b2]
        exact hgo2 (by rw [prt2, if_neg (fun hh => b2 hh.2.1)]; simpa using H)
      simp -implicitDefEqProofs (disch := first | omega | (simp only [List.length_set, List.length_replicate, List.length_append, List.length_map, List.length_take, List.length_cons, List.length_nil]; omega)) [wrap64, R2'.X (n := 2) rfl, hP1, hP2, R4.X (n := 10) rfl, hQ.1, hQ.2.2.1, Ed.cs, b1, b1', b2]
      refine (c_l3Ready hs ht (R0.on H) (Rt0.on H) hj hn).go ?_
      rintro _ h4 ⟨rfl, rfl⟩
      by_cases b3 : s.procs[j].edges[n].rdy st j = true
      case neg =>
        simp -implicitDefEqProofs (disch := first | omega | (simp only [List.length_set, List.length_replicate, List.length_append, List.length_map, List.length_take, List.length_cons, List.length_nil]; omega)) [wrap64, b3]
        exact hgo2 (by rw [prt2, if_neg (fun hh => b3 hh.2.2)]; simpa using H)
      have hel := (hs.at hi).el
      simp -implicitDefEqProofs (disch := first | omega | (simp only [List.length_set, List.length_replicate, List.length_append, List.length_map, List.length_take, List.length_cons, List.length_nil]; omega)) [wrap64, b3, setC]
      refine H.app1 (bytes := 32) (⟨i, m, j, n⟩ : Stp) rfl rfl rfl (Stp.ok_iff.2 ⟨by dsimp only; omega, by dsimp only; omega, by dsimp only; omega, by dsimp only; omega⟩) rfl rfl (by omega) (by omega) fun o' h5 H => ?_
      simp -implicitDefEqProofs (disch := first | omega | (simp only [List.length_set, List.length_replicate, List.length_append, List.length_map, List.length_take, List.length_cons, List.length_nil]; omega)) [wrap64]
      refine hgo2 ?_
      rw [prt2, if_pos ⟨b1, b2, b3⟩]; exact H
    simp -implicitDefEqProofs (disch := first | omega | (simp only [List.length_set, List.length_replicate, List.length_append, List.length_map, List.length_take, List.length_cons, List.length_nil]; omega)) [wrap64]
    rw [fm_all (by omega)] at H
    exact hJ2 _ _ hj ⟨o, by simp, by rw [fm_tk hj, ← hD]; exact H⟩
  simp -implicitDefEqProofs (disch := first | omega | (simp only [List.length_set, List.length_replicate, List.length_append, List.length_map, List.length_take, List.length_cons, List.length_nil]; omega)) [wrap64]
  rw [fm_all (by omega)] at H
  exact RetK.keep (hk _ _ H)

theorem c_l3Steps {h : Heap} {v w : Value} {s : Sy} {st : Sta} (hs : s.Ok) (ht : st.Ok s) (R : Rep h v s) (Rt : Rep h w st) : CallE Tryz.prog fn_spec_l3Steps [v, w] h (fun u h' => HS h [ow u (enb s st)] h') := by
  have FS := R.aSy
  have FT := Rt.aSta
  have R0 := R
  have Rt0 := Rt
  obtain ⟨v1, v2, rfl, R1, R2'⟩ := Rep_Sy.1 R
  obtain ⟨t1, t2, rfl, T1, T2⟩ := Rep_Sta.1 Rt
  have hp3 := hs.p3
  refine CallE.gen fun k hk => EN_spec_l3Steps rfl ?_
  simp -implicitDefEqProofs (disch := first | omega | (simp only [List.length_set, List.length_replicate, List.length_append, List.length_map, List.length_take, List.length_cons, List.length_nil]; omega)) [wrap64]
  refine HS.init.bls0 Stp fun o h1 H => ?_
  simp -implicitDefEqProofs (disch := first | omega | (simp only [List.length_set, List.length_replicate, List.length_append, List.length_map, List.length_take, List.length_cons, List.length_nil]; omega)) [wrap64]
  refine wp_count s.procs.length (fun i e h' => ∃ o, e = [none, none, some (.agg #[v1, v2]), some (.agg #[t1, t2]), none, some o, some (.int .i64 i), none, none] ∧ HS h [ow o ((s.procs.zipIdx.take i).flatMap (enb1 s st))] h') ⟨o, by simp, by simpa using H⟩ ?_
  clear H
  rintro J0 i _ h1 hJ0 hi ⟨o, rfl, H⟩
  simp -implicitDefEqProofs (disch := first | omega | (simp only [List.length_set, List.length_replicate, List.length_append, List.length_map, List.length_take, List.length_cons, List.length_nil]; omega)) [wrap64, R2'.len]
  refine IteW.mk (fun hlt => ?_) (fun hge => ?_)
  · have hi : i < s.procs.length := by omega
    obtain ⟨A, hA⟩ : ∃ A, A = (s.procs.zipIdx.take i).flatMap (enb1 s st) := ⟨_, rfl⟩
    have hAl : A.length ≤ 324 := by rw [hA]; exact enb_len hs
    obtain ⟨u, hu, Ru⟩ := R2'.ld hi
    change hload _ (some (elp 2 v2 i)) (some 2) = some u at hu
    obtain ⟨we, rfl, k1, R3⟩ := Rep_Pr.1 Ru
    have hpo := hs.at hi
    have hel := hpo.el
    have hP : ∀ {h'}, h.le h' → _ := fun {h'} (hl : h.le h') => hld_parts (hload_le hl hu)
    rw [← hA] at H
    simp -implicitDefEqProofs (disch := first | omega | (simp only [List.length_set, List.length_replicate, List.length_append, List.length_map, List.length_take, List.length_cons, List.length_nil]; omega)) [wrap64]
    refine wp_count s.procs[i].edges.length (fun m e h' => ∃ o, e = [none, none, some (.agg #[v1, v2]), some (.agg #[t1, t2]), none, some o, some (.int .i64 i), some (.int .i64 m), none] ∧ HS h [ow o (A ++ (s.procs[i].edges.zipIdx.take m).flatMap (enb2 s st i))] h') ⟨o, by simp, by simpa using H⟩ ?_
    clear H
    rintro J1 m _ h2 hJ1 hm ⟨o, rfl, H⟩
    have hP1 := (hP H.base).1
    have hP2 := (hP H.base).2.2.1
    simp -implicitDefEqProofs (disch := first | omega | (simp only [List.length_set, List.length_replicate, List.length_append, List.length_map, List.length_take, List.length_cons, List.length_nil]; omega)) [wrap64, R2'.X (n := 2) rfl, hP1, hP2, R3.len]
    refine IteW.mk (fun hlt1 => ?_) (fun hge1 => ?_)
    · have hm : m < s.procs[i].edges.length := by omega
      obtain ⟨B, hB⟩ : ∃ B, B = A ++ (s.procs[i].edges.zipIdx.take m).flatMap (enb2 s st i) := ⟨_, rfl⟩
      have hBl : B.length ≤ 432 := by
        rw [hB, List.length_append]
        have := enb1_len (st := st) (i := i) (n := m) hs hpo
        omega
      have hstep : A ++ (s.procs[i].edges.zipIdx.take (m + 1)).flatMap (enb2 s st i) = B ++ enb2 s st i (s.procs[i].edges[m], m) := by rw [fm_tk hm, ← List.append_assoc, ← hB]
      rw [← hB] at H
      obtain ⟨u, hu, Ru⟩ := R3.ld hm
      have hu2 := hload_le H.base hu
      change hload _ (some (elp 10 we m)) (some 10) = some u at hu2
      obtain ⟨w1, w2, rfl, ok, G1, G2⟩ := Rep_Ed.1 Ru
      have heo := hpo.at hm
      have hQ := hld_parts hu2
      have hgo : ∀ {o' h'}, HS h [ow o' (B ++ enb2 s st i (s.procs[i].edges[m], m))] h' → J1 [none, none, some (.agg #[v1, v2]), some (.agg #[t1, t2]), none, some o', some (.int .i64 i), some (.int .i64 ((m + 1 : Nat) : Int)), none] h' :=
        fun {o' h'} H => hJ1 _ _ hm ⟨o', by simp, by rw [hstep]; exact H⟩
      by_cases a2 : s.procs[i].edges[m].sync < 0
      · simp -implicitDefEqProofs (disch := first | omega | (simp only [List.length_set, List.length_replicate, List.length_append, List.length_map, List.length_take, List.length_cons, List.length_nil]; omega)) [wrap64, R2'.X (n := 2) rfl, hP1, hP2, R3.X (n := 10) rfl, hQ.1, hQ.2.2.1, Ed.cs, a2]
        exact hgo (by rw [enb2, if_pos (.inl a2)]; simpa using H)
      simp -implicitDefEqProofs (disch := first | omega | (simp only [List.length_set, List.length_replicate, List.length_append, List.length_map, List.length_take, List.length_cons, List.length_nil]; omega)) [wrap64, R2'.X (n := 2) rfl, hP1, hP2, R3.X (n := 10) rfl, hQ.1, hQ.2.2.1, Ed.cs, a2]
      refine (c_l3Ready hs ht (R0.on H) (Rt0.on H) hi hm).go ?_
      rintro _ h2 ⟨rfl, rfl⟩
      by_cases a1 : s.procs[i].edges[m].rdy st i = true
      case neg =>
        simp -implicitDefEqProofs (disch := first | omega | (simp only [List.length_set, List.length_replicate, List.length_append, List.length_map, List.length_take, List.length_cons, List.length_nil]; omega)) [wrap64, a1]
        exact hgo (by rw [enb2, if_pos (.inr (by simpa using a1))]; simpa using H)
      by_cases a3 : s.procs[i].edges[m].sync = 0
      · simp -implicitDefEqProofs (disch := first | omega | (simp only [List.length_set, List.length_replicate, List.length_append, List.length_map, List.length_take, List.length_cons, List.length_nil]; omega)) [wrap64, a1, a2, a3, setC]
        refine H.app1 (bytes := 32) (⟨i, m, -1, -1⟩ : Stp) rfl rfl rfl (Stp.ok_iff.2 ⟨by dsimp only; omega, by dsimp only; omega, by dsimp only; omega, by dsimp only; omega⟩) rfl rfl (by omega) (by omega) fun o' h3 H => ?_
        simp -implicitDefEqProofs (disch := first | omega | (simp only [List.length_set, List.length_replicate, List.length_append, List.length_map, List.length_take, List.length_cons, List.length_nil]; omega)) [wrap64]
        refine hgo ?_
        rw [enb2, if_neg (by simp [a2, a1]), if_pos a3]; exact H
      have hen : enb2 s st i (s.procs[i].edges[m], m) = prt s st i m s.procs[i].edges[m].sync := by rw [enb2, if_neg (by simp [a2, a1]), if_neg a3]
      have hpl := prt_len' (st := st) (i := i) (k := m) (c := s.procs[i].edges[m].sync) hs
      rw [hen] at hgo
      simp -implicitDefEqProofs (disch := first | omega | (simp only [List.length_set, List.length_replicate, List.length_append, List.length_map, List.length_take, List.length_cons, List.length_nil]; omega)) [wrap64, a1, a2, a3]
      refine (c_l3Partners hs ht (R0.on H) (Rt0.on H) hi hm).go ?_
      intro p h3 G
      have H := G.app H
      simp -implicitDefEqProofs (disch := first | omega | (simp only [List.length_set, List.length_replicate, List.length_append, List.length_map, List.length_take, List.length_cons, List.length_nil]; omega)) [wrap64]
      refine HS.appL (u := p) (l2 := prt s st i m s.procs[i].edges[m].sync) H.sw1 rfl rfl H.rep rfl rfl (by omega) (by omega) fun o' h4 H => ?_
      simp -implicitDefEqProofs (disch := first | omega | (simp only [List.length_set, List.length_replicate, List.length_append, List.length_map, List.length_take, List.length_cons, List.length_nil]; omega)) [wrap64]
      exact hgo H.only
    simp -implicitDefEqProofs (disch := first | omega | (simp only [List.length_set, List.length_replicate, List.length_append, List.length_map, List.length_take, List.length_cons, List.length_nil]; omega)) [wrap64]
    rw [fm_all (by omega)] at H
    exact hJ0 _ _ hi ⟨o, by simp, by rw [fm_tk hi, ← hA]; exact H⟩
  simp -implicitDefEqProofs (disch := first | omega | (simp only [List.length_set, List.length_replicate, List.length_append, List.length_map, List.length_take, List.length_cons, List.length_nil]; omega)) [wrap64]
  rw [fm_all (by omega)] at H
  exact RetK.keep (hk _ _ H)

theorem c_StateValid {h : Heap} {v w : Value} {s : Sy} {st : Sta} (R : Rep h v s) (Rt : Rep h w st) : CallE Tryz.prog fn_impl_StateValid [v, w] h (fun u h' => h.le h' ∧ u = .bool (decide (s.Ok ∧ st.Ok s))) := by
  have FS := R.aSy
  have FT := Rt.aSta
  refine CallE.gen fun k hk => EN_impl_StateValid rfl ?_
  simp -implicitDefEqProofs (disch := first | omega | (simp only [List.length_set, List.length_replicate, List.length_append, List.length_map, List.length_take, List.length_cons, List.length_nil]; omega)) [wrap64, FS, FT]
  refine (c_SystemValid R).go ?_
  rintro _ h1 ⟨l1, rfl⟩
  by_cases hs : s.Ok
  case neg => simp -implicitDefEqProofs (disch := first | omega | (simp only [List.length_set, List.length_replicate, List.length_append, List.length_map, List.length_take, List.length_cons, List.length_nil]; omega)) [wrap64, hs]; exact RetK.keep (hk _ _ ⟨l1, by rw [decide_eq_false (fun hh => hs hh.1)]⟩)
  simp -implicitDefEqProofs (disch := first | omega | (simp only [List.length_set, List.length_replicate, List.length_append, List.length_map, List.length_take, List.length_cons, List.length_nil]; omega)) [wrap64, hs, FS, FT]
  refine (c_has hs (R.le l1) (Rt.le l1)).go ?_
  rintro _ h2 ⟨l2, rfl⟩
  simp -implicitDefEqProofs (disch := first | omega | (simp only [List.length_set, List.length_replicate, List.length_append, List.length_map, List.length_take, List.length_cons, List.length_nil]; omega)) [wrap64]
  exact RetK.keep (hk _ _ ⟨l1.trans l2, by congr 1; rw [Bool.eq_iff_iff]; simp [hs]⟩)
theorem c_EnabledSteps {h : Heap} {v w : Value} {s : Sy} {st : Sta} (R : Rep h v s) (Rt : Rep h w st) : CallE Tryz.prog fn_impl_EnabledSteps [v, w] h (fun u h' => HS h [ow u (ens s st)] h') := by
  have FS := R.aSy
  have FT := Rt.aSta
  refine CallE.gen fun k hk => EN_impl_EnabledSteps rfl ?_
  have hno : ¬ (s.Ok ∧ st.Ok s) → ∀ {h'}, h.le h' → k (.slice none 0 0) h' := fun hn h' hl => hk _ _ (by rw [ens, if_neg hn]; exact HS.nil_ow (Γ := []) hl)
  simp -implicitDefEqProofs (disch := first | omega | (simp only [List.length_set, List.length_replicate, List.length_append, List.length_map, List.length_take, List.length_cons, List.length_nil]; omega)) [wrap64, FS, FT]
  refine (c_StateValid R Rt).go ?_
  rintro _ h1 ⟨l1, rfl⟩
  by_cases q : s.Ok ∧ st.Ok s
  case neg => simp -implicitDefEqProofs (disch := first | omega | (simp only [List.length_set, List.length_replicate, List.length_append, List.length_map, List.length_take, List.length_cons, List.length_nil]; omega)) [wrap64, q]; exact RetK.keep (hno q l1)
  simp -implicitDefEqProofs (disch := first | omega | (simp only [List.length_set, List.length_replicate, List.length_append, List.length_map, List.length_take, List.length_cons, List.length_nil]; omega)) [wrap64, q, FS, FT]
  refine (c_enabled q.1 q.2 (R.le l1) (Rt.le l1)).go ?_
  intro u h2 H
  simp -implicitDefEqProofs (disch := first | omega | (simp only [List.length_set, List.length_replicate, List.length_append, List.length_map, List.length_take, List.length_cons, List.length_nil]; omega)) [wrap64]
  exact RetK.keep (hk _ _ (by rw [ens, if_pos q]; exact HS.app (Γ := []) H l1))
theorem c_take {g h : Heap} {Γ : List HP} {t1 t2 v : Value} {s : Sy} {st : Sta} {e : Ed} {i : Nat} (hi : i < s.procs.length) (ht : st.Ok s) (he : e.Ok s.procs[i].locs) (R : Rep g v e) (H : HS g (ow t1 st.locs :: ow t2 st.vals :: Γ) h) :
    CallE Tryz.prog fn_impl_State_take [.agg #[t1, t2], .int .i64 i, v] h (fun _ h' => HS g (ow t1 (st.tk i e).locs :: ow t2 (st.tk i e).vals :: Γ) h') := by
  obtain ⟨w1, w2, rfl, ok, G1, G2⟩ := Rep_Ed.1 R
  have hil : i < st.locs.length := by rw [ht.len]; exact hi
  have hvl := ht.vs.len
  refine CallE.gen fun k hk => EN_impl_State_take rfl ?_
  simp -implicitDefEqProofs (disch := first | omega | (simp only [List.length_set, List.length_replicate, List.length_append, List.length_map, List.length_take, List.length_cons, List.length_nil]; omega)) [wrap64, Ed.cs, H.rep.I]
  refine H.storeF e.to (i := i) hil rfl rfl ok.to rfl fun h1 H => ?_
  by_cases a1 : 0 ≤ e.var
  case neg =>
    simp -implicitDefEqProofs (disch := first | omega | (simp only [List.length_set, List.length_replicate, List.length_append, List.length_map, List.length_take, List.length_cons, List.length_nil]; omega)) [wrap64, a1]
    exact RetK.keep (hk _ _ (by simp only [Sta.tk]; rw [if_neg a1]; exact H))
  have hvo : e.value.Ok := he.vl.elim (fun hh => hh.2) (fun hh => absurd hh.1 (by omega))
  have hv1 := he.v1
  obtain ⟨q, hq⟩ : ∃ q : Nat, e.var = q := ⟨_, (Int.toNat_of_nonneg a1).symm⟩
  have hb := Exq.ev_bnd ht.vs hvo.1
  simp -implicitDefEqProofs (disch := first | omega | (simp only [List.length_set, List.length_replicate, List.length_append, List.length_map, List.length_take, List.length_cons, List.length_nil]; omega)) [wrap64, a1, hq]
  refine (c_eval _ ht.vs hvo.1 ((Rep.vl ok G2).on H) H.sw1.rep).go ?_
  rintro _ h1 ⟨rfl, rfl⟩
  simp -implicitDefEqProofs (disch := first | omega | (simp only [List.length_set, List.length_replicate, List.length_append, List.length_map, List.length_take, List.length_cons, List.length_nil]; omega)) [wrap64, H.sw1.rep.I]
  refine H.sw1.storeF (e.value.ev st.vals) (i := q) (by omega) rfl rfl ⟨by omega, by omega⟩ rfl fun h2 H => ?_
  simp -implicitDefEqProofs (disch := first | omega | (simp only [List.length_set, List.length_replicate, List.length_append, List.length_map, List.length_take, List.length_cons, List.length_nil]; omega)) [wrap64]
  exact RetK.keep (hk _ _ (by simp only [Sta.tk]; rw [if_pos a1, hq, Int.toNat_natCast]; exact H.sw1))
theorem c_l3Take {g h : Heap} {Γ : List HP} {t1 t2 v : Value} {s : Sy} {st : Sta} {e : Ed} {i : Nat} (hi : i < s.procs.length) (ht : st.Ok s) (he : e.Ok s.procs[i].locs) (R : Rep g v e) (H : HS g (ow t1 st.locs :: ow t2 st.vals :: Γ) h) :
    CallE Tryz.prog fn_spec_l3Take [.agg #[t1, t2], .int .i64 i, v] h (fun u h' => u = .agg #[t1, t2] ∧ HS g (ow t1 (st.tk i e).locs :: ow t2 (st.tk i e).vals :: Γ) h') := by
  obtain ⟨w1, w2, rfl, ok, G1, G2⟩ := Rep_Ed.1 R
  have hil : i < st.locs.length := by rw [ht.len]; exact hi
  have hvl := ht.vs.len
  have hO1 := H.rep.one
  have hO2 := H.sw1.rep.one
  refine CallE.gen fun k hk => EN_spec_l3Take rfl ?_
  simp -implicitDefEqProofs (disch := first | omega | (simp only [List.length_set, List.length_replicate, List.length_append, List.length_map, List.length_take, List.length_cons, List.length_nil]; omega)) [wrap64, Ed.cs, H.rep.I]
  refine H.storeF e.to (i := i) hil rfl rfl ok.to rfl fun h1 H => ?_
  by_cases a1 : 0 ≤ e.var
  case neg =>
    simp -implicitDefEqProofs (disch := first | omega | (simp only [List.length_set, List.length_replicate, List.length_append, List.length_map, List.length_take, List.length_cons, List.length_nil]; omega)) [wrap64, a1, setC, hO1, hO2]
    exact RetK.keep (hk _ _ ⟨rfl, by simp only [Sta.tk]; rw [if_neg a1]; exact H⟩)
  have hvo : e.value.Ok := he.vl.elim (fun hh => hh.2) (fun hh => absurd hh.1 (by omega))
  have hv1 := he.v1
  obtain ⟨q, hq⟩ : ∃ q : Nat, e.var = q := ⟨_, (Int.toNat_of_nonneg a1).symm⟩
  have hb := Exq.ev_bnd ht.vs hvo.1
  simp -implicitDefEqProofs (disch := first | omega | (simp only [List.length_set, List.length_replicate, List.length_append, List.length_map, List.length_take, List.length_cons, List.length_nil]; omega)) [wrap64, a1, hq]
  refine (c_l1Eval _ ht.vs hvo.1 ((Rep.vl ok G2).on H) H.sw1.rep).go ?_
  rintro _ h1 ⟨rfl, rfl⟩
  simp -implicitDefEqProofs (disch := first | omega | (simp only [List.length_set, List.length_replicate, List.length_append, List.length_map, List.length_take, List.length_cons, List.length_nil]; omega)) [wrap64, H.sw1.rep.I]
  refine H.sw1.storeF (e.value.ev st.vals) (i := q) (by omega) rfl rfl ⟨by omega, by omega⟩ rfl fun h2 H => ?_
  simp -implicitDefEqProofs (disch := first | omega | (simp only [List.length_set, List.length_replicate, List.length_append, List.length_map, List.length_take, List.length_cons, List.length_nil]; omega)) [wrap64, setC, hO1, hO2]
  exact RetK.keep (hk _ _ ⟨rfl, by simp only [Sta.tk]; rw [if_pos a1, hq, Int.toNat_natCast]; exact H.sw1⟩)

theorem c_after {h : Heap} {v w : Value} {s : Sy} {st : Sta} {t : Stp} (hs : s.Ok) (ht : st.Ok s) (hin : t.In s) (R : Rep h v s) (Rt : Rep h w st) : CallE Tryz.prog fn_impl_System_after [v, w, t.v] h (fun u h' => HS h [ow u (st.aft s t)] h') := by
  have FT := Rt.aSta
  obtain ⟨v1, v2, rfl, R1, R2'⟩ := Rep_Sy.1 R
  obtain ⟨⟨i, m, hi, hm, e1, e2⟩, hpt⟩ := hin
  have hp3 := hs.p3
  have hll := ht.len
  have hvl := ht.vs.len
  have hed : s.ed t.proc.toNat t.edge.toNat = s.procs[i].edges[m] := by rw [e1, e2, Int.toNat_natCast, Int.toNat_natCast, Sy.ed_eq hi hm]
  refine CallE.gen fun k hk => EN_impl_System_after rfl ?_
  simp -implicitDefEqProofs (disch := first | omega | (simp only [List.length_set, List.length_replicate, List.length_append, List.length_map, List.length_take, List.length_cons, List.length_nil]; omega)) [wrap64, FT]
  refine (c_State_copyOf Rt (by omega) (by omega)).go ?_
  intro o h1 HO
  obtain ⟨o1, o2, rfl, H⟩ := HO.unSta
  obtain ⟨we, w1, w2, hu, R3, hu2, ok, G1, G2⟩ := R2'.edge hi hm
  have hP := hld_parts (hload_le H.base hu)
  have hu3 := hload_le H.base hu2
  have hC1 := H.rep.one
  have hC2 := H.sw1.rep.one
  have heo := (hs.at hi).at hm
  have Re : Rep h (.agg (s.procs[i].edges[m].cs w1 w2).toArray) s.procs[i].edges[m] := Rep_Ed.2 ⟨w1, w2, rfl, ok, G1, G2⟩
  simp -implicitDefEqProofs (disch := first | omega | (simp only [List.length_set, List.length_replicate, List.length_append, List.length_map, List.length_take, List.length_cons, List.length_nil]; omega)) [wrap64, setC, hC1, hC2, Stp.v, e1, e2, R2'.X (n := 2) rfl, hP.1, hP.2.2.1, R3.X (n := 10) rfl, hu3]
  refine (c_take (s := s) hi ht heo Re H).go ?_
  intro _ h2 H
  have ht2 := Sta.tk_ok ht hi heo
  have hC1 := H.rep.one
  have hC2 := H.sw1.rep.one
  rcases hpt with hpt | ⟨j, n, hj, hn, e3, e4⟩
  · simp -implicitDefEqProofs (disch := first | omega | (simp only [List.length_set, List.length_replicate, List.length_append, List.length_map, List.length_take, List.length_cons, List.length_nil]; omega)) [wrap64, Stp.v, hpt, setC, hC1, hC2]
    refine RetK.keep (hk _ _ ?_)
    rw [Sta.aft, if_neg (by omega), hed, e1, Int.toNat_natCast]
    exact H.mkSta
  · have hed2 : s.ed t.partner.toNat t.pedge.toNat = s.procs[j].edges[n] := by rw [e3, e4, Int.toNat_natCast, Int.toNat_natCast, Sy.ed_eq hj hn]
    have heo2 := (hs.at hj).at hn
    obtain ⟨wf, x1, x2, hu, R3, hu2, ok, X1, X2⟩ := R2'.edge hj hn
    have hP := hld_parts (hload_le H.base hu)
    have hu3 := hload_le H.base hu2
    have Rf : Rep h (.agg (s.procs[j].edges[n].cs x1 x2).toArray) s.procs[j].edges[n] := Rep_Ed.2 ⟨x1, x2, rfl, ok, X1, X2⟩
    simp -implicitDefEqProofs (disch := first | omega | (simp only [List.length_set, List.length_replicate, List.length_append, List.length_map, List.length_take, List.length_cons, List.length_nil]; omega)) [wrap64, setC, hC1, hC2, Stp.v, e3, e4, R2'.X (n := 2) rfl, hP.1, hP.2.2.1, R3.X (n := 10) rfl, hu3]
    refine (c_take (s := s) hj ht2 heo2 Rf H).go ?_
    intro _ h3 H
    simp -implicitDefEqProofs (disch := first | omega | (simp only [List.length_set, List.length_replicate, List.length_append, List.length_map, List.length_take, List.length_cons, List.length_nil]; omega)) [wrap64, setC, hC1, hC2]
    refine RetK.keep (hk _ _ ?_)
    rw [Sta.aft, if_pos (by omega), hed, hed2, e1, e3, Int.toNat_natCast, Int.toNat_natCast]
    exact H.mkSta
theorem c_l3Apply {h : Heap} {v w : Value} {s : Sy} {st : Sta} {t : Stp} (hs : s.Ok) (ht : st.Ok s) (hin : t.In s) (R : Rep h v s) (Rt : Rep h w st) : CallE Tryz.prog fn_spec_l3Apply [v, w, t.v] h (fun u h' => HS h [ow u (st.aft s t)] h') := by
  have FT := Rt.aSta
  obtain ⟨v1, v2, rfl, R1, R2'⟩ := Rep_Sy.1 R
  obtain ⟨⟨i, m, hi, hm, e1, e2⟩, hpt⟩ := hin
  have hp3 := hs.p3
  have hll := ht.len
  have hvl := ht.vs.len
  have hed : s.ed t.proc.toNat t.edge.toNat = s.procs[i].edges[m] := by rw [e1, e2, Int.toNat_natCast, Int.toNat_natCast, Sy.ed_eq hi hm]
  refine CallE.gen fun k hk => EN_spec_l3Apply rfl ?_
  obtain ⟨t1, t2, rfl, T1, T2⟩ := Rep_Sta.1 Rt
  simp -implicitDefEqProofs (disch := first | omega | (simp only [List.length_set, List.length_replicate, List.length_append, List.length_map, List.length_take, List.length_cons, List.length_nil]; omega)) [wrap64]
  refine HS.appPL (α := Int) (l2 := st.locs) HS.init rfl rfl T1 rfl rfl (by omega) fun o1 h1 H => ?_
  simp -implicitDefEqProofs (disch := first | omega | (simp only [List.length_set, List.length_replicate, List.length_append, List.length_map, List.length_take, List.length_cons, List.length_nil]; omega)) [wrap64]
  refine HS.appPL (α := Int) (l2 := st.vals) H rfl rfl (T2.on H) rfl rfl (by omega) fun o2 h1 H => ?_
  replace H := H.sw1
  have hK1 := H.rep.cells
  have hK2 := H.sw1.rep.cells
  obtain ⟨we, w1, w2, hu, R3, hu2, ok, G1, G2⟩ := R2'.edge hi hm
  have hP := hld_parts (hload_le H.base hu)
  have hu3 := hload_le H.base hu2
  have hC1 := H.rep.one
  have hC2 := H.sw1.rep.one
  have heo := (hs.at hi).at hm
  have Re : Rep h (.agg (s.procs[i].edges[m].cs w1 w2).toArray) s.procs[i].edges[m] := Rep_Ed.2 ⟨w1, w2, rfl, ok, G1, G2⟩
  simp -implicitDefEqProofs (disch := first | omega | (simp only [List.length_set, List.length_replicate, List.length_append, List.length_map, List.length_take, List.length_cons, List.length_nil]; omega)) [wrap64, setC, hC1, hC2, hK1, hK2, Stp.v, e1, e2, R2'.X (n := 2) rfl, hP.1, hP.2.2.1, R3.X (n := 10) rfl, hu3]
  refine (c_l3Take (s := s) hi ht heo Re H).go ?_
  rintro _ h2 ⟨rfl, H⟩
  have ht2 := Sta.tk_ok ht hi heo
  have hC1 := H.rep.one
  have hC2 := H.sw1.rep.one
  rcases hpt with hpt | ⟨j, n, hj, hn, e3, e4⟩
  · simp -implicitDefEqProofs (disch := first | omega | (simp only [List.length_set, List.length_replicate, List.length_append, List.length_map, List.length_take, List.length_cons, List.length_nil]; omega)) [wrap64, Stp.v, hpt, setC, hC1, hC2]
    refine RetK.keep (hk _ _ ?_)
    rw [Sta.aft, if_neg (by omega), hed, e1, Int.toNat_natCast]
    exact H.mkSta
  · have hed2 : s.ed t.partner.toNat t.pedge.toNat = s.procs[j].edges[n] := by rw [e3, e4, Int.toNat_natCast, Int.toNat_natCast, Sy.ed_eq hj hn]
    have heo2 := (hs.at hj).at hn
    obtain ⟨wf, x1, x2, hu, R3, hu2, ok, X1, X2⟩ := R2'.edge hj hn
    have hP := hld_parts (hload_le H.base hu)
    have hu3 := hload_le H.base hu2
    have Rf : Rep h (.agg (s.procs[j].edges[n].cs x1 x2).toArray) s.procs[j].edges[n] := Rep_Ed.2 ⟨x1, x2, rfl, ok, X1, X2⟩
    simp -implicitDefEqProofs (disch := first | omega | (simp only [List.length_set, List.length_replicate, List.length_append, List.length_map, List.length_take, List.length_cons, List.length_nil]; omega)) [wrap64, setC, hC1, hC2, Stp.v, e3, e4, R2'.X (n := 2) rfl, hP.1, hP.2.2.1, R3.X (n := 10) rfl, hu3]
    refine (c_l3Take (s := s) hj ht2 heo2 Rf H).go ?_
    rintro _ h3 ⟨rfl, H⟩
    simp -implicitDefEqProofs (disch := first | omega | (simp only [List.length_set, List.length_replicate, List.length_append, List.length_map, List.length_take, List.length_cons, List.length_nil]; omega)) [wrap64, setC, hC1, hC2]
    refine RetK.keep (hk _ _ ?_)
    rw [Sta.aft, if_pos (by omega), hed, hed2, e1, e3, Int.toNat_natCast, Int.toNat_natCast]
    exact H.mkSta

end Go.Proofs.YtonjglbachhdcaaGreat

/-
  Equal states, and where a state lies in a list: by the program and by the reference.
-/
namespace Go.Proofs.YtonjglbachhdcaaGreat
open Go
set_option linter.all false
set_option linter.unusedVariables false
set_option linter.unusedSimpArgs false
set_option linter.defProp false
set_option maxRecDepth 1000000

theorem c_Equal_int {h : Heap} {a b : Value} {x y : List Int} (Ra : Rep h a x) (Rb : Rep h b y) : CallE Tryz.prog fn_slices_Equal_S_int_int [a, b] h (fun u h' => h' = h ∧ u = .bool (decide (x = y))) := by
  have hL := Ra.lt
  refine CallE.gen fun k hk => EN_slices_Equal_S_int_int rfl ?_
  by_cases hl : (x.length : Int) = y.length
  case neg =>
    simp -implicitDefEqProofs (disch := first | omega | (simp only [List.length_set, List.length_replicate, List.length_append, List.length_map, List.length_take, List.length_cons, List.length_nil]; omega)) [wrap64, Ra.len, Rb.len, hl]
    exact RetK.keep (hk _ _ ⟨rfl, by congr 1; rw [eq_comm, decide_eq_false_iff_not]; intro e; subst e; exact hl rfl⟩)
  simp -implicitDefEqProofs (disch := first | omega | (simp only [List.length_set, List.length_replicate, List.length_append, List.length_map, List.length_take, List.length_cons, List.length_nil]; omega)) [wrap64, Ra.len, Rb.len, hl]
  refine wp_count x.length (fun i e h' => e = [some a, some b, none, none, some (.int .i64 x.length), some (.int .i64 i)] ∧ h' = h ∧ x.take i = y.take i) ⟨by simp [hl], rfl, rfl⟩ ?_
  rintro J i _ h1 hJ hi ⟨rfl, rfl, hq⟩
  simp -implicitDefEqProofs (disch := first | omega | (simp only [List.length_set, List.length_replicate, List.length_append, List.length_map, List.length_take, List.length_cons, List.length_nil]; omega)) [wrap64]
  refine IteW.mk (fun hlt => ?_) (fun hge => ?_)
  · have hlx : i < x.length := by omega
    have hly : i < y.length := by omega
    by_cases he : x[i] = y[i]
    · simp -implicitDefEqProofs (disch := first | omega | (simp only [List.length_set, List.length_replicate, List.length_append, List.length_map, List.length_take, List.length_cons, List.length_nil]; omega)) [wrap64, Ra.I, Rb.I, he]
      exact hJ _ _ hlx ⟨rfl, rfl, take_step hq hlx hly he⟩
    · simp -implicitDefEqProofs (disch := first | omega | (simp only [List.length_set, List.length_replicate, List.length_append, List.length_map, List.length_take, List.length_cons, List.length_nil]; omega)) [wrap64, Ra.I, Rb.I, he]
      exact RetK.keep (hk _ _ ⟨rfl, by congr 1; rw [eq_comm, decide_eq_false_iff_not]; intro e; subst e; exact he rfl⟩)
  · simp -implicitDefEqProofs (disch := first | omega | (simp only [List.length_set, List.length_replicate, List.length_append, List.length_map, List.length_take, List.length_cons, List.length_nil]; omega)) [wrap64]
    rw [List.take_of_length_le (by omega), List.take_of_length_le (by omega)] at hq
    exact RetK.keep (hk _ _ ⟨rfl, by simp [hq]⟩)
theorem c_l2Ints {h : Heap} {a b : Value} {x y : List Int} (Ra : Rep h a x) (Rb : Rep h b y) : CallE Tryz.prog fn_spec_l2Ints [a, b] h (fun u h' => h' = h ∧ u = .bool (decide (x = y))) := by
  have hL := Ra.lt
  refine CallE.gen fun k hk => EN_spec_l2Ints rfl ?_
  by_cases hl : (x.length : Int) = y.length
  case neg =>
    simp -implicitDefEqProofs (disch := first | omega | (simp only [List.length_set, List.length_replicate, List.length_append, List.length_map, List.length_take, List.length_cons, List.length_nil]; omega)) [wrap64, Ra.len, Rb.len, hl]
    exact RetK.keep (hk _ _ ⟨rfl, by congr 1; rw [eq_comm, decide_eq_false_iff_not]; intro e; subst e; exact hl rfl⟩)
  simp -implicitDefEqProofs (disch := first | omega | (simp only [List.length_set, List.length_replicate, List.length_append, List.length_map, List.length_take, List.length_cons, List.length_nil]; omega)) [wrap64, Ra.len, Rb.len, hl]
  refine wp_count x.length (fun i e h' => e = [some a, some b, none, some (.int .i64 i)] ∧ h' = h ∧ x.take i = y.take i) ⟨by simp, rfl, rfl⟩ ?_
  rintro J i _ h1 hJ hi ⟨rfl, rfl, hq⟩
  simp -implicitDefEqProofs (disch := first | omega | (simp only [List.length_set, List.length_replicate, List.length_append, List.length_map, List.length_take, List.length_cons, List.length_nil]; omega)) [wrap64, Ra.len]
  refine IteW.mk (fun hlt => ?_) (fun hge => ?_)
  · have hlx : i < x.length := by omega
    have hly : i < y.length := by omega
    by_cases he : x[i] = y[i]
    · simp -implicitDefEqProofs (disch := first | omega | (simp only [List.length_set, List.length_replicate, List.length_append, List.length_map, List.length_take, List.length_cons, List.length_nil]; omega)) [wrap64, Ra.I, Rb.I, he]
      exact hJ _ _ hlx ⟨rfl, rfl, take_step hq hlx hly he⟩
    · simp -implicitDefEqProofs (disch := first | omega | (simp only [List.length_set, List.length_replicate, List.length_append, List.length_map, List.length_take, List.length_cons, List.length_nil]; omega)) [wrap64, Ra.I, Rb.I, he]
      exact RetK.keep (hk _ _ ⟨rfl, by congr 1; rw [eq_comm, decide_eq_false_iff_not]; intro e; subst e; exact he rfl⟩)
  · simp -implicitDefEqProofs (disch := first | omega | (simp only [List.length_set, List.length_replicate, List.length_append, List.length_map, List.length_take, List.length_cons, List.length_nil]; omega)) [wrap64]
    rw [List.take_of_length_le (by omega), List.take_of_length_le (by omega)] at hq
    exact RetK.keep (hk _ _ ⟨rfl, by simp [hq]⟩)
theorem c_StateSame {h : Heap} {v w : Value} {a b : Sta} (Ra : Rep h v a) (Rb : Rep h w b) : CallE Tryz.prog fn_impl_StateSame [v, w] h (fun u h' => h' = h ∧ u = .bool (decide (a = b))) := by
  obtain ⟨v1, v2, rfl, R1, R2⟩ := Rep_Sta.1 Ra
  obtain ⟨w1, w2, rfl, S1, S2⟩ := Rep_Sta.1 Rb
  refine CallE.gen fun k hk => EN_impl_StateSame rfl ?_
  simp -implicitDefEqProofs (disch := first | omega | (simp only [List.length_set, List.length_replicate, List.length_append, List.length_map, List.length_take, List.length_cons, List.length_nil]; omega)) [wrap64]
  refine (c_Equal_int R1 S1).go ?_
  rintro _ h ⟨rfl, rfl⟩
  by_cases h1 : a.locs = b.locs
  case neg =>
    simp -implicitDefEqProofs (disch := first | omega | (simp only [List.length_set, List.length_replicate, List.length_append, List.length_map, List.length_take, List.length_cons, List.length_nil]; omega)) [wrap64, h1]
    exact RetK.keep (hk _ _ ⟨rfl, by simp [Sta.ext_iff', h1]⟩)
  simp -implicitDefEqProofs (disch := first | omega | (simp only [List.length_set, List.length_replicate, List.length_append, List.length_map, List.length_take, List.length_cons, List.length_nil]; omega)) [wrap64, h1]
  refine (c_Equal_int R2 S2).go ?_
  rintro _ h ⟨rfl, rfl⟩
  simp -implicitDefEqProofs (disch := first | omega | (simp only [List.length_set, List.length_replicate, List.length_append, List.length_map, List.length_take, List.length_cons, List.length_nil]; omega)) [wrap64]
  exact RetK.keep (hk _ _ ⟨rfl, by simp [Sta.ext_iff', h1]⟩)
theorem c_spec_StateSame {h : Heap} {v w : Value} {a b : Sta} (Ra : Rep h v a) (Rb : Rep h w b) : CallE Tryz.prog fn_spec_StateSame [v, w] h (fun u h' => h' = h ∧ u = .bool (decide (a = b))) := by
  obtain ⟨v1, v2, rfl, R1, R2⟩ := Rep_Sta.1 Ra
  obtain ⟨w1, w2, rfl, S1, S2⟩ := Rep_Sta.1 Rb
  refine CallE.gen fun k hk => EN_spec_StateSame rfl ?_
  simp -implicitDefEqProofs (disch := first | omega | (simp only [List.length_set, List.length_replicate, List.length_append, List.length_map, List.length_take, List.length_cons, List.length_nil]; omega)) [wrap64]
  refine (c_l2Ints R1 S1).go ?_
  rintro _ h ⟨rfl, rfl⟩
  by_cases h1 : a.locs = b.locs
  case neg =>
    simp -implicitDefEqProofs (disch := first | omega | (simp only [List.length_set, List.length_replicate, List.length_append, List.length_map, List.length_take, List.length_cons, List.length_nil]; omega)) [wrap64, h1]
    exact RetK.keep (hk _ _ ⟨rfl, by simp [Sta.ext_iff', h1]⟩)
  simp -implicitDefEqProofs (disch := first | omega | (simp only [List.length_set, List.length_replicate, List.length_append, List.length_map, List.length_take, List.length_cons, List.length_nil]; omega)) [wrap64, h1]
  refine (c_l2Ints R2 S2).go ?_
  rintro _ h ⟨rfl, rfl⟩
  simp -implicitDefEqProofs (disch := first | omega | (simp only [List.length_set, List.length_replicate, List.length_append, List.length_map, List.length_take, List.length_cons, List.length_nil]; omega)) [wrap64]
  exact RetK.keep (hk _ _ ⟨rfl, by simp [Sta.ext_iff', h1]⟩)
theorem fx_at {xs : List Sta} {st : Sta} {i : Nat} (hi : i < xs.length) (he : xs[i] = st) (hn : ∀ (j : Nat) (hj : j < xs.length), j < i → xs[j] ≠ st) : fx xs st = i := by
  have : xs.findIdx? (fun y => decide (y = st)) = some i := by
    rw [List.findIdx?_eq_some_iff_getElem]
    exact ⟨hi, by simp [he], fun j hj => by simpa using hn j (by omega) hj⟩
  rw [fx, this]
theorem c_l4Find {h : Heap} {v w : Value} {xs : List Sta} {st : Sta} (R : Rep h v xs) (Rt : Rep h w st) : CallE Tryz.prog fn_spec_l4Find [v, w] h (fun u h' => h' = h ∧ u = .int .i64 (fx xs st)) := by
  have hL := R.lt
  have FT := Rt.aSta
  refine CallE.gen fun k hk => EN_spec_l4Find rfl ?_
  simp -implicitDefEqProofs (disch := first | omega | (simp only [List.length_set, List.length_replicate, List.length_append, List.length_map, List.length_take, List.length_cons, List.length_nil]; omega)) [wrap64]
  refine wp_count xs.length (fun i e h' => e = [some v, none, some w, none, some (.int .i64 i)] ∧ h' = h ∧ ∀ (j : Nat) (hj : j < xs.length), j < i → xs[j] ≠ st) ⟨by simp, rfl, fun j _ hj => absurd hj (Nat.not_lt_zero j)⟩ ?_
  rintro J i _ h hJ hi ⟨rfl, rfl, hn⟩
  simp -implicitDefEqProofs (disch := first | omega | (simp only [List.length_set, List.length_replicate, List.length_append, List.length_map, List.length_take, List.length_cons, List.length_nil]; omega)) [wrap64, R.len]
  refine IteW.mk (fun hlt => ?_) (fun hge => ?_)
  · have hlx : i < xs.length := by omega
    obtain ⟨u, hu, Ru⟩ := R.ld hlx
    change hload _ (some (elp 2 v i)) (some 2) = some u at hu
    simp -implicitDefEqProofs (disch := first | omega | (simp only [List.length_set, List.length_replicate, List.length_append, List.length_map, List.length_take, List.length_cons, List.length_nil]; omega)) [wrap64, R.X (n := 2) rfl, hu, FT, Ru.aSta]
    refine (c_spec_StateSame Ru Rt).go ?_
    rintro _ h ⟨rfl, rfl⟩
    by_cases e : xs[i] = st
    · simp -implicitDefEqProofs (disch := first | omega | (simp only [List.length_set, List.length_replicate, List.length_append, List.length_map, List.length_take, List.length_cons, List.length_nil]; omega)) [wrap64, e]
      exact RetK.keep (hk _ _ ⟨rfl, by rw [fx_at hlx e hn]⟩)
    · simp -implicitDefEqProofs (disch := first | omega | (simp only [List.length_set, List.length_replicate, List.length_append, List.length_map, List.length_take, List.length_cons, List.length_nil]; omega)) [wrap64, e]
      refine hJ _ _ hlx ⟨by simp, rfl, fun j hj hji => ?_⟩
      by_cases hji2 : j = i
      · subst hji2; exact e
      · exact hn j hj (by omega)
  · simp -implicitDefEqProofs (disch := first | omega | (simp only [List.length_set, List.length_replicate, List.length_append, List.length_map, List.length_take, List.length_cons, List.length_nil]; omega)) [wrap64]
    refine RetK.keep (hk _ _ ⟨rfl, ?_⟩)
    rw [fx_not]
    intro hm
    obtain ⟨j, hj, h1⟩ := List.mem_iff_getElem.1 hm
    exact hn j hj (by omega) h1
end Go.Proofs.YtonjglbachhdcaaGreat
