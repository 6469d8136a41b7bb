/-
  Texts of this proof, one behind the other.
-/
import Derived.WalkKit
import Derived.ProofKit
import Derived.OpenShut
import Derived.Carry
import Derived.Deep.Slices
import Derived.SizedLaws
import Derived.Test.YtonjglbachhdcaaGreatM5
/-
  Valid expressions, edges, systems and labels, by the reference.
-/
namespace Go.Proofs.YtonjglbachhdcaaGreat
open Go
set_option linter.all false
set_option linter.unusedVariables false
set_option linter.unusedSimpArgs false
set_option linter.defProp false
set_option maxRecDepth 1000000

theorem c_l1Arity {h : Heap} {n : Int} : CallE Tryz.prog fn_spec_l1Arity [.int .i64 n] h (fun u h' => h' = h ∧ u = .int .i64 (Exq.arity n)) := by
  refine CallE.gen fun k hk => EN_spec_l1Arity rfl ?_
  by_cases c1 : n = 1
  · simp -implicitDefEqProofs (disch := first | omega | (simp only [List.length_set, List.length_replicate, List.length_append, List.length_map, List.length_take, List.length_cons, List.length_nil]; omega)) [wrap64, c1]
    exact RetK.keep (hk _ _ ⟨rfl, by simp [Exq.arity, c1]⟩)
  by_cases c2 : n = 2
  · simp -implicitDefEqProofs (disch := first | omega | (simp only [List.length_set, List.length_replicate, List.length_append, List.length_map, List.length_take, List.length_cons, List.length_nil]; omega)) [wrap64, c1, c2]
    exact RetK.keep (hk _ _ ⟨rfl, by simp [Exq.arity, c2]⟩)
  by_cases c3 : n = 3
  · simp -implicitDefEqProofs (disch := first | omega | (simp only [List.length_set, List.length_replicate, List.length_append, List.length_map, List.length_take, List.length_cons, List.length_nil]; omega)) [wrap64, c1, c2, c3]
    exact RetK.keep (hk _ _ ⟨rfl, by simp [Exq.arity, c3]⟩)
  by_cases c4 : 4 ≤ n
  case neg =>
    simp -implicitDefEqProofs (disch := first | omega | (simp only [List.length_set, List.length_replicate, List.length_append, List.length_map, List.length_take, List.length_cons, List.length_nil]; omega)) [wrap64, c1, c2, c3, c4]
    exact RetK.keep (hk _ _ ⟨rfl, by simp [Exq.arity, c1, c2, c3, c4]⟩)
  by_cases c5 : n ≤ 9
  case neg =>
    simp -implicitDefEqProofs (disch := first | omega | (simp only [List.length_set, List.length_replicate, List.length_append, List.length_map, List.length_take, List.length_cons, List.length_nil]; omega)) [wrap64, c1, c2, c3, c4, c5]
    exact RetK.keep (hk _ _ ⟨rfl, by simp [Exq.arity, c1, c2, c3, c4, c5]⟩)
  simp -implicitDefEqProofs (disch := first | omega | (simp only [List.length_set, List.length_replicate, List.length_append, List.length_map, List.length_take, List.length_cons, List.length_nil]; omega)) [wrap64, c1, c2, c3, c4, c5]
  exact RetK.keep (hk _ _ ⟨rfl, by simp [Exq.arity, c1, c2, c3, c4, c5]⟩)

noncomputable instance {n : Nat} {x : Exq} : Decidable (x.Shp n) := Classical.propDecidable _
theorem c_l1Shape : ∀ (n : Nat) {x : Exq} {h : Heap} {v : Value} {dv : Int}, dv = n → n ≤ 6 → Rep h v x → CallE Tryz.prog fn_spec_l1Shape [v, .int .i64 dv] h (fun u h' => h' = h ∧ u = .bool (decide (x.Shp n))) := by
  intro n
  induction n with
  | zero =>
    intro x h v dv hd _ R
    have hd : dv = 0 := hd
    obtain ⟨w, rfl, k1, k2, R1⟩ := Rep_Exq.1 R
    refine CallE.gen fun k hk => EN_spec_l1Shape rfl ?_
    simp -implicitDefEqProofs (disch := first | omega | (simp only [List.length_set, List.length_replicate, List.length_append, List.length_map, List.length_take, List.length_cons, List.length_nil]; omega)) [wrap64, hd]
    exact RetK.keep (hk _ _ ⟨rfl, by rw [decide_eq_false (fun hh : x.Shp 0 => hh)]⟩)
  | succ n ih =>
    intro x h v dv hd hd6 R
    obtain ⟨w, rfl, k1, k2, R1⟩ := Rep_Exq.1 R
    have hL := R1.lt
    obtain ⟨ln, hln⟩ : ∃ ln : Int, ln = x.kids.length := ⟨_, rfl⟩
    have hlen := R1.len
    rw [← hln] at hlen
    refine CallE.gen fun k hk => EN_spec_l1Shape rfl ?_
    have hno : ¬ x.Shp (n + 1) → k (.bool false) h := fun hh => hk _ _ ⟨rfl, by rw [decide_eq_false hh]⟩
    simp -implicitDefEqProofs (disch := first | omega | (simp only [List.length_set, List.length_replicate, List.length_append, List.length_map, List.length_take, List.length_cons, List.length_nil]; omega)) [wrap64, hlen, show ¬ dv < 1 by omega]
    refine c_l1Arity.go ?_
    rintro _ h ⟨rfl, rfl⟩
    by_cases q1 : ln = Exq.arity x.kind
    case neg => simp -implicitDefEqProofs (disch := first | omega | (simp only [List.length_set, List.length_replicate, List.length_append, List.length_map, List.length_take, List.length_cons, List.length_nil]; omega)) [wrap64, q1]; exact RetK.keep (hno fun hh => q1 (by rw [hln]; exact hh.1.ar))
    have hm : (x.kind = 1 ∧ Exq.most x.kind = 3) ∨ (x.kind = 2 ∧ Exq.most x.kind = 2) ∨ ((¬ x.kind = 1 ∧ ¬ x.kind = 2) ∧ Exq.most x.kind = 0) := by
      unfold Exq.most
      by_cases c1 : x.kind = 1
      · exact .inl ⟨c1, by simp [c1]⟩
      by_cases c2 : x.kind = 2
      · exact .inr (.inl ⟨c2, by simp [c2]⟩)
      · exact .inr (.inr ⟨⟨c1, c2⟩, by simp [c1, c2]⟩)
    rcases hm with ⟨c1, hmo⟩ | ⟨c1, hmo⟩ | ⟨c1, hmo⟩
    all_goals
      by_cases q2 : x.val < 0
      · simp -implicitDefEqProofs (disch := first | omega | (simp only [List.length_set, List.length_replicate, List.length_append, List.length_map, List.length_take, List.length_cons, List.length_nil]; omega)) [wrap64, q1, c1, q2]; exact RetK.keep (hno fun hh => by have := hh.1.lo; omega)
      by_cases q3 : Exq.most x.kind < x.val
      · rw [hmo] at q3
        simp -implicitDefEqProofs (disch := first | omega | (simp only [List.length_set, List.length_replicate, List.length_append, List.length_map, List.length_take, List.length_cons, List.length_nil]; omega)) [wrap64, q1, c1, q2, q3]; exact RetK.keep (hno fun hh => by have := hh.1.hi; omega)
      rw [hmo] at q3
      simp -implicitDefEqProofs (disch := first | omega | (simp only [List.length_set, List.length_replicate, List.length_append, List.length_map, List.length_take, List.length_cons, List.length_nil]; omega)) [wrap64, q1, c1, q2, q3]
      refine wp_count x.kids.length (fun i e h' => h' = h ∧ (∃ kd : Int, kd = x.kind ∧ e = [none, some (.int .i64 dv), some (.agg #[.int .i64 kd, .int .i64 x.val, w]), none, none, some (.int .i64 i), none]) ∧ ∀ y ∈ x.kids.take i, y.Shp n) ⟨rfl, ⟨_, rfl, by simp [c1]⟩, by simp⟩ ?_
      rintro J i _ _ hJ hi ⟨rfl, ⟨kd, hkd, rfl⟩, hall⟩
      simp -implicitDefEqProofs (disch := first | omega | (simp only [List.length_set, List.length_replicate, List.length_append, List.length_map, List.length_take, List.length_cons, List.length_nil]; omega)) [wrap64, R1.len]
      refine IteW.mk (fun hlt => ?_) (fun hge => ?_)
      · have hlx : i < x.kids.length := by omega
        obtain ⟨u, hu, Ru⟩ := R1.ld hlx
        change hload _ (some (elp 3 w i)) (some 3) = some u at hu
        simp -implicitDefEqProofs (disch := first | omega | (simp only [List.length_set, List.length_replicate, List.length_append, List.length_map, List.length_take, List.length_cons, List.length_nil]; omega)) [wrap64, R1.X (n := 3) rfl, hu]
        refine (ih (dv := dv - 1) (by omega) (by omega) Ru).go ?_
        rintro _ _ ⟨rfl, rfl⟩
        by_cases q4 : x.kids[i].Shp n
        case neg => simp -implicitDefEqProofs (disch := first | omega | (simp only [List.length_set, List.length_replicate, List.length_append, List.length_map, List.length_take, List.length_cons, List.length_nil]; omega)) [wrap64, q4]; exact RetK.keep (hno fun hh => q4 (hh.kid hlx))
        simp -implicitDefEqProofs (disch := first | omega | (simp only [List.length_set, List.length_replicate, List.length_append, List.length_map, List.length_take, List.length_cons, List.length_nil]; omega)) [wrap64, q4]
        refine hJ _ _ hlx ⟨rfl, ⟨kd, hkd, by simp⟩, fun y hy => ?_⟩
        rw [List.take_add_one, List.getElem?_eq_getElem hlx] at hy
        rcases List.mem_append.1 hy with hy | hy
        · exact hall y hy
        · simp at hy; subst hy; exact q4
      · simp -implicitDefEqProofs (disch := first | omega | (simp only [List.length_set, List.length_replicate, List.length_append, List.length_map, List.length_take, List.length_cons, List.length_nil]; omega)) [wrap64]
        rw [List.take_of_length_le (by omega)] at hall
        refine RetK.keep (hk _ _ ⟨rfl, ?_⟩)
        rw [decide_eq_true (show x.Shp (n + 1) from ⟨⟨by omega, by omega, by omega⟩, hall⟩)]

theorem c_l1Count : ∀ (n : Nat) {x : Exq} {h : Heap} {v : Value} {dv : Int}, dv = n → n ≤ 6 → x.Shp n → Rep h v x → CallE Tryz.prog fn_spec_l1Count [v, .int .i64 dv] h (fun u h' => h' = h ∧ u = .int .i64 x.nod) := by
  intro n
  induction n with
  | zero => intro x h v dv hd _ hs; exact hs.elim
  | succ n ih =>
    intro x h v dv hd hd6 hs R
    obtain ⟨w, rfl, k1, k2, R1⟩ := Rep_Exq.1 R
    have hL := R1.lt
    have hbnd := hs.bnd
    have hpow : 2 ^ (n + 1) ≤ 2 ^ 6 := Nat.pow_le_pow_right (by decide) hd6
    have hnod := x.nod_eq
    refine CallE.gen fun k hk => EN_spec_l1Count rfl ?_
    simp -implicitDefEqProofs (disch := first | omega | (simp only [List.length_set, List.length_replicate, List.length_append, List.length_map, List.length_take, List.length_cons, List.length_nil]; omega)) [wrap64]
    refine wp_count x.kids.length (fun i e h' => h' = h ∧ e = [none, some (.int .i64 dv), some (.agg #[.int .i64 x.kind, .int .i64 x.val, w]), none, some (.int .i64 ((1 + Exq.nods (x.kids.take i) : Nat) : Int)), some (.int .i64 i)]) ⟨rfl, by simp [Exq.nods]⟩ ?_
    rintro J i _ _ hJ hi ⟨rfl, rfl⟩
    by_cases hlt : i < x.kids.length
    · obtain ⟨u, hu, Ru⟩ := R1.ld hlt
      change hload _ (some (elp 3 w i)) (some 3) = some u at hu
      have hn1 := Exq.nods_take hlt
      have hn2 := Exq.nods_le x.kids (i + 1)
      simp -implicitDefEqProofs (disch := first | omega | (simp only [List.length_set, List.length_replicate, List.length_append, List.length_map, List.length_take, List.length_cons, List.length_nil]; omega)) [wrap64, hlt, R1.len, R1.X (n := 3) rfl, hu, show 0 < dv by omega]
      refine (ih (dv := dv - 1) (by omega) (by omega) (hs.kid hlt) Ru).go ?_
      rintro _ _ ⟨rfl, rfl⟩
      simp -implicitDefEqProofs (disch := first | omega | (simp only [List.length_set, List.length_replicate, List.length_append, List.length_map, List.length_take, List.length_cons, List.length_nil]; omega)) [wrap64]
      refine hJ _ _ hlt ⟨rfl, ?_⟩
      simp [hn1]; omega
    · simp -implicitDefEqProofs (disch := first | omega | (simp only [List.length_set, List.length_replicate, List.length_append, List.length_map, List.length_take, List.length_cons, List.length_nil]; omega)) [wrap64, hlt, R1.len]
      rw [List.take_of_length_le (by omega)]
      refine RetK.keep (hk _ _ ⟨rfl, ?_⟩)
      rw [hnod]; push_cast; rfl

theorem c_spec_ExprValid {h : Heap} {v : Value} {x : Exq} (R : Rep h v x) : CallE Tryz.prog fn_spec_ExprValid [v] h (fun u h' => h' = h ∧ u = .bool (decide x.Ok)) := by
  have F := R.aExq
  refine CallE.gen fun k hk => EN_spec_ExprValid rfl ?_
  simp -implicitDefEqProofs (disch := first | omega | (simp only [List.length_set, List.length_replicate, List.length_append, List.length_map, List.length_take, List.length_cons, List.length_nil]; omega)) [wrap64, F]
  refine (c_l1Shape 6 (dv := 6) rfl (by omega) R).go ?_
  rintro _ _ ⟨rfl, rfl⟩
  by_cases q1 : x.Shp 6
  case neg => simp -implicitDefEqProofs (disch := first | omega | (simp only [List.length_set, List.length_replicate, List.length_append, List.length_map, List.length_take, List.length_cons, List.length_nil]; omega)) [wrap64, q1]; exact RetK.keep (hk _ _ ⟨rfl, by rw [decide_eq_false (fun hh : x.Ok => q1 hh.1)]⟩)
  simp -implicitDefEqProofs (disch := first | omega | (simp only [List.length_set, List.length_replicate, List.length_append, List.length_map, List.length_take, List.length_cons, List.length_nil]; omega)) [wrap64, q1, F]
  refine (c_l1Count 6 (dv := 6) rfl (by omega) q1 R).go ?_
  rintro _ _ ⟨rfl, rfl⟩
  simp -implicitDefEqProofs (disch := first | omega | (simp only [List.length_set, List.length_replicate, List.length_append, List.length_map, List.length_take, List.length_cons, List.length_nil]; omega)) [wrap64]
  refine RetK.keep (hk _ _ ⟨rfl, ?_⟩)
  congr 1
  rw [Bool.eq_iff_iff]
  simp [Exq.Ok, q1]
  omega

theorem c_l2None {h : Heap} {v : Value} {x : Exq} (R : Rep h v x) : CallE Tryz.prog fn_spec_l2None [v] h (fun u h' => h' = h ∧ u = .bool (decide (x = Exq.zero))) := by
  obtain ⟨w, rfl, k1, k2, R1⟩ := Rep_Exq.1 R
  have hno : ∀ {P : Prop}, (P → x = Exq.zero → False) → P → x ≠ Exq.zero := fun hh hp he => hh hp he
  refine CallE.gen fun k hk => EN_spec_l2None rfl ?_
  by_cases q1 : x.kind = 0
  case neg => simp -implicitDefEqProofs (disch := first | omega | (simp only [List.length_set, List.length_replicate, List.length_append, List.length_map, List.length_take, List.length_cons, List.length_nil]; omega)) [wrap64, q1]; exact RetK.keep (hk _ _ ⟨rfl, by rw [decide_eq_false (fun hh : x = Exq.zero => q1 (by rw [hh]; rfl))]⟩)
  by_cases q2 : x.val = 0
  case neg => simp -implicitDefEqProofs (disch := first | omega | (simp only [List.length_set, List.length_replicate, List.length_append, List.length_map, List.length_take, List.length_cons, List.length_nil]; omega)) [wrap64, q1, q2]; exact RetK.keep (hk _ _ ⟨rfl, by rw [decide_eq_false (fun hh : x = Exq.zero => q2 (by rw [hh]; rfl))]⟩)
  simp -implicitDefEqProofs (disch := first | omega | (simp only [List.length_set, List.length_replicate, List.length_append, List.length_map, List.length_take, List.length_cons, List.length_nil]; omega)) [wrap64, q1, q2, R1.len]
  refine RetK.keep (hk _ _ ⟨rfl, ?_⟩)
  congr 1
  rw [Bool.eq_iff_iff]
  simp [Exq.ext_iff', q1, q2, Exq.zero]

theorem c_spec_EdgeValid {h : Heap} {v : Value} {e : Ed} (R : Rep h v e) {n : Int} : CallE Tryz.prog fn_spec_EdgeValid [v, .int .i64 n] h (fun u h' => h' = h ∧ u = .bool (decide (e.Ok n))) := by
  obtain ⟨w1, w2, rfl, ok, R1, R2⟩ := Rep_Ed.1 R
  have G1 : Rep h (.agg #[.int .i64 e.guard.kind, .int .i64 e.guard.val, w1]) e.guard := Rep_Exq.2 ⟨w1, rfl, ok.gk, ok.gv, R1⟩
  have G2 : Rep h (.agg #[.int .i64 e.value.kind, .int .i64 e.value.val, w2]) e.value := Rep_Exq.2 ⟨w2, rfl, ok.vk, ok.vv, R2⟩
  refine CallE.gen fun k hk => EN_spec_EdgeValid rfl ?_
  have hno : ¬ e.Ok n → k (.bool false) h := fun hh => hk _ _ ⟨rfl, by rw [decide_eq_false hh]⟩
  have hyes : e.Ok n → k (.bool true) h := fun hh => hk _ _ ⟨rfl, by rw [decide_eq_true hh]⟩
  by_cases a1 : e.frm < 0
  · simp -implicitDefEqProofs (disch := first | omega | (simp only [List.length_set, List.length_replicate, List.length_append, List.length_map, List.length_take, List.length_cons, List.length_nil]; omega)) [wrap64, a1, Ed.cs]; exact RetK.keep (hno fun hh => by have := hh.f0; omega)
  by_cases a2 : n ≤ e.frm
  · simp -implicitDefEqProofs (disch := first | omega | (simp only [List.length_set, List.length_replicate, List.length_append, List.length_map, List.length_take, List.length_cons, List.length_nil]; omega)) [wrap64, a1, a2, Ed.cs]; exact RetK.keep (hno fun hh => by have := hh.f1; omega)
  by_cases a3 : e.to < 0
  · simp -implicitDefEqProofs (disch := first | omega | (simp only [List.length_set, List.length_replicate, List.length_append, List.length_map, List.length_take, List.length_cons, List.length_nil]; omega)) [wrap64, a1, a2, a3, Ed.cs]; exact RetK.keep (hno fun hh => by have := hh.t0; omega)
  by_cases a4 : n ≤ e.to
  · simp -implicitDefEqProofs (disch := first | omega | (simp only [List.length_set, List.length_replicate, List.length_append, List.length_map, List.length_take, List.length_cons, List.length_nil]; omega)) [wrap64, a1, a2, a3, a4, Ed.cs]; exact RetK.keep (hno fun hh => by have := hh.t1; omega)
  by_cases a5 : 4 < n
  · simp -implicitDefEqProofs (disch := first | omega | (simp only [List.length_set, List.length_replicate, List.length_append, List.length_map, List.length_take, List.length_cons, List.length_nil]; omega)) [wrap64, a1, a2, a3, a4, a5, Ed.cs]; exact RetK.keep (hno fun hh => by have := hh.n4; omega)
  simp -implicitDefEqProofs (disch := first | omega | (simp only [List.length_set, List.length_replicate, List.length_append, List.length_map, List.length_take, List.length_cons, List.length_nil]; omega)) [wrap64, a1, a2, a3, a4, a5, Ed.cs]
  refine (c_spec_ExprValid G1).go ?_
  rintro _ _ ⟨rfl, rfl⟩
  by_cases q4 : e.guard.Ok
  case neg => simp -implicitDefEqProofs (disch := first | omega | (simp only [List.length_set, List.length_replicate, List.length_append, List.length_map, List.length_take, List.length_cons, List.length_nil]; omega)) [wrap64, q4]; exact RetK.keep (hno fun hh => q4 hh.gd)
  by_cases b1 : e.sync < -2
  · simp -implicitDefEqProofs (disch := first | omega | (simp only [List.length_set, List.length_replicate, List.length_append, List.length_map, List.length_take, List.length_cons, List.length_nil]; omega)) [wrap64, q4, b1, Ed.cs]; exact RetK.keep (hno fun hh => by have := hh.s0; omega)
  by_cases b2 : 2 < e.sync
  · simp -implicitDefEqProofs (disch := first | omega | (simp only [List.length_set, List.length_replicate, List.length_append, List.length_map, List.length_take, List.length_cons, List.length_nil]; omega)) [wrap64, q4, b1, b2, Ed.cs]; exact RetK.keep (hno fun hh => by have := hh.s1; omega)
  by_cases b3 : e.var < -1
  · simp -implicitDefEqProofs (disch := first | omega | (simp only [List.length_set, List.length_replicate, List.length_append, List.length_map, List.length_take, List.length_cons, List.length_nil]; omega)) [wrap64, q4, b1, b2, b3, Ed.cs]; exact RetK.keep (hno fun hh => by have := hh.v0; omega)
  by_cases b4 : 3 ≤ e.var
  · simp -implicitDefEqProofs (disch := first | omega | (simp only [List.length_set, List.length_replicate, List.length_append, List.length_map, List.length_take, List.length_cons, List.length_nil]; omega)) [wrap64, q4, b1, b2, b3, b4, Ed.cs]; exact RetK.keep (hno fun hh => by have := hh.v1; omega)
  by_cases q6 : e.var < 0
  · simp -implicitDefEqProofs (disch := first | omega | (simp only [List.length_set, List.length_replicate, List.length_append, List.length_map, List.length_take, List.length_cons, List.length_nil]; omega)) [wrap64, q4, b1, b2, b3, b4, q6, Ed.cs]
    refine (c_l2None G2).go ?_
    rintro _ _ ⟨rfl, rfl⟩
    by_cases q7 : e.value = Exq.zero
    case neg => simp -implicitDefEqProofs (disch := first | omega | (simp only [List.length_set, List.length_replicate, List.length_append, List.length_map, List.length_take, List.length_cons, List.length_nil]; omega)) [wrap64, q7, q6, Ed.cs, show ¬ 0 ≤ e.var by omega]; exact RetK.keep (hno fun hh => hh.vl.elim (fun h3 => by omega) (fun h3 => q7 h3.2))
    simp -implicitDefEqProofs (disch := first | omega | (simp only [List.length_set, List.length_replicate, List.length_append, List.length_map, List.length_take, List.length_cons, List.length_nil]; omega)) [wrap64, q7]
    exact RetK.keep (hyes ⟨by omega, by omega, by omega, by omega, by omega, by omega, q4, by omega, by omega, .inr ⟨q6, q7⟩, by omega, by omega⟩)
  · simp -implicitDefEqProofs (disch := first | omega | (simp only [List.length_set, List.length_replicate, List.length_append, List.length_map, List.length_take, List.length_cons, List.length_nil]; omega)) [wrap64, q4, b1, b2, b3, b4, q6, Ed.cs, show 0 ≤ e.var by omega]
    refine (c_spec_ExprValid G2).go ?_
    rintro _ _ ⟨rfl, rfl⟩
    by_cases q7 : e.value.Ok
    case neg => simp -implicitDefEqProofs (disch := first | omega | (simp only [List.length_set, List.length_replicate, List.length_append, List.length_map, List.length_take, List.length_cons, List.length_nil]; omega)) [wrap64, q7]; exact RetK.keep (hno fun hh => hh.vl.elim (fun h3 => q7 h3.2) (fun h3 => by omega))
    simp -implicitDefEqProofs (disch := first | omega | (simp only [List.length_set, List.length_replicate, List.length_append, List.length_map, List.length_take, List.length_cons, List.length_nil]; omega)) [wrap64, q7]
    exact RetK.keep (hyes ⟨by omega, by omega, by omega, by omega, by omega, by omega, q4, by omega, by omega, .inl ⟨by omega, q7⟩, by omega, by omega⟩)

theorem c_l1Vals {h : Heap} {w : Value} {W : List Int} (Rw : Rep h w W) : CallE Tryz.prog fn_spec_l1Vals [w] h (fun u h' => h' = h ∧ u = .bool (decide (VOk W))) := by
  have hL := Rw.lt
  refine CallE.gen fun k hk => EN_spec_l1Vals rfl ?_
  simp -implicitDefEqProofs (disch := first | omega | (simp only [List.length_set, List.length_replicate, List.length_append, List.length_map, List.length_take, List.length_cons, List.length_nil]; omega)) [wrap64]
  refine wp_count W.length (fun i e h' => e = [some w, none, some (.int .i64 i)] ∧ h' = h ∧ ∀ (j : Nat) (hj : j < W.length), j < i → 0 ≤ W[j] ∧ W[j] ≤ 3) ⟨rfl, rfl, fun j _ hj => absurd hj (Nat.not_lt_zero j)⟩ ?_
  rintro J i _ h1 hJ hi ⟨rfl, rfl, hn⟩
  simp -implicitDefEqProofs (disch := first | omega | (simp only [List.length_set, List.length_replicate, List.length_append, List.length_map, List.length_take, List.length_cons, List.length_nil]; omega)) [wrap64, Rw.len]
  refine IteW.mk (fun hlt => ?_) (fun hge => ?_)
  · have hlx : i < W.length := by omega
    have hno : ¬ (0 ≤ W[i] ∧ W[i] ≤ 3) → k (.bool false) h1 := fun hx => hk _ _ ⟨rfl, by rw [decide_eq_false (fun hh : VOk W => hx (hh.at hlx))]⟩
    by_cases h1 : W[i] < 0
    · simp -implicitDefEqProofs (disch := first | omega | (simp only [List.length_set, List.length_replicate, List.length_append, List.length_map, List.length_take, List.length_cons, List.length_nil]; omega)) [wrap64, Rw.I, h1]
      exact RetK.keep (hno (by omega))
    by_cases h2 : 3 < W[i]
    · simp -implicitDefEqProofs (disch := first | omega | (simp only [List.length_set, List.length_replicate, List.length_append, List.length_map, List.length_take, List.length_cons, List.length_nil]; omega)) [wrap64, Rw.I, h1, h2]
      exact RetK.keep (hno (by omega))
    simp -implicitDefEqProofs (disch := first | omega | (simp only [List.length_set, List.length_replicate, List.length_append, List.length_map, List.length_take, List.length_cons, List.length_nil]; omega)) [wrap64, Rw.I, h1, h2]
    refine hJ _ _ hlx ⟨rfl, rfl, fun j hj hji => ?_⟩
    by_cases hji2 : j = i
    · subst hji2; omega
    · exact hn j hj (by omega)
  · simp -implicitDefEqProofs (disch := first | omega | (simp only [List.length_set, List.length_replicate, List.length_append, List.length_map, List.length_take, List.length_cons, List.length_nil]; omega)) [wrap64, Rw.len]
    refine RetK.keep (hk _ _ ⟨rfl, ?_⟩)
    congr 1
    rw [Bool.eq_iff_iff, decide_eq_true_iff, decide_eq_true_iff]
    refine ⟨fun h3 => ⟨by omega, fun x hx => ?_⟩, fun h3 => by have := h3.len; omega⟩
    obtain ⟨j, hj, rfl⟩ := List.mem_iff_getElem.1 hx
    exact hn j hj (by omega)

theorem c_l2Process {h : Heap} {v : Value} {p : Pr} (R : Rep h v p) : CallE Tryz.prog fn_spec_l2Process [v] h (fun u h' => h' = h ∧ u = .bool (decide p.Ok)) := by
  obtain ⟨w, rfl, k1, R1⟩ := Rep_Pr.1 R
  have hL := R1.lt
  refine CallE.gen fun k hk => EN_spec_l2Process rfl ?_
  simp -implicitDefEqProofs (disch := first | omega | (simp only [List.length_set, List.length_replicate, List.length_append, List.length_map, List.length_take, List.length_cons, List.length_nil]; omega)) [wrap64]
  refine wp_count p.edges.length (fun i e h' => e = [none, some (.agg #[.int .i64 p.locs, w]), none, some (.int .i64 i)] ∧ h' = h ∧ ∀ x ∈ p.edges.take i, x.Ok p.locs) ⟨by simp, rfl, by simp⟩ ?_
  rintro J i _ h1 hJ hi ⟨rfl, rfl, hall⟩
  simp -implicitDefEqProofs (disch := first | omega | (simp only [List.length_set, List.length_replicate, List.length_append, List.length_map, List.length_take, List.length_cons, List.length_nil]; omega)) [wrap64, R1.len]
  refine IteW.mk (fun hlt => ?_) (fun hge => ?_)
  · have hlx : i < p.edges.length := by omega
    obtain ⟨u, hu, Ru⟩ := R1.ld hlx
    change hload _ (some (elp 10 w i)) (some 10) = some u at hu
    simp -implicitDefEqProofs (disch := first | omega | (simp only [List.length_set, List.length_replicate, List.length_append, List.length_map, List.length_take, List.length_cons, List.length_nil]; omega)) [wrap64, R1.X (n := 10) rfl, hu]
    refine (c_spec_EdgeValid Ru).go ?_
    rintro _ _ ⟨rfl, rfl⟩
    by_cases q : p.edges[i].Ok p.locs
    case neg => simp -implicitDefEqProofs (disch := first | omega | (simp only [List.length_set, List.length_replicate, List.length_append, List.length_map, List.length_take, List.length_cons, List.length_nil]; omega)) [wrap64, q]; exact RetK.keep (hk _ _ ⟨rfl, by rw [decide_eq_false (fun hh : p.Ok => q (hh.at hlx))]⟩)
    simp -implicitDefEqProofs (disch := first | omega | (simp only [List.length_set, List.length_replicate, List.length_append, List.length_map, List.length_take, List.length_cons, List.length_nil]; omega)) [wrap64, q]
    refine hJ _ _ hlx ⟨by simp, rfl, fun x hx => ?_⟩
    rw [List.take_add_one, List.getElem?_eq_getElem hlx] at hx
    rcases List.mem_append.1 hx with hx | hx
    · exact hall x hx
    · simp at hx; subst hx; exact q
  · simp -implicitDefEqProofs (disch := first | omega | (simp only [List.length_set, List.length_replicate, List.length_append, List.length_map, List.length_take, List.length_cons, List.length_nil]; omega)) [wrap64]
    rw [List.take_of_length_le (by omega)] at hall
    have hno : ¬ p.Ok → k (.bool false) h1 := fun hx => hk _ _ ⟨rfl, by rw [decide_eq_false hx]⟩
    by_cases a1 : 1 ≤ p.locs
    case neg => simp -implicitDefEqProofs (disch := first | omega | (simp only [List.length_set, List.length_replicate, List.length_append, List.length_map, List.length_take, List.length_cons, List.length_nil]; omega)) [wrap64, a1]; exact RetK.keep (hno fun hh => a1 hh.n1)
    by_cases a2 : p.locs ≤ 4
    case neg => simp -implicitDefEqProofs (disch := first | omega | (simp only [List.length_set, List.length_replicate, List.length_append, List.length_map, List.length_take, List.length_cons, List.length_nil]; omega)) [wrap64, a1, a2]; exact RetK.keep (hno fun hh => a2 hh.n4)
    simp -implicitDefEqProofs (disch := first | omega | (simp only [List.length_set, List.length_replicate, List.length_append, List.length_map, List.length_take, List.length_cons, List.length_nil]; omega)) [wrap64, a1, a2, R1.len]
    refine RetK.keep (hk _ _ ⟨rfl, ?_⟩)
    congr 1
    rw [Bool.eq_iff_iff, decide_eq_true_iff, decide_eq_true_iff]
    exact ⟨fun h3 => ⟨a1, a2, by omega, hall⟩, fun h3 => by have := h3.el; omega⟩

theorem c_spec_SystemValid {h : Heap} {v : Value} {s : Sy} (R : Rep h v s) : CallE Tryz.prog fn_spec_SystemValid [v] h (fun u h' => h' = h ∧ u = .bool (decide s.Ok)) := by
  obtain ⟨v1, v2, rfl, R0, R1⟩ := Rep_Sy.1 R
  have hL := R1.lt
  refine CallE.gen fun k hk => EN_spec_SystemValid rfl ?_
  simp -implicitDefEqProofs (disch := first | omega | (simp only [List.length_set, List.length_replicate, List.length_append, List.length_map, List.length_take, List.length_cons, List.length_nil]; omega)) [wrap64]
  refine wp_count s.procs.length (fun i e h' => e = [none, some (.agg #[v1, v2]), none, some (.int .i64 i)] ∧ h' = h ∧ ∀ x ∈ s.procs.take i, x.Ok) ⟨by simp, rfl, by simp⟩ ?_
  rintro J i _ h1 hJ hi ⟨rfl, rfl, hall⟩
  simp -implicitDefEqProofs (disch := first | omega | (simp only [List.length_set, List.length_replicate, List.length_append, List.length_map, List.length_take, List.length_cons, List.length_nil]; omega)) [wrap64, R1.len]
  refine IteW.mk (fun hlt => ?_) (fun hge => ?_)
  · have hlx : i < s.procs.length := by omega
    obtain ⟨u, hu, Ru⟩ := R1.ld hlx
    change hload _ (some (elp 2 v2 i)) (some 2) = some u at hu
    simp -implicitDefEqProofs (disch := first | omega | (simp only [List.length_set, List.length_replicate, List.length_append, List.length_map, List.length_take, List.length_cons, List.length_nil]; omega)) [wrap64, R1.X (n := 2) rfl, hu]
    refine (c_l2Process Ru).go ?_
    rintro _ _ ⟨rfl, rfl⟩
    by_cases q : s.procs[i].Ok
    case neg => simp -implicitDefEqProofs (disch := first | omega | (simp only [List.length_set, List.length_replicate, List.length_append, List.length_map, List.length_take, List.length_cons, List.length_nil]; omega)) [wrap64, q]; exact RetK.keep (hk _ _ ⟨rfl, by rw [decide_eq_false (fun hh : s.Ok => q (hh.at hlx))]⟩)
    simp -implicitDefEqProofs (disch := first | omega | (simp only [List.length_set, List.length_replicate, List.length_append, List.length_map, List.length_take, List.length_cons, List.length_nil]; omega)) [wrap64, q]
    refine hJ _ _ hlx ⟨by simp, rfl, fun x hx => ?_⟩
    rw [List.take_add_one, List.getElem?_eq_getElem hlx] at hx
    rcases List.mem_append.1 hx with hx | hx
    · exact hall x hx
    · simp at hx; subst hx; exact q
  · simp -implicitDefEqProofs (disch := first | omega | (simp only [List.length_set, List.length_replicate, List.length_append, List.length_map, List.length_take, List.length_cons, List.length_nil]; omega)) [wrap64]
    rw [List.take_of_length_le (by omega)] at hall
    have hno : ¬ s.Ok → k (.bool false) h1 := fun hx => hk _ _ ⟨rfl, by rw [decide_eq_false hx]⟩
    refine (c_l1Vals R0).go ?_
    rintro _ _ ⟨rfl, rfl⟩
    by_cases a0 : VOk s.init
    case neg => simp -implicitDefEqProofs (disch := first | omega | (simp only [List.length_set, List.length_replicate, List.length_append, List.length_map, List.length_take, List.length_cons, List.length_nil]; omega)) [wrap64, a0]; exact RetK.keep (hno fun hh => a0 hh.vs)
    by_cases a1 : (1 : Int) ≤ s.procs.length
    case neg => simp -implicitDefEqProofs (disch := first | omega | (simp only [List.length_set, List.length_replicate, List.length_append, List.length_map, List.length_take, List.length_cons, List.length_nil]; omega)) [wrap64, a0, a1, R1.len]; exact RetK.keep (hno fun hh => a1 (by have := hh.p1; omega))
    simp -implicitDefEqProofs (disch := first | omega | (simp only [List.length_set, List.length_replicate, List.length_append, List.length_map, List.length_take, List.length_cons, List.length_nil]; omega)) [wrap64, a0, a1, R1.len]
    refine RetK.keep (hk _ _ ⟨rfl, ?_⟩)
    congr 1
    rw [Bool.eq_iff_iff, decide_eq_true_iff, decide_eq_true_iff]
    exact ⟨fun h3 => ⟨a0, by omega, by omega, hall⟩, fun h3 => by have := h3.p3; omega⟩

end Go.Proofs.YtonjglbachhdcaaGreat

/-
  What expressions are worth, by the program and by the reference. Printed by a program.
-/
namespace Go.Proofs.YtonjglbachhdcaaGreat
open Go
set_option linter.all false
set_option linter.unusedVariables false
set_option linter.unusedSimpArgs false
set_option linter.defProp false
set_option maxRecDepth 1000000

theorem c_truth {h : Heap} {b : Bool} : CallE Tryz.prog fn_impl_truth [.bool b] h (fun u h' => h' = h ∧ u = .int .i64 (if b then 1 else 0)) := by
  refine CallE.gen fun k hk => EN_impl_truth rfl ?_
  cases b
  · simp -implicitDefEqProofs (disch := first | omega | (simp only [List.length_set, List.length_replicate, List.length_append, List.length_map, List.length_take, List.length_cons, List.length_nil]; omega)) [wrap64]
    exact RetK.keep (hk _ _ ⟨rfl, rfl⟩)
  · simp -implicitDefEqProofs (disch := first | omega | (simp only [List.length_set, List.length_replicate, List.length_append, List.length_map, List.length_take, List.length_cons, List.length_nil]; omega)) [wrap64]
    exact RetK.keep (hk _ _ ⟨rfl, rfl⟩)
theorem c_l1Bool {h : Heap} {b : Bool} : CallE Tryz.prog fn_spec_l1Bool [.bool b] h (fun u h' => h' = h ∧ u = .int .i64 (if b then 1 else 0)) := by
  refine CallE.gen fun k hk => EN_spec_l1Bool rfl ?_
  cases b
  · simp -implicitDefEqProofs (disch := first | omega | (simp only [List.length_set, List.length_replicate, List.length_append, List.length_map, List.length_take, List.length_cons, List.length_nil]; omega)) [wrap64]
    exact RetK.keep (hk _ _ ⟨rfl, rfl⟩)
  · simp -implicitDefEqProofs (disch := first | omega | (simp only [List.length_set, List.length_replicate, List.length_append, List.length_map, List.length_take, List.length_cons, List.length_nil]; omega)) [wrap64]
    exact RetK.keep (hk _ _ ⟨rfl, rfl⟩)

theorem c_eval : ∀ (n : Nat) {x : Exq} {h : Heap} {v w : Value} {vs : List Int}, VOk vs → x.Shp n → Rep h v x → Rep h w vs → CallE Tryz.prog fn_impl_Expr_eval [v, w] h (fun u h' => h' = h ∧ u = .int .i64 (x.ev vs)) := by
  intro n
  induction n with
  | zero => intro x h v w vs _ hs; exact hs.elim
  | succ n ih0 =>
  intro x h v w vs hv hs R Rw
  have ih : ∀ {y : Exq} {h : Heap} {u : Value}, y.Shp n → Rep h u y → Rep h w vs → CallE Tryz.prog fn_impl_Expr_eval [u, w] h (fun u h' => h' = h ∧ u = .int .i64 (y.ev vs)) := fun a b c => ih0 hv a b c
  obtain ⟨wk, rfl, k1, k2, R1⟩ := Rep_Exq.1 R
  have hL := R1.lt
  have hev := x.ev_eq (vs := vs)
  have har := hs.1.ar
  have hlo := hs.1.lo
  have hhi := hs.1.hi
  have hkd := hs.1.kind
  have hvl := hv.len
  refine CallE.gen fun k hk => EN_impl_Expr_eval rfl ?_
  by_cases c1 : x.kind = 1
  · simp -implicitDefEqProofs (disch := first | omega | (simp only [List.length_set, List.length_replicate, List.length_append, List.length_map, List.length_take, List.length_cons, List.length_nil]; omega)) [wrap64, c1]
    exact RetK.keep (hk _ _ ⟨rfl, by rw [hev]; simp [Exq.evk, c1]⟩)
  by_cases c2 : x.kind = 2
  · rw [c2] at hhi
    simp [Exq.most] at hhi
    obtain ⟨q, hq⟩ : ∃ q : Nat, x.val = q := ⟨x.val.toNat, by omega⟩
    simp -implicitDefEqProofs (disch := first | omega | (simp only [List.length_set, List.length_replicate, List.length_append, List.length_map, List.length_take, List.length_cons, List.length_nil]; omega)) [wrap64, c2, hq, Rw.I]
    refine RetK.keep (hk _ _ ⟨rfl, ?_⟩)
    have hg : vs.getD q 0 = vs[q]'(by omega) := by rw [List.getD_eq_getElem?_getD, List.getElem?_eq_getElem (by omega)]; rfl
    rw [hev, ← hg]
    simp [Exq.evk, c2, hq]
  by_cases c3 : x.kind = 3
  · have hl : x.kids.length = 1 := by
      rw [c3] at har; simp [Exq.arity] at har; omega
    obtain ⟨u0, hu0, Ru0⟩ := R1.ld (i := 0) (by omega)
    change hload _ (some (elp 3 wk 0)) (some 3) = some u0 at hu0
    simp -implicitDefEqProofs (disch := first | omega | (simp only [List.length_set, List.length_replicate, List.length_append, List.length_map, List.length_take, List.length_cons, List.length_nil]; omega)) [wrap64, c1, c2, c3, R1.X (n := 3) rfl, hu0]
    refine (ih (hs.kid (i := 0) (by omega)) Ru0 Rw).go ?_
    rintro _ h ⟨rfl, rfl⟩
    simp -implicitDefEqProofs (disch := first | omega | (simp only [List.length_set, List.length_replicate, List.length_append, List.length_map, List.length_take, List.length_cons, List.length_nil]; omega)) [wrap64, c3]
    refine c_truth.go ?_
    rintro _ h ⟨rfl, rfl⟩
    simp -implicitDefEqProofs (disch := first | omega | (simp only [List.length_set, List.length_replicate, List.length_append, List.length_map, List.length_take, List.length_cons, List.length_nil]; omega)) [wrap64]
    refine RetK.keep (hk _ _ ⟨rfl, ?_⟩)
    rw [hev, Exq.kev_at (by omega)]
    simp [Exq.evk, c3, Exq.tr]
  have hl : x.kids.length = 2 := by
    unfold Exq.arity at har
    rw [if_neg (by omega), if_neg c3, if_pos (by omega)] at har; omega
  obtain ⟨u0, hu0, Ru0⟩ := R1.ld (i := 0) (by omega)
  change hload _ (some (elp 3 wk 0)) (some 3) = some u0 at hu0
  obtain ⟨u1, hu1, Ru1⟩ := R1.ld (i := 1) (by omega)
  change hload _ (some (elp 3 wk 1)) (some 3) = some u1 at hu1
  have b0 := Exq.ev_bnd hv (hs.kid (i := 0) (by omega))
  have b1 := Exq.ev_bnd hv (hs.kid (i := 1) (by omega))
  rw [Exq.kev_at (by omega), Exq.kev_at (by omega)] at hev
  simp -implicitDefEqProofs (disch := first | omega | (simp only [List.length_set, List.length_replicate, List.length_append, List.length_map, List.length_take, List.length_cons, List.length_nil]; omega)) [wrap64, c1, c2, c3, R1.X (n := 3) rfl, hu0]
  refine (ih (hs.kid (i := 0) (by omega)) Ru0 Rw).go ?_
  rintro _ h ⟨rfl, rfl⟩
  simp -implicitDefEqProofs (disch := first | omega | (simp only [List.length_set, List.length_replicate, List.length_append, List.length_map, List.length_take, List.length_cons, List.length_nil]; omega)) [wrap64, c3, R1.X (n := 3) rfl, hu1]
  refine (ih (hs.kid (i := 1) (by omega)) Ru1 Rw).go ?_
  rintro _ h ⟨rfl, rfl⟩
  obtain ⟨a, ha⟩ : ∃ a, a = x.kids[0].ev vs := ⟨_, rfl⟩
  obtain ⟨b, hb⟩ : ∃ b, b = x.kids[1].ev vs := ⟨_, rfl⟩
  rw [← ha] at b0 hev ⊢
  rw [← hb] at b1 hev ⊢
  by_cases c4 : x.kind = 4
  · by_cases d1 : a = 0
    all_goals
      simp -implicitDefEqProofs (disch := first | omega | (simp only [List.length_set, List.length_replicate, List.length_append, List.length_map, List.length_take, List.length_cons, List.length_nil]; omega)) [wrap64, c4, d1]
      refine c_truth.go ?_
      rintro _ h ⟨rfl, rfl⟩
      simp -implicitDefEqProofs (disch := first | omega | (simp only [List.length_set, List.length_replicate, List.length_append, List.length_map, List.length_take, List.length_cons, List.length_nil]; omega)) [wrap64]
      exact RetK.keep (hk _ _ ⟨rfl, by rw [hev]; simp [Exq.evk, c4, d1, Exq.tr]⟩)
  by_cases c5 : x.kind = 5
  · by_cases d1 : a = 0
    all_goals
      simp -implicitDefEqProofs (disch := first | omega | (simp only [List.length_set, List.length_replicate, List.length_append, List.length_map, List.length_take, List.length_cons, List.length_nil]; omega)) [wrap64, c5, d1]
      refine c_truth.go ?_
      rintro _ h ⟨rfl, rfl⟩
      simp -implicitDefEqProofs (disch := first | omega | (simp only [List.length_set, List.length_replicate, List.length_append, List.length_map, List.length_take, List.length_cons, List.length_nil]; omega)) [wrap64]
      exact RetK.keep (hk _ _ ⟨rfl, by rw [hev]; simp [Exq.evk, c5, d1, Exq.tr]⟩)
  by_cases c6 : x.kind = 6
  · simp -implicitDefEqProofs (disch := first | omega | (simp only [List.length_set, List.length_replicate, List.length_append, List.length_map, List.length_take, List.length_cons, List.length_nil]; omega)) [wrap64, c6]
    refine c_truth.go ?_
    rintro _ h ⟨rfl, rfl⟩
    simp -implicitDefEqProofs (disch := first | omega | (simp only [List.length_set, List.length_replicate, List.length_append, List.length_map, List.length_take, List.length_cons, List.length_nil]; omega)) [wrap64]
    exact RetK.keep (hk _ _ ⟨rfl, by rw [hev]; simp [Exq.evk, c6, Exq.tr]⟩)
  by_cases c7 : x.kind = 7
  · simp -implicitDefEqProofs (disch := first | omega | (simp only [List.length_set, List.length_replicate, List.length_append, List.length_map, List.length_take, List.length_cons, List.length_nil]; omega)) [wrap64, c7]
    refine c_truth.go ?_
    rintro _ h ⟨rfl, rfl⟩
    simp -implicitDefEqProofs (disch := first | omega | (simp only [List.length_set, List.length_replicate, List.length_append, List.length_map, List.length_take, List.length_cons, List.length_nil]; omega)) [wrap64]
    exact RetK.keep (hk _ _ ⟨rfl, by rw [hev]; simp [Exq.evk, c7, Exq.tr]⟩)
  by_cases c8 : x.kind = 8
  · simp -implicitDefEqProofs (disch := first | omega | (simp only [List.length_set, List.length_replicate, List.length_append, List.length_map, List.length_take, List.length_cons, List.length_nil]; omega)) [wrap64, c8]
    exact RetK.keep (hk _ _ ⟨rfl, by rw [hev]; simp [Exq.evk, c8]⟩)
  simp -implicitDefEqProofs (disch := first | omega | (simp only [List.length_set, List.length_replicate, List.length_append, List.length_map, List.length_take, List.length_cons, List.length_nil]; omega)) [wrap64, c4, c5, c6, c7, c8]
  refine RetK.keep (hk _ _ ⟨rfl, ?_⟩)
  rw [hev]
  simp only [Exq.evk, c1, c2, c3, c4, c5, c6, c7, c8, if_false]
  congr 2
  omega

theorem c_l1Eval : ∀ (n : Nat) {x : Exq} {h : Heap} {v w : Value} {vs : List Int}, VOk vs → x.Shp n → Rep h v x → Rep h w vs → CallE Tryz.prog fn_spec_l1Eval [v, w] h (fun u h' => h' = h ∧ u = .int .i64 (x.ev vs)) := by
  intro n
  induction n with
  | zero => intro x h v w vs _ hs; exact hs.elim
  | succ n ih0 =>
  intro x h v w vs hv hs R Rw
  have ih : ∀ {y : Exq} {h : Heap} {u : Value}, y.Shp n → Rep h u y → Rep h w vs → CallE Tryz.prog fn_spec_l1Eval [u, w] h (fun u h' => h' = h ∧ u = .int .i64 (y.ev vs)) := fun a b c => ih0 hv a b c
  obtain ⟨wk, rfl, k1, k2, R1⟩ := Rep_Exq.1 R
  have hL := R1.lt
  have hev := x.ev_eq (vs := vs)
  have har := hs.1.ar
  have hlo := hs.1.lo
  have hhi := hs.1.hi
  have hkd := hs.1.kind
  have hvl := hv.len
  refine CallE.gen fun k hk => EN_spec_l1Eval rfl ?_
  by_cases c1 : x.kind = 1
  · simp -implicitDefEqProofs (disch := first | omega | (simp only [List.length_set, List.length_replicate, List.length_append, List.length_map, List.length_take, List.length_cons, List.length_nil]; omega)) [wrap64, c1]
    exact RetK.keep (hk _ _ ⟨rfl, by rw [hev]; simp [Exq.evk, c1]⟩)
  by_cases c2 : x.kind = 2
  · rw [c2] at hhi
    simp [Exq.most] at hhi
    obtain ⟨q, hq⟩ : ∃ q : Nat, x.val = q := ⟨x.val.toNat, by omega⟩
    simp -implicitDefEqProofs (disch := first | omega | (simp only [List.length_set, List.length_replicate, List.length_append, List.length_map, List.length_take, List.length_cons, List.length_nil]; omega)) [wrap64, c2, hq, Rw.I]
    refine RetK.keep (hk _ _ ⟨rfl, ?_⟩)
    have hg : vs.getD q 0 = vs[q]'(by omega) := by rw [List.getD_eq_getElem?_getD, List.getElem?_eq_getElem (by omega)]; rfl
    rw [hev, ← hg]
    simp [Exq.evk, c2, hq]
  by_cases c3 : x.kind = 3
  · have hl : x.kids.length = 1 := by
      rw [c3] at har; simp [Exq.arity] at har; omega
    obtain ⟨u0, hu0, Ru0⟩ := R1.ld (i := 0) (by omega)
    change hload _ (some (elp 3 wk 0)) (some 3) = some u0 at hu0
    simp -implicitDefEqProofs (disch := first | omega | (simp only [List.length_set, List.length_replicate, List.length_append, List.length_map, List.length_take, List.length_cons, List.length_nil]; omega)) [wrap64, c1, c2, c3, R1.X (n := 3) rfl, hu0]
    refine (ih (hs.kid (i := 0) (by omega)) Ru0 Rw).go ?_
    rintro _ h ⟨rfl, rfl⟩
    simp -implicitDefEqProofs (disch := first | omega | (simp only [List.length_set, List.length_replicate, List.length_append, List.length_map, List.length_take, List.length_cons, List.length_nil]; omega)) [wrap64, c3]
    refine c_l1Bool.go ?_
    rintro _ h ⟨rfl, rfl⟩
    simp -implicitDefEqProofs (disch := first | omega | (simp only [List.length_set, List.length_replicate, List.length_append, List.length_map, List.length_take, List.length_cons, List.length_nil]; omega)) [wrap64]
    refine RetK.keep (hk _ _ ⟨rfl, ?_⟩)
    rw [hev, Exq.kev_at (by omega)]
    simp [Exq.evk, c3, Exq.tr]
  have hl : x.kids.length = 2 := by
    unfold Exq.arity at har
    rw [if_neg (by omega), if_neg c3, if_pos (by omega)] at har; omega
  obtain ⟨u0, hu0, Ru0⟩ := R1.ld (i := 0) (by omega)
  change hload _ (some (elp 3 wk 0)) (some 3) = some u0 at hu0
  obtain ⟨u1, hu1, Ru1⟩ := R1.ld (i := 1) (by omega)
  change hload _ (some (elp 3 wk 1)) (some 3) = some u1 at hu1
  have b0 := Exq.ev_bnd hv (hs.kid (i := 0) (by omega))
  have b1 := Exq.ev_bnd hv (hs.kid (i := 1) (by omega))
  rw [Exq.kev_at (by omega), Exq.kev_at (by omega)] at hev
  simp -implicitDefEqProofs (disch := first | omega | (simp only [List.length_set, List.length_replicate, List.length_append, List.length_map, List.length_take, List.length_cons, List.length_nil]; omega)) [wrap64, c1, c2, c3, R1.X (n := 3) rfl, hu0]
  refine (ih (hs.kid (i := 0) (by omega)) Ru0 Rw).go ?_
  rintro _ h ⟨rfl, rfl⟩
  simp -implicitDefEqProofs (disch := first | omega | (simp only [List.length_set, List.length_replicate, List.length_append, List.length_map, List.length_take, List.length_cons, List.length_nil]; omega)) [wrap64, c3, R1.X (n := 3) rfl, hu1]
  refine (ih (hs.kid (i := 1) (by omega)) Ru1 Rw).go ?_
  rintro _ h ⟨rfl, rfl⟩
  obtain ⟨a, ha⟩ : ∃ a, a = x.kids[0].ev vs := ⟨_, rfl⟩
  obtain ⟨b, hb⟩ : ∃ b, b = x.kids[1].ev vs := ⟨_, rfl⟩
  rw [← ha] at b0 hev ⊢
  rw [← hb] at b1 hev ⊢
  by_cases c4 : x.kind = 4
  · by_cases d1 : a = 0
    all_goals
      simp -implicitDefEqProofs (disch := first | omega | (simp only [List.length_set, List.length_replicate, List.length_append, List.length_map, List.length_take, List.length_cons, List.length_nil]; omega)) [wrap64, c4, d1]
      refine c_l1Bool.go ?_
      rintro _ h ⟨rfl, rfl⟩
      simp -implicitDefEqProofs (disch := first | omega | (simp only [List.length_set, List.length_replicate, List.length_append, List.length_map, List.length_take, List.length_cons, List.length_nil]; omega)) [wrap64]
      exact RetK.keep (hk _ _ ⟨rfl, by rw [hev]; simp [Exq.evk, c4, d1, Exq.tr]⟩)
  by_cases c5 : x.kind = 5
  · by_cases d1 : a = 0
    all_goals
      simp -implicitDefEqProofs (disch := first | omega | (simp only [List.length_set, List.length_replicate, List.length_append, List.length_map, List.length_take, List.length_cons, List.length_nil]; omega)) [wrap64, c5, d1]
      refine c_l1Bool.go ?_
      rintro _ h ⟨rfl, rfl⟩
      simp -implicitDefEqProofs (disch := first | omega | (simp only [List.length_set, List.length_replicate, List.length_append, List.length_map, List.length_take, List.length_cons, List.length_nil]; omega)) [wrap64]
      exact RetK.keep (hk _ _ ⟨rfl, by rw [hev]; simp [Exq.evk, c5, d1, Exq.tr]⟩)
  by_cases c6 : x.kind = 6
  · simp -implicitDefEqProofs (disch := first | omega | (simp only [List.length_set, List.length_replicate, List.length_append, List.length_map, List.length_take, List.length_cons, List.length_nil]; omega)) [wrap64, c6]
    refine c_l1Bool.go ?_
    rintro _ h ⟨rfl, rfl⟩
    simp -implicitDefEqProofs (disch := first | omega | (simp only [List.length_set, List.length_replicate, List.length_append, List.length_map, List.length_take, List.length_cons, List.length_nil]; omega)) [wrap64]
    exact RetK.keep (hk _ _ ⟨rfl, by rw [hev]; simp [Exq.evk, c6, Exq.tr]⟩)
  by_cases c7 : x.kind = 7
  · simp -implicitDefEqProofs (disch := first | omega | (simp only [List.length_set, List.length_replicate, List.length_append, List.length_map, List.length_take, List.length_cons, List.length_nil]; omega)) [wrap64, c7]
    refine c_l1Bool.go ?_
    rintro _ h ⟨rfl, rfl⟩
    simp -implicitDefEqProofs (disch := first | omega | (simp only [List.length_set, List.length_replicate, List.length_append, List.length_map, List.length_take, List.length_cons, List.length_nil]; omega)) [wrap64]
    exact RetK.keep (hk _ _ ⟨rfl, by rw [hev]; simp [Exq.evk, c7, Exq.tr]⟩)
  by_cases c8 : x.kind = 8
  · simp -implicitDefEqProofs (disch := first | omega | (simp only [List.length_set, List.length_replicate, List.length_append, List.length_map, List.length_take, List.length_cons, List.length_nil]; omega)) [wrap64, c8]
    exact RetK.keep (hk _ _ ⟨rfl, by rw [hev]; simp [Exq.evk, c8]⟩)
  simp -implicitDefEqProofs (disch := first | omega | (simp only [List.length_set, List.length_replicate, List.length_append, List.length_map, List.length_take, List.length_cons, List.length_nil]; omega)) [wrap64, c4, c5, c6, c7, c8]
  refine RetK.keep (hk _ _ ⟨rfl, ?_⟩)
  rw [hev]
  simp only [Exq.evk, c1, c2, c3, c4, c5, c6, c7, c8, if_false]
  congr 2
  omega

end Go.Proofs.YtonjglbachhdcaaGreat

/-
  The program's data: how they lie in cells, how much they hold, how they are marked. Printed by a program.
-/
namespace Go.Proofs.YtonjglbachhdcaaGreat
open Go
set_option linter.all false
set_option linter.unusedVariables false
set_option linter.unusedSimpArgs false
set_option linter.defProp false
set_option maxRecDepth 1000000

structure Sta where
  locs : List Int
  vals : List Int
deriving DecidableEq

instance instTySta : Ty Sta := Ty.via fun (s : Sta) => (s.locs, s.vals)
theorem Sta.ext_iff' {a b : Sta} : a = b ↔ a.locs = b.locs ∧ a.vals = b.vals := by
  cases a; cases b; simp
theorem Rep_Sta {h : Heap} {v : Value} {a : Sta} : Rep h v a ↔ ∃ v1 v2, v = .agg #[v1, v2] ∧ Rep h v1 a.locs ∧ Rep h v2 a.vals := by
  constructor
  · rintro ⟨cs, rfl, c0, d0, rfl, h1, h2⟩
    obtain ⟨v1, rfl, g1⟩ := (rep1 rfl).1 h1
    obtain ⟨v2, rfl, g2⟩ := (rep1 rfl).1 h2
    exact ⟨v1, v2, rfl, g1, g2⟩
  · rintro ⟨v1, v2, rfl, h1, h2⟩
    exact ⟨[v1, v2], rfl, ⟨[v1], [v2], rfl, (rep1 rfl).2 ⟨_, rfl, h1⟩, (rep1 rfl).2 ⟨_, rfl, h2⟩⟩⟩
theorem HS.unSta {g h : Heap} {Γ : List HP} {v : Value} {a : Sta} (H : HS g (ow v a :: Γ) h) : ∃ v1 v2, v = .agg #[v1, v2] ∧ HS g (ow v1 a.locs :: ow v2 a.vals :: Γ) h := by
  obtain ⟨cs, rfl, H0⟩ := HS.unvia (fun (s : Sta) => (s.locs, s.vals)) H
  try dsimp only at H0
  obtain ⟨c0, e0, rfl, H1a⟩ := HS.unprod H0
  obtain ⟨v1, rfl, H1b⟩ := HS.unone rfl H1a
  have H1 := H1b.sw1
  obtain ⟨v2, rfl, HL⟩ := HS.unone rfl H1
  exact ⟨v1, v2, rfl, HL.sw1⟩
theorem HS.mkSta {g h : Heap} {Γ : List HP} {v1 v2 : Value} {a : Sta} (H : HS g (ow v1 a.locs :: ow v2 a.vals :: Γ) h) : HS g (ow (.agg #[v1, v2]) a :: Γ) h := by
  refine HS.via (fun (s : Sta) => (s.locs, s.vals)) ?_
  exact HS.prod rfl (H.under fun _ H => HS.one rfl H)
theorem Rep.aSta {h : Heap} {v : Value} {x : Sta} (hr : Rep h v x) : pgetV (some v) 0 (some 2) = some v ∧ v.cells.size = 2 ∧ allOne v.cells.toList = true ∧ Value.agg v.cells = v := hr.A rfl rfl
instance instSzSta : Sz Sta := ⟨fun a => Sz.sz a.locs + Sz.sz a.vals⟩
instance instMkSta : Mk Sta := ⟨fun a => Mk.cnt a.locs + Mk.cnt a.vals,
  fun k a => ⟨Mk.wr (k) a.locs, Mk.wr (k + Mk.cnt a.locs) a.vals⟩,
  fun k a => by simp [Mk.cnt_wr], fun k j a => by simp [Mk.cnt_wr, Mk.wr_wr]⟩

structure Gr where
  states : List Sta
  next : List (List Int)
deriving DecidableEq

instance instTyGr : Ty Gr := Ty.via fun (g : Gr) => (g.states, g.next)
theorem Gr.ext_iff' {a b : Gr} : a = b ↔ a.states = b.states ∧ a.next = b.next := by
  cases a; cases b; simp
theorem Rep_Gr {h : Heap} {v : Value} {a : Gr} : Rep h v a ↔ ∃ v1 v2, v = .agg #[v1, v2] ∧ Rep h v1 a.states ∧ Rep h v2 a.next := by
  constructor
  · rintro ⟨cs, rfl, c0, d0, rfl, h1, h2⟩
    obtain ⟨v1, rfl, g1⟩ := (rep1 rfl).1 h1
    obtain ⟨v2, rfl, g2⟩ := (rep1 rfl).1 h2
    exact ⟨v1, v2, rfl, g1, g2⟩
  · rintro ⟨v1, v2, rfl, h1, h2⟩
    exact ⟨[v1, v2], rfl, ⟨[v1], [v2], rfl, (rep1 rfl).2 ⟨_, rfl, h1⟩, (rep1 rfl).2 ⟨_, rfl, h2⟩⟩⟩
theorem HS.unGr {g h : Heap} {Γ : List HP} {v : Value} {a : Gr} (H : HS g (ow v a :: Γ) h) : ∃ v1 v2, v = .agg #[v1, v2] ∧ HS g (ow v1 a.states :: ow v2 a.next :: Γ) h := by
  obtain ⟨cs, rfl, H0⟩ := HS.unvia (fun (g : Gr) => (g.states, g.next)) H
  try dsimp only at H0
  obtain ⟨c0, e0, rfl, H1a⟩ := HS.unprod H0
  obtain ⟨v1, rfl, H1b⟩ := HS.unone rfl H1a
  have H1 := H1b.sw1
  obtain ⟨v2, rfl, HL⟩ := HS.unone rfl H1
  exact ⟨v1, v2, rfl, HL.sw1⟩
theorem HS.mkGr {g h : Heap} {Γ : List HP} {v1 v2 : Value} {a : Gr} (H : HS g (ow v1 a.states :: ow v2 a.next :: Γ) h) : HS g (ow (.agg #[v1, v2]) a :: Γ) h := by
  refine HS.via (fun (g : Gr) => (g.states, g.next)) ?_
  exact HS.prod rfl (H.under fun _ H => HS.one rfl H)
theorem Rep.aGr {h : Heap} {v : Value} {x : Gr} (hr : Rep h v x) : pgetV (some v) 0 (some 2) = some v ∧ v.cells.size = 2 ∧ allOne v.cells.toList = true ∧ Value.agg v.cells = v := hr.A rfl rfl
instance instSzGr : Sz Gr := ⟨fun a => Sz.sz a.states + Sz.sz a.next⟩
instance instMkGr : Mk Gr := ⟨fun a => Mk.cnt a.states + Mk.cnt a.next,
  fun k a => ⟨Mk.wr (k) a.states, Mk.wr (k + Mk.cnt a.states) a.next⟩,
  fun k a => by simp [Mk.cnt_wr], fun k j a => by simp [Mk.cnt_wr, Mk.wr_wr]⟩

structure Stp where
  proc : Int
  edge : Int
  partner : Int
  pedge : Int
deriving DecidableEq

instance instTyStp : Ty Stp := Ty.via fun (s : Stp) => (s.proc, s.edge, s.partner, s.pedge)
theorem Stp.ext_iff' {a b : Stp} : a = b ↔ a.proc = b.proc ∧ a.edge = b.edge ∧ a.partner = b.partner ∧ a.pedge = b.pedge := by
  cases a; cases b; simp
instance instFlatStp : Flat Stp := Flat.via fun (s : Stp) => (s.proc, s.edge, s.partner, s.pedge)
def Stp.v (s : Stp) : Value := .agg #[.int .i64 s.proc, .int .i64 s.edge, .int .i64 s.partner, .int .i64 s.pedge]
structure Stp.ok (s : Stp) : Prop where
  proc : -9223372036854775808 ≤ s.proc ∧ s.proc < 9223372036854775808
  edge : -9223372036854775808 ≤ s.edge ∧ s.edge < 9223372036854775808
  partner : -9223372036854775808 ≤ s.partner ∧ s.partner < 9223372036854775808
  pedge : -9223372036854775808 ≤ s.pedge ∧ s.pedge < 9223372036854775808
theorem Stp.ok_iff {s : Stp} : Flat.ok s ↔ s.ok := ⟨fun h => ⟨h.1, h.2.1, h.2.2.1, h.2.2.2⟩, fun h => ⟨h.proc, h.edge, h.partner, h.pedge⟩⟩
theorem Rep_Stp {h : Heap} {v : Value} {s : Stp} : Rep h v s ↔ v = s.v ∧ s.ok := by rw [Rep_flat, Stp.ok_iff]; rfl
theorem Rep.ldStp {h : Heap} {v : Value} {l : List Stp} (hr : Rep h v l) {i : Nat} (hi : i < l.length) : hload h (some (elp 4 v i)) (some 4) = some l[i].v := hr.ldF hi
theorem Rep.okStp {h : Heap} {v : Value} {l : List Stp} (hr : Rep h v l) {i : Nat} (hi : i < l.length) : l[i].ok := Stp.ok_iff.1 (hr.okF hi)
theorem Rep.xStp {h : Heap} {v : Value} {l : List Stp} (hr : Rep h v l) : ((∀ (kd : IntKind) (i : Nat), i < l.length → iaV 4 v (.int kd i) = some (elp 4 v i)) ∧ (∀ (kd : IntKind) (i : Int), 0 ≤ i → i < l.length → iaV 4 v (.int kd i) = some (elp 4 v i.toNat)) ∧ lenVV v = some (.int .i64 l.length)) ∧
    ∀ (i : Nat) (hi : i < l.length), hload h (some (elp 4 v i)) (some 4) = some l[i].v := ⟨hr.X rfl, fun _ hi => hr.ldStp hi⟩
theorem Rep.aStp {h : Heap} {v : Value} {x : Stp} (hr : Rep h v x) : pgetV (some v) 0 (some 4) = some v ∧ v.cells.size = 4 ∧ allOne v.cells.toList = true ∧ Value.agg v.cells = v := hr.A rfl rfl
instance instSzStp : Sz Stp := ⟨fun a => Sz.sz a.proc + Sz.sz a.edge + Sz.sz a.partner + Sz.sz a.pedge⟩
instance instMkStp : Mk Stp := ⟨fun a => Mk.cnt a.proc + Mk.cnt a.edge + Mk.cnt a.partner + Mk.cnt a.pedge,
  fun k a => ⟨Mk.wr (k) a.proc, Mk.wr (k + Mk.cnt a.proc) a.edge, Mk.wr (k + Mk.cnt a.proc + Mk.cnt a.edge) a.partner, Mk.wr (k + Mk.cnt a.proc + Mk.cnt a.edge + Mk.cnt a.partner) a.pedge⟩,
  fun k a => by simp [Mk.cnt_wr], fun k j a => by simp [Mk.cnt_wr, Mk.wr_wr]⟩

end Go.Proofs.YtonjglbachhdcaaGreat

/-
  Whether the marks in lists of numbers are still held.
-/
namespace Go.Proofs.YtonjglbachhdcaaGreat
open Go
set_option linter.all false
set_option linter.unusedVariables false
set_option linter.unusedSimpArgs false
set_option linter.defProp false
set_option maxRecDepth 1000000

end Go.Proofs.YtonjglbachhdcaaGreat

/-
  What the helpers of the laws do: copying, counting, comparing, marking. Printed by a program.
-/
namespace Go.Proofs.YtonjglbachhdcaaGreat
open Go
set_option linter.all false
set_option linter.unusedVariables false
set_option linter.unusedSimpArgs false
set_option linter.defProp false
set_option maxRecDepth 1000000

def Sta.zero : Sta := ⟨[], []⟩
theorem own_zeroSt : Ty.own Heap.nil [.slice none 0 0, .slice none 0 0] Sta.zero := ⟨[_], [_], Heap.nil, Heap.nil, rfl, by simp, by simp, own_nils, own_nils⟩

end Go.Proofs.YtonjglbachhdcaaGreat

/-
  Instances of functions over slices: copies, and whether some element meets a condition. Printed by a program.
-/
namespace Go.Proofs.YtonjglbachhdcaaGreat
open Go
set_option linter.all false
set_option linter.unusedVariables false
set_option linter.unusedSimpArgs false
set_option linter.defProp false
set_option maxRecDepth 1000000

theorem c_IndexFunc_impl_State {h : Heap} {a fv : Value} {x : List (Sta)} (Ra : Rep h a x) {f : FuncId} {c1 c2 : List Value} (hf : fnOf fv = some (f, c1, c2)) (p : (Sta) → Bool)
    (hp : ∀ h1, h.le h1 → ∀ (i : Nat) (hi : i < x.length) (u : Value), Rep h1 u x[i] → CallE Tryz.prog f (c1 ++ u :: c2) h1 (fun v h' => h1.le h' ∧ v = .bool (p x[i]))) :
    CallE Tryz.prog fn_slices_IndexFunc_S_impl_State_impl_State [a, fv] h (fun v h' => h.le h' ∧ v = .int .i64 (match x.findIdx? p with | some i => (i : Int) | none => -1)) := by
  refine CallE.gen fun k hk => EN_slices_IndexFunc_S_impl_State_impl_State rfl ?_
  have hL := Ra.lt
  simp -implicitDefEqProofs (disch := first | omega | (simp only [List.length_set, List.length_replicate, List.length_append, List.length_map, List.length_take, List.length_cons, List.length_nil]; omega)) [wrap64, Ra.len]
  refine wp_count x.length (fun i e h' => e = [some a, some fv, none, none, some (.int .i64 x.length), some (.int .i64 i)] ∧ h.le h' ∧ ∀ (j : Nat) (hj : j < x.length), j < i → p x[j] = false) ⟨rfl, Heap.le.refl h, fun j _ hj => absurd hj (Nat.not_lt_zero j)⟩ ?_
  rintro J i _ h1 hJ hi ⟨rfl, hl, hn⟩
  simp -implicitDefEqProofs (disch := first | omega | (simp only [List.length_set, List.length_replicate, List.length_append, List.length_map, List.length_take, List.length_cons, List.length_nil]; omega)) [wrap64]
  refine IteW.mk (fun hlt => ?_) (fun hge => ?_)
  · have hlx : i < x.length := by omega
    obtain ⟨u, hu, Ru⟩ := (Ra.le hl).ld hlx
    change hload _ (some (elp 2 a i)) (some 2) = some u at hu
    simp -implicitDefEqProofs (disch := first | omega | (simp only [List.length_set, List.length_replicate, List.length_append, List.length_map, List.length_take, List.length_cons, List.length_nil]; omega)) [wrap64, (Ra.le hl).X (n := 2) rfl, hu, hf]
    refine (hp h1 hl i hlx u Ru).go ?_
    rintro _ h2 ⟨hl2, rfl⟩
    simp -implicitDefEqProofs (disch := first | omega | (simp only [List.length_set, List.length_replicate, List.length_append, List.length_map, List.length_take, List.length_cons, List.length_nil]; omega)) [wrap64]
    refine IteW.mk (fun hq => ?_) (fun hq => ?_)
    · simp -implicitDefEqProofs (disch := first | omega | (simp only [List.length_set, List.length_replicate, List.length_append, List.length_map, List.length_take, List.length_cons, List.length_nil]; omega)) [wrap64]
      refine RetK.keep (hk _ _ ⟨hl.trans hl2, ?_⟩)
      have h3 : x.findIdx? p = some i := by
        rw [List.findIdx?_eq_some_iff_getElem]
        exact ⟨hlx, hq, fun j hj => by rw [hn j (by omega) hj]; simp⟩
      rw [h3]
    · simp -implicitDefEqProofs (disch := first | omega | (simp only [List.length_set, List.length_replicate, List.length_append, List.length_map, List.length_take, List.length_cons, List.length_nil]; omega)) [wrap64]
      refine hJ _ _ hlx ⟨rfl, hl.trans hl2, fun j hj hji => ?_⟩
      by_cases hji2 : j = i
      · subst hji2; simpa using hq
      · exact hn j hj (by omega)
  · simp -implicitDefEqProofs (disch := first | omega | (simp only [List.length_set, List.length_replicate, List.length_append, List.length_map, List.length_take, List.length_cons, List.length_nil]; omega)) [wrap64]
    refine RetK.keep (hk _ _ ⟨hl, ?_⟩)
    have h3 : x.findIdx? p = none := by
      rw [List.findIdx?_eq_none_iff]
      intro y hy
      obtain ⟨j, hj, rfl⟩ := List.mem_iff_getElem.1 hy
      exact hn j hj (by omega)
    rw [h3]

end Go.Proofs.YtonjglbachhdcaaGreat

/-
  Which variables matter, by the program and by the reference.
-/
namespace Go.Proofs.YtonjglbachhdcaaGreat
open Go
set_option linter.all false
set_option linter.unusedVariables false
set_option linter.unusedSimpArgs false
set_option linter.defProp false
set_option maxRecDepth 1000000

/-- an edge's two expressions, as values -/
theorem Rep.gd {h : Heap} {e : Ed} {w1 w2 : Value} (ok : e.ok) (R1 : Rep h w1 e.guard.kids) : Rep h (.agg #[.int .i64 e.guard.kind, .int .i64 e.guard.val, w1]) e.guard := Rep_Exq.2 ⟨w1, rfl, ok.gk, ok.gv, R1⟩
theorem Rep.vl {h : Heap} {e : Ed} {w2 : Value} (ok : e.ok) (R1 : Rep h w2 e.value.kids) : Rep h (.agg #[.int .i64 e.value.kind, .int .i64 e.value.val, w2]) e.value := Rep_Exq.2 ⟨w2, rfl, ok.vk, ok.vv, R1⟩

end Go.Proofs.YtonjglbachhdcaaGreat

/-
  Marks in expressions, edges, processes, systems.
-/
namespace Go.Proofs.YtonjglbachhdcaaGreat
open Go
set_option linter.all false
set_option linter.unusedVariables false
set_option linter.unusedSimpArgs false
set_option linter.defProp false
set_option maxRecDepth 1000000

end Go.Proofs.YtonjglbachhdcaaGreat

/-
  Which variables matter: the functions of the packages. How much systems and expressions hold.
-/
namespace Go.Proofs.YtonjglbachhdcaaGreat
open Go
set_option linter.all false
set_option linter.unusedVariables false
set_option linter.unusedSimpArgs false
set_option linter.defProp false
set_option maxRecDepth 1000000

theorem HS.only {g h : Heap} {Γ : List HP} {p : HP} (H : HS g (p :: Γ) h) : HS g [p] h := by
  obtain ⟨g', r, e, d, hp, H⟩ := H
  exact ⟨g', r, e, d, hp, H.base⟩
def R2 {α : Type} [Ty α] (b : Bool) (y : α) (h : Heap) (u : Value) (h' : Heap) : Prop := ∃ v, u = .tuple #[v, .bool b] ∧ HS h [ow v y] h'

noncomputable def relR (s : Sy) (L : List Exq) : List Bool := if s.Ok ∧ LOk L then s.rel L else []
end Go.Proofs.YtonjglbachhdcaaGreat

/-
  How much states and graphs hold.
-/
namespace Go.Proofs.YtonjglbachhdcaaGreat
open Go
set_option linter.all false
set_option linter.unusedVariables false
set_option linter.unusedSimpArgs false
set_option linter.defProp false
set_option maxRecDepth 1000000

end Go.Proofs.YtonjglbachhdcaaGreat

/-
  Valid graphs; the letters of states: by the program and by the reference.
-/
namespace Go.Proofs.YtonjglbachhdcaaGreat
open Go
set_option linter.all false
set_option linter.unusedVariables false
set_option linter.unusedSimpArgs false
set_option linter.defProp false
set_option maxRecDepth 1000000

/-- the front of a list that is only read -/
theorem Rep.cut {α : Type} [Ty α] {h : Heap} {v : Value} {l : List α} (R : Rep h v l) {n esz : Nat} {k : IntKind} (hn : n ≤ l.length) : ∃ v', sliceVV esz v none (some (some (.int k n))) none = some v' ∧ Rep h v' (l.take n) := by
  obtain ⟨p, cap, rfl, h1, h2, h3⟩ := Rep_list.1 R
  have hl : (l.take n).length = n := by simp; omega
  have hc : n ≤ cap := by omega
  cases n with
  | zero =>
    cases p with
    | none =>
      refine ⟨.slice none 0 cap, ?_, Rep_list.2 ⟨none, cap, by simp, by simp, trivial, fun i hi => by simp at hi⟩⟩
      simp [sliceVV, bndV]
    | some a =>
      by_cases hz : cap = 0
      · refine ⟨.slice (some a) 0 cap, ?_, Rep_list.2 ⟨some a, cap, by simp, by simp, trivial, fun i hi => by simp at hi⟩⟩
        simp [sliceVV, bndV, hz]
      · refine ⟨.slice (some (a.add 0)) 0 cap, ?_, Rep_list.2 ⟨some (a.add 0), cap, by simp, by simp, trivial, fun i hi => by simp at hi⟩⟩
        simp [sliceVV, bndV, hz]
  | succ n =>
    obtain ⟨b, off, vs, rfl, _⟩ := h3 0 (by omega)
    refine ⟨.slice (some ⟨b, off, none⟩) (n + 1) cap, ?_, Rep_list.2 ⟨_, cap, by rw [hl], by rw [hl]; omega, trivial, fun i hi => ?_⟩⟩
    · simp [sliceVV, bndV, add_none]
      rw [if_pos (by omega)]
    · rw [hl] at hi
      obtain ⟨b', off', vs, e1, e2, e3⟩ := h3 i (by omega)
      exact ⟨b', off', vs, e1, e2, by simpa using e3⟩

theorem c_Index_int {h : Heap} {a : Value} {x : List Int} (Ra : Rep h a x) {n : Int} : CallE Tryz.prog fn_slices_Index_S_int_int [a, .int .i64 n] h (fun v h' => h' = h ∧ ∃ r : Int, v = .int .i64 r ∧ (0 ≤ r ↔ n ∈ x)) := by
  refine CallE.gen fun k hk => EN_slices_Index_S_int_int rfl ?_
  have hL := Ra.lt
  simp -implicitDefEqProofs (disch := first | omega | (simp only [List.length_set, List.length_replicate, List.length_append, List.length_map, List.length_take, List.length_cons, List.length_nil]; omega)) [wrap64, Ra.len]
  refine wp_count x.length (fun i e h' => e = [some a, some (.int .i64 n), none, none, some (.int .i64 x.length), some (.int .i64 i)] ∧ h' = h ∧ ∀ (j : Nat) (hj : j < x.length), j < i → x[j] ≠ n) ⟨rfl, rfl, fun j _ hj => absurd hj (Nat.not_lt_zero j)⟩ ?_
  rintro J i _ h1 hJ hi ⟨rfl, rfl, hn⟩
  simp -implicitDefEqProofs (disch := first | omega | (simp only [List.length_set, List.length_replicate, List.length_append, List.length_map, List.length_take, List.length_cons, List.length_nil]; omega)) [wrap64]
  refine IteW.mk (fun hlt => ?_) (fun hge => ?_)
  · have hlx : i < x.length := by omega
    simp -implicitDefEqProofs (disch := first | omega | (simp only [List.length_set, List.length_replicate, List.length_append, List.length_map, List.length_take, List.length_cons, List.length_nil]; omega)) [wrap64, Ra.I]
    refine IteW.mk (fun hq => ?_) (fun hq => ?_)
    · simp -implicitDefEqProofs (disch := first | omega | (simp only [List.length_set, List.length_replicate, List.length_append, List.length_map, List.length_take, List.length_cons, List.length_nil]; omega)) [wrap64]
      exact RetK.keep (hk _ _ ⟨rfl, i, rfl, by simp only [Int.natCast_nonneg, true_iff]; rw [hq]; exact List.getElem_mem hlx⟩)
    · simp -implicitDefEqProofs (disch := first | omega | (simp only [List.length_set, List.length_replicate, List.length_append, List.length_map, List.length_take, List.length_cons, List.length_nil]; omega)) [wrap64]
      refine hJ _ _ hlx ⟨rfl, rfl, fun j hj hji => ?_⟩
      by_cases hji2 : j = i
      · subst hji2; exact fun e => hq e.symm
      · exact hn j hj (by omega)
  · simp -implicitDefEqProofs (disch := first | omega | (simp only [List.length_set, List.length_replicate, List.length_append, List.length_map, List.length_take, List.length_cons, List.length_nil]; omega)) [wrap64]
    refine RetK.keep (hk _ _ ⟨rfl, -1, rfl, ?_⟩)
    simp only [show ¬ (0 : Int) ≤ -1 by decide, false_iff]
    intro hm
    obtain ⟨j, hj, h1⟩ := List.mem_iff_getElem.1 hm
    exact hn j hj (by omega) h1

theorem c_Contains_int {h : Heap} {a : Value} {x : List Int} (Ra : Rep h a x) {n : Int} : CallE Tryz.prog fn_slices_Contains_S_int_int [a, .int .i64 n] h (fun v h' => h' = h ∧ v = .bool (decide (n ∈ x))) := by
  refine CallE.gen fun k hk => EN_slices_Contains_S_int_int rfl ?_
  simp -implicitDefEqProofs (disch := first | omega | (simp only [List.length_set, List.length_replicate, List.length_append, List.length_map, List.length_take, List.length_cons, List.length_nil]; omega)) [wrap64]
  refine (c_Index_int Ra).go ?_
  rintro _ h1 ⟨rfl, r, rfl, hr⟩
  simp -implicitDefEqProofs (disch := first | omega | (simp only [List.length_set, List.length_replicate, List.length_append, List.length_map, List.length_take, List.length_cons, List.length_nil]; omega)) [wrap64]
  exact RetK.keep (hk _ _ ⟨rfl, by congr 1; rw [Bool.eq_iff_iff]; simp [hr]⟩)

theorem c_l4In {h : Heap} {a : Value} {x : List Int} (Ra : Rep h a x) {n : Int} : CallE Tryz.prog fn_spec_l4In [a, .int .i64 n] h (fun v h' => h' = h ∧ v = .bool (decide (n ∈ x))) := by
  refine CallE.gen fun k hk => EN_spec_l4In rfl ?_
  have hL := Ra.lt
  simp -implicitDefEqProofs (disch := first | omega | (simp only [List.length_set, List.length_replicate, List.length_append, List.length_map, List.length_take, List.length_cons, List.length_nil]; omega)) [wrap64]
  refine wp_count x.length (fun i e h' => e = [some a, some (.int .i64 n), none, some (.int .i64 i)] ∧ h' = h ∧ ∀ (j : Nat) (hj : j < x.length), j < i → x[j] ≠ n) ⟨rfl, rfl, fun j _ hj => absurd hj (Nat.not_lt_zero j)⟩ ?_
  rintro J i _ h1 hJ hi ⟨rfl, rfl, hn⟩
  simp -implicitDefEqProofs (disch := first | omega | (simp only [List.length_set, List.length_replicate, List.length_append, List.length_map, List.length_take, List.length_cons, List.length_nil]; omega)) [wrap64, Ra.len]
  refine IteW.mk (fun hlt => ?_) (fun hge => ?_)
  · have hlx : i < x.length := by omega
    simp -implicitDefEqProofs (disch := first | omega | (simp only [List.length_set, List.length_replicate, List.length_append, List.length_map, List.length_take, List.length_cons, List.length_nil]; omega)) [wrap64, Ra.I]
    refine IteW.mk (fun hq => ?_) (fun hq => ?_)
    · simp -implicitDefEqProofs (disch := first | omega | (simp only [List.length_set, List.length_replicate, List.length_append, List.length_map, List.length_take, List.length_cons, List.length_nil]; omega)) [wrap64]
      exact RetK.keep (hk _ _ ⟨rfl, by congr 1; rw [eq_comm, decide_eq_true_iff, ← hq]; exact List.getElem_mem hlx⟩)
    · simp -implicitDefEqProofs (disch := first | omega | (simp only [List.length_set, List.length_replicate, List.length_append, List.length_map, List.length_take, List.length_cons, List.length_nil]; omega)) [wrap64]
      refine hJ _ _ hlx ⟨rfl, rfl, fun j hj hji => ?_⟩
      by_cases hji2 : j = i
      · subst hji2; exact hq
      · exact hn j hj (by omega)
  · simp -implicitDefEqProofs (disch := first | omega | (simp only [List.length_set, List.length_replicate, List.length_append, List.length_map, List.length_take, List.length_cons, List.length_nil]; omega)) [wrap64]
    refine RetK.keep (hk _ _ ⟨rfl, ?_⟩)
    congr 1
    rw [eq_comm, decide_eq_false_iff_not]
    intro hm
    obtain ⟨j, hj, h1⟩ := List.mem_iff_getElem.1 hm
    exact hn j hj (by omega) h1


/-- indices, none twice -/
def Dst (l : List Int) (n : Nat) : Prop := ∀ (i : Nat) (hi : i < l.length), 0 ≤ l[i] ∧ l[i] < n ∧ l[i] ∉ l.take i
noncomputable instance instDecDst {l : List Int} {n : Nat} : Decidable (Dst l n) := Classical.propDecidable _
theorem Dst.le {l : List Int} {n : Nat} (h : Dst l n) : l.length ≤ n := by
  have h1 : (l.map Int.toNat).Nodup := by
    rw [List.nodup_iff_pairwise_ne, List.pairwise_iff_getElem]
    intro i j hi hj hij he
    simp only [List.length_map] at hi hj
    simp only [List.getElem_map] at he
    have a := h i hi
    have b := h j hj
    refine b.2.2 ?_
    have e2 : l[i] = l[j] := by omega
    rw [← e2]
    exact List.mem_iff_getElem.2 ⟨i, by simp; omega, by simp⟩
  have h2 : (l.map Int.toNat) ⊆ List.range n := by
    intro x hx
    obtain ⟨y, hy, rfl⟩ := List.mem_map.1 hx
    obtain ⟨i, hi, rfl⟩ := List.mem_iff_getElem.1 hy
    have := h i hi
    rw [List.mem_range]; omega
  simpa using List.Nodup.length_le_of_subset h1 h2
structure Gr.Ok (g : Gr) : Prop where
  n1 : 1 ≤ g.states.length
  n60 : g.states.length ≤ 60
  nl : g.next.length = g.states.length
  vs : ∀ st ∈ g.states, VOk st.vals
  nx : ∀ l ∈ g.next, l ≠ [] ∧ Dst l g.states.length
noncomputable instance instDecGrOk {g : Gr} : Decidable g.Ok := Classical.propDecidable _

/- LETTERS -/
def ltrN (vs : List Int) (L : List Exq) : Nat → Int
  | 0 => 0
  | i + 1 => if (L.getD i Exq.zero).ev vs ≠ 0 then orI .i64 (ltrN vs L i) (shlI .i64 1 i) else ltrN vs L i
def ltr (vs : List Int) (L : List Exq) : Int := ltrN vs L 3
def lbl (g : Gr) (L : List Exq) : List Int := g.states.map fun st => ltr st.vals L
noncomputable def lblR (g : Gr) (L : List Exq) : List Int := if g.Ok ∧ LOk L then lbl g L else []
end Go.Proofs.YtonjglbachhdcaaGreat

/-
  The random source of the laws' arguments: a number, an element of a list.
-/
namespace Go.Proofs.YtonjglbachhdcaaGreat
open Go
set_option linter.all false
set_option linter.unusedVariables false
set_option linter.unusedSimpArgs false
set_option linter.defProp false
set_option maxRecDepth 1000000

/-- bytes -/
instance instTyU8 : Ty (BitVec 8) where
  agg := false
  sz := 1
  rep := fun _ cs n => cs = [.int .u8 n.toNat]
  own := fun r cs n => r = Heap.nil ∧ cs = [.int .u8 n.toNat]
  one := fun _ => rfl
  len := by rintro h cs x rfl; rfl
  cell := by rintro h cs x rfl v hv; simp at hv; subst hv; rfl
  mono := fun _ hr => hr
  own_rep := fun ho => ho.2
instance instFlatU8 : Flat (BitVec 8) := ⟨fun n => [.int .u8 n.toNat], fun _ => True, by simp [Ty.rep], by simp [Ty.own]⟩
theorem Rep.Y {h : Heap} {v : Value} {l : List (BitVec 8)} (hr : Rep h v l) : ((∀ (kd : IntKind) (i : Nat), i < l.length → iaV 1 v (.int kd i) = some (elp 1 v i)) ∧ (∀ (kd : IntKind) (i : Int), 0 ≤ i → i < l.length → iaV 1 v (.int kd i) = some (elp 1 v i.toNat)) ∧ lenVV v = some (.int .i64 l.length)) ∧
    ∀ (i : Nat) (hi : i < l.length), hload h (some (elp 1 v i)) none = some (.int .u8 l[i].toNat) := ⟨hr.X rfl, fun _ hi => hr.ldF hi⟩

theorem xor_nn {a b : Int} (ha : 0 ≤ a) (ha2 : a < 9223372036854775808) (hb : 0 ≤ b) (hb2 : b < 9223372036854775808) : 0 ≤ xorI .i64 a b ∧ xorI .i64 a b < 9223372036854775808 := by
  have e1 : (BitVec.ofInt 64 a).toNat = a.toNat := by rw [BitVec.toNat_ofInt]; congr 1; exact Int.emod_eq_of_lt ha (by omega)
  have e2 : (BitVec.ofInt 64 b).toNat = b.toNat := by rw [BitVec.toNat_ofInt]; congr 1; exact Int.emod_eq_of_lt hb (by omega)
  have h : a.toNat ^^^ b.toNat < 2 ^ 63 := Nat.xor_lt_two_pow (by omega) (by omega)
  have e3 : xorI .i64 a b = ((a.toNat ^^^ b.toNat : Nat) : Int) := by
    unfold xorI
    rw [show IntKind.i64.bits = 64 from rfl, BitVec.toNat_xor, e1, e2]
    exact wrap64 (by omega) (by omega)
  rw [e3]
  omega

/-- the random source: a pointer to its bytes and to how many numbers were drawn -/
abbrev rb (b : Nat) (sl : Value) (p : Int) : HP := bx b [sl, .int .i64 p]
theorem tmod_rng {a b : Int} (ha : 0 ≤ a) (hb : 0 < b) : 0 ≤ a.tmod b ∧ a.tmod b < b := by
  rw [Int.tmod_eq_emod_of_nonneg ha]
  exact ⟨Int.emod_nonneg _ (by omega), Int.emod_lt_of_pos _ hb⟩
theorem tdiv_rng {a b : Int} (ha : 0 ≤ a) (hb : 0 < b) : 0 ≤ a.tdiv b ∧ a.tdiv b ≤ a := by
  rw [Int.tdiv_eq_ediv_of_nonneg ha]
  exact ⟨Int.ediv_nonneg ha (by omega), Int.ediv_le_self _ ha⟩

theorem c_pick {g h : Heap} {Γ : List HP} {b : Nat} {sl : Value} {l : List (BitVec 8)} {p n : Int} (R : Rep g sl l) (H : HS g (rb b sl p :: Γ) h) (hp : 0 ≤ p) (hp2 : p < 1099511627776) (hn : I64 n) :
    CallE Tryz.prog fn_spec_l16Rd_pick [.pointer (some ⟨b, 0, none⟩), .int .i64 n] h (fun u h' => ∃ r, u = .int .i64 r ∧ I64 r ∧ 0 ≤ r ∧ (1 ≤ n → r < n) ∧ HS g (rb b sl (p + 1) :: Γ) h') := by
  have hL := R.lt
  have hn1 := hn.1
  have hn2 := hn.2
  refine CallE.gen fun k hk => EN_spec_l16Rd_pick rfl ?_
  have hb0 : hload h (some (.pointer (some ⟨b, 0, none⟩))) none = some sl := H.bxld rfl
  have hb1 : hload h (some (.pointer (some ⟨b, 1, none⟩))) none = some (.int .i64 p) := H.bxld rfl
  simp -implicitDefEqProofs (disch := first | omega | (simp only [List.length_set, List.length_replicate, List.length_append, List.length_map, List.length_take, List.length_cons, List.length_nil]; omega)) [wrap64, hb0, hb1]
  refine HS.bxst (o := 1) (sz := 1) (u := .int .i64 (p + 1)) H rfl rfl rfl rfl (by simp) fun h2 H => ?_
  replace H : HS g (rb b sl (p + 1) :: Γ) h2 := H
  have hb0 : hload h2 (some (.pointer (some ⟨b, 0, none⟩))) none = some sl := H.bxld rfl
  have hb1 : hload h2 (some (.pointer (some ⟨b, 1, none⟩))) none = some (.int .i64 (p + 1)) := H.bxld rfl
  by_cases a1 : n < 1
  · simp -implicitDefEqProofs (disch := first | omega | (simp only [List.length_set, List.length_replicate, List.length_append, List.length_map, List.length_take, List.length_cons, List.length_nil]; omega)) [wrap64, hb0, hb1, a1]
    exact RetK.keep (hk _ _ ⟨0, rfl, ⟨by omega, by omega⟩, by omega, fun h => absurd h (by omega), H⟩)
  obtain ⟨ln, hln⟩ : ∃ ln : Int, ln = l.length := ⟨_, rfl⟩
  have hlen := (R.on H).len
  rw [← hln] at hlen
  by_cases a2 : ln = 0
  · simp -implicitDefEqProofs (disch := first | omega | (simp only [List.length_set, List.length_replicate, List.length_append, List.length_map, List.length_take, List.length_cons, List.length_nil]; omega)) [wrap64, hb0, hb1, a1, hlen, a2]
    exact RetK.keep (hk _ _ ⟨0, rfl, ⟨by omega, by omega⟩, by omega, fun h => by omega, H⟩)
  obtain ⟨m, rfl⟩ : ∃ m : Nat, p = m := ⟨p.toNat, (Int.toNat_of_nonneg hp).symm⟩
  have hn0 : ¬ n = 0 := by omega
  by_cases a3 : (m : Int) < ln
  · have hk3 : m < l.length := by omega
    obtain ⟨c, hc⟩ : ∃ c : Int, c = l[m].toNat := ⟨_, rfl⟩
    have hc2 : c < 256 := by have := l[m].isLt; omega
    have hc0 : 0 ≤ c := by omega
    have hld := (R.on H).Y.2 m hk3
    rw [← hc] at hld
    obtain ⟨r1, r2⟩ := tmod_rng hc0 (show 0 < n by omega)
    simp -implicitDefEqProofs (disch := first | omega | (simp only [List.length_set, List.length_replicate, List.length_append, List.length_map, List.length_take, List.length_cons, List.length_nil]; omega)) [wrap64, hb0, hb1, a1, hlen, a2, a3, (R.on H).Y.1.1, hld, hn0]
    exact RetK.keep (hk _ _ ⟨c.tmod n, rfl, ⟨by omega, by omega⟩, r1, fun _ => r2, H⟩)
  · obtain ⟨s1, s2⟩ := tmod_rng (a := (m : Int)) (b := ln) (by omega) (by omega)
    obtain ⟨i1, hi1⟩ : ∃ i1 : Nat, (m : Int).tmod ln = i1 := ⟨_, (Int.toNat_of_nonneg s1).symm⟩
    obtain ⟨t1, t2⟩ := tmod_rng (a := (m : Int) * 7 + 3) (b := ln) (by omega) (by omega)
    obtain ⟨i2, hi2⟩ : ∃ i2 : Nat, ((m : Int) * 7 + 3).tmod ln = i2 := ⟨_, (Int.toNat_of_nonneg t1).symm⟩
    obtain ⟨q1, q2⟩ := tdiv_rng (a := (m : Int)) (b := ln) (by omega) (by omega)
    obtain ⟨q, hq⟩ : ∃ q : Int, (m : Int).tdiv ln = q := ⟨_, rfl⟩
    rw [hi1] at s1 s2
    rw [hi2] at t1 t2
    rw [hq] at q1 q2
    have hl1 : i1 < l.length := by omega
    have hl2 : i2 < l.length := by omega
    obtain ⟨c, hc⟩ : ∃ c : Int, c = l[i1].toNat := ⟨_, rfl⟩
    have hc2 : c < 256 := by have := l[i1].isLt; omega
    have hc0 : 0 ≤ c := by omega
    have hld := (R.on H).Y.2 i1 hl1
    rw [← hc] at hld
    obtain ⟨d, hd⟩ : ∃ d : Int, d = l[i2].toNat := ⟨_, rfl⟩
    have hd2 : d < 256 := by have := l[i2].isLt; omega
    have hd0 : 0 ≤ d := by omega
    have hld2 := (R.on H).Y.2 i2 hl2
    rw [← hd] at hld2
    obtain ⟨x, hx⟩ : ∃ x : Int, x = c * 131 + d * 1117 + (m : Int) * 29 + q * 53 := ⟨_, rfl⟩
    have hx0 : 0 ≤ x := by omega
    have hx1 : x < 9223372036854775808 := by omega
    obtain ⟨y1, y2⟩ := tdiv_rng (a := x) (b := 64) hx0 (by omega)
    obtain ⟨z1, z2⟩ := xor_nn hx0 hx1 y1 (by omega)
    obtain ⟨w1, w2⟩ := tmod_rng z1 (show 0 < n by omega)
    simp -implicitDefEqProofs (disch := first | omega | (simp only [List.length_set, List.length_replicate, List.length_append, List.length_map, List.length_take, List.length_cons, List.length_nil]; omega)) [wrap64, hb0, hb1, a1, hlen, a2, a3, (R.on H).Y.1.1, hi1, hi2, hq, hld, hld2, hn0, ← hx]
    exact RetK.keep (hk _ _ ⟨_, rfl, ⟨by omega, by omega⟩, w1, fun _ => w2, H⟩)

/-- an element of a list that is written out -/
theorem c_num {g h : Heap} {Γ : List HP} {b : Nat} {sl v : Value} {l : List (BitVec 8)} {p : Int} {xs : List Int} (R : Rep g sl l) (H : HS g (ow v xs :: rb b sl p :: Γ) h) (hp : 0 ≤ p) (hp2 : p < 1099511627776) (hx : xs ≠ []) :
    CallE Tryz.prog fn_spec_l16Rd_num [.pointer (some ⟨b, 0, none⟩), v] h (fun u h' => ∃ r, u = .int .i64 r ∧ I64 r ∧ r ∈ xs ∧ HS g (rb b sl (p + 1) :: Γ) h') := by
  have hL := H.rep.lt
  have hpos : 0 < xs.length := List.length_pos_iff.2 hx
  refine CallE.gen fun k hk => EN_spec_l16Rd_num rfl ?_
  simp -implicitDefEqProofs (disch := first | omega | (simp only [List.length_set, List.length_replicate, List.length_append, List.length_map, List.length_take, List.length_cons, List.length_nil]; omega)) [wrap64, H.rep.len]
  refine (c_pick R H.sw1 hp hp2 ⟨by omega, by omega⟩).go ?_
  rintro _ h1 ⟨r, rfl, hr, hr0, hr1, H⟩
  obtain ⟨i, rfl⟩ : ∃ i : Nat, r = i := ⟨r.toNat, (Int.toNat_of_nonneg hr0).symm⟩
  have hi : i < xs.length := by have := hr1 (by omega); omega
  have hok := H.sw1.rep.okI hi
  simp -implicitDefEqProofs (disch := first | omega | (simp only [List.length_set, List.length_replicate, List.length_append, List.length_map, List.length_take, List.length_cons, List.length_nil]; omega)) [wrap64, H.sw1.rep.I]
  exact RetK.keep (hk _ _ ⟨xs[i], rfl, ⟨hok.1, hok.2⟩, List.getElem_mem hi, H.sw1.drop⟩)

theorem c_l16Open {h : Heap} {v : Value} {l : List (BitVec 8)} (R : Rep h v l) : CallE Tryz.prog fn_spec_l16Open [v] h (fun u h' => ∃ b sl, ∃ l' : List (BitVec 8), u = .pointer (some ⟨b, 0, none⟩) ∧ Rep h sl l' ∧ HS h [rb b sl 0] h') := by
  have hL := R.lt
  refine CallE.gen fun k hk => EN_spec_l16Open rfl ?_
  by_cases a1 : (2000 : Int) < l.length
  · obtain ⟨v', e1, R'⟩ := R.cut (n := 2000) (esz := 1) (k := .i64) (by omega)
    have hO := R'.one
    have e2 : sliceVV 1 v none (some (some (.int .i64 2000))) none = some v' := e1
    simp -implicitDefEqProofs (disch := first | omega | (simp only [List.length_set, List.length_replicate, List.length_append, List.length_map, List.length_take, List.length_cons, List.length_nil]; omega)) [wrap64, R.len, a1, e2, setC, hO, R'.cells]
    refine HS.init.alloc rfl fun b h1 H => ?_
    simp -implicitDefEqProofs (disch := first | omega | (simp only [List.length_set, List.length_replicate, List.length_append, List.length_map, List.length_take, List.length_cons, List.length_nil]; omega)) [wrap64]
    exact RetK.keep (hk _ _ ⟨b, v', _, rfl, R', H⟩)
  · have hO := R.one
    simp -implicitDefEqProofs (disch := first | omega | (simp only [List.length_set, List.length_replicate, List.length_append, List.length_map, List.length_take, List.length_cons, List.length_nil]; omega)) [wrap64, R.len, a1, setC, hO, R.cells]
    refine HS.init.alloc rfl fun b h1 H => ?_
    simp -implicitDefEqProofs (disch := first | omega | (simp only [List.length_set, List.length_replicate, List.length_append, List.length_map, List.length_take, List.length_cons, List.length_nil]; omega)) [wrap64]
    exact RetK.keep (hk _ _ ⟨b, v, _, rfl, R, H⟩)
end Go.Proofs.YtonjglbachhdcaaGreat

/-
  From a law as a call to the row's statement: what is read as data stands for a piece of plain data; what was there before stays.
-/
namespace Go.Proofs.YtonjglbachhdcaaGreat
open Go Go.RowKit
set_option linter.all false
set_option linter.unusedVariables false
set_option linter.unusedSimpArgs false
set_option linter.defProp false
set_option maxRecDepth 1000000

/-- the whole memory -/
def whole (w : World) : Heap := fun b => w.heap[b]?

theorem calls_law {P : Program} {f : FuncId} {fn : Func} {args : List Value} {W : World} (hf : P.funcs[f]? = some fn) (hname : (fn.name == "runtime.NumGoroutine") = false) (hb : fn.body.isSome = true)
    (h : CallE P f args (whole W) (fun u h' => (whole W).le h' ∧ u = .bool true)) : Calls P f args.toArray W fun e W' => e = .returned (.bool true) ∧ Below W.heap.size W W' := by
  have h1 := h W (fun b o hb => hb)
  obtain ⟨bd, hbd⟩ := Option.isSome_iff_exists.1 hb
  have hname' : ¬ fn.name = "runtime.NumGoroutine" := by simpa using hname
  have hcall : (callFunc f args.toArray).run P W = .ok (.enter f args.toArray) W := by
    simp [callFunc, hf, hname', hbd]
  rw [hcall] at h1
  refine Calls.mono h1 ?_
  rintro e W' ⟨v, h', rfl, ⟨hl, rfl⟩, hs, hF⟩
  refine ⟨rfl, hF.os, hF.tape, hF.output, hF.size, ?_⟩
  intro k hk
  have h2 : whole W k = some W.heap[k] := by simp [whole, hk]
  rw [hs _ _ (hl _ _ h2)]
  simp [hk]

section
variable {H : Type} {enc : TypeId × Value → H} {P : Program}
theorem trodAll_below (hl : laidOutB P = true) {W W' : World} : ∀ {ts : List TypeId} {vs : List Value} {ds : List (DataW H)} {ps : List MemPlace}, (∀ t ∈ ts, P.readableRec t = true ∧ t < P.types.size) →
    DataW.TrodAll enc P W 0 (fun _ => true) true ts vs ds ps → Below W.heap.size W W' → (∀ x ∈ ps, x.block < W.heap.size) → DataW.TrodAll enc P W' 0 (fun b => decide (b < W.heap.size)) true ts vs ds ps
  | [], [], [], _, _, h, _, _ => h
  | _ :: _, _ :: _, _ :: _, _, ht, ⟨p, q, h1, h2, e⟩, hb, hlt =>
    ⟨p, q, Below.trod hl (ht _ (by simp)).1 (ht _ (by simp)).2 h1 hb (fun x hx => hlt x (by rw [e]; exact List.mem_append_left _ hx)),
      trodAll_below hl (fun t h => ht t (by simp [h])) h2 hb (fun x hx => hlt x (by rw [e]; exact List.mem_append_right _ hx)), e⟩

theorem kept_below {W W' : World} (hb : Below W.heap.size W W') (may : MemPlace → Prop) : W.keptBut W' may := by
  refine ⟨hb.os, hb.output, fun i hi => ?_⟩
  rw [hb.block i hi]
  split
  · rename_i h1 h2; rw [h1] at h2; simp only [Option.some.injEq, Obj.cells.injEq] at h2; obtain ⟨rfl, rfl, rfl⟩ := h2; exact ⟨rfl, rfl, rfl, fun _ _ => rfl⟩
  · rename_i h1 h2; rw [h1] at h2; simp only [Option.some.injEq, Obj.map.injEq] at h2; obtain ⟨rfl, rfl⟩ := h2; exact .inr ⟨rfl, rfl⟩
  · rfl

/-- THE LAW's CONTRACT: true; the arguments as they were -/
theorem post_law {f : Func} {s : ChangeSpec} {W W' : World} {args : Array Value} {ds gs : List (DataW H)} {before : List MemPlace} (hl : laidOutB P = true) (hvars : s.vars = []) (ht : ∀ t ∈ f.params.toList, P.readableRec t = true ∧ t < P.types.size)
    (hr : ∃ t, f.resultTypes = #[t] ∧ P.underlying t = some .bool) (hspec : (s.fn H (ds ++ gs)).results = [.lit (.bool true)] ∧ (s.fn H (ds ++ gs)).args = ds ∧ (s.fn H (ds ++ gs)).vars = [])
    (hW : DataW.Whole enc P f.params.toList s.vars false W args.toList ds gs before) (hb : Below W.heap.size W W') : s.post enc P f false true false false W args (.bool true) W' := by
  obtain ⟨t, ht1, ht2⟩ := hr
  obtain ⟨h1, h2, h3⟩ := hspec
  have hW' := hW
  obtain ⟨p, q, hA, hV, rfl, hz, hn⟩ := hW
  rw [hvars] at hV
  obtain ⟨rfl, rfl⟩ := Go.ChangeShapes.trodVars_none hV
  have hlt : ∀ x ∈ p ++ [], x.block < W.heap.size := fun x hx => by simpa using hW'.lt x hx
  refine ⟨ds, [], p ++ [], [], p, [], hW', ?_, ?_, ?_, World.keptBut_mono (fun x hx => ⟨by simpa using hx, .inr (.inl (by simpa using hx))⟩) (kept_below hb (fun x => x ∈ p)), by simp⟩
  · rw [h1, ht1]
    exact trodAll_cons_mk (shut_bool ht2 _) Go.ChangeShapes.trodAll_mk0
  · rw [h2]
    exact trodAll_below hl ht hA hb (fun x hx => hlt x (by simpa using hx))
  · rw [h3, hvars]; rfl
end

/-- what a piece of data weighs is within the reach -/
def wOk {H : Type} (P : Program) (t : TypeId) (d : DataW H) : Prop := ∀ n ∈ d.weights P t, n ≤ reachBytes
theorem wOk_all {H : Type} {P : Program} {e : TypeId} : ∀ {l : List (DataW H)}, (∀ n ∈ DataW.weightsAll P e l, n ≤ reachBytes) → ∀ d ∈ l, wOk P e d
  | [], _, d, hd => by simp at hd
  | x :: l, h, d, hd => by
    simp only [DataW.weightsAll, List.mem_append] at h
    rcases List.mem_cons.1 hd with rfl | hd
    · exact fun n hn => h n (.inl hn)
    · exact wOk_all (fun n hn => h n (.inr hn)) d hd
theorem wOk_each {H : Type} {P : Program} : ∀ {ts : List TypeId} {l : List (DataW H)}, (∀ n ∈ DataW.weightsEach P ts l, n ≤ reachBytes) → ∀ (i : Nat) t d, ts[i]? = some t → l[i]? = some d → wOk P t d
  | [], _, _, i, t, d, h1, _ => by simp at h1
  | _ :: _, [], _, i, t, d, _, h2 => by simp at h2
  | t0 :: ts, x :: l, h, 0, t, d, h1, h2 => by
    simp at h1 h2; subst h1 h2
    exact fun n hn => h n (by simp only [DataW.weightsEach, List.mem_append]; exact .inl hn)
  | t0 :: ts, x :: l, h, i + 1, t, d, h1, h2 => wOk_each (ts := ts) (l := l) (fun n hn => h n (by simp only [DataW.weightsEach, List.mem_append]; exact .inr hn)) i t d (by simpa using h1) (by simpa using h2)

/- what is read stands for plain data -/
def RdT (P : Program) (t : TypeId) (α : Type) [Ty α] : Prop := ∀ {H : Type} (enc : TypeId × Value → H) (W : World) (sp : Nat → Bool) (fuel : Nat) (cs : List Value) (x : DataW H × List MemPlace),
  DataW.trod enc P W 0 sp true fuel t cs = some x → wOk P t x.1 → ∃ y : α, Ty.rep (whole W) cs y

section
variable {P : Program} {t : TypeId}
theorem cells_whole {W : World} {b off : Nat} : ∀ {n : Nat} {l : List Value}, W.cells? 0 ⟨b, off, none⟩ n = some l → hcells (whole W) b off n = some l := by
  have key : ∀ n o l, (List.range' o n).mapM (fun i => W.cell? ((⟨b, off, none⟩ : Addr).add i)) = some l → hcells (whole W) b (off + o) n = some l := by
    intro n
    induction n with
    | zero => intro o l h; simpa [hcells] using h
    | succ n ih =>
      intro o l h
      rw [List.range'_succ, List.mapM_cons] at h
      simp only [Option.bind_eq_bind, Option.bind_eq_some_iff, Option.pure_def, Option.some.injEq] at h
      obtain ⟨v, h1, r, h2, rfl⟩ := h
      have h3 := ih (o + 1) r h2
      have h4 : hcell (whole W) b (off + o) = some v := by
        rw [addr_add0] at h1
        simp only [World.cell?, Option.isSome_none, Bool.false_eq_true, if_false] at h1
        simp only [hcell, whole]
        split at h1
        · rename_i hb; rw [hb]; exact h1
        · simp at h1
      simp only [hcells, h4]
      rw [show off + o + 1 = off + (o + 1) by omega, h3]
  intro n l h
  simp only [World.cells?, Nat.zero_le, if_true] at h
  rw [List.range_eq_range'] at h
  exact key n 0 l h

theorem cells_spot {W : World} {b off s n : Nat} (hn : 0 < n) : W.cells? 0 ⟨b, off, some s⟩ n = none := by
  simp only [World.cells?, Nat.zero_le, if_true]
  cases n with
  | zero => omega
  | succ n =>
    rw [List.range_succ_eq_map, List.mapM_cons]
    have : W.cell? ((⟨b, off, some s⟩ : Addr).add 0) = none := by
      simp only [Addr.add, if_true, World.cell?]
      split <;> simp
    rw [this]; rfl

theorem rd_list {α : Type} [Ty α] {e : TypeId} (ht : P.underlying t = some (.slice e)) (hc : P.cellsOf e = Ty.sz α) (hpos : 0 < Ty.sz α) (hby : 0 < P.bytesOf e) (he : RdT P e α) : RdT P t (List α) := by
  intro H enc W sp fuel cs x h hwt
  rcases Go.Deep.open_slice ht h with ⟨rfl, _⟩ | ⟨a, len, cap, m, n, D, Pl, rfl, _, hlen, hcap, hm, rfl, hel⟩
  · exact ⟨[], none, 0, rfl, by simp, trivial, fun i hi => by simp at hi⟩
  · have hle : len ≤ m := by rw [hm]; split <;> omega
    simp only [wOk, DataW.weights, ht, List.mem_cons, List.mem_append] at hwt
    have hsz : len ≤ reachBytes := by
      have h1 := hwt _ (.inl rfl)
      simp only [List.length_map, List.length_range] at h1
      have h2 : len * 1 ≤ (len + (m - len)) * P.bytesOf e := Nat.mul_le_mul (by omega) hby
      omega
    have hwe := wOk_all (fun n hn => hwt n (.inr (.inl hn)))
    have hall : ∀ i, i < len → ∃ y : α, ∃ b off vs, some a = some (⟨b, off, none⟩ : Addr) ∧ hcells (whole W) b (off + i * Ty.sz α) (Ty.sz α) = some vs ∧ Ty.rep (whole W) vs y := by
      intro i hi
      obtain ⟨cs', h1, h2⟩ := hel i (by omega)
      obtain ⟨y, hy⟩ := he enc W sp n cs' _ h2 (hwe _ (List.mem_map.2 ⟨i, by simpa using hi, rfl⟩))
      obtain ⟨b, off, spot⟩ := a
      rw [hc] at h1
      -- the address is plain: its first element could be read
      have h0 : spot = none := by
        cases spot with
        | none => rfl
        | some s =>
          obtain ⟨cs0, g1, _⟩ := hel 0 (by omega)
          rw [hc] at g1
          simp only [Nat.zero_mul, Addr.add, if_true] at g1
          rw [cells_spot hpos] at g1
          simp at g1
      subst h0
      rw [addr_add0] at h1
      exact ⟨y, b, off, cs', rfl, cells_whole h1, hy⟩
    have hch : ∃ l : List α, l.length = len ∧ ∀ i (hi : i < l.length), ∃ b off vs, some a = some (⟨b, off, none⟩ : Addr) ∧ hcells (whole W) b (off + i * Ty.sz α) (Ty.sz α) = some vs ∧ Ty.rep (whole W) vs l[i] := by
      refine ⟨(List.finRange len).map fun i => Classical.choose (hall i.1 i.2), by simp, fun i hi => ?_⟩
      have hi' : i < len := by simpa using hi
      have := Classical.choose_spec (hall i hi')
      simpa using this
    obtain ⟨l, hl, hr⟩ := hch
    refine ⟨l, some a, cap, by rw [hl], ⟨by omega, ?_⟩, trivial, hr⟩
    have : reachBytes < 4611686018427387904 := by decide
    omega

end

section
variable {P : Program} {W : World} {r : Reach} {base : Nat} {t e : TypeId} {v : Value}
theorem okWide_slice (ht : P.underlying t = some (.slice e)) (h : Value.okWide P W r base t v) : ∃ a n c, v = .slice a n c := by
  unfold Value.okWide at h
  rw [ht] at h
  simp only [Cell.okWide, ht] at h
  cases v <;> simp [Cell.ok, ht] at h ⊢
end
end Go.Proofs.YtonjglbachhdcaaGreat

/-
  Bytes as arguments of laws.
-/
namespace Go.Proofs.YtonjglbachhdcaaGreat
open Go
set_option linter.all false
set_option linter.unusedVariables false
set_option linter.unusedSimpArgs false
set_option linter.defProp false
set_option maxRecDepth 1000000
theorem rd_u8 {P : Program} {t : TypeId} (ht : P.underlying t = some (.int .u8)) : RdT P t (BitVec 8) := by
  intro H enc W sp fuel cs x h hwt
  cases fuel with
  | zero => simp [DataW.trod] at h
  | succ n =>
    unfold DataW.trod at h
    rw [ht] at h
    split at h
    case h_2 k k' m h1 =>
      simp only [Option.some.injEq, TypeDesc.int.injEq] at h1
      subst h1
      split at h
      case isTrue hc =>
        obtain ⟨rfl, hw⟩ := hc
        have := bounds_u8 hw
        refine ⟨BitVec.ofNat 8 m.toNat, ?_⟩
        show _ = [Value.int .u8 ((BitVec.ofNat 8 m.toNat).toNat : Int)]
        have e : ((BitVec.ofNat 8 m.toNat).toNat : Int) = m := by
          rw [BitVec.toNat_ofNat, Nat.mod_eq_of_lt (by omega)]; omega
        rw [e]
      case isFalse => simp at h
    all_goals simp_all
end Go.Proofs.YtonjglbachhdcaaGreat

/-
  Bodies of functions in the small language, as a program printed them, and that each is what the translation gives.
-/
namespace Go.Proofs.YtonjglbachhdcaaGreat
open Go
set_option linter.all false
set_option linter.defProp false
set_option maxRecDepth 1000000

end Go.Proofs.YtonjglbachhdcaaGreat

/-
  Bodies of functions in the small language, as a program printed them, and that each is what the translation gives.
-/
namespace Go.Proofs.YtonjglbachhdcaaGreat
open Go
set_option linter.all false
set_option linter.defProp false
set_option maxRecDepth 1000000

def H_impl_CheckInvariant : Hint := ⟨[(0, false), (1, false), (2, true), (3, false), (4, false), (5, false)], []⟩
def K24_1 : Pl := .st (.act none (.px (some 11) (.extract 0 (.v 10)))) <|
    .st (.act none (.px (some 12) (.extract 1 (.v 10)))) <|
    .st (.act none (.px (some 4) (.mv (.v 11)))) <|
    .st (.act none (.px (some 5) (.mv (.v 12)))) .done
@[simp] def W24_1 := @Pl.wpe _ _ K24_1.eq_1
def K24_2 : Pl := .st (.act none (.ex (some 10) (.call fn_impl_check [.v 6, .v 8, .v 9]))) K24_1
@[simp] def W24_2 := @Pl.wpe _ _ K24_2.eq_1
def K24_3 : C := .seq (.pl <| .st (.ext 6 7) <|
    .st (.act none (.pget (some 6) none 2 0 (some 2))) <|
    .st (.act none (.ld (some 7) (.v 3) (some 3))) <|
    .st (.act none (.px (some 9) (.mkf (.func fn_impl_CheckInvariant_1) [] [.v 3]))) <|
    .st (.act none (.ex (some 8) (.call fn_impl_ExprValid [.v 7]))) K24_2) (.ret)
@[simp] def W24_3 := @C.wpe _ _ K24_3.eq_1
def K24_4 : Pl := .st (.act none (.px (some 4) (.mv (.c (.int .i64 0))))) <|
    .st (.act none (.px (some 5) (.mv (.c (.slice none 0 0))))) .done
@[simp] def W24_4 := @Pl.wpe _ _ K24_4.eq_1
def B_impl_CheckInvariant : C := .seq (.pl <| .st (.ext 6 0) <|
    .st (.act none (.pnew 2 (.v 0) [])) <|
    .st (.act none (.ex (some 3) (.alloc (.v 1)))) K24_4) K24_3
@[simp] def WB_impl_CheckInvariant := @C.wpe _ _ B_impl_CheckInvariant.eq_1
def R_impl_CheckInvariant : FIR := ⟨B_impl_CheckInvariant, 6, [(4, none), (5, none)]⟩
theorem IR_impl_CheckInvariant : cfun Tryz.prog H_impl_CheckInvariant Tryz.f24 = some R_impl_CheckInvariant := by kernel_rfl
theorem EN_impl_CheckInvariant {args : List Value} {h : Heap} {k : Value → Heap → Prop} (hargs : args.length = 2) (hw : B_impl_CheckInvariant.wp Tryz.prog (retQ [(4, none), (5, none)] k) (env0 args 6) h) : CallE Tryz.prog fn_impl_CheckInvariant args h k := enter Tryz.func24 rfl IR_impl_CheckInvariant hargs hw

def H_impl_CheckInvariant_1 : Hint := ⟨[(0, false), (1, false), (2, true), (3, false)], []⟩
def K64_1 : Pl := .st (.act none (.px (some 8) (.bin .eql (.v 7) (.c (.int .i64 0))))) <|
    .st (.act none (.px (some 3) (.mv (.v 8)))) .done
@[simp] def W64_1 := @Pl.wpe _ _ K64_1.eq_1
def K64_2 : C := .seq (.pl <| .st (.ext 4 5) <|
    .st (.act none (.ld (some 4) (.v 1) (some 3))) <|
    .st (.act none (.als 5 none 2)) <|
    .st (.act none (.pget (some 6) (some 5) 2 1 none)) <|
    .st (.act none (.ex (some 7) (.call fn_impl_Expr_eval [.v 4, .v 6]))) K64_1) (.ret)
@[simp] def W64_2 := @C.wpe _ _ K64_2.eq_1
def B_impl_CheckInvariant_1 : C := .seq (.pl <| .st (.ext 4 0) <|
    .st (.act none (.pnew 2 (.v 0) [])) <|
    .st (.act none (.px (some 3) (.mv (.c (.bool false))))) .done) K64_2
@[simp] def WB_impl_CheckInvariant_1 := @C.wpe _ _ B_impl_CheckInvariant_1.eq_1
def R_impl_CheckInvariant_1 : FIR := ⟨B_impl_CheckInvariant_1, 4, [(3, none)]⟩
theorem IR_impl_CheckInvariant_1 : cfun Tryz.prog H_impl_CheckInvariant_1 Tryz.f64 = some R_impl_CheckInvariant_1 := by kernel_rfl
theorem EN_impl_CheckInvariant_1 {args : List Value} {h : Heap} {k : Value → Heap → Prop} (hargs : args.length = 2) (hw : B_impl_CheckInvariant_1.wp Tryz.prog (retQ [(3, none)] k) (env0 args 4) h) : CallE Tryz.prog fn_impl_CheckInvariant_1 args h k := enter Tryz.func64 rfl IR_impl_CheckInvariant_1 hargs hw

def H_impl_EvalExpr : Hint := ⟨[(0, false), (1, false), (2, true), (4, false), (5, false)], []⟩
def K26_1 : Pl := .st (.act none (.px (some 3) (.mv (.v 7)))) <|
    .st (.act none (.px (some 4) (.mv (.c (.bool true))))) .done
@[simp] def W26_1 := @Pl.wpe _ _ K26_1.eq_1
def K26_2 : C := .seq (.pl <| .st (.ext 5 3) <|
    .st (.act none (.pget (some 5) none 2 0 (some 3))) <|
    .st (.act none (.px (some 6) (.mv (.v 1)))) <|
    .st (.act none (.ex (some 7) (.call fn_impl_Expr_eval [.v 5, .v 6]))) K26_1) (.ret)
@[simp] def W26_2 := @C.wpe _ _ K26_2.eq_1
def K26_3 : C := .seq (.pl <| .st (.ext 5 0) <|
    .st (.act none (.px (some 3) (.mv (.c (.int .i64 0))))) <|
    .st (.act none (.px (some 4) (.mv (.c (.bool false))))) .done) (.ret)
@[simp] def W26_3 := @C.wpe _ _ K26_3.eq_1
def K26_4 : C := .cond 5 (.v 12) K26_3 (.skip)
@[simp] def W26_4 := @C.wpe _ _ K26_4.eq_1
def K26_5 : Pl := .st (.act (some (.v 8, false)) (.px (some 11) (.un .not (.v 10)))) <|
    .st (.act none (.px (some 12) (.pick (.v 8) (.c (.bool true)) (.v 11)))) .done
@[simp] def W26_5 := @Pl.wpe _ _ K26_5.eq_1
def K26_6 : Pl := .st (.act none (.px (some 7) (.un .not (.v 6)))) <|
    .st (.act none (.px (some 8) (.mv (.v 7)))) <|
    .st (.act (some (.v 8, false)) (.px (some 9) (.mv (.v 1)))) <|
    .st (.act (some (.v 8, false)) (.ex (some 10) (.call fn_impl_valsOk [.v 9]))) K26_5
@[simp] def W26_6 := @Pl.wpe _ _ K26_6.eq_1
def K26_7 : C := .seq (.seq (.pl <| .st (.ext 5 8) <|
    .st (.act none (.pget (some 5) none 2 0 (some 3))) <|
    .st (.act none (.ex (some 6) (.call fn_impl_ExprValid [.v 5]))) K26_6) K26_4) K26_2
@[simp] def W26_7 := @C.wpe _ _ K26_7.eq_1
def B_impl_EvalExpr : C := .seq (.pl <| .st (.ext 5 0) <|
    .st (.act none (.pnew 2 (.v 0) [])) <|
    .st (.act none (.px (some 3) (.mv (.c (.int .i64 0))))) <|
    .st (.act none (.px (some 4) (.mv (.c (.bool false))))) .done) K26_7
@[simp] def WB_impl_EvalExpr := @C.wpe _ _ B_impl_EvalExpr.eq_1
def R_impl_EvalExpr : FIR := ⟨B_impl_EvalExpr, 5, [(3, none), (4, none)]⟩
theorem IR_impl_EvalExpr : cfun Tryz.prog H_impl_EvalExpr Tryz.f26 = some R_impl_EvalExpr := by kernel_rfl
theorem EN_impl_EvalExpr {args : List Value} {h : Heap} {k : Value → Heap → Prop} (hargs : args.length = 2) (hw : B_impl_EvalExpr.wp Tryz.prog (retQ [(3, none), (4, none)] k) (env0 args 5) h) : CallE Tryz.prog fn_impl_EvalExpr args h k := enter Tryz.func26 rfl IR_impl_EvalExpr hargs hw

def H_laws_FnCheckInvariant : Hint := ⟨[(0, false), (2, false), (3, true), (4, true), (5, false), (6, false), (7, false), (8, false), (9, true), (10, false), (11, false), (12, false), (13, false), (14, false), (15, false)], [[0, 1, 4, 6, 8, 9, 10, 11, 13, 14]]⟩
def K5_1 : Pl := .st (.act none (.px (some 1) (.mv (.v 17)))) .done
@[simp] def W5_1 := @Pl.wpe _ _ K5_1.eq_1
def K5_2 : C := .seq (.pl <| .st (.ext 15 3) <|
    .st (.act none (.pget (some 15) none 2 0 (some 2))) <|
    .st (.act none (.px (some 16) (.mv (.v 5)))) <|
    .st (.act none (.ex (some 17) (.call fn_laws_wpExecution [.v 15, .v 16]))) K5_1) (.ret)
@[simp] def W5_2 := @C.wpe _ _ K5_2.eq_1
def K5_3 : C := .pl <| .st (.ext 15 2) <|
    .st (.act none (.px (some 15) (.mv (.v 12)))) <|
    .st (.act none (.px (some 16) (.bin .add (.v 15) (.c (.int .i64 1))))) <|
    .st (.act none (.px (some 12) (.mv (.v 16)))) .done
@[simp] def W5_3 := @C.wpe _ _ K5_3.eq_1
def K5_4 : C := .seq (.pl <| .st (.ext 15 0) <|
    .st (.act none (.px (some 1) (.mv (.c (.bool false))))) .done) (.ret)
@[simp] def W5_4 := @C.wpe _ _ K5_4.eq_1
def K5_5 : C := .cond 15 (.v 38) K5_4 (.skip)
@[simp] def W5_5 := @C.wpe _ _ K5_5.eq_1
def K5_6 : Pl := .st (.act none (.px (some 24) (.un .not (.v 23)))) <|
    .st (.act none (.px (some 25) (.mv (.v 24)))) <|
    .st (.act (some (.v 25, false)) (.px (some 26) (.mv (.v 14)))) <|
    .st (.act (some (.v 25, false)) (.px (some 27) (.un .not (.v 26)))) <|
    .st (.act none (.px (some 28) (.pick (.v 25) (.c (.bool true)) (.v 27)))) <|
    .st (.act none (.px (some 29) (.mv (.v 28)))) <|
    .st (.act (some (.v 29, false)) (.px (some 30) (.mv (.v 13)))) <|
    .st (.act (some (.v 29, false)) (.px (some 31) (.bin .eql (.v 30) (.c (.int .i64 0))))) <|
    .st (.act (some (.v 29, false)) (.px (some 32) (.mv (.v 12)))) <|
    .st (.act (some (.v 29, false)) (.px (some 33) (.mv (.v 5)))) <|
    .st (.act (some (.v 29, false)) (.px (some 34) (.lenV (.v 33)))) <|
    .st (.act (some (.v 29, false)) (.px (some 35) (.bin .sub (.v 34) (.c (.int .i64 1))))) <|
    .st (.act (some (.v 29, false)) (.px (some 36) (.bin .eql (.v 32) (.v 35)))) <|
    .st (.act (some (.v 29, false)) (.px (some 37) (.eqb true (.v 31) (.v 36)))) <|
    .st (.act none (.px (some 38) (.pick (.v 29) (.c (.bool true)) (.v 37)))) .done
@[simp] def W5_6 := @Pl.wpe _ _ K5_6.eq_1
def K5_7 : C := .seq (.pl <| .st (.ext 15 24) <|
    .st (.act none (.px (some 15) (.mv (.v 5)))) <|
    .st (.act none (.px (some 16) (.mv (.v 12)))) <|
    .st (.act none (.px (some 17) (.ia 2 (.v 15) (.v 16)))) <|
    .st (.act none (.ld (some 18) (.v 17) (some 2))) <|
    .st (.act none (.px (some 19) (.mv (.v 7)))) <|
    .st (.act none (.px (some 20) (.mv (.v 12)))) <|
    .st (.act none (.px (some 21) (.ia 2 (.v 19) (.v 20)))) <|
    .st (.act none (.ld (some 22) (.v 21) (some 2))) <|
    .st (.act none (.ex (some 23) (.call fn_impl_StateSame [.v 18, .v 22]))) K5_6) K5_5
@[simp] def W5_7 := @C.wpe _ _ K5_7.eq_1
def K5_8 : Pl := .st (.act none (.px (some 22) (.mv (.v 21)))) <|
    .st (.act none (.px (some 23) (.extract 0 (.v 22)))) <|
    .st (.act none (.px (some 24) (.extract 1 (.v 22)))) <|
    .st (.act none (.px (some 13) (.mv (.v 23)))) <|
    .st (.act none (.px (some 14) (.mv (.v 24)))) .done
@[simp] def W5_8 := @Pl.wpe _ _ K5_8.eq_1
def K5_9 : C := .seq (.block 1 (.seq (.pl <| .st (.ext 15 10) <|
    .st (.act none (.pget (some 15) none 3 0 (some 3))) <|
    .st (.act none (.px (some 16) (.mv (.v 5)))) <|
    .st (.act none (.px (some 17) (.mv (.v 12)))) <|
    .st (.act none (.px (some 18) (.ia 2 (.v 16) (.v 17)))) <|
    .st (.act none (.px (some 19) (.fa 1 (.v 18)))) <|
    .st (.act none (.ld (some 20) (.v 19) none)) <|
    .st (.act none (.ex (some 21) (.call fn_impl_EvalExpr [.v 15, .v 20]))) K5_8) K5_7)) K5_3
@[simp] def W5_9 := @C.wpe _ _ K5_9.eq_1
def K5_10 : C := .cond 15 (.v 18) (.skip) (.exit 0)
@[simp] def W5_10 := @C.wpe _ _ K5_10.eq_1
def K5_11 : C := .seq (.seq (.pl <| .st (.ext 15 4) <|
    .st (.act none (.px (some 15) (.mv (.v 12)))) <|
    .st (.act none (.px (some 16) (.mv (.v 5)))) <|
    .st (.act none (.px (some 17) (.lenV (.v 16)))) <|
    .st (.act none (.px (some 18) (.bin .lss (.v 15) (.v 17)))) .done) K5_10) K5_9
@[simp] def W5_11 := @C.wpe _ _ K5_11.eq_1
def K5_12 : C := .block 0 (.loop 15 [0, 1, 4, 6, 8, 9, 10, 11, 13, 14] K5_11)
@[simp] def W5_12 := @C.wpe _ _ K5_12.eq_1
def K5_13 : C := .seq (.seq (.pl <| .st (.ext 15 0) <|
    .st (.act none (.px (some 12) (.mv (.c (.int .i64 0))))) .done) K5_12) K5_2
@[simp] def W5_13 := @C.wpe _ _ K5_13.eq_1
def K5_14 : C := .seq (.pl <| .st (.ext 15 5) <|
    .st (.act none (.px (some 15) (.mv (.v 11)))) <|
    .st (.act none (.px (some 16) (.mv (.v 15)))) <|
    .st (.act (some (.v 16, true)) (.px (some 17) (.mv (.v 10)))) <|
    .st (.act (some (.v 16, true)) (.px (some 18) (.bin .neq (.v 17) (.c (.int .i64 0))))) <|
    .st (.act none (.px (some 19) (.pick (.v 16) (.v 18) (.c (.bool false))))) <|
    .st (.act none (.px (some 1) (.mv (.v 19)))) .done) (.ret)
@[simp] def W5_14 := @C.wpe _ _ K5_14.eq_1
def K5_15 : Pl := .st (.act none (.px (some 28) (.mv (.v 27)))) <|
    .st (.act none (.px (some 29) (.extract 0 (.v 28)))) <|
    .st (.act none (.px (some 30) (.extract 1 (.v 28)))) <|
    .st (.act none (.px (some 10) (.mv (.v 29)))) <|
    .st (.act none (.px (some 11) (.mv (.v 30)))) .done
@[simp] def W5_15 := @Pl.wpe _ _ K5_15.eq_1
def K5_16 : C := .seq (.pl <| .st (.ext 15 16) <|
    .st (.act none (.pget (some 15) none 3 0 (some 3))) <|
    .st (.act none (.als 16 none 8)) <|
    .st (.act none (.pget (some 17) (some 16) 8 0 none)) <|
    .st (.act none (.px (some 18) (.mv (.v 0)))) <|
    .st (.act none (.px (some 19) (.lenV (.v 18)))) <|
    .st (.act none (.als 20 none 8)) <|
    .st (.act none (.pget (some 21) (some 20) 8 0 none)) <|
    .st (.act none (.px (some 22) (.lenV (.v 21)))) <|
    .st (.act none (.px (some 23) (.bin .rem (.v 19) (.v 22)))) <|
    .st (.act none (.px (some 24) (.ia 2 (.v 17) (.v 23)))) <|
    .st (.act none (.px (some 25) (.fa 1 (.v 24)))) <|
    .st (.act none (.ld (some 26) (.v 25) none)) <|
    .st (.act none (.ex (some 27) (.call fn_impl_EvalExpr [.v 15, .v 26]))) K5_15) K5_14
@[simp] def W5_16 := @C.wpe _ _ K5_16.eq_1
def K5_17 : C := .seq (.pl <| .st (.ext 15 0) <|
    .st (.act none (.px (some 1) (.mv (.c (.bool false))))) .done) (.ret)
@[simp] def W5_17 := @C.wpe _ _ K5_17.eq_1
def K5_18 : C := .cond 15 (.v 16) K5_17 (.skip)
@[simp] def W5_18 := @C.wpe _ _ K5_18.eq_1
def K5_19 : C := .seq (.seq (.pl <| .st (.ext 15 2) <|
    .st (.act none (.px (some 15) (.mv (.v 9)))) <|
    .st (.act none (.px (some 16) (.un .not (.v 15)))) .done) K5_18) K5_16
@[simp] def W5_19 := @C.wpe _ _ K5_19.eq_1
def K5_20 : Pl := .st (.act none (.px (some 17) (.mv (.v 16)))) <|
    .st (.act none (.px (some 18) (.extract 0 (.v 17)))) <|
    .st (.act none (.px (some 19) (.extract 1 (.v 17)))) <|
    .st (.act none (.pnew 8 (.c (.agg #[.slice none 0 0, .slice none 0 0])) [])) <|
    .st (.act none (.pset none 8 0 2 (.v 18))) <|
    .st (.act none (.px (some 9) (.mv (.v 19)))) .done
@[simp] def W5_20 := @Pl.wpe _ _ K5_20.eq_1
def K5_21 : C := .seq (.pl <| .st (.ext 15 5) <|
    .st (.act none (.pget (some 15) none 2 0 (some 2))) <|
    .st (.act none (.ex (some 16) (.call fn_impl_BuildGraph [.v 15]))) K5_20) K5_19
@[simp] def W5_21 := @C.wpe _ _ K5_21.eq_1
def K5_22 : C := .cond 15 (.v 16) K5_21 (.skip)
@[simp] def W5_22 := @C.wpe _ _ K5_22.eq_1
def K5_23 : C := .seq (.seq (.pl <| .st (.ext 15 2) <|
    .st (.act none (.px (some 15) (.mv (.v 4)))) <|
    .st (.act none (.px (some 16) (.bin .eql (.v 15) (.c (.int .i64 0))))) .done) K5_22) K5_13
@[simp] def W5_23 := @C.wpe _ _ K5_23.eq_1
def K5_24 : C := .seq (.pl <| .st (.ext 15 10) <|
    .st (.act none (.px (some 15) (.mv (.v 4)))) <|
    .st (.act none (.px (some 16) (.mv (.v 6)))) <|
    .st (.act none (.px (some 17) (.bin .eql (.v 15) (.v 16)))) <|
    .st (.act none (.px (some 18) (.mv (.v 17)))) <|
    .st (.act (some (.v 18, true)) (.px (some 19) (.mv (.v 5)))) <|
    .st (.act (some (.v 18, true)) (.px (some 20) (.lenV (.v 19)))) <|
    .st (.act (some (.v 18, true)) (.px (some 21) (.mv (.v 7)))) <|
    .st (.act (some (.v 18, true)) (.px (some 22) (.lenV (.v 21)))) <|
    .st (.act (some (.v 18, true)) (.px (some 23) (.bin .eql (.v 20) (.v 22)))) <|
    .st (.act none (.px (some 24) (.pick (.v 18) (.v 23) (.c (.bool false))))) <|
    .st (.act none (.px (some 1) (.mv (.v 24)))) .done) (.ret)
@[simp] def W5_24 := @C.wpe _ _ K5_24.eq_1
def K5_25 : C := .cond 15 (.v 28) K5_24 (.skip)
@[simp] def W5_25 := @C.wpe _ _ K5_25.eq_1
def K5_26 : C := .seq (.seq (.pl <| .st (.ext 15 14) <|
    .st (.act none (.px (some 15) (.mv (.v 4)))) <|
    .st (.act none (.px (some 16) (.mv (.v 6)))) <|
    .st (.act none (.px (some 17) (.bin .neq (.v 15) (.v 16)))) <|
    .st (.act none (.px (some 18) (.mv (.v 17)))) <|
    .st (.act (some (.v 18, false)) (.px (some 19) (.mv (.v 5)))) <|
    .st (.act (some (.v 18, false)) (.px (some 20) (.lenV (.v 19)))) <|
    .st (.act (some (.v 18, false)) (.px (some 21) (.mv (.v 7)))) <|
    .st (.act (some (.v 18, false)) (.px (some 22) (.lenV (.v 21)))) <|
    .st (.act (some (.v 18, false)) (.px (some 23) (.bin .neq (.v 20) (.v 22)))) <|
    .st (.act none (.px (some 24) (.pick (.v 18) (.c (.bool true)) (.v 23)))) <|
    .st (.act none (.px (some 25) (.mv (.v 24)))) <|
    .st (.act (some (.v 25, false)) (.px (some 26) (.mv (.v 4)))) <|
    .st (.act (some (.v 25, false)) (.px (some 27) (.bin .geq (.v 26) (.c (.int .i64 2))))) <|
    .st (.act none (.px (some 28) (.pick (.v 25) (.c (.bool true)) (.v 27)))) .done) K5_25) K5_23
@[simp] def W5_26 := @C.wpe _ _ K5_26.eq_1
def K5_27 : Pl := .st (.act none (.px (some 18) (.mv (.v 17)))) <|
    .st (.act none (.px (some 19) (.extract 0 (.v 18)))) <|
    .st (.act none (.px (some 20) (.extract 1 (.v 18)))) <|
    .st (.act none (.px (some 6) (.mv (.v 19)))) <|
    .st (.act none (.px (some 7) (.mv (.v 20)))) .done
@[simp] def W5_27 := @Pl.wpe _ _ K5_27.eq_1
def K5_28 : C := .seq (.pl <| .st (.ext 15 6) <|
    .st (.act none (.pget (some 15) none 2 0 (some 2))) <|
    .st (.act none (.pget (some 16) none 3 0 (some 3))) <|
    .st (.act none (.ex (some 17) (.call fn_spec_CheckInvariant [.v 15, .v 16]))) K5_27) K5_26
@[simp] def W5_28 := @C.wpe _ _ K5_28.eq_1
def K5_29 : Pl := .st (.act none (.px (some 18) (.mv (.v 17)))) <|
    .st (.act none (.px (some 19) (.extract 0 (.v 18)))) <|
    .st (.act none (.px (some 20) (.extract 1 (.v 18)))) <|
    .st (.act none (.px (some 4) (.mv (.v 19)))) <|
    .st (.act none (.px (some 5) (.mv (.v 20)))) .done
@[simp] def W5_29 := @Pl.wpe _ _ K5_29.eq_1
def K5_30 : C := .seq (.pl <| .st (.ext 15 6) <|
    .st (.act none (.pget (some 15) none 2 0 (some 2))) <|
    .st (.act none (.pget (some 16) none 3 0 (some 3))) <|
    .st (.act none (.ex (some 17) (.call fn_impl_CheckInvariant [.v 15, .v 16]))) K5_29) K5_28
@[simp] def W5_30 := @C.wpe _ _ K5_30.eq_1
def K5_31 : Pl := .st (.act none (.px (some 17) (.mv (.v 16)))) <|
    .st (.act none (.px (some 18) (.extract 0 (.v 17)))) <|
    .st (.act none (.px (some 19) (.extract 1 (.v 17)))) <|
    .st (.act none (.pnew 2 (.c (.agg #[.slice none 0 0, .slice none 0 0])) [])) <|
    .st (.act none (.pnew 3 (.c (.agg #[.int .i64 0, .int .i64 0, .slice none 0 0])) [])) <|
    .st (.act none (.pset none 2 0 2 (.v 18))) <|
    .st (.act none (.pset none 3 0 3 (.v 19))) .done
@[simp] def W5_31 := @Pl.wpe _ _ K5_31.eq_1
def K5_32 : C := .seq (.pl <| .st (.ext 15 5) <|
    .st (.act none (.px (some 15) (.mv (.v 0)))) <|
    .st (.act none (.ex (some 16) (.call fn_spec_DrawCheckInvariant [.v 15]))) K5_31) K5_30
@[simp] def W5_32 := @C.wpe _ _ K5_32.eq_1
def K5_33 : C := .seq (.pl <| .st (.ext 15 0) <|
    .st (.act none (.px (some 1) (.mv (.c (.bool true))))) .done) (.ret)
@[simp] def W5_33 := @C.wpe _ _ K5_33.eq_1
def K5_34 : C := .cond 15 (.v 17) K5_33 (.skip)
@[simp] def W5_34 := @C.wpe _ _ K5_34.eq_1
def K5_35 : C := .seq (.seq (.pl <| .st (.ext 15 3) <|
    .st (.act none (.px (some 15) (.mv (.v 0)))) <|
    .st (.act none (.px (some 16) (.lenV (.v 15)))) <|
    .st (.act none (.px (some 17) (.bin .gtr (.v 16) (.c (.int .i64 1048576))))) .done) K5_34) K5_32
@[simp] def W5_35 := @C.wpe _ _ K5_35.eq_1
def B_laws_FnCheckInvariant : C := .seq (.pl <| .st (.ext 15 0) <|
    .st (.act none (.px (some 1) (.mv (.c (.bool false))))) .done) K5_35
@[simp] def WB_laws_FnCheckInvariant := @C.wpe _ _ B_laws_FnCheckInvariant.eq_1
def R_laws_FnCheckInvariant : FIR := ⟨B_laws_FnCheckInvariant, 15, [(1, none)]⟩
theorem IR_laws_FnCheckInvariant : cfun Tryz.prog H_laws_FnCheckInvariant Tryz.f5 = some R_laws_FnCheckInvariant := by kernel_rfl
theorem EN_laws_FnCheckInvariant {args : List Value} {h : Heap} {k : Value → Heap → Prop} (hargs : args.length = 1) (hw : B_laws_FnCheckInvariant.wp Tryz.prog (retQ [(1, none)] k) (env0 args 15) h) : CallE Tryz.prog fn_laws_FnCheckInvariant args h k := enter Tryz.func5 rfl IR_laws_FnCheckInvariant hargs hw

def H_spec_CheckInvariant : Hint := ⟨[(0, false), (1, false), (2, true), (3, true), (4, false), (5, false), (6, true), (7, false), (8, false), (9, false)], [[0, 1, 2, 4, 5, 7]]⟩
def K25_1 : Pl := .st (.act none (.px (some 13) (.extract 0 (.v 12)))) <|
    .st (.act none (.px (some 14) (.extract 1 (.v 12)))) <|
    .st (.act none (.px (some 4) (.mv (.v 13)))) <|
    .st (.act none (.px (some 5) (.mv (.v 14)))) .done
@[simp] def W25_1 := @Pl.wpe _ _ K25_1.eq_1
def K25_2 : C := .seq (.pl <| .st (.ext 10 5) <|
    .st (.act none (.pget (some 10) none 6 0 (some 2))) <|
    .st (.act none (.px (some 11) (.mv (.v 8)))) <|
    .st (.act none (.ex (some 12) (.call fn_spec_l4First [.v 10, .v 11]))) K25_1) (.ret)
@[simp] def W25_2 := @C.wpe _ _ K25_2.eq_1
def K25_3 : C := .pl <| .st (.ext 10 2) <|
    .st (.act none (.px (some 10) (.mv (.v 9)))) <|
    .st (.act none (.px (some 11) (.bin .add (.v 10) (.c (.int .i64 1))))) <|
    .st (.act none (.px (some 9) (.mv (.v 11)))) .done
@[simp] def W25_3 := @C.wpe _ _ K25_3.eq_1
def K25_4 : Pl := .st (.act none (.px (some 8) (.mv (.v 21)))) .done
@[simp] def W25_4 := @Pl.wpe _ _ K25_4.eq_1
def K25_5 : Pl := .st (.act none (.px (some 19) (.bin .eql (.v 18) (.c (.int .i64 0))))) <|
    .st (.act none (.psl 20 [.bool false] [(0, 1, .v 19)])) <|
    .st (.act none (.ex (some 21) (.app 1 1 [.bool false] (.o (.v 10)) (.p 1 20)))) K25_4
@[simp] def W25_5 := @Pl.wpe _ _ K25_5.eq_1
def K25_6 : C := .seq (.block 1 (.pl <| .st (.ext 10 12) <|
    .st (.act none (.px (some 10) (.mv (.v 8)))) <|
    .st (.act none (.pget (some 11) none 3 0 (some 3))) <|
    .st (.act none (.als 12 none 6)) <|
    .st (.act none (.pget (some 13) (some 12) 6 0 none)) <|
    .st (.act none (.px (some 14) (.mv (.v 9)))) <|
    .st (.act none (.px (some 15) (.ia 2 (.v 13) (.v 14)))) <|
    .st (.act none (.px (some 16) (.fa 1 (.v 15)))) <|
    .st (.act none (.ld (some 17) (.v 16) none)) <|
    .st (.act none (.ex (some 18) (.call fn_spec_l1Eval [.v 11, .v 17]))) K25_5)) K25_3
@[simp] def W25_6 := @C.wpe _ _ K25_6.eq_1
def K25_7 : C := .cond 10 (.v 14) (.skip) (.exit 0)
@[simp] def W25_7 := @C.wpe _ _ K25_7.eq_1
def K25_8 : C := .seq (.seq (.pl <| .st (.ext 10 5) <|
    .st (.act none (.px (some 10) (.mv (.v 9)))) <|
    .st (.act none (.als 11 none 6)) <|
    .st (.act none (.pget (some 12) (some 11) 6 0 none)) <|
    .st (.act none (.px (some 13) (.lenV (.v 12)))) <|
    .st (.act none (.px (some 14) (.bin .lss (.v 10) (.v 13)))) .done) K25_7) K25_6
@[simp] def W25_8 := @C.wpe _ _ K25_8.eq_1
def K25_9 : C := .block 0 (.loop 10 [0, 1, 2, 4, 5, 7] K25_8)
@[simp] def W25_9 := @C.wpe _ _ K25_9.eq_1
def K25_10 : C := .seq (.seq (.pl <| .st (.ext 10 0) <|
    .st (.act none (.px (some 9) (.mv (.c (.int .i64 0))))) .done) K25_9) K25_2
@[simp] def W25_10 := @C.wpe _ _ K25_10.eq_1
def K25_11 : Pl := .st (.act none (.px (some 8) (.mv (.v 10)))) .done
@[simp] def W25_11 := @Pl.wpe _ _ K25_11.eq_1
def K25_12 : C := .seq (.pl <| .st (.ext 10 1) <|
    .st (.act none (.ex (some 10) (.bls 1 0 [.bool false] []))) K25_11) K25_10
@[simp] def W25_12 := @C.wpe _ _ K25_12.eq_1
def K25_13 : Pl := .st (.act none (.px (some 4) (.mv (.c (.int .i64 2))))) <|
    .st (.act none (.px (some 5) (.mv (.v 10)))) .done
@[simp] def W25_13 := @Pl.wpe _ _ K25_13.eq_1
def K25_14 : C := .seq (.pl <| .st (.ext 10 1) <|
    .st (.act none (.ex (some 10) (.bls 2 0 [.slice none 0 0, .slice none 0 0] []))) K25_13) (.ret)
@[simp] def W25_14 := @C.wpe _ _ K25_14.eq_1
def K25_15 : C := .cond 10 (.v 11) K25_14 (.skip)
@[simp] def W25_15 := @C.wpe _ _ K25_15.eq_1
def K25_16 : C := .seq (.seq (.pl <| .st (.ext 10 2) <|
    .st (.act none (.px (some 10) (.mv (.v 7)))) <|
    .st (.act none (.px (some 11) (.un .not (.v 10)))) .done) K25_15) K25_12
@[simp] def W25_16 := @C.wpe _ _ K25_16.eq_1
def K25_17 : Pl := .st (.act none (.px (some 12) (.mv (.v 11)))) <|
    .st (.act none (.px (some 13) (.extract 0 (.v 12)))) <|
    .st (.act none (.px (some 14) (.extract 1 (.v 12)))) <|
    .st (.act none (.pnew 6 (.c (.agg #[.slice none 0 0, .slice none 0 0])) [])) <|
    .st (.act none (.pset none 6 0 2 (.v 13))) <|
    .st (.act none (.px (some 7) (.mv (.v 14)))) .done
@[simp] def W25_17 := @Pl.wpe _ _ K25_17.eq_1
def K25_18 : C := .seq (.pl <| .st (.ext 10 5) <|
    .st (.act none (.pget (some 10) none 2 0 (some 2))) <|
    .st (.act none (.ex (some 11) (.call fn_spec_BuildGraph [.v 10]))) K25_17) K25_16
@[simp] def W25_18 := @C.wpe _ _ K25_18.eq_1
def K25_19 : Pl := .st (.act none (.px (some 4) (.mv (.c (.int .i64 3))))) <|
    .st (.act none (.px (some 5) (.mv (.v 10)))) .done
@[simp] def W25_19 := @Pl.wpe _ _ K25_19.eq_1
def K25_20 : C := .seq (.pl <| .st (.ext 10 1) <|
    .st (.act none (.ex (some 10) (.bls 2 0 [.slice none 0 0, .slice none 0 0] []))) K25_19) (.ret)
@[simp] def W25_20 := @C.wpe _ _ K25_20.eq_1
def K25_21 : C := .cond 10 (.v 17) K25_20 (.skip)
@[simp] def W25_21 := @C.wpe _ _ K25_21.eq_1
def K25_22 : Pl := .st (.act (some (.v 13, false)) (.px (some 16) (.un .not (.v 15)))) <|
    .st (.act none (.px (some 17) (.pick (.v 13) (.c (.bool true)) (.v 16)))) .done
@[simp] def W25_22 := @Pl.wpe _ _ K25_22.eq_1
def K25_23 : Pl := .st (.act none (.px (some 12) (.un .not (.v 11)))) <|
    .st (.act none (.px (some 13) (.mv (.v 12)))) <|
    .st (.act (some (.v 13, false)) (.pget (some 14) none 3 0 (some 3))) <|
    .st (.act (some (.v 13, false)) (.ex (some 15) (.call fn_spec_ExprValid [.v 14]))) K25_22
@[simp] def W25_23 := @Pl.wpe _ _ K25_23.eq_1
def K25_24 : C := .seq (.seq (.pl <| .st (.ext 10 8) <|
    .st (.act none (.pget (some 10) none 2 0 (some 2))) <|
    .st (.act none (.ex (some 11) (.call fn_spec_SystemValid [.v 10]))) K25_23) K25_21) K25_18
@[simp] def W25_24 := @C.wpe _ _ K25_24.eq_1
def B_spec_CheckInvariant : C := .seq (.pl <| .st (.ext 10 0) <|
    .st (.act none (.pnew 2 (.v 0) [])) <|
    .st (.act none (.pnew 3 (.v 1) [])) <|
    .st (.act none (.px (some 4) (.mv (.c (.int .i64 0))))) <|
    .st (.act none (.px (some 5) (.mv (.c (.slice none 0 0))))) .done) K25_24
@[simp] def WB_spec_CheckInvariant := @C.wpe _ _ B_spec_CheckInvariant.eq_1
def R_spec_CheckInvariant : FIR := ⟨B_spec_CheckInvariant, 10, [(4, none), (5, none)]⟩
theorem IR_spec_CheckInvariant : cfun Tryz.prog H_spec_CheckInvariant Tryz.f25 = some R_spec_CheckInvariant := by kernel_rfl
theorem EN_spec_CheckInvariant {args : List Value} {h : Heap} {k : Value → Heap → Prop} (hargs : args.length = 2) (hw : B_spec_CheckInvariant.wp Tryz.prog (retQ [(4, none), (5, none)] k) (env0 args 10) h) : CallE Tryz.prog fn_spec_CheckInvariant args h k := enter Tryz.func25 rfl IR_spec_CheckInvariant hargs hw

def H_spec_DrawCheckInvariant : Hint := ⟨[(0, false), (2, true), (3, true), (4, false), (5, true)], []⟩
def K23_1 : Pl := .st (.act none (.pset none 1 0 2 (.v 5))) <|
    .st (.act none (.pset none 2 0 3 (.v 9))) .done
@[simp] def W23_1 := @Pl.wpe _ _ K23_1.eq_1
def K23_2 : Pl := .st (.act none (.ex (some 9) (.call fn_spec_l1Mutate [.v 6, .v 8]))) K23_1
@[simp] def W23_2 := @Pl.wpe _ _ K23_2.eq_1
def K23_3 : C := .seq (.pl <| .st (.ext 5 5) <|
    .st (.act none (.pget (some 5) none 4 0 (some 2))) <|
    .st (.act none (.px (some 6) (.mv (.v 3)))) <|
    .st (.act none (.px (some 7) (.mv (.v 3)))) <|
    .st (.act none (.ex (some 8) (.call fn_spec_l1Expr [.v 7]))) K23_2) (.ret)
@[simp] def W23_3 := @C.wpe _ _ K23_3.eq_1
def K23_4 : Pl := .st (.act none (.pset none 1 0 2 (.v 5))) <|
    .st (.act none (.pset none 2 0 3 (.v 9))) .done
@[simp] def W23_4 := @Pl.wpe _ _ K23_4.eq_1
def K23_5 : Pl := .st (.act none (.ex (some 9) (.call fn_spec_l1Mutate [.v 6, .v 8]))) K23_4
@[simp] def W23_5 := @Pl.wpe _ _ K23_5.eq_1
def K23_6 : C := .seq (.pl <| .st (.ext 5 5) <|
    .st (.act none (.pget (some 5) none 4 0 (some 2))) <|
    .st (.act none (.px (some 6) (.mv (.v 3)))) <|
    .st (.act none (.px (some 7) (.mv (.v 3)))) <|
    .st (.act none (.ex (some 8) (.call fn_spec_l2Guard [.v 7]))) K23_5) (.ret)
@[simp] def W23_6 := @C.wpe _ _ K23_6.eq_1
def K23_7 : C := .cond 5 (.v 7) K23_6 (.skip)
@[simp] def W23_7 := @C.wpe _ _ K23_7.eq_1
def K23_8 : Pl := .st (.act none (.px (some 7) (.bin .eql (.v 6) (.c (.int .i64 0))))) .done
@[simp] def W23_8 := @Pl.wpe _ _ K23_8.eq_1
def K23_9 : C := .seq (.seq (.pl <| .st (.ext 5 3) <|
    .st (.act none (.px (some 5) (.mv (.v 3)))) <|
    .st (.act none (.ex (some 6) (.call fn_spec_l16Rd_pick [.v 5, .c (.int .i64 2)]))) K23_8) K23_7) K23_3
@[simp] def W23_9 := @C.wpe _ _ K23_9.eq_1
def K23_10 : Pl := .st (.act none (.pnew 4 (.c (.agg #[.slice none 0 0, .slice none 0 0])) [])) <|
    .st (.act none (.pset none 4 0 2 (.v 8))) .done
@[simp] def W23_10 := @Pl.wpe _ _ K23_10.eq_1
def K23_11 : Pl := .st (.act none (.ex (some 8) (.call fn_spec_l2Mutate [.v 5, .v 7]))) K23_10
@[simp] def W23_11 := @Pl.wpe _ _ K23_11.eq_1
def K23_12 : C := .seq (.pl <| .st (.ext 5 4) <|
    .st (.act none (.px (some 5) (.mv (.v 3)))) <|
    .st (.act none (.px (some 6) (.mv (.v 3)))) <|
    .st (.act none (.ex (some 7) (.call fn_spec_l2System [.v 6]))) K23_11) K23_9
@[simp] def W23_12 := @C.wpe _ _ K23_12.eq_1
def K23_13 : Pl := .st (.act none (.px (some 3) (.mv (.v 6)))) .done
@[simp] def W23_13 := @Pl.wpe _ _ K23_13.eq_1
def K23_14 : C := .seq (.pl <| .st (.ext 5 2) <|
    .st (.act none (.px (some 5) (.mv (.v 0)))) <|
    .st (.act none (.ex (some 6) (.call fn_spec_l16Open [.v 5]))) K23_13) K23_12
@[simp] def W23_14 := @C.wpe _ _ K23_14.eq_1
def B_spec_DrawCheckInvariant : C := .seq (.pl <| .st (.ext 5 0) <|
    .st (.act none (.pnew 1 (.c (.agg #[.slice none 0 0, .slice none 0 0])) [])) <|
    .st (.act none (.pnew 2 (.c (.agg #[.int .i64 0, .int .i64 0, .slice none 0 0])) [])) .done) K23_14
@[simp] def WB_spec_DrawCheckInvariant := @C.wpe _ _ B_spec_DrawCheckInvariant.eq_1
def R_spec_DrawCheckInvariant : FIR := ⟨B_spec_DrawCheckInvariant, 5, [(1, some (some 2)), (2, some (some 3))]⟩
theorem IR_spec_DrawCheckInvariant : cfun Tryz.prog H_spec_DrawCheckInvariant Tryz.f23 = some R_spec_DrawCheckInvariant := by kernel_rfl
theorem EN_spec_DrawCheckInvariant {args : List Value} {h : Heap} {k : Value → Heap → Prop} (hargs : args.length = 1) (hw : B_spec_DrawCheckInvariant.wp Tryz.prog (retQ [(1, some (some 2)), (2, some (some 3))] k) (env0 args 5) h) : CallE Tryz.prog fn_spec_DrawCheckInvariant args h k := enter Tryz.func23 rfl IR_spec_DrawCheckInvariant hargs hw


end Go.Proofs.YtonjglbachhdcaaGreat

/-
  Bodies of functions in the small language, as a program printed them, and that each is what the translation gives.
-/
namespace Go.Proofs.YtonjglbachhdcaaGreat
open Go
set_option linter.all false
set_option linter.defProp false
set_option maxRecDepth 1000000

def H_impl_Graph_statesOf : Hint := ⟨[(0, false), (1, false), (2, true), (4, false), (5, false), (6, false), (7, false), (11, false), (12, false), (13, false)], [[0, 1, 3, 5, 6]]⟩
def K69_1 : C := .seq (.pl <| .st (.ext 10 1) <|
    .st (.act none (.px (some 10) (.mv (.v 4)))) <|
    .st (.act none (.px (some 3) (.mv (.v 10)))) .done) (.ret)
@[simp] def W69_1 := @C.wpe _ _ K69_1.eq_1
def K69_2 : C := .pl <| .st (.ext 10 1) <|
    .st (.act none (.px (some 10) (.bin .add (.v 9) (.c (.int .i64 1))))) <|
    .st (.act none (.px (some 9) (.mv (.v 10)))) .done
@[simp] def W69_2 := @C.wpe _ _ K69_2.eq_1
def K69_3 : Pl := .st (.act none (.px (some 18) (.ia 2 (.v 10) (.v 11)))) <|
    .st (.act none (.ex none (.store 2 (.v 18) (.v 17)))) .done
@[simp] def W69_3 := @Pl.wpe _ _ K69_3.eq_1
def K69_4 : C := .pl <| .st (.ext 10 9) <|
    .st (.act none (.px (some 10) (.mv (.v 4)))) <|
    .st (.act none (.px (some 11) (.mv (.v 5)))) <|
    .st (.act none (.als 12 none 2)) <|
    .st (.act none (.pget (some 13) (some 12) 2 0 none)) <|
    .st (.act none (.px (some 14) (.mv (.v 6)))) <|
    .st (.act none (.px (some 15) (.ia 2 (.v 13) (.v 14)))) <|
    .st (.act none (.ld (some 16) (.v 15) (some 2))) <|
    .st (.act none (.ex (some 17) (.call fn_impl_State_copyOf [.v 16]))) K69_3
@[simp] def W69_4 := @C.wpe _ _ K69_4.eq_1
def K69_5 : C := .seq (.block 1 (.seq (.pl <| .st (.ext 10 3) <|
    .st (.act none (.px (some 10) (.mv (.v 9)))) <|
    .st (.act none (.px (some 11) (.ia 1 (.v 7) (.v 9)))) <|
    .st (.act none (.ld (some 12) (.v 11) none)) <|
    .st (.act none (.px (some 5) (.mv (.v 10)))) <|
    .st (.act none (.px (some 6) (.mv (.v 12)))) .done) K69_4)) K69_2
@[simp] def W69_5 := @C.wpe _ _ K69_5.eq_1
def K69_6 : C := .seq (.cond 10 (.v 10) (.skip) (.exit 0)) K69_5
@[simp] def W69_6 := @C.wpe _ _ K69_6.eq_1
def K69_7 : C := .seq (.pl <| .st (.ext 10 1) <|
    .st (.act none (.px (some 10) (.bin .lss (.v 9) (.v 8)))) .done) K69_6
@[simp] def W69_7 := @C.wpe _ _ K69_7.eq_1
def K69_8 : C := .block 0 (.loop 10 [0, 1, 3, 5, 6] K69_7)
@[simp] def W69_8 := @C.wpe _ _ K69_8.eq_1
def K69_9 : C := .seq (.seq (.pl <| .st (.ext 10 0) <|
    .st (.act none (.px (some 7) (.mv (.v 1)))) <|
    .st (.act none (.px (some 8) (.lenV (.v 7)))) <|
    .st (.act none (.px (some 9) (.mv (.c (.int .i64 0))))) .done) K69_8) K69_1
@[simp] def W69_9 := @C.wpe _ _ K69_9.eq_1
def K69_10 : Pl := .st (.act none (.px (some 4) (.mv (.v 12)))) .done
@[simp] def W69_10 := @Pl.wpe _ _ K69_10.eq_1
def K69_11 : C := .seq (.pl <| .st (.ext 10 3) <|
    .st (.act none (.px (some 10) (.mv (.v 1)))) <|
    .st (.act none (.px (some 11) (.lenV (.v 10)))) <|
    .st (.act none (.ex (some 12) (.mks 48 2 [.slice none 0 0, .slice none 0 0] (.v 11) (.v 11)))) K69_10) K69_9
@[simp] def W69_11 := @C.wpe _ _ K69_11.eq_1
def B_impl_Graph_statesOf : C := .seq (.pl <| .st (.ext 10 0) <|
    .st (.act none (.pnew 2 (.v 0) [])) <|
    .st (.act none (.px (some 3) (.mv (.c (.slice none 0 0))))) .done) K69_11
@[simp] def WB_impl_Graph_statesOf := @C.wpe _ _ B_impl_Graph_statesOf.eq_1
def R_impl_Graph_statesOf : FIR := ⟨B_impl_Graph_statesOf, 10, [(3, none)]⟩
theorem IR_impl_Graph_statesOf : cfun Tryz.prog H_impl_Graph_statesOf Tryz.f69 = some R_impl_Graph_statesOf := by kernel_rfl
theorem EN_impl_Graph_statesOf {args : List Value} {h : Heap} {k : Value → Heap → Prop} (hargs : args.length = 2) (hw : B_impl_Graph_statesOf.wp Tryz.prog (retQ [(3, none)] k) (env0 args 10) h) : CallE Tryz.prog fn_impl_Graph_statesOf args h k := enter Tryz.func69 rfl IR_impl_Graph_statesOf hargs hw

def H_impl_check : Hint := ⟨[(0, false), (1, false), (2, false), (3, true), (6, false), (7, false), (8, true), (9, false), (10, false)], []⟩
def K28_1 : C := .seq (.pl <| .st (.ext 9 0) <|
    .st (.act none (.px (some 4) (.mv (.c (.int .i64 0))))) <|
    .st (.act none (.px (some 5) (.mv (.c (.slice none 0 0))))) .done) (.ret)
@[simp] def W28_1 := @C.wpe _ _ K28_1.eq_1
def K28_2 : Pl := .st (.act none (.px (some 4) (.mv (.c (.int .i64 1))))) <|
    .st (.act none (.px (some 5) (.mv (.v 13)))) .done
@[simp] def W28_2 := @Pl.wpe _ _ K28_2.eq_1
def K28_3 : Pl := .st (.act none (.ex (some 13) (.call fn_impl_Graph_statesOf [.v 9, .v 12]))) K28_2
@[simp] def W28_3 := @Pl.wpe _ _ K28_3.eq_1
def K28_4 : C := .seq (.pl <| .st (.ext 9 5) <|
    .st (.act none (.pget (some 9) none 6 0 (some 2))) <|
    .st (.act none (.pget (some 10) none 6 0 (some 2))) <|
    .st (.act none (.px (some 11) (.mv (.v 8)))) <|
    .st (.act none (.ex (some 12) (.call fn_impl_Graph_path [.v 10, .c (.int .i64 0), .v 11]))) K28_3) (.ret)
@[simp] def W28_4 := @C.wpe _ _ K28_4.eq_1
def K28_5 : C := .cond 9 (.v 10) K28_4 (.skip)
@[simp] def W28_5 := @C.wpe _ _ K28_5.eq_1
def K28_6 : C := .seq (.pl <| .st (.ext 9 2) <|
    .st (.act none (.px (some 9) (.mv (.v 8)))) <|
    .st (.act none (.px (some 10) (.bin .geq (.v 9) (.c (.int .i64 0))))) .done) K28_5
@[simp] def W28_6 := @C.wpe _ _ K28_6.eq_1
def K28_7 : Pl := .st (.act none (.px (some 8) (.mv (.v 12)))) .done
@[simp] def W28_7 := @Pl.wpe _ _ K28_7.eq_1
def K28_8 : C := .seq (.seq (.pl <| .st (.ext 9 4) <|
    .st (.act none (.als 9 none 6)) <|
    .st (.act none (.pget (some 10) (some 9) 6 0 none)) <|
    .st (.act none (.px (some 11) (.mv (.v 2)))) <|
    .st (.act none (.ex (some 12) (.call fn_slices_IndexFunc_S_impl_State_impl_State [.v 10, .v 11]))) K28_7) K28_6) K28_1
@[simp] def W28_8 := @C.wpe _ _ K28_8.eq_1
def K28_9 : C := .seq (.pl <| .st (.ext 9 0) <|
    .st (.act none (.px (some 4) (.mv (.c (.int .i64 2))))) <|
    .st (.act none (.px (some 5) (.mv (.c (.slice none 0 0))))) .done) (.ret)
@[simp] def W28_9 := @C.wpe _ _ K28_9.eq_1
def K28_10 : C := .cond 9 (.v 10) K28_9 (.skip)
@[simp] def W28_10 := @C.wpe _ _ K28_10.eq_1
def K28_11 : C := .seq (.seq (.pl <| .st (.ext 9 2) <|
    .st (.act none (.px (some 9) (.mv (.v 7)))) <|
    .st (.act none (.px (some 10) (.un .not (.v 9)))) .done) K28_10) K28_8
@[simp] def W28_11 := @C.wpe _ _ K28_11.eq_1
def K28_12 : Pl := .st (.act none (.px (some 11) (.mv (.v 10)))) <|
    .st (.act none (.px (some 12) (.extract 0 (.v 11)))) <|
    .st (.act none (.px (some 13) (.extract 1 (.v 11)))) <|
    .st (.act none (.pnew 6 (.c (.agg #[.slice none 0 0, .slice none 0 0])) [])) <|
    .st (.act none (.pset none 6 0 2 (.v 12))) <|
    .st (.act none (.px (some 7) (.mv (.v 13)))) .done
@[simp] def W28_12 := @Pl.wpe _ _ K28_12.eq_1
def K28_13 : C := .seq (.pl <| .st (.ext 9 5) <|
    .st (.act none (.pget (some 9) none 3 0 (some 2))) <|
    .st (.act none (.ex (some 10) (.call fn_impl_System_build [.v 9]))) K28_12) K28_11
@[simp] def W28_13 := @C.wpe _ _ K28_13.eq_1
def K28_14 : C := .seq (.pl <| .st (.ext 9 0) <|
    .st (.act none (.px (some 4) (.mv (.c (.int .i64 3))))) <|
    .st (.act none (.px (some 5) (.mv (.c (.slice none 0 0))))) .done) (.ret)
@[simp] def W28_14 := @C.wpe _ _ K28_14.eq_1
def K28_15 : C := .cond 9 (.v 15) K28_14 (.skip)
@[simp] def W28_15 := @C.wpe _ _ K28_15.eq_1
def K28_16 : Pl := .st (.act (some (.v 11, false)) (.px (some 14) (.un .not (.v 13)))) <|
    .st (.act none (.px (some 15) (.pick (.v 11) (.c (.bool true)) (.v 14)))) .done
@[simp] def W28_16 := @Pl.wpe _ _ K28_16.eq_1
def K28_17 : C := .seq (.seq (.pl <| .st (.ext 9 7) <|
    .st (.act none (.px (some 9) (.mv (.v 1)))) <|
    .st (.act none (.px (some 10) (.un .not (.v 9)))) <|
    .st (.act none (.px (some 11) (.mv (.v 10)))) <|
    .st (.act (some (.v 11, false)) (.pget (some 12) none 3 0 (some 2))) <|
    .st (.act (some (.v 11, false)) (.ex (some 13) (.call fn_impl_SystemValid [.v 12]))) K28_16) K28_15) K28_13
@[simp] def W28_17 := @C.wpe _ _ K28_17.eq_1
def B_impl_check : C := .seq (.pl <| .st (.ext 9 0) <|
    .st (.act none (.pnew 3 (.v 0) [])) <|
    .st (.act none (.px (some 4) (.mv (.c (.int .i64 0))))) <|
    .st (.act none (.px (some 5) (.mv (.c (.slice none 0 0))))) .done) K28_17
@[simp] def WB_impl_check := @C.wpe _ _ B_impl_check.eq_1
def R_impl_check : FIR := ⟨B_impl_check, 9, [(4, none), (5, none)]⟩
theorem IR_impl_check : cfun Tryz.prog H_impl_check Tryz.f28 = some R_impl_check := by kernel_rfl
theorem EN_impl_check {args : List Value} {h : Heap} {k : Value → Heap → Prop} (hargs : args.length = 3) (hw : B_impl_check.wp Tryz.prog (retQ [(4, none), (5, none)] k) (env0 args 9) h) : CallE Tryz.prog fn_impl_check args h k := enter Tryz.func28 rfl IR_impl_check hargs hw

def H_laws_wpExecution : Hint := ⟨[(0, false), (1, false), (2, true), (4, false), (5, true), (6, false), (7, false), (8, false), (9, false), (10, false), (11, true), (12, false)], [[0, 3, 4, 5, 7, 8, 9, 10, 11], [0, 3, 4, 5, 10, 11]]⟩
def K11_1 : C := .seq (.pl <| .st (.ext 12 0) <|
    .st (.act none (.px (some 3) (.mv (.c (.bool true))))) .done) (.ret)
@[simp] def W11_1 := @C.wpe _ _ K11_1.eq_1
def K11_2 : C := .pl <| .st (.ext 12 2) <|
    .st (.act none (.px (some 12) (.mv (.v 6)))) <|
    .st (.act none (.px (some 13) (.bin .add (.v 12) (.c (.int .i64 1))))) <|
    .st (.act none (.px (some 6) (.mv (.v 13)))) .done
@[simp] def W11_2 := @C.wpe _ _ K11_2.eq_1
def K11_3 : C := .seq (.pl <| .st (.ext 12 0) <|
    .st (.act none (.px (some 3) (.mv (.c (.bool false))))) .done) (.ret)
@[simp] def W11_3 := @C.wpe _ _ K11_3.eq_1
def K11_4 : C := .cond 12 (.v 13) K11_3 (.skip)
@[simp] def W11_4 := @C.wpe _ _ K11_4.eq_1
def K11_5 : C := .seq (.pl <| .st (.ext 12 2) <|
    .st (.act none (.px (some 12) (.mv (.v 8)))) <|
    .st (.act none (.px (some 13) (.un .not (.v 12)))) .done) K11_4
@[simp] def W11_5 := @C.wpe _ _ K11_5.eq_1
def K11_6 : C := .pl <| .st (.ext 12 2) <|
    .st (.act none (.px (some 12) (.mv (.v 9)))) <|
    .st (.act none (.px (some 13) (.bin .add (.v 12) (.c (.int .i64 1))))) <|
    .st (.act none (.px (some 9) (.mv (.v 13)))) .done
@[simp] def W11_6 := @C.wpe _ _ K11_6.eq_1
def K11_7 : Pl := .st (.act (some (.v 13, false)) (.px (some 23) (.pick (.v 15) (.v 22) (.c (.bool false))))) <|
    .st (.act none (.px (some 24) (.pick (.v 13) (.c (.bool true)) (.v 23)))) <|
    .st (.act none (.px (some 8) (.mv (.v 24)))) .done
@[simp] def W11_7 := @Pl.wpe _ _ K11_7.eq_1
def K11_8 : C := .pl <| .st (.ext 12 13) <|
    .st (.act none (.px (some 12) (.mv (.v 8)))) <|
    .st (.act none (.px (some 13) (.mv (.v 12)))) <|
    .st (.act (some (.v 13, false)) (.px (some 14) (.mv (.v 11)))) <|
    .st (.act (some (.v 13, false)) (.px (some 15) (.mv (.v 14)))) <|
    .st (.act (some (.v 15, true)) (.pget (some 16) none 10 0 (some 2))) <|
    .st (.act (some (.v 15, true)) (.px (some 17) (.mv (.v 1)))) <|
    .st (.act (some (.v 15, true)) (.px (some 18) (.mv (.v 6)))) <|
    .st (.act (some (.v 15, true)) (.px (some 19) (.bin .add (.v 18) (.c (.int .i64 1))))) <|
    .st (.act (some (.v 15, true)) (.px (some 20) (.ia 2 (.v 17) (.v 19)))) <|
    .st (.act (some (.v 15, true)) (.ld (some 21) (.v 20) (some 2))) <|
    .st (.act (some (.v 15, true)) (.ex (some 22) (.call fn_impl_StateSame [.v 16, .v 21]))) K11_7
@[simp] def W11_8 := @C.wpe _ _ K11_8.eq_1
def K11_9 : Pl := .st (.act none (.px (some 22) (.mv (.v 21)))) <|
    .st (.act none (.px (some 23) (.extract 0 (.v 22)))) <|
    .st (.act none (.px (some 24) (.extract 1 (.v 22)))) <|
    .st (.act none (.pset none 10 0 2 (.v 23))) <|
    .st (.act none (.px (some 11) (.mv (.v 24)))) .done
@[simp] def W11_9 := @Pl.wpe _ _ K11_9.eq_1
def K11_10 : C := .seq (.block 3 (.seq (.pl <| .st (.ext 12 13) <|
    .st (.act none (.pget (some 12) none 2 0 (some 2))) <|
    .st (.act none (.px (some 13) (.mv (.v 1)))) <|
    .st (.act none (.px (some 14) (.mv (.v 6)))) <|
    .st (.act none (.px (some 15) (.ia 2 (.v 13) (.v 14)))) <|
    .st (.act none (.ld (some 16) (.v 15) (some 2))) <|
    .st (.act none (.px (some 17) (.mv (.v 7)))) <|
    .st (.act none (.px (some 18) (.mv (.v 9)))) <|
    .st (.act none (.px (some 19) (.ia 4 (.v 17) (.v 18)))) <|
    .st (.act none (.ld (some 20) (.v 19) (some 4))) <|
    .st (.act none (.pnew 10 (.c (.agg #[.slice none 0 0, .slice none 0 0])) [])) <|
    .st (.act none (.ex (some 21) (.call fn_impl_ApplyStep [.v 12, .v 16, .v 20]))) K11_9) K11_8)) K11_6
@[simp] def W11_10 := @C.wpe _ _ K11_10.eq_1
def K11_11 : C := .cond 12 (.v 15) (.skip) (.exit 2)
@[simp] def W11_11 := @C.wpe _ _ K11_11.eq_1
def K11_12 : C := .seq (.seq (.pl <| .st (.ext 12 4) <|
    .st (.act none (.px (some 12) (.mv (.v 9)))) <|
    .st (.act none (.px (some 13) (.mv (.v 7)))) <|
    .st (.act none (.px (some 14) (.lenV (.v 13)))) <|
    .st (.act none (.px (some 15) (.bin .lss (.v 12) (.v 14)))) .done) K11_11) K11_10
@[simp] def W11_12 := @C.wpe _ _ K11_12.eq_1
def K11_13 : C := .block 2 (.loop 12 [0, 3, 4, 5, 10, 11] K11_12)
@[simp] def W11_13 := @C.wpe _ _ K11_13.eq_1
def K11_14 : C := .seq (.seq (.pl <| .st (.ext 12 0) <|
    .st (.act none (.px (some 9) (.mv (.c (.int .i64 0))))) .done) K11_13) K11_5
@[simp] def W11_14 := @C.wpe _ _ K11_14.eq_1
def K11_15 : C := .seq (.pl <| .st (.ext 12 0) <|
    .st (.act none (.px (some 8) (.mv (.c (.bool false))))) .done) K11_14
@[simp] def W11_15 := @C.wpe _ _ K11_15.eq_1
def K11_16 : Pl := .st (.act none (.px (some 7) (.mv (.v 17)))) .done
@[simp] def W11_16 := @Pl.wpe _ _ K11_16.eq_1
def K11_17 : C := .seq (.block 1 (.seq (.pl <| .st (.ext 12 6) <|
    .st (.act none (.pget (some 12) none 2 0 (some 2))) <|
    .st (.act none (.px (some 13) (.mv (.v 1)))) <|
    .st (.act none (.px (some 14) (.mv (.v 6)))) <|
    .st (.act none (.px (some 15) (.ia 2 (.v 13) (.v 14)))) <|
    .st (.act none (.ld (some 16) (.v 15) (some 2))) <|
    .st (.act none (.ex (some 17) (.call fn_impl_EnabledSteps [.v 12, .v 16]))) K11_16) K11_15)) K11_2
@[simp] def W11_17 := @C.wpe _ _ K11_17.eq_1
def K11_18 : C := .cond 12 (.v 16) (.skip) (.exit 0)
@[simp] def W11_18 := @C.wpe _ _ K11_18.eq_1
def K11_19 : C := .seq (.seq (.pl <| .st (.ext 12 5) <|
    .st (.act none (.px (some 12) (.mv (.v 6)))) <|
    .st (.act none (.px (some 13) (.bin .add (.v 12) (.c (.int .i64 1))))) <|
    .st (.act none (.px (some 14) (.mv (.v 1)))) <|
    .st (.act none (.px (some 15) (.lenV (.v 14)))) <|
    .st (.act none (.px (some 16) (.bin .lss (.v 13) (.v 15)))) .done) K11_18) K11_17
@[simp] def W11_19 := @C.wpe _ _ K11_19.eq_1
def K11_20 : C := .block 0 (.loop 12 [0, 3, 4, 5, 7, 8, 9, 10, 11] K11_19)
@[simp] def W11_20 := @C.wpe _ _ K11_20.eq_1
def K11_21 : C := .seq (.seq (.pl <| .st (.ext 12 0) <|
    .st (.act none (.px (some 6) (.mv (.c (.int .i64 0))))) .done) K11_20) K11_1
@[simp] def W11_21 := @C.wpe _ _ K11_21.eq_1
def K11_22 : C := .seq (.pl <| .st (.ext 12 0) <|
    .st (.act none (.px (some 3) (.mv (.c (.bool false))))) .done) (.ret)
@[simp] def W11_22 := @C.wpe _ _ K11_22.eq_1
def K11_23 : C := .cond 12 (.v 26) K11_22 (.skip)
@[simp] def W11_23 := @C.wpe _ _ K11_23.eq_1
def K11_24 : Pl := .st (.act (some (.v 19, false)) (.px (some 25) (.un .not (.v 24)))) <|
    .st (.act none (.px (some 26) (.pick (.v 19) (.c (.bool true)) (.v 25)))) .done
@[simp] def W11_24 := @Pl.wpe _ _ K11_24.eq_1
def K11_25 : C := .seq (.seq (.pl <| .st (.ext 12 15) <|
    .st (.act none (.px (some 12) (.mv (.v 5)))) <|
    .st (.act none (.px (some 13) (.un .not (.v 12)))) <|
    .st (.act none (.px (some 14) (.mv (.v 13)))) <|
    .st (.act (some (.v 14, false)) (.px (some 15) (.mv (.v 1)))) <|
    .st (.act (some (.v 14, false)) (.px (some 16) (.lenV (.v 15)))) <|
    .st (.act (some (.v 14, false)) (.px (some 17) (.bin .eql (.v 16) (.c (.int .i64 0))))) <|
    .st (.act none (.px (some 18) (.pick (.v 14) (.c (.bool true)) (.v 17)))) <|
    .st (.act none (.px (some 19) (.mv (.v 18)))) <|
    .st (.act (some (.v 19, false)) (.px (some 20) (.mv (.v 1)))) <|
    .st (.act (some (.v 19, false)) (.px (some 21) (.ia 2 (.v 20) (.c (.int .i64 0))))) <|
    .st (.act (some (.v 19, false)) (.ld (some 22) (.v 21) (some 2))) <|
    .st (.act (some (.v 19, false)) (.pget (some 23) none 4 0 (some 2))) <|
    .st (.act (some (.v 19, false)) (.ex (some 24) (.call fn_impl_StateSame [.v 22, .v 23]))) K11_24) K11_23) K11_21
@[simp] def W11_25 := @C.wpe _ _ K11_25.eq_1
def K11_26 : Pl := .st (.act none (.px (some 14) (.mv (.v 13)))) <|
    .st (.act none (.px (some 15) (.extract 0 (.v 14)))) <|
    .st (.act none (.px (some 16) (.extract 1 (.v 14)))) <|
    .st (.act none (.pnew 4 (.c (.agg #[.slice none 0 0, .slice none 0 0])) [])) <|
    .st (.act none (.pset none 4 0 2 (.v 15))) <|
    .st (.act none (.px (some 5) (.mv (.v 16)))) .done
@[simp] def W11_26 := @Pl.wpe _ _ K11_26.eq_1
def K11_27 : C := .seq (.pl <| .st (.ext 12 5) <|
    .st (.act none (.pget (some 12) none 2 0 (some 2))) <|
    .st (.act none (.ex (some 13) (.call fn_impl_InitialState [.v 12]))) K11_26) K11_25
@[simp] def W11_27 := @C.wpe _ _ K11_27.eq_1
def B_laws_wpExecution : C := .seq (.pl <| .st (.ext 12 0) <|
    .st (.act none (.pnew 2 (.v 0) [])) <|
    .st (.act none (.px (some 3) (.mv (.c (.bool false))))) .done) K11_27
@[simp] def WB_laws_wpExecution := @C.wpe _ _ B_laws_wpExecution.eq_1
def R_laws_wpExecution : FIR := ⟨B_laws_wpExecution, 12, [(3, none)]⟩
theorem IR_laws_wpExecution : cfun Tryz.prog H_laws_wpExecution Tryz.f11 = some R_laws_wpExecution := by kernel_rfl
theorem EN_laws_wpExecution {args : List Value} {h : Heap} {k : Value → Heap → Prop} (hargs : args.length = 2) (hw : B_laws_wpExecution.wp Tryz.prog (retQ [(3, none)] k) (env0 args 12) h) : CallE Tryz.prog fn_laws_wpExecution args h k := enter Tryz.func11 rfl IR_laws_wpExecution hargs hw

def H_spec_l4First : Hint := ⟨[(0, false), (1, false), (2, true), (4, false), (5, false), (6, false), (8, false)], [[0, 3, 4]]⟩
def K33_1 : Pl := .st (.act none (.px (some 3) (.mv (.c (.int .i64 0))))) <|
    .st (.act none (.px (some 4) (.mv (.v 7)))) .done
@[simp] def W33_1 := @Pl.wpe _ _ K33_1.eq_1
def K33_2 : C := .seq (.pl <| .st (.ext 7 1) <|
    .st (.act none (.ex (some 7) (.bls 2 0 [.slice none 0 0, .slice none 0 0] []))) K33_1) (.ret)
@[simp] def W33_2 := @C.wpe _ _ K33_2.eq_1
def K33_3 : C := .pl <| .st (.ext 7 2) <|
    .st (.act none (.px (some 7) (.mv (.v 6)))) <|
    .st (.act none (.px (some 8) (.bin .add (.v 7) (.c (.int .i64 1))))) <|
    .st (.act none (.px (some 6) (.mv (.v 8)))) .done
@[simp] def W33_3 := @C.wpe _ _ K33_3.eq_1
def K33_4 : Pl := .st (.act none (.px (some 3) (.mv (.c (.int .i64 1))))) <|
    .st (.act none (.px (some 4) (.mv (.v 11)))) .done
@[simp] def W33_4 := @Pl.wpe _ _ K33_4.eq_1
def K33_5 : Pl := .st (.act none (.ex (some 11) (.call fn_spec_l4States [.v 7, .v 10]))) K33_4
@[simp] def W33_5 := @Pl.wpe _ _ K33_5.eq_1
def K33_6 : C := .seq (.pl <| .st (.ext 7 5) <|
    .st (.act none (.pget (some 7) none 2 0 (some 2))) <|
    .st (.act none (.px (some 8) (.mv (.v 5)))) <|
    .st (.act none (.px (some 9) (.mv (.v 6)))) <|
    .st (.act none (.ex (some 10) (.call fn_spec_l4Path [.v 8, .c (.int .i64 0), .v 9]))) K33_5) (.ret)
@[simp] def W33_6 := @C.wpe _ _ K33_6.eq_1
def K33_7 : C := .cond 7 (.v 10) K33_6 (.skip)
@[simp] def W33_7 := @C.wpe _ _ K33_7.eq_1
def K33_8 : C := .seq (.block 1 (.seq (.pl <| .st (.ext 7 4) <|
    .st (.act none (.px (some 7) (.mv (.v 1)))) <|
    .st (.act none (.px (some 8) (.mv (.v 6)))) <|
    .st (.act none (.px (some 9) (.ia 1 (.v 7) (.v 8)))) <|
    .st (.act none (.ld (some 10) (.v 9) none)) .done) K33_7)) K33_3
@[simp] def W33_8 := @C.wpe _ _ K33_8.eq_1
def K33_9 : C := .cond 7 (.v 11) (.skip) (.exit 0)
@[simp] def W33_9 := @C.wpe _ _ K33_9.eq_1
def K33_10 : C := .seq (.seq (.pl <| .st (.ext 7 5) <|
    .st (.act none (.px (some 7) (.mv (.v 6)))) <|
    .st (.act none (.als 8 none 2)) <|
    .st (.act none (.pget (some 9) (some 8) 2 0 none)) <|
    .st (.act none (.px (some 10) (.lenV (.v 9)))) <|
    .st (.act none (.px (some 11) (.bin .lss (.v 7) (.v 10)))) .done) K33_9) K33_8
@[simp] def W33_10 := @C.wpe _ _ K33_10.eq_1
def K33_11 : C := .block 0 (.loop 7 [0, 3, 4] K33_10)
@[simp] def W33_11 := @C.wpe _ _ K33_11.eq_1
def K33_12 : C := .seq (.seq (.pl <| .st (.ext 7 0) <|
    .st (.act none (.px (some 6) (.mv (.c (.int .i64 0))))) .done) K33_11) K33_2
@[simp] def W33_12 := @C.wpe _ _ K33_12.eq_1
def K33_13 : Pl := .st (.act none (.px (some 10) (.mv (.v 9)))) <|
    .st (.act none (.px (some 11) (.extract 0 (.v 10)))) <|
    .st (.act none (.px (some 12) (.extract 1 (.v 10)))) <|
    .st (.act none (.px (some 5) (.mv (.v 11)))) <|
    .st (.act none (.px (some 13) (.mv (.v 12)))) .done
@[simp] def W33_13 := @Pl.wpe _ _ K33_13.eq_1
def K33_14 : C := .seq (.pl <| .st (.ext 7 7) <|
    .st (.act none (.als 7 none 2)) <|
    .st (.act none (.pget (some 8) (some 7) 2 1 none)) <|
    .st (.act none (.ex (some 9) (.call fn_spec_l4Search [.v 8, .c (.int .i64 0)]))) K33_13) K33_12
@[simp] def W33_14 := @C.wpe _ _ K33_14.eq_1
def B_spec_l4First : C := .seq (.pl <| .st (.ext 7 0) <|
    .st (.act none (.pnew 2 (.v 0) [])) <|
    .st (.act none (.px (some 3) (.mv (.c (.int .i64 0))))) <|
    .st (.act none (.px (some 4) (.mv (.c (.slice none 0 0))))) .done) K33_14
@[simp] def WB_spec_l4First := @C.wpe _ _ B_spec_l4First.eq_1
def R_spec_l4First : FIR := ⟨B_spec_l4First, 7, [(3, none), (4, none)]⟩
theorem IR_spec_l4First : cfun Tryz.prog H_spec_l4First Tryz.f33 = some R_spec_l4First := by kernel_rfl
theorem EN_spec_l4First {args : List Value} {h : Heap} {k : Value → Heap → Prop} (hargs : args.length = 2) (hw : B_spec_l4First.wp Tryz.prog (retQ [(3, none), (4, none)] k) (env0 args 7) h) : CallE Tryz.prog fn_spec_l4First args h k := enter Tryz.func33 rfl IR_spec_l4First hargs hw

def H_spec_l4Path : Hint := ⟨[(0, false), (1, false), (2, false), (6, false), (7, false)], [[2, 3]]⟩
def K77_1 : C := .seq (.pl <| .st (.ext 5 1) <|
    .st (.act none (.px (some 5) (.mv (.v 4)))) <|
    .st (.act none (.px (some 3) (.mv (.v 5)))) .done) (.ret)
@[simp] def W77_1 := @C.wpe _ _ K77_1.eq_1
def K77_2 : Pl := .st (.act none (.px (some 4) (.mv (.v 13)))) .done
@[simp] def W77_2 := @Pl.wpe _ _ K77_2.eq_1
def K77_3 : Pl := .st (.act none (.px (some 12) (.mv (.v 4)))) <|
    .st (.act none (.ex (some 13) (.app 8 1 [.int .i64 0] (.o (.v 11)) (.o (.v 12))))) K77_2
@[simp] def W77_3 := @Pl.wpe _ _ K77_3.eq_1
def K77_4 : C := .block 1 (.pl <| .st (.ext 5 9) <|
    .st (.act none (.px (some 5) (.mv (.v 0)))) <|
    .st (.act none (.px (some 6) (.mv (.v 4)))) <|
    .st (.act none (.px (some 7) (.ia 1 (.v 6) (.c (.int .i64 0))))) <|
    .st (.act none (.ld (some 8) (.v 7) none)) <|
    .st (.act none (.px (some 9) (.ia 1 (.v 5) (.v 8)))) <|
    .st (.act none (.ld (some 10) (.v 9) none)) <|
    .st (.act none (.ex (some 11) (.bls 1 1 [.int .i64 0] [(0, 1, .v 10)]))) K77_3)
@[simp] def W77_4 := @C.wpe _ _ K77_4.eq_1
def K77_5 : C := .cond 5 (.v 9) (.skip) (.exit 0)
@[simp] def W77_5 := @C.wpe _ _ K77_5.eq_1
def K77_6 : C := .seq (.seq (.pl <| .st (.ext 5 5) <|
    .st (.act none (.px (some 5) (.mv (.v 4)))) <|
    .st (.act none (.px (some 6) (.ia 1 (.v 5) (.c (.int .i64 0))))) <|
    .st (.act none (.ld (some 7) (.v 6) none)) <|
    .st (.act none (.px (some 8) (.mv (.v 1)))) <|
    .st (.act none (.px (some 9) (.bin .neq (.v 7) (.v 8)))) .done) K77_5) K77_4
@[simp] def W77_6 := @C.wpe _ _ K77_6.eq_1
def K77_7 : C := .seq (.block 0 (.loop 5 [2, 3] K77_6)) K77_1
@[simp] def W77_7 := @C.wpe _ _ K77_7.eq_1
def K77_8 : Pl := .st (.act none (.px (some 4) (.mv (.v 6)))) .done
@[simp] def W77_8 := @Pl.wpe _ _ K77_8.eq_1
def K77_9 : C := .seq (.pl <| .st (.ext 5 2) <|
    .st (.act none (.px (some 5) (.mv (.v 2)))) <|
    .st (.act none (.ex (some 6) (.bls 1 1 [.int .i64 0] [(0, 1, .v 5)]))) K77_8) K77_7
@[simp] def W77_9 := @C.wpe _ _ K77_9.eq_1
def B_spec_l4Path : C := .seq (.pl <| .st (.ext 5 0) <|
    .st (.act none (.px (some 3) (.mv (.c (.slice none 0 0))))) .done) K77_9
@[simp] def WB_spec_l4Path := @C.wpe _ _ B_spec_l4Path.eq_1
def R_spec_l4Path : FIR := ⟨B_spec_l4Path, 5, [(3, none)]⟩
theorem IR_spec_l4Path : cfun Tryz.prog H_spec_l4Path Tryz.f77 = some R_spec_l4Path := by kernel_rfl
theorem EN_spec_l4Path {args : List Value} {h : Heap} {k : Value → Heap → Prop} (hargs : args.length = 3) (hw : B_spec_l4Path.wp Tryz.prog (retQ [(3, none)] k) (env0 args 5) h) : CallE Tryz.prog fn_spec_l4Path args h k := enter Tryz.func77 rfl IR_spec_l4Path hargs hw

def H_spec_l4Search : Hint := ⟨[(0, false), (1, false), (4, false), (5, false), (6, false), (7, false), (8, false), (9, false), (10, false), (11, false), (12, false)], [[2, 3, 7, 8, 9, 10], [1, 2, 3, 6, 9, 10], [1, 2, 3, 6, 10]]⟩
def K75_1 : C := .seq (.pl <| .st (.ext 11 2) <|
    .st (.act none (.px (some 11) (.mv (.v 4)))) <|
    .st (.act none (.px (some 12) (.mv (.v 7)))) <|
    .st (.act none (.px (some 2) (.mv (.v 11)))) <|
    .st (.act none (.px (some 3) (.mv (.v 12)))) .done) (.ret)
@[simp] def W75_1 := @C.wpe _ _ K75_1.eq_1
def K75_2 : C := .pl <| .st (.ext 11 2) <|
    .st (.act none (.px (some 11) (.mv (.v 8)))) <|
    .st (.act none (.px (some 12) (.bin .add (.v 11) (.c (.int .i64 1))))) <|
    .st (.act none (.px (some 8) (.mv (.v 12)))) .done
@[simp] def W75_2 := @C.wpe _ _ K75_2.eq_1
def K75_3 : C := .pl <| .st (.ext 11 2) <|
    .st (.act none (.px (some 11) (.mv (.v 9)))) <|
    .st (.act none (.px (some 12) (.bin .add (.v 11) (.c (.int .i64 1))))) <|
    .st (.act none (.px (some 9) (.mv (.v 12)))) .done
@[simp] def W75_3 := @C.wpe _ _ K75_3.eq_1
def K75_4 : Pl := .st (.act none (.px (some 7) (.mv (.v 14)))) .done
@[simp] def W75_4 := @Pl.wpe _ _ K75_4.eq_1
def K75_5 : C := .pl <| .st (.ext 11 4) <|
    .st (.act none (.px (some 11) (.mv (.v 7)))) <|
    .st (.act none (.px (some 12) (.mv (.v 10)))) <|
    .st (.act none (.psl 13 [.int .i64 0] [(0, 1, .v 12)])) <|
    .st (.act none (.ex (some 14) (.app 8 1 [.int .i64 0] (.o (.v 11)) (.p 1 13)))) K75_4
@[simp] def W75_5 := @C.wpe _ _ K75_5.eq_1
def K75_6 : C := .seq (.pl <| .st (.ext 11 7) <|
    .st (.act none (.px (some 11) (.mv (.v 4)))) <|
    .st (.act none (.px (some 12) (.mv (.v 10)))) <|
    .st (.act none (.px (some 13) (.mv (.v 7)))) <|
    .st (.act none (.px (some 14) (.mv (.v 8)))) <|
    .st (.act none (.px (some 15) (.ia 1 (.v 13) (.v 14)))) <|
    .st (.act none (.ld (some 16) (.v 15) none)) <|
    .st (.act none (.px (some 17) (.ia 1 (.v 11) (.v 12)))) <|
    .st (.act none (.ex none (.store 1 (.v 17) (.v 16)))) .done) K75_5
@[simp] def W75_6 := @C.wpe _ _ K75_6.eq_1
def K75_7 : C := .seq (.pl <| .st (.ext 11 3) <|
    .st (.act none (.px (some 11) (.mv (.v 5)))) <|
    .st (.act none (.px (some 12) (.mv (.v 10)))) <|
    .st (.act none (.px (some 13) (.ia 1 (.v 11) (.v 12)))) <|
    .st (.act none (.ex none (.store 1 (.v 13) (.c (.bool true))))) .done) K75_6
@[simp] def W75_7 := @C.wpe _ _ K75_7.eq_1
def K75_8 : C := .cond 11 (.v 15) K75_7 (.skip)
@[simp] def W75_8 := @C.wpe _ _ K75_8.eq_1
def K75_9 : C := .seq (.pl <| .st (.ext 11 5) <|
    .st (.act none (.px (some 11) (.mv (.v 5)))) <|
    .st (.act none (.px (some 12) (.mv (.v 10)))) <|
    .st (.act none (.px (some 13) (.ia 1 (.v 11) (.v 12)))) <|
    .st (.act none (.ld (some 14) (.v 13) none)) <|
    .st (.act none (.px (some 15) (.un .not (.v 14)))) .done) K75_8
@[simp] def W75_9 := @C.wpe _ _ K75_9.eq_1
def K75_10 : C := .seq (.block 5 (.seq (.pl <| .st (.ext 11 10) <|
    .st (.act none (.px (some 11) (.mv (.v 0)))) <|
    .st (.act none (.px (some 12) (.mv (.v 7)))) <|
    .st (.act none (.px (some 13) (.mv (.v 8)))) <|
    .st (.act none (.px (some 14) (.ia 1 (.v 12) (.v 13)))) <|
    .st (.act none (.ld (some 15) (.v 14) none)) <|
    .st (.act none (.px (some 16) (.ia 1 (.v 11) (.v 15)))) <|
    .st (.act none (.ld (some 17) (.v 16) none)) <|
    .st (.act none (.px (some 18) (.mv (.v 9)))) <|
    .st (.act none (.px (some 19) (.ia 1 (.v 17) (.v 18)))) <|
    .st (.act none (.ld (some 20) (.v 19) none)) <|
    .st (.act none (.px (some 10) (.mv (.v 20)))) .done) K75_9)) K75_3
@[simp] def W75_10 := @C.wpe _ _ K75_10.eq_1
def K75_11 : C := .cond 11 (.v 20) (.skip) (.exit 4)
@[simp] def W75_11 := @C.wpe _ _ K75_11.eq_1
def K75_12 : C := .seq (.seq (.pl <| .st (.ext 11 10) <|
    .st (.act none (.px (some 11) (.mv (.v 9)))) <|
    .st (.act none (.px (some 12) (.mv (.v 0)))) <|
    .st (.act none (.px (some 13) (.mv (.v 7)))) <|
    .st (.act none (.px (some 14) (.mv (.v 8)))) <|
    .st (.act none (.px (some 15) (.ia 1 (.v 13) (.v 14)))) <|
    .st (.act none (.ld (some 16) (.v 15) none)) <|
    .st (.act none (.px (some 17) (.ia 1 (.v 12) (.v 16)))) <|
    .st (.act none (.ld (some 18) (.v 17) none)) <|
    .st (.act none (.px (some 19) (.lenV (.v 18)))) <|
    .st (.act none (.px (some 20) (.bin .lss (.v 11) (.v 19)))) .done) K75_11) K75_10
@[simp] def W75_12 := @C.wpe _ _ K75_12.eq_1
def K75_13 : C := .block 4 (.loop 11 [1, 2, 3, 6, 10] K75_12)
@[simp] def W75_13 := @C.wpe _ _ K75_13.eq_1
def K75_14 : C := .seq (.block 3 (.seq (.pl <| .st (.ext 11 0) <|
    .st (.act none (.px (some 9) (.mv (.c (.int .i64 0))))) .done) K75_13)) K75_2
@[simp] def W75_14 := @C.wpe _ _ K75_14.eq_1
def K75_15 : C := .cond 11 (.v 14) (.skip) (.exit 2)
@[simp] def W75_15 := @C.wpe _ _ K75_15.eq_1
def K75_16 : C := .seq (.seq (.pl <| .st (.ext 11 4) <|
    .st (.act none (.px (some 11) (.mv (.v 8)))) <|
    .st (.act none (.px (some 12) (.mv (.v 7)))) <|
    .st (.act none (.px (some 13) (.lenV (.v 12)))) <|
    .st (.act none (.px (some 14) (.bin .lss (.v 11) (.v 13)))) .done) K75_15) K75_14
@[simp] def W75_16 := @C.wpe _ _ K75_16.eq_1
def K75_17 : C := .block 2 (.loop 11 [1, 2, 3, 6, 9, 10] K75_16)
@[simp] def W75_17 := @C.wpe _ _ K75_17.eq_1
def K75_18 : C := .seq (.seq (.pl <| .st (.ext 11 0) <|
    .st (.act none (.px (some 8) (.mv (.c (.int .i64 0))))) .done) K75_17) K75_1
@[simp] def W75_18 := @C.wpe _ _ K75_18.eq_1
def K75_19 : C := .seq (.pl <| .st (.ext 11 3) <|
    .st (.act none (.px (some 11) (.mv (.v 5)))) <|
    .st (.act none (.px (some 12) (.mv (.v 1)))) <|
    .st (.act none (.px (some 13) (.ia 1 (.v 11) (.v 12)))) <|
    .st (.act none (.ex none (.store 1 (.v 13) (.c (.bool true))))) .done) K75_18
@[simp] def W75_19 := @C.wpe _ _ K75_19.eq_1
def K75_20 : Pl := .st (.act none (.px (some 7) (.mv (.v 12)))) .done
@[simp] def W75_20 := @Pl.wpe _ _ K75_20.eq_1
def K75_21 : C := .seq (.pl <| .st (.ext 11 2) <|
    .st (.act none (.px (some 11) (.mv (.v 1)))) <|
    .st (.act none (.ex (some 12) (.bls 1 1 [.int .i64 0] [(0, 1, .v 11)]))) K75_20) K75_19
@[simp] def W75_21 := @C.wpe _ _ K75_21.eq_1
def K75_22 : C := .pl <| .st (.ext 11 2) <|
    .st (.act none (.px (some 11) (.mv (.v 6)))) <|
    .st (.act none (.px (some 12) (.bin .add (.v 11) (.c (.int .i64 1))))) <|
    .st (.act none (.px (some 6) (.mv (.v 12)))) .done
@[simp] def W75_22 := @C.wpe _ _ K75_22.eq_1
def K75_23 : Pl := .st (.act none (.px (some 4) (.mv (.v 13)))) .done
@[simp] def W75_23 := @Pl.wpe _ _ K75_23.eq_1
def K75_24 : C := .seq (.block 1 (.pl <| .st (.ext 11 3) <|
    .st (.act none (.px (some 11) (.mv (.v 4)))) <|
    .st (.act none (.psl 12 [.int .i64 0] [(0, 1, .c (.int .i64 (-1)))])) <|
    .st (.act none (.ex (some 13) (.app 8 1 [.int .i64 0] (.o (.v 11)) (.p 1 12)))) K75_23)) K75_22
@[simp] def W75_24 := @C.wpe _ _ K75_24.eq_1
def K75_25 : C := .cond 11 (.v 14) (.skip) (.exit 0)
@[simp] def W75_25 := @C.wpe _ _ K75_25.eq_1
def K75_26 : C := .seq (.seq (.pl <| .st (.ext 11 4) <|
    .st (.act none (.px (some 11) (.mv (.v 6)))) <|
    .st (.act none (.px (some 12) (.mv (.v 0)))) <|
    .st (.act none (.px (some 13) (.lenV (.v 12)))) <|
    .st (.act none (.px (some 14) (.bin .lss (.v 11) (.v 13)))) .done) K75_25) K75_24
@[simp] def W75_26 := @C.wpe _ _ K75_26.eq_1
def K75_27 : C := .block 0 (.loop 11 [2, 3, 7, 8, 9, 10] K75_26)
@[simp] def W75_27 := @C.wpe _ _ K75_27.eq_1
def K75_28 : C := .seq (.seq (.pl <| .st (.ext 11 0) <|
    .st (.act none (.px (some 6) (.mv (.c (.int .i64 0))))) .done) K75_27) K75_21
@[simp] def W75_28 := @C.wpe _ _ K75_28.eq_1
def K75_29 : Pl := .st (.act none (.px (some 5) (.mv (.v 13)))) .done
@[simp] def W75_29 := @Pl.wpe _ _ K75_29.eq_1
def K75_30 : C := .seq (.pl <| .st (.ext 11 3) <|
    .st (.act none (.px (some 11) (.mv (.v 0)))) <|
    .st (.act none (.px (some 12) (.lenV (.v 11)))) <|
    .st (.act none (.ex (some 13) (.mks 1 1 [.bool false] (.v 12) (.v 12)))) K75_29) K75_28
@[simp] def W75_30 := @C.wpe _ _ K75_30.eq_1
def K75_31 : Pl := .st (.act none (.px (some 4) (.mv (.v 11)))) .done
@[simp] def W75_31 := @Pl.wpe _ _ K75_31.eq_1
def K75_32 : C := .seq (.pl <| .st (.ext 11 1) <|
    .st (.act none (.ex (some 11) (.bls 1 0 [.int .i64 0] []))) K75_31) K75_30
@[simp] def W75_32 := @C.wpe _ _ K75_32.eq_1
def B_spec_l4Search : C := .seq (.pl <| .st (.ext 11 0) <|
    .st (.act none (.px (some 2) (.mv (.c (.slice none 0 0))))) <|
    .st (.act none (.px (some 3) (.mv (.c (.slice none 0 0))))) .done) K75_32
@[simp] def WB_spec_l4Search := @C.wpe _ _ B_spec_l4Search.eq_1
def R_spec_l4Search : FIR := ⟨B_spec_l4Search, 11, [(2, none), (3, none)]⟩
theorem IR_spec_l4Search : cfun Tryz.prog H_spec_l4Search Tryz.f75 = some R_spec_l4Search := by kernel_rfl
theorem EN_spec_l4Search {args : List Value} {h : Heap} {k : Value → Heap → Prop} (hargs : args.length = 2) (hw : B_spec_l4Search.wp Tryz.prog (retQ [(2, none), (3, none)] k) (env0 args 11) h) : CallE Tryz.prog fn_spec_l4Search args h k := enter Tryz.func75 rfl IR_spec_l4Search hargs hw

def H_spec_l4States : Hint := ⟨[(0, false), (1, false), (2, true), (4, false), (5, false), (6, false), (7, true)], [[0, 3, 6]]⟩
def K76_1 : C := .seq (.pl <| .st (.ext 7 1) <|
    .st (.act none (.px (some 7) (.mv (.v 4)))) <|
    .st (.act none (.px (some 3) (.mv (.v 7)))) .done) (.ret)
@[simp] def W76_1 := @C.wpe _ _ K76_1.eq_1
def K76_2 : C := .pl <| .st (.ext 7 2) <|
    .st (.act none (.px (some 7) (.mv (.v 5)))) <|
    .st (.act none (.px (some 8) (.bin .add (.v 7) (.c (.int .i64 1))))) <|
    .st (.act none (.px (some 5) (.mv (.v 8)))) .done
@[simp] def W76_2 := @C.wpe _ _ K76_2.eq_1
def K76_3 : Pl := .st (.act none (.px (some 4) (.mv (.v 18)))) .done
@[simp] def W76_3 := @Pl.wpe _ _ K76_3.eq_1
def K76_4 : Pl := .st (.act none (.px (some 16) (.build [.slice none 0 0, .slice none 0 0] [(0, 1, .v 11), (1, 1, .v 15)]))) <|
    .st (.act none (.psl 17 [.slice none 0 0, .slice none 0 0] [(0, 2, .v 16)])) <|
    .st (.act none (.ex (some 18) (.app 48 2 [.slice none 0 0, .slice none 0 0] (.o (.v 7)) (.p 1 17)))) K76_3
@[simp] def W76_4 := @Pl.wpe _ _ K76_4.eq_1
def K76_5 : Pl := .st (.act none (.ex (some 15) (.app 8 1 [.int .i64 0] (.p 0 12) (.o (.v 14))))) K76_4
@[simp] def W76_5 := @Pl.wpe _ _ K76_5.eq_1
def K76_6 : C := .pl <| .st (.ext 7 12) <|
    .st (.act none (.px (some 7) (.mv (.v 4)))) <|
    .st (.act none (.psl 8 [] [])) <|
    .st (.act none (.als 9 none 6)) <|
    .st (.act none (.pget (some 10) (some 9) 6 0 none)) <|
    .st (.act none (.psl 12 [] [])) <|
    .st (.act none (.als 13 none 6)) <|
    .st (.act none (.pget (some 14) (some 13) 6 1 none)) <|
    .st (.act none (.ex (some 11) (.app 8 1 [.int .i64 0] (.p 0 8) (.o (.v 10))))) K76_5
@[simp] def W76_6 := @C.wpe _ _ K76_6.eq_1
def K76_7 : C := .seq (.block 1 (.seq (.pl <| .st (.ext 7 8) <|
    .st (.act none (.als 7 none 2)) <|
    .st (.act none (.pget (some 8) (some 7) 2 0 none)) <|
    .st (.act none (.px (some 9) (.mv (.v 1)))) <|
    .st (.act none (.px (some 10) (.mv (.v 5)))) <|
    .st (.act none (.px (some 11) (.ia 1 (.v 9) (.v 10)))) <|
    .st (.act none (.ld (some 12) (.v 11) none)) <|
    .st (.act none (.px (some 13) (.ia 2 (.v 8) (.v 12)))) <|
    .st (.act none (.ld (some 14) (.v 13) (some 2))) <|
    .st (.act none (.pnew 6 (.c (.agg #[.slice none 0 0, .slice none 0 0])) [])) <|
    .st (.act none (.pset none 6 0 2 (.v 14))) .done) K76_6)) K76_2
@[simp] def W76_7 := @C.wpe _ _ K76_7.eq_1
def K76_8 : C := .cond 7 (.v 10) (.skip) (.exit 0)
@[simp] def W76_8 := @C.wpe _ _ K76_8.eq_1
def K76_9 : C := .seq (.seq (.pl <| .st (.ext 7 4) <|
    .st (.act none (.px (some 7) (.mv (.v 5)))) <|
    .st (.act none (.px (some 8) (.mv (.v 1)))) <|
    .st (.act none (.px (some 9) (.lenV (.v 8)))) <|
    .st (.act none (.px (some 10) (.bin .lss (.v 7) (.v 9)))) .done) K76_8) K76_7
@[simp] def W76_9 := @C.wpe _ _ K76_9.eq_1
def K76_10 : C := .block 0 (.loop 7 [0, 3, 6] K76_9)
@[simp] def W76_10 := @C.wpe _ _ K76_10.eq_1
def K76_11 : C := .seq (.seq (.pl <| .st (.ext 7 0) <|
    .st (.act none (.px (some 5) (.mv (.c (.int .i64 0))))) .done) K76_10) K76_1
@[simp] def W76_11 := @C.wpe _ _ K76_11.eq_1
def K76_12 : Pl := .st (.act none (.px (some 4) (.mv (.v 7)))) .done
@[simp] def W76_12 := @Pl.wpe _ _ K76_12.eq_1
def K76_13 : C := .seq (.pl <| .st (.ext 7 1) <|
    .st (.act none (.ex (some 7) (.bls 2 0 [.slice none 0 0, .slice none 0 0] []))) K76_12) K76_11
@[simp] def W76_13 := @C.wpe _ _ K76_13.eq_1
def B_spec_l4States : C := .seq (.pl <| .st (.ext 7 0) <|
    .st (.act none (.pnew 2 (.v 0) [])) <|
    .st (.act none (.px (some 3) (.mv (.c (.slice none 0 0))))) .done) K76_13
@[simp] def WB_spec_l4States := @C.wpe _ _ B_spec_l4States.eq_1
def R_spec_l4States : FIR := ⟨B_spec_l4States, 7, [(3, none)]⟩
theorem IR_spec_l4States : cfun Tryz.prog H_spec_l4States Tryz.f76 = some R_spec_l4States := by kernel_rfl
theorem EN_spec_l4States {args : List Value} {h : Heap} {k : Value → Heap → Prop} (hargs : args.length = 2) (hw : B_spec_l4States.wp Tryz.prog (retQ [(3, none)] k) (env0 args 7) h) : CallE Tryz.prog fn_spec_l4States args h k := enter Tryz.func76 rfl IR_spec_l4States hargs hw


end Go.Proofs.YtonjglbachhdcaaGreat

/-
  Instances of functions over slices: copies, and whether some element meets a condition. Printed by a program.
-/
namespace Go.Proofs.YtonjglbachhdcaaGreat
open Go
set_option linter.all false
set_option linter.unusedVariables false
set_option linter.unusedSimpArgs false
set_option linter.defProp false
set_option maxRecDepth 1000000

theorem c_Clone_int {h : Heap} {a : Value} {x : List (Int)} (Ra : Rep h a x) (hs : x.length ≤ 1073741824) : CallE Tryz.prog fn_slices_Clone_S_int_int [a] h (fun v h' => HS h [ow v x] h') := by
  refine CallE.gen fun k hk => EN_slices_Clone_S_int_int rfl ?_
  obtain ⟨b, hb, hb2⟩ := Ra.isNil
  simp -implicitDefEqProofs (disch := first | omega | (simp only [List.length_set, List.length_replicate, List.length_append, List.length_map, List.length_take, List.length_cons, List.length_nil]; omega)) [wrap64, hb]
  refine IteW.mk (fun h1 => ?_) (fun h1 => ?_)
  · simp -implicitDefEqProofs (disch := first | omega | (simp only [List.length_set, List.length_replicate, List.length_append, List.length_map, List.length_take, List.length_cons, List.length_nil]; omega)) [wrap64]
    have h2 : x = [] := hb2 h1
    subst h2
    exact RetK.keep (hk _ _ HS.init.nil_ow)
  · simp -implicitDefEqProofs (disch := first | omega | (simp only [List.length_set, List.length_replicate, List.length_append, List.length_map, List.length_take, List.length_cons, List.length_nil]; omega)) [wrap64]
    refine HS.init.appPL (α := Int) (l2 := x) (u := a) rfl rfl Ra rfl rfl (by omega) fun v h1 H => ?_
    simp -implicitDefEqProofs (disch := first | omega | (simp only [List.length_set, List.length_replicate, List.length_append, List.length_map, List.length_take, List.length_cons, List.length_nil]; omega)) [wrap64]
    exact RetK.keep (hk _ _ H)

theorem c_Clip_int {g h : Heap} {Γ : List HP} {a : Value} {x : List (Int)} (H : HS g (ow a x :: Γ) h) : CallE Tryz.prog fn_slices_Clip_S_int_int [a] h (fun v h' => HS g (ow v x :: Γ) h') := by
  refine CallE.gen fun k hk => EN_slices_Clip_S_int_int rfl ?_
  obtain ⟨v', h1, h2⟩ := H.clip (esz := 1) (k := .i64)
  simp -implicitDefEqProofs (disch := first | omega | (simp only [List.length_set, List.length_replicate, List.length_append, List.length_map, List.length_take, List.length_cons, List.length_nil]; omega)) [wrap64, H.rep.I, h1]
  exact RetK.keep (hk _ _ h2)

theorem c_clone_int {h : Heap} {a : Value} {x : List (Int)} (Ra : Rep h a x) (hs : x.length ≤ 1073741824) : CallE Tryz.prog fn_impl_clone_int [a] h (fun v h' => HS h [ow v x] h') := by
  refine CallE.gen fun k hk => EN_impl_clone_int rfl ?_
  simp -implicitDefEqProofs (disch := first | omega | (simp only [List.length_set, List.length_replicate, List.length_append, List.length_map, List.length_take, List.length_cons, List.length_nil]; omega)) [wrap64]
  refine (c_Clone_int Ra hs).go ?_
  intro v h1 H
  simp -implicitDefEqProofs (disch := first | omega | (simp only [List.length_set, List.length_replicate, List.length_append, List.length_map, List.length_take, List.length_cons, List.length_nil]; omega)) [wrap64]
  refine (c_Clip_int H).go ?_
  intro v' h2 H
  simp -implicitDefEqProofs (disch := first | omega | (simp only [List.length_set, List.length_replicate, List.length_append, List.length_map, List.length_take, List.length_cons, List.length_nil]; omega)) [wrap64]
  exact RetK.keep (hk _ _ H)

end Go.Proofs.YtonjglbachhdcaaGreat

/-
  States of systems; projections of states: by the program and by the reference.
-/
namespace Go.Proofs.YtonjglbachhdcaaGreat
open Go
set_option linter.all false
set_option linter.unusedVariables false
set_option linter.unusedSimpArgs false
set_option linter.defProp false
set_option maxRecDepth 1000000

/-- a state of a system -/
structure Sta.Ok (s : Sy) (st : Sta) : Prop where
  len : st.locs.length = s.procs.length
  vs : VOk st.vals
  lc : ∀ (i : Nat) (h1 : i < st.locs.length) (h2 : i < s.procs.length), 0 ≤ st.locs[i] ∧ st.locs[i] < s.procs[i].locs
noncomputable instance instDecStaOk {s : Sy} {st : Sta} : Decidable (st.Ok s) := Classical.propDecidable _

theorem c_has {h : Heap} {v w : Value} {s : Sy} {st : Sta} (hs : s.Ok) (R : Rep h v s) (Rt : Rep h w st) : CallE Tryz.prog fn_impl_System_has [v, w] h (fun u h' => h.le h' ∧ u = .bool (decide (st.Ok s))) := by
  obtain ⟨v1, v2, rfl, R1, R2⟩ := Rep_Sy.1 R
  obtain ⟨w1, w2, rfl, T1, T2⟩ := Rep_Sta.1 Rt
  have hL1 := R2.lt
  have hL2 := T1.lt
  refine CallE.gen fun k hk => EN_impl_System_has rfl ?_
  have hno : ∀ {h'}, h.le h' → ¬ st.Ok s → k (.bool false) h' := fun hl hh => hk _ _ ⟨hl, by rw [decide_eq_false hh]⟩
  by_cases q1 : (st.locs.length : Int) = s.procs.length
  case neg => simp -implicitDefEqProofs (disch := first | omega | (simp only [List.length_set, List.length_replicate, List.length_append, List.length_map, List.length_take, List.length_cons, List.length_nil]; omega)) [wrap64, T1.len, R2.len, q1]; exact RetK.keep (hno (Heap.le.refl _) fun hh => q1 (by rw [hh.len]))
  simp -implicitDefEqProofs (disch := first | omega | (simp only [List.length_set, List.length_replicate, List.length_append, List.length_map, List.length_take, List.length_cons, List.length_nil]; omega)) [wrap64, T1.len, R2.len, q1]
  refine (c_valsOk T2).go ?_
  rintro _ h1 ⟨l1, rfl⟩
  by_cases q2 : VOk st.vals
  case neg => simp -implicitDefEqProofs (disch := first | omega | (simp only [List.length_set, List.length_replicate, List.length_append, List.length_map, List.length_take, List.length_cons, List.length_nil]; omega)) [wrap64, q2]; exact RetK.keep (hno l1 fun hh => q2 hh.vs)
  have T1' := T1.le l1
  have R2' := R2.le l1
  simp -implicitDefEqProofs (disch := first | omega | (simp only [List.length_set, List.length_replicate, List.length_append, List.length_map, List.length_take, List.length_cons, List.length_nil]; omega)) [wrap64, q2, T1'.len]
  refine wp_count st.locs.length (fun i e h' => e = [none, none, some (.agg #[v1, v2]), none, none, none, none, some w1, some (.int .i64 st.locs.length), some (.int .i64 i)] ∧ h' = h1 ∧ ∀ (j : Nat) (a : j < st.locs.length) (b : j < s.procs.length), j < i → 0 ≤ st.locs[j] ∧ st.locs[j] < s.procs[j].locs) ⟨by simp [q1], rfl, fun j _ _ hj => absurd hj (Nat.not_lt_zero j)⟩ ?_
  rintro J i _ h2 hJ hi ⟨rfl, rfl, hall⟩
  simp -implicitDefEqProofs (disch := first | omega | (simp only [List.length_set, List.length_replicate, List.length_append, List.length_map, List.length_take, List.length_cons, List.length_nil]; omega)) [wrap64]
  refine IteW.mk (fun hlt => ?_) (fun hge => ?_)
  · have hlx : i < st.locs.length := by omega
    have hlp : i < s.procs.length := by omega
    obtain ⟨u, hu, Ru⟩ := R2'.ld hlp
    change hload _ (some (elp 2 v2 i)) (some 2) = some u at hu
    obtain ⟨we, rfl, k1, R3⟩ := Rep_Pr.1 Ru
    have hP := hld_parts hu
    have hp1 := (hs.at hlp).n1
    have hp4 := (hs.at hlp).n4
    simp -implicitDefEqProofs (disch := first | omega | (simp only [List.length_set, List.length_replicate, List.length_append, List.length_map, List.length_take, List.length_cons, List.length_nil]; omega)) [wrap64, T1'.I, R2'.X (n := 2) rfl, hP.1, hP.2.2.1]
    refine c_in.go ?_
    rintro _ h2 ⟨rfl, rfl⟩
    by_cases q3 : 0 ≤ st.locs[i] ∧ st.locs[i] ≤ s.procs[i].locs - 1
    case neg => simp -implicitDefEqProofs (disch := first | omega | (simp only [List.length_set, List.length_replicate, List.length_append, List.length_map, List.length_take, List.length_cons, List.length_nil]; omega)) [wrap64, q3]; exact RetK.keep (hno l1 fun hh => q3 (by have := hh.lc i hlx hlp; omega))
    simp -implicitDefEqProofs (disch := first | omega | (simp only [List.length_set, List.length_replicate, List.length_append, List.length_map, List.length_take, List.length_cons, List.length_nil]; omega)) [wrap64, q3]
    refine hJ _ _ hlx ⟨by simp, rfl, fun j a b hji => ?_⟩
    by_cases hji2 : j = i
    · subst hji2; omega
    · exact hall j a b (by omega)
  · simp -implicitDefEqProofs (disch := first | omega | (simp only [List.length_set, List.length_replicate, List.length_append, List.length_map, List.length_take, List.length_cons, List.length_nil]; omega)) [wrap64]
    exact RetK.keep (hk _ _ ⟨l1, by rw [decide_eq_true (show st.Ok s from ⟨by omega, q2, fun i a b => hall i a b (by omega)⟩)]⟩)

theorem c_State_copyOf {h : Heap} {v : Value} {st : Sta} (R : Rep h v st) (h1 : st.locs.length ≤ 1073741824) (h2 : st.vals.length ≤ 1073741824) : CallE Tryz.prog fn_impl_State_copyOf [v] h (fun u h' => HS h [ow u st] h') := by
  obtain ⟨v1, v2, rfl, R1, R2⟩ := Rep_Sta.1 R
  refine CallE.gen fun k hk => EN_impl_State_copyOf rfl ?_
  simp -implicitDefEqProofs (disch := first | omega | (simp only [List.length_set, List.length_replicate, List.length_append, List.length_map, List.length_take, List.length_cons, List.length_nil]; omega)) [wrap64]
  refine (c_clone_int R1 h1).go ?_
  intro u1 m1 H
  simp -implicitDefEqProofs (disch := first | omega | (simp only [List.length_set, List.length_replicate, List.length_append, List.length_map, List.length_take, List.length_cons, List.length_nil]; omega)) [wrap64]
  refine (c_clone_int (R2.on H) h2).go ?_
  intro u2 m2 H2
  have H := H2.app H
  simp -implicitDefEqProofs (disch := first | omega | (simp only [List.length_set, List.length_replicate, List.length_append, List.length_map, List.length_take, List.length_cons, List.length_nil]; omega)) [wrap64, H.rep.cells, H.rep.one, H.sw1.rep.cells, H.sw1.rep.one, setC]
  exact RetK.keep (hk _ _ (HS.mkSta H.sw1))

/-- the values that are kept, and the first values where they don't matter -/
def prV (s : Sy) (L : List Exq) (st : Sta) : List Int := (List.range 3).map fun i => if (s.rel L).getD i false then st.vals.getD i 0 else s.init.getD i 0
noncomputable def prR (s : Sy) (L : List Exq) (st : Sta) : Sta := if s.Ok ∧ LOk L ∧ st.Ok s then ⟨st.locs, prV s L st⟩ else Sta.zero
theorem zero_St {g h : Heap} {Γ : List HP} (H : HS g Γ h) : HS g (ow (.agg #[.slice none 0 0, .slice none 0 0]) Sta.zero :: Γ) h := HS.mkSta (a := Sta.zero) H.nil_ow.nil_ow

end Go.Proofs.YtonjglbachhdcaaGreat

/-
  Steps in plain Lean: which are enabled, and what they lead to.
-/
namespace Go.Proofs.YtonjglbachhdcaaGreat
open Go
set_option linter.all false
set_option linter.unusedVariables false
set_option linter.unusedSimpArgs false
set_option linter.defProp false
set_option maxRecDepth 1000000

theorem fm_tk {α β : Type} {f : α × Nat → List β} {l : List α} {i : Nat} (hi : i < l.length) : (l.zipIdx.take (i + 1)).flatMap f = (l.zipIdx.take i).flatMap f ++ f (l[i], i) := by
  rw [List.take_add_one, List.getElem?_eq_getElem (by simpa using hi), List.flatMap_append]
  simp
theorem fm_all {α β : Type} {f : α × Nat → List β} {l : List α} {i : Nat} (hi : l.length ≤ i) : (l.zipIdx.take i).flatMap f = l.zipIdx.flatMap f := by
  rw [List.take_of_length_le (by simpa using hi)]
theorem len_fm {α β : Type} {f : α → List β} {c : Nat} : ∀ {l : List α}, (∀ x ∈ l, (f x).length ≤ c) → (l.flatMap f).length ≤ l.length * c
  | [], _ => by simp
  | x :: l, h => by
    have h1 := len_fm (l := l) fun y hy => h y (by simp [hy])
    have h2 := h x (by simp)
    rw [List.flatMap_cons, List.length_append, List.length_cons, Nat.add_mul]
    omega
theorem len_fmz {α β : Type} {f : α × Nat → List β} {c : Nat} {l : List α} (h : ∀ (i : Nat) (hi : i < l.length), (f (l[i], i)).length ≤ c) (n : Nat) : ((l.zipIdx.take n).flatMap f).length ≤ l.length * c := by
  have h1 : ((l.zipIdx.take n).flatMap f).length ≤ (l.zipIdx.take n).length * c := len_fm fun x hx => by
    have h2 := List.mem_of_mem_take hx
    rw [List.mem_zipIdx_iff_getElem?, List.getElem?_eq_some_iff] at h2
    obtain ⟨h3, h4⟩ := h2
    have := h x.2 h3
    rw [h4] at this
    exact this
  have h2 : (l.zipIdx.take n).length * c ≤ l.length * c := Nat.mul_le_mul_right _ (by simp; omega)
  omega
theorem mem_fmz {α β : Type} {f : α × Nat → List β} {l : List α} {t : β} : t ∈ l.zipIdx.flatMap f ↔ ∃ (i : Nat) (hi : i < l.length), t ∈ f (l[i], i) := by
  rw [List.mem_flatMap]
  constructor
  · rintro ⟨x, hx, ht⟩
    rw [List.mem_zipIdx_iff_getElem?, List.getElem?_eq_some_iff] at hx
    obtain ⟨h3, h4⟩ := hx
    exact ⟨x.2, h3, by rw [h4]; exact ht⟩
  · rintro ⟨i, hi, ht⟩
    exact ⟨(l[i], i), by rw [List.mem_zipIdx_iff_getElem?]; simp [hi], ht⟩

/-- an edge is ready -/
def Ed.rdy (e : Ed) (st : Sta) (i : Nat) : Bool := decide (st.locs.getD i 0 = e.frm ∧ e.guard.ev st.vals ≠ 0)
def prt2 (st : Sta) (i k : Nat) (c : Int) (j : Nat) (x : Ed × Nat) : List Stp := if j ≠ i ∧ x.1.sync = -c ∧ x.1.rdy st j = true then [⟨i, k, j, x.2⟩] else []
def prt1 (st : Sta) (i k : Nat) (c : Int) (x : Pr × Nat) : List Stp := x.1.edges.zipIdx.flatMap (prt2 st i k c x.2)
/-- the steps with partners -/
def prt (s : Sy) (st : Sta) (i k : Nat) (c : Int) : List Stp := s.procs.zipIdx.flatMap (prt1 st i k c)
def enb2 (s : Sy) (st : Sta) (i : Nat) (x : Ed × Nat) : List Stp := if x.1.sync < 0 ∨ x.1.rdy st i = false then [] else if x.1.sync = 0 then [⟨i, x.2, -1, -1⟩] else prt s st i x.2 x.1.sync
def enb1 (s : Sy) (st : Sta) (x : Pr × Nat) : List Stp := x.1.edges.zipIdx.flatMap (enb2 s st x.2)
/-- the enabled steps -/
def enb (s : Sy) (st : Sta) : List Stp := s.procs.zipIdx.flatMap (enb1 s st)

theorem prt1_len {st : Sta} {i k : Nat} {c : Int} {p : Pr} {j n : Nat} (hp : p.Ok) : ((p.edges.zipIdx.take n).flatMap (prt2 st i k c j)).length ≤ 6 := by
  have h1 := len_fmz (f := prt2 st i k c j) (c := 1) (l := p.edges) (fun m hm => by unfold prt2; split <;> simp) n
  have := hp.el
  omega
theorem prt_len {s : Sy} {st : Sta} {i k n : Nat} {c : Int} (hs : s.Ok) : ((s.procs.zipIdx.take n).flatMap (prt1 st i k c)).length ≤ 18 := by
  have h1 := len_fmz (f := prt1 st i k c) (c := 6) (l := s.procs) (fun m hm => by
    have := prt1_len (st := st) (i := i) (k := k) (c := c) (j := m) (n := s.procs[m].edges.length) (hs.at hm)
    rw [fm_all (Nat.le_refl _)] at this
    exact this) n
  have := hs.p3
  omega
theorem prt_len' {s : Sy} {st : Sta} {i k : Nat} {c : Int} (hs : s.Ok) : (prt s st i k c).length ≤ 18 := by
  have := prt_len (st := st) (i := i) (k := k) (c := c) (n := s.procs.length) hs
  rwa [fm_all (Nat.le_refl _)] at this
theorem enb2_len {s : Sy} {st : Sta} {i : Nat} {x : Ed × Nat} (hs : s.Ok) : (enb2 s st i x).length ≤ 18 := by
  unfold enb2
  split
  · simp
  · split
    · simp
    · exact prt_len' hs
theorem enb1_len {s : Sy} {st : Sta} {i n : Nat} {p : Pr} (hs : s.Ok) (hp : p.Ok) : ((p.edges.zipIdx.take n).flatMap (enb2 s st i)).length ≤ 108 := by
  have h1 := len_fmz (f := enb2 s st i) (c := 18) (l := p.edges) (fun m hm => enb2_len hs) n
  have := hp.el
  omega
theorem enb_len {s : Sy} {st : Sta} {n : Nat} (hs : s.Ok) : ((s.procs.zipIdx.take n).flatMap (enb1 s st)).length ≤ 324 := by
  have h1 := len_fmz (f := enb1 s st) (c := 108) (l := s.procs) (fun m hm => by
    have := enb1_len (s := s) (st := st) (i := m) (n := s.procs[m].edges.length) hs (hs.at hm)
    rw [fm_all (Nat.le_refl _)] at this
    exact this) n
  have := hs.p3
  omega
theorem enb_len' {s : Sy} {st : Sta} (hs : s.Ok) : (enb s st).length ≤ 324 := by
  have := enb_len (st := st) (n := s.procs.length) hs
  rwa [fm_all (Nat.le_refl _)] at this

/-- where a step's edges lie -/
structure Stp.In (s : Sy) (t : Stp) : Prop where
  ex : ∃ (i k : Nat) (hi : i < s.procs.length) (_ : k < s.procs[i].edges.length), t.proc = i ∧ t.edge = k
  pt : t.partner = -1 ∨ ∃ (j m : Nat) (hj : j < s.procs.length) (_ : m < s.procs[j].edges.length), t.partner = j ∧ t.pedge = m
theorem enb_in {s : Sy} {st : Sta} {t : Stp} (h : t ∈ enb s st) : t.In s := by
  unfold enb at h
  obtain ⟨i, hi, h⟩ := mem_fmz.1 h
  unfold enb1 at h
  obtain ⟨k, hk, h⟩ := mem_fmz.1 h
  unfold enb2 at h
  split at h
  · simp at h
  · split at h
    · simp at h; subst h
      exact ⟨⟨i, k, hi, hk, rfl, rfl⟩, .inl rfl⟩
    · unfold prt at h
      obtain ⟨j, hj, h⟩ := mem_fmz.1 h
      unfold prt1 at h
      obtain ⟨m, hm, h⟩ := mem_fmz.1 h
      unfold prt2 at h
      split at h
      · simp at h; subst h
        exact ⟨⟨i, k, hi, hk, rfl, rfl⟩, .inr ⟨j, m, hj, hm, rfl, rfl⟩⟩
      · simp at h

/-- an edge is taken -/
def Sta.tk (st : Sta) (i : Nat) (e : Ed) : Sta := ⟨st.locs.set i e.to, if 0 ≤ e.var then st.vals.set e.var.toNat (e.value.ev st.vals) else st.vals⟩
def Sy.ed (s : Sy) (i k : Nat) : Ed := (s.procs.getD i ⟨0, []⟩).edges.getD k ⟨0, 0, Exq.zero, 0, Exq.zero, 0⟩
theorem Sy.ed_eq {s : Sy} {i k : Nat} (hi : i < s.procs.length) (hk : k < s.procs[i].edges.length) : s.ed i k = s.procs[i].edges[k] := by
  simp [Sy.ed, hi, hk]
/-- the state after a step -/
def Sta.aft (s : Sy) (st : Sta) (t : Stp) : Sta := if 0 ≤ t.partner then (st.tk t.proc.toNat (s.ed t.proc.toNat t.edge.toNat)).tk t.partner.toNat (s.ed t.partner.toNat t.pedge.toNat) else st.tk t.proc.toNat (s.ed t.proc.toNat t.edge.toNat)
theorem Sta.tk_ok {s : Sy} {st : Sta} {i : Nat} {e : Ed} (h : st.Ok s) (hi : i < s.procs.length) (he : e.Ok s.procs[i].locs) : (st.tk i e).Ok s := by
  have hv := h.vs
  refine ⟨by simp [Sta.tk, h.len], ?_, fun j h1 h2 => ?_⟩
  · unfold Sta.tk
    simp only
    split
    · rename_i h0
      have hvo : e.value.Ok := he.vl.elim (fun hh => hh.2) (fun hh => absurd hh.1 (by omega))
      have hb := Exq.ev_bnd hv hvo.1
      refine ⟨by simp [hv.len], fun x hx => ?_⟩
      rcases List.mem_or_eq_of_mem_set hx with h1 | h1
      · exact hv.2 x h1
      · rw [h1]; exact hb
    · exact hv
  · simp only [Sta.tk, List.getElem_set]
    split
    · rename_i e1
      subst e1
      exact ⟨he.t0, he.t1⟩
    · exact h.lc j (by simpa [Sta.tk] using h1) h2
theorem Sta.aft_ok {s : Sy} {st : Sta} {t : Stp} (hs : s.Ok) (h : st.Ok s) (ht : t.In s) : (st.aft s t).Ok s := by
  obtain ⟨⟨i, k, hi, hk, h1, h2⟩, h3⟩ := ht
  have g1 : (st.tk t.proc.toNat (s.ed t.proc.toNat t.edge.toNat)).Ok s := by
    rw [h1, h2, Int.toNat_natCast, Int.toNat_natCast, Sy.ed_eq hi hk]
    exact Sta.tk_ok h hi ((hs.at hi).at hk)
  unfold Sta.aft
  rcases h3 with h3 | ⟨j, m, hj, hm, h3, h4⟩
  · rw [if_neg (by omega)]; exact g1
  · rw [if_pos (by omega)]
    have : (st.tk t.proc.toNat (s.ed t.proc.toNat t.edge.toNat)).tk t.partner.toNat (s.ed t.partner.toNat t.pedge.toNat) = (st.tk t.proc.toNat (s.ed t.proc.toNat t.edge.toNat)).tk j (s.procs[j].edges[m]) := by
      rw [h3, h4, Int.toNat_natCast, Int.toNat_natCast, Sy.ed_eq hj hm]
    rw [this]
    exact Sta.tk_ok g1 hj ((hs.at hj).at hm)
noncomputable def ens (s : Sy) (st : Sta) : List Stp := if s.Ok ∧ st.Ok s then enb s st else []
end Go.Proofs.YtonjglbachhdcaaGreat

/-
  Graphs of systems in plain Lean: how they are built.
-/
namespace Go.Proofs.YtonjglbachhdcaaGreat
open Go
set_option linter.all false
set_option linter.unusedVariables false
set_option linter.unusedSimpArgs false
set_option linter.defProp false
set_option maxRecDepth 1000000

/-- where a state lies -/
def fx (xs : List Sta) (st : Sta) : Int := match xs.findIdx? (fun y => decide (y = st)) with | some i => (i : Int) | none => -1
theorem fx_mem {xs : List Sta} {st : Sta} (h : st ∈ xs) : ∃ (i : Nat) (hi : i < xs.length), fx xs st = i ∧ xs[i] = st := by
  obtain ⟨i, hi⟩ : ∃ i, xs.findIdx? (fun y => decide (y = st)) = some i := by
    rcases hf : xs.findIdx? (fun y => decide (y = st)) with _ | i
    · rw [List.findIdx?_eq_none_iff] at hf
      have := hf st h
      simp at this
    · exact ⟨i, rfl⟩
  have h2 := hi
  rw [List.findIdx?_eq_some_iff_getElem] at h2
  obtain ⟨h3, h4, _⟩ := h2
  exact ⟨i, h3, by rw [fx, hi], by simpa using h4⟩
theorem fx_not {xs : List Sta} {st : Sta} (h : st ∉ xs) : fx xs st = -1 := by
  have : xs.findIdx? (fun y => decide (y = st)) = none := by
    rw [List.findIdx?_eq_none_iff]
    intro y hy
    simp only [decide_eq_false_iff_not]
    rintro rfl
    exact h hy
  rw [fx, this]
def adS (xs : List Sta) (st : Sta) : List Sta := if st ∈ xs then xs else xs ++ [st]
def atS (xs : List Sta) (st : Sta) : Int := if st ∈ xs then fx xs st else xs.length
def adI (l : List Int) (n : Int) : List Int := if n ∈ l then l else l ++ [n]
def g1 (p : List Sta × List Int) (st : Sta) : List Sta × List Int := (adS p.1 st, adI p.2 (atS p.1 st))
theorem mem_adI {l : List Int} {n x : Int} : x ∈ adI l n ↔ x ∈ l ∨ x = n := by
  unfold adI
  split
  · constructor
    · exact .inl
    · rintro (h | rfl) <;> assumption
  · simp
theorem adI_len {l : List Int} {n : Int} : (adI l n).length ≤ l.length + 1 := by
  unfold adI; split <;> simp
theorem adI_ne {l : List Int} {n : Int} : adI l n ≠ [] := by
  unfold adI
  split
  · rename_i h; rintro rfl; simp at h
  · simp
theorem adS_len {xs : List Sta} {st : Sta} : (adS xs st).length ≤ xs.length + 1 := by
  unfold adS; split <;> simp
theorem adS_ge {xs : List Sta} {st : Sta} : xs.length ≤ (adS xs st).length := by
  unfold adS; split <;> simp
theorem atS_rng {xs : List Sta} {st : Sta} : 0 ≤ atS xs st ∧ atS xs st < (adS xs st).length := by
  unfold atS adS
  split
  · rename_i h
    obtain ⟨i, hi, e, _⟩ := fx_mem h
    omega
  · simp; omega

/-- one state's steps -/
def gF (s : Sy) (x : Sta) (n : Nat) (xs : List Sta) : List Sta × List Int := ((enb s x).take n).foldl (fun p t => g1 p (x.aft s t)) (xs, [])
theorem gF_zero {s : Sy} {x : Sta} {xs : List Sta} : gF s x 0 xs = (xs, []) := rfl
theorem gF_succ {s : Sy} {x : Sta} {n : Nat} {xs : List Sta} (hn : n < (enb s x).length) : gF s x (n + 1) xs = g1 (gF s x n xs) (x.aft s (enb s x)[n]) := by
  unfold gF
  rw [List.take_add_one, List.getElem?_eq_getElem hn, List.foldl_append]
  rfl
structure GI (s : Sy) (xs : List Sta) (n : Nat) (p : List Sta × List Int) : Prop where
  pre : ∃ t, p.1 = xs ++ t
  ok : ∀ st ∈ p.1, st.Ok s
  rng : ∀ x ∈ p.2, 0 ≤ x ∧ x < p.1.length
  new : ∀ j : Nat, xs.length ≤ j → j < p.1.length → (j : Int) ∈ p.2
  l1 : p.1.length ≤ xs.length + n
  l2 : p.2.length ≤ n
  ne : 1 ≤ n → p.2 ≠ []
theorem GI.ge {s : Sy} {xs : List Sta} {n : Nat} {p : List Sta × List Int} (h : GI s xs n p) : xs.length ≤ p.1.length := by
  obtain ⟨t, e⟩ := h.pre
  rw [e]; simp
theorem GI.step {s : Sy} {xs : List Sta} {n : Nat} {p : List Sta × List Int} {st : Sta} (h : GI s xs n p) (hst : st.Ok s) : GI s xs (n + 1) (g1 p st) := by
  have hr := atS_rng (xs := p.1) (st := st)
  have hl := adS_len (xs := p.1) (st := st)
  have hg := adS_ge (xs := p.1) (st := st)
  have hl2 := adI_len (l := p.2) (n := atS p.1 st)
  refine ⟨?_, ?_, ?_, ?_, ?_, ?_, fun _ => adI_ne⟩
  · obtain ⟨t, e⟩ := h.pre
    unfold g1 adS
    simp only
    split
    · exact ⟨t, e⟩
    · exact ⟨t ++ [st], by rw [e, List.append_assoc]⟩
  · intro y hy
    simp only [g1, adS] at hy
    split at hy
    · exact h.ok y hy
    · simp only [List.mem_append, List.mem_singleton] at hy
      rcases hy with hy | rfl
      · exact h.ok y hy
      · exact hst
  · intro x hx
    simp only [g1, mem_adI] at hx
    rcases hx with hx | rfl
    · have := h.rng x hx
      simp only [g1]; omega
    · exact hr
  · intro j h1 h2
    simp only [g1] at h2 ⊢
    rw [mem_adI]
    by_cases hj : j < p.1.length
    · exact .inl (h.new j h1 hj)
    · right
      unfold adS at h2
      unfold atS
      split at h2
      · omega
      · rename_i q
        rw [if_neg q]
        simp at h2; omega
  · have := h.l1; simp only [g1]; omega
  · have := h.l2; simp only [g1]; omega
theorem gF_inv {s : Sy} {x : Sta} {xs : List Sta} (hs : s.Ok) (hx : x.Ok s) (hxs : ∀ st ∈ xs, st.Ok s) : ∀ n, n ≤ (enb s x).length → GI s xs n (gF s x n xs)
  | 0, _ => ⟨⟨[], by simp [gF_zero]⟩, hxs, fun x hx => by simp [gF_zero] at hx, fun j h1 h2 => by simp only [gF_zero] at h2; omega, by simp [gF_zero], by simp [gF_zero], fun h => absurd h (by decide)⟩
  | n + 1, hn => by
    rw [gF_succ (by omega)]
    exact (gF_inv hs hx hxs n (by omega)).step (Sta.aft_ok hs hx (enb_in (List.getElem_mem _)))

/-- the graph after some states are done -/
def nxS (i : Nat) (l : List Int) : List Int := if l = [] then [(i : Int)] else l
def rnd (s : Sy) (i : Nat) (g : Gr) : Gr :=
  if h : i < g.states.length then ⟨(gF s g.states[i] (enb s g.states[i]).length g.states).1, g.next ++ [nxS i (gF s g.states[i] (enb s g.states[i]).length g.states).2]⟩ else g
def ini (s : Sy) : Sta := ⟨List.replicate s.procs.length 0, s.init⟩
def gN (s : Sy) : Nat → Gr
  | 0 => ⟨[ini s], []⟩
  | n + 1 => rnd s n (gN s n)
theorem gN_succ {s : Sy} {n : Nat} (h : n < (gN s n).states.length) : gN s (n + 1) = ⟨(gF s (gN s n).states[n] (enb s (gN s n).states[n]).length (gN s n).states).1, (gN s n).next ++ [nxS n (gF s (gN s n).states[n] (enb s (gN s n).states[n]).length (gN s n).states).2]⟩ := by
  rw [gN, rnd, dif_pos h]
theorem gN_stop {s : Sy} {n : Nat} (h : (gN s n).states.length ≤ n) : gN s (n + 1) = gN s n := by
  rw [gN, rnd, dif_neg (by omega)]
theorem ini_ok {s : Sy} (hs : s.Ok) : (ini s).Ok s :=
  ⟨by simp [ini], hs.vs, fun i h1 h2 => by
    have := (hs.at h2).n1
    simp only [ini, List.getElem_replicate]; omega⟩
structure GInv (s : Sy) (n : Nat) (g : Gr) : Prop where
  ok : ∀ st ∈ g.states, st.Ok s
  pos : 1 ≤ g.states.length
  nl : g.next.length = min n g.states.length
  ent : ∀ l ∈ g.next, l ≠ [] ∧ ∀ x ∈ l, 0 ≤ x ∧ x < g.states.length
  ll : ∀ l ∈ g.next, l.length ≤ 325
  rch : ∀ j : Nat, 1 ≤ j → j < g.states.length → ∃ (i : Nat) (hi : i < g.next.length), i < j ∧ (j : Int) ∈ g.next[i]
theorem gN_inv {s : Sy} (hs : s.Ok) : ∀ n, GInv s n (gN s n)
  | 0 => ⟨fun st h => by simp [gN] at h; subst h; exact ini_ok hs, by simp [gN], by simp [gN], fun l hl => by simp [gN] at hl, fun l hl => by simp [gN] at hl, fun j h1 h2 => by simp [gN] at h2; omega⟩
  | n + 1 => by
    have ih := gN_inv hs n
    by_cases h : n < (gN s n).states.length
    case neg =>
      rw [gN_stop (by omega)]
      exact ⟨ih.ok, ih.pos, by rw [ih.nl]; omega, ih.ent, ih.ll, ih.rch⟩
    rw [gN_succ h]
    have hxo := ih.ok _ (List.getElem_mem h)
    have gi := gF_inv hs hxo ih.ok _ (Nat.le_refl (enb s (gN s n).states[n]).length)
    have hge := gi.ge
    have hel := enb_len' (st := (gN s n).states[n]) hs
    have hnl : (gN s n).next.length = n := by rw [ih.nl]; omega
    generalize gF s (gN s n).states[n] (enb s (gN s n).states[n]).length (gN s n).states = p at gi hge
    have hnx : ∀ j : Nat, (gN s n).states.length ≤ j → j < p.1.length → (j : Int) ∈ nxS n p.2 := fun j h1 h2 => by
      have h3 := gi.new j h1 h2
      unfold nxS
      split
      · rename_i e; rw [e] at h3; simp at h3
      · exact h3
    refine ⟨gi.ok, by have := ih.pos; simp only; omega, by simp [hnl]; omega, fun l hl => ?_, fun l hl => ?_, fun j h1 h2 => ?_⟩
    · simp only [List.mem_append, List.mem_singleton] at hl
      rcases hl with hl | rfl
      · have := ih.ent l hl
        exact ⟨this.1, fun x hx => by have := this.2 x hx; simp only; omega⟩
      · unfold nxS
        split
        · exact ⟨by simp, fun x hx => by simp at hx; subst hx; simp only; omega⟩
        · exact ⟨by assumption, gi.rng⟩
    · simp only [List.mem_append, List.mem_singleton] at hl
      rcases hl with hl | rfl
      · exact ih.ll l hl
      · unfold nxS
        split
        · simp
        · have := gi.l2; omega
    · by_cases hj : j < (gN s n).states.length
      · obtain ⟨i, hi, h3, h4⟩ := ih.rch j h1 hj
        refine ⟨i, by simp; omega, h3, ?_⟩
        simp only [List.getElem_append_left hi]
        exact h4
      · refine ⟨n, by simp; omega, by omega, ?_⟩
        have : ((gN s n).next ++ [nxS n p.2])[n]'(by simp; omega) = nxS n p.2 := by
          rw [List.getElem_append_right (by omega)]
          simp
        simp only [this]
        exact hnx j (by omega) h2
theorem gN_mono {s : Sy} (hs : s.Ok) {n m : Nat} (h : n ≤ m) : (gN s n).states.length ≤ (gN s m).states.length := by
  induction m with
  | zero => have : n = 0 := by omega
            subst this; exact Nat.le_refl _
  | succ m ih =>
    by_cases e : n = m + 1
    · subst e; exact Nat.le_refl _
    refine Nat.le_trans (ih (by omega)) ?_
    by_cases h2 : m < (gN s m).states.length
    · rw [gN_succ h2]
      exact (gF_inv hs ((gN_inv hs m).ok _ (List.getElem_mem h2)) (gN_inv hs m).ok _ (Nat.le_refl _)).ge
    · rw [gN_stop (by omega)]
      exact Nat.le_refl _
theorem gN_fix {s : Sy} {n m : Nat} (h : (gN s n).states.length ≤ n) (hm : n ≤ m) : gN s m = gN s n := by
  induction m with
  | zero => have : n = 0 := by omega
            subst this; rfl
  | succ m ih =>
    by_cases e : n = m + 1
    · subst e; rfl
    have := ih (by omega)
    rw [gN_stop (by rw [this]; omega), this]
def Gr.zero : Gr := ⟨[], []⟩
/-- small graphs -/
def bgOk (s : Sy) : Prop := s.Ok ∧ (gN s 60).states.length ≤ 60
noncomputable instance {s : Sy} : Decidable (bgOk s) := Classical.propDecidable _
noncomputable def bgR (s : Sy) : Gr := if bgOk s then gN s 60 else Gr.zero
structure Gr.Fin (s : Sy) (g : Gr) : Prop where
  ok : ∀ st ∈ g.states, st.Ok s
  pos : 1 ≤ g.states.length
  n60 : g.states.length ≤ 60
  nl : g.next.length = g.states.length
  ent : ∀ l ∈ g.next, l ≠ [] ∧ ∀ x ∈ l, 0 ≤ x ∧ x < g.states.length
  ll : ∀ l ∈ g.next, l.length ≤ 325
  rch : ∀ j : Nat, 1 ≤ j → j < g.states.length → ∃ (i : Nat) (hi : i < g.next.length), i < j ∧ (j : Int) ∈ g.next[i]
theorem bgR_fin {s : Sy} (h : bgOk s) : (bgR s).Fin s := by
  have hi := gN_inv h.1 60
  have h2 := h.2
  rw [bgR, if_pos h]
  exact ⟨hi.ok, hi.pos, h.2, by rw [hi.nl]; omega, hi.ent, hi.ll, hi.rch⟩
theorem bg_big {s : Sy} {n : Nat} (hs : s.Ok) (hn : n ≤ 60) (h : 60 < (gN s n).states.length) : ¬ bgOk s := fun hb => by
  have := gN_mono hs hn
  have := hb.2
  omega
theorem bg_end {s : Sy} {n : Nat} (hs : s.Ok) (hn : (gN s n).states.length ≤ n) (h : n ≤ 60) : bgOk s ∧ gN s n = bgR s := by
  have h1 := gN_fix hn h
  have h2 : bgOk s := ⟨hs, by rw [h1]; omega⟩
  exact ⟨h2, by rw [bgR, if_pos h2, h1]⟩
end Go.Proofs.YtonjglbachhdcaaGreat

/-
  Searching graphs in plain Lean: shortest paths from the first node.
-/
namespace Go.Proofs.YtonjglbachhdcaaGreat
open Go
set_option linter.all false
set_option linter.unusedVariables false
set_option linter.unusedSimpArgs false
set_option linter.defProp false
set_option maxRecDepth 1000000

def bs1 (at' : Int) (p : List Int × List Int) (to : Int) : List Int × List Int := if p.1.getD to.toNat 0 = -2 then (p.1.set to.toNat at', p.2 ++ [to]) else p
def bsF (l : List Int) (at' : Int) (p : List Int × List Int) (n : Nat) : List Int × List Int := (l.take n).foldl (bs1 at') p
def bsR (next : List (List Int)) (i : Nat) (p : List Int × List Int) : List Int × List Int :=
  if i < p.2.length then bsF (next.getD (p.2.getD i 0).toNat []) (p.2.getD i 0) p (next.getD (p.2.getD i 0).toNat []).length else p
def bsN (next : List (List Int)) : Nat → List Int × List Int
  | 0 => ((List.replicate next.length (-2)).set 0 (-1), [0])
  | n + 1 => bsR next n (bsN next n)
theorem bsF_zero {l : List Int} {a : Int} {p : List Int × List Int} : bsF l a p 0 = p := rfl
theorem bsF_succ {l : List Int} {a : Int} {p : List Int × List Int} {n : Nat} (hn : n < l.length) : bsF l a p (n + 1) = bs1 a (bsF l a p n) l[n] := by
  unfold bsF
  rw [List.take_add_one, List.getElem?_eq_getElem hn, List.foldl_append]
  rfl

/-- what holds of a search -/
structure BI (N : Nat) (p : List Int × List Int) : Prop where
  fl : p.1.length = N
  q0 : ∃ t, p.2 = 0 :: t
  z0 : ∃ t, p.1 = -1 :: t
  inq : ∀ x ∈ p.2, 0 ≤ x ∧ x < N ∧ p.1.getD x.toNat 0 ≠ -2
  vis : ∀ j : Nat, j < N → p.1.getD j 0 ≠ -2 → (j : Int) ∈ p.2
  val : ∀ j : Nat, 1 ≤ j → j < N → p.1.getD j 0 = -2 ∨ 0 ≤ p.1.getD j 0
  par : ∀ q : Nat, 1 ≤ q → q < p.2.length → ∃ r : Nat, r < q ∧ p.1.getD (p.2.getD q 0).toNat 0 = p.2.getD r 0
  cnt : p.2.length + p.1.count (-2) = N
/-- one search goes on from another -/
structure BL (p p' : List Int × List Int) : Prop where
  keep : ∀ j : Nat, p.1.getD j 0 ≠ -2 → p'.1.getD j 0 = p.1.getD j 0
  pre : ∃ t, p'.2 = p.2 ++ t
theorem BL.refl {p : List Int × List Int} : BL p p := ⟨fun _ _ => rfl, ⟨[], by simp⟩⟩
theorem BL.trans {p q r : List Int × List Int} (h : BL p q) (h' : BL q r) : BL p r := by
  refine ⟨fun j hj => ?_, ?_⟩
  · have e := h.keep j hj
    rw [h'.keep j (by rw [e]; exact hj), e]
  · obtain ⟨t, e⟩ := h.pre
    obtain ⟨t', e'⟩ := h'.pre
    exact ⟨t ++ t', by rw [e', e, List.append_assoc]⟩
theorem BL.len {p q : List Int × List Int} (h : BL p q) : p.2.length ≤ q.2.length := by
  obtain ⟨t, e⟩ := h.pre
  rw [e]; simp
theorem BL.at {p q : List Int × List Int} (h : BL p q) {i : Nat} (hi : i < p.2.length) : q.2.getD i 0 = p.2.getD i 0 := by
  obtain ⟨t, e⟩ := h.pre
  rw [e, List.getD_eq_getElem?_getD, List.getD_eq_getElem?_getD, List.getElem?_append_left hi]
theorem count_set {l : List Int} : ∀ {k : Nat} (hk : k < l.length) {a b : Int}, l[k] = a → a ≠ b → (l.set k b).count a + 1 = l.count a := by
  induction l with
  | nil => intro k hk; exact absurd hk (Nat.not_lt_zero k)
  | cons x l ih =>
    intro k hk a b h1 h2
    cases k with
    | zero =>
      simp only [List.getElem_cons_zero] at h1
      subst h1
      simp only [List.set_cons_zero, List.count_cons_self]
      rw [List.count_cons_of_ne (Ne.symm h2)]
    | succ k =>
      simp only [List.getElem_cons_succ] at h1
      have := ih (k := k) (by simpa using hk) h1 h2
      simp only [List.set_cons_succ, List.count_cons]
      omega
theorem getD_setI {l : List Int} {k j : Nat} {a : Int} (hk : k < l.length) : (l.set k a).getD j 0 = if k = j then a else l.getD j 0 := by
  rw [List.getD_eq_getElem?_getD, List.getElem?_set]
  split
  · rename_i e; subst e; simp [hk]
  · rw [List.getD_eq_getElem?_getD]
theorem BI.le {N : Nat} {p : List Int × List Int} (h : BI N p) : p.2.length ≤ N := by have := h.cnt; omega
theorem BI.pos {N : Nat} {p : List Int × List Int} (h : BI N p) : 1 ≤ p.2.length := by
  obtain ⟨t, e⟩ := h.q0
  rw [e]; simp
theorem BI.at {N : Nat} {p : List Int × List Int} (h : BI N p) {i : Nat} (hi : i < p.2.length) : 0 ≤ p.2.getD i 0 ∧ p.2.getD i 0 < N ∧ p.1.getD (p.2.getD i 0).toNat 0 ≠ -2 := by
  have e : p.2.getD i 0 = p.2[i] := by simp [hi]
  rw [e]
  exact h.inq _ (List.getElem_mem hi)
theorem BI.step {N : Nat} {p : List Int × List Int} (h : BI N p) {i : Nat} (hi : i < p.2.length) {to : Int} (h0 : 0 ≤ to) (h1 : to < N) : BI N (bs1 (p.2.getD i 0) p to) ∧ BL p (bs1 (p.2.getD i 0) p to) ∧ (bs1 (p.2.getD i 0) p to).1.getD to.toNat 0 ≠ -2 := by
  obtain ⟨a, ha⟩ : ∃ a, a = p.2.getD i 0 := ⟨_, rfl⟩
  have hat := h.at hi
  rw [← ha] at hat ⊢
  unfold bs1
  split
  case isFalse e => exact ⟨h, BL.refl, e⟩
  rename_i e
  obtain ⟨k, rfl⟩ : ∃ k : Nat, to = k := ⟨to.toNat, (Int.toNat_of_nonneg h0).symm⟩
  simp only [Int.toNat_natCast] at e ⊢
  have hkN : k < p.1.length := by rw [h.fl]; omega
  obtain ⟨t0, e0⟩ := h.z0
  obtain ⟨tq, eq⟩ := h.q0
  have hk0 : k ≠ 0 := by
    rintro rfl
    rw [e0] at e
    simp at e
  have hkq : (k : Int) ∉ p.2 := fun hm => by
    have := (h.inq _ hm).2.2
    rw [Int.toNat_natCast] at this
    exact this e
  have hge : p.1[k] = -2 := by rw [← e]; simp [hkN]
  refine ⟨⟨by simp [h.fl], ⟨tq ++ [(k : Int)], by rw [eq]; simp⟩, ?_, ?_, ?_, ?_, ?_, ?_⟩, ⟨fun j hj => ?_, ⟨_, rfl⟩⟩, ?_⟩
  · obtain ⟨k', rfl⟩ : ∃ k', k = k' + 1 := ⟨k - 1, by omega⟩
    exact ⟨t0.set k' a, by simp [e0]⟩
  · intro x hx
    simp only [List.mem_append, List.mem_singleton] at hx
    simp only [getD_setI hkN]
    rcases hx with hx | rfl
    · have := h.inq x hx
      refine ⟨this.1, this.2.1, ?_⟩
      split
      · omega
      · exact this.2.2
    · refine ⟨by omega, by omega, ?_⟩
      simp; omega
  · intro j hj h2
    simp only [getD_setI hkN] at h2
    simp only [List.mem_append, List.mem_singleton]
    split at h2
    · rename_i e2; right; omega
    · exact .inl (h.vis j hj h2)
  · intro j h2 h3
    simp only [getD_setI hkN]
    split
    · right; omega
    · exact h.val j h2 h3
  · intro q h2 h3
    simp only [List.length_append, List.length_singleton] at h3
    by_cases hq : q < p.2.length
    · obtain ⟨r, hr, e2⟩ := h.par q h2 hq
      have e3 : (p.2 ++ [(k : Int)]).getD q 0 = p.2.getD q 0 := by rw [List.getD_eq_getElem?_getD, List.getElem?_append_left hq, List.getD_eq_getElem?_getD]
      have e4 : (p.2 ++ [(k : Int)]).getD r 0 = p.2.getD r 0 := by rw [List.getD_eq_getElem?_getD, List.getElem?_append_left (by omega), List.getD_eq_getElem?_getD]
      refine ⟨r, hr, ?_⟩
      simp only [e3, e4, getD_setI hkN]
      have := h.at hq
      rw [if_neg (fun e5 => hkq (by
        have e6 : p.2.getD q 0 = p.2[q] := by simp [hq]
        have e7 : (k : Int) = p.2[q] := by rw [← e6]; omega
        rw [e7]; exact List.getElem_mem hq)), e2]
    · have hq2 : q = p.2.length := by omega
      subst hq2
      refine ⟨i, hi, ?_⟩
      have e3 : (p.2 ++ [(k : Int)]).getD p.2.length 0 = k := by simp
      have e4 : (p.2 ++ [(k : Int)]).getD i 0 = a := by rw [List.getD_eq_getElem?_getD, List.getElem?_append_left hi, ← List.getD_eq_getElem?_getD, ha]
      simp only [e3, e4, getD_setI hkN, Int.toNat_natCast, if_pos]
  · have h2 := h.cnt
    have h3 := count_set hkN hge (b := a) (by omega)
    simp only [List.length_append, List.length_singleton]
    omega
  · simp only [getD_setI hkN]
    rw [if_neg]
    rintro rfl
    exact hj e
  · simp only [getD_setI hkN, if_pos]
    omega
theorem BI.fold {N : Nat} {p : List Int × List Int} (h : BI N p) {i : Nat} (hi : i < p.2.length) {l : List Int} (hl : ∀ x ∈ l, 0 ≤ x ∧ x < N) : ∀ n, n ≤ l.length → BI N (bsF l (p.2.getD i 0) p n) ∧ BL p (bsF l (p.2.getD i 0) p n) ∧ ∀ (m : Nat) (hm : m < l.length), m < n → (bsF l (p.2.getD i 0) p n).1.getD l[m].toNat 0 ≠ -2
  | 0, _ => ⟨h, BL.refl, fun m _ hm => absurd hm (Nat.not_lt_zero m)⟩
  | n + 1, hn => by
    obtain ⟨h1, h2, h3⟩ := BI.fold h hi hl n (by omega)
    have hx := hl _ (List.getElem_mem (show n < l.length by omega))
    have hi' : i < (bsF l (p.2.getD i 0) p n).2.length := by have := h2.len; omega
    have := h1.step hi' hx.1 hx.2
    rw [h2.at hi] at this
    rw [bsF_succ (by omega)]
    refine ⟨this.1, h2.trans this.2.1, fun m hm hmn => ?_⟩
    by_cases e : m = n
    · subst e; exact this.2.2
    · have h4 := h3 m hm (by omega)
      rw [this.2.1.keep _ h4]
      exact h4

/-- a graph's edges -/
structure NOk (next : List (List Int)) : Prop where
  pos : 1 ≤ next.length
  n60 : next.length ≤ 60
  ent : ∀ l ∈ next, ∀ x ∈ l, 0 ≤ x ∧ x < next.length
  ll : ∀ l ∈ next, l.length ≤ 325
theorem NOk.get {next : List (List Int)} (h : NOk next) {k : Nat} (hk : k < next.length) : next.getD k [] = next[k] ∧ next[k] ∈ next := ⟨by simp [hk], List.getElem_mem hk⟩
theorem bsN_inv {next : List (List Int)} (hn : NOk next) : ∀ n, BI next.length (bsN next n) ∧ ∀ q : Nat, q < n → q < (bsN next n).2.length → ∀ x ∈ next.getD ((bsN next n).2.getD q 0).toNat [], (bsN next n).1.getD x.toNat 0 ≠ -2
  | 0 => by
    refine ⟨?_, fun q hq => absurd hq (Nat.not_lt_zero q)⟩
    have hp := hn.pos
    obtain ⟨m, hm⟩ : ∃ m, next.length = m + 1 := ⟨next.length - 1, by omega⟩
    have e : (bsN next 0).1 = -1 :: List.replicate m (-2) := by simp [bsN, hm, List.replicate_succ]
    have e2 : (bsN next 0).2 = [0] := rfl
    refine ⟨by rw [e, hm]; simp, ⟨[], e2⟩, ⟨_, e⟩, ?_, ?_, ?_, ?_, ?_⟩
    · intro x hx
      rw [e2, List.mem_singleton] at hx
      subst hx
      refine ⟨by omega, by omega, ?_⟩
      rw [e]; simp
    · intro j hj h1
      rw [e] at h1
      rw [e2, List.mem_singleton]
      cases j with
      | zero => rfl
      | succ j =>
        refine absurd ?_ h1
        rw [List.getD_cons_succ]
        simp [show j < m by omega]
    · intro j h1 h2
      left
      rw [e]
      obtain ⟨j', rfl⟩ : ∃ j', j = j' + 1 := ⟨j - 1, by omega⟩
      rw [List.getD_cons_succ]
      simp [show j' < m by omega]
    · intro q h1 h2
      rw [e2] at h2
      simp at h2
      omega
    · rw [e, e2, hm, List.count_cons_of_ne (by decide), List.count_replicate_self]
      simp; omega
  | n + 1 => by
    obtain ⟨h1, h2⟩ := bsN_inv hn n
    rw [bsN, bsR]
    split
    case isFalse hlt => exact ⟨h1, fun q hq hq2 => h2 q (by omega) hq2⟩
    rename_i hlt
    have hat := h1.at hlt
    obtain ⟨k, hk⟩ : ∃ k : Nat, (bsN next n).2.getD n 0 = k := ⟨_, (Int.toNat_of_nonneg hat.1).symm⟩
    have hg := hn.get (k := k) (by omega)
    have hf := h1.fold hlt (l := next.getD ((bsN next n).2.getD n 0).toNat []) (fun x hx => by
      rw [hk, Int.toNat_natCast, hg.1] at hx
      exact hn.ent _ hg.2 x hx) _ (Nat.le_refl _)
    obtain ⟨f1, f2, f3⟩ := hf
    refine ⟨f1, fun q hq hq2 x hx => ?_⟩
    by_cases e : q = n
    · subst e
      rw [f2.at hlt] at hx
      obtain ⟨m, hm, rfl⟩ := List.mem_iff_getElem.1 hx
      exact f3 m hm hm
    · have hq3 : q < (bsN next n).2.length := by omega
      rw [f2.at hq3] at hx
      have := h2 q (by omega) hq3 x hx
      rw [f2.keep _ this]
      exact this
theorem bsN_succ {next : List (List Int)} {n : Nat} (h : n < (bsN next n).2.length) : bsN next (n + 1) = bsF (next.getD ((bsN next n).2.getD n 0).toNat []) ((bsN next n).2.getD n 0) (bsN next n) (next.getD ((bsN next n).2.getD n 0).toNat []).length := by
  rw [bsN, bsR, if_pos h]
theorem bsN_stop {next : List (List Int)} {n : Nat} (h : (bsN next n).2.length ≤ n) : bsN next (n + 1) = bsN next n := by
  rw [bsN, bsR, if_neg (by omega)]
theorem bsN_bl {next : List (List Int)} (hn : NOk next) {n m : Nat} (h : n ≤ m) : BL (bsN next n) (bsN next m) := by
  induction m with
  | zero => have : n = 0 := by omega
            subst this; exact BL.refl
  | succ m ih =>
    by_cases e : n = m + 1
    · subst e; exact BL.refl
    refine (ih (by omega)).trans ?_
    have hi := (bsN_inv hn m).1
    by_cases hlt : m < (bsN next m).2.length
    · rw [bsN_succ hlt]
      have hat := hi.at hlt
      obtain ⟨k, hk⟩ : ∃ k : Nat, (bsN next m).2.getD m 0 = k := ⟨_, (Int.toNat_of_nonneg hat.1).symm⟩
      have hg := hn.get (k := k) (by omega)
      exact (hi.fold hlt (fun x hx => by
        rw [hk, Int.toNat_natCast, hg.1] at hx
        exact hn.ent _ hg.2 x hx) _ (Nat.le_refl _)).2.1
    · rw [bsN_stop (by omega)]; exact BL.refl
theorem bsN_fix {next : List (List Int)} {n m : Nat} (h : (bsN next n).2.length ≤ n) (hm : n ≤ m) : bsN next m = bsN next n := by
  induction m with
  | zero => have : n = 0 := by omega
            subst this; rfl
  | succ m ih =>
    by_cases e : n = m + 1
    · subst e; rfl
    have := ih (by omega)
    rw [bsN_stop (by rw [this]; omega), this]

/-- the way back to the first node -/
inductive Chn (f : List Int) : Int → List Int → Prop where
  | z : Chn f (-1) []
  | s {a : Int} {l : List Int} : 0 ≤ a → a < f.length → Chn f (f.getD a.toNat 0) l → Chn f a (l ++ [a])
theorem Chn.neg {f : List Int} {l : List Int} (h : Chn f (-1) l) : l = [] := by
  generalize hx : (-1 : Int) = x at h
  cases h with
  | z => rfl
  | s h0 _ _ => omega
theorem Chn.un {f : List Int} {a : Int} {l : List Int} (h : Chn f a l) (h0 : 0 ≤ a) : ∃ l', l = l' ++ [a] ∧ a < f.length ∧ Chn f (f.getD a.toNat 0) l' := by
  cases h with
  | z => omega
  | s h1 h2 h3 => exact ⟨_, rfl, h2, h3⟩
theorem Chn.ge {f : List Int} {a : Int} {l : List Int} (h : Chn f a l) : -1 ≤ a := by
  cases h with
  | z => decide
  | s h1 _ _ => omega
theorem Chn.det {f : List Int} {a : Int} {l : List Int} (h : Chn f a l) : ∀ {l'}, Chn f a l' → l = l' := by
  induction h with
  | z => exact fun h' => h'.neg.symm
  | s h1 h2 h3 ih =>
    intro l' h'
    obtain ⟨l2, rfl, _, h4⟩ := h'.un h1
    rw [ih h4]
theorem Chn.bl {p p' : List Int × List Int} (hb : BL p p') (hl : p.1.length = p'.1.length) {a : Int} {l : List Int} (h : Chn p.1 a l) : Chn p'.1 a l := by
  induction h with
  | z => exact .z
  | s h1 h2 h3 ih =>
    refine .s h1 (by omega) ?_
    have := h3.ge
    rw [hb.keep _ (by omega)]
    exact ih
theorem Chn.all {f : List Int} {a : Int} {l : List Int} (h : Chn f a l) : ∀ x ∈ l, 0 ≤ x ∧ x < f.length := by
  induction h with
  | z => simp
  | s h1 h2 h3 ih =>
    intro x hx
    simp only [List.mem_append, List.mem_singleton] at hx
    rcases hx with hx | rfl
    · exact ih x hx
    · exact ⟨h1, h2⟩
theorem BI.chn {N : Nat} {p : List Int × List Int} (h : BI N p) : ∀ (q : Nat), q < p.2.length → ∃ l, Chn p.1 (p.2.getD q 0) l ∧ l.length ≤ q + 1 := by
  intro q
  induction q using Nat.strongRecOn with
  | _ q ih =>
    intro hq
    obtain ⟨tz, ez⟩ := h.z0
    obtain ⟨tq, eq⟩ := h.q0
    have hat := h.at hq
    by_cases e : q = 0
    · subst e
      have e1 : p.2.getD 0 0 = 0 := by rw [eq]; simp
      rw [e1]
      refine ⟨[] ++ [0], .s (by decide) (by rw [ez]; simp) ?_, by simp⟩
      rw [ez]
      exact .z
    · obtain ⟨r, hr, e1⟩ := h.par q (by omega) hq
      obtain ⟨l, h1, h2⟩ := ih r hr (by omega)
      refine ⟨l ++ [p.2.getD q 0], .s hat.1 (by rw [h.fl]; exact hat.2.1) (by rw [e1]; exact h1), by simp; omega⟩

/-- all nodes are found -/
theorem bs_all {next : List (List Int)} (hn : NOk next) (hr : ∀ j : Nat, 1 ≤ j → j < next.length → ∃ (i : Nat) (hi : i < next.length), i < j ∧ (j : Int) ∈ next[i]) {n : Nat} (hd : (bsN next n).2.length ≤ n) : ∀ j : Nat, j < next.length → (j : Int) ∈ (bsN next n).2 := by
  intro j
  obtain ⟨h1, h2⟩ := bsN_inv hn n
  induction j using Nat.strongRecOn with
  | _ j ih =>
    intro hj
    by_cases e : j = 0
    · subst e
      obtain ⟨t, e⟩ := h1.q0
      rw [e]; simp
    · obtain ⟨i, hi, hij, hm⟩ := hr j (by omega) hj
      obtain ⟨q, hq, e1⟩ := List.mem_iff_getElem.1 (ih i hij hi)
      have e2 : (bsN next n).2.getD q 0 = i := by rw [← e1]; simp [hq]
      have := h2 q (by omega) hq (j : Int) (by rw [e2, Int.toNat_natCast, (hn.get hi).1]; exact hm)
      rw [Int.toNat_natCast] at this
      exact h1.vis j hj this
noncomputable def pth (next : List (List Int)) (a : Int) : List Int := open Classical in if h : ∃ l, Chn (bsN next next.length).1 a l then h.choose else []
theorem pth_eq {next : List (List Int)} (hn : NOk next) {n : Nat} {a : Int} {l : List Int} (h : Chn (bsN next n).1 a l) (hle : n ≤ next.length) : pth next a = l := by
  have h2 := Chn.bl (bsN_bl hn hle) (by rw [(bsN_inv hn n).1.fl, (bsN_inv hn next.length).1.fl]) h
  have h3 : ∃ l, Chn (bsN next next.length).1 a l := ⟨l, h2⟩
  unfold pth
  rw [dif_pos h3]
  exact h3.choose_spec.det h2
theorem bs_done {next : List (List Int)} (hn : NOk next) : (bsN next next.length).2.length ≤ next.length := (bsN_inv hn _).1.le
theorem pth_chn {next : List (List Int)} (hn : NOk next) (hr : ∀ j : Nat, 1 ≤ j → j < next.length → ∃ (i : Nat) (hi : i < next.length), i < j ∧ (j : Int) ∈ next[i]) {j : Nat} (hj : j < next.length) : Chn (bsN next next.length).1 j (pth next j) ∧ (pth next j).length ≤ 60 := by
  have h1 := bs_all hn hr (bs_done hn) j hj
  obtain ⟨q, hq, e⟩ := List.mem_iff_getElem.1 h1
  obtain ⟨l, h2, h3⟩ := (bsN_inv hn next.length).1.chn q hq
  have e2 : (bsN next next.length).2.getD q 0 = j := by rw [← e]; simp [hq]
  rw [e2] at h2
  rw [pth_eq hn h2 (Nat.le_refl _)]
  have := bs_done hn
  have := hn.n60
  exact ⟨h2, by omega⟩
end Go.Proofs.YtonjglbachhdcaaGreat

/-
  Paths of graphs are executions: in plain Lean.
-/
namespace Go.Proofs.YtonjglbachhdcaaGreat
open Go
set_option linter.all false
set_option linter.unusedVariables false
set_option linter.unusedSimpArgs false
set_option linter.defProp false
set_option maxRecDepth 1000000

theorem adS_pre {xs : List Sta} {st : Sta} {i : Nat} (hi : i < xs.length) : (adS xs st).getD i Sta.zero = xs.getD i Sta.zero := by
  unfold adS
  split
  · rfl
  · rw [List.getD_eq_getElem?_getD, List.getElem?_append_left hi, ← List.getD_eq_getElem?_getD]
theorem atS_get {xs : List Sta} {st : Sta} : (adS xs st).getD (atS xs st).toNat Sta.zero = st := by
  unfold adS atS
  split
  · rename_i h
    obtain ⟨i, hi, e, e2⟩ := fx_mem h
    rw [e, Int.toNat_natCast]
    simp [hi, e2]
  · simp
theorem gF_edge {s : Sy} {x : Sta} {xs : List Sta} (hs : s.Ok) (hx : x.Ok s) (hxs : ∀ st ∈ xs, st.Ok s) : ∀ n, n ≤ (enb s x).length → ∀ y ∈ (gF s x n xs).2, ∃ t ∈ enb s x, (gF s x n xs).1.getD y.toNat Sta.zero = x.aft s t
  | 0, _ => fun y hy => by simp [gF_zero] at hy
  | n + 1, hn => fun y hy => by
    have gi := gF_inv hs hx hxs n (by omega)
    rw [gF_succ (by omega)] at hy ⊢
    simp only [g1, mem_adI] at hy ⊢
    rcases hy with hy | rfl
    · obtain ⟨t, h1, h2⟩ := gF_edge hs hx hxs n (by omega) y hy
      have hr := gi.rng y hy
      exact ⟨t, h1, by rw [adS_pre (by omega)]; exact h2⟩
    · exact ⟨_, List.getElem_mem (show n < (enb s x).length by omega), atS_get⟩
/-- every edge of a graph is a step, or a state without steps stays -/
def Edg (s : Sy) (g : Gr) : Prop := ∀ (i : Nat) (hi : i < g.next.length), ∀ y ∈ g.next[i], (∃ t ∈ enb s (g.states.getD i Sta.zero), g.states.getD y.toNat Sta.zero = (g.states.getD i Sta.zero).aft s t) ∨ y = i
theorem gN_edge {s : Sy} (hs : s.Ok) : ∀ n, Edg s (gN s n) ∧ (gN s n).states.getD 0 Sta.zero = ini s
  | 0 => ⟨fun i hi => by simp [gN] at hi, by simp [gN]⟩
  | n + 1 => by
    have ih := gN_edge hs n
    have inv := gN_inv hs n
    by_cases h : n < (gN s n).states.length
    case neg =>
      rw [gN_stop (by omega)]
      exact ih
    rw [gN_succ h]
    have hxo := inv.ok _ (List.getElem_mem h)
    have gi := gF_inv hs hxo inv.ok _ (Nat.le_refl (enb s (gN s n).states[n]).length)
    have ge := gF_edge hs hxo inv.ok _ (Nat.le_refl (enb s (gN s n).states[n]).length)
    have hnl : (gN s n).next.length = n := by rw [inv.nl]; omega
    have hpos := inv.pos
    have hxe : (gN s n).states.getD n Sta.zero = (gN s n).states[n] := by simp [h]
    generalize gF s (gN s n).states[n] (enb s (gN s n).states[n]).length (gN s n).states = p at gi ge
    have hpre : ∀ i, i < (gN s n).states.length → p.1.getD i Sta.zero = (gN s n).states.getD i Sta.zero := fun i hi => by
      obtain ⟨t, e⟩ := gi.pre
      rw [e, List.getD_eq_getElem?_getD, List.getElem?_append_left hi, ← List.getD_eq_getElem?_getD]
    refine ⟨fun i hi y hy => ?_, by rw [hpre 0 (by omega)]; exact ih.2⟩
    simp only [List.length_append, List.length_singleton] at hi
    by_cases hin : i < n
    · have e1 : ((gN s n).next ++ [nxS n p.2])[i]'(by simp; omega) = (gN s n).next[i]'(by omega) := List.getElem_append_left (by omega)
      simp only [e1] at hy
      have hy2 := (inv.ent _ (List.getElem_mem (show i < (gN s n).next.length by omega))).2 y hy
      rw [hpre i (by omega), hpre y.toNat (by omega)]
      exact ih.1 i (by omega) y hy
    · have hin2 : i = n := by omega
      subst hin2
      have e1 : ((gN s i).next ++ [nxS i p.2])[i]'(by simp; omega) = nxS i p.2 := by
        rw [List.getElem_append_right (by omega)]
        simp
      simp only [e1] at hy
      unfold nxS at hy
      split at hy
      · simp only [List.mem_singleton] at hy
        exact .inr hy
      · obtain ⟨t, h1, h2⟩ := ge y hy
        rw [hpre i h, hxe]
        exact .inl ⟨t, h1, h2⟩
theorem bgR_edge {s : Sy} (h : bgOk s) : Edg s (bgR s) ∧ (bgR s).states.getD 0 Sta.zero = ini s := by
  rw [bgR, if_pos h]
  exact gN_edge h.1 60

/-- where a node was found from -/
def BE (next : List (List Int)) (f : List Int) : Prop := ∀ j : Nat, 0 ≤ f.getD j 0 → j < next.length → (j : Int) ∈ next.getD (f.getD j 0).toNat [] ∧ f.getD j 0 ≠ j
theorem BE.step {next : List (List Int)} {p : List Int × List Int} (h : BE next p.1) (hb : BI next.length p) {i : Nat} (hi : i < p.2.length) {to : Int} (h0 : 0 ≤ to) (h1 : to < next.length) (hm : to ∈ next.getD (p.2.getD i 0).toNat []) : BE next (bs1 (p.2.getD i 0) p to).1 := by
  have hat := hb.at hi
  generalize p.2.getD i 0 = a at *
  unfold bs1
  split
  case isFalse => exact h
  rename_i e
  obtain ⟨k, rfl⟩ : ∃ k : Nat, to = k := ⟨to.toNat, (Int.toNat_of_nonneg h0).symm⟩
  simp only [Int.toNat_natCast] at e ⊢
  have hkN : k < p.1.length := by rw [hb.fl]; omega
  intro j hj hjn
  simp only [getD_setI hkN] at hj ⊢
  split at hj
  · rename_i e2
    subst e2
    rw [if_pos rfl]
    refine ⟨hm, fun e3 => ?_⟩
    rw [e3, Int.toNat_natCast] at hat
    exact hat.2.2 e
  · rename_i e2
    rw [if_neg e2]
    exact h j hj hjn
theorem BE.fold {next : List (List Int)} {p : List Int × List Int} (h : BE next p.1) (hb : BI next.length p) {i : Nat} (hi : i < p.2.length) {l : List Int} (hl : ∀ x ∈ l, 0 ≤ x ∧ x < next.length) (hm : ∀ x ∈ l, x ∈ next.getD (p.2.getD i 0).toNat []) : ∀ n, n ≤ l.length → BE next (bsF l (p.2.getD i 0) p n).1
  | 0, _ => h
  | n + 1, hn => by
    have ih := BE.fold h hb hi hl hm n (by omega)
    obtain ⟨f1, f2, _⟩ := hb.fold hi hl n (by omega)
    have hx := List.getElem_mem (show n < l.length by omega)
    rw [bsF_succ (by omega)]
    have hi' : i < (bsF l (p.2.getD i 0) p n).2.length := by have := f2.len; omega
    have hq := f2.at hi
    have := BE.step ih f1 hi' (hl _ hx).1 (hl _ hx).2 (by rw [hq]; exact hm _ hx)
    rw [hq] at this
    exact this
theorem bsN_BE {next : List (List Int)} (hn : NOk next) : ∀ n, BE next (bsN next n).1
  | 0 => fun j hj hjn => by
    exfalso
    simp only [bsN] at hj
    have h0 : 0 < (List.replicate next.length (-2 : Int)).length := by simp; have := hn.pos; omega
    rw [getD_setI h0] at hj
    split at hj
    · omega
    · simp [hjn] at hj
  | n + 1 => by
    have ih := bsN_BE hn n
    obtain ⟨bi, _⟩ := bsN_inv hn n
    by_cases hlt : n < (bsN next n).2.length
    · rw [bsN_succ hlt]
      have hat := bi.at hlt
      obtain ⟨k, hk⟩ : ∃ k : Nat, (bsN next n).2.getD n 0 = k := ⟨_, (Int.toNat_of_nonneg hat.1).symm⟩
      have hg := hn.get (k := k) (by omega)
      refine BE.fold ih bi hlt (fun x hx => ?_) (fun x hx => hx) _ (Nat.le_refl _)
      rw [hk, Int.toNat_natCast, hg.1] at hx
      exact hn.ent _ hg.2 x hx
    · rw [bsN_stop (by omega)]; exact ih

/-- the nodes of a way back, one behind the other -/
theorem getD_app {l : List Int} {a : Int} {i : Nat} (hi : i < l.length) : (l ++ [a]).getD i 0 = l.getD i 0 := by
  rw [List.getD_eq_getElem?_getD, List.getElem?_append_left hi, ← List.getD_eq_getElem?_getD]
theorem Chn.link {f : List Int} {a : Int} {l : List Int} (h : Chn f a l) : (∀ (i : Nat), i + 1 < l.length → f.getD (l.getD (i + 1) 0).toNat 0 = l.getD i 0) ∧ (0 ≤ a → l.getD (l.length - 1) 0 = a ∧ 0 < l.length) ∧ (0 < l.length → f.getD (l.getD 0 0).toNat 0 = -1) := by
  induction h with
  | z => exact ⟨fun i hi => by simp at hi, fun h => by omega, fun h => by simp at h⟩
  | @s a l h0 h1 h2 ih =>
    obtain ⟨i1, i2, i3⟩ := ih
    refine ⟨fun i hi => ?_, fun _ => ⟨by simp, by simp⟩, fun _ => ?_⟩
    · simp only [List.length_append, List.length_singleton] at hi
      by_cases hl : i + 1 < l.length
      · rw [getD_app hl, getD_app (show i < l.length by omega)]
        exact i1 i hl
      · have hi2 : i + 1 = l.length := by omega
        have e1 : (l ++ [a]).getD (i + 1) 0 = a := by rw [hi2]; simp
        have e2 : (l ++ [a]).getD i 0 = l.getD (l.length - 1) 0 := by
          rw [getD_app (show i < l.length by omega), ← hi2]
          rfl
        rw [e1, e2]
        have hge := h2.ge
        by_cases hb : 0 ≤ f.getD a.toNat 0
        · exact (i2 hb).1.symm
        · have : f.getD a.toNat 0 = -1 := by omega
          rw [this] at h2
          have := h2.neg
          rw [this] at hi2
          simp at hi2
    · by_cases hl : 0 < l.length
      · rw [getD_app hl]
        exact i3 hl
      · have : l = [] := List.length_eq_zero_iff.1 (by omega)
        subst this
        have hge := h2.ge
        simp only [List.nil_append, List.getD_cons_zero]
        by_cases hb : 0 ≤ f.getD a.toNat 0
        · exact absurd (i2 hb).2 (by simp)
        · omega
end Go.Proofs.YtonjglbachhdcaaGreat

/-
  Instances of functions over slices: copies, and whether some element meets a condition. Printed by a program.
-/
namespace Go.Proofs.YtonjglbachhdcaaGreat
open Go
set_option linter.all false
set_option linter.unusedVariables false
set_option linter.unusedSimpArgs false
set_option linter.defProp false
set_option maxRecDepth 1000000

theorem c_Clip_impl_Step {g h : Heap} {Γ : List HP} {a : Value} {x : List Stp} (H : HS g (ow a x :: Γ) h) : CallE Tryz.prog fn_slices_Clip_S_impl_Step_impl_Step [a] h (fun v h' => HS g (ow v x :: Γ) h') := by
  refine CallE.gen fun k hk => EN_slices_Clip_S_impl_Step_impl_Step rfl ?_
  obtain ⟨v', h1, h2⟩ := H.clip (esz := 4) (k := .i64)
  simp -implicitDefEqProofs (disch := first | omega | (simp only [List.length_set, List.length_replicate, List.length_append, List.length_map, List.length_take, List.length_cons, List.length_nil]; omega)) [wrap64, H.rep.len, h1]
  exact RetK.keep (hk _ _ h2)

end Go.Proofs.YtonjglbachhdcaaGreat
