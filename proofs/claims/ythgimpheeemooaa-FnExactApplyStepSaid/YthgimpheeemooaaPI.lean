/-
  What the helpers of the laws do: copying, counting, comparing, marking. Printed by a program.
-/
import Derived.Test.YthgimpheeemooaaI3
import Derived.Test.YthgimpheeemooaaPF
namespace Go.Proofs.Ythgimpheeemooaa
open Go
set_option linter.all false
set_option linter.unusedVariables false
set_option linter.unusedSimpArgs false
set_option linter.defProp false
set_option maxRecDepth 1000000

theorem c_markState {g h : Heap} {Γ : List HP} {v : Value} {x : Sta} {k0 : Int} (H : HS g (ow v x :: Γ) h) (hk0 : 0 ≤ k0) (hk1 : k0 + Mk.cnt x < 4611686018427387904) : CallE Try.prog fn_laws_markState [v, .int .i64 k0] h (fun u h' => HS g (ow v (Mk.wr k0 x) :: Γ) h' ∧ u = .int .i64 (k0 + Mk.cnt x)) := by
  have hc : Mk.cnt x = Mk.cnt x.locs + Mk.cnt x.vals := rfl
  obtain ⟨v1, v2, rfl, H0⟩ := HS.unSta H
  refine CallE.gen fun k hk => EN_laws_markState rfl ?_
  simp -implicitDefEqProofs (disch := first | omega | (simp only [List.length_set, List.length_replicate, List.length_append, List.length_map, List.length_take, List.length_cons, List.length_nil]; omega)) [wrap64]
  refine (c_markIntS (k0 := k0) H0 (by omega) (by omega)).go ?_
  rintro _ h1 ⟨G1, rfl⟩
  have H1 := G1.bk1
  simp -implicitDefEqProofs (disch := first | omega | (simp only [List.length_set, List.length_replicate, List.length_append, List.length_map, List.length_take, List.length_cons, List.length_nil]; omega)) [wrap64]
  refine (c_markIntS (k0 := k0 + (Mk.cnt x.locs : Nat)) H1 (by omega) (by omega)).go ?_
  rintro _ h2 ⟨G2, rfl⟩
  have H2 := G2.bk1
  simp -implicitDefEqProofs (disch := first | omega | (simp only [List.length_set, List.length_replicate, List.length_append, List.length_map, List.length_take, List.length_cons, List.length_nil]; omega)) [wrap64]
  refine RetK.keep (hk _ _ ⟨HS.mkSta H2, ?_⟩)
  rw [hc]; congr 1; omega

theorem c_heldState {h : Heap} {v : Value} {x : Sta} {k0 : Int} (Rv : Rep h v x) (hk0 : 0 ≤ k0) (hk1 : k0 + Mk.cnt x < 4611686018427387904) : CallE Try.prog fn_laws_heldState [v, .int .i64 k0] h (fun u h' => h' = h ∧ u = .int .i64 (if Mk.wr k0 x = x then k0 + Mk.cnt x else -1)) := by
  have hc : Mk.cnt x = Mk.cnt x.locs + Mk.cnt x.vals := rfl
  have hw : Mk.wr k0 x = ⟨Mk.wr (k0) x.locs, Mk.wr (k0 + (Mk.cnt x.locs : Nat)) x.vals⟩ := rfl
  obtain ⟨v1, v2, rfl, R1, R2⟩ := Rep_Sta.1 Rv
  refine CallE.gen fun k hk => EN_laws_heldState rfl ?_
  simp -implicitDefEqProofs (disch := first | omega | (simp only [List.length_set, List.length_replicate, List.length_append, List.length_map, List.length_take, List.length_cons, List.length_nil]; omega)) [wrap64]
  refine (c_heldIntS (k0 := k0) R1 (by omega) (by omega)).go ?_
  rintro _ _ ⟨rfl, rfl⟩
  by_cases m1 : Mk.wr (k0) x.locs = x.locs
  case neg =>
    rw [if_neg m1]
    simp -implicitDefEqProofs (disch := first | omega | (simp only [List.length_set, List.length_replicate, List.length_append, List.length_map, List.length_take, List.length_cons, List.length_nil]; omega)) [wrap64]
    refine RetK.keep (hk _ _ ⟨rfl, ?_⟩)
    rw [if_neg]
    intro he
    rw [hw] at he
    exact m1 (congrArg Sta.locs he)
  rw [if_pos m1]
  simp -implicitDefEqProofs (disch := first | omega | (simp only [List.length_set, List.length_replicate, List.length_append, List.length_map, List.length_take, List.length_cons, List.length_nil]; omega)) [wrap64]
  rw [IteW_neg (by omega)]
  simp -implicitDefEqProofs (disch := first | omega | (simp only [List.length_set, List.length_replicate, List.length_append, List.length_map, List.length_take, List.length_cons, List.length_nil]; omega)) [wrap64]
  refine (c_heldIntS (k0 := k0 + (Mk.cnt x.locs : Nat)) R2 (by omega) (by omega)).go ?_
  rintro _ _ ⟨rfl, rfl⟩
  by_cases m2 : Mk.wr (k0 + (Mk.cnt x.locs : Nat)) x.vals = x.vals
  case neg =>
    rw [if_neg m2]
    simp -implicitDefEqProofs (disch := first | omega | (simp only [List.length_set, List.length_replicate, List.length_append, List.length_map, List.length_take, List.length_cons, List.length_nil]; omega)) [wrap64]
    refine RetK.keep (hk _ _ ⟨rfl, ?_⟩)
    rw [if_neg]
    intro he
    rw [hw] at he
    exact m2 (congrArg Sta.vals he)
  rw [if_pos m2]
  simp -implicitDefEqProofs (disch := first | omega | (simp only [List.length_set, List.length_replicate, List.length_append, List.length_map, List.length_take, List.length_cons, List.length_nil]; omega)) [wrap64]
  rw [IteW_neg (by omega)]
  simp -implicitDefEqProofs (disch := first | omega | (simp only [List.length_set, List.length_replicate, List.length_append, List.length_map, List.length_take, List.length_cons, List.length_nil]; omega)) [wrap64]
  refine RetK.keep (hk _ _ ⟨rfl, ?_⟩)
  rw [if_pos, hc]
  · congr 1; omega
  · rw [hw, m1, m2]

end Go.Proofs.Ythgimpheeemooaa
