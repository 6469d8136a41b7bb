/-
  What the helpers of the laws do: copying, counting, comparing, marking. Printed by a program.
-/
import Derived.Test.YthgimpheeemooaaGreatI9
import Derived.Test.YthgimpheeemooaaGreatPQ
namespace Go.Proofs.YthgimpheeemooaaGreat
open Go
set_option linter.all false
set_option linter.unusedVariables false
set_option linter.unusedSimpArgs false
set_option linter.defProp false
set_option maxRecDepth 1000000

theorem c_heldGraph {h : Heap} {v : Value} {x : Gr} {k0 : Int} (Rv : Rep h v x) (hk0 : 0 ≤ k0) (hk1 : k0 + Mk.cnt x < 4611686018427387904) : CallE Tryz.prog fn_laws_heldGraph [v, .int .i64 k0] h (fun u h' => h' = h ∧ u = .int .i64 (if Mk.wr k0 x = x then k0 + Mk.cnt x else -1)) := by
  have hc : Mk.cnt x = Mk.cnt x.states + Mk.cnt x.next := rfl
  have hw : Mk.wr k0 x = ⟨Mk.wr (k0) x.states, Mk.wr (k0 + (Mk.cnt x.states : Nat)) x.next⟩ := rfl
  obtain ⟨v1, v2, rfl, R1, R2⟩ := Rep_Gr.1 Rv
  refine CallE.gen fun k hk => EN_laws_heldGraph rfl ?_
  simp -implicitDefEqProofs (disch := first | omega | (simp only [List.length_set, List.length_replicate, List.length_append, List.length_map, List.length_take, List.length_cons, List.length_nil]; omega)) [wrap64]
  refine (c_heldStateS (k0 := k0) R1 (by omega) (by omega)).go ?_
  rintro _ _ ⟨rfl, rfl⟩
  by_cases m1 : Mk.wr (k0) x.states = x.states
  case neg =>
    rw [if_neg m1]
    simp -implicitDefEqProofs (disch := first | omega | (simp only [List.length_set, List.length_replicate, List.length_append, List.length_map, List.length_take, List.length_cons, List.length_nil]; omega)) [wrap64]
    refine RetK.keep (hk _ _ ⟨rfl, ?_⟩)
    rw [if_neg]
    intro he
    rw [hw] at he
    exact m1 (congrArg Gr.states he)
  rw [if_pos m1]
  simp -implicitDefEqProofs (disch := first | omega | (simp only [List.length_set, List.length_replicate, List.length_append, List.length_map, List.length_take, List.length_cons, List.length_nil]; omega)) [wrap64]
  rw [IteW_neg (by omega)]
  simp -implicitDefEqProofs (disch := first | omega | (simp only [List.length_set, List.length_replicate, List.length_append, List.length_map, List.length_take, List.length_cons, List.length_nil]; omega)) [wrap64]
  refine (c_heldIntSS (k0 := k0 + (Mk.cnt x.states : Nat)) R2 (by omega) (by omega)).go ?_
  rintro _ _ ⟨rfl, rfl⟩
  by_cases m2 : Mk.wr (k0 + (Mk.cnt x.states : Nat)) x.next = x.next
  case neg =>
    rw [if_neg m2]
    simp -implicitDefEqProofs (disch := first | omega | (simp only [List.length_set, List.length_replicate, List.length_append, List.length_map, List.length_take, List.length_cons, List.length_nil]; omega)) [wrap64]
    refine RetK.keep (hk _ _ ⟨rfl, ?_⟩)
    rw [if_neg]
    intro he
    rw [hw] at he
    exact m2 (congrArg Gr.next he)
  rw [if_pos m2]
  simp -implicitDefEqProofs (disch := first | omega | (simp only [List.length_set, List.length_replicate, List.length_append, List.length_map, List.length_take, List.length_cons, List.length_nil]; omega)) [wrap64]
  rw [IteW_neg (by omega)]
  simp -implicitDefEqProofs (disch := first | omega | (simp only [List.length_set, List.length_replicate, List.length_append, List.length_map, List.length_take, List.length_cons, List.length_nil]; omega)) [wrap64]
  refine RetK.keep (hk _ _ ⟨rfl, ?_⟩)
  rw [if_pos, hc]
  · congr 1; omega
  · rw [hw, m1, m2]

end Go.Proofs.YthgimpheeemooaaGreat
