/-
  How much a graph holds.
-/
import Derived.Test.YthgimpheeemooaaGreatF2
import Derived.Test.YthgimpheeemooaaGreatPR
import Derived.Test.YthgimpheeemooaaGreatPJ
namespace Go.Proofs.YthgimpheeemooaaGreat
open Go
set_option linter.all false
set_option linter.unusedVariables false
set_option linter.unusedSimpArgs false
set_option linter.defProp false
set_option maxRecDepth 1000000
theorem cntL_le_mul {α : Type} [Mk α] {c : Nat} : ∀ {l : List α}, (∀ x ∈ l, Mk.cnt x ≤ c) → cntL l ≤ l.length * c
  | [], _ => by simp [cntL]
  | x :: l, h => by
    have h1 := cntL_le_mul (l := l) fun y hy => h y (by simp [hy])
    have h2 := h x (by simp)
    simp only [cntL, List.length_cons, Nat.add_mul]
    omega
theorem bnd_BuildGraph {a0 : Sy} : Mk.cnt (bgR a0) ≤ 4194304 := by
  by_cases h : bgOk a0
  · have hf := bgR_fin h
    have h1 : Mk.cnt (bgR a0) = cntL (bgR a0).states + cntL (bgR a0).next := rfl
    have h2 := cntL_le_mul (c := 6) (l := (bgR a0).states) fun st hst => by
      have h3 := hf.ok st hst
      have h4 := h3.len
      have h5 := h.1.p3
      have h6 := h3.vs.len
      rw [cnt_Sta, cnt_ints, cnt_ints]; omega
    have h3 := cntL_le_mul (c := 325) (l := (bgR a0).next) fun l hl => by
      rw [cnt_ints]; exact hf.ll l hl
    have h4 := hf.n60
    have h5 := hf.nl
    omega
  · rw [bgR, if_neg h]; decide
end Go.Proofs.YthgimpheeemooaaGreat
