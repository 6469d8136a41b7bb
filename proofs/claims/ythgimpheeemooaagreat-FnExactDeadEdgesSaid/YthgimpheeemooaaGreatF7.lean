/-
  How much the answers about edges hold.
-/
import Derived.Test.YthgimpheeemooaaGreatF4
import Derived.Test.YthgimpheeemooaaGreatPJ
import Derived.Test.YthgimpheeemooaaGreatE5
namespace Go.Proofs.YthgimpheeemooaaGreat
open Go
set_option linter.all false
set_option linter.unusedVariables false
set_option linter.unusedSimpArgs false
set_option linter.defProp false
set_option maxRecDepth 1000000
theorem bnd_DeadEdges {a0 : Sy} {a1 : Int} : Mk.cnt (deadR a0 a1) ≤ 4194304 := by
  rw [cnt_bools]
  unfold deadR
  split
  · rename_i h
    obtain ⟨i, rfl⟩ : ∃ i : Nat, a1 = i := ⟨a1.toNat, (Int.toNat_of_nonneg h.2.1).symm⟩
    have hi : i < a0.procs.length := by have := h.2.2; omega
    have := (h.1.1.at hi).el
    unfold Sy.dead
    rw [ddG_len _ (Nat.le_refl _)]
    simp [hi]
    omega
  · simp
end Go.Proofs.YthgimpheeemooaaGreat
