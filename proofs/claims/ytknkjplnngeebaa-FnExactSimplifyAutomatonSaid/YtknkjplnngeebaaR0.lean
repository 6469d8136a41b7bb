/-
  A number is put into an ascending list; what is given back as a pair.
-/
import Derived.Test.YtknkjplnngeebaaQ9
import Derived.Test.YtknkjplnngeebaaL5
import Derived.Test.YtknkjplnngeebaaIB
namespace Go.Proofs.Ytknkjplnngeebaa
open Go
set_option linter.all false
set_option linter.unusedVariables false
set_option linter.unusedSimpArgs false
set_option linter.defProp false
set_option maxRecDepth 1000000

theorem c_l10Sorted {g h : Heap} {Γ : List HP} {v : Value} {l : List Int} {n y : Int} (H : HS g (ow v l :: Γ) h) (hl : incr n (-1) l) (hy : -1 < y ∧ y < n) (hn : n ≤ 1048576) : CallE Try.prog fn_spec_l10Sorted [v, .int .i64 y] h (fun u h' => ∃ l', HS g (ow u l' :: Γ) h' ∧ incr n (-1) l' ∧ ∀ x, x ∈ l' ↔ x ∈ l ∨ x = y) := by
  have hll := incr_len hl (by omega)
  have hp := (incr_iff.1 hl).1
  refine CallE.gen fun k hk => EN_spec_l10Sorted rfl ?_
  simp -implicitDefEqProofs (disch := first | omega | (simp only [List.length_set, List.length_replicate, List.length_append, List.length_map, List.length_take, List.length_cons, List.length_nil]; omega)) [wrap64]
  refine H.bls0 Int fun o h1 H => ?_
  simp -implicitDefEqProofs (disch := first | omega | (simp only [List.length_set, List.length_replicate, List.length_append, List.length_map, List.length_take, List.length_cons, List.length_nil]; omega)) [wrap64]
  refine wp_count l.length (fun i e h' => ∃ o dn, e = [some v, some (.int .i64 y), none, some o, some (.bool dn), some (.int .i64 i)] ∧ ∃ O : List Int, HS g (ow o O :: ow v l :: Γ) h' ∧ InsI l y i dn O) ⟨o, false, by simp, [], H, InsI.zero⟩ ?_
  clear H
  rintro J i _ h2 hJ hi ⟨o, dn, rfl, O, H, hI⟩
  have hol := hI.len
  simp -implicitDefEqProofs (disch := first | omega | (simp only [List.length_set, List.length_replicate, List.length_append, List.length_map, List.length_take, List.length_cons, List.length_nil]; omega)) [wrap64, H.sw1.rep.len]
  refine IteW.mk (fun hlt => ?_) (fun hge => ?_)
  · have hix : i < l.length := by omega
    have hxb := H.sw1.rep.okI hix
    by_cases h1 : l[i] = y
    · simp -implicitDefEqProofs (disch := first | omega | (simp only [List.length_set, List.length_replicate, List.length_append, List.length_map, List.length_take, List.length_cons, List.length_nil]; omega)) [wrap64, H.sw1.rep.I, h1]
      refine RetK.keep (hk _ _ ⟨l, H.drop, hl, fun x => ⟨.inl, fun hh => hh.elim id fun e => ?_⟩⟩)
      rw [e, ← h1]; exact List.getElem_mem hix
    by_cases h2 : y < l[i]
    · cases dn with
      | false =>
        simp -implicitDefEqProofs (disch := first | omega | (simp only [List.length_set, List.length_replicate, List.length_append, List.length_map, List.length_take, List.length_cons, List.length_nil]; omega)) [wrap64, H.sw1.rep.I, h1, h2]
        refine H.app1 y rfl rfl rfl ⟨by omega, by omega⟩ rfl rfl (by omega) (by omega) fun o1 h3 H => ?_
        simp -implicitDefEqProofs (disch := first | omega | (simp only [List.length_set, List.length_replicate, List.length_append, List.length_map, List.length_take, List.length_cons, List.length_nil]; omega)) [wrap64, H.sw1.rep.I]
        refine H.app1 l[i] rfl rfl rfl hxb rfl rfl (by simp; omega) (by simp; omega) fun o2 h4 H => ?_
        simp -implicitDefEqProofs (disch := first | omega | (simp only [List.length_set, List.length_replicate, List.length_append, List.length_map, List.length_take, List.length_cons, List.length_nil]; omega)) [wrap64]
        exact hJ _ _ hix ⟨o2, true, rfl, _, H, hI.big hp hix h2⟩
      | true =>
        simp -implicitDefEqProofs (disch := first | omega | (simp only [List.length_set, List.length_replicate, List.length_append, List.length_map, List.length_take, List.length_cons, List.length_nil]; omega)) [wrap64, H.sw1.rep.I, h1, h2]
        refine H.app1 l[i] rfl rfl rfl hxb rfl rfl (by omega) (by omega) fun o2 h4 H => ?_
        simp -implicitDefEqProofs (disch := first | omega | (simp only [List.length_set, List.length_replicate, List.length_append, List.length_map, List.length_take, List.length_cons, List.length_nil]; omega)) [wrap64]
        exact hJ _ _ hix ⟨o2, true, rfl, _, H, hI.more hix h1⟩
    · simp -implicitDefEqProofs (disch := first | omega | (simp only [List.length_set, List.length_replicate, List.length_append, List.length_map, List.length_take, List.length_cons, List.length_nil]; omega)) [wrap64, H.sw1.rep.I, h1, h2]
      refine H.app1 l[i] rfl rfl rfl hxb rfl rfl (by omega) (by omega) fun o2 h4 H => ?_
      simp -implicitDefEqProofs (disch := first | omega | (simp only [List.length_set, List.length_replicate, List.length_append, List.length_map, List.length_take, List.length_cons, List.length_nil]; omega)) [wrap64]
      refine hJ _ _ hix ⟨o2, dn, rfl, _, H, ?_⟩
      cases dn with
      | false => exact hI.small hix (by omega)
      | true => exact hI.more hix h1
  · obtain ⟨r1, r2⟩ := hI.result hl hy (by omega)
    cases dn with
    | false =>
      simp -implicitDefEqProofs (disch := first | omega | (simp only [List.length_set, List.length_replicate, List.length_append, List.length_map, List.length_take, List.length_cons, List.length_nil]; omega)) [wrap64]
      refine H.app1 y rfl rfl rfl ⟨by omega, by omega⟩ rfl rfl (by omega) (by omega) fun o1 h3 H => ?_
      simp -implicitDefEqProofs (disch := first | omega | (simp only [List.length_set, List.length_replicate, List.length_append, List.length_map, List.length_take, List.length_cons, List.length_nil]; omega)) [wrap64]
      exact RetK.keep (hk _ _ ⟨_, H.sw1.drop, r1, r2⟩)
    | true =>
      simp -implicitDefEqProofs (disch := first | omega | (simp only [List.length_set, List.length_replicate, List.length_append, List.length_map, List.length_take, List.length_cons, List.length_nil]; omega)) [wrap64]
      exact RetK.keep (hk _ _ ⟨_, H.sw1.drop, r1, r2⟩)

/-- what is given back: a pair of a piece of data and a truth value -/
def R2 {α : Type} [Ty α] (b : Bool) (y : α) (h : Heap) (u : Value) (h' : Heap) : Prop := ∃ v, u = .tuple #[v, .bool b] ∧ HS h [ow v y] h'
end Go.Proofs.Ytknkjplnngeebaa
