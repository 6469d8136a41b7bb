/-
  Which variables matter: the functions of the packages. How much systems and expressions hold.
-/
import Derived.Test.YthgimpheeemooaaGreatE4
import Derived.Test.YthgimpheeemooaaGreatPM
namespace Go.Proofs.YthgimpheeemooaaGreat
open Go
set_option linter.all false
set_option linter.unusedVariables false
set_option linter.unusedSimpArgs false
set_option linter.defProp false
set_option maxRecDepth 1000000

theorem HS.only {g h : Heap} {Γ : List HP} {p : HP} (H : HS g (p :: Γ) h) : HS g [p] h := by
  obtain ⟨g', r, e, d, hp, H⟩ := H
  exact ⟨g', r, e, d, hp, H.base⟩
def R2 {α : Type} [Ty α] (b : Bool) (y : α) (h : Heap) (u : Value) (h' : Heap) : Prop := ∃ v, u = .tuple #[v, .bool b] ∧ HS h [ow v y] h'

noncomputable def relR (s : Sy) (L : List Exq) : List Bool := if s.Ok ∧ LOk L then s.rel L else []
theorem cnt_ints (l : List Int) : Mk.cnt l = l.length := by
  induction l with
  | nil => rfl
  | cons b r ih => show 1 + cntL r = _; have : cntL r = Mk.cnt r := rfl; rw [this, ih]; simp; omega
theorem cnt_bools (l : List Bool) : Mk.cnt l = l.length := by
  induction l with
  | nil => rfl
  | cons b r ih => show 1 + cntL r = _; have : cntL r = Mk.cnt r := rfl; rw [this, ih]; simp; omega
theorem cnt_cons {α : Type} [Mk α] (x : α) (l : List α) : Mk.cnt (x :: l) = Mk.cnt x + Mk.cnt l := rfl
theorem sz_cons {α : Type} [Sz α] (x : α) (l : List α) : Sz.sz (x :: l) = 1 + Sz.sz x + Sz.sz l := by
  simp only [sz_list, szL, List.length_cons]; omega
theorem cnt_le {α : Type} [Mk α] [Sz α] {c : Nat} : ∀ {l : List α}, (∀ x ∈ l, Mk.cnt x ≤ c * (1 + Sz.sz x)) → Mk.cnt l ≤ c * Sz.sz l
  | [], _ => by show 0 ≤ _; omega
  | x :: l, h => by
    have h1 := cnt_le (l := l) fun y hy => h y (by simp [hy])
    have h2 := h x (by simp)
    rw [cnt_cons, sz_cons, Nat.mul_add]
    omega
theorem cnt_Expr' : ∀ x : Exq, Mk.cnt x.kids ≤ 2 * Sz.sz x.kids := by
  refine Exq.ind fun x ih => cnt_le fun y hy => ?_
  have h1 := ih y hy
  rw [cnt_Exq, sz_Exq]; omega
theorem cnt_ExprS' (l : List Exq) : Mk.cnt l ≤ 2 * Sz.sz l := cnt_Expr' (Exq.mk 0 0 l)
theorem cnt_EdgeS' (l : List Ed) : Mk.cnt l ≤ 8 * Sz.sz l := cnt_le fun e _ => by
  have h1 := cnt_ExprS' e.guard.kids
  have h2 := cnt_ExprS' e.value.kids
  have h3 : Sz.sz e = Sz.sz e.guard.kids + Sz.sz e.value.kids := by rw [← sz_Exq, ← sz_Exq]; rfl
  rw [cnt_Ed, h3]; omega
theorem cnt_ProcessS' (l : List Pr) : Mk.cnt l ≤ 8 * Sz.sz l := cnt_le fun p _ => by
  have h1 := cnt_EdgeS' p.edges
  have h3 : Sz.sz p = Sz.sz p.edges := rfl
  rw [cnt_Pr, h3]; omega
theorem cnt_System {x : Sy} (h : Sz.sz x ≤ 1048576) : Mk.cnt x ≤ 8388608 := by
  have h1 := cnt_ProcessS' x.procs
  have h2 := cnt_ints x.init
  have h3 : Sz.sz x = Sz.sz x.init + Sz.sz x.procs := rfl
  have h4 := sz_list x.init
  rw [cnt_Sy]; omega
theorem cnt_ExprS {x : List Exq} (h : Sz.sz x ≤ 1048576) : Mk.cnt x ≤ 2097152 := by
  have h1 := cnt_ExprS' x
  omega
theorem bnd_RelevantVars {a0 : Sy} {a1 : List Exq} : Mk.cnt (relR a0 a1) ≤ 4194304 := by
  rw [cnt_bools, relR]
  split
  · rw [Sy.rel_len]; omega
  · simp
end Go.Proofs.YthgimpheeemooaaGreat
