/-
  How much the arguments and results of the laws hold.
-/
import Derived.Test.YtknkjplnngeebaaQ8
namespace Go.Proofs.Ytknkjplnngeebaa
open Go
set_option linter.all false
set_option linter.unusedVariables false
set_option linter.unusedSimpArgs false
set_option linter.defProp false
set_option maxRecDepth 1000000

theorem sz_aut {a : Aut} : Sz.sz a = a.init.length + a.acc.length + a.edges.length := by
  show Sz.sz a.init + Sz.sz a.acc + Sz.sz a.edges = _
  rw [sz_list, sz_list, sz_list, szL_zero (fun _ => rfl), szL_zero (fun _ => rfl), szL_zero (fun _ => rfl)]; omega
theorem cnt_ints (l : List Int) : Mk.cnt l = l.length := by
  induction l with
  | nil => rfl
  | cons b r ih => show 1 + cntL r = _; have : cntL r = Mk.cnt r := rfl; rw [this, ih]; simp; omega
theorem cnt_bools (l : List Bool) : Mk.cnt l = l.length := by
  induction l with
  | nil => rfl
  | cons b r ih => show 1 + cntL r = _; have : cntL r = Mk.cnt r := rfl; rw [this, ih]; simp; omega
theorem cnt_trs (l : List Tr) : Mk.cnt l = 4 * l.length := by
  induction l with
  | nil => rfl
  | cons b r ih => show 4 + cntL r = _; have : cntL r = Mk.cnt r := rfl; rw [this, ih]; simp; omega
theorem cnt_aut (b : Aut) : Mk.cnt b = b.init.length + b.acc.length + 4 * b.edges.length := by
  show Mk.cnt b.init + Mk.cnt b.acc + Mk.cnt b.edges = _
  rw [cnt_ints, cnt_bools, cnt_trs]
theorem cnt_Automaton {x : Aut} (h : Sz.sz x ≤ 1048576) : Mk.cnt x ≤ 4194304 := by
  rw [sz_aut] at h; rw [cnt_aut]; omega
theorem cnt_IntS {x : List Int} (h : Sz.sz x ≤ 1048576) : Mk.cnt x ≤ 4194304 := by
  rw [sz_list, szL_zero (fun _ => rfl)] at h; rw [cnt_ints]; omega
theorem cnt_ok {x : Aut} (h : x.Ok) : Mk.cnt x ≤ 4194304 := by
  have h1 := h.n
  have h2 := h.il
  have h3 := h.e
  rw [cnt_aut]; omega
theorem cnt_empty : Mk.cnt Aut.empty ≤ 4194304 := by decide
theorem cnt_okR {f : Aut → Aut} {a : Aut} (h : a.Ok → (f a).Ok) : Mk.cnt (if a.Ok then f a else Aut.empty) ≤ 4194304 := by
  split
  · rename_i ha; exact cnt_ok (h ha)
  · exact cnt_empty
theorem bnd_TrimAutomaton {a0 : Aut} : Mk.cnt (if a0.Ok then a0.trim else Aut.empty) ≤ 4194304 := cnt_okR (f := Aut.trim) fun h => Aut.keep_ok h _
end Go.Proofs.Ytknkjplnngeebaa
