/-
  Writing one field of an element of a slice.
-/
import Derived.Test.YtfhjclhchbagnaaG18
namespace Go.Proofs.Ytfhjclhchbagnaa
open Go
set_option linter.all false
set_option linter.unusedVariables false
set_option linter.unusedSimpArgs false
set_option linter.defProp false

/-- the place of a field of an element -/
def elpo (sz : Nat) (v : Value) (i fo : Nat) : Value :=
  match v with
  | .slice (some p) _ _ => .pointer (some ((p.add (i * sz)).add fo))
  | _ => undef

theorem setC_one {cs : List Value} {n : Nat} {u : Value} (h : n < cs.length) : setC cs n [u] = cs.set n u := by
  rw [← setC_cons cs n u [] h]
  simp [setC]

theorem setC_fld {cs : List Value} {n m fo : Nat} {u : Value} (hf : fo < m) (hl : n + m ≤ cs.length) : setC cs (n + fo) [u] = setC cs n (((cs.drop n).take m).set fo u) := by
  rw [setC_one (by omega)]
  have h1 : (((cs.drop n).take m).set fo u).length = m := by simp; omega
  unfold setC
  rw [h1]
  conv => lhs; rw [← List.take_append_drop n cs, ← List.take_append_drop m (cs.drop n), List.drop_drop]
  rw [List.set_append_right _ _ (by simp; omega), List.set_append_left _ _ (by simp; omega)]
  rw [← List.append_assoc]
  congr 3
  simp; omega

section
variable {α : Type} [Ty α] {P : Program} {k : Env → Heap → Prop} {e : Env} {h g r : Heap} {v : Value} {l : List α} {i : Nat}

theorem Rep.fa {n : Nat} (hr : Rep h v l) (hi : i < l.length) {fo : Nat} : faV fo (elp n v i) = some (elpo n v i fo) := by
  obtain ⟨p, cap, rfl, hc, hp, hl⟩ := Rep_list.1 hr
  obtain ⟨b, off, vs, rfl, _⟩ := hl i hi
  rfl

theorem a_store_fldF [Flat α] {a x : O} (y : α) {fo : Nat} {u : Value} (O : Own r v l) (hi : i < l.length) (d : Dj g r) (hh : h = g.add r) (hp : a.get e = some (elpo (Ty.sz α) v i fo)) (hx : x.get e = some u) (hu : u.cells = #[u]) (hu1 : u.oneCell' = true)
    (hfo : fo < Ty.sz α) (hy : Flat.enc y = (Flat.enc l[i]).set fo u) (hok : Flat.ok y) (K : ∀ r', Dj g r' → Own r' v (l.set i y) → k e (g.add r')) : (A.ex none (.store 1 a x)).wp P k e h := by
  subst hh
  rcases Own_list.1 O with ⟨p, _, rfl, _⟩ | ⟨b, off, cap, cells, el, r', rfl, h1, h2, rfl, h4, h5⟩
  · simp at hi
  · obtain ⟨s1, s2, g1, g2, g3, g4⟩ := ownL_at h5 i hi
    obtain ⟨rfl, e1, _⟩ := Flat.own_iff.1 g3
    have hs := slot_le (s := Ty.sz α) hi h1.1
    obtain ⟨d3, d4⟩ := Dj_add.1 d
    have hb : (g.add ((Heap.one b (.cells cells.toArray el (0, 0))).add r')) b = some (.cells cells.toArray el (0, 0)) := by
      have := Dj_one.1 d3
      simp [Heap.add, Heap.one, this, h4]
    have hset : setC cells (off + i * Ty.sz α + fo) [u] = setC cells (off + i * Ty.sz α) (Flat.enc y) := by
      rw [setC_fld hfo (by omega), hy, ← e1, List.drop_drop]
    have hlen : (Flat.enc y).length = Ty.sz α := by
      rw [hy, List.length_set, ← e1]; simp; omega
    refine ⟨b, off + i * Ty.sz α + fo, u, g.add ((Heap.one b (.cells (setC cells (off + i * Ty.sz α + fo) [u]).toArray el (0, 0))).add r'), ?_, hx, by simp [hu], ?_, Fgt.keep ?_⟩
    · rw [hp]; simp [elpo, add_none]
    · unfold hstore
      rw [hb]
      simp only [hu]
      rw [if_pos (by refine ⟨trivial, ?_, by simpa using hu1⟩; simp; omega), add_one_set (Dj_one.1 d3) h4]
    · refine K _ (Dj_add.2 ⟨Dj_one.2 (Dj_one.1 d3), d4⟩) ?_
      have h7 := g4 Heap.nil (Flat.enc y) y nil_Dj (Flat.own_iff.2 ⟨rfl, rfl, hok⟩)
      rw [nil_add] at g1 h7
      refine Own_list.2 (.inr ⟨b, off, cap, _, el, r', by simp, ⟨by simpa using h1.1, by simpa using h1.2⟩, ?_, rfl, h4, ?_⟩)
      · rw [hset, setC_length (by rw [hlen]; omega)]; exact h2
      · rw [hset, drop_setC (by rw [hlen]; omega), g1]; exact h7
end
end Go.Proofs.Ytfhjclhchbagnaa
