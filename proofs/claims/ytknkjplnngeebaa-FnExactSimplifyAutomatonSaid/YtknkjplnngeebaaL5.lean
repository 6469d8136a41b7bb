/-
  Plain laws: ascending lists; the live states behind a word.
-/
import Derived.Test.YtknkjplnngeebaaL4
namespace Go.Proofs.Ytknkjplnngeebaa
open Go
set_option linter.all false
set_option linter.unusedVariables false
set_option linter.unusedSimpArgs false
set_option linter.defProp false
set_option maxRecDepth 1000000

theorem incr_iff {n : Int} : ∀ {lo : Int} {l : List Int}, incr n lo l ↔ l.Pairwise (· < ·) ∧ ∀ x ∈ l, lo < x ∧ x < n
  | lo, [] => by simp [incr]
  | lo, x :: l => by
    rw [show incr n lo (x :: l) ↔ lo < x ∧ x < n ∧ incr n x l from Iff.rfl, incr_iff, List.pairwise_cons]
    constructor
    · rintro ⟨h1, h2, h3, h4⟩
      refine ⟨⟨fun y hy => (h4 y hy).1, h3⟩, fun y hy => ?_⟩
      rcases List.mem_cons.1 hy with rfl | hy
      · exact ⟨h1, h2⟩
      · have := h4 y hy; omega
    · rintro ⟨⟨h1, h2⟩, h3⟩
      exact ⟨(h3 x (by simp)).1, (h3 x (by simp)).2, h2, fun y hy => ⟨h1 y hy, (h3 y (by simp [hy])).2⟩⟩
theorem pairwise_ext : ∀ {l l' : List Int}, l.Pairwise (· < ·) → l'.Pairwise (· < ·) → (∀ x, x ∈ l ↔ x ∈ l') → l = l'
  | [], [], _, _, _ => rfl
  | [], y :: l', _, _, h => by have := (h y).2 (by simp); simp at this
  | x :: l, [], _, _, h => by have := (h x).1 (by simp); simp at this
  | x :: l, y :: l', h1, h2, h => by
    rw [List.pairwise_cons] at h1 h2
    have hxy : x = y := by
      have a1 := (h x).1 (by simp)
      have a2 := (h y).2 (by simp)
      rcases List.mem_cons.1 a1 with a1 | a1
      · exact a1
      · rcases List.mem_cons.1 a2 with a2 | a2
        · exact a2.symm
        · have b1 := h2.1 x a1
          have b2 := h1.1 y a2
          omega
    subst hxy
    congr 1
    refine pairwise_ext h1.2 h2.2 fun z => ?_
    constructor
    · intro hz
      rcases List.mem_cons.1 ((h z).1 (by simp [hz])) with rfl | h3
      · have := h1.1 z hz; omega
      · exact h3
    · intro hz
      rcases List.mem_cons.1 ((h z).2 (by simp [hz])) with rfl | h3
      · have := h2.1 z hz; omega
      · exact h3
theorem incr_ext {n : Int} {lo lo' : Int} {l l' : List Int} (h : incr n lo l) (h' : incr n lo' l') (hm : ∀ x, x ∈ l ↔ x ∈ l') : l = l' :=
  pairwise_ext (incr_iff.1 h).1 (incr_iff.1 h').1 hm

/-- the members of a set of states, ascending -/
def memL (K : Nat → Bool) (i : Nat) : List Int := ((List.range i).filter K).map fun (q : Nat) => (q : Int)
theorem memL_succ {K : Nat → Bool} {i : Nat} : memL K (i + 1) = memL K i ++ if K i then [(i : Int)] else [] := by
  simp only [memL, List.range_succ, List.filter_append, List.map_append, List.filter_cons, List.filter_nil]
  congr 1
  split <;> simp
theorem memL_mem {K : Nat → Bool} {i : Nat} {x : Int} : x ∈ memL K i ↔ ∃ q : Nat, x = q ∧ q < i ∧ K q = true := by
  simp only [memL, List.mem_map, List.mem_filter, List.mem_range]
  constructor
  · rintro ⟨q, ⟨h1, h2⟩, rfl⟩; exact ⟨q, rfl, h1, h2⟩
  · rintro ⟨q, rfl, h1, h2⟩; exact ⟨q, ⟨h1, h2⟩, rfl⟩
theorem memL_incr {K : Nat → Bool} {n : Nat} : ∀ {i : Nat}, i ≤ n → incr n (-1) (memL K i)
  | 0, _ => trivial
  | i + 1, h => by
    rw [memL_succ]
    have ih := incr_iff.1 (memL_incr (K := K) (n := n) (i := i) (by omega))
    split
    · rw [incr_iff, List.pairwise_append]
      refine ⟨⟨ih.1, List.pairwise_singleton _ _, fun x hx y hy => ?_⟩, fun x hx => ?_⟩
      · obtain ⟨q, rfl, hq, _⟩ := memL_mem.1 hx
        have : y = i := by simpa using hy
        omega
      · rcases List.mem_append.1 hx with hx | hx
        · exact ih.2 x hx
        · have : x = i := by simpa using hx
          omega
    · simpa using incr_iff.2 ih
theorem memL_length {K : Nat → Bool} {i : Nat} : (memL K i).length ≤ i := by
  have := List.length_filter_le K (List.range i)
  simpa [memL] using this

/-- the live states with which a word begins, behind a letter, behind a word -/
def Aut.beg (a : Aut) (q : Nat) : Prop := (q : Int) ∈ a.init ∧ a.Live q
def Aut.aft (a : Aut) (S : Nat → Prop) (letter : Int) (t : Nat) : Prop := a.Live t ∧ ∃ e ∈ a.edges, S e.frm.toNat ∧ e.to = t ∧ e.on letter = true
def Aut.behind (a : Aut) (w : List Int) : Nat → Prop := w.foldl a.aft a.beg
theorem foldl_take {α β : Type} {f : β → α → β} {b : β} {l : List α} {i : Nat} (hi : i < l.length) : (l.take (i + 1)).foldl f b = f ((l.take i).foldl f b) l[i] := by
  rw [List.take_add_one, List.getElem?_eq_getElem hi, List.foldl_append]; rfl
noncomputable def Aut.states (a : Aut) (w : List Int) : List Int := memL (fun q => @decide (a.behind w q) (Classical.propDecidable _)) a.acc.length
theorem Aut.states_incr {a : Aut} {w : List Int} : incr a.acc.length (-1) (a.states w) := memL_incr (Nat.le_refl _)
theorem Aut.states_eq {a : Aut} {w : List Int} {l : List Int} (h : incr a.acc.length (-1) l) (hm : ∀ q : Nat, (q : Int) ∈ l ↔ q < a.acc.length ∧ a.behind w q) : l = a.states w := by
  refine incr_ext h a.states_incr fun x => ?_
  rw [Aut.states, memL_mem]
  simp only [decide_eq_true_eq]
  constructor
  · intro hx
    have := incr_mem h x hx
    obtain ⟨q, rfl⟩ : ∃ q : Nat, x = q := ⟨x.toNat, by omega⟩
    exact ⟨q, rfl, (hm q).1 hx⟩
  · rintro ⟨q, rfl, h1, h2⟩
    exact (hm q).2 ⟨h1, h2⟩

/-- a finite word: not too long, all letters -/
def Wok (w : List Int) : Prop := w.length ≤ 200 ∧ ∀ x ∈ w, 0 ≤ x ∧ x ≤ 7
instance (w : List Int) : Decidable (Wok w) := by unfold Wok; infer_instance

/-- a number is put into an ascending list: where the search for its place stands -/
structure InsI (l : List Int) (y : Int) (i : Nat) (dn : Bool) (o : List Int) : Prop where
  no : ∀ j (hj : j < l.length), j < i → l[j] ≠ y
  len : o.length ≤ i + 1
  ff : dn = false → o = l.take i ∧ ∀ x ∈ l.take i, x < y
  tt : dn = true → ∃ k, k ≤ i ∧ o = l.take k ++ y :: (l.take i).drop k ∧ (∀ x ∈ l.take k, x < y) ∧ ∀ x ∈ l.drop k, y < x
theorem InsI.zero {l : List Int} {y : Int} : InsI l y 0 false [] := ⟨by simp, by simp, by simp, by simp⟩
theorem InsI.big {l : List Int} {y : Int} {i : Nat} {o : List Int} (hp : l.Pairwise (· < ·)) (h : InsI l y i false o) (hi : i < l.length) (hy : y < l[i]) : InsI l y (i + 1) true (o ++ [y] ++ [l[i]]) := by
  obtain ⟨h1, h2⟩ := h.ff rfl
  have hl := h.len
  refine ⟨?_, ?_, by simp, fun _ => ⟨i, by omega, ?_, h2, ?_⟩⟩
  · intro j hj hji
    by_cases e : j = i
    · subst e; omega
    · exact h.no j hj (by omega)
  · rw [h1]; simp; omega
  · rw [h1, List.take_add_one, List.getElem?_eq_getElem hi, List.drop_append, List.drop_take]
    simp [Nat.min_eq_left (Nat.le_of_lt hi)]
  · intro x hx
    rw [List.drop_eq_getElem_cons hi] at hx
    rcases List.mem_cons.1 hx with rfl | hx
    · exact hy
    · have h3 : l = l.take (i + 1) ++ l.drop (i + 1) := (List.take_append_drop _ _).symm
      rw [h3, List.pairwise_append] at hp
      have h4 := hp.2.2 l[i] (by rw [List.take_add_one, List.getElem?_eq_getElem hi]; exact List.mem_append_right _ (by simp)) x hx
      omega
theorem InsI.more {l : List Int} {y : Int} {i : Nat} {o : List Int} (h : InsI l y i true o) (hi : i < l.length) (hy : l[i] ≠ y) : InsI l y (i + 1) true (o ++ [l[i]]) := by
  obtain ⟨k, h1, h2, h3, h4⟩ := h.tt rfl
  refine ⟨?_, ?_, by simp, fun _ => ⟨k, by omega, ?_, h3, h4⟩⟩
  · intro j hj hji
    by_cases e : j = i
    · subst e; exact hy
    · exact h.no j hj (by omega)
  · rw [h2]; simp; omega
  · rw [h2, List.take_add_one, List.getElem?_eq_getElem hi, List.drop_append_of_le_length (by simp; omega)]
    simp
theorem InsI.small {l : List Int} {y : Int} {i : Nat} {o : List Int} (h : InsI l y i false o) (hi : i < l.length) (hy : l[i] < y) : InsI l y (i + 1) false (o ++ [l[i]]) := by
  obtain ⟨h1, h2⟩ := h.ff rfl
  refine ⟨?_, ?_, fun _ => ⟨?_, ?_⟩, by simp⟩
  · intro j hj hji
    by_cases e : j = i
    · subst e; omega
    · exact h.no j hj (by omega)
  · rw [h1]; simp; omega
  · rw [h1, List.take_add_one, List.getElem?_eq_getElem hi]; simp
  · intro x hx
    rw [List.take_add_one, List.getElem?_eq_getElem hi] at hx
    rcases List.mem_append.1 hx with hx | hx
    · exact h2 x hx
    · have : x = l[i] := by simpa using hx
      omega
theorem InsI.result {n : Int} {lo : Int} {l : List Int} {y : Int} {i : Nat} {dn : Bool} {o : List Int} (hl : incr n lo l) (hy : lo < y ∧ y < n) (h : InsI l y i dn o) (hi : l.length ≤ i) : incr n lo (if dn then o else o ++ [y]) ∧ ∀ x, x ∈ (if dn then o else o ++ [y]) ↔ x ∈ l ∨ x = y := by
  obtain ⟨g1, g2⟩ := incr_iff.1 hl
  cases dn with
  | false =>
    obtain ⟨h1, h2⟩ := h.ff rfl
    rw [List.take_of_length_le hi] at h1 h2
    subst h1
    simp only [Bool.false_eq_true, if_false, incr_iff, List.pairwise_append, List.mem_append, List.mem_singleton]
    refine ⟨⟨⟨g1, List.pairwise_singleton _ _, fun a ha b hb => hb ▸ h2 a ha⟩, fun x hx => ?_⟩, fun _ => trivial⟩
    rcases hx with hx | rfl
    · exact g2 x hx
    · exact hy
  | true =>
    obtain ⟨k, _, h2, h3, h4⟩ := h.tt rfl
    rw [List.take_of_length_le hi] at h2
    have h5 : l = l.take k ++ l.drop k := (List.take_append_drop _ _).symm
    have hm : ∀ x, x ∈ o ↔ x ∈ l ∨ x = y := by
      intro x
      rw [h2, List.mem_append, List.mem_cons]
      conv => rhs; rw [h5, List.mem_append]
      constructor
      · rintro (h | h | h)
        · exact .inl (.inl h)
        · exact .inr h
        · exact .inl (.inr h)
      · rintro ((h | h) | h)
        · exact .inl h
        · exact .inr (.inr h)
        · exact .inr (.inl h)
    simp only [if_true]
    refine ⟨incr_iff.2 ⟨?_, fun x hx => ?_⟩, hm⟩
    · rw [h5, List.pairwise_append] at g1
      rw [h2, List.pairwise_append, List.pairwise_cons]
      refine ⟨g1.1, ⟨h4, g1.2.1⟩, fun a ha b hb => ?_⟩
      rcases List.mem_cons.1 hb with rfl | hb
      · exact h3 a ha
      · exact g1.2.2 a ha b hb
    · rcases (hm x).1 hx with hx | rfl
      · exact g2 x hx
      · exact hy
end Go.Proofs.Ytknkjplnngeebaa
