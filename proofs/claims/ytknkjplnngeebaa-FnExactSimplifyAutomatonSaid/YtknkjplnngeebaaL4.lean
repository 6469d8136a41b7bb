/-
  Plain laws: how lists of successors are built.
-/
import Derived.Test.YtknkjplnngeebaaL3
namespace Go.Proofs.Ytknkjplnngeebaa
open Go
set_option linter.all false
set_option linter.unusedVariables false
set_option linter.unusedSimpArgs false
set_option linter.defProp false
set_option maxRecDepth 1000000

/-- the lists of successors, when some edges have been looked at -/
structure NextI (a : Aut) (k : Nat) (G : List (List Int)) : Prop where
  len : G.length = a.acc.length
  mem : ∀ x (hx : x < G.length) z, z ∈ G[x] ↔ ∃ e ∈ a.edges.take k, e.frm = x ∧ e.to = z
  le : ∀ x (hx : x < G.length), G[x].length ≤ k
theorem NextI.zero {a : Aut} : NextI a 0 (List.replicate a.acc.length []) := ⟨by simp, by simp, by simp⟩
theorem NextI.step {a : Aut} {k : Nat} {G : List (List Int)} (h : NextI a k G) (hk : k < a.edges.length) {f t : Nat} (hf : a.edges[k].frm = f) (ht : a.edges[k].to = t) (hfG : f < G.length) : NextI a (k + 1) (G.set f (G[f] ++ [(t : Int)])) := by
  refine ⟨by simp [h.len], ?_, ?_⟩
  · intro x hx z
    have hx' : x < G.length := by simpa using hx
    rw [List.getElem_set, List.take_add_one, List.getElem?_eq_getElem hk]
    simp only [Option.toList_some, List.mem_append, List.mem_singleton]
    by_cases e : f = x
    · subst e
      simp only [if_true, List.mem_append, List.mem_singleton, h.mem f hx']
      constructor
      · rintro (⟨e, h1, h2⟩ | rfl)
        · exact ⟨e, .inl h1, h2⟩
        · exact ⟨_, .inr rfl, hf, ht⟩
      · rintro ⟨e, h1 | rfl, h2, h3⟩
        · exact .inl ⟨e, h1, h2, h3⟩
        · exact .inr (by rw [← h3, ht])
    · rw [if_neg e, h.mem x hx']
      constructor
      · rintro ⟨e, h1, h2⟩; exact ⟨e, .inl h1, h2⟩
      · rintro ⟨e', h1 | rfl, h2, h3⟩
        · exact ⟨e', h1, h2, h3⟩
        · rw [hf] at h2; omega
  · intro x hx
    have hx' : x < G.length := by simpa using hx
    rw [List.getElem_set]
    have := h.le x hx'
    split
    · rename_i e; subst e; simp; omega
    · omega
theorem NextI.skip {a : Aut} {k : Nat} {G : List (List Int)} (h : NextI a k G) (hk : k < a.edges.length) {f t : Nat} (hf : a.edges[k].frm = f) (ht : a.edges[k].to = t) (hfG : f < G.length) (hm : (t : Int) ∈ G[f]) : NextI a (k + 1) G := by
  refine ⟨h.len, ?_, fun x hx => by have := h.le x hx; omega⟩
  intro x hx z
  rw [List.take_add_one, List.getElem?_eq_getElem hk, h.mem x hx]
  simp only [Option.toList_some, List.mem_append, List.mem_singleton]
  constructor
  · rintro ⟨e, h1, h2⟩; exact ⟨e, .inl h1, h2⟩
  · rintro ⟨e', h1 | rfl, h2, h3⟩
    · exact ⟨e', h1, h2, h3⟩
    · rw [hf] at h2
      obtain rfl : f = x := by omega
      rw [← h3, ht]
      exact (h.mem f hfG _).1 hm
theorem NextI.done {a : Aut} {k : Nat} {G : List (List Int)} (ha : a.Ok) (h : NextI a k G) (hk : a.edges.length ≤ k) : Adj a.E G := by
  refine ⟨fun x y hxy => by rw [h.len]; exact a.E_lt ha x y hxy, fun x hx z => ?_⟩
  rw [h.mem x hx, List.take_of_length_le hk]
  constructor
  · rintro ⟨e, he, h1, h2⟩
    have h3 := ha.2.2.2 e he
    unfold Tr.Ok at h3
    exact ⟨e.to.toNat, by omega, e, he, h1, by omega⟩
  · rintro ⟨y, rfl, e, he, h1, h2⟩
    exact ⟨e, he, h1, h2⟩
end Go.Proofs.Ytknkjplnngeebaa
