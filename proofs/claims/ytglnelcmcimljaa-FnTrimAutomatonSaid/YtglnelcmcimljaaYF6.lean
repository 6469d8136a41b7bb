/-
  Texts of this proof, one behind the other.
-/
import Derived.Test.YtglnelcmcimljaaYF5
/-
  Plain laws: how lists of successors are built.
-/
namespace Go.Proofs.Ytglnelcmcimljaa
open Go
set_option linter.all false
set_option linter.unusedVariables false
set_option linter.unusedSimpArgs false
set_option linter.defProp false
set_option maxRecDepth 1000000

/-- the lists of successors, when some edges have been looked at -/
structure NextI (a : Aut) (k : Nat) (G : List (List Int)) : Prop where
  len : G.length = a.acc.length
  mem : ∀ x (hx : x < G.length) z, z ∈ G[x] ↔ ∃ e ∈ a.edges.take k, e.frm = x ∧ e.to = z
  le : ∀ x (hx : x < G.length), G[x].length ≤ k
theorem NextI.zero {a : Aut} : NextI a 0 (List.replicate a.acc.length []) := ⟨by simp, by simp, by simp⟩
theorem NextI.step {a : Aut} {k : Nat} {G : List (List Int)} (h : NextI a k G) (hk : k < a.edges.length) {f t : Nat} (hf : a.edges[k].frm = f) (ht : a.edges[k].to = t) (hfG : f < G.length) : NextI a (k + 1) (G.set f (G[f] ++ [(t : Int)])) := by
  refine ⟨by simp [h.len], ?_, ?_⟩
  · intro x hx z
    have hx' : x < G.length := by simpa using hx
    rw [List.getElem_set, List.take_add_one, List.getElem?_eq_getElem hk]
    simp only [Option.toList_some, List.mem_append, List.mem_singleton]
    by_cases e : f = x
    · subst e
      simp only [if_true, List.mem_append, List.mem_singleton, h.mem f hx']
      constructor
      · rintro (⟨e, h1, h2⟩ | rfl)
        · exact ⟨e, .inl h1, h2⟩
        · exact ⟨_, .inr rfl, hf, ht⟩
      · rintro ⟨e, h1 | rfl, h2, h3⟩
        · exact .inl ⟨e, h1, h2, h3⟩
        · exact .inr (by rw [← h3, ht])
    · rw [if_neg e, h.mem x hx']
      constructor
      · rintro ⟨e, h1, h2⟩; exact ⟨e, .inl h1, h2⟩
      · rintro ⟨e', h1 | rfl, h2, h3⟩
        · exact ⟨e', h1, h2, h3⟩
        · rw [hf] at h2; omega
  · intro x hx
    have hx' : x < G.length := by simpa using hx
    rw [List.getElem_set]
    have := h.le x hx'
    split
    · rename_i e; subst e; simp; omega
    · omega
theorem NextI.skip {a : Aut} {k : Nat} {G : List (List Int)} (h : NextI a k G) (hk : k < a.edges.length) {f t : Nat} (hf : a.edges[k].frm = f) (ht : a.edges[k].to = t) (hfG : f < G.length) (hm : (t : Int) ∈ G[f]) : NextI a (k + 1) G := by
  refine ⟨h.len, ?_, fun x hx => by have := h.le x hx; omega⟩
  intro x hx z
  rw [List.take_add_one, List.getElem?_eq_getElem hk, h.mem x hx]
  simp only [Option.toList_some, List.mem_append, List.mem_singleton]
  constructor
  · rintro ⟨e, h1, h2⟩; exact ⟨e, .inl h1, h2⟩
  · rintro ⟨e', h1 | rfl, h2, h3⟩
    · exact ⟨e', h1, h2, h3⟩
    · rw [hf] at h2
      obtain rfl : f = x := by omega
      rw [← h3, ht]
      exact (h.mem f hfG _).1 hm
theorem NextI.done {a : Aut} {k : Nat} {G : List (List Int)} (ha : a.Ok) (h : NextI a k G) (hk : a.edges.length ≤ k) : Adj a.E G := by
  refine ⟨fun x y hxy => by rw [h.len]; exact a.E_lt ha x y hxy, fun x hx z => ?_⟩
  rw [h.mem x hx, List.take_of_length_le hk]
  constructor
  · rintro ⟨e, he, h1, h2⟩
    have h3 := ha.2.2.2 e he
    unfold Tr.Ok at h3
    exact ⟨e.to.toNat, by omega, e, he, h1, by omega⟩
  · rintro ⟨y, rfl, e, he, h1, h2⟩
    exact ⟨e, he, h1, h2⟩
end Go.Proofs.Ytglnelcmcimljaa

/-
  Plain laws: ascending lists; the live states behind a word.
-/
namespace Go.Proofs.Ytglnelcmcimljaa
open Go
set_option linter.all false
set_option linter.unusedVariables false
set_option linter.unusedSimpArgs false
set_option linter.defProp false
set_option maxRecDepth 1000000

theorem incr_iff {n : Int} : ∀ {lo : Int} {l : List Int}, incr n lo l ↔ l.Pairwise (· < ·) ∧ ∀ x ∈ l, lo < x ∧ x < n
  | lo, [] => by simp [incr]
  | lo, x :: l => by
    rw [show incr n lo (x :: l) ↔ lo < x ∧ x < n ∧ incr n x l from Iff.rfl, incr_iff, List.pairwise_cons]
    constructor
    · rintro ⟨h1, h2, h3, h4⟩
      refine ⟨⟨fun y hy => (h4 y hy).1, h3⟩, fun y hy => ?_⟩
      rcases List.mem_cons.1 hy with rfl | hy
      · exact ⟨h1, h2⟩
      · have := h4 y hy; omega
    · rintro ⟨⟨h1, h2⟩, h3⟩
      exact ⟨(h3 x (by simp)).1, (h3 x (by simp)).2, h2, fun y hy => ⟨h1 y hy, (h3 y (by simp [hy])).2⟩⟩
theorem pairwise_ext : ∀ {l l' : List Int}, l.Pairwise (· < ·) → l'.Pairwise (· < ·) → (∀ x, x ∈ l ↔ x ∈ l') → l = l'
  | [], [], _, _, _ => rfl
  | [], y :: l', _, _, h => by have := (h y).2 (by simp); simp at this
  | x :: l, [], _, _, h => by have := (h x).1 (by simp); simp at this
  | x :: l, y :: l', h1, h2, h => by
    rw [List.pairwise_cons] at h1 h2
    have hxy : x = y := by
      have a1 := (h x).1 (by simp)
      have a2 := (h y).2 (by simp)
      rcases List.mem_cons.1 a1 with a1 | a1
      · exact a1
      · rcases List.mem_cons.1 a2 with a2 | a2
        · exact a2.symm
        · have b1 := h2.1 x a1
          have b2 := h1.1 y a2
          omega
    subst hxy
    congr 1
    refine pairwise_ext h1.2 h2.2 fun z => ?_
    constructor
    · intro hz
      rcases List.mem_cons.1 ((h z).1 (by simp [hz])) with rfl | h3
      · have := h1.1 z hz; omega
      · exact h3
    · intro hz
      rcases List.mem_cons.1 ((h z).2 (by simp [hz])) with rfl | h3
      · have := h2.1 z hz; omega
      · exact h3
theorem incr_ext {n : Int} {lo lo' : Int} {l l' : List Int} (h : incr n lo l) (h' : incr n lo' l') (hm : ∀ x, x ∈ l ↔ x ∈ l') : l = l' :=
  pairwise_ext (incr_iff.1 h).1 (incr_iff.1 h').1 hm

/-- the members of a set of states, ascending -/
def memL (K : Nat → Bool) (i : Nat) : List Int := ((List.range i).filter K).map fun (q : Nat) => (q : Int)
theorem memL_succ {K : Nat → Bool} {i : Nat} : memL K (i + 1) = memL K i ++ if K i then [(i : Int)] else [] := by
  simp only [memL, List.range_succ, List.filter_append, List.map_append, List.filter_cons, List.filter_nil]
  congr 1
  split <;> simp
theorem memL_mem {K : Nat → Bool} {i : Nat} {x : Int} : x ∈ memL K i ↔ ∃ q : Nat, x = q ∧ q < i ∧ K q = true := by
  simp only [memL, List.mem_map, List.mem_filter, List.mem_range]
  constructor
  · rintro ⟨q, ⟨h1, h2⟩, rfl⟩; exact ⟨q, rfl, h1, h2⟩
  · rintro ⟨q, rfl, h1, h2⟩; exact ⟨q, ⟨h1, h2⟩, rfl⟩
theorem memL_incr {K : Nat → Bool} {n : Nat} : ∀ {i : Nat}, i ≤ n → incr n (-1) (memL K i)
  | 0, _ => trivial
  | i + 1, h => by
    rw [memL_succ]
    have ih := incr_iff.1 (memL_incr (K := K) (n := n) (i := i) (by omega))
    split
    · rw [incr_iff, List.pairwise_append]
      refine ⟨⟨ih.1, List.pairwise_singleton _ _, fun x hx y hy => ?_⟩, fun x hx => ?_⟩
      · obtain ⟨q, rfl, hq, _⟩ := memL_mem.1 hx
        have : y = i := by simpa using hy
        omega
      · rcases List.mem_append.1 hx with hx | hx
        · exact ih.2 x hx
        · have : x = i := by simpa using hx
          omega
    · simpa using incr_iff.2 ih
/-- the live states with which a word begins, behind a letter, behind a word -/
def Aut.beg (a : Aut) (q : Nat) : Prop := (q : Int) ∈ a.init ∧ a.Live q
def Aut.aft (a : Aut) (S : Nat → Prop) (letter : Int) (t : Nat) : Prop := a.Live t ∧ ∃ e ∈ a.edges, S e.frm.toNat ∧ e.to = t ∧ e.on letter = true
def Aut.behind (a : Aut) (w : List Int) : Nat → Prop := w.foldl a.aft a.beg
noncomputable def Aut.states (a : Aut) (w : List Int) : List Int := memL (fun q => @decide (a.behind w q) (Classical.propDecidable _)) a.acc.length
/-- a finite word: not too long, all letters -/
def Wok (w : List Int) : Prop := w.length ≤ 200 ∧ ∀ x ∈ w, 0 ≤ x ∧ x ≤ 7
instance (w : List Int) : Decidable (Wok w) := by unfold Wok; infer_instance

/-- a number is put into an ascending list: where the search for its place stands -/
structure InsI (l : List Int) (y : Int) (i : Nat) (dn : Bool) (o : List Int) : Prop where
  no : ∀ j (hj : j < l.length), j < i → l[j] ≠ y
  len : o.length ≤ i + 1
  ff : dn = false → o = l.take i ∧ ∀ x ∈ l.take i, x < y
  tt : dn = true → ∃ k, k ≤ i ∧ o = l.take k ++ y :: (l.take i).drop k ∧ (∀ x ∈ l.take k, x < y) ∧ ∀ x ∈ l.drop k, y < x
theorem InsI.zero {l : List Int} {y : Int} : InsI l y 0 false [] := ⟨by simp, by simp, by simp, by simp⟩
theorem InsI.more {l : List Int} {y : Int} {i : Nat} {o : List Int} (h : InsI l y i true o) (hi : i < l.length) (hy : l[i] ≠ y) : InsI l y (i + 1) true (o ++ [l[i]]) := by
  obtain ⟨k, h1, h2, h3, h4⟩ := h.tt rfl
  refine ⟨?_, ?_, by simp, fun _ => ⟨k, by omega, ?_, h3, h4⟩⟩
  · intro j hj hji
    by_cases e : j = i
    · subst e; exact hy
    · exact h.no j hj (by omega)
  · rw [h2]; simp; omega
  · rw [h2, List.take_add_one, List.getElem?_eq_getElem hi, List.drop_append_of_le_length (by simp; omega)]
    simp
theorem InsI.small {l : List Int} {y : Int} {i : Nat} {o : List Int} (h : InsI l y i false o) (hi : i < l.length) (hy : l[i] < y) : InsI l y (i + 1) false (o ++ [l[i]]) := by
  obtain ⟨h1, h2⟩ := h.ff rfl
  refine ⟨?_, ?_, fun _ => ⟨?_, ?_⟩, by simp⟩
  · intro j hj hji
    by_cases e : j = i
    · subst e; omega
    · exact h.no j hj (by omega)
  · rw [h1]; simp; omega
  · rw [h1, List.take_add_one, List.getElem?_eq_getElem hi]; simp
  · intro x hx
    rw [List.take_add_one, List.getElem?_eq_getElem hi] at hx
    rcases List.mem_append.1 hx with hx | hx
    · exact h2 x hx
    · have : x = l[i] := by simpa using hx
      omega
theorem InsI.result {n : Int} {lo : Int} {l : List Int} {y : Int} {i : Nat} {dn : Bool} {o : List Int} (hl : incr n lo l) (hy : lo < y ∧ y < n) (h : InsI l y i dn o) (hi : l.length ≤ i) : incr n lo (if dn then o else o ++ [y]) ∧ ∀ x, x ∈ (if dn then o else o ++ [y]) ↔ x ∈ l ∨ x = y := by
  obtain ⟨g1, g2⟩ := incr_iff.1 hl
  cases dn with
  | false =>
    obtain ⟨h1, h2⟩ := h.ff rfl
    rw [List.take_of_length_le hi] at h1 h2
    subst h1
    simp only [Bool.false_eq_true, if_false, incr_iff, List.pairwise_append, List.mem_append, List.mem_singleton]
    refine ⟨⟨⟨g1, List.pairwise_singleton _ _, fun a ha b hb => hb ▸ h2 a ha⟩, fun x hx => ?_⟩, fun _ => trivial⟩
    rcases hx with hx | rfl
    · exact g2 x hx
    · exact hy
  | true =>
    obtain ⟨k, _, h2, h3, h4⟩ := h.tt rfl
    rw [List.take_of_length_le hi] at h2
    have h5 : l = l.take k ++ l.drop k := (List.take_append_drop _ _).symm
    have hm : ∀ x, x ∈ o ↔ x ∈ l ∨ x = y := by
      intro x
      rw [h2, List.mem_append, List.mem_cons]
      conv => rhs; rw [h5, List.mem_append]
      constructor
      · rintro (h | h | h)
        · exact .inl (.inl h)
        · exact .inr h
        · exact .inl (.inr h)
      · rintro ((h | h) | h)
        · exact .inl h
        · exact .inr (.inr h)
        · exact .inr (.inl h)
    simp only [if_true]
    refine ⟨incr_iff.2 ⟨?_, fun x hx => ?_⟩, hm⟩
    · rw [h5, List.pairwise_append] at g1
      rw [h2, List.pairwise_append, List.pairwise_cons]
      refine ⟨g1.1, ⟨h4, g1.2.1⟩, fun a ha b hb => ?_⟩
      rcases List.mem_cons.1 hb with rfl | hb
      · exact h3 a ha
      · exact g1.2.2 a ha b hb
    · rcases (hm x).1 hx with hx | rfl
      · exact g2 x hx
      · exact hy
end Go.Proofs.Ytglnelcmcimljaa

/-
  Plain laws of the tables by which the program and the reference search for the greatest simulation.
-/
namespace Go.Proofs.Ytglnelcmcimljaa
open Go
set_option linter.all false
set_option linter.unusedVariables false
set_option linter.unusedSimpArgs false
set_option linter.defProp false
set_option maxRecDepth 1000000

/-- an edge from i to j that takes the letter l -/
def EdgeB (es : List Tr) (i l j : Nat) : Prop := ∃ e ∈ es, e.frm = i ∧ e.to = j ∧ e.on l = true
/- bits -/
def bitR (B : List (BitVec 64)) : Rl := fun i j => (B.getD i 0).getLsbD j
/-- rows of truth values -/
def matR (M : List (List Bool)) : Rl := fun i j => (M.getD i []).getD j false
theorem matR_get {M : List (List Bool)} {i j : Nat} (hi : i < M.length) (hj : j < M[i].length) : matR M i j = M[i][j] := by
  simp [matR, hi, hj]
/-- the table of edges, by letters -/
def Tab (es : List Tr) (n : Nat) (T : List W8) : Prop := T.length = n ∧ ∀ i l k, i < n → l < 8 → k < 64 → (((T.getD i W8.zero).at l).getLsbD k = true ↔ EdgeB es i l k)
/-- the same, while an edge is being entered -/
def Tab2 (es : List Tr) (e : Tr) (m : Nat) (n : Nat) (T : List W8) : Prop := T.length = n ∧ ∀ i l k, i < n → l < 8 → k < 64 → (((T.getD i W8.zero).at l).getLsbD k = true ↔ EdgeB es i l k ∨ (l < m ∧ e.frm = i ∧ e.to = k ∧ e.on l = true))
theorem Tab.zero (n : Nat) : Tab [] n (List.replicate n W8.zero) := by
  refine ⟨by simp, fun i l k hi hl hk => ?_⟩
  have h1 : (List.replicate n W8.zero).getD i W8.zero = W8.zero := by
    rw [List.getD_eq_getElem?_getD, List.getElem?_replicate]; split <;> rfl
  rw [h1]
  have h2 : W8.zero.at l = 0 := by
    simp only [W8.at, W8.zero, List.getD_eq_getElem?_getD, List.getElem?_replicate]; split <;> rfl
  rw [h2]
  simp [EdgeB]
theorem Tab.start {es : List Tr} {n : Nat} {T : List W8} (h : Tab es n T) (e : Tr) : Tab2 es e 0 n T :=
  ⟨h.1, fun i l k hi hl hk => by rw [h.2 i l k hi hl hk]; simp⟩
theorem Tab2.skip {es : List Tr} {n m : Nat} {T : List W8} {e : Tr} (h : Tab2 es e m n T) (ho : e.on m = false) : Tab2 es e (m + 1) n T := by
  refine ⟨h.1, fun i l k hi hl hk => ?_⟩
  rw [h.2 i l k hi hl hk]
  by_cases hm : l = m
  · subst hm; simp [ho]
  · have : l < m ↔ l < m + 1 := by omega
    rw [this]
theorem Tab2.put {es : List Tr} {n m : Nat} {T : List W8} {e : Tr} (h : Tab2 es e m n T) (ho : e.on m = true) (hm : m < 8) {f t : Nat} (hf : e.frm = f) (ht : e.to = t) (hfn : f < n) (htn : t < 64) :
    Tab2 es e (m + 1) n (T.set f ((T[f]'(h.1 ▸ hfn)).put m (setB ((T[f]'(h.1 ▸ hfn)).at m) t))) := by
  have hfl : f < T.length := h.1 ▸ hfn
  refine ⟨by simpa using h.1, fun i l k hi hl hk => ?_⟩
  have h1 := h.2 i l k hi hl hk
  rw [List.getD_eq_getElem?_getD, List.getElem?_set]
  rw [List.getD_eq_getElem?_getD] at h1
  by_cases hfi : f = i
  · subst hfi
    simp only [hfl, List.getElem?_eq_getElem, Option.getD_some, if_true] at h1 ⊢
    rw [W8.put_at _ hm]
    by_cases hlm : l = m
    · subst hlm
      rw [if_pos rfl, setB_get htn]
      simp only [Bool.or_eq_true, h1, decide_eq_true_eq]
      have : l < l + 1 := by omega
      constructor
      · rintro ((h2 | h2) | h2)
        · exact .inl h2
        · omega
        · exact .inr ⟨this, hf, by rw [ht, h2], ho⟩
      · rintro (h2 | ⟨_, _, h2, _⟩)
        · exact .inl (.inl h2)
        · exact .inr (by rw [ht] at h2; omega)
    · rw [if_neg hlm, h1]
      have : l < m ↔ l < m + 1 := by omega
      rw [this]
  · rw [if_neg hfi, h1]
    constructor
    · rintro (h2 | ⟨h3, h4, h5⟩)
      · exact .inl h2
      · exact .inr ⟨by omega, h4, h5⟩
    · rintro (h2 | ⟨h3, h4, h5⟩)
      · exact .inl h2
      · rw [hf] at h4; omega
theorem Tab2.done {es : List Tr} {n : Nat} {T : List W8} {k : Nat} (hk : k < es.length) (h : Tab2 (es.take k) es[k] 8 n T) : Tab (es.take (k + 1)) n T := by
  refine ⟨h.1, fun i l j hi hl hj => ?_⟩
  rw [h.2 i l j hi hl hj, List.take_add_one, List.getElem?_eq_getElem hk]
  simp only [EdgeB, List.mem_append, Option.toList_some, List.mem_singleton]
  constructor
  · rintro (⟨e, h1, h2⟩ | ⟨_, h2⟩)
    · exact ⟨e, .inl h1, h2⟩
    · exact ⟨_, .inr rfl, h2⟩
  · rintro ⟨e, h1 | rfl, h2⟩
    · exact .inl ⟨e, h1, h2⟩
    · exact .inr ⟨hl, h2⟩
end Go.Proofs.Ytglnelcmcimljaa

/-
  Plain laws: states that are the same get one number; what is left of an automaton then.
-/
namespace Go.Proofs.Ytglnelcmcimljaa
open Go
set_option linter.all false
set_option linter.unusedVariables false
set_option linter.unusedSimpArgs false
set_option linter.defProp false
set_option maxRecDepth 1000000

/-- numbers of the first so many states, in the order of the first ones: a state that is the same as an earlier one has that one's number -/
def grpS (e : Nat → Nat → Bool) : Nat → List Nat × Nat
  | 0 => ([], 0)
  | i + 1 => match (List.range i).find? (fun k => e i k) with
    | some k => ((grpS e i).1 ++ [(grpS e i).1.getD k 0], (grpS e i).2)
    | none => ((grpS e i).1 ++ [(grpS e i).2], (grpS e i).2 + 1)
theorem grpS_old {e : Nat → Nat → Bool} {i k : Nat} (h : (List.range i).find? (fun k => e i k) = some k) : grpS e (i + 1) = ((grpS e i).1 ++ [(grpS e i).1.getD k 0], (grpS e i).2) := by simp [grpS, h]
theorem grpS_new {e : Nat → Nat → Bool} {i : Nat} (h : (List.range i).find? (fun k => e i k) = none) : grpS e (i + 1) = ((grpS e i).1 ++ [(grpS e i).2], (grpS e i).2 + 1) := by simp [grpS, h]
theorem find_none {p : Nat → Bool} {i : Nat} (hn : ∀ j, j < i → p j = false) : (List.range i).find? p = none := by
  rw [List.find?_eq_none]
  intro x hx
  simp [hn x (by simpa using hx)]
theorem find_lt {p : Nat → Bool} {i k : Nat} (h : (List.range i).find? p = some k) : k < i := by
  have := List.mem_of_find?_eq_some h
  simpa using this
theorem grpS_len {e : Nat → Nat → Bool} : ∀ i, (grpS e i).1.length = i
  | 0 => rfl
  | i + 1 => by
    cases h : (List.range i).find? (fun k => e i k) with
    | some k => rw [grpS_old h]; simp [grpS_len i]
    | none => rw [grpS_new h]; simp [grpS_len i]
theorem grpS_le {e : Nat → Nat → Bool} : ∀ i, (grpS e i).2 ≤ i
  | 0 => Nat.le_refl _
  | i + 1 => by
    have := grpS_le (e := e) i
    cases h : (List.range i).find? (fun k => e i k) with
    | some k => rw [grpS_old h]; exact Nat.le_succ_of_le this
    | none => rw [grpS_new h]; exact Nat.succ_le_succ this
theorem grpS_pos {e : Nat → Nat → Bool} : ∀ i, 1 ≤ i → 1 ≤ (grpS e i).2
  | 0, h => by omega
  | i + 1, _ => by
    cases h : (List.range i).find? (fun k => e i k) with
    | some k =>
      rw [grpS_old h]
      exact grpS_pos i (by have := find_lt h; omega)
    | none => rw [grpS_new h]; exact Nat.succ_le_succ (Nat.zero_le _)
theorem grpS_lt {e : Nat → Nat → Bool} : ∀ i, ∀ x ∈ (grpS e i).1, x < (grpS e i).2
  | 0, x, hx => by simp [grpS] at hx
  | i + 1, x, hx => by
    cases h : (List.range i).find? (fun k => e i k) with
    | some k =>
      have hk := find_lt h
      rw [grpS_old h] at hx ⊢
      rcases List.mem_append.1 hx with hx | hx
      · exact grpS_lt i x hx
      · obtain rfl : x = (grpS e i).1.getD k 0 := by simpa using hx
        have hl := grpS_len (e := e) i
        rw [List.getD_eq_getElem?_getD, List.getElem?_eq_getElem (by omega)]
        exact grpS_lt i _ (List.getElem_mem (by omega))
    | none =>
      rw [grpS_new h] at hx ⊢
      rcases List.mem_append.1 hx with hx | hx
      · have := grpS_lt i x hx
        show x < (grpS e i).2 + 1
        omega
      · obtain rfl : x = (grpS e i).2 := by simpa using hx
        exact Nat.lt_succ_self _
theorem grpS_get {e : Nat → Nat → Bool} {n : Nat} : ∀ {i q : Nat}, q < i → i ≤ n → (grpS e n).1.getD q 0 = (grpS e i).1.getD q 0 := by
  have key : ∀ m i q, q < i → (grpS e (i + m)).1.getD q 0 = (grpS e i).1.getD q 0 := by
    intro m
    induction m with
    | zero => intros; rfl
    | succ m ih =>
      intro i q hq
      have hl := grpS_len (e := e) (i + m)
      rw [← ih i q hq, show i + (m + 1) = (i + m) + 1 by omega]
      cases h : (List.range (i + m)).find? (fun k => e (i + m) k) with
      | some k =>
        rw [grpS_old h]
        simp only [List.getD_eq_getElem?_getD]
        rw [List.getElem?_append_left (by omega)]
      | none =>
        rw [grpS_new h]
        simp only [List.getD_eq_getElem?_getD]
        rw [List.getElem?_append_left (by omega)]
  intro i q hq hi
  have := key (n - i) i q hq
  rwa [show i + (n - i) = n by omega] at this
theorem grpS_congr {e e' : Nat → Nat → Bool} : ∀ {i : Nat}, (∀ x y, x < i → y < x → e x y = e' x y) → grpS e i = grpS e' i
  | 0, _ => rfl
  | i + 1, h => by
    have ih := grpS_congr (e := e) (e' := e') (i := i) fun x y hx hy => h x y (by omega) hy
    have hf : (List.range i).find? (fun k => e i k) = (List.range i).find? (fun k => e' i k) := by
      have hall : ∀ l : List Nat, (∀ k ∈ l, k < i) → l.find? (fun k => e i k) = l.find? (fun k => e' i k) := by
        intro l
        induction l with
        | nil => intro _; rfl
        | cons x l ihl =>
          intro hl
          rw [List.find?_cons, List.find?_cons, h i x (by omega) (hl x (by simp)), ihl fun k hk => hl k (by simp [hk])]
      exact hall _ fun k hk => by simpa using hk
    cases hc : (List.range i).find? (fun k => e i k) with
    | some k => rw [grpS_old hc, grpS_old (hf ▸ hc), ih]
    | none => rw [grpS_new hc, grpS_new (hf ▸ hc), ih]

/-- the accepting marks of the first ones -/
def accG (a : Aut) (e : Nat → Nat → Bool) : Nat → List Bool
  | 0 => []
  | i + 1 => match (List.range i).find? (fun k => e i k) with
    | some _ => accG a e i
    | none => accG a e i ++ [a.acc.getD i false]
theorem accG_len {a : Aut} {e : Nat → Nat → Bool} : ∀ i, (accG a e i).length = (grpS e i).2
  | 0 => rfl
  | i + 1 => by
    cases h : (List.range i).find? (fun k => e i k) with
    | some k => rw [grpS_old h]; simp [accG, h, accG_len i]
    | none => rw [grpS_new h]; simp [accG, h, accG_len i]
theorem accG_congr {a : Aut} {e e' : Nat → Nat → Bool} : ∀ {i : Nat}, (∀ x y, x < i → y < x → e x y = e' x y) → accG a e i = accG a e' i
  | 0, _ => rfl
  | i + 1, h => by
    have ih := accG_congr (a := a) (e := e) (e' := e') (i := i) fun x y hx hy => h x y (by omega) hy
    have hf : (List.range i).find? (fun k => e i k) = (List.range i).find? (fun k => e' i k) := by
      have hall : ∀ l : List Nat, (∀ k ∈ l, k < i) → l.find? (fun k => e i k) = l.find? (fun k => e' i k) := by
        intro l
        induction l with
        | nil => intro _; rfl
        | cons x l ihl =>
          intro hl
          rw [List.find?_cons, List.find?_cons, h i x (by omega) (hl x (by simp)), ihl fun k hk => hl k (by simp [hk])]
      exact hall _ fun k hk => by simpa using hk
    simp only [accG, hf, ih]

/-- each kept once, at its first place -/
def ded (l : List Tr) : List Tr := l.foldl (fun o f => if f ∈ o then o else o ++ [f]) []
theorem ded_mem {l : List Tr} {x : Tr} : x ∈ ded l ↔ x ∈ l := by
  have key : ∀ (l o : List Tr), x ∈ l.foldl (fun o f => if f ∈ o then o else o ++ [f]) o ↔ x ∈ o ∨ x ∈ l := by
    intro l
    induction l with
    | nil => simp
    | cons y l ih =>
      intro o
      rw [List.foldl_cons, ih]
      by_cases h : y ∈ o
      · rw [if_pos h]
        constructor
        · rintro (h1 | h1)
          · exact .inl h1
          · exact .inr (by simp [h1])
        · rintro (h1 | h1)
          · exact .inl h1
          · rcases List.mem_cons.1 h1 with rfl | h1
            · exact .inl h
            · exact .inr h1
      · rw [if_neg h]
        simp [or_assoc]
  have := key l []
  simpa [ded] using this
theorem ded_len {l : List Tr} : (ded l).length ≤ l.length := by
  have key : ∀ (l o : List Tr), (l.foldl (fun o f => if f ∈ o then o else o ++ [f]) o).length ≤ o.length + l.length := by
    intro l
    induction l with
    | nil => simp
    | cons y l ih =>
      intro o
      rw [List.foldl_cons]
      refine Nat.le_trans (ih _) ?_
      split <;> simp <;> omega
  have := key l []
  simpa [ded] using this

def gnm (e : Nat → Nat → Bool) (n : Nat) (x : Int) : Int := ((grpS e n).1.getD x.toNat 0 : Nat)
theorem gnm_lt {e : Nat → Nat → Bool} {n : Nat} {x : Int} (h0 : 0 ≤ x) (h1 : x < n) : 0 ≤ gnm e n x ∧ gnm e n x < (grpS e n).2 := by
  have hl := grpS_len (e := e) n
  have hx : x.toNat < (grpS e n).1.length := by omega
  have := grpS_lt (e := e) n _ (List.getElem_mem hx)
  unfold gnm
  rw [List.getD_eq_getElem?_getD, List.getElem?_eq_getElem hx]
  simp only [Option.getD_some]
  omega
/-- states that are the same become one -/
def Aut.mergeE (a : Aut) (e : Nat → Nat → Bool) : Aut :=
  ⟨memL (fun b => a.init.any fun q => decide (gnm e a.acc.length q = (b : Int))) (grpS e a.acc.length).2, accG a e a.acc.length, ded (a.edges.map (Tr.ren (gnm e a.acc.length)))⟩
theorem Aut.mergeE_ok {a : Aut} (ha : a.Ok) (e : Nat → Nat → Bool) : (a.mergeE e).Ok := by
  have hn := ha.n
  have h1 := grpS_le (e := e) a.acc.length
  have h2 := grpS_pos (e := e) a.acc.length hn.1
  have h3 := accG_len (a := a) (e := e) a.acc.length
  have h4 := ded_len (l := a.edges.map (Tr.ren (gnm e a.acc.length)))
  simp only [List.length_map] at h4
  have h5 := ha.e
  refine ⟨⟨by show 1 ≤ (accG a e a.acc.length).length; omega, by show (accG a e a.acc.length).length ≤ 64; omega⟩, Nat.le_trans h4 h5, ?_, ?_⟩
  · show incr ((accG a e a.acc.length).length : Nat) (-1) _
    rw [h3]
    exact memL_incr (Nat.le_refl _)
  · intro t ht
    show t.Ok ((accG a e a.acc.length).length : Nat)
    rw [h3]
    have ht : t ∈ ded (a.edges.map (Tr.ren (gnm e a.acc.length))) := ht
    rw [ded_mem] at ht
    obtain ⟨x, hx, rfl⟩ := List.mem_map.1 ht
    have hx2 := ha.2.2.2 x hx
    unfold Tr.Ok at hx2 ⊢
    have g1 := gnm_lt (e := e) hx2.1 hx2.2.1
    have g2 := gnm_lt (e := e) hx2.2.2.1 hx2.2.2.2.1
    simp only [Tr.ren]
    exact ⟨g1.1, g1.2, g2.1, g2.2, hx2.2.2.2.2⟩
theorem Aut.mergeE_congr {a : Aut} {e e' : Nat → Nat → Bool} (h : ∀ x y, x < a.acc.length → y < x → e x y = e' x y) : a.mergeE e = a.mergeE e' := by
  have h1 := grpS_congr h
  have h2 := accG_congr (a := a) h
  have h3 : gnm e a.acc.length = gnm e' a.acc.length := by funext x; simp only [gnm, h1]
  simp only [Aut.mergeE, h1, h2, h3]
/-- each simulates the other -/
def eqv (R : Rl) : Nat → Nat → Bool := fun i k => R i k && R k i
/-- merged: with regard to the greatest simulation -/
noncomputable def Aut.mrg (a : Aut) : Aut := a.mergeE (eqv (@Classical.epsilon Rl ⟨fun _ _ => true⟩ (Great a)))
theorem Aut.mrg_eq {a : Aut} {R : Rl} (h : Great a R) : a.mergeE (eqv R) = a.mrg := by
  have h2 : Great a (@Classical.epsilon Rl ⟨fun _ _ => true⟩ (Great a)) := Classical.epsilon_spec_aux ⟨fun _ _ => true⟩ (Great a) ⟨R, h⟩
  refine Aut.mergeE_congr fun x y hx hy => ?_
  simp only [eqv]
  rw [h.eq h2 hx (by omega), h.eq h2 (i := y) (j := x) (by omega) hx]
theorem Aut.mrg_ok {a : Aut} (ha : a.Ok) : a.mrg.Ok := Aut.mergeE_ok ha _
end Go.Proofs.Ytglnelcmcimljaa

/-
  Plain laws: trimming and merging, again and again, come to an end.
-/
namespace Go.Proofs.Ytglnelcmcimljaa
open Go
set_option linter.all false
set_option linter.unusedVariables false
set_option linter.unusedSimpArgs false
set_option linter.defProp false
set_option maxRecDepth 1000000

theorem kidx_all {K : Nat → Bool} : ∀ {n : Nat}, kidx K n = n → ∀ q, q < n → K q = true ∧ kidx K q = q
  | 0, _, q, hq => absurd hq (Nat.not_lt_zero q)
  | n + 1, h, q, hq => by
    rw [kidx_succ] at h
    have hl := kidx_le (K := K) (q := n)
    have hk : K n = true := by
      cases hk : K n with
      | true => rfl
      | false => rw [hk] at h; simp at h; omega
    rw [hk] at h
    simp only [if_true] at h
    have h1 : kidx K n = n := by omega
    by_cases e : q = n
    · subst e; exact ⟨hk, h1⟩
    · exact kidx_all h1 q (by omega)
theorem map_range_getD {l : List Bool} : ((List.range l.length).map fun q => l.getD q false) = l := by
  apply List.ext_getElem (by simp)
  intro i h1 h2
  simp [h2]
theorem Aut.ext3 {a b : Aut} (h1 : a.init = b.init) (h2 : a.acc = b.acc) (h3 : a.edges = b.edges) : a = b := by
  cases a; cases b; simp_all
theorem Aut.keep_full {a : Aut} (ha : a.Ok) {K : Nat → Bool} (h : kidx K a.acc.length = a.acc.length) : a.keep K = a := by
  have hn := ha.n
  have hall := kidx_all h
  unfold Aut.keep
  rw [if_neg (by omega)]
  refine Aut.ext3 ?_ ?_ ?_
  · show (a.init.filter _).map _ = _
    rw [List.filter_eq_self.2]
    · conv => rhs; rw [← List.map_id a.init]
      apply List.map_congr_left
      intro q hq
      have := incr_mem ha.i q hq
      have h1 := (hall q.toNat (by omega)).2
      simp only [kout, h1, id]
      omega
    · intro q hq
      have := incr_mem ha.i q hq
      exact (hall q.toNat (by omega)).1
  · show ((List.range a.acc.length).filter K).map _ = _
    rw [List.filter_eq_self.2]
    · exact map_range_getD
    · intro q hq
      exact (hall q (by simpa using hq)).1
  · show (a.edges.filter _).map _ = _
    rw [List.filter_eq_self.2]
    · conv => rhs; rw [← List.map_id a.edges]
      apply List.map_congr_left
      intro e he
      have hx := ha.2.2.2 e he
      unfold Tr.Ok at hx
      have h1 := (hall e.frm.toNat (by omega)).2
      have h2 := (hall e.to.toNat (by omega)).2
      have e1 : ((e.frm.toNat : Nat) : Int) = e.frm := by omega
      have e2 : ((e.to.toNat : Nat) : Int) = e.to := by omega
      simp only [Tr.ren, kout, h1, h2, id, e1, e2]
    · intro e he
      have hx := ha.2.2.2 e he
      unfold Tr.Ok at hx
      rw [(hall e.frm.toNat (by omega)).1, (hall e.to.toNat (by omega)).1]; rfl
theorem Aut.trim_len {a : Aut} (ha : a.Ok) : a.trim.acc.length ≤ a.acc.length ∧ (a.trim.acc.length = a.acc.length → a.trim = a ∨ (a.acc.length = 1 ∧ a.trim = ⟨[], [false], []⟩)) := by
  have hn := ha.n
  have hl := kidx_le (K := a.tkeep) (q := a.acc.length)
  by_cases h0 : kidx a.tkeep a.acc.length = 0
  · have ht : a.trim = ⟨[], [false], []⟩ := by unfold Aut.trim Aut.keep; rw [if_pos h0]
    rw [ht]
    exact ⟨hn.1, fun h => .inr ⟨h.symm, rfl⟩⟩
  · have hk : a.trim.acc.length = kidx a.tkeep a.acc.length := Aut.keep_len h0
    rw [hk]
    exact ⟨hl, fun h => .inl (Aut.keep_full ha h)⟩

theorem grpS_full {e : Nat → Nat → Bool} : ∀ {n : Nat}, (grpS e n).2 = n → (grpS e n).1 = List.range n ∧ ∀ i, i < n → (List.range i).find? (fun k => e i k) = none
  | 0, _ => ⟨rfl, fun i hi => absurd hi (Nat.not_lt_zero i)⟩
  | n + 1, h => by
    have hl := grpS_le (e := e) n
    cases hf : (List.range n).find? (fun k => e n k) with
    | some k =>
      rw [grpS_old hf] at h
      have h : (grpS e n).2 = n + 1 := h
      omega
    | none =>
      rw [grpS_new hf] at h ⊢
      have h : (grpS e n).2 + 1 = n + 1 := h
      have h1 : (grpS e n).2 = n := by omega
      obtain ⟨h2, h3⟩ := grpS_full h1
      refine ⟨by show (grpS e n).1 ++ [(grpS e n).2] = _; rw [h2, h1, List.range_succ], fun i hi => ?_⟩
      by_cases ei : i = n
      · subst ei; exact hf
      · exact h3 i (by omega)
theorem accG_full {a : Aut} {e : Nat → Nat → Bool} : ∀ {n : Nat}, (∀ i, i < n → (List.range i).find? (fun k => e i k) = none) → accG a e n = (List.range n).map fun q => a.acc.getD q false
  | 0, _ => rfl
  | n + 1, h => by
    have ih := accG_full (a := a) (e := e) (n := n) fun i hi => h i (by omega)
    simp only [accG, h n (by omega)]
    rw [ih, List.range_succ, List.map_append]
    rfl
theorem gnm_full {e : Nat → Nat → Bool} {n : Nat} (h : (grpS e n).1 = List.range n) {x : Int} (h0 : 0 ≤ x) (h1 : x < n) : gnm e n x = x := by
  unfold gnm
  rw [h]
  simp [show x.toNat < n by omega]
  omega
theorem memL_self {n : Nat} {l : List Int} (h : incr n (-1) l) {K : Nat → Bool} (hK : ∀ q, q < n → (K q = true ↔ (q : Int) ∈ l)) : memL K n = l := by
  refine incr_ext (memL_incr (Nat.le_refl _)) h fun x => ?_
  rw [memL_mem]
  constructor
  · rintro ⟨q, rfl, h1, h2⟩; exact (hK q h1).1 h2
  · intro hx
    have := incr_mem h x hx
    refine ⟨x.toNat, by omega, by omega, (hK _ (by omega)).2 ?_⟩
    rwa [Int.toNat_of_nonneg (by omega)]
theorem Aut.mergeE_full {a : Aut} (ha : a.Ok) {e : Nat → Nat → Bool} (h : (grpS e a.acc.length).2 = a.acc.length) : a.mergeE e = ⟨a.init, a.acc, ded a.edges⟩ := by
  obtain ⟨h1, h2⟩ := grpS_full h
  have hg : ∀ x : Int, 0 ≤ x → x < a.acc.length → gnm e a.acc.length x = x := fun x => gnm_full h1
  refine Aut.ext3 ?_ ?_ ?_
  · show memL _ (grpS e a.acc.length).2 = _
    rw [h]
    refine memL_self ha.i fun q hq => ?_
    simp only [List.any_eq_true, decide_eq_true_eq]
    constructor
    · rintro ⟨p, hp, h3⟩
      have := incr_mem ha.i p hp
      rw [hg p (by omega) (by omega)] at h3
      rw [← h3]; exact hp
    · intro hm
      exact ⟨q, hm, hg q (by omega) (by omega)⟩
  · show accG a e a.acc.length = _
    rw [accG_full h2, map_range_getD]
  · show ded (a.edges.map _) = ded a.edges
    congr 1
    conv => rhs; rw [← List.map_id a.edges]
    apply List.map_congr_left
    intro t ht
    have hx := ha.2.2.2 t ht
    unfold Tr.Ok at hx
    simp only [Tr.ren, hg t.frm hx.1 hx.2.1, hg t.to hx.2.2.1 hx.2.2.2.1, id]
theorem Aut.mrg_len {a : Aut} (ha : a.Ok) : a.mrg.acc.length ≤ a.acc.length ∧ (a.mrg.acc.length = a.acc.length → a.mrg = ⟨a.init, a.acc, ded a.edges⟩) := by
  have h1 : ∀ e, (a.mergeE e).acc.length = (grpS e a.acc.length).2 := fun e => accG_len a.acc.length
  unfold Aut.mrg
  rw [h1]
  exact ⟨grpS_le _, fun h => Aut.mergeE_full ha h⟩
theorem ded_same {l : List Tr} (h : l.length ≤ (ded l).length) : ded l = l := by
  have key : ∀ (l o : List Tr), (l.foldl (fun o f => if f ∈ o then o else o ++ [f]) o).length ≤ o.length + l.length ∧ (o.length + l.length ≤ (l.foldl (fun o f => if f ∈ o then o else o ++ [f]) o).length → l.foldl (fun o f => if f ∈ o then o else o ++ [f]) o = o ++ l) := by
    intro l
    induction l with
    | nil => simp
    | cons y l ih =>
      intro o
      rw [List.foldl_cons]
      by_cases hy : y ∈ o
      · rw [if_pos hy]
        obtain ⟨i1, i2⟩ := ih o
        refine ⟨by simp; omega, fun h => ?_⟩
        simp at h; omega
      · rw [if_neg hy]
        obtain ⟨i1, i2⟩ := ih (o ++ [y])
        simp only [List.length_append, List.length_cons, List.length_nil] at i1 i2
        refine ⟨by simp; omega, fun h => ?_⟩
        rw [i2 (by simp at h; omega)]
        simp
  have := (key l []).2 (by simpa [ded] using h)
  simpa [ded] using this

/-- one round -/
noncomputable def Aut.rnd (a : Aut) : Aut := a.trim.mrg
def Aut.mea (a : Aut) : Nat := a.acc.length * 4096 + a.acc.count true + a.init.length + a.edges.length
theorem Aut.trim_ok {a : Aut} (ha : a.Ok) : a.trim.Ok := Aut.keep_ok ha _
theorem Aut.rnd_ok {a : Aut} (ha : a.Ok) : a.rnd.Ok := Aut.mrg_ok (Aut.trim_ok ha)
theorem Aut.rnd_less {a : Aut} (ha : a.Ok) (hne : a.rnd ≠ a) : a.rnd.mea < a.mea := by
  have ht := Aut.trim_ok ha
  have hr := Aut.rnd_ok ha
  obtain ⟨t1, t2⟩ := Aut.trim_len ha
  obtain ⟨m1, m2⟩ := Aut.mrg_len ht
  have m1 : a.rnd.acc.length ≤ a.trim.acc.length := m1
  have b1 := hr.il
  have b2 := hr.e
  have b3 := List.count_le_length (a := true) (l := a.rnd.acc)
  have b4 := hr.n
  by_cases hlt : a.rnd.acc.length < a.acc.length
  · unfold Aut.mea
    omega
  · have e1 : a.trim.acc.length = a.acc.length := by omega
    have hm : a.rnd = ⟨a.trim.init, a.trim.acc, ded a.trim.edges⟩ := m2 (by show a.rnd.acc.length = _; omega)
    rcases t2 e1 with h | ⟨h1, h⟩
    · rw [h] at hm
      have hd := ded_len (l := a.edges)
      have hdl : (ded a.edges).length < a.edges.length := by
        rcases Nat.lt_or_ge (ded a.edges).length a.edges.length with h3 | h3
        · exact h3
        · exact absurd (by rw [hm, ded_same h3]) hne
      rw [hm]
      unfold Aut.mea
      show a.acc.length * 4096 + a.acc.count true + a.init.length + (ded a.edges).length < _
      omega
    · rw [h] at hm
      have hm : a.rnd = ⟨[], [false], []⟩ := hm
      rw [hm]
      have h3 : Aut.mea ⟨[], [false], []⟩ = 4096 := by rfl
      rw [h3]
      unfold Aut.mea
      rw [h1]
      have : a.acc.count true + a.init.length + a.edges.length ≠ 0 := by
        intro h4
        have g1 : a.init = [] := List.eq_nil_of_length_eq_zero (by omega)
        have g2 : a.edges = [] := List.eq_nil_of_length_eq_zero (by omega)
        have g3 : a.acc = [false] := by
          match hq : a.acc, h1 with
          | [x], _ =>
            rw [hq] at h4
            cases x with
            | false => rfl
            | true => simp at h4
        exact hne (by rw [hm]; exact (Aut.ext3 g1 g3 g2).symm)
      omega
/-- rounds until nothing changes -/
inductive SmpR : Aut → Aut → Prop
  | stop {a : Aut} (h : a.rnd = a) : SmpR a a
  | more {a r : Aut} (h : a.rnd ≠ a) (hr : SmpR a.rnd r) : SmpR a r
theorem SmpR.fn {a r s : Aut} (h : SmpR a r) : SmpR a s → r = s := by
  induction h with
  | stop h =>
    intro h'
    cases h' with
    | stop _ => rfl
    | more h2 _ => exact absurd h h2
  | more h _ ih =>
    intro h'
    cases h' with
    | stop h2 => exact absurd h2 h
    | more _ h3 => exact ih h3
theorem SmpR.ex : ∀ (m : Nat) (a : Aut), a.mea ≤ m → a.Ok → ∃ r, SmpR a r ∧ r.Ok
  | 0, a, hm, ha => by
    have := ha.n
    unfold Aut.mea at hm
    omega
  | m + 1, a, hm, ha => by
    by_cases h : a.rnd = a
    · exact ⟨a, .stop h, ha⟩
    · have := Aut.rnd_less ha h
      obtain ⟨r, h1, h2⟩ := SmpR.ex m a.rnd (by omega) (Aut.rnd_ok ha)
      exact ⟨r, .more h h1, h2⟩
noncomputable def Aut.smp (a : Aut) : Aut := @Classical.epsilon Aut ⟨Aut.empty⟩ (SmpR a)
end Go.Proofs.Ytglnelcmcimljaa

/-
  Helpers of the laws: lists that are equal, members, common atoms.
-/
namespace Go.Proofs.Ytglnelcmcimljaa
open Go
set_option linter.all false
set_option linter.unusedVariables false
set_option linter.unusedSimpArgs false
set_option linter.defProp false
set_option maxRecDepth 1000000

/-- the common atoms of two letters, from the first ones -/
def wA (a b : Nat) : Nat → Nat
  | 0 => 0
  | j + 1 => wA a b j + if a / 2 ^ j % 2 = 1 ∧ b / 2 ^ j % 2 = 1 then 2 ^ j else 0
end Go.Proofs.Ytglnelcmcimljaa

/-
  Bodies of functions in the small language, as a program printed them, and that each is what the translation gives.
-/
namespace Go.Proofs.Ytglnelcmcimljaa
open Go
set_option linter.all false
set_option linter.defProp false
set_option maxRecDepth 1000000

def H_impl_LassoValid : Hint := ⟨[(0, false), (1, true), (2, false)], []⟩
def K74_1 : Pl := .st (.act none (.px (some 22) (.pick (.v 17) (.v 21) (.c (.bool false))))) <|
    .st (.act none (.px (some 2) (.mv (.v 22)))) .done
@[simp] def W74_1 := @Pl.wpe _ _ K74_1.eq_1
def K74_2 : Pl := .st (.act none (.px (some 10) (.pick (.v 6) (.v 9) (.c (.bool false))))) <|
    .st (.act none (.px (some 11) (.mv (.v 10)))) <|
    .st (.act (some (.v 11, true)) (.als 12 none 1)) <|
    .st (.act (some (.v 11, true)) (.pget (some 13) (some 12) 1 0 none)) <|
    .st (.act (some (.v 11, true)) (.px (some 14) (.lenV (.v 13)))) <|
    .st (.act (some (.v 11, true)) (.px (some 15) (.bin .leq (.v 14) (.c (.int .i64 80))))) <|
    .st (.act none (.px (some 16) (.pick (.v 11) (.v 15) (.c (.bool false))))) <|
    .st (.act none (.px (some 17) (.mv (.v 16)))) <|
    .st (.act (some (.v 17, true)) (.als 18 none 1)) <|
    .st (.act (some (.v 17, true)) (.pget (some 19) (some 18) 1 1 none)) <|
    .st (.act (some (.v 17, true)) (.px (some 20) (.lenV (.v 19)))) <|
    .st (.act (some (.v 17, true)) (.ex (some 21) (.call fn_impl_in [.v 20, .c (.int .i64 1), .c (.int .i64 80)]))) K74_1
@[simp] def W74_2 := @Pl.wpe _ _ K74_2.eq_1
def K74_3 : Pl := .st (.act none (.px (some 6) (.mv (.v 5)))) <|
    .st (.act (some (.v 6, true)) (.als 7 none 1)) <|
    .st (.act (some (.v 6, true)) (.pget (some 8) (some 7) 1 1 none)) <|
    .st (.act (some (.v 6, true)) (.ex (some 9) (.call fn_impl_letters [.v 8]))) K74_2
@[simp] def W74_3 := @Pl.wpe _ _ K74_3.eq_1
def K74_4 : C := .seq (.pl <| .st (.ext 3 20) <|
    .st (.act none (.als 3 none 1)) <|
    .st (.act none (.pget (some 4) (some 3) 1 0 none)) <|
    .st (.act none (.ex (some 5) (.call fn_impl_letters [.v 4]))) K74_3) (.ret)
@[simp] def W74_4 := @C.wpe _ _ K74_4.eq_1
def B_impl_LassoValid : C := .seq (.pl <| .st (.ext 3 0) <|
    .st (.act none (.pnew 1 (.v 0) [])) <|
    .st (.act none (.px (some 2) (.mv (.c (.bool false))))) .done) K74_4
@[simp] def WB_impl_LassoValid := @C.wpe _ _ B_impl_LassoValid.eq_1
def R_impl_LassoValid : FIR := ⟨B_impl_LassoValid, 3, [(2, none)]⟩
theorem IR_impl_LassoValid : cfun Try.prog H_impl_LassoValid Try.f74 = some R_impl_LassoValid := by kernel_rfl
theorem EN_impl_LassoValid {args : List Value} {h : Heap} {k : Value → Heap → Prop} (hargs : args.length = 1) (hw : B_impl_LassoValid.wp Try.prog (retQ [(2, none)] k) (env0 args 3) h) : CallE Try.prog fn_impl_LassoValid args h k := enter Try.func74 rfl IR_impl_LassoValid hargs hw

def H_slices_Concat_S_int_int : Hint := ⟨[(0, false), (2, false), (3, false), (5, false), (6, false), (8, false), (9, false), (10, false), (11, false), (25, false), (26, false), (27, false)], [[1, 3, 4, 5, 9, 10, 11], [0, 1, 2, 3, 5, 6, 7, 8]]⟩
def K73_1 : C := .seq (.pl <| .st (.ext 12 1) <|
    .st (.act none (.px (some 12) (.mv (.v 4)))) <|
    .st (.act none (.px (some 1) (.mv (.v 12)))) .done) (.ret)
@[simp] def W73_1 := @C.wpe _ _ K73_1.eq_1
def K73_2 : C := .pl <| .st (.ext 12 1) <|
    .st (.act none (.px (some 12) (.bin .add (.v 11) (.c (.int .i64 1))))) <|
    .st (.act none (.px (some 11) (.mv (.v 12)))) .done
@[simp] def W73_2 := @C.wpe _ _ K73_2.eq_1
def K73_3 : Pl := .st (.act none (.px (some 4) (.mv (.v 14)))) .done
@[simp] def W73_3 := @Pl.wpe _ _ K73_3.eq_1
def K73_4 : C := .pl <| .st (.ext 12 3) <|
    .st (.act none (.px (some 12) (.mv (.v 4)))) <|
    .st (.act none (.px (some 13) (.mv (.v 5)))) <|
    .st (.act none (.ex (some 14) (.app 8 1 [.int .i64 0] (.o (.v 12)) (.o (.v 13))))) K73_3
@[simp] def W73_4 := @C.wpe _ _ K73_4.eq_1
def K73_5 : C := .seq (.block 3 (.seq (.pl <| .st (.ext 12 2) <|
    .st (.act none (.px (some 12) (.ia 1 (.v 9) (.v 11)))) <|
    .st (.act none (.ld (some 13) (.v 12) none)) <|
    .st (.act none (.px (some 5) (.mv (.v 13)))) .done) K73_4)) K73_2
@[simp] def W73_5 := @C.wpe _ _ K73_5.eq_1
def K73_6 : C := .seq (.cond 12 (.v 12) (.skip) (.exit 2)) K73_5
@[simp] def W73_6 := @C.wpe _ _ K73_6.eq_1
def K73_7 : C := .seq (.pl <| .st (.ext 12 1) <|
    .st (.act none (.px (some 12) (.bin .lss (.v 11) (.v 10)))) .done) K73_6
@[simp] def W73_7 := @C.wpe _ _ K73_7.eq_1
def K73_8 : C := .block 2 (.loop 12 [0, 1, 2, 3, 5, 6, 7, 8] K73_7)
@[simp] def W73_8 := @C.wpe _ _ K73_8.eq_1
def K73_9 : C := .seq (.seq (.pl <| .st (.ext 12 0) <|
    .st (.act none (.px (some 9) (.mv (.v 0)))) <|
    .st (.act none (.px (some 10) (.lenV (.v 9)))) <|
    .st (.act none (.px (some 11) (.mv (.c (.int .i64 0))))) .done) K73_8) K73_1
@[simp] def W73_9 := @C.wpe _ _ K73_9.eq_1
def K73_10 : Pl := .st (.act none (.px (some 4) (.mv (.v 13)))) .done
@[simp] def W73_10 := @Pl.wpe _ _ K73_10.eq_1
def K73_11 : C := .seq (.pl <| .st (.ext 12 2) <|
    .st (.act none (.px (some 12) (.mv (.v 2)))) <|
    .st (.act none (.ex (some 13) (.call fn_slices_Grow_S_int_int [.c (.slice none 0 0), .v 12]))) K73_10) K73_9
@[simp] def W73_11 := @C.wpe _ _ K73_11.eq_1
def K73_12 : C := .pl <| .st (.ext 12 1) <|
    .st (.act none (.px (some 12) (.bin .add (.v 8) (.c (.int .i64 1))))) <|
    .st (.act none (.px (some 8) (.mv (.v 12)))) .done
@[simp] def W73_12 := @C.wpe _ _ K73_12.eq_1
def K73_13 : C := .pl <| .st (.ext 12 1) <|
    .st (.act none (.px none (.extract 0 (.c (.tuple #[]))))) <|
    .st (.act none (.px none (.extract 0 (.c (.tuple #[]))))) .done
@[simp] def W73_13 := @C.wpe _ _ K73_13.eq_1
def K73_14 : C := .cond 12 (.v 13) K73_13 (.skip)
@[simp] def W73_14 := @C.wpe _ _ K73_14.eq_1
def K73_15 : C := .seq (.pl <| .st (.ext 12 2) <|
    .st (.act none (.px (some 12) (.mv (.v 2)))) <|
    .st (.act none (.px (some 13) (.bin .lss (.v 12) (.c (.int .i64 0))))) .done) K73_14
@[simp] def W73_15 := @C.wpe _ _ K73_15.eq_1
def K73_16 : C := .seq (.pl <| .st (.ext 12 4) <|
    .st (.act none (.px (some 12) (.mv (.v 2)))) <|
    .st (.act none (.px (some 13) (.mv (.v 3)))) <|
    .st (.act none (.px (some 14) (.lenV (.v 13)))) <|
    .st (.act none (.px (some 15) (.bin .add (.v 12) (.v 14)))) <|
    .st (.act none (.px (some 2) (.mv (.v 15)))) .done) K73_15
@[simp] def W73_16 := @C.wpe _ _ K73_16.eq_1
def K73_17 : C := .seq (.block 1 (.seq (.pl <| .st (.ext 12 2) <|
    .st (.act none (.px (some 12) (.ia 1 (.v 6) (.v 8)))) <|
    .st (.act none (.ld (some 13) (.v 12) none)) <|
    .st (.act none (.px (some 3) (.mv (.v 13)))) .done) K73_16)) K73_12
@[simp] def W73_17 := @C.wpe _ _ K73_17.eq_1
def K73_18 : C := .seq (.cond 12 (.v 12) (.skip) (.exit 0)) K73_17
@[simp] def W73_18 := @C.wpe _ _ K73_18.eq_1
def K73_19 : C := .seq (.pl <| .st (.ext 12 1) <|
    .st (.act none (.px (some 12) (.bin .lss (.v 8) (.v 7)))) .done) K73_18
@[simp] def W73_19 := @C.wpe _ _ K73_19.eq_1
def K73_20 : C := .block 0 (.loop 12 [1, 3, 4, 5, 9, 10, 11] K73_19)
@[simp] def W73_20 := @C.wpe _ _ K73_20.eq_1
def K73_21 : C := .seq (.seq (.pl <| .st (.ext 12 0) <|
    .st (.act none (.px (some 6) (.mv (.v 0)))) <|
    .st (.act none (.px (some 7) (.lenV (.v 6)))) <|
    .st (.act none (.px (some 8) (.mv (.c (.int .i64 0))))) .done) K73_20) K73_11
@[simp] def W73_21 := @C.wpe _ _ K73_21.eq_1
def K73_22 : C := .seq (.pl <| .st (.ext 12 0) <|
    .st (.act none (.px (some 2) (.mv (.c (.int .i64 0))))) .done) K73_21
@[simp] def W73_22 := @C.wpe _ _ K73_22.eq_1
def B_slices_Concat_S_int_int : C := .seq (.pl <| .st (.ext 12 0) <|
    .st (.act none (.px (some 1) (.mv (.c (.slice none 0 0))))) .done) K73_22
@[simp] def WB_slices_Concat_S_int_int := @C.wpe _ _ B_slices_Concat_S_int_int.eq_1
def R_slices_Concat_S_int_int : FIR := ⟨B_slices_Concat_S_int_int, 12, [(1, none)]⟩
theorem IR_slices_Concat_S_int_int : cfun Try.prog H_slices_Concat_S_int_int Try.f73 = some R_slices_Concat_S_int_int := by kernel_rfl
theorem EN_slices_Concat_S_int_int {args : List Value} {h : Heap} {k : Value → Heap → Prop} (hargs : args.length = 1) (hw : B_slices_Concat_S_int_int.wp Try.prog (retQ [(1, none)] k) (env0 args 12) h) : CallE Try.prog fn_slices_Concat_S_int_int args h k := enter Try.func73 rfl IR_slices_Concat_S_int_int hargs hw

def H_slices_Grow_S_int_int : Hint := ⟨[(0, false), (1, false), (4, false)], []⟩
def K130_1 : C := .seq (.pl <| .st (.ext 3 1) <|
    .st (.act none (.px (some 3) (.mv (.v 0)))) <|
    .st (.act none (.px (some 2) (.mv (.v 3)))) .done) (.ret)
@[simp] def W130_1 := @C.wpe _ _ K130_1.eq_1
def K130_2 : Pl := .st (.act none (.px (some 9) (.mv (.v 0)))) <|
    .st (.act none (.px (some 10) (.lenV (.v 9)))) <|
    .st (.act none (.px (some 11) (.sliceV 1 (.v 8) none (some (.v 10)) none))) <|
    .st (.act none (.px (some 0) (.mv (.v 11)))) .done
@[simp] def W130_2 := @Pl.wpe _ _ K130_2.eq_1
def K130_3 : C := .pl <| .st (.ext 3 9) <|
    .st (.act none (.px (some 3) (.mv (.v 0)))) <|
    .st (.act none (.px (some 4) (.mv (.v 0)))) <|
    .st (.act none (.px (some 5) (.capV (.v 4)))) <|
    .st (.act none (.px (some 6) (.sliceV 1 (.v 3) none (some (.v 5)) none))) <|
    .st (.act none (.px (some 7) (.mv (.v 1)))) <|
    .st (.act none (.ex (some 8) (.app 8 1 [.int .i64 0] (.o (.v 6)) (.z (.v 7) 8 [.int .i64 0])))) K130_2
@[simp] def W130_3 := @C.wpe _ _ K130_3.eq_1
def K130_4 : C := .cond 3 (.v 4) K130_3 (.skip)
@[simp] def W130_4 := @C.wpe _ _ K130_4.eq_1
def K130_5 : C := .seq (.pl <| .st (.ext 3 2) <|
    .st (.act none (.px (some 3) (.mv (.v 1)))) <|
    .st (.act none (.px (some 4) (.bin .gtr (.v 3) (.c (.int .i64 0))))) .done) K130_4
@[simp] def W130_5 := @C.wpe _ _ K130_5.eq_1
def K130_6 : C := .seq (.seq (.pl <| .st (.ext 3 7) <|
    .st (.act none (.px (some 3) (.mv (.v 1)))) <|
    .st (.act none (.px (some 4) (.mv (.v 0)))) <|
    .st (.act none (.px (some 5) (.capV (.v 4)))) <|
    .st (.act none (.px (some 6) (.mv (.v 0)))) <|
    .st (.act none (.px (some 7) (.lenV (.v 6)))) <|
    .st (.act none (.px (some 8) (.bin .sub (.v 5) (.v 7)))) <|
    .st (.act none (.px (some 9) (.bin .sub (.v 3) (.v 8)))) <|
    .st (.act none (.px (some 1) (.mv (.v 9)))) .done) K130_5) K130_1
@[simp] def W130_6 := @C.wpe _ _ K130_6.eq_1
def K130_7 : C := .pl <| .st (.ext 3 1) <|
    .st (.act none (.px none (.extract 0 (.c (.tuple #[]))))) <|
    .st (.act none (.px none (.extract 0 (.c (.tuple #[]))))) .done
@[simp] def W130_7 := @C.wpe _ _ K130_7.eq_1
def K130_8 : C := .cond 3 (.v 4) K130_7 (.skip)
@[simp] def W130_8 := @C.wpe _ _ K130_8.eq_1
def K130_9 : C := .seq (.seq (.pl <| .st (.ext 3 2) <|
    .st (.act none (.px (some 3) (.mv (.v 1)))) <|
    .st (.act none (.px (some 4) (.bin .lss (.v 3) (.c (.int .i64 0))))) .done) K130_8) K130_6
@[simp] def W130_9 := @C.wpe _ _ K130_9.eq_1
def B_slices_Grow_S_int_int : C := .seq (.pl <| .st (.ext 3 0) <|
    .st (.act none (.px (some 2) (.mv (.c (.slice none 0 0))))) .done) K130_9
@[simp] def WB_slices_Grow_S_int_int := @C.wpe _ _ B_slices_Grow_S_int_int.eq_1
def R_slices_Grow_S_int_int : FIR := ⟨B_slices_Grow_S_int_int, 3, [(2, none)]⟩
theorem IR_slices_Grow_S_int_int : cfun Try.prog H_slices_Grow_S_int_int Try.f130 = some R_slices_Grow_S_int_int := by kernel_rfl
theorem EN_slices_Grow_S_int_int {args : List Value} {h : Heap} {k : Value → Heap → Prop} (hargs : args.length = 2) (hw : B_slices_Grow_S_int_int.wp Try.prog (retQ [(2, none)] k) (env0 args 3) h) : CallE Try.prog fn_slices_Grow_S_int_int args h k := enter Try.func130 rfl IR_slices_Grow_S_int_int hargs hw


end Go.Proofs.Ytglnelcmcimljaa

/-
  Bodies of functions in the small language, as a program printed them, and that each is what the translation gives.
-/
namespace Go.Proofs.Ytglnelcmcimljaa
open Go
set_option linter.all false
set_option linter.defProp false
set_option maxRecDepth 1000000

def H_impl_components : Hint := ⟨[(0, false), (1, false), (2, false), (3, false), (4, false), (5, false), (6, false), (7, false), (8, false), (9, false), (10, false), (11, false), (12, false), (13, false), (14, false), (15, false), (17, false), (27, false), (28, false), (36, false), (37, false), (50, false), (51, false), (52, false)], [[0, 2, 7, 8, 9, 10, 11, 12, 13, 14, 15, 16, 19, 20, 21, 22, 23], [0, 1, 2, 3, 5, 7, 8, 9, 10, 12, 13, 14, 15, 16, 17, 18, 21, 22, 23], [0, 1, 2, 3, 4, 5, 7, 8, 9, 10, 11, 12, 14, 15, 16, 17, 18, 19, 20]]⟩
def K153_1 : C := .seq (.pl <| .st (.ext 24 1) <|
    .st (.act none (.ld (some 24) (.v 6) none)) <|
    .st (.act none (.px (some 2) (.mv (.v 24)))) .done) (.ret)
@[simp] def W153_1 := @C.wpe _ _ K153_1.eq_1
def K153_2 : C := .pl <| .st (.ext 24 1) <|
    .st (.act none (.px (some 24) (.bin .add (.v 23) (.c (.int .i64 1))))) <|
    .st (.act none (.px (some 23) (.mv (.v 24)))) .done
@[simp] def W153_2 := @C.wpe _ _ K153_2.eq_1
def K153_3 : Pl := .st (.act none (.px (some 29) (.ia 1 (.v 24) (.v 25)))) <|
    .st (.act none (.ex none (.store 1 (.v 29) (.v 28)))) .done
@[simp] def W153_3 := @Pl.wpe _ _ K153_3.eq_1
def K153_4 : C := .pl <| .st (.ext 24 6) <|
    .st (.act none (.ld (some 24) (.v 6) none)) <|
    .st (.act none (.px (some 25) (.mv (.v 14)))) <|
    .st (.act none (.px (some 26) (.mv (.v 13)))) <|
    .st (.act none (.px (some 27) (.mv (.v 15)))) <|
    .st (.act none (.ex (some 28) (.mget (.one .i) (.int .i64 0) false (.v 26) (.v 27)))) K153_3
@[simp] def W153_4 := @C.wpe _ _ K153_4.eq_1
def K153_5 : Pl := .st (.act none (.ex none (.mput (.one .i) (.v 24) (.v 25) (.v 27)))) .done
@[simp] def W153_5 := @Pl.wpe _ _ K153_5.eq_1
def K153_6 : C := .pl <| .st (.ext 24 4) <|
    .st (.act none (.px (some 24) (.mv (.v 13)))) <|
    .st (.act none (.px (some 25) (.mv (.v 15)))) <|
    .st (.act none (.px (some 26) (.mv (.v 13)))) <|
    .st (.act none (.ex (some 27) (.mlen (.v 26)))) K153_5
@[simp] def W153_6 := @C.wpe _ _ K153_6.eq_1
def K153_7 : C := .cond 24 (.v 25) K153_6 (.skip)
@[simp] def W153_7 := @C.wpe _ _ K153_7.eq_1
def K153_8 : C := .seq (.pl <| .st (.ext 24 2) <|
    .st (.act none (.px (some 24) (.mv (.v 16)))) <|
    .st (.act none (.px (some 25) (.un .not (.v 24)))) .done) K153_7
@[simp] def W153_8 := @C.wpe _ _ K153_8.eq_1
def K153_9 : Pl := .st (.act none (.px (some 27) (.mv (.v 26)))) <|
    .st (.act none (.px (some 28) (.extract 0 (.v 27)))) <|
    .st (.act none (.px (some 29) (.extract 1 (.v 27)))) <|
    .st (.act none (.px (some 30) (.mv (.v 28)))) <|
    .st (.act none (.px (some 16) (.mv (.v 29)))) .done
@[simp] def W153_9 := @Pl.wpe _ _ K153_9.eq_1
def K153_10 : C := .seq (.seq (.pl <| .st (.ext 24 7) <|
    .st (.act none (.px (some 24) (.mv (.v 13)))) <|
    .st (.act none (.px (some 25) (.mv (.v 15)))) <|
    .st (.act none (.ex (some 26) (.mget (.one .i) (.int .i64 0) true (.v 24) (.v 25)))) K153_9) K153_8) K153_4
@[simp] def W153_10 := @C.wpe _ _ K153_10.eq_1
def K153_11 : C := .seq (.block 5 (.seq (.pl <| .st (.ext 24 3) <|
    .st (.act none (.px (some 24) (.mv (.v 23)))) <|
    .st (.act none (.px (some 25) (.ia 1 (.v 21) (.v 23)))) <|
    .st (.act none (.ld (some 26) (.v 25) none)) <|
    .st (.act none (.px (some 14) (.mv (.v 24)))) <|
    .st (.act none (.px (some 15) (.mv (.v 26)))) .done) K153_10)) K153_2
@[simp] def W153_11 := @C.wpe _ _ K153_11.eq_1
def K153_12 : C := .seq (.cond 24 (.v 24) (.skip) (.exit 4)) K153_11
@[simp] def W153_12 := @C.wpe _ _ K153_12.eq_1
def K153_13 : C := .seq (.pl <| .st (.ext 24 1) <|
    .st (.act none (.px (some 24) (.bin .lss (.v 23) (.v 22)))) .done) K153_12
@[simp] def W153_13 := @C.wpe _ _ K153_13.eq_1
def K153_14 : C := .block 4 (.loop 24 [0, 1, 2, 3, 4, 5, 7, 8, 9, 10, 11, 12, 14, 15, 16, 17, 18, 19, 20] K153_13)
@[simp] def W153_14 := @C.wpe _ _ K153_14.eq_1
def K153_15 : C := .seq (.seq (.pl <| .st (.ext 24 0) <|
    .st (.act none (.ld (some 21) (.v 6) none)) <|
    .st (.act none (.px (some 22) (.lenV (.v 21)))) <|
    .st (.act none (.px (some 23) (.mv (.c (.int .i64 0))))) .done) K153_14) K153_1
@[simp] def W153_15 := @C.wpe _ _ K153_15.eq_1
def K153_16 : Pl := .st (.act none (.px (some 13) (.mv (.v 24)))) .done
@[simp] def W153_16 := @Pl.wpe _ _ K153_16.eq_1
def K153_17 : C := .seq (.pl <| .st (.ext 24 1) <|
    .st (.act none (.ex (some 24) (.mkm))) K153_16) K153_15
@[simp] def W153_17 := @C.wpe _ _ K153_17.eq_1
def K153_18 : C := .pl <| .st (.ext 24 1) <|
    .st (.act none (.px (some 24) (.bin .add (.v 20) (.c (.int .i64 1))))) <|
    .st (.act none (.px (some 20) (.mv (.v 24)))) .done
@[simp] def W153_18 := @C.wpe _ _ K153_18.eq_1
def K153_19 : C := .pl <| .st (.ext 24 3) <|
    .st (.act none (.ld (some 24) (.v 11) none)) <|
    .st (.act none (.px (some 25) (.mv (.v 12)))) <|
    .st (.act none (.ex (some 26) (.callv (.v 24) [.v 25]))) .done
@[simp] def W153_19 := @C.wpe _ _ K153_19.eq_1
def K153_20 : C := .cond 24 (.v 28) K153_19 (.skip)
@[simp] def W153_20 := @C.wpe _ _ K153_20.eq_1
def K153_21 : C := .seq (.pl <| .st (.ext 24 5) <|
    .st (.act none (.ld (some 24) (.v 4) none)) <|
    .st (.act none (.px (some 25) (.mv (.v 12)))) <|
    .st (.act none (.px (some 26) (.ia 1 (.v 24) (.v 25)))) <|
    .st (.act none (.ld (some 27) (.v 26) none)) <|
    .st (.act none (.px (some 28) (.bin .eql (.v 27) (.c (.int .i64 0))))) .done) K153_20
@[simp] def W153_21 := @C.wpe _ _ K153_21.eq_1
def K153_22 : C := .seq (.block 3 (.seq (.pl <| .st (.ext 24 1) <|
    .st (.act none (.px (some 24) (.mv (.v 20)))) <|
    .st (.act none (.px (some 12) (.mv (.v 24)))) .done) K153_21)) K153_18
@[simp] def W153_22 := @C.wpe _ _ K153_22.eq_1
def K153_23 : C := .seq (.cond 24 (.v 24) (.skip) (.exit 2)) K153_22
@[simp] def W153_23 := @C.wpe _ _ K153_23.eq_1
def K153_24 : C := .seq (.pl <| .st (.ext 24 1) <|
    .st (.act none (.px (some 24) (.bin .lss (.v 20) (.v 19)))) .done) K153_23
@[simp] def W153_24 := @C.wpe _ _ K153_24.eq_1
def K153_25 : C := .block 2 (.loop 24 [0, 1, 2, 3, 5, 7, 8, 9, 10, 12, 13, 14, 15, 16, 17, 18, 21, 22, 23] K153_24)
@[simp] def W153_25 := @C.wpe _ _ K153_25.eq_1
def K153_26 : C := .seq (.seq (.pl <| .st (.ext 24 0) <|
    .st (.act none (.px (some 19) (.mv (.v 3)))) <|
    .st (.act none (.px (some 20) (.mv (.c (.int .i64 0))))) .done) K153_25) K153_17
@[simp] def W153_26 := @C.wpe _ _ K153_26.eq_1
def K153_27 : C := .seq (.pl <| .st (.ext 24 1) <|
    .st (.act none (.px (some 24) (.mkf (.func fn_impl_components_1) [] [.v 9, .v 4, .v 5, .v 8, .v 1, .v 11, .v 6, .v 10]))) <|
    .st (.act none (.ex none (.store 1 (.v 11) (.v 24)))) .done) K153_26
@[simp] def W153_27 := @C.wpe _ _ K153_27.eq_1
def K153_28 : C := .seq (.pl <| .st (.ext 24 0) <|
    .st (.act none (.ex (some 11) (.alloc (.c (.nilFunc))))) .done) K153_27
@[simp] def W153_28 := @C.wpe _ _ K153_28.eq_1
def K153_29 : Pl := .st (.act none (.ex none (.store 1 (.v 10) (.c (.int .i64 0))))) .done
@[simp] def W153_29 := @Pl.wpe _ _ K153_29.eq_1
def K153_30 : Pl := .st (.act none (.ex none (.store 1 (.v 9) (.c (.int .i64 0))))) K153_29
@[simp] def W153_30 := @Pl.wpe _ _ K153_30.eq_1
def K153_31 : Pl := .st (.act none (.ex (some 10) (.alloc (.c (.int .i64 0))))) K153_30
@[simp] def W153_31 := @Pl.wpe _ _ K153_31.eq_1
def K153_32 : C := .seq (.pl <| .st (.ext 24 0) <|
    .st (.act none (.ex (some 9) (.alloc (.c (.int .i64 0))))) K153_31) K153_28
@[simp] def W153_32 := @C.wpe _ _ K153_32.eq_1
def K153_33 : C := .seq (.pl <| .st (.ext 24 0) <|
    .st (.act none (.ex (some 8) (.alloc (.c (.slice none 0 0))))) .done) K153_32
@[simp] def W153_33 := @C.wpe _ _ K153_33.eq_1
def K153_34 : C := .pl <| .st (.ext 24 1) <|
    .st (.act none (.px (some 24) (.bin .add (.v 18) (.c (.int .i64 1))))) <|
    .st (.act none (.px (some 18) (.mv (.v 24)))) .done
@[simp] def W153_34 := @C.wpe _ _ K153_34.eq_1
def K153_35 : C := .pl <| .st (.ext 24 3) <|
    .st (.act none (.ld (some 24) (.v 6) none)) <|
    .st (.act none (.px (some 25) (.mv (.v 7)))) <|
    .st (.act none (.px (some 26) (.ia 1 (.v 24) (.v 25)))) <|
    .st (.act none (.ex none (.store 1 (.v 26) (.c (.int .i64 (-1)))))) .done
@[simp] def W153_35 := @C.wpe _ _ K153_35.eq_1
def K153_36 : C := .seq (.block 1 (.seq (.pl <| .st (.ext 24 1) <|
    .st (.act none (.px (some 24) (.mv (.v 18)))) <|
    .st (.act none (.px (some 7) (.mv (.v 24)))) .done) K153_35)) K153_34
@[simp] def W153_36 := @C.wpe _ _ K153_36.eq_1
def K153_37 : C := .seq (.cond 24 (.v 24) (.skip) (.exit 0)) K153_36
@[simp] def W153_37 := @C.wpe _ _ K153_37.eq_1
def K153_38 : C := .seq (.pl <| .st (.ext 24 1) <|
    .st (.act none (.px (some 24) (.bin .lss (.v 18) (.v 17)))) .done) K153_37
@[simp] def W153_38 := @C.wpe _ _ K153_38.eq_1
def K153_39 : C := .block 0 (.loop 24 [0, 2, 7, 8, 9, 10, 11, 12, 13, 14, 15, 16, 19, 20, 21, 22, 23] K153_38)
@[simp] def W153_39 := @C.wpe _ _ K153_39.eq_1
def K153_40 : C := .seq (.seq (.pl <| .st (.ext 24 1) <|
    .st (.act none (.ld (some 24) (.v 6) none)) <|
    .st (.act none (.px (some 17) (.lenV (.v 24)))) <|
    .st (.act none (.px (some 18) (.mv (.c (.int .i64 0))))) .done) K153_39) K153_33
@[simp] def W153_40 := @C.wpe _ _ K153_40.eq_1
def K153_41 : Pl := .st (.act none (.ex none (.store 1 (.v 6) (.v 29)))) .done
@[simp] def W153_41 := @Pl.wpe _ _ K153_41.eq_1
def K153_42 : Pl := .st (.act none (.ex none (.store 1 (.v 5) (.v 27)))) K153_41
@[simp] def W153_42 := @Pl.wpe _ _ K153_42.eq_1
def K153_43 : Pl := .st (.act none (.ex none (.store 1 (.v 4) (.v 25)))) K153_42
@[simp] def W153_43 := @Pl.wpe _ _ K153_43.eq_1
def K153_44 : Pl := .st (.act none (.ex (some 6) (.alloc (.c (.slice none 0 0))))) K153_43
@[simp] def W153_44 := @Pl.wpe _ _ K153_44.eq_1
def K153_45 : Pl := .st (.act none (.ex (some 5) (.alloc (.c (.slice none 0 0))))) K153_44
@[simp] def W153_45 := @Pl.wpe _ _ K153_45.eq_1
def K153_46 : Pl := .st (.act none (.ex (some 4) (.alloc (.c (.slice none 0 0))))) K153_45
@[simp] def W153_46 := @Pl.wpe _ _ K153_46.eq_1
def K153_47 : Pl := .st (.act none (.px (some 28) (.mv (.v 3)))) <|
    .st (.act none (.ex (some 29) (.mks 8 1 [.int .i64 0] (.v 28) (.v 28)))) K153_46
@[simp] def W153_47 := @Pl.wpe _ _ K153_47.eq_1
def K153_48 : Pl := .st (.act none (.px (some 26) (.mv (.v 3)))) <|
    .st (.act none (.ex (some 27) (.mks 8 1 [.int .i64 0] (.v 26) (.v 26)))) K153_47
@[simp] def W153_48 := @Pl.wpe _ _ K153_48.eq_1
def K153_49 : C := .seq (.pl <| .st (.ext 24 6) <|
    .st (.act none (.px (some 24) (.mv (.v 3)))) <|
    .st (.act none (.ex (some 25) (.mks 8 1 [.int .i64 0] (.v 24) (.v 24)))) K153_48) K153_40
@[simp] def W153_49 := @C.wpe _ _ K153_49.eq_1
def K153_50 : C := .seq (.pl <| .st (.ext 24 2) <|
    .st (.act none (.ld (some 24) (.v 1) none)) <|
    .st (.act none (.px (some 25) (.lenV (.v 24)))) <|
    .st (.act none (.px (some 3) (.mv (.v 25)))) .done) K153_49
@[simp] def W153_50 := @C.wpe _ _ K153_50.eq_1
def K153_51 : Pl := .st (.act none (.px (some 2) (.mv (.c (.slice none 0 0))))) .done
@[simp] def W153_51 := @Pl.wpe _ _ K153_51.eq_1
def B_impl_components : C := .seq (.pl <| .st (.ext 24 0) <|
    .st (.act none (.ex (some 1) (.alloc (.v 0)))) K153_51) K153_50
@[simp] def WB_impl_components := @C.wpe _ _ B_impl_components.eq_1
def R_impl_components : FIR := ⟨B_impl_components, 24, [(2, none)]⟩
theorem IR_impl_components : cfun Try.prog H_impl_components Try.f153 = some R_impl_components := by kernel_rfl
theorem EN_impl_components {args : List Value} {h : Heap} {k : Value → Heap → Prop} (hargs : args.length = 1) (hw : B_impl_components.wp Try.prog (retQ [(2, none)] k) (env0 args 24) h) : CallE Try.prog fn_impl_components args h k := enter Try.func153 rfl IR_impl_components hargs hw

def H_impl_components_1 : Hint := ⟨[(0, false), (1, false), (2, false), (3, false), (4, false), (5, false), (6, false), (7, false), (8, false), (11, false), (12, false), (30, false), (31, false), (32, false)], [[1, 5, 9, 10], [1, 2, 3, 5, 6, 9, 11, 12, 13]]⟩
def K176_1 : C := .pl <| .st (.ext 14 2) <|
    .st (.act none (.ld (some 14) (.v 8) none)) <|
    .st (.act none (.px (some 15) (.bin .add (.v 14) (.c (.int .i64 1))))) <|
    .st (.act none (.ex none (.store 1 (.v 8) (.v 15)))) .done
@[simp] def W176_1 := @C.wpe _ _ K176_1.eq_1
def K176_2 : C := .pl <| .st (.ext 14 4) <|
    .st (.act none (.ld (some 14) (.v 7) none)) <|
    .st (.act none (.px (some 15) (.mv (.v 10)))) <|
    .st (.act none (.ld (some 16) (.v 8) none)) <|
    .st (.act none (.px (some 17) (.ia 1 (.v 14) (.v 15)))) <|
    .st (.act none (.ex none (.store 1 (.v 17) (.v 16)))) .done
@[simp] def W176_2 := @C.wpe _ _ K176_2.eq_1
def K176_3 : C := .seq (.pl <| .st (.ext 14 5) <|
    .st (.act none (.ld (some 14) (.v 4) none)) <|
    .st (.act none (.ld (some 15) (.v 4) none)) <|
    .st (.act none (.px (some 16) (.lenV (.v 15)))) <|
    .st (.act none (.px (some 17) (.bin .sub (.v 16) (.c (.int .i64 1))))) <|
    .st (.act none (.px (some 18) (.sliceV 1 (.v 14) none (some (.v 17)) none))) <|
    .st (.act none (.ex none (.store 1 (.v 4) (.v 18)))) .done) K176_2
@[simp] def W176_3 := @C.wpe _ _ K176_3.eq_1
def K176_4 : C := .block 4 (.seq (.pl <| .st (.ext 14 6) <|
    .st (.act none (.ld (some 14) (.v 4) none)) <|
    .st (.act none (.ld (some 15) (.v 4) none)) <|
    .st (.act none (.px (some 16) (.lenV (.v 15)))) <|
    .st (.act none (.px (some 17) (.bin .sub (.v 16) (.c (.int .i64 1))))) <|
    .st (.act none (.px (some 18) (.ia 1 (.v 14) (.v 17)))) <|
    .st (.act none (.ld (some 19) (.v 18) none)) <|
    .st (.act none (.px (some 10) (.mv (.v 19)))) .done) K176_3)
@[simp] def W176_4 := @C.wpe _ _ K176_4.eq_1
def K176_5 : C := .cond 14 (.v 16) (.skip) (.exit 3)
@[simp] def W176_5 := @C.wpe _ _ K176_5.eq_1
def K176_6 : C := .seq (.seq (.pl <| .st (.ext 14 3) <|
    .st (.act none (.px (some 14) (.mv (.v 10)))) <|
    .st (.act none (.px (some 15) (.mv (.v 0)))) <|
    .st (.act none (.px (some 16) (.bin .neq (.v 14) (.v 15)))) .done) K176_5) K176_4
@[simp] def W176_6 := @C.wpe _ _ K176_6.eq_1
def K176_7 : C := .block 3 (.loop 14 [1, 2, 3, 5, 6, 9, 11, 12, 13] K176_6)
@[simp] def W176_7 := @C.wpe _ _ K176_7.eq_1
def K176_8 : C := .seq (.seq (.pl <| .st (.ext 14 0) <|
    .st (.act none (.px (some 10) (.mv (.c (.int .i64 (-1)))))) .done) K176_7) K176_1
@[simp] def W176_8 := @C.wpe _ _ K176_8.eq_1
def K176_9 : C := .cond 14 (.v 22) K176_8 (.skip)
@[simp] def W176_9 := @C.wpe _ _ K176_9.eq_1
def K176_10 : C := .seq (.pl <| .st (.ext 14 9) <|
    .st (.act none (.ld (some 14) (.v 3) none)) <|
    .st (.act none (.px (some 15) (.mv (.v 0)))) <|
    .st (.act none (.px (some 16) (.ia 1 (.v 14) (.v 15)))) <|
    .st (.act none (.ld (some 17) (.v 16) none)) <|
    .st (.act none (.ld (some 18) (.v 2) none)) <|
    .st (.act none (.px (some 19) (.mv (.v 0)))) <|
    .st (.act none (.px (some 20) (.ia 1 (.v 18) (.v 19)))) <|
    .st (.act none (.ld (some 21) (.v 20) none)) <|
    .st (.act none (.px (some 22) (.bin .eql (.v 17) (.v 21)))) .done) K176_9
@[simp] def W176_10 := @C.wpe _ _ K176_10.eq_1
def K176_11 : C := .pl <| .st (.ext 14 1) <|
    .st (.act none (.px (some 14) (.bin .add (.v 13) (.c (.int .i64 1))))) <|
    .st (.act none (.px (some 13) (.mv (.v 14)))) .done
@[simp] def W176_11 := @C.wpe _ _ K176_11.eq_1
def K176_12 : C := .pl <| .st (.ext 14 12) <|
    .st (.act none (.ld (some 14) (.v 3) none)) <|
    .st (.act none (.px (some 15) (.mv (.v 0)))) <|
    .st (.act none (.ld (some 16) (.v 3) none)) <|
    .st (.act none (.px (some 17) (.mv (.v 0)))) <|
    .st (.act none (.px (some 18) (.ia 1 (.v 16) (.v 17)))) <|
    .st (.act none (.ld (some 19) (.v 18) none)) <|
    .st (.act none (.ld (some 20) (.v 3) none)) <|
    .st (.act none (.px (some 21) (.mv (.v 9)))) <|
    .st (.act none (.px (some 22) (.ia 1 (.v 20) (.v 21)))) <|
    .st (.act none (.ld (some 23) (.v 22) none)) <|
    .st (.act none (.px (some 24) (.minI (.v 19) (.v 23)))) <|
    .st (.act none (.px (some 25) (.ia 1 (.v 14) (.v 15)))) <|
    .st (.act none (.ex none (.store 1 (.v 25) (.v 24)))) .done
@[simp] def W176_12 := @C.wpe _ _ K176_12.eq_1
def K176_13 : C := .seq (.pl <| .st (.ext 14 3) <|
    .st (.act none (.ld (some 14) (.v 6) none)) <|
    .st (.act none (.px (some 15) (.mv (.v 9)))) <|
    .st (.act none (.ex (some 16) (.callv (.v 14) [.v 15]))) .done) K176_12
@[simp] def W176_13 := @C.wpe _ _ K176_13.eq_1
def K176_14 : C := .pl <| .st (.ext 14 12) <|
    .st (.act none (.ld (some 14) (.v 3) none)) <|
    .st (.act none (.px (some 15) (.mv (.v 0)))) <|
    .st (.act none (.ld (some 16) (.v 3) none)) <|
    .st (.act none (.px (some 17) (.mv (.v 0)))) <|
    .st (.act none (.px (some 18) (.ia 1 (.v 16) (.v 17)))) <|
    .st (.act none (.ld (some 19) (.v 18) none)) <|
    .st (.act none (.ld (some 20) (.v 2) none)) <|
    .st (.act none (.px (some 21) (.mv (.v 9)))) <|
    .st (.act none (.px (some 22) (.ia 1 (.v 20) (.v 21)))) <|
    .st (.act none (.ld (some 23) (.v 22) none)) <|
    .st (.act none (.px (some 24) (.minI (.v 19) (.v 23)))) <|
    .st (.act none (.px (some 25) (.ia 1 (.v 14) (.v 15)))) <|
    .st (.act none (.ex none (.store 1 (.v 25) (.v 24)))) .done
@[simp] def W176_14 := @C.wpe _ _ K176_14.eq_1
def K176_15 : C := .cond 14 (.v 19) K176_14 (.skip)
@[simp] def W176_15 := @C.wpe _ _ K176_15.eq_1
def K176_16 : C := .seq (.pl <| .st (.ext 14 6) <|
    .st (.act none (.ld (some 14) (.v 7) none)) <|
    .st (.act none (.px (some 15) (.mv (.v 9)))) <|
    .st (.act none (.px (some 16) (.ia 1 (.v 14) (.v 15)))) <|
    .st (.act none (.ld (some 17) (.v 16) none)) <|
    .st (.act none (.px (some 18) (.bin .lss (.v 17) (.c (.int .i64 0))))) <|
    .st (.act none (.px (some 19) (.mv (.v 18)))) .done) K176_15
@[simp] def W176_16 := @C.wpe _ _ K176_16.eq_1
def K176_17 : C := .cond 14 (.v 19) K176_13 K176_16
@[simp] def W176_17 := @C.wpe _ _ K176_17.eq_1
def K176_18 : C := .block 2 (.seq (.pl <| .st (.ext 14 6) <|
    .st (.act none (.ld (some 14) (.v 2) none)) <|
    .st (.act none (.px (some 15) (.mv (.v 9)))) <|
    .st (.act none (.px (some 16) (.ia 1 (.v 14) (.v 15)))) <|
    .st (.act none (.ld (some 17) (.v 16) none)) <|
    .st (.act none (.px (some 18) (.bin .eql (.v 17) (.c (.int .i64 0))))) <|
    .st (.act none (.px (some 19) (.mv (.v 18)))) .done) K176_17)
@[simp] def W176_18 := @C.wpe _ _ K176_18.eq_1
def K176_19 : C := .seq (.block 1 (.seq (.pl <| .st (.ext 14 2) <|
    .st (.act none (.px (some 14) (.ia 1 (.v 11) (.v 13)))) <|
    .st (.act none (.ld (some 15) (.v 14) none)) <|
    .st (.act none (.px (some 9) (.mv (.v 15)))) .done) K176_18)) K176_11
@[simp] def W176_19 := @C.wpe _ _ K176_19.eq_1
def K176_20 : C := .seq (.cond 14 (.v 14) (.skip) (.exit 0)) K176_19
@[simp] def W176_20 := @C.wpe _ _ K176_20.eq_1
def K176_21 : C := .seq (.pl <| .st (.ext 14 1) <|
    .st (.act none (.px (some 14) (.bin .lss (.v 13) (.v 12)))) .done) K176_20
@[simp] def W176_21 := @C.wpe _ _ K176_21.eq_1
def K176_22 : C := .block 0 (.loop 14 [1, 5, 9, 10] K176_21)
@[simp] def W176_22 := @C.wpe _ _ K176_22.eq_1
def K176_23 : C := .seq (.seq (.pl <| .st (.ext 14 3) <|
    .st (.act none (.ld (some 14) (.v 5) none)) <|
    .st (.act none (.px (some 15) (.mv (.v 0)))) <|
    .st (.act none (.px (some 16) (.ia 1 (.v 14) (.v 15)))) <|
    .st (.act none (.ld (some 11) (.v 16) none)) <|
    .st (.act none (.px (some 12) (.lenV (.v 11)))) <|
    .st (.act none (.px (some 13) (.mv (.c (.int .i64 0))))) .done) K176_22) K176_10
@[simp] def W176_23 := @C.wpe _ _ K176_23.eq_1
def K176_24 : Pl := .st (.act none (.ex none (.store 1 (.v 4) (.v 17)))) .done
@[simp] def W176_24 := @Pl.wpe _ _ K176_24.eq_1
def K176_25 : C := .seq (.pl <| .st (.ext 14 4) <|
    .st (.act none (.ld (some 14) (.v 4) none)) <|
    .st (.act none (.px (some 15) (.mv (.v 0)))) <|
    .st (.act none (.psl 16 [.int .i64 0] [(0, 1, .v 15)])) <|
    .st (.act none (.ex (some 17) (.app 8 1 [.int .i64 0] (.o (.v 14)) (.p 1 16)))) K176_24) K176_23
@[simp] def W176_25 := @C.wpe _ _ K176_25.eq_1
def K176_26 : Pl := .st (.re 16 (.v 3) none none) <|
    .st (.re 19 (.v 1) none none) <|
    .st (.act none (.px (some 21) (.ia 1 (.v 16) (.v 17)))) <|
    .st (.act none (.ex none (.store 1 (.v 21) (.v 19)))) .done
@[simp] def W176_26 := @Pl.wpe _ _ K176_26.eq_1
def K176_27 : C := .seq (.pl <| .st (.ext 14 8) <|
    .st (.act none (.ld (some 14) (.v 2) none)) <|
    .st (.act none (.px (some 15) (.mv (.v 0)))) <|
    .st (.act none (.ld (some 16) (.v 3) none)) <|
    .st (.act none (.px (some 17) (.mv (.v 0)))) <|
    .st (.act none (.ld (some 18) (.v 1) none)) <|
    .st (.act none (.ld (some 19) (.v 1) none)) <|
    .st (.act none (.px (some 20) (.ia 1 (.v 14) (.v 15)))) <|
    .st (.act none (.ex none (.store 1 (.v 20) (.v 18)))) K176_26) K176_25
@[simp] def W176_27 := @C.wpe _ _ K176_27.eq_1
def B_impl_components_1 : C := .seq (.pl <| .st (.ext 14 2) <|
    .st (.act none (.ld (some 14) (.v 1) none)) <|
    .st (.act none (.px (some 15) (.bin .add (.v 14) (.c (.int .i64 1))))) <|
    .st (.act none (.ex none (.store 1 (.v 1) (.v 15)))) .done) K176_27
@[simp] def WB_impl_components_1 := @C.wpe _ _ B_impl_components_1.eq_1
def R_impl_components_1 : FIR := ⟨B_impl_components_1, 14, []⟩
theorem IR_impl_components_1 : cfun Try.prog H_impl_components_1 Try.f176 = some R_impl_components_1 := by kernel_rfl
theorem EN_impl_components_1 {args : List Value} {h : Heap} {k : Value → Heap → Prop} (hargs : args.length = 9) (hw : B_impl_components_1.wp Try.prog (retQ [] k) (env0 args 14) h) : CallE Try.prog fn_impl_components_1 args h k := enter Try.func176 rfl IR_impl_components_1 hargs hw

def H_impl_cyclic : Hint := ⟨[(0, false), (2, false), (3, false), (4, false), (6, false), (7, false), (8, false), (14, false), (15, false), (16, false), (31, false), (32, false)], [[1, 4, 5, 6, 10, 11], [1, 4, 6, 7, 8, 9]]⟩
def K113_1 : C := .seq (.pl <| .st (.ext 12 1) <|
    .st (.act none (.px (some 12) (.mv (.v 5)))) <|
    .st (.act none (.px (some 1) (.mv (.v 12)))) .done) (.ret)
@[simp] def W113_1 := @C.wpe _ _ K113_1.eq_1
def K113_2 : C := .pl <| .st (.ext 12 1) <|
    .st (.act none (.px (some 12) (.bin .add (.v 11) (.c (.int .i64 1))))) <|
    .st (.act none (.px (some 11) (.mv (.v 12)))) .done
@[simp] def W113_2 := @C.wpe _ _ K113_2.eq_1
def K113_3 : Pl := .st (.act none (.px (some 29) (.pick (.v 22) (.c (.bool true)) (.v 28)))) <|
    .st (.act none (.px (some 30) (.ia 1 (.v 12) (.v 13)))) <|
    .st (.act none (.ex none (.store 1 (.v 30) (.v 29)))) .done
@[simp] def W113_3 := @Pl.wpe _ _ K113_3.eq_1
def K113_4 : C := .pl <| .st (.ext 12 19) <|
    .st (.act none (.px (some 12) (.mv (.v 5)))) <|
    .st (.act none (.px (some 13) (.mv (.v 6)))) <|
    .st (.act none (.px (some 14) (.mv (.v 3)))) <|
    .st (.act none (.px (some 15) (.mv (.v 2)))) <|
    .st (.act none (.px (some 16) (.mv (.v 6)))) <|
    .st (.act none (.px (some 17) (.ia 1 (.v 15) (.v 16)))) <|
    .st (.act none (.ld (some 18) (.v 17) none)) <|
    .st (.act none (.px (some 19) (.ia 1 (.v 14) (.v 18)))) <|
    .st (.act none (.ld (some 20) (.v 19) none)) <|
    .st (.act none (.px (some 21) (.bin .gtr (.v 20) (.c (.int .i64 1))))) <|
    .st (.act none (.px (some 22) (.mv (.v 21)))) <|
    .st (.act (some (.v 22, false)) (.px (some 23) (.mv (.v 0)))) <|
    .st (.act (some (.v 22, false)) (.px (some 24) (.mv (.v 6)))) <|
    .st (.act (some (.v 22, false)) (.px (some 25) (.ia 1 (.v 23) (.v 24)))) <|
    .st (.act (some (.v 22, false)) (.ld (some 26) (.v 25) none)) <|
    .st (.act (some (.v 22, false)) (.px (some 27) (.mv (.v 6)))) <|
    .st (.act (some (.v 22, false)) (.ex (some 28) (.call fn_slices_Contains_S_int_int [.v 26, .v 27]))) K113_3
@[simp] def W113_4 := @C.wpe _ _ K113_4.eq_1
def K113_5 : C := .seq (.block 3 (.seq (.pl <| .st (.ext 12 1) <|
    .st (.act none (.px (some 12) (.mv (.v 11)))) <|
    .st (.act none (.px (some 6) (.mv (.v 12)))) .done) K113_4)) K113_2
@[simp] def W113_5 := @C.wpe _ _ K113_5.eq_1
def K113_6 : C := .seq (.cond 12 (.v 12) (.skip) (.exit 2)) K113_5
@[simp] def W113_6 := @C.wpe _ _ K113_6.eq_1
def K113_7 : C := .seq (.pl <| .st (.ext 12 1) <|
    .st (.act none (.px (some 12) (.bin .lss (.v 11) (.v 10)))) .done) K113_6
@[simp] def W113_7 := @C.wpe _ _ K113_7.eq_1
def K113_8 : C := .block 2 (.loop 12 [1, 4, 6, 7, 8, 9] K113_7)
@[simp] def W113_8 := @C.wpe _ _ K113_8.eq_1
def K113_9 : C := .seq (.seq (.pl <| .st (.ext 12 1) <|
    .st (.act none (.px (some 12) (.mv (.v 0)))) <|
    .st (.act none (.px (some 10) (.lenV (.v 12)))) <|
    .st (.act none (.px (some 11) (.mv (.c (.int .i64 0))))) .done) K113_8) K113_1
@[simp] def W113_9 := @C.wpe _ _ K113_9.eq_1
def K113_10 : Pl := .st (.act none (.px (some 5) (.mv (.v 14)))) .done
@[simp] def W113_10 := @Pl.wpe _ _ K113_10.eq_1
def K113_11 : C := .seq (.pl <| .st (.ext 12 3) <|
    .st (.act none (.px (some 12) (.mv (.v 0)))) <|
    .st (.act none (.px (some 13) (.lenV (.v 12)))) <|
    .st (.act none (.ex (some 14) (.mks 1 1 [.bool false] (.v 13) (.v 13)))) K113_10) K113_9
@[simp] def W113_11 := @C.wpe _ _ K113_11.eq_1
def K113_12 : C := .pl <| .st (.ext 12 1) <|
    .st (.act none (.px (some 12) (.bin .add (.v 9) (.c (.int .i64 1))))) <|
    .st (.act none (.px (some 9) (.mv (.v 12)))) .done
@[simp] def W113_12 := @C.wpe _ _ K113_12.eq_1
def K113_13 : C := .pl <| .st (.ext 12 6) <|
    .st (.act none (.px (some 12) (.mv (.v 3)))) <|
    .st (.act none (.px (some 13) (.mv (.v 4)))) <|
    .st (.act none (.px (some 14) (.ia 1 (.v 12) (.v 13)))) <|
    .st (.act none (.ld (some 15) (.v 14) none)) <|
    .st (.act none (.px (some 16) (.bin .add (.v 15) (.c (.int .i64 1))))) <|
    .st (.act none (.px (some 17) (.ia 1 (.v 12) (.v 13)))) <|
    .st (.act none (.ex none (.store 1 (.v 17) (.v 16)))) .done
@[simp] def W113_13 := @C.wpe _ _ K113_13.eq_1
def K113_14 : C := .seq (.block 1 (.seq (.pl <| .st (.ext 12 2) <|
    .st (.act none (.px (some 12) (.ia 1 (.v 7) (.v 9)))) <|
    .st (.act none (.ld (some 13) (.v 12) none)) <|
    .st (.act none (.px (some 4) (.mv (.v 13)))) .done) K113_13)) K113_12
@[simp] def W113_14 := @C.wpe _ _ K113_14.eq_1
def K113_15 : C := .seq (.cond 12 (.v 12) (.skip) (.exit 0)) K113_14
@[simp] def W113_15 := @C.wpe _ _ K113_15.eq_1
def K113_16 : C := .seq (.pl <| .st (.ext 12 1) <|
    .st (.act none (.px (some 12) (.bin .lss (.v 9) (.v 8)))) .done) K113_15
@[simp] def W113_16 := @C.wpe _ _ K113_16.eq_1
def K113_17 : C := .block 0 (.loop 12 [1, 4, 5, 6, 10, 11] K113_16)
@[simp] def W113_17 := @C.wpe _ _ K113_17.eq_1
def K113_18 : C := .seq (.seq (.pl <| .st (.ext 12 0) <|
    .st (.act none (.px (some 7) (.mv (.v 2)))) <|
    .st (.act none (.px (some 8) (.lenV (.v 7)))) <|
    .st (.act none (.px (some 9) (.mv (.c (.int .i64 0))))) .done) K113_17) K113_11
@[simp] def W113_18 := @C.wpe _ _ K113_18.eq_1
def K113_19 : Pl := .st (.act none (.px (some 3) (.mv (.v 14)))) .done
@[simp] def W113_19 := @Pl.wpe _ _ K113_19.eq_1
def K113_20 : C := .seq (.pl <| .st (.ext 12 3) <|
    .st (.act none (.px (some 12) (.mv (.v 0)))) <|
    .st (.act none (.px (some 13) (.lenV (.v 12)))) <|
    .st (.act none (.ex (some 14) (.mks 8 1 [.int .i64 0] (.v 13) (.v 13)))) K113_19) K113_18
@[simp] def W113_20 := @C.wpe _ _ K113_20.eq_1
def K113_21 : Pl := .st (.act none (.px (some 2) (.mv (.v 13)))) .done
@[simp] def W113_21 := @Pl.wpe _ _ K113_21.eq_1
def K113_22 : C := .seq (.pl <| .st (.ext 12 2) <|
    .st (.act none (.px (some 12) (.mv (.v 0)))) <|
    .st (.act none (.ex (some 13) (.call fn_impl_components [.v 12]))) K113_21) K113_20
@[simp] def W113_22 := @C.wpe _ _ K113_22.eq_1
def B_impl_cyclic : C := .seq (.pl <| .st (.ext 12 0) <|
    .st (.act none (.px (some 1) (.mv (.c (.slice none 0 0))))) .done) K113_22
@[simp] def WB_impl_cyclic := @C.wpe _ _ B_impl_cyclic.eq_1
def R_impl_cyclic : FIR := ⟨B_impl_cyclic, 12, [(1, none)]⟩
theorem IR_impl_cyclic : cfun Try.prog H_impl_cyclic Try.f113 = some R_impl_cyclic := by kernel_rfl
theorem EN_impl_cyclic {args : List Value} {h : Heap} {k : Value → Heap → Prop} (hargs : args.length = 1) (hw : B_impl_cyclic.wp Try.prog (retQ [(1, none)] k) (env0 args 12) h) : CallE Try.prog fn_impl_cyclic args h k := enter Try.func113 rfl IR_impl_cyclic hargs hw

def H_impl_letters : Hint := ⟨[(0, false), (2, false)], []⟩
def K104_1 : Pl := .st (.act none (.px (some 4) (.un .not (.v 3)))) <|
    .st (.act none (.px (some 1) (.mv (.v 4)))) .done
@[simp] def W104_1 := @Pl.wpe _ _ K104_1.eq_1
def K104_2 : C := .seq (.pl <| .st (.ext 2 3) <|
    .st (.act none (.px (some 2) (.mv (.v 0)))) <|
    .st (.act none (.ex (some 3) (.call fn_slices_ContainsFunc_S_int_int [.v 2, .c (.func (.func 150) #[] #[])]))) K104_1) (.ret)
@[simp] def W104_2 := @C.wpe _ _ K104_2.eq_1
def B_impl_letters : C := .seq (.pl <| .st (.ext 2 0) <|
    .st (.act none (.px (some 1) (.mv (.c (.bool false))))) .done) K104_2
@[simp] def WB_impl_letters := @C.wpe _ _ B_impl_letters.eq_1
def R_impl_letters : FIR := ⟨B_impl_letters, 2, [(1, none)]⟩
theorem IR_impl_letters : cfun Try.prog H_impl_letters Try.f104 = some R_impl_letters := by kernel_rfl
theorem EN_impl_letters {args : List Value} {h : Heap} {k : Value → Heap → Prop} (hargs : args.length = 1) (hw : B_impl_letters.wp Try.prog (retQ [(1, none)] k) (env0 args 2) h) : CallE Try.prog fn_impl_letters args h k := enter Try.func104 rfl IR_impl_letters hargs hw

def H_impl_letters_1 : Hint := ⟨[(0, false), (2, false)], []⟩
def K150_1 : Pl := .st (.act none (.px (some 4) (.un .not (.v 3)))) <|
    .st (.act none (.px (some 1) (.mv (.v 4)))) .done
@[simp] def W150_1 := @Pl.wpe _ _ K150_1.eq_1
def K150_2 : C := .seq (.pl <| .st (.ext 2 3) <|
    .st (.act none (.px (some 2) (.mv (.v 0)))) <|
    .st (.act none (.ex (some 3) (.call fn_impl_in [.v 2, .c (.int .i64 0), .c (.int .i64 7)]))) K150_1) (.ret)
@[simp] def W150_2 := @C.wpe _ _ K150_2.eq_1
def B_impl_letters_1 : C := .seq (.pl <| .st (.ext 2 0) <|
    .st (.act none (.px (some 1) (.mv (.c (.bool false))))) .done) K150_2
@[simp] def WB_impl_letters_1 := @C.wpe _ _ B_impl_letters_1.eq_1
def R_impl_letters_1 : FIR := ⟨B_impl_letters_1, 2, [(1, none)]⟩
theorem IR_impl_letters_1 : cfun Try.prog H_impl_letters_1 Try.f150 = some R_impl_letters_1 := by kernel_rfl
theorem EN_impl_letters_1 {args : List Value} {h : Heap} {k : Value → Heap → Prop} (hargs : args.length = 1) (hw : B_impl_letters_1.wp Try.prog (retQ [(1, none)] k) (env0 args 2) h) : CallE Try.prog fn_impl_letters_1 args h k := enter Try.func150 rfl IR_impl_letters_1 hargs hw

def H_impl_reachable : Hint := ⟨[(0, false), (1, false), (4, false), (5, false), (6, false), (8, false), (9, false), (11, false), (17, false), (18, false), (19, false), (44, false), (45, false), (46, false)], [[1, 2, 5, 6, 7, 11, 12, 13], [1, 2, 5, 6, 7, 8, 9, 10, 11, 12, 13], [1, 2, 5, 6, 7, 8, 9, 10]]⟩
def K114_1 : C := .seq (.pl <| .st (.ext 14 1) <|
    .st (.act none (.px (some 14) (.mv (.v 3)))) <|
    .st (.act none (.px (some 2) (.mv (.v 14)))) .done) (.ret)
@[simp] def W114_1 := @C.wpe _ _ K114_1.eq_1
def K114_2 : C := .pl <| .st (.ext 14 1) <|
    .st (.act none (.px (some 14) (.bin .add (.v 13) (.c (.int .i64 1))))) <|
    .st (.act none (.px (some 13) (.mv (.v 14)))) .done
@[simp] def W114_2 := @C.wpe _ _ K114_2.eq_1
def K114_3 : Pl := .st (.act none (.px (some 4) (.mv (.v 17)))) .done
@[simp] def W114_3 := @Pl.wpe _ _ K114_3.eq_1
def K114_4 : C := .pl <| .st (.ext 14 4) <|
    .st (.act none (.px (some 14) (.mv (.v 4)))) <|
    .st (.act none (.px (some 15) (.mv (.v 7)))) <|
    .st (.act none (.psl 16 [.int .i64 0] [(0, 1, .v 15)])) <|
    .st (.act none (.ex (some 17) (.app 8 1 [.int .i64 0] (.o (.v 14)) (.p 1 16)))) K114_3
@[simp] def W114_4 := @C.wpe _ _ K114_4.eq_1
def K114_5 : C := .seq (.pl <| .st (.ext 14 3) <|
    .st (.act none (.px (some 14) (.mv (.v 3)))) <|
    .st (.act none (.px (some 15) (.mv (.v 7)))) <|
    .st (.act none (.px (some 16) (.ia 1 (.v 14) (.v 15)))) <|
    .st (.act none (.ex none (.store 1 (.v 16) (.c (.bool true))))) .done) K114_4
@[simp] def W114_5 := @C.wpe _ _ K114_5.eq_1
def K114_6 : C := .cond 14 (.v 18) K114_5 (.skip)
@[simp] def W114_6 := @C.wpe _ _ K114_6.eq_1
def K114_7 : C := .seq (.pl <| .st (.ext 14 5) <|
    .st (.act none (.px (some 14) (.mv (.v 3)))) <|
    .st (.act none (.px (some 15) (.mv (.v 7)))) <|
    .st (.act none (.px (some 16) (.ia 1 (.v 14) (.v 15)))) <|
    .st (.act none (.ld (some 17) (.v 16) none)) <|
    .st (.act none (.px (some 18) (.un .not (.v 17)))) .done) K114_6
@[simp] def W114_7 := @C.wpe _ _ K114_7.eq_1
def K114_8 : C := .seq (.block 5 (.seq (.pl <| .st (.ext 14 2) <|
    .st (.act none (.px (some 14) (.ia 1 (.v 11) (.v 13)))) <|
    .st (.act none (.ld (some 15) (.v 14) none)) <|
    .st (.act none (.px (some 7) (.mv (.v 15)))) .done) K114_7)) K114_2
@[simp] def W114_8 := @C.wpe _ _ K114_8.eq_1
def K114_9 : C := .seq (.cond 14 (.v 14) (.skip) (.exit 4)) K114_8
@[simp] def W114_9 := @C.wpe _ _ K114_9.eq_1
def K114_10 : C := .seq (.pl <| .st (.ext 14 1) <|
    .st (.act none (.px (some 14) (.bin .lss (.v 13) (.v 12)))) .done) K114_9
@[simp] def W114_10 := @C.wpe _ _ K114_10.eq_1
def K114_11 : C := .block 4 (.loop 14 [1, 2, 5, 6, 7, 8, 9, 10] K114_10)
@[simp] def W114_11 := @C.wpe _ _ K114_11.eq_1
def K114_12 : C := .seq (.pl <| .st (.ext 14 3) <|
    .st (.act none (.px (some 14) (.mv (.v 0)))) <|
    .st (.act none (.px (some 15) (.mv (.v 6)))) <|
    .st (.act none (.px (some 16) (.ia 1 (.v 14) (.v 15)))) <|
    .st (.act none (.ld (some 11) (.v 16) none)) <|
    .st (.act none (.px (some 12) (.lenV (.v 11)))) <|
    .st (.act none (.px (some 13) (.mv (.c (.int .i64 0))))) .done) K114_11
@[simp] def W114_12 := @C.wpe _ _ K114_12.eq_1
def K114_13 : C := .seq (.pl <| .st (.ext 14 5) <|
    .st (.act none (.px (some 14) (.mv (.v 4)))) <|
    .st (.act none (.px (some 15) (.mv (.v 4)))) <|
    .st (.act none (.px (some 16) (.lenV (.v 15)))) <|
    .st (.act none (.px (some 17) (.bin .sub (.v 16) (.c (.int .i64 1))))) <|
    .st (.act none (.px (some 18) (.sliceV 1 (.v 14) none (some (.v 17)) none))) <|
    .st (.act none (.px (some 4) (.mv (.v 18)))) .done) K114_12
@[simp] def W114_13 := @C.wpe _ _ K114_13.eq_1
def K114_14 : C := .block 3 (.seq (.pl <| .st (.ext 14 6) <|
    .st (.act none (.px (some 14) (.mv (.v 4)))) <|
    .st (.act none (.px (some 15) (.mv (.v 4)))) <|
    .st (.act none (.px (some 16) (.lenV (.v 15)))) <|
    .st (.act none (.px (some 17) (.bin .sub (.v 16) (.c (.int .i64 1))))) <|
    .st (.act none (.px (some 18) (.ia 1 (.v 14) (.v 17)))) <|
    .st (.act none (.ld (some 19) (.v 18) none)) <|
    .st (.act none (.px (some 6) (.mv (.v 19)))) .done) K114_13)
@[simp] def W114_14 := @C.wpe _ _ K114_14.eq_1
def K114_15 : C := .cond 14 (.v 16) (.skip) (.exit 2)
@[simp] def W114_15 := @C.wpe _ _ K114_15.eq_1
def K114_16 : C := .seq (.seq (.pl <| .st (.ext 14 3) <|
    .st (.act none (.px (some 14) (.mv (.v 4)))) <|
    .st (.act none (.px (some 15) (.lenV (.v 14)))) <|
    .st (.act none (.px (some 16) (.bin .gtr (.v 15) (.c (.int .i64 0))))) .done) K114_15) K114_14
@[simp] def W114_16 := @C.wpe _ _ K114_16.eq_1
def K114_17 : C := .seq (.block 2 (.loop 14 [1, 2, 5, 6, 7, 8, 9, 10, 11, 12, 13] K114_16)) K114_1
@[simp] def W114_17 := @C.wpe _ _ K114_17.eq_1
def K114_18 : C := .pl <| .st (.ext 14 1) <|
    .st (.act none (.px (some 14) (.bin .add (.v 10) (.c (.int .i64 1))))) <|
    .st (.act none (.px (some 10) (.mv (.v 14)))) .done
@[simp] def W114_18 := @C.wpe _ _ K114_18.eq_1
def K114_19 : C := .pl <| .st (.ext 14 3) <|
    .st (.act none (.px (some 14) (.mv (.v 3)))) <|
    .st (.act none (.px (some 15) (.mv (.v 5)))) <|
    .st (.act none (.px (some 16) (.ia 1 (.v 14) (.v 15)))) <|
    .st (.act none (.ex none (.store 1 (.v 16) (.c (.bool true))))) .done
@[simp] def W114_19 := @C.wpe _ _ K114_19.eq_1
def K114_20 : C := .seq (.block 1 (.seq (.pl <| .st (.ext 14 2) <|
    .st (.act none (.px (some 14) (.ia 1 (.v 8) (.v 10)))) <|
    .st (.act none (.ld (some 15) (.v 14) none)) <|
    .st (.act none (.px (some 5) (.mv (.v 15)))) .done) K114_19)) K114_18
@[simp] def W114_20 := @C.wpe _ _ K114_20.eq_1
def K114_21 : C := .seq (.cond 14 (.v 14) (.skip) (.exit 0)) K114_20
@[simp] def W114_21 := @C.wpe _ _ K114_21.eq_1
def K114_22 : C := .seq (.pl <| .st (.ext 14 1) <|
    .st (.act none (.px (some 14) (.bin .lss (.v 10) (.v 9)))) .done) K114_21
@[simp] def W114_22 := @C.wpe _ _ K114_22.eq_1
def K114_23 : C := .block 0 (.loop 14 [1, 2, 5, 6, 7, 11, 12, 13] K114_22)
@[simp] def W114_23 := @C.wpe _ _ K114_23.eq_1
def K114_24 : C := .seq (.seq (.pl <| .st (.ext 14 0) <|
    .st (.act none (.px (some 8) (.mv (.v 1)))) <|
    .st (.act none (.px (some 9) (.lenV (.v 8)))) <|
    .st (.act none (.px (some 10) (.mv (.c (.int .i64 0))))) .done) K114_23) K114_17
@[simp] def W114_24 := @C.wpe _ _ K114_24.eq_1
def K114_25 : Pl := .st (.act none (.px (some 4) (.mv (.v 15)))) .done
@[simp] def W114_25 := @Pl.wpe _ _ K114_25.eq_1
def K114_26 : C := .seq (.pl <| .st (.ext 14 2) <|
    .st (.act none (.px (some 14) (.mv (.v 1)))) <|
    .st (.act none (.ex (some 15) (.call fn_impl_clone_int [.v 14]))) K114_25) K114_24
@[simp] def W114_26 := @C.wpe _ _ K114_26.eq_1
def K114_27 : Pl := .st (.act none (.px (some 3) (.mv (.v 16)))) .done
@[simp] def W114_27 := @Pl.wpe _ _ K114_27.eq_1
def K114_28 : C := .seq (.pl <| .st (.ext 14 3) <|
    .st (.act none (.px (some 14) (.mv (.v 0)))) <|
    .st (.act none (.px (some 15) (.lenV (.v 14)))) <|
    .st (.act none (.ex (some 16) (.mks 1 1 [.bool false] (.v 15) (.v 15)))) K114_27) K114_26
@[simp] def W114_28 := @C.wpe _ _ K114_28.eq_1
def B_impl_reachable : C := .seq (.pl <| .st (.ext 14 0) <|
    .st (.act none (.px (some 2) (.mv (.c (.slice none 0 0))))) .done) K114_28
@[simp] def WB_impl_reachable := @C.wpe _ _ B_impl_reachable.eq_1
def R_impl_reachable : FIR := ⟨B_impl_reachable, 14, [(2, none)]⟩
theorem IR_impl_reachable : cfun Try.prog H_impl_reachable Try.f114 = some R_impl_reachable := by kernel_rfl
theorem EN_impl_reachable {args : List Value} {h : Heap} {k : Value → Heap → Prop} (hargs : args.length = 2) (hw : B_impl_reachable.wp Try.prog (retQ [(2, none)] k) (env0 args 14) h) : CallE Try.prog fn_impl_reachable args h k := enter Try.func114 rfl IR_impl_reachable hargs hw

def H_slices_ContainsFunc_S_int_int : Hint := ⟨[(0, false), (1, false), (4, false)], []⟩
def K86_1 : Pl := .st (.act none (.px (some 6) (.bin .geq (.v 5) (.c (.int .i64 0))))) <|
    .st (.act none (.px (some 2) (.mv (.v 6)))) .done
@[simp] def W86_1 := @Pl.wpe _ _ K86_1.eq_1
def K86_2 : C := .seq (.pl <| .st (.ext 3 4) <|
    .st (.act none (.px (some 3) (.mv (.v 0)))) <|
    .st (.act none (.px (some 4) (.mv (.v 1)))) <|
    .st (.act none (.ex (some 5) (.call fn_slices_IndexFunc_S_int_int [.v 3, .v 4]))) K86_1) (.ret)
@[simp] def W86_2 := @C.wpe _ _ K86_2.eq_1
def B_slices_ContainsFunc_S_int_int : C := .seq (.pl <| .st (.ext 3 0) <|
    .st (.act none (.px (some 2) (.mv (.c (.bool false))))) .done) K86_2
@[simp] def WB_slices_ContainsFunc_S_int_int := @C.wpe _ _ B_slices_ContainsFunc_S_int_int.eq_1
def R_slices_ContainsFunc_S_int_int : FIR := ⟨B_slices_ContainsFunc_S_int_int, 3, [(2, none)]⟩
theorem IR_slices_ContainsFunc_S_int_int : cfun Try.prog H_slices_ContainsFunc_S_int_int Try.f86 = some R_slices_ContainsFunc_S_int_int := by kernel_rfl
theorem EN_slices_ContainsFunc_S_int_int {args : List Value} {h : Heap} {k : Value → Heap → Prop} (hargs : args.length = 2) (hw : B_slices_ContainsFunc_S_int_int.wp Try.prog (retQ [(2, none)] k) (env0 args 3) h) : CallE Try.prog fn_slices_ContainsFunc_S_int_int args h k := enter Try.func86 rfl IR_slices_ContainsFunc_S_int_int hargs hw

def H_slices_Contains_S_int_int : Hint := ⟨[(0, false), (1, false), (4, false)], []⟩
def K154_1 : Pl := .st (.act none (.px (some 6) (.bin .geq (.v 5) (.c (.int .i64 0))))) <|
    .st (.act none (.px (some 2) (.mv (.v 6)))) .done
@[simp] def W154_1 := @Pl.wpe _ _ K154_1.eq_1
def K154_2 : C := .seq (.pl <| .st (.ext 3 4) <|
    .st (.act none (.px (some 3) (.mv (.v 0)))) <|
    .st (.act none (.px (some 4) (.mv (.v 1)))) <|
    .st (.act none (.ex (some 5) (.call fn_slices_Index_S_int_int [.v 3, .v 4]))) K154_1) (.ret)
@[simp] def W154_2 := @C.wpe _ _ K154_2.eq_1
def B_slices_Contains_S_int_int : C := .seq (.pl <| .st (.ext 3 0) <|
    .st (.act none (.px (some 2) (.mv (.c (.bool false))))) .done) K154_2
@[simp] def WB_slices_Contains_S_int_int := @C.wpe _ _ B_slices_Contains_S_int_int.eq_1
def R_slices_Contains_S_int_int : FIR := ⟨B_slices_Contains_S_int_int, 3, [(2, none)]⟩
theorem IR_slices_Contains_S_int_int : cfun Try.prog H_slices_Contains_S_int_int Try.f154 = some R_slices_Contains_S_int_int := by kernel_rfl
theorem EN_slices_Contains_S_int_int {args : List Value} {h : Heap} {k : Value → Heap → Prop} (hargs : args.length = 2) (hw : B_slices_Contains_S_int_int.wp Try.prog (retQ [(2, none)] k) (env0 args 3) h) : CallE Try.prog fn_slices_Contains_S_int_int args h k := enter Try.func154 rfl IR_slices_Contains_S_int_int hargs hw

def H_slices_IndexFunc_S_int_int : Hint := ⟨[(0, false), (1, false), (4, false), (5, false), (7, false), (8, false)], [[2, 3]]⟩
def K134_1 : C := .seq (.pl <| .st (.ext 6 0) <|
    .st (.act none (.px (some 2) (.mv (.c (.int .i64 (-1)))))) .done) (.ret)
@[simp] def W134_1 := @C.wpe _ _ K134_1.eq_1
def K134_2 : C := .pl <| .st (.ext 6 1) <|
    .st (.act none (.px (some 6) (.bin .add (.v 5) (.c (.int .i64 1))))) <|
    .st (.act none (.px (some 5) (.mv (.v 6)))) .done
@[simp] def W134_2 := @C.wpe _ _ K134_2.eq_1
def K134_3 : C := .seq (.pl <| .st (.ext 6 1) <|
    .st (.act none (.px (some 6) (.mv (.v 3)))) <|
    .st (.act none (.px (some 2) (.mv (.v 6)))) .done) (.ret)
@[simp] def W134_3 := @C.wpe _ _ K134_3.eq_1
def K134_4 : C := .cond 6 (.v 11) K134_3 (.skip)
@[simp] def W134_4 := @C.wpe _ _ K134_4.eq_1
def K134_5 : C := .seq (.pl <| .st (.ext 6 6) <|
    .st (.act none (.px (some 6) (.mv (.v 1)))) <|
    .st (.act none (.px (some 7) (.mv (.v 0)))) <|
    .st (.act none (.px (some 8) (.mv (.v 3)))) <|
    .st (.act none (.px (some 9) (.ia 1 (.v 7) (.v 8)))) <|
    .st (.act none (.ld (some 10) (.v 9) none)) <|
    .st (.act none (.ex (some 11) (.callv (.v 6) [.v 10]))) .done) K134_4
@[simp] def W134_5 := @C.wpe _ _ K134_5.eq_1
def K134_6 : C := .seq (.block 1 (.seq (.pl <| .st (.ext 6 1) <|
    .st (.act none (.px (some 6) (.mv (.v 5)))) <|
    .st (.act none (.px (some 3) (.mv (.v 6)))) .done) K134_5)) K134_2
@[simp] def W134_6 := @C.wpe _ _ K134_6.eq_1
def K134_7 : C := .seq (.cond 6 (.v 6) (.skip) (.exit 0)) K134_6
@[simp] def W134_7 := @C.wpe _ _ K134_7.eq_1
def K134_8 : C := .seq (.pl <| .st (.ext 6 1) <|
    .st (.act none (.px (some 6) (.bin .lss (.v 5) (.v 4)))) .done) K134_7
@[simp] def W134_8 := @C.wpe _ _ K134_8.eq_1
def K134_9 : C := .block 0 (.loop 6 [2, 3] K134_8)
@[simp] def W134_9 := @C.wpe _ _ K134_9.eq_1
def K134_10 : C := .seq (.seq (.pl <| .st (.ext 6 1) <|
    .st (.act none (.px (some 6) (.mv (.v 0)))) <|
    .st (.act none (.px (some 4) (.lenV (.v 6)))) <|
    .st (.act none (.px (some 5) (.mv (.c (.int .i64 0))))) .done) K134_9) K134_1
@[simp] def W134_10 := @C.wpe _ _ K134_10.eq_1
def B_slices_IndexFunc_S_int_int : C := .seq (.pl <| .st (.ext 6 0) <|
    .st (.act none (.px (some 2) (.mv (.c (.int .i64 0))))) .done) K134_10
@[simp] def WB_slices_IndexFunc_S_int_int := @C.wpe _ _ B_slices_IndexFunc_S_int_int.eq_1
def R_slices_IndexFunc_S_int_int : FIR := ⟨B_slices_IndexFunc_S_int_int, 6, [(2, none)]⟩
theorem IR_slices_IndexFunc_S_int_int : cfun Try.prog H_slices_IndexFunc_S_int_int Try.f134 = some R_slices_IndexFunc_S_int_int := by kernel_rfl
theorem EN_slices_IndexFunc_S_int_int {args : List Value} {h : Heap} {k : Value → Heap → Prop} (hargs : args.length = 2) (hw : B_slices_IndexFunc_S_int_int.wp Try.prog (retQ [(2, none)] k) (env0 args 6) h) : CallE Try.prog fn_slices_IndexFunc_S_int_int args h k := enter Try.func134 rfl IR_slices_IndexFunc_S_int_int hargs hw

def H_slices_Index_S_int_int : Hint := ⟨[(0, false), (1, false), (4, false), (5, false), (7, false), (8, false)], [[2, 3]]⟩
def K177_1 : C := .seq (.pl <| .st (.ext 6 0) <|
    .st (.act none (.px (some 2) (.mv (.c (.int .i64 (-1)))))) .done) (.ret)
@[simp] def W177_1 := @C.wpe _ _ K177_1.eq_1
def K177_2 : C := .pl <| .st (.ext 6 1) <|
    .st (.act none (.px (some 6) (.bin .add (.v 5) (.c (.int .i64 1))))) <|
    .st (.act none (.px (some 5) (.mv (.v 6)))) .done
@[simp] def W177_2 := @C.wpe _ _ K177_2.eq_1
def K177_3 : C := .seq (.pl <| .st (.ext 6 1) <|
    .st (.act none (.px (some 6) (.mv (.v 3)))) <|
    .st (.act none (.px (some 2) (.mv (.v 6)))) .done) (.ret)
@[simp] def W177_3 := @C.wpe _ _ K177_3.eq_1
def K177_4 : C := .cond 6 (.v 11) K177_3 (.skip)
@[simp] def W177_4 := @C.wpe _ _ K177_4.eq_1
def K177_5 : C := .seq (.pl <| .st (.ext 6 6) <|
    .st (.act none (.px (some 6) (.mv (.v 1)))) <|
    .st (.act none (.px (some 7) (.mv (.v 0)))) <|
    .st (.act none (.px (some 8) (.mv (.v 3)))) <|
    .st (.act none (.px (some 9) (.ia 1 (.v 7) (.v 8)))) <|
    .st (.act none (.ld (some 10) (.v 9) none)) <|
    .st (.act none (.px (some 11) (.bin .eql (.v 6) (.v 10)))) .done) K177_4
@[simp] def W177_5 := @C.wpe _ _ K177_5.eq_1
def K177_6 : C := .seq (.block 1 (.seq (.pl <| .st (.ext 6 1) <|
    .st (.act none (.px (some 6) (.mv (.v 5)))) <|
    .st (.act none (.px (some 3) (.mv (.v 6)))) .done) K177_5)) K177_2
@[simp] def W177_6 := @C.wpe _ _ K177_6.eq_1
def K177_7 : C := .seq (.cond 6 (.v 6) (.skip) (.exit 0)) K177_6
@[simp] def W177_7 := @C.wpe _ _ K177_7.eq_1
def K177_8 : C := .seq (.pl <| .st (.ext 6 1) <|
    .st (.act none (.px (some 6) (.bin .lss (.v 5) (.v 4)))) .done) K177_7
@[simp] def W177_8 := @C.wpe _ _ K177_8.eq_1
def K177_9 : C := .block 0 (.loop 6 [2, 3] K177_8)
@[simp] def W177_9 := @C.wpe _ _ K177_9.eq_1
def K177_10 : C := .seq (.seq (.pl <| .st (.ext 6 1) <|
    .st (.act none (.px (some 6) (.mv (.v 0)))) <|
    .st (.act none (.px (some 4) (.lenV (.v 6)))) <|
    .st (.act none (.px (some 5) (.mv (.c (.int .i64 0))))) .done) K177_9) K177_1
@[simp] def W177_10 := @C.wpe _ _ K177_10.eq_1
def B_slices_Index_S_int_int : C := .seq (.pl <| .st (.ext 6 0) <|
    .st (.act none (.px (some 2) (.mv (.c (.int .i64 0))))) .done) K177_10
@[simp] def WB_slices_Index_S_int_int := @C.wpe _ _ B_slices_Index_S_int_int.eq_1
def R_slices_Index_S_int_int : FIR := ⟨B_slices_Index_S_int_int, 6, [(2, none)]⟩
theorem IR_slices_Index_S_int_int : cfun Try.prog H_slices_Index_S_int_int Try.f177 = some R_slices_Index_S_int_int := by kernel_rfl
theorem EN_slices_Index_S_int_int {args : List Value} {h : Heap} {k : Value → Heap → Prop} (hargs : args.length = 2) (hw : B_slices_Index_S_int_int.wp Try.prog (retQ [(2, none)] k) (env0 args 6) h) : CallE Try.prog fn_slices_Index_S_int_int args h k := enter Try.func177 rfl IR_slices_Index_S_int_int hargs hw


end Go.Proofs.Ytglnelcmcimljaa

/-
  Bodies of functions in the small language, as a program printed them, and that each is what the translation gives.
-/
namespace Go.Proofs.Ytglnelcmcimljaa
open Go
set_option linter.all false
set_option linter.defProp false
set_option maxRecDepth 1000000

def H_impl_Automaton_live : Hint := ⟨[(0, false), (1, true), (2, false), (3, false), (4, false), (5, false), (6, false), (7, false), (8, false), (17, false), (18, false), (24, false), (25, false), (26, false)], [[0, 2, 6, 7, 8, 11, 12, 13], [0, 2, 7, 8]]⟩
def K58_1 : C := .seq (.pl <| .st (.ext 14 1) <|
    .st (.act none (.px (some 14) (.mv (.v 5)))) <|
    .st (.act none (.px (some 2) (.mv (.v 14)))) .done) (.ret)
@[simp] def W58_1 := @C.wpe _ _ K58_1.eq_1
def K58_2 : C := .pl <| .st (.ext 14 1) <|
    .st (.act none (.px (some 14) (.bin .add (.v 10) (.c (.int .i64 1))))) <|
    .st (.act none (.px (some 10) (.mv (.v 14)))) .done
@[simp] def W58_2 := @C.wpe _ _ K58_2.eq_1
def K58_3 : C := .pl <| .st (.ext 14 1) <|
    .st (.act none (.px (some 14) (.bin .add (.v 13) (.c (.int .i64 1))))) <|
    .st (.act none (.px (some 13) (.mv (.v 14)))) .done
@[simp] def W58_3 := @C.wpe _ _ K58_3.eq_1
def K58_4 : C := .pl <| .st (.ext 14 23) <|
    .st (.act none (.px (some 14) (.mv (.v 5)))) <|
    .st (.act none (.px (some 15) (.mv (.v 6)))) <|
    .st (.act none (.px (some 16) (.mv (.v 5)))) <|
    .st (.act none (.px (some 17) (.mv (.v 6)))) <|
    .st (.act none (.px (some 18) (.ia 1 (.v 16) (.v 17)))) <|
    .st (.act none (.ld (some 19) (.v 18) none)) <|
    .st (.act none (.px (some 20) (.mv (.v 19)))) <|
    .st (.act (some (.v 20, false)) (.px (some 21) (.mv (.v 8)))) <|
    .st (.act (some (.v 20, false)) (.px (some 22) (.mv (.v 21)))) <|
    .st (.act (some (.v 22, true)) (.px (some 23) (.mv (.v 4)))) <|
    .st (.act (some (.v 22, true)) (.px (some 24) (.mv (.v 7)))) <|
    .st (.act (some (.v 22, true)) (.px (some 25) (.ia 1 (.v 23) (.v 24)))) <|
    .st (.act (some (.v 22, true)) (.ld (some 26) (.v 25) none)) <|
    .st (.act (some (.v 20, false)) (.px (some 27) (.pick (.v 22) (.v 26) (.c (.bool false))))) <|
    .st (.act (some (.v 20, false)) (.px (some 28) (.mv (.v 27)))) <|
    .st (.act (some (.v 28, true)) (.als 29 none 1)) <|
    .st (.act (some (.v 28, true)) (.pget (some 30) (some 29) 1 1 none)) <|
    .st (.act (some (.v 28, true)) (.px (some 31) (.mv (.v 7)))) <|
    .st (.act (some (.v 28, true)) (.px (some 32) (.ia 1 (.v 30) (.v 31)))) <|
    .st (.act (some (.v 28, true)) (.ld (some 33) (.v 32) none)) <|
    .st (.act (some (.v 20, false)) (.px (some 34) (.pick (.v 28) (.v 33) (.c (.bool false))))) <|
    .st (.act none (.px (some 35) (.pick (.v 20) (.c (.bool true)) (.v 34)))) <|
    .st (.act none (.px (some 36) (.ia 1 (.v 14) (.v 15)))) <|
    .st (.act none (.ex none (.store 1 (.v 36) (.v 35)))) .done
@[simp] def W58_4 := @C.wpe _ _ K58_4.eq_1
def K58_5 : C := .seq (.block 3 (.seq (.pl <| .st (.ext 14 3) <|
    .st (.act none (.px (some 14) (.mv (.v 13)))) <|
    .st (.act none (.px (some 15) (.ia 1 (.v 11) (.v 13)))) <|
    .st (.act none (.ld (some 16) (.v 15) none)) <|
    .st (.act none (.px (some 7) (.mv (.v 14)))) <|
    .st (.act none (.px (some 8) (.mv (.v 16)))) .done) K58_4)) K58_3
@[simp] def W58_5 := @C.wpe _ _ K58_5.eq_1
def K58_6 : C := .seq (.cond 14 (.v 14) (.skip) (.exit 2)) K58_5
@[simp] def W58_6 := @C.wpe _ _ K58_6.eq_1
def K58_7 : C := .seq (.pl <| .st (.ext 14 1) <|
    .st (.act none (.px (some 14) (.bin .lss (.v 13) (.v 12)))) .done) K58_6
@[simp] def W58_7 := @C.wpe _ _ K58_7.eq_1
def K58_8 : C := .block 2 (.loop 14 [0, 2, 7, 8] K58_7)
@[simp] def W58_8 := @C.wpe _ _ K58_8.eq_1
def K58_9 : Pl := .st (.act none (.px (some 12) (.lenV (.v 11)))) <|
    .st (.act none (.px (some 13) (.mv (.c (.int .i64 0))))) .done
@[simp] def W58_9 := @Pl.wpe _ _ K58_9.eq_1
def K58_10 : Pl := .st (.act none (.ex (some 11) (.call fn_impl_reachable [.v 14, .v 16]))) K58_9
@[simp] def W58_10 := @Pl.wpe _ _ K58_10.eq_1
def K58_11 : C := .seq (.pl <| .st (.ext 14 3) <|
    .st (.act none (.px (some 14) (.mv (.v 3)))) <|
    .st (.act none (.px (some 15) (.mv (.v 6)))) <|
    .st (.act none (.ex (some 16) (.bls 1 1 [.int .i64 0] [(0, 1, .v 15)]))) K58_10) K58_8
@[simp] def W58_11 := @C.wpe _ _ K58_11.eq_1
def K58_12 : C := .seq (.block 1 (.seq (.pl <| .st (.ext 14 1) <|
    .st (.act none (.px (some 14) (.mv (.v 10)))) <|
    .st (.act none (.px (some 6) (.mv (.v 14)))) .done) K58_11)) K58_2
@[simp] def W58_12 := @C.wpe _ _ K58_12.eq_1
def K58_13 : C := .seq (.cond 14 (.v 14) (.skip) (.exit 0)) K58_12
@[simp] def W58_13 := @C.wpe _ _ K58_13.eq_1
def K58_14 : C := .seq (.pl <| .st (.ext 14 1) <|
    .st (.act none (.px (some 14) (.bin .lss (.v 10) (.v 9)))) .done) K58_13
@[simp] def W58_14 := @C.wpe _ _ K58_14.eq_1
def K58_15 : C := .block 0 (.loop 14 [0, 2, 6, 7, 8, 11, 12, 13] K58_14)
@[simp] def W58_15 := @C.wpe _ _ K58_15.eq_1
def K58_16 : C := .seq (.seq (.pl <| .st (.ext 14 1) <|
    .st (.act none (.px (some 14) (.mv (.v 3)))) <|
    .st (.act none (.px (some 9) (.lenV (.v 14)))) <|
    .st (.act none (.px (some 10) (.mv (.c (.int .i64 0))))) .done) K58_15) K58_1
@[simp] def W58_16 := @C.wpe _ _ K58_16.eq_1
def K58_17 : Pl := .st (.act none (.px (some 5) (.mv (.v 16)))) .done
@[simp] def W58_17 := @Pl.wpe _ _ K58_17.eq_1
def K58_18 : C := .seq (.pl <| .st (.ext 14 3) <|
    .st (.act none (.px (some 14) (.mv (.v 3)))) <|
    .st (.act none (.px (some 15) (.lenV (.v 14)))) <|
    .st (.act none (.ex (some 16) (.mks 1 1 [.bool false] (.v 15) (.v 15)))) K58_17) K58_16
@[simp] def W58_18 := @C.wpe _ _ K58_18.eq_1
def K58_19 : Pl := .st (.act none (.px (some 4) (.mv (.v 15)))) .done
@[simp] def W58_19 := @Pl.wpe _ _ K58_19.eq_1
def K58_20 : C := .seq (.pl <| .st (.ext 14 2) <|
    .st (.act none (.px (some 14) (.mv (.v 3)))) <|
    .st (.act none (.ex (some 15) (.call fn_impl_cyclic [.v 14]))) K58_19) K58_18
@[simp] def W58_20 := @C.wpe _ _ K58_20.eq_1
def K58_21 : Pl := .st (.act none (.px (some 3) (.mv (.v 15)))) .done
@[simp] def W58_21 := @Pl.wpe _ _ K58_21.eq_1
def K58_22 : C := .seq (.pl <| .st (.ext 14 2) <|
    .st (.act none (.pget (some 14) none 1 0 (some 3))) <|
    .st (.act none (.ex (some 15) (.call fn_impl_Automaton_next [.v 14]))) K58_21) K58_20
@[simp] def W58_22 := @C.wpe _ _ K58_22.eq_1
def B_impl_Automaton_live : C := .seq (.pl <| .st (.ext 14 0) <|
    .st (.act none (.pnew 1 (.v 0) [])) <|
    .st (.act none (.px (some 2) (.mv (.c (.slice none 0 0))))) .done) K58_22
@[simp] def WB_impl_Automaton_live := @C.wpe _ _ B_impl_Automaton_live.eq_1
def R_impl_Automaton_live : FIR := ⟨B_impl_Automaton_live, 14, [(2, none)]⟩
theorem IR_impl_Automaton_live : cfun Try.prog H_impl_Automaton_live Try.f58 = some R_impl_Automaton_live := by kernel_rfl
theorem EN_impl_Automaton_live {args : List Value} {h : Heap} {k : Value → Heap → Prop} (hargs : args.length = 1) (hw : B_impl_Automaton_live.wp Try.prog (retQ [(2, none)] k) (env0 args 14) h) : CallE Try.prog fn_impl_Automaton_live args h k := enter Try.func58 rfl IR_impl_Automaton_live hargs hw

def H_impl_Automaton_next : Hint := ⟨[(0, false), (1, true), (2, false), (3, false), (5, true), (11, false), (12, false), (13, false)], [[0, 1, 2, 4]]⟩
def K112_1 : C := .seq (.pl <| .st (.ext 8 1) <|
    .st (.act none (.px (some 8) (.mv (.v 3)))) <|
    .st (.act none (.px (some 2) (.mv (.v 8)))) .done) (.ret)
@[simp] def W112_1 := @C.wpe _ _ K112_1.eq_1
def K112_2 : C := .pl <| .st (.ext 8 1) <|
    .st (.act none (.px (some 8) (.bin .add (.v 7) (.c (.int .i64 1))))) <|
    .st (.act none (.px (some 7) (.mv (.v 8)))) .done
@[simp] def W112_2 := @C.wpe _ _ K112_2.eq_1
def K112_3 : Pl := .st (.act none (.px (some 20) (.ia 1 (.v 8) (.v 10)))) <|
    .st (.act none (.ex none (.store 1 (.v 20) (.v 19)))) .done
@[simp] def W112_3 := @Pl.wpe _ _ K112_3.eq_1
def K112_4 : C := .pl <| .st (.ext 8 13) <|
    .st (.act none (.px (some 8) (.mv (.v 3)))) <|
    .st (.act none (.als 9 none 4)) <|
    .st (.act none (.pget (some 10) (some 9) 4 0 none)) <|
    .st (.act none (.px (some 11) (.mv (.v 3)))) <|
    .st (.act none (.als 12 none 4)) <|
    .st (.act none (.pget (some 13) (some 12) 4 0 none)) <|
    .st (.act none (.px (some 14) (.ia 1 (.v 11) (.v 13)))) <|
    .st (.act none (.ld (some 15) (.v 14) none)) <|
    .st (.act none (.als 16 none 4)) <|
    .st (.act none (.pget (some 17) (some 16) 4 3 none)) <|
    .st (.act none (.psl 18 [.int .i64 0] [(0, 1, .v 17)])) <|
    .st (.act none (.ex (some 19) (.app 8 1 [.int .i64 0] (.o (.v 15)) (.p 1 18)))) K112_3
@[simp] def W112_4 := @C.wpe _ _ K112_4.eq_1
def K112_5 : C := .seq (.block 1 (.seq (.pl <| .st (.ext 8 2) <|
    .st (.act none (.px (some 8) (.ia 4 (.v 5) (.v 7)))) <|
    .st (.act none (.ld (some 9) (.v 8) (some 4))) <|
    .st (.act none (.pnew 4 (.c (.agg #[.int .i64 0, .int .i64 0, .int .i64 0, .int .i64 0])) [])) <|
    .st (.act none (.pset none 4 0 4 (.v 9))) .done) K112_4)) K112_2
@[simp] def W112_5 := @C.wpe _ _ K112_5.eq_1
def K112_6 : C := .seq (.cond 8 (.v 8) (.skip) (.exit 0)) K112_5
@[simp] def W112_6 := @C.wpe _ _ K112_6.eq_1
def K112_7 : C := .seq (.pl <| .st (.ext 8 1) <|
    .st (.act none (.px (some 8) (.bin .lss (.v 7) (.v 6)))) .done) K112_6
@[simp] def W112_7 := @C.wpe _ _ K112_7.eq_1
def K112_8 : C := .block 0 (.loop 8 [0, 1, 2, 4] K112_7)
@[simp] def W112_8 := @C.wpe _ _ K112_8.eq_1
def K112_9 : C := .seq (.seq (.pl <| .st (.ext 8 1) <|
    .st (.act none (.als 8 none 1)) <|
    .st (.act none (.pget (some 5) (some 8) 1 2 none)) <|
    .st (.act none (.px (some 6) (.lenV (.v 5)))) <|
    .st (.act none (.px (some 7) (.mv (.c (.int .i64 0))))) .done) K112_8) K112_1
@[simp] def W112_9 := @C.wpe _ _ K112_9.eq_1
def K112_10 : Pl := .st (.act none (.px (some 3) (.mv (.v 11)))) .done
@[simp] def W112_10 := @Pl.wpe _ _ K112_10.eq_1
def K112_11 : C := .seq (.pl <| .st (.ext 8 4) <|
    .st (.act none (.als 8 none 1)) <|
    .st (.act none (.pget (some 9) (some 8) 1 1 none)) <|
    .st (.act none (.px (some 10) (.lenV (.v 9)))) <|
    .st (.act none (.ex (some 11) (.mks 24 1 [.slice none 0 0] (.v 10) (.v 10)))) K112_10) K112_9
@[simp] def W112_11 := @C.wpe _ _ K112_11.eq_1
def B_impl_Automaton_next : C := .seq (.pl <| .st (.ext 8 0) <|
    .st (.act none (.pnew 1 (.v 0) [])) <|
    .st (.act none (.px (some 2) (.mv (.c (.slice none 0 0))))) .done) K112_11
@[simp] def WB_impl_Automaton_next := @C.wpe _ _ B_impl_Automaton_next.eq_1
def R_impl_Automaton_next : FIR := ⟨B_impl_Automaton_next, 8, [(2, none)]⟩
theorem IR_impl_Automaton_next : cfun Try.prog H_impl_Automaton_next Try.f112 = some R_impl_Automaton_next := by kernel_rfl
theorem EN_impl_Automaton_next {args : List Value} {h : Heap} {k : Value → Heap → Prop} (hargs : args.length = 1) (hw : B_impl_Automaton_next.wp Try.prog (retQ [(2, none)] k) (env0 args 8) h) : CallE Try.prog fn_impl_Automaton_next args h k := enter Try.func112 rfl IR_impl_Automaton_next hargs hw

def H_spec_LiveStates : Hint := ⟨[(0, false), (1, true), (2, false), (3, false), (4, false), (5, false), (6, false), (7, false), (8, false)], [[0, 2, 6, 7, 8], [0, 2]]⟩
def K109_1 : C := .seq (.pl <| .st (.ext 9 1) <|
    .st (.act none (.px (some 9) (.mv (.v 3)))) <|
    .st (.act none (.px (some 2) (.mv (.v 9)))) .done) (.ret)
@[simp] def W109_1 := @C.wpe _ _ K109_1.eq_1
def K109_2 : C := .pl <| .st (.ext 9 2) <|
    .st (.act none (.px (some 9) (.mv (.v 5)))) <|
    .st (.act none (.px (some 10) (.bin .add (.v 9) (.c (.int .i64 1))))) <|
    .st (.act none (.px (some 5) (.mv (.v 10)))) .done
@[simp] def W109_2 := @C.wpe _ _ K109_2.eq_1
def K109_3 : Pl := .st (.act none (.px (some 3) (.mv (.v 12)))) .done
@[simp] def W109_3 := @Pl.wpe _ _ K109_3.eq_1
def K109_4 : C := .pl <| .st (.ext 9 4) <|
    .st (.act none (.px (some 9) (.mv (.v 3)))) <|
    .st (.act none (.px (some 10) (.mv (.v 7)))) <|
    .st (.act none (.psl 11 [.bool false] [(0, 1, .v 10)])) <|
    .st (.act none (.ex (some 12) (.app 1 1 [.bool false] (.o (.v 9)) (.p 1 11)))) K109_3
@[simp] def W109_4 := @C.wpe _ _ K109_4.eq_1
def K109_5 : C := .pl <| .st (.ext 9 2) <|
    .st (.act none (.px (some 9) (.mv (.v 8)))) <|
    .st (.act none (.px (some 10) (.bin .add (.v 9) (.c (.int .i64 1))))) <|
    .st (.act none (.px (some 8) (.mv (.v 10)))) .done
@[simp] def W109_5 := @C.wpe _ _ K109_5.eq_1
def K109_6 : Pl := .st (.act none (.px (some 24) (.pick (.v 17) (.v 23) (.c (.bool false))))) <|
    .st (.act none (.px (some 7) (.mv (.v 24)))) .done
@[simp] def W109_6 := @Pl.wpe _ _ K109_6.eq_1
def K109_7 : C := .seq (.block 3 (.pl <| .st (.ext 9 16) <|
    .st (.act none (.als 9 none 1)) <|
    .st (.act none (.pget (some 10) (some 9) 1 1 none)) <|
    .st (.act none (.px (some 11) (.mv (.v 6)))) <|
    .st (.act none (.px (some 12) (.mv (.v 8)))) <|
    .st (.act none (.px (some 13) (.ia 1 (.v 11) (.v 12)))) <|
    .st (.act none (.ld (some 14) (.v 13) none)) <|
    .st (.act none (.px (some 15) (.ia 1 (.v 10) (.v 14)))) <|
    .st (.act none (.ld (some 16) (.v 15) none)) <|
    .st (.act none (.px (some 17) (.mv (.v 16)))) <|
    .st (.act (some (.v 17, true)) (.px (some 18) (.mv (.v 4)))) <|
    .st (.act (some (.v 17, true)) (.px (some 19) (.mv (.v 6)))) <|
    .st (.act (some (.v 17, true)) (.px (some 20) (.mv (.v 8)))) <|
    .st (.act (some (.v 17, true)) (.px (some 21) (.ia 1 (.v 19) (.v 20)))) <|
    .st (.act (some (.v 17, true)) (.ld (some 22) (.v 21) none)) <|
    .st (.act (some (.v 17, true)) (.ex (some 23) (.call fn_spec_l7Loop [.v 18, .v 22]))) K109_6)) K109_5
@[simp] def W109_7 := @C.wpe _ _ K109_7.eq_1
def K109_8 : C := .cond 9 (.v 16) (.skip) (.exit 2)
@[simp] def W109_8 := @C.wpe _ _ K109_8.eq_1
def K109_9 : C := .seq (.seq (.pl <| .st (.ext 9 8) <|
    .st (.act none (.px (some 9) (.mv (.v 8)))) <|
    .st (.act none (.px (some 10) (.mv (.v 6)))) <|
    .st (.act none (.px (some 11) (.lenV (.v 10)))) <|
    .st (.act none (.px (some 12) (.bin .lss (.v 9) (.v 11)))) <|
    .st (.act none (.px (some 13) (.mv (.v 12)))) <|
    .st (.act (some (.v 13, true)) (.px (some 14) (.mv (.v 7)))) <|
    .st (.act (some (.v 13, true)) (.px (some 15) (.un .not (.v 14)))) <|
    .st (.act none (.px (some 16) (.pick (.v 13) (.v 15) (.c (.bool false))))) .done) K109_8) K109_7
@[simp] def W109_9 := @C.wpe _ _ K109_9.eq_1
def K109_10 : C := .block 2 (.loop 9 [0, 2] K109_9)
@[simp] def W109_10 := @C.wpe _ _ K109_10.eq_1
def K109_11 : C := .seq (.seq (.pl <| .st (.ext 9 0) <|
    .st (.act none (.px (some 8) (.mv (.c (.int .i64 0))))) .done) K109_10) K109_4
@[simp] def W109_11 := @C.wpe _ _ K109_11.eq_1
def K109_12 : C := .seq (.pl <| .st (.ext 9 0) <|
    .st (.act none (.px (some 7) (.mv (.c (.bool false))))) .done) K109_11
@[simp] def W109_12 := @C.wpe _ _ K109_12.eq_1
def K109_13 : Pl := .st (.act none (.px (some 6) (.mv (.v 12)))) .done
@[simp] def W109_13 := @Pl.wpe _ _ K109_13.eq_1
def K109_14 : Pl := .st (.act none (.ex (some 12) (.call fn_spec_l7Reach [.v 9, .v 11]))) K109_13
@[simp] def W109_14 := @Pl.wpe _ _ K109_14.eq_1
def K109_15 : C := .seq (.block 1 (.seq (.pl <| .st (.ext 9 4) <|
    .st (.act none (.px (some 9) (.mv (.v 4)))) <|
    .st (.act none (.px (some 10) (.mv (.v 5)))) <|
    .st (.act none (.ex (some 11) (.bls 1 1 [.int .i64 0] [(0, 1, .v 10)]))) K109_14) K109_12)) K109_2
@[simp] def W109_15 := @C.wpe _ _ K109_15.eq_1
def K109_16 : C := .cond 9 (.v 13) (.skip) (.exit 0)
@[simp] def W109_16 := @C.wpe _ _ K109_16.eq_1
def K109_17 : C := .seq (.seq (.pl <| .st (.ext 9 5) <|
    .st (.act none (.px (some 9) (.mv (.v 5)))) <|
    .st (.act none (.als 10 none 1)) <|
    .st (.act none (.pget (some 11) (some 10) 1 1 none)) <|
    .st (.act none (.px (some 12) (.lenV (.v 11)))) <|
    .st (.act none (.px (some 13) (.bin .lss (.v 9) (.v 12)))) .done) K109_16) K109_15
@[simp] def W109_17 := @C.wpe _ _ K109_17.eq_1
def K109_18 : C := .block 0 (.loop 9 [0, 2, 6, 7, 8] K109_17)
@[simp] def W109_18 := @C.wpe _ _ K109_18.eq_1
def K109_19 : C := .seq (.seq (.pl <| .st (.ext 9 0) <|
    .st (.act none (.px (some 5) (.mv (.c (.int .i64 0))))) .done) K109_18) K109_1
@[simp] def W109_19 := @C.wpe _ _ K109_19.eq_1
def K109_20 : Pl := .st (.act none (.px (some 4) (.mv (.v 10)))) .done
@[simp] def W109_20 := @Pl.wpe _ _ K109_20.eq_1
def K109_21 : C := .seq (.pl <| .st (.ext 9 2) <|
    .st (.act none (.pget (some 9) none 1 0 (some 3))) <|
    .st (.act none (.ex (some 10) (.call fn_spec_l7Next [.v 9]))) K109_20) K109_19
@[simp] def W109_21 := @C.wpe _ _ K109_21.eq_1
def K109_22 : C := .seq (.pl <| .st (.ext 9 1) <|
    .st (.act none (.px (some 9) (.mv (.v 3)))) <|
    .st (.act none (.px (some 2) (.mv (.v 9)))) .done) (.ret)
@[simp] def W109_22 := @C.wpe _ _ K109_22.eq_1
def K109_23 : C := .cond 9 (.v 11) K109_22 (.skip)
@[simp] def W109_23 := @C.wpe _ _ K109_23.eq_1
def K109_24 : Pl := .st (.act none (.px (some 11) (.un .not (.v 10)))) .done
@[simp] def W109_24 := @Pl.wpe _ _ K109_24.eq_1
def K109_25 : C := .seq (.seq (.pl <| .st (.ext 9 3) <|
    .st (.act none (.pget (some 9) none 1 0 (some 3))) <|
    .st (.act none (.ex (some 10) (.call fn_spec_AutomatonValid [.v 9]))) K109_24) K109_23) K109_21
@[simp] def W109_25 := @C.wpe _ _ K109_25.eq_1
def K109_26 : Pl := .st (.act none (.px (some 3) (.mv (.v 9)))) .done
@[simp] def W109_26 := @Pl.wpe _ _ K109_26.eq_1
def K109_27 : C := .seq (.pl <| .st (.ext 9 1) <|
    .st (.act none (.ex (some 9) (.bls 1 0 [.bool false] []))) K109_26) K109_25
@[simp] def W109_27 := @C.wpe _ _ K109_27.eq_1
def B_spec_LiveStates : C := .seq (.pl <| .st (.ext 9 0) <|
    .st (.act none (.pnew 1 (.v 0) [])) <|
    .st (.act none (.px (some 2) (.mv (.c (.slice none 0 0))))) .done) K109_27
@[simp] def WB_spec_LiveStates := @C.wpe _ _ B_spec_LiveStates.eq_1
def R_spec_LiveStates : FIR := ⟨B_spec_LiveStates, 9, [(2, none)]⟩
theorem IR_spec_LiveStates : cfun Try.prog H_spec_LiveStates Try.f109 = some R_spec_LiveStates := by kernel_rfl
theorem EN_spec_LiveStates {args : List Value} {h : Heap} {k : Value → Heap → Prop} (hargs : args.length = 1) (hw : B_spec_LiveStates.wp Try.prog (retQ [(2, none)] k) (env0 args 9) h) : CallE Try.prog fn_spec_LiveStates args h k := enter Try.func109 rfl IR_spec_LiveStates hargs hw

def H_spec_l4In : Hint := ⟨[(0, false), (1, false), (4, false), (5, false)], [[2]]⟩
def K152_1 : C := .seq (.pl <| .st (.ext 4 0) <|
    .st (.act none (.px (some 2) (.mv (.c (.bool false))))) .done) (.ret)
@[simp] def W152_1 := @C.wpe _ _ K152_1.eq_1
def K152_2 : C := .pl <| .st (.ext 4 2) <|
    .st (.act none (.px (some 4) (.mv (.v 3)))) <|
    .st (.act none (.px (some 5) (.bin .add (.v 4) (.c (.int .i64 1))))) <|
    .st (.act none (.px (some 3) (.mv (.v 5)))) .done
@[simp] def W152_2 := @C.wpe _ _ K152_2.eq_1
def K152_3 : C := .seq (.pl <| .st (.ext 4 0) <|
    .st (.act none (.px (some 2) (.mv (.c (.bool true))))) .done) (.ret)
@[simp] def W152_3 := @C.wpe _ _ K152_3.eq_1
def K152_4 : C := .cond 4 (.v 9) K152_3 (.skip)
@[simp] def W152_4 := @C.wpe _ _ K152_4.eq_1
def K152_5 : C := .seq (.block 1 (.seq (.pl <| .st (.ext 4 6) <|
    .st (.act none (.px (some 4) (.mv (.v 0)))) <|
    .st (.act none (.px (some 5) (.mv (.v 3)))) <|
    .st (.act none (.px (some 6) (.ia 1 (.v 4) (.v 5)))) <|
    .st (.act none (.ld (some 7) (.v 6) none)) <|
    .st (.act none (.px (some 8) (.mv (.v 1)))) <|
    .st (.act none (.px (some 9) (.bin .eql (.v 7) (.v 8)))) .done) K152_4)) K152_2
@[simp] def W152_5 := @C.wpe _ _ K152_5.eq_1
def K152_6 : C := .cond 4 (.v 7) (.skip) (.exit 0)
@[simp] def W152_6 := @C.wpe _ _ K152_6.eq_1
def K152_7 : C := .seq (.seq (.pl <| .st (.ext 4 4) <|
    .st (.act none (.px (some 4) (.mv (.v 3)))) <|
    .st (.act none (.px (some 5) (.mv (.v 0)))) <|
    .st (.act none (.px (some 6) (.lenV (.v 5)))) <|
    .st (.act none (.px (some 7) (.bin .lss (.v 4) (.v 6)))) .done) K152_6) K152_5
@[simp] def W152_7 := @C.wpe _ _ K152_7.eq_1
def K152_8 : C := .block 0 (.loop 4 [2] K152_7)
@[simp] def W152_8 := @C.wpe _ _ K152_8.eq_1
def K152_9 : C := .seq (.seq (.pl <| .st (.ext 4 0) <|
    .st (.act none (.px (some 3) (.mv (.c (.int .i64 0))))) .done) K152_8) K152_1
@[simp] def W152_9 := @C.wpe _ _ K152_9.eq_1
def B_spec_l4In : C := .seq (.pl <| .st (.ext 4 0) <|
    .st (.act none (.px (some 2) (.mv (.c (.bool false))))) .done) K152_9
@[simp] def WB_spec_l4In := @C.wpe _ _ B_spec_l4In.eq_1
def R_spec_l4In : FIR := ⟨B_spec_l4In, 4, [(2, none)]⟩
theorem IR_spec_l4In : cfun Try.prog H_spec_l4In Try.f152 = some R_spec_l4In := by kernel_rfl
theorem EN_spec_l4In {args : List Value} {h : Heap} {k : Value → Heap → Prop} (hargs : args.length = 2) (hw : B_spec_l4In.wp Try.prog (retQ [(2, none)] k) (env0 args 4) h) : CallE Try.prog fn_spec_l4In args h k := enter Try.func152 rfl IR_spec_l4In hargs hw

def H_spec_l7Loop : Hint := ⟨[(0, false), (1, false), (4, false), (5, false), (6, false), (7, false), (8, false), (9, false)], [[2, 4, 5, 6, 7], [2, 3, 7]]⟩
def K151_1 : C := .seq (.pl <| .st (.ext 8 0) <|
    .st (.act none (.px (some 2) (.mv (.c (.bool false))))) .done) (.ret)
@[simp] def W151_1 := @C.wpe _ _ K151_1.eq_1
def K151_2 : C := .pl <| .st (.ext 8 2) <|
    .st (.act none (.px (some 8) (.mv (.v 6)))) <|
    .st (.act none (.px (some 9) (.bin .add (.v 8) (.c (.int .i64 1))))) <|
    .st (.act none (.px (some 6) (.mv (.v 9)))) .done
@[simp] def W151_2 := @C.wpe _ _ K151_2.eq_1
def K151_3 : Pl := .st (.act none (.px (some 5) (.mv (.v 13)))) .done
@[simp] def W151_3 := @Pl.wpe _ _ K151_3.eq_1
def K151_4 : C := .pl <| .st (.ext 8 6) <|
    .st (.act none (.px (some 8) (.mv (.v 5)))) <|
    .st (.act none (.px (some 9) (.mv (.v 0)))) <|
    .st (.act none (.px (some 10) (.mv (.v 7)))) <|
    .st (.act none (.px (some 11) (.ia 1 (.v 9) (.v 10)))) <|
    .st (.act none (.ld (some 12) (.v 11) none)) <|
    .st (.act none (.ex (some 13) (.app 8 1 [.int .i64 0] (.o (.v 8)) (.o (.v 12))))) K151_3
@[simp] def W151_4 := @C.wpe _ _ K151_4.eq_1
def K151_5 : C := .seq (.pl <| .st (.ext 8 3) <|
    .st (.act none (.px (some 8) (.mv (.v 4)))) <|
    .st (.act none (.px (some 9) (.mv (.v 7)))) <|
    .st (.act none (.px (some 10) (.ia 1 (.v 8) (.v 9)))) <|
    .st (.act none (.ex none (.store 1 (.v 10) (.c (.bool true))))) .done) K151_4
@[simp] def W151_5 := @C.wpe _ _ K151_5.eq_1
def K151_6 : C := .cond 8 (.v 12) K151_5 (.skip)
@[simp] def W151_6 := @C.wpe _ _ K151_6.eq_1
def K151_7 : C := .seq (.pl <| .st (.ext 8 5) <|
    .st (.act none (.px (some 8) (.mv (.v 4)))) <|
    .st (.act none (.px (some 9) (.mv (.v 7)))) <|
    .st (.act none (.px (some 10) (.ia 1 (.v 8) (.v 9)))) <|
    .st (.act none (.ld (some 11) (.v 10) none)) <|
    .st (.act none (.px (some 12) (.un .not (.v 11)))) .done) K151_6
@[simp] def W151_7 := @C.wpe _ _ K151_7.eq_1
def K151_8 : C := .seq (.pl <| .st (.ext 8 0) <|
    .st (.act none (.px (some 2) (.mv (.c (.bool true))))) .done) (.ret)
@[simp] def W151_8 := @C.wpe _ _ K151_8.eq_1
def K151_9 : C := .cond 8 (.v 10) K151_8 (.skip)
@[simp] def W151_9 := @C.wpe _ _ K151_9.eq_1
def K151_10 : C := .seq (.seq (.pl <| .st (.ext 8 3) <|
    .st (.act none (.px (some 8) (.mv (.v 7)))) <|
    .st (.act none (.px (some 9) (.mv (.v 1)))) <|
    .st (.act none (.px (some 10) (.bin .eql (.v 8) (.v 9)))) .done) K151_9) K151_7
@[simp] def W151_10 := @C.wpe _ _ K151_10.eq_1
def K151_11 : C := .seq (.block 3 (.seq (.pl <| .st (.ext 8 4) <|
    .st (.act none (.px (some 8) (.mv (.v 5)))) <|
    .st (.act none (.px (some 9) (.mv (.v 6)))) <|
    .st (.act none (.px (some 10) (.ia 1 (.v 8) (.v 9)))) <|
    .st (.act none (.ld (some 11) (.v 10) none)) <|
    .st (.act none (.px (some 7) (.mv (.v 11)))) .done) K151_10)) K151_2
@[simp] def W151_11 := @C.wpe _ _ K151_11.eq_1
def K151_12 : C := .cond 8 (.v 11) (.skip) (.exit 2)
@[simp] def W151_12 := @C.wpe _ _ K151_12.eq_1
def K151_13 : C := .seq (.seq (.pl <| .st (.ext 8 4) <|
    .st (.act none (.px (some 8) (.mv (.v 6)))) <|
    .st (.act none (.px (some 9) (.mv (.v 5)))) <|
    .st (.act none (.px (some 10) (.lenV (.v 9)))) <|
    .st (.act none (.px (some 11) (.bin .lss (.v 8) (.v 10)))) .done) K151_12) K151_11
@[simp] def W151_13 := @C.wpe _ _ K151_13.eq_1
def K151_14 : C := .block 2 (.loop 8 [2, 3, 7] K151_13)
@[simp] def W151_14 := @C.wpe _ _ K151_14.eq_1
def K151_15 : C := .seq (.seq (.pl <| .st (.ext 8 0) <|
    .st (.act none (.px (some 6) (.mv (.c (.int .i64 0))))) .done) K151_14) K151_1
@[simp] def W151_15 := @C.wpe _ _ K151_15.eq_1
def K151_16 : Pl := .st (.act none (.px (some 5) (.mv (.v 13)))) .done
@[simp] def W151_16 := @Pl.wpe _ _ K151_16.eq_1
def K151_17 : C := .seq (.pl <| .st (.ext 8 6) <|
    .st (.act none (.psl 8 [] [])) <|
    .st (.act none (.px (some 9) (.mv (.v 0)))) <|
    .st (.act none (.px (some 10) (.mv (.v 1)))) <|
    .st (.act none (.px (some 11) (.ia 1 (.v 9) (.v 10)))) <|
    .st (.act none (.ld (some 12) (.v 11) none)) <|
    .st (.act none (.ex (some 13) (.app 8 1 [.int .i64 0] (.p 0 8) (.o (.v 12))))) K151_16) K151_15
@[simp] def W151_17 := @C.wpe _ _ K151_17.eq_1
def K151_18 : Pl := .st (.act none (.px (some 4) (.mv (.v 10)))) .done
@[simp] def W151_18 := @Pl.wpe _ _ K151_18.eq_1
def K151_19 : C := .seq (.pl <| .st (.ext 8 3) <|
    .st (.act none (.px (some 8) (.mv (.v 0)))) <|
    .st (.act none (.px (some 9) (.lenV (.v 8)))) <|
    .st (.act none (.ex (some 10) (.mks 1 1 [.bool false] (.v 9) (.v 9)))) K151_18) K151_17
@[simp] def W151_19 := @C.wpe _ _ K151_19.eq_1
def K151_20 : C := .pl <| .st (.ext 8 2) <|
    .st (.act none (.px (some 8) (.mv (.v 3)))) <|
    .st (.act none (.px (some 9) (.bin .add (.v 8) (.c (.int .i64 1))))) <|
    .st (.act none (.px (some 3) (.mv (.v 9)))) .done
@[simp] def W151_20 := @C.wpe _ _ K151_20.eq_1
def K151_21 : C := .seq (.pl <| .st (.ext 8 0) <|
    .st (.act none (.px (some 2) (.mv (.c (.bool true))))) .done) (.ret)
@[simp] def W151_21 := @C.wpe _ _ K151_21.eq_1
def K151_22 : C := .cond 8 (.v 16) K151_21 (.skip)
@[simp] def W151_22 := @C.wpe _ _ K151_22.eq_1
def K151_23 : C := .seq (.block 1 (.seq (.pl <| .st (.ext 8 9) <|
    .st (.act none (.px (some 8) (.mv (.v 0)))) <|
    .st (.act none (.px (some 9) (.mv (.v 1)))) <|
    .st (.act none (.px (some 10) (.ia 1 (.v 8) (.v 9)))) <|
    .st (.act none (.ld (some 11) (.v 10) none)) <|
    .st (.act none (.px (some 12) (.mv (.v 3)))) <|
    .st (.act none (.px (some 13) (.ia 1 (.v 11) (.v 12)))) <|
    .st (.act none (.ld (some 14) (.v 13) none)) <|
    .st (.act none (.px (some 15) (.mv (.v 1)))) <|
    .st (.act none (.px (some 16) (.bin .eql (.v 14) (.v 15)))) .done) K151_22)) K151_20
@[simp] def W151_23 := @C.wpe _ _ K151_23.eq_1
def K151_24 : C := .cond 8 (.v 14) (.skip) (.exit 0)
@[simp] def W151_24 := @C.wpe _ _ K151_24.eq_1
def K151_25 : C := .seq (.seq (.pl <| .st (.ext 8 7) <|
    .st (.act none (.px (some 8) (.mv (.v 3)))) <|
    .st (.act none (.px (some 9) (.mv (.v 0)))) <|
    .st (.act none (.px (some 10) (.mv (.v 1)))) <|
    .st (.act none (.px (some 11) (.ia 1 (.v 9) (.v 10)))) <|
    .st (.act none (.ld (some 12) (.v 11) none)) <|
    .st (.act none (.px (some 13) (.lenV (.v 12)))) <|
    .st (.act none (.px (some 14) (.bin .lss (.v 8) (.v 13)))) .done) K151_24) K151_23
@[simp] def W151_25 := @C.wpe _ _ K151_25.eq_1
def K151_26 : C := .block 0 (.loop 8 [2, 4, 5, 6, 7] K151_25)
@[simp] def W151_26 := @C.wpe _ _ K151_26.eq_1
def K151_27 : C := .seq (.seq (.pl <| .st (.ext 8 0) <|
    .st (.act none (.px (some 3) (.mv (.c (.int .i64 0))))) .done) K151_26) K151_19
@[simp] def W151_27 := @C.wpe _ _ K151_27.eq_1
def B_spec_l7Loop : C := .seq (.pl <| .st (.ext 8 0) <|
    .st (.act none (.px (some 2) (.mv (.c (.bool false))))) .done) K151_27
@[simp] def WB_spec_l7Loop := @C.wpe _ _ B_spec_l7Loop.eq_1
def R_spec_l7Loop : FIR := ⟨B_spec_l7Loop, 8, [(2, none)]⟩
theorem IR_spec_l7Loop : cfun Try.prog H_spec_l7Loop Try.f151 = some R_spec_l7Loop := by kernel_rfl
theorem EN_spec_l7Loop {args : List Value} {h : Heap} {k : Value → Heap → Prop} (hargs : args.length = 2) (hw : B_spec_l7Loop.wp Try.prog (retQ [(2, none)] k) (env0 args 8) h) : CallE Try.prog fn_spec_l7Loop args h k := enter Try.func151 rfl IR_spec_l7Loop hargs hw

def H_spec_l7Next : Hint := ⟨[(0, false), (1, true), (2, false), (3, false), (4, false), (5, true)], [[0, 2, 5]]⟩
def K136_1 : C := .seq (.pl <| .st (.ext 6 1) <|
    .st (.act none (.px (some 6) (.mv (.v 3)))) <|
    .st (.act none (.px (some 2) (.mv (.v 6)))) .done) (.ret)
@[simp] def W136_1 := @C.wpe _ _ K136_1.eq_1
def K136_2 : C := .pl <| .st (.ext 6 2) <|
    .st (.act none (.px (some 6) (.mv (.v 4)))) <|
    .st (.act none (.px (some 7) (.bin .add (.v 6) (.c (.int .i64 1))))) <|
    .st (.act none (.px (some 4) (.mv (.v 7)))) .done
@[simp] def W136_2 := @C.wpe _ _ K136_2.eq_1
def K136_3 : Pl := .st (.act none (.px (some 18) (.ia 1 (.v 6) (.v 8)))) <|
    .st (.act none (.ex none (.store 1 (.v 18) (.v 17)))) .done
@[simp] def W136_3 := @Pl.wpe _ _ K136_3.eq_1
def K136_4 : C := .pl <| .st (.ext 6 13) <|
    .st (.act none (.px (some 6) (.mv (.v 3)))) <|
    .st (.act none (.als 7 none 5)) <|
    .st (.act none (.pget (some 8) (some 7) 5 0 none)) <|
    .st (.act none (.px (some 9) (.mv (.v 3)))) <|
    .st (.act none (.als 10 none 5)) <|
    .st (.act none (.pget (some 11) (some 10) 5 0 none)) <|
    .st (.act none (.px (some 12) (.ia 1 (.v 9) (.v 11)))) <|
    .st (.act none (.ld (some 13) (.v 12) none)) <|
    .st (.act none (.als 14 none 5)) <|
    .st (.act none (.pget (some 15) (some 14) 5 3 none)) <|
    .st (.act none (.psl 16 [.int .i64 0] [(0, 1, .v 15)])) <|
    .st (.act none (.ex (some 17) (.app 8 1 [.int .i64 0] (.o (.v 13)) (.p 1 16)))) K136_3
@[simp] def W136_4 := @C.wpe _ _ K136_4.eq_1
def K136_5 : C := .cond 6 (.v 14) K136_4 (.skip)
@[simp] def W136_5 := @C.wpe _ _ K136_5.eq_1
def K136_6 : Pl := .st (.act none (.px (some 14) (.un .not (.v 13)))) .done
@[simp] def W136_6 := @Pl.wpe _ _ K136_6.eq_1
def K136_7 : C := .seq (.pl <| .st (.ext 6 9) <|
    .st (.act none (.px (some 6) (.mv (.v 3)))) <|
    .st (.act none (.als 7 none 5)) <|
    .st (.act none (.pget (some 8) (some 7) 5 0 none)) <|
    .st (.act none (.px (some 9) (.ia 1 (.v 6) (.v 8)))) <|
    .st (.act none (.ld (some 10) (.v 9) none)) <|
    .st (.act none (.als 11 none 5)) <|
    .st (.act none (.pget (some 12) (some 11) 5 3 none)) <|
    .st (.act none (.ex (some 13) (.call fn_spec_l4In [.v 10, .v 12]))) K136_6) K136_5
@[simp] def W136_7 := @C.wpe _ _ K136_7.eq_1
def K136_8 : C := .seq (.block 1 (.seq (.pl <| .st (.ext 6 5) <|
    .st (.act none (.als 6 none 1)) <|
    .st (.act none (.pget (some 7) (some 6) 1 2 none)) <|
    .st (.act none (.px (some 8) (.mv (.v 4)))) <|
    .st (.act none (.px (some 9) (.ia 4 (.v 7) (.v 8)))) <|
    .st (.act none (.ld (some 10) (.v 9) (some 4))) <|
    .st (.act none (.pnew 5 (.c (.agg #[.int .i64 0, .int .i64 0, .int .i64 0, .int .i64 0])) [])) <|
    .st (.act none (.pset none 5 0 4 (.v 10))) .done) K136_7)) K136_2
@[simp] def W136_8 := @C.wpe _ _ K136_8.eq_1
def K136_9 : C := .cond 6 (.v 10) (.skip) (.exit 0)
@[simp] def W136_9 := @C.wpe _ _ K136_9.eq_1
def K136_10 : C := .seq (.seq (.pl <| .st (.ext 6 5) <|
    .st (.act none (.px (some 6) (.mv (.v 4)))) <|
    .st (.act none (.als 7 none 1)) <|
    .st (.act none (.pget (some 8) (some 7) 1 2 none)) <|
    .st (.act none (.px (some 9) (.lenV (.v 8)))) <|
    .st (.act none (.px (some 10) (.bin .lss (.v 6) (.v 9)))) .done) K136_9) K136_8
@[simp] def W136_10 := @C.wpe _ _ K136_10.eq_1
def K136_11 : C := .block 0 (.loop 6 [0, 2, 5] K136_10)
@[simp] def W136_11 := @C.wpe _ _ K136_11.eq_1
def K136_12 : C := .seq (.seq (.pl <| .st (.ext 6 0) <|
    .st (.act none (.px (some 4) (.mv (.c (.int .i64 0))))) .done) K136_11) K136_1
@[simp] def W136_12 := @C.wpe _ _ K136_12.eq_1
def K136_13 : Pl := .st (.act none (.px (some 3) (.mv (.v 9)))) .done
@[simp] def W136_13 := @Pl.wpe _ _ K136_13.eq_1
def K136_14 : C := .seq (.pl <| .st (.ext 6 4) <|
    .st (.act none (.als 6 none 1)) <|
    .st (.act none (.pget (some 7) (some 6) 1 1 none)) <|
    .st (.act none (.px (some 8) (.lenV (.v 7)))) <|
    .st (.act none (.ex (some 9) (.mks 24 1 [.slice none 0 0] (.v 8) (.v 8)))) K136_13) K136_12
@[simp] def W136_14 := @C.wpe _ _ K136_14.eq_1
def B_spec_l7Next : C := .seq (.pl <| .st (.ext 6 0) <|
    .st (.act none (.pnew 1 (.v 0) [])) <|
    .st (.act none (.px (some 2) (.mv (.c (.slice none 0 0))))) .done) K136_14
@[simp] def WB_spec_l7Next := @C.wpe _ _ B_spec_l7Next.eq_1
def R_spec_l7Next : FIR := ⟨B_spec_l7Next, 6, [(2, none)]⟩
theorem IR_spec_l7Next : cfun Try.prog H_spec_l7Next Try.f136 = some R_spec_l7Next := by kernel_rfl
theorem EN_spec_l7Next {args : List Value} {h : Heap} {k : Value → Heap → Prop} (hargs : args.length = 1) (hw : B_spec_l7Next.wp Try.prog (retQ [(2, none)] k) (env0 args 6) h) : CallE Try.prog fn_spec_l7Next args h k := enter Try.func136 rfl IR_spec_l7Next hargs hw

def H_spec_l7Reach : Hint := ⟨[(0, false), (1, false), (4, false), (5, false), (6, false), (7, false), (8, false), (9, false), (10, false)], [[2, 6, 7, 8], [1, 2, 5, 7, 8], [1, 2, 5, 8]]⟩
def K135_1 : C := .seq (.pl <| .st (.ext 9 1) <|
    .st (.act none (.px (some 9) (.mv (.v 4)))) <|
    .st (.act none (.px (some 2) (.mv (.v 9)))) .done) (.ret)
@[simp] def W135_1 := @C.wpe _ _ K135_1.eq_1
def K135_2 : C := .pl <| .st (.ext 9 2) <|
    .st (.act none (.px (some 9) (.mv (.v 6)))) <|
    .st (.act none (.px (some 10) (.bin .add (.v 9) (.c (.int .i64 1))))) <|
    .st (.act none (.px (some 6) (.mv (.v 10)))) .done
@[simp] def W135_2 := @C.wpe _ _ K135_2.eq_1
def K135_3 : C := .pl <| .st (.ext 9 2) <|
    .st (.act none (.px (some 9) (.mv (.v 7)))) <|
    .st (.act none (.px (some 10) (.bin .add (.v 9) (.c (.int .i64 1))))) <|
    .st (.act none (.px (some 7) (.mv (.v 10)))) .done
@[simp] def W135_3 := @C.wpe _ _ K135_3.eq_1
def K135_4 : Pl := .st (.act none (.px (some 4) (.mv (.v 12)))) .done
@[simp] def W135_4 := @Pl.wpe _ _ K135_4.eq_1
def K135_5 : C := .pl <| .st (.ext 9 4) <|
    .st (.act none (.px (some 9) (.mv (.v 4)))) <|
    .st (.act none (.px (some 10) (.mv (.v 8)))) <|
    .st (.act none (.psl 11 [.int .i64 0] [(0, 1, .v 10)])) <|
    .st (.act none (.ex (some 12) (.app 8 1 [.int .i64 0] (.o (.v 9)) (.p 1 11)))) K135_4
@[simp] def W135_5 := @C.wpe _ _ K135_5.eq_1
def K135_6 : C := .seq (.pl <| .st (.ext 9 3) <|
    .st (.act none (.px (some 9) (.mv (.v 3)))) <|
    .st (.act none (.px (some 10) (.mv (.v 8)))) <|
    .st (.act none (.px (some 11) (.ia 1 (.v 9) (.v 10)))) <|
    .st (.act none (.ex none (.store 1 (.v 11) (.c (.bool true))))) .done) K135_5
@[simp] def W135_6 := @C.wpe _ _ K135_6.eq_1
def K135_7 : C := .cond 9 (.v 13) K135_6 (.skip)
@[simp] def W135_7 := @C.wpe _ _ K135_7.eq_1
def K135_8 : C := .seq (.pl <| .st (.ext 9 5) <|
    .st (.act none (.px (some 9) (.mv (.v 3)))) <|
    .st (.act none (.px (some 10) (.mv (.v 8)))) <|
    .st (.act none (.px (some 11) (.ia 1 (.v 9) (.v 10)))) <|
    .st (.act none (.ld (some 12) (.v 11) none)) <|
    .st (.act none (.px (some 13) (.un .not (.v 12)))) .done) K135_7
@[simp] def W135_8 := @C.wpe _ _ K135_8.eq_1
def K135_9 : C := .seq (.block 5 (.seq (.pl <| .st (.ext 9 10) <|
    .st (.act none (.px (some 9) (.mv (.v 0)))) <|
    .st (.act none (.px (some 10) (.mv (.v 4)))) <|
    .st (.act none (.px (some 11) (.mv (.v 6)))) <|
    .st (.act none (.px (some 12) (.ia 1 (.v 10) (.v 11)))) <|
    .st (.act none (.ld (some 13) (.v 12) none)) <|
    .st (.act none (.px (some 14) (.ia 1 (.v 9) (.v 13)))) <|
    .st (.act none (.ld (some 15) (.v 14) none)) <|
    .st (.act none (.px (some 16) (.mv (.v 7)))) <|
    .st (.act none (.px (some 17) (.ia 1 (.v 15) (.v 16)))) <|
    .st (.act none (.ld (some 18) (.v 17) none)) <|
    .st (.act none (.px (some 8) (.mv (.v 18)))) .done) K135_8)) K135_3
@[simp] def W135_9 := @C.wpe _ _ K135_9.eq_1
def K135_10 : C := .cond 9 (.v 18) (.skip) (.exit 4)
@[simp] def W135_10 := @C.wpe _ _ K135_10.eq_1
def K135_11 : C := .seq (.seq (.pl <| .st (.ext 9 10) <|
    .st (.act none (.px (some 9) (.mv (.v 7)))) <|
    .st (.act none (.px (some 10) (.mv (.v 0)))) <|
    .st (.act none (.px (some 11) (.mv (.v 4)))) <|
    .st (.act none (.px (some 12) (.mv (.v 6)))) <|
    .st (.act none (.px (some 13) (.ia 1 (.v 11) (.v 12)))) <|
    .st (.act none (.ld (some 14) (.v 13) none)) <|
    .st (.act none (.px (some 15) (.ia 1 (.v 10) (.v 14)))) <|
    .st (.act none (.ld (some 16) (.v 15) none)) <|
    .st (.act none (.px (some 17) (.lenV (.v 16)))) <|
    .st (.act none (.px (some 18) (.bin .lss (.v 9) (.v 17)))) .done) K135_10) K135_9
@[simp] def W135_11 := @C.wpe _ _ K135_11.eq_1
def K135_12 : C := .block 4 (.loop 9 [1, 2, 5, 8] K135_11)
@[simp] def W135_12 := @C.wpe _ _ K135_12.eq_1
def K135_13 : C := .seq (.block 3 (.seq (.pl <| .st (.ext 9 0) <|
    .st (.act none (.px (some 7) (.mv (.c (.int .i64 0))))) .done) K135_12)) K135_2
@[simp] def W135_13 := @C.wpe _ _ K135_13.eq_1
def K135_14 : C := .cond 9 (.v 12) (.skip) (.exit 2)
@[simp] def W135_14 := @C.wpe _ _ K135_14.eq_1
def K135_15 : C := .seq (.seq (.pl <| .st (.ext 9 4) <|
    .st (.act none (.px (some 9) (.mv (.v 6)))) <|
    .st (.act none (.px (some 10) (.mv (.v 4)))) <|
    .st (.act none (.px (some 11) (.lenV (.v 10)))) <|
    .st (.act none (.px (some 12) (.bin .lss (.v 9) (.v 11)))) .done) K135_14) K135_13
@[simp] def W135_15 := @C.wpe _ _ K135_15.eq_1
def K135_16 : C := .block 2 (.loop 9 [1, 2, 5, 7, 8] K135_15)
@[simp] def W135_16 := @C.wpe _ _ K135_16.eq_1
def K135_17 : C := .seq (.seq (.pl <| .st (.ext 9 0) <|
    .st (.act none (.px (some 6) (.mv (.c (.int .i64 0))))) .done) K135_16) K135_1
@[simp] def W135_17 := @C.wpe _ _ K135_17.eq_1
def K135_18 : C := .pl <| .st (.ext 9 2) <|
    .st (.act none (.px (some 9) (.mv (.v 5)))) <|
    .st (.act none (.px (some 10) (.bin .add (.v 9) (.c (.int .i64 1))))) <|
    .st (.act none (.px (some 5) (.mv (.v 10)))) .done
@[simp] def W135_18 := @C.wpe _ _ K135_18.eq_1
def K135_19 : Pl := .st (.act none (.px (some 4) (.mv (.v 15)))) .done
@[simp] def W135_19 := @Pl.wpe _ _ K135_19.eq_1
def K135_20 : C := .pl <| .st (.ext 9 7) <|
    .st (.act none (.px (some 9) (.mv (.v 4)))) <|
    .st (.act none (.px (some 10) (.mv (.v 1)))) <|
    .st (.act none (.px (some 11) (.mv (.v 5)))) <|
    .st (.act none (.px (some 12) (.ia 1 (.v 10) (.v 11)))) <|
    .st (.act none (.ld (some 13) (.v 12) none)) <|
    .st (.act none (.psl 14 [.int .i64 0] [(0, 1, .v 13)])) <|
    .st (.act none (.ex (some 15) (.app 8 1 [.int .i64 0] (.o (.v 9)) (.p 1 14)))) K135_19
@[simp] def W135_20 := @C.wpe _ _ K135_20.eq_1
def K135_21 : C := .seq (.pl <| .st (.ext 9 6) <|
    .st (.act none (.px (some 9) (.mv (.v 3)))) <|
    .st (.act none (.px (some 10) (.mv (.v 1)))) <|
    .st (.act none (.px (some 11) (.mv (.v 5)))) <|
    .st (.act none (.px (some 12) (.ia 1 (.v 10) (.v 11)))) <|
    .st (.act none (.ld (some 13) (.v 12) none)) <|
    .st (.act none (.px (some 14) (.ia 1 (.v 9) (.v 13)))) <|
    .st (.act none (.ex none (.store 1 (.v 14) (.c (.bool true))))) .done) K135_20
@[simp] def W135_21 := @C.wpe _ _ K135_21.eq_1
def K135_22 : C := .cond 9 (.v 16) K135_21 (.skip)
@[simp] def W135_22 := @C.wpe _ _ K135_22.eq_1
def K135_23 : C := .seq (.block 1 (.seq (.pl <| .st (.ext 9 8) <|
    .st (.act none (.px (some 9) (.mv (.v 3)))) <|
    .st (.act none (.px (some 10) (.mv (.v 1)))) <|
    .st (.act none (.px (some 11) (.mv (.v 5)))) <|
    .st (.act none (.px (some 12) (.ia 1 (.v 10) (.v 11)))) <|
    .st (.act none (.ld (some 13) (.v 12) none)) <|
    .st (.act none (.px (some 14) (.ia 1 (.v 9) (.v 13)))) <|
    .st (.act none (.ld (some 15) (.v 14) none)) <|
    .st (.act none (.px (some 16) (.un .not (.v 15)))) .done) K135_22)) K135_18
@[simp] def W135_23 := @C.wpe _ _ K135_23.eq_1
def K135_24 : C := .cond 9 (.v 12) (.skip) (.exit 0)
@[simp] def W135_24 := @C.wpe _ _ K135_24.eq_1
def K135_25 : C := .seq (.seq (.pl <| .st (.ext 9 4) <|
    .st (.act none (.px (some 9) (.mv (.v 5)))) <|
    .st (.act none (.px (some 10) (.mv (.v 1)))) <|
    .st (.act none (.px (some 11) (.lenV (.v 10)))) <|
    .st (.act none (.px (some 12) (.bin .lss (.v 9) (.v 11)))) .done) K135_24) K135_23
@[simp] def W135_25 := @C.wpe _ _ K135_25.eq_1
def K135_26 : C := .block 0 (.loop 9 [2, 6, 7, 8] K135_25)
@[simp] def W135_26 := @C.wpe _ _ K135_26.eq_1
def K135_27 : C := .seq (.seq (.pl <| .st (.ext 9 0) <|
    .st (.act none (.px (some 5) (.mv (.c (.int .i64 0))))) .done) K135_26) K135_17
@[simp] def W135_27 := @C.wpe _ _ K135_27.eq_1
def K135_28 : Pl := .st (.act none (.px (some 4) (.mv (.v 9)))) .done
@[simp] def W135_28 := @Pl.wpe _ _ K135_28.eq_1
def K135_29 : C := .seq (.pl <| .st (.ext 9 1) <|
    .st (.act none (.ex (some 9) (.bls 1 0 [.int .i64 0] []))) K135_28) K135_27
@[simp] def W135_29 := @C.wpe _ _ K135_29.eq_1
def K135_30 : Pl := .st (.act none (.px (some 3) (.mv (.v 11)))) .done
@[simp] def W135_30 := @Pl.wpe _ _ K135_30.eq_1
def K135_31 : C := .seq (.pl <| .st (.ext 9 3) <|
    .st (.act none (.px (some 9) (.mv (.v 0)))) <|
    .st (.act none (.px (some 10) (.lenV (.v 9)))) <|
    .st (.act none (.ex (some 11) (.mks 1 1 [.bool false] (.v 10) (.v 10)))) K135_30) K135_29
@[simp] def W135_31 := @C.wpe _ _ K135_31.eq_1
def B_spec_l7Reach : C := .seq (.pl <| .st (.ext 9 0) <|
    .st (.act none (.px (some 2) (.mv (.c (.slice none 0 0))))) .done) K135_31
@[simp] def WB_spec_l7Reach := @C.wpe _ _ B_spec_l7Reach.eq_1
def R_spec_l7Reach : FIR := ⟨B_spec_l7Reach, 9, [(2, none)]⟩
theorem IR_spec_l7Reach : cfun Try.prog H_spec_l7Reach Try.f135 = some R_spec_l7Reach := by kernel_rfl
theorem EN_spec_l7Reach {args : List Value} {h : Heap} {k : Value → Heap → Prop} (hargs : args.length = 2) (hw : B_spec_l7Reach.wp Try.prog (retQ [(2, none)] k) (env0 args 9) h) : CallE Try.prog fn_spec_l7Reach args h k := enter Try.func135 rfl IR_spec_l7Reach hargs hw


end Go.Proofs.Ytglnelcmcimljaa

/-
  Bodies of functions in the small language, as a program printed them, and that each is what the translation gives.
-/
namespace Go.Proofs.Ytglnelcmcimljaa
open Go
set_option linter.all false
set_option linter.defProp false
set_option maxRecDepth 1000000

def H_impl_AutomatonValid : Hint := ⟨[(0, false), (1, true), (2, false), (3, false), (4, false), (6, false), (11, false), (12, false), (13, false)], [[0, 2, 5]]⟩
def K46_1 : Pl := .st (.act (some (.v 17, true)) (.px (some 22) (.un .not (.v 21)))) <|
    .st (.act none (.px (some 23) (.pick (.v 17) (.v 22) (.c (.bool false))))) <|
    .st (.act none (.px (some 2) (.mv (.v 23)))) .done
@[simp] def W46_1 := @Pl.wpe _ _ K46_1.eq_1
def K46_2 : Pl := .st (.act none (.px (some 11) (.mv (.v 10)))) <|
    .st (.act (some (.v 11, true)) (.als 12 none 1)) <|
    .st (.act (some (.v 11, true)) (.pget (some 13) (some 12) 1 2 none)) <|
    .st (.act (some (.v 11, true)) (.px (some 14) (.lenV (.v 13)))) <|
    .st (.act (some (.v 11, true)) (.px (some 15) (.bin .leq (.v 14) (.c (.int .i64 2048))))) <|
    .st (.act none (.px (some 16) (.pick (.v 11) (.v 15) (.c (.bool false))))) <|
    .st (.act none (.px (some 17) (.mv (.v 16)))) <|
    .st (.act (some (.v 17, true)) (.als 18 none 1)) <|
    .st (.act (some (.v 17, true)) (.pget (some 19) (some 18) 1 2 none)) <|
    .st (.act (some (.v 17, true)) (.px (some 20) (.mkf (.func fn_impl_AutomatonValid_1) [] [.v 3]))) <|
    .st (.act (some (.v 17, true)) (.ex (some 21) (.call fn_slices_ContainsFunc_S_impl_Transition_impl_Transition [.v 19, .v 20]))) K46_1
@[simp] def W46_2 := @Pl.wpe _ _ K46_2.eq_1
def K46_3 : C := .seq (.pl <| .st (.ext 9 15) <|
    .st (.act none (.ld (some 9) (.v 3) none)) <|
    .st (.act none (.ex (some 10) (.call fn_impl_in [.v 9, .c (.int .i64 1), .c (.int .i64 64)]))) K46_2) (.ret)
@[simp] def W46_3 := @C.wpe _ _ K46_3.eq_1
def K46_4 : C := .pl <| .st (.ext 9 1) <|
    .st (.act none (.px (some 9) (.bin .add (.v 8) (.c (.int .i64 1))))) <|
    .st (.act none (.px (some 8) (.mv (.v 9)))) .done
@[simp] def W46_4 := @C.wpe _ _ K46_4.eq_1
def K46_5 : C := .pl <| .st (.ext 9 1) <|
    .st (.act none (.px (some 9) (.mv (.v 5)))) <|
    .st (.act none (.px (some 4) (.mv (.v 9)))) .done
@[simp] def W46_5 := @C.wpe _ _ K46_5.eq_1
def K46_6 : C := .seq (.pl <| .st (.ext 9 0) <|
    .st (.act none (.px (some 2) (.mv (.c (.bool false))))) .done) (.ret)
@[simp] def W46_6 := @C.wpe _ _ K46_6.eq_1
def K46_7 : C := .cond 9 (.v 15) K46_6 (.skip)
@[simp] def W46_7 := @C.wpe _ _ K46_7.eq_1
def K46_8 : Pl := .st (.act none (.px (some 15) (.un .not (.v 14)))) .done
@[simp] def W46_8 := @Pl.wpe _ _ K46_8.eq_1
def K46_9 : C := .seq (.seq (.pl <| .st (.ext 9 7) <|
    .st (.act none (.px (some 9) (.mv (.v 5)))) <|
    .st (.act none (.px (some 10) (.mv (.v 4)))) <|
    .st (.act none (.px (some 11) (.bin .add (.v 10) (.c (.int .i64 1))))) <|
    .st (.act none (.ld (some 12) (.v 3) none)) <|
    .st (.act none (.px (some 13) (.bin .sub (.v 12) (.c (.int .i64 1))))) <|
    .st (.act none (.ex (some 14) (.call fn_impl_in [.v 9, .v 11, .v 13]))) K46_8) K46_7) K46_5
@[simp] def W46_9 := @C.wpe _ _ K46_9.eq_1
def K46_10 : C := .seq (.block 1 (.seq (.pl <| .st (.ext 9 2) <|
    .st (.act none (.px (some 9) (.ia 1 (.v 6) (.v 8)))) <|
    .st (.act none (.ld (some 10) (.v 9) none)) <|
    .st (.act none (.px (some 5) (.mv (.v 10)))) .done) K46_9)) K46_4
@[simp] def W46_10 := @C.wpe _ _ K46_10.eq_1
def K46_11 : C := .seq (.cond 9 (.v 9) (.skip) (.exit 0)) K46_10
@[simp] def W46_11 := @C.wpe _ _ K46_11.eq_1
def K46_12 : C := .seq (.pl <| .st (.ext 9 1) <|
    .st (.act none (.px (some 9) (.bin .lss (.v 8) (.v 7)))) .done) K46_11
@[simp] def W46_12 := @C.wpe _ _ K46_12.eq_1
def K46_13 : C := .block 0 (.loop 9 [0, 2, 5] K46_12)
@[simp] def W46_13 := @C.wpe _ _ K46_13.eq_1
def K46_14 : C := .seq (.seq (.pl <| .st (.ext 9 1) <|
    .st (.act none (.als 9 none 1)) <|
    .st (.act none (.pget (some 6) (some 9) 1 0 none)) <|
    .st (.act none (.px (some 7) (.lenV (.v 6)))) <|
    .st (.act none (.px (some 8) (.mv (.c (.int .i64 0))))) .done) K46_13) K46_3
@[simp] def W46_14 := @C.wpe _ _ K46_14.eq_1
def K46_15 : C := .seq (.pl <| .st (.ext 9 0) <|
    .st (.act none (.px (some 4) (.mv (.c (.int .i64 (-1)))))) .done) K46_14
@[simp] def W46_15 := @C.wpe _ _ K46_15.eq_1
def K46_16 : Pl := .st (.act none (.ex none (.store 1 (.v 3) (.v 11)))) .done
@[simp] def W46_16 := @Pl.wpe _ _ K46_16.eq_1
def K46_17 : C := .seq (.pl <| .st (.ext 9 3) <|
    .st (.act none (.als 9 none 1)) <|
    .st (.act none (.pget (some 10) (some 9) 1 1 none)) <|
    .st (.act none (.px (some 11) (.lenV (.v 10)))) <|
    .st (.act none (.ex (some 3) (.alloc (.c (.int .i64 0))))) K46_16) K46_15
@[simp] def W46_17 := @C.wpe _ _ K46_17.eq_1
def B_impl_AutomatonValid : C := .seq (.pl <| .st (.ext 9 0) <|
    .st (.act none (.pnew 1 (.v 0) [])) <|
    .st (.act none (.px (some 2) (.mv (.c (.bool false))))) .done) K46_17
@[simp] def WB_impl_AutomatonValid := @C.wpe _ _ B_impl_AutomatonValid.eq_1
def R_impl_AutomatonValid : FIR := ⟨B_impl_AutomatonValid, 9, [(2, none)]⟩
theorem IR_impl_AutomatonValid : cfun Try.prog H_impl_AutomatonValid Try.f46 = some R_impl_AutomatonValid := by kernel_rfl
theorem EN_impl_AutomatonValid {args : List Value} {h : Heap} {k : Value → Heap → Prop} (hargs : args.length = 1) (hw : B_impl_AutomatonValid.wp Try.prog (retQ [(2, none)] k) (env0 args 9) h) : CallE Try.prog fn_impl_AutomatonValid args h k := enter Try.func46 rfl IR_impl_AutomatonValid hargs hw

def H_impl_AutomatonValid_1 : Hint := ⟨[(0, false), (1, false), (2, true), (3, false)], []⟩
def K94_1 : Pl := .st (.act (some (.v 18, false)) (.px (some 22) (.un .not (.v 21)))) <|
    .st (.act none (.px (some 23) (.pick (.v 18) (.c (.bool true)) (.v 22)))) <|
    .st (.act none (.px (some 24) (.mv (.v 23)))) <|
    .st (.act (some (.v 24, false)) (.als 25 none 2)) <|
    .st (.act (some (.v 24, false)) (.pget (some 26) (some 25) 2 2 none)) <|
    .st (.act (some (.v 24, false)) (.px (some 27) (.bin .lss (.v 26) (.c (.int .i64 0))))) <|
    .st (.act none (.px (some 28) (.pick (.v 24) (.c (.bool true)) (.v 27)))) <|
    .st (.act none (.px (some 29) (.mv (.v 28)))) <|
    .st (.act (some (.v 29, false)) (.als 30 none 2)) <|
    .st (.act (some (.v 29, false)) (.pget (some 31) (some 30) 2 2 none)) <|
    .st (.act (some (.v 29, false)) (.als 32 none 2)) <|
    .st (.act (some (.v 29, false)) (.pget (some 33) (some 32) 2 1 none)) <|
    .st (.act (some (.v 29, false)) (.px (some 34) (.bin .andNot (.v 31) (.v 33)))) <|
    .st (.act (some (.v 29, false)) (.px (some 35) (.bin .neq (.v 34) (.c (.int .i64 0))))) <|
    .st (.act none (.px (some 36) (.pick (.v 29) (.c (.bool true)) (.v 35)))) <|
    .st (.act none (.px (some 3) (.mv (.v 36)))) .done
@[simp] def W94_1 := @Pl.wpe _ _ K94_1.eq_1
def K94_2 : Pl := .st (.act (some (.v 10, false)) (.px (some 16) (.un .not (.v 15)))) <|
    .st (.act none (.px (some 17) (.pick (.v 10) (.c (.bool true)) (.v 16)))) <|
    .st (.act none (.px (some 18) (.mv (.v 17)))) <|
    .st (.act (some (.v 18, false)) (.als 19 none 2)) <|
    .st (.act (some (.v 18, false)) (.pget (some 20) (some 19) 2 1 none)) <|
    .st (.act (some (.v 18, false)) (.ex (some 21) (.call fn_impl_in [.v 20, .c (.int .i64 0), .c (.int .i64 7)]))) K94_1
@[simp] def W94_2 := @Pl.wpe _ _ K94_2.eq_1
def K94_3 : Pl := .st (.act none (.px (some 9) (.un .not (.v 8)))) <|
    .st (.act none (.px (some 10) (.mv (.v 9)))) <|
    .st (.act (some (.v 10, false)) (.als 11 none 2)) <|
    .st (.act (some (.v 10, false)) (.pget (some 12) (some 11) 2 3 none)) <|
    .st (.act (some (.v 10, false)) (.ld (some 13) (.v 1) none)) <|
    .st (.act (some (.v 10, false)) (.px (some 14) (.bin .sub (.v 13) (.c (.int .i64 1))))) <|
    .st (.act (some (.v 10, false)) (.ex (some 15) (.call fn_impl_in [.v 12, .c (.int .i64 0), .v 14]))) K94_2
@[simp] def W94_3 := @Pl.wpe _ _ K94_3.eq_1
def K94_4 : C := .seq (.pl <| .st (.ext 4 33) <|
    .st (.act none (.als 4 none 2)) <|
    .st (.act none (.pget (some 5) (some 4) 2 0 none)) <|
    .st (.act none (.ld (some 6) (.v 1) none)) <|
    .st (.act none (.px (some 7) (.bin .sub (.v 6) (.c (.int .i64 1))))) <|
    .st (.act none (.ex (some 8) (.call fn_impl_in [.v 5, .c (.int .i64 0), .v 7]))) K94_3) (.ret)
@[simp] def W94_4 := @C.wpe _ _ K94_4.eq_1
def B_impl_AutomatonValid_1 : C := .seq (.pl <| .st (.ext 4 0) <|
    .st (.act none (.pnew 2 (.v 0) [])) <|
    .st (.act none (.px (some 3) (.mv (.c (.bool false))))) .done) K94_4
@[simp] def WB_impl_AutomatonValid_1 := @C.wpe _ _ B_impl_AutomatonValid_1.eq_1
def R_impl_AutomatonValid_1 : FIR := ⟨B_impl_AutomatonValid_1, 4, [(3, none)]⟩
theorem IR_impl_AutomatonValid_1 : cfun Try.prog H_impl_AutomatonValid_1 Try.f94 = some R_impl_AutomatonValid_1 := by kernel_rfl
theorem EN_impl_AutomatonValid_1 {args : List Value} {h : Heap} {k : Value → Heap → Prop} (hargs : args.length = 2) (hw : B_impl_AutomatonValid_1.wp Try.prog (retQ [(3, none)] k) (env0 args 4) h) : CallE Try.prog fn_impl_AutomatonValid_1 args h k := enter Try.func94 rfl IR_impl_AutomatonValid_1 hargs hw

def H_impl_Transition_takes : Hint := ⟨[(0, false), (1, false), (2, true), (4, false)], []⟩
def K95_1 : C := .seq (.pl <| .st (.ext 4 7) <|
    .st (.act none (.px (some 4) (.mv (.v 1)))) <|
    .st (.act none (.als 5 none 2)) <|
    .st (.act none (.pget (some 6) (some 5) 2 1 none)) <|
    .st (.act none (.px (some 7) (.bin .and (.v 4) (.v 6)))) <|
    .st (.act none (.als 8 none 2)) <|
    .st (.act none (.pget (some 9) (some 8) 2 2 none)) <|
    .st (.act none (.px (some 10) (.bin .eql (.v 7) (.v 9)))) <|
    .st (.act none (.px (some 3) (.mv (.v 10)))) .done) (.ret)
@[simp] def W95_1 := @C.wpe _ _ K95_1.eq_1
def B_impl_Transition_takes : C := .seq (.pl <| .st (.ext 4 0) <|
    .st (.act none (.pnew 2 (.v 0) [])) <|
    .st (.act none (.px (some 3) (.mv (.c (.bool false))))) .done) K95_1
@[simp] def WB_impl_Transition_takes := @C.wpe _ _ B_impl_Transition_takes.eq_1
def R_impl_Transition_takes : FIR := ⟨B_impl_Transition_takes, 4, [(3, none)]⟩
theorem IR_impl_Transition_takes : cfun Try.prog H_impl_Transition_takes Try.f95 = some R_impl_Transition_takes := by kernel_rfl
theorem EN_impl_Transition_takes {args : List Value} {h : Heap} {k : Value → Heap → Prop} (hargs : args.length = 2) (hw : B_impl_Transition_takes.wp Try.prog (retQ [(3, none)] k) (env0 args 4) h) : CallE Try.prog fn_impl_Transition_takes args h k := enter Try.func95 rfl IR_impl_Transition_takes hargs hw

def H_impl_in : Hint := ⟨[(0, false), (1, false), (2, false), (6, false)], []⟩
def K92_1 : C := .seq (.pl <| .st (.ext 4 8) <|
    .st (.act none (.px (some 4) (.mv (.v 0)))) <|
    .st (.act none (.px (some 5) (.mv (.v 1)))) <|
    .st (.act none (.px (some 6) (.bin .geq (.v 4) (.v 5)))) <|
    .st (.act none (.px (some 7) (.mv (.v 6)))) <|
    .st (.act (some (.v 7, true)) (.px (some 8) (.mv (.v 0)))) <|
    .st (.act (some (.v 7, true)) (.px (some 9) (.mv (.v 2)))) <|
    .st (.act (some (.v 7, true)) (.px (some 10) (.bin .leq (.v 8) (.v 9)))) <|
    .st (.act none (.px (some 11) (.pick (.v 7) (.v 10) (.c (.bool false))))) <|
    .st (.act none (.px (some 3) (.mv (.v 11)))) .done) (.ret)
@[simp] def W92_1 := @C.wpe _ _ K92_1.eq_1
def B_impl_in : C := .seq (.pl <| .st (.ext 4 0) <|
    .st (.act none (.px (some 3) (.mv (.c (.bool false))))) .done) K92_1
@[simp] def WB_impl_in := @C.wpe _ _ B_impl_in.eq_1
def R_impl_in : FIR := ⟨B_impl_in, 4, [(3, none)]⟩
theorem IR_impl_in : cfun Try.prog H_impl_in Try.f92 = some R_impl_in := by kernel_rfl
theorem EN_impl_in {args : List Value} {h : Heap} {k : Value → Heap → Prop} (hargs : args.length = 3) (hw : B_impl_in.wp Try.prog (retQ [(3, none)] k) (env0 args 4) h) : CallE Try.prog fn_impl_in args h k := enter Try.func92 rfl IR_impl_in hargs hw

def H_slices_ContainsFunc_S_impl_Transition_impl_Transition : Hint := ⟨[(0, false), (1, false), (4, false)], []⟩
def K93_1 : Pl := .st (.act none (.px (some 6) (.bin .geq (.v 5) (.c (.int .i64 0))))) <|
    .st (.act none (.px (some 2) (.mv (.v 6)))) .done
@[simp] def W93_1 := @Pl.wpe _ _ K93_1.eq_1
def K93_2 : C := .seq (.pl <| .st (.ext 3 4) <|
    .st (.act none (.px (some 3) (.mv (.v 0)))) <|
    .st (.act none (.px (some 4) (.mv (.v 1)))) <|
    .st (.act none (.ex (some 5) (.call fn_slices_IndexFunc_S_impl_Transition_impl_Transition [.v 3, .v 4]))) K93_1) (.ret)
@[simp] def W93_2 := @C.wpe _ _ K93_2.eq_1
def B_slices_ContainsFunc_S_impl_Transition_impl_Transition : C := .seq (.pl <| .st (.ext 3 0) <|
    .st (.act none (.px (some 2) (.mv (.c (.bool false))))) .done) K93_2
@[simp] def WB_slices_ContainsFunc_S_impl_Transition_impl_Transition := @C.wpe _ _ B_slices_ContainsFunc_S_impl_Transition_impl_Transition.eq_1
def R_slices_ContainsFunc_S_impl_Transition_impl_Transition : FIR := ⟨B_slices_ContainsFunc_S_impl_Transition_impl_Transition, 3, [(2, none)]⟩
theorem IR_slices_ContainsFunc_S_impl_Transition_impl_Transition : cfun Try.prog H_slices_ContainsFunc_S_impl_Transition_impl_Transition Try.f93 = some R_slices_ContainsFunc_S_impl_Transition_impl_Transition := by kernel_rfl
theorem EN_slices_ContainsFunc_S_impl_Transition_impl_Transition {args : List Value} {h : Heap} {k : Value → Heap → Prop} (hargs : args.length = 2) (hw : B_slices_ContainsFunc_S_impl_Transition_impl_Transition.wp Try.prog (retQ [(2, none)] k) (env0 args 3) h) : CallE Try.prog fn_slices_ContainsFunc_S_impl_Transition_impl_Transition args h k := enter Try.func93 rfl IR_slices_ContainsFunc_S_impl_Transition_impl_Transition hargs hw

def H_slices_IndexFunc_S_impl_Transition_impl_Transition : Hint := ⟨[(0, false), (1, false), (4, false), (5, false), (7, false), (8, false)], [[2, 3]]⟩
def K138_1 : C := .seq (.pl <| .st (.ext 6 0) <|
    .st (.act none (.px (some 2) (.mv (.c (.int .i64 (-1)))))) .done) (.ret)
@[simp] def W138_1 := @C.wpe _ _ K138_1.eq_1
def K138_2 : C := .pl <| .st (.ext 6 1) <|
    .st (.act none (.px (some 6) (.bin .add (.v 5) (.c (.int .i64 1))))) <|
    .st (.act none (.px (some 5) (.mv (.v 6)))) .done
@[simp] def W138_2 := @C.wpe _ _ K138_2.eq_1
def K138_3 : C := .seq (.pl <| .st (.ext 6 1) <|
    .st (.act none (.px (some 6) (.mv (.v 3)))) <|
    .st (.act none (.px (some 2) (.mv (.v 6)))) .done) (.ret)
@[simp] def W138_3 := @C.wpe _ _ K138_3.eq_1
def K138_4 : C := .cond 6 (.v 11) K138_3 (.skip)
@[simp] def W138_4 := @C.wpe _ _ K138_4.eq_1
def K138_5 : C := .seq (.pl <| .st (.ext 6 6) <|
    .st (.act none (.px (some 6) (.mv (.v 1)))) <|
    .st (.act none (.px (some 7) (.mv (.v 0)))) <|
    .st (.act none (.px (some 8) (.mv (.v 3)))) <|
    .st (.act none (.px (some 9) (.ia 4 (.v 7) (.v 8)))) <|
    .st (.act none (.ld (some 10) (.v 9) (some 4))) <|
    .st (.act none (.ex (some 11) (.callv (.v 6) [.v 10]))) .done) K138_4
@[simp] def W138_5 := @C.wpe _ _ K138_5.eq_1
def K138_6 : C := .seq (.block 1 (.seq (.pl <| .st (.ext 6 1) <|
    .st (.act none (.px (some 6) (.mv (.v 5)))) <|
    .st (.act none (.px (some 3) (.mv (.v 6)))) .done) K138_5)) K138_2
@[simp] def W138_6 := @C.wpe _ _ K138_6.eq_1
def K138_7 : C := .seq (.cond 6 (.v 6) (.skip) (.exit 0)) K138_6
@[simp] def W138_7 := @C.wpe _ _ K138_7.eq_1
def K138_8 : C := .seq (.pl <| .st (.ext 6 1) <|
    .st (.act none (.px (some 6) (.bin .lss (.v 5) (.v 4)))) .done) K138_7
@[simp] def W138_8 := @C.wpe _ _ K138_8.eq_1
def K138_9 : C := .block 0 (.loop 6 [2, 3] K138_8)
@[simp] def W138_9 := @C.wpe _ _ K138_9.eq_1
def K138_10 : C := .seq (.seq (.pl <| .st (.ext 6 1) <|
    .st (.act none (.px (some 6) (.mv (.v 0)))) <|
    .st (.act none (.px (some 4) (.lenV (.v 6)))) <|
    .st (.act none (.px (some 5) (.mv (.c (.int .i64 0))))) .done) K138_9) K138_1
@[simp] def W138_10 := @C.wpe _ _ K138_10.eq_1
def B_slices_IndexFunc_S_impl_Transition_impl_Transition : C := .seq (.pl <| .st (.ext 6 0) <|
    .st (.act none (.px (some 2) (.mv (.c (.int .i64 0))))) .done) K138_10
@[simp] def WB_slices_IndexFunc_S_impl_Transition_impl_Transition := @C.wpe _ _ B_slices_IndexFunc_S_impl_Transition_impl_Transition.eq_1
def R_slices_IndexFunc_S_impl_Transition_impl_Transition : FIR := ⟨B_slices_IndexFunc_S_impl_Transition_impl_Transition, 6, [(2, none)]⟩
theorem IR_slices_IndexFunc_S_impl_Transition_impl_Transition : cfun Try.prog H_slices_IndexFunc_S_impl_Transition_impl_Transition Try.f138 = some R_slices_IndexFunc_S_impl_Transition_impl_Transition := by kernel_rfl
theorem EN_slices_IndexFunc_S_impl_Transition_impl_Transition {args : List Value} {h : Heap} {k : Value → Heap → Prop} (hargs : args.length = 2) (hw : B_slices_IndexFunc_S_impl_Transition_impl_Transition.wp Try.prog (retQ [(2, none)] k) (env0 args 6) h) : CallE Try.prog fn_slices_IndexFunc_S_impl_Transition_impl_Transition args h k := enter Try.func138 rfl IR_slices_IndexFunc_S_impl_Transition_impl_Transition hargs hw

def H_spec_AutomatonValid : Hint := ⟨[(0, false), (1, true), (2, false), (3, false), (4, false), (5, false)], [[0, 2, 5], [0, 2, 4]]⟩
def K48_1 : C := .seq (.pl <| .st (.ext 6 0) <|
    .st (.act none (.px (some 2) (.mv (.c (.bool true))))) .done) (.ret)
@[simp] def W48_1 := @C.wpe _ _ K48_1.eq_1
def K48_2 : C := .pl <| .st (.ext 6 2) <|
    .st (.act none (.px (some 6) (.mv (.v 5)))) <|
    .st (.act none (.px (some 7) (.bin .add (.v 6) (.c (.int .i64 1))))) <|
    .st (.act none (.px (some 5) (.mv (.v 7)))) .done
@[simp] def W48_2 := @C.wpe _ _ K48_2.eq_1
def K48_3 : C := .seq (.pl <| .st (.ext 6 0) <|
    .st (.act none (.px (some 2) (.mv (.c (.bool false))))) .done) (.ret)
@[simp] def W48_3 := @C.wpe _ _ K48_3.eq_1
def K48_4 : C := .cond 6 (.v 13) K48_3 (.skip)
@[simp] def W48_4 := @C.wpe _ _ K48_4.eq_1
def K48_5 : Pl := .st (.act none (.px (some 13) (.un .not (.v 12)))) .done
@[simp] def W48_5 := @Pl.wpe _ _ K48_5.eq_1
def K48_6 : C := .seq (.block 3 (.seq (.pl <| .st (.ext 6 8) <|
    .st (.act none (.als 6 none 1)) <|
    .st (.act none (.pget (some 7) (some 6) 1 2 none)) <|
    .st (.act none (.px (some 8) (.mv (.v 5)))) <|
    .st (.act none (.px (some 9) (.ia 4 (.v 7) (.v 8)))) <|
    .st (.act none (.ld (some 10) (.v 9) (some 4))) <|
    .st (.act none (.px (some 11) (.mv (.v 3)))) <|
    .st (.act none (.ex (some 12) (.call fn_spec_l7Edge [.v 10, .v 11]))) K48_5) K48_4)) K48_2
@[simp] def W48_6 := @C.wpe _ _ K48_6.eq_1
def K48_7 : C := .cond 6 (.v 10) (.skip) (.exit 2)
@[simp] def W48_7 := @C.wpe _ _ K48_7.eq_1
def K48_8 : C := .seq (.seq (.pl <| .st (.ext 6 5) <|
    .st (.act none (.px (some 6) (.mv (.v 5)))) <|
    .st (.act none (.als 7 none 1)) <|
    .st (.act none (.pget (some 8) (some 7) 1 2 none)) <|
    .st (.act none (.px (some 9) (.lenV (.v 8)))) <|
    .st (.act none (.px (some 10) (.bin .lss (.v 6) (.v 9)))) .done) K48_7) K48_6
@[simp] def W48_8 := @C.wpe _ _ K48_8.eq_1
def K48_9 : C := .block 2 (.loop 6 [0, 2, 4] K48_8)
@[simp] def W48_9 := @C.wpe _ _ K48_9.eq_1
def K48_10 : C := .seq (.seq (.pl <| .st (.ext 6 0) <|
    .st (.act none (.px (some 5) (.mv (.c (.int .i64 0))))) .done) K48_9) K48_1
@[simp] def W48_10 := @C.wpe _ _ K48_10.eq_1
def K48_11 : C := .pl <| .st (.ext 6 2) <|
    .st (.act none (.px (some 6) (.mv (.v 4)))) <|
    .st (.act none (.px (some 7) (.bin .add (.v 6) (.c (.int .i64 1))))) <|
    .st (.act none (.px (some 4) (.mv (.v 7)))) .done
@[simp] def W48_11 := @C.wpe _ _ K48_11.eq_1
def K48_12 : C := .seq (.pl <| .st (.ext 6 0) <|
    .st (.act none (.px (some 2) (.mv (.c (.bool false))))) .done) (.ret)
@[simp] def W48_12 := @C.wpe _ _ K48_12.eq_1
def K48_13 : C := .cond 6 (.v 38) K48_12 (.skip)
@[simp] def W48_13 := @C.wpe _ _ K48_13.eq_1
def K48_14 : C := .seq (.block 1 (.seq (.pl <| .st (.ext 6 33) <|
    .st (.act none (.als 6 none 1)) <|
    .st (.act none (.pget (some 7) (some 6) 1 0 none)) <|
    .st (.act none (.px (some 8) (.mv (.v 4)))) <|
    .st (.act none (.px (some 9) (.ia 1 (.v 7) (.v 8)))) <|
    .st (.act none (.ld (some 10) (.v 9) none)) <|
    .st (.act none (.px (some 11) (.bin .lss (.v 10) (.c (.int .i64 0))))) <|
    .st (.act none (.px (some 12) (.mv (.v 11)))) <|
    .st (.act (some (.v 12, false)) (.als 13 none 1)) <|
    .st (.act (some (.v 12, false)) (.pget (some 14) (some 13) 1 0 none)) <|
    .st (.act (some (.v 12, false)) (.px (some 15) (.mv (.v 4)))) <|
    .st (.act (some (.v 12, false)) (.px (some 16) (.ia 1 (.v 14) (.v 15)))) <|
    .st (.act (some (.v 12, false)) (.ld (some 17) (.v 16) none)) <|
    .st (.act (some (.v 12, false)) (.px (some 18) (.mv (.v 3)))) <|
    .st (.act (some (.v 12, false)) (.px (some 19) (.bin .geq (.v 17) (.v 18)))) <|
    .st (.act none (.px (some 20) (.pick (.v 12) (.c (.bool true)) (.v 19)))) <|
    .st (.act none (.px (some 21) (.mv (.v 20)))) <|
    .st (.act (some (.v 21, false)) (.px (some 22) (.mv (.v 4)))) <|
    .st (.act (some (.v 21, false)) (.px (some 23) (.bin .gtr (.v 22) (.c (.int .i64 0))))) <|
    .st (.act (some (.v 21, false)) (.px (some 24) (.mv (.v 23)))) <|
    .st (.act (some (.v 24, true)) (.als 25 none 1)) <|
    .st (.act (some (.v 24, true)) (.pget (some 26) (some 25) 1 0 none)) <|
    .st (.act (some (.v 24, true)) (.px (some 27) (.mv (.v 4)))) <|
    .st (.act (some (.v 24, true)) (.px (some 28) (.bin .sub (.v 27) (.c (.int .i64 1))))) <|
    .st (.act (some (.v 24, true)) (.px (some 29) (.ia 1 (.v 26) (.v 28)))) <|
    .st (.act (some (.v 24, true)) (.ld (some 30) (.v 29) none)) <|
    .st (.act (some (.v 24, true)) (.als 31 none 1)) <|
    .st (.act (some (.v 24, true)) (.pget (some 32) (some 31) 1 0 none)) <|
    .st (.act (some (.v 24, true)) (.px (some 33) (.mv (.v 4)))) <|
    .st (.act (some (.v 24, true)) (.px (some 34) (.ia 1 (.v 32) (.v 33)))) <|
    .st (.act (some (.v 24, true)) (.ld (some 35) (.v 34) none)) <|
    .st (.act (some (.v 24, true)) (.px (some 36) (.bin .geq (.v 30) (.v 35)))) <|
    .st (.act (some (.v 21, false)) (.px (some 37) (.pick (.v 24) (.v 36) (.c (.bool false))))) <|
    .st (.act none (.px (some 38) (.pick (.v 21) (.c (.bool true)) (.v 37)))) .done) K48_13)) K48_11
@[simp] def W48_14 := @C.wpe _ _ K48_14.eq_1
def K48_15 : C := .cond 6 (.v 10) (.skip) (.exit 0)
@[simp] def W48_15 := @C.wpe _ _ K48_15.eq_1
def K48_16 : C := .seq (.seq (.pl <| .st (.ext 6 5) <|
    .st (.act none (.px (some 6) (.mv (.v 4)))) <|
    .st (.act none (.als 7 none 1)) <|
    .st (.act none (.pget (some 8) (some 7) 1 0 none)) <|
    .st (.act none (.px (some 9) (.lenV (.v 8)))) <|
    .st (.act none (.px (some 10) (.bin .lss (.v 6) (.v 9)))) .done) K48_15) K48_14
@[simp] def W48_16 := @C.wpe _ _ K48_16.eq_1
def K48_17 : C := .block 0 (.loop 6 [0, 2, 5] K48_16)
@[simp] def W48_17 := @C.wpe _ _ K48_17.eq_1
def K48_18 : C := .seq (.seq (.pl <| .st (.ext 6 0) <|
    .st (.act none (.px (some 4) (.mv (.c (.int .i64 0))))) .done) K48_17) K48_10
@[simp] def W48_18 := @C.wpe _ _ K48_18.eq_1
def K48_19 : C := .seq (.pl <| .st (.ext 6 0) <|
    .st (.act none (.px (some 2) (.mv (.c (.bool false))))) .done) (.ret)
@[simp] def W48_19 := @C.wpe _ _ K48_19.eq_1
def K48_20 : C := .cond 6 (.v 24) K48_19 (.skip)
@[simp] def W48_20 := @C.wpe _ _ K48_20.eq_1
def K48_21 : C := .seq (.seq (.pl <| .st (.ext 6 19) <|
    .st (.act none (.px (some 6) (.mv (.v 3)))) <|
    .st (.act none (.px (some 7) (.bin .lss (.v 6) (.c (.int .i64 1))))) <|
    .st (.act none (.px (some 8) (.mv (.v 7)))) <|
    .st (.act (some (.v 8, false)) (.px (some 9) (.mv (.v 3)))) <|
    .st (.act (some (.v 8, false)) (.px (some 10) (.bin .gtr (.v 9) (.c (.int .i64 64))))) <|
    .st (.act none (.px (some 11) (.pick (.v 8) (.c (.bool true)) (.v 10)))) <|
    .st (.act none (.px (some 12) (.mv (.v 11)))) <|
    .st (.act (some (.v 12, false)) (.als 13 none 1)) <|
    .st (.act (some (.v 12, false)) (.pget (some 14) (some 13) 1 0 none)) <|
    .st (.act (some (.v 12, false)) (.px (some 15) (.lenV (.v 14)))) <|
    .st (.act (some (.v 12, false)) (.px (some 16) (.mv (.v 3)))) <|
    .st (.act (some (.v 12, false)) (.px (some 17) (.bin .gtr (.v 15) (.v 16)))) <|
    .st (.act none (.px (some 18) (.pick (.v 12) (.c (.bool true)) (.v 17)))) <|
    .st (.act none (.px (some 19) (.mv (.v 18)))) <|
    .st (.act (some (.v 19, false)) (.als 20 none 1)) <|
    .st (.act (some (.v 19, false)) (.pget (some 21) (some 20) 1 2 none)) <|
    .st (.act (some (.v 19, false)) (.px (some 22) (.lenV (.v 21)))) <|
    .st (.act (some (.v 19, false)) (.px (some 23) (.bin .gtr (.v 22) (.c (.int .i64 2048))))) <|
    .st (.act none (.px (some 24) (.pick (.v 19) (.c (.bool true)) (.v 23)))) .done) K48_20) K48_18
@[simp] def W48_21 := @C.wpe _ _ K48_21.eq_1
def K48_22 : C := .seq (.pl <| .st (.ext 6 3) <|
    .st (.act none (.als 6 none 1)) <|
    .st (.act none (.pget (some 7) (some 6) 1 1 none)) <|
    .st (.act none (.px (some 8) (.lenV (.v 7)))) <|
    .st (.act none (.px (some 3) (.mv (.v 8)))) .done) K48_21
@[simp] def W48_22 := @C.wpe _ _ K48_22.eq_1
def B_spec_AutomatonValid : C := .seq (.pl <| .st (.ext 6 0) <|
    .st (.act none (.pnew 1 (.v 0) [])) <|
    .st (.act none (.px (some 2) (.mv (.c (.bool false))))) .done) K48_22
@[simp] def WB_spec_AutomatonValid := @C.wpe _ _ B_spec_AutomatonValid.eq_1
def R_spec_AutomatonValid : FIR := ⟨B_spec_AutomatonValid, 6, [(2, none)]⟩
theorem IR_spec_AutomatonValid : cfun Try.prog H_spec_AutomatonValid Try.f48 = some R_spec_AutomatonValid := by kernel_rfl
theorem EN_spec_AutomatonValid {args : List Value} {h : Heap} {k : Value → Heap → Prop} (hargs : args.length = 1) (hw : B_spec_AutomatonValid.wp Try.prog (retQ [(2, none)] k) (env0 args 6) h) : CallE Try.prog fn_spec_AutomatonValid args h k := enter Try.func48 rfl IR_spec_AutomatonValid hargs hw

def H_spec_l7Edge : Hint := ⟨[(0, false), (1, false), (2, true), (4, false)], []⟩
def K97_1 : C := .seq (.pl <| .st (.ext 4 45) <|
    .st (.act none (.als 4 none 2)) <|
    .st (.act none (.pget (some 5) (some 4) 2 0 none)) <|
    .st (.act none (.px (some 6) (.bin .geq (.v 5) (.c (.int .i64 0))))) <|
    .st (.act none (.px (some 7) (.mv (.v 6)))) <|
    .st (.act (some (.v 7, true)) (.als 8 none 2)) <|
    .st (.act (some (.v 7, true)) (.pget (some 9) (some 8) 2 0 none)) <|
    .st (.act (some (.v 7, true)) (.px (some 10) (.mv (.v 1)))) <|
    .st (.act (some (.v 7, true)) (.px (some 11) (.bin .lss (.v 9) (.v 10)))) <|
    .st (.act none (.px (some 12) (.pick (.v 7) (.v 11) (.c (.bool false))))) <|
    .st (.act none (.px (some 13) (.mv (.v 12)))) <|
    .st (.act (some (.v 13, true)) (.als 14 none 2)) <|
    .st (.act (some (.v 13, true)) (.pget (some 15) (some 14) 2 3 none)) <|
    .st (.act (some (.v 13, true)) (.px (some 16) (.bin .geq (.v 15) (.c (.int .i64 0))))) <|
    .st (.act none (.px (some 17) (.pick (.v 13) (.v 16) (.c (.bool false))))) <|
    .st (.act none (.px (some 18) (.mv (.v 17)))) <|
    .st (.act (some (.v 18, true)) (.als 19 none 2)) <|
    .st (.act (some (.v 18, true)) (.pget (some 20) (some 19) 2 3 none)) <|
    .st (.act (some (.v 18, true)) (.px (some 21) (.mv (.v 1)))) <|
    .st (.act (some (.v 18, true)) (.px (some 22) (.bin .lss (.v 20) (.v 21)))) <|
    .st (.act none (.px (some 23) (.pick (.v 18) (.v 22) (.c (.bool false))))) <|
    .st (.act none (.px (some 24) (.mv (.v 23)))) <|
    .st (.act (some (.v 24, true)) (.als 25 none 2)) <|
    .st (.act (some (.v 24, true)) (.pget (some 26) (some 25) 2 1 none)) <|
    .st (.act (some (.v 24, true)) (.px (some 27) (.bin .geq (.v 26) (.c (.int .i64 0))))) <|
    .st (.act none (.px (some 28) (.pick (.v 24) (.v 27) (.c (.bool false))))) <|
    .st (.act none (.px (some 29) (.mv (.v 28)))) <|
    .st (.act (some (.v 29, true)) (.als 30 none 2)) <|
    .st (.act (some (.v 29, true)) (.pget (some 31) (some 30) 2 1 none)) <|
    .st (.act (some (.v 29, true)) (.px (some 32) (.bin .leq (.v 31) (.c (.int .i64 7))))) <|
    .st (.act none (.px (some 33) (.pick (.v 29) (.v 32) (.c (.bool false))))) <|
    .st (.act none (.px (some 34) (.mv (.v 33)))) <|
    .st (.act (some (.v 34, true)) (.als 35 none 2)) <|
    .st (.act (some (.v 34, true)) (.pget (some 36) (some 35) 2 2 none)) <|
    .st (.act (some (.v 34, true)) (.px (some 37) (.bin .geq (.v 36) (.c (.int .i64 0))))) <|
    .st (.act none (.px (some 38) (.pick (.v 34) (.v 37) (.c (.bool false))))) <|
    .st (.act none (.px (some 39) (.mv (.v 38)))) <|
    .st (.act (some (.v 39, true)) (.als 40 none 2)) <|
    .st (.act (some (.v 39, true)) (.pget (some 41) (some 40) 2 2 none)) <|
    .st (.act (some (.v 39, true)) (.als 42 none 2)) <|
    .st (.act (some (.v 39, true)) (.pget (some 43) (some 42) 2 1 none)) <|
    .st (.act (some (.v 39, true)) (.px (some 44) (.bin .and (.v 41) (.v 43)))) <|
    .st (.act (some (.v 39, true)) (.als 45 none 2)) <|
    .st (.act (some (.v 39, true)) (.pget (some 46) (some 45) 2 2 none)) <|
    .st (.act (some (.v 39, true)) (.px (some 47) (.bin .eql (.v 44) (.v 46)))) <|
    .st (.act none (.px (some 48) (.pick (.v 39) (.v 47) (.c (.bool false))))) <|
    .st (.act none (.px (some 3) (.mv (.v 48)))) .done) (.ret)
@[simp] def W97_1 := @C.wpe _ _ K97_1.eq_1
def B_spec_l7Edge : C := .seq (.pl <| .st (.ext 4 0) <|
    .st (.act none (.pnew 2 (.v 0) [])) <|
    .st (.act none (.px (some 3) (.mv (.c (.bool false))))) .done) K97_1
@[simp] def WB_spec_l7Edge := @C.wpe _ _ B_spec_l7Edge.eq_1
def R_spec_l7Edge : FIR := ⟨B_spec_l7Edge, 4, [(3, none)]⟩
theorem IR_spec_l7Edge : cfun Try.prog H_spec_l7Edge Try.f97 = some R_spec_l7Edge := by kernel_rfl
theorem EN_spec_l7Edge {args : List Value} {h : Heap} {k : Value → Heap → Prop} (hargs : args.length = 2) (hw : B_spec_l7Edge.wp Try.prog (retQ [(3, none)] k) (env0 args 4) h) : CallE Try.prog fn_spec_l7Edge args h k := enter Try.func97 rfl IR_spec_l7Edge hargs hw


end Go.Proofs.Ytglnelcmcimljaa

/-
  Bodies of functions in the small language, as a program printed them, and that each is what the translation gives.
-/
namespace Go.Proofs.Ytglnelcmcimljaa
open Go
set_option linter.all false
set_option linter.defProp false
set_option maxRecDepth 1000000

def H_impl_Automaton_copyOf : Hint := ⟨[(0, false), (1, true), (2, true)], []⟩
def K120_1 : Pl := .st (.act none (.px (some 12) (.build [.slice none 0 0, .slice none 0 0, .slice none 0 0] [(0, 1, .v 5), (1, 1, .v 8), (2, 1, .v 11)]))) <|
    .st (.act none (.pset none 2 0 3 (.v 12))) .done
@[simp] def W120_1 := @Pl.wpe _ _ K120_1.eq_1
def K120_2 : Pl := .st (.act none (.ex (some 11) (.call fn_impl_clone_impl_Transition [.v 10]))) K120_1
@[simp] def W120_2 := @Pl.wpe _ _ K120_2.eq_1
def K120_3 : Pl := .st (.act none (.ex (some 8) (.call fn_impl_clone_bool [.v 7]))) K120_2
@[simp] def W120_3 := @Pl.wpe _ _ K120_3.eq_1
def K120_4 : C := .seq (.pl <| .st (.ext 3 10) <|
    .st (.act none (.als 3 none 1)) <|
    .st (.act none (.pget (some 4) (some 3) 1 0 none)) <|
    .st (.act none (.als 6 none 1)) <|
    .st (.act none (.pget (some 7) (some 6) 1 1 none)) <|
    .st (.act none (.als 9 none 1)) <|
    .st (.act none (.pget (some 10) (some 9) 1 2 none)) <|
    .st (.act none (.ex (some 5) (.call fn_impl_clone_int [.v 4]))) K120_3) (.ret)
@[simp] def W120_4 := @C.wpe _ _ K120_4.eq_1
def B_impl_Automaton_copyOf : C := .seq (.pl <| .st (.ext 3 0) <|
    .st (.act none (.pnew 1 (.v 0) [])) <|
    .st (.act none (.pnew 2 (.c (.agg #[.slice none 0 0, .slice none 0 0, .slice none 0 0])) [])) .done) K120_4
@[simp] def WB_impl_Automaton_copyOf := @C.wpe _ _ B_impl_Automaton_copyOf.eq_1
def R_impl_Automaton_copyOf : FIR := ⟨B_impl_Automaton_copyOf, 3, [(2, some (some 3))]⟩
theorem IR_impl_Automaton_copyOf : cfun Try.prog H_impl_Automaton_copyOf Try.f120 = some R_impl_Automaton_copyOf := by kernel_rfl
theorem EN_impl_Automaton_copyOf {args : List Value} {h : Heap} {k : Value → Heap → Prop} (hargs : args.length = 1) (hw : B_impl_Automaton_copyOf.wp Try.prog (retQ [(2, some (some 3))] k) (env0 args 3) h) : CallE Try.prog fn_impl_Automaton_copyOf args h k := enter Try.func120 rfl IR_impl_Automaton_copyOf hargs hw

def H_impl_clone_bool : Hint := ⟨[(0, false), (2, false)], []⟩
def K157_1 : Pl := .st (.act none (.px (some 1) (.mv (.v 4)))) .done
@[simp] def W157_1 := @Pl.wpe _ _ K157_1.eq_1
def K157_2 : Pl := .st (.act none (.ex (some 4) (.call fn_slices_Clip_S_bool_bool [.v 3]))) K157_1
@[simp] def W157_2 := @Pl.wpe _ _ K157_2.eq_1
def K157_3 : C := .seq (.pl <| .st (.ext 2 3) <|
    .st (.act none (.px (some 2) (.mv (.v 0)))) <|
    .st (.act none (.ex (some 3) (.call fn_slices_Clone_S_bool_bool [.v 2]))) K157_2) (.ret)
@[simp] def W157_3 := @C.wpe _ _ K157_3.eq_1
def B_impl_clone_bool : C := .seq (.pl <| .st (.ext 2 0) <|
    .st (.act none (.px (some 1) (.mv (.c (.slice none 0 0))))) .done) K157_3
@[simp] def WB_impl_clone_bool := @C.wpe _ _ B_impl_clone_bool.eq_1
def R_impl_clone_bool : FIR := ⟨B_impl_clone_bool, 2, [(1, none)]⟩
theorem IR_impl_clone_bool : cfun Try.prog H_impl_clone_bool Try.f157 = some R_impl_clone_bool := by kernel_rfl
theorem EN_impl_clone_bool {args : List Value} {h : Heap} {k : Value → Heap → Prop} (hargs : args.length = 1) (hw : B_impl_clone_bool.wp Try.prog (retQ [(1, none)] k) (env0 args 2) h) : CallE Try.prog fn_impl_clone_bool args h k := enter Try.func157 rfl IR_impl_clone_bool hargs hw

def H_impl_clone_impl_Transition : Hint := ⟨[(0, false), (2, false)], []⟩
def K158_1 : Pl := .st (.act none (.px (some 1) (.mv (.v 4)))) .done
@[simp] def W158_1 := @Pl.wpe _ _ K158_1.eq_1
def K158_2 : Pl := .st (.act none (.ex (some 4) (.call fn_slices_Clip_S_impl_Transition_impl_Transition [.v 3]))) K158_1
@[simp] def W158_2 := @Pl.wpe _ _ K158_2.eq_1
def K158_3 : C := .seq (.pl <| .st (.ext 2 3) <|
    .st (.act none (.px (some 2) (.mv (.v 0)))) <|
    .st (.act none (.ex (some 3) (.call fn_slices_Clone_S_impl_Transition_impl_Transition [.v 2]))) K158_2) (.ret)
@[simp] def W158_3 := @C.wpe _ _ K158_3.eq_1
def B_impl_clone_impl_Transition : C := .seq (.pl <| .st (.ext 2 0) <|
    .st (.act none (.px (some 1) (.mv (.c (.slice none 0 0))))) .done) K158_3
@[simp] def WB_impl_clone_impl_Transition := @C.wpe _ _ B_impl_clone_impl_Transition.eq_1
def R_impl_clone_impl_Transition : FIR := ⟨B_impl_clone_impl_Transition, 2, [(1, none)]⟩
theorem IR_impl_clone_impl_Transition : cfun Try.prog H_impl_clone_impl_Transition Try.f158 = some R_impl_clone_impl_Transition := by kernel_rfl
theorem EN_impl_clone_impl_Transition {args : List Value} {h : Heap} {k : Value → Heap → Prop} (hargs : args.length = 1) (hw : B_impl_clone_impl_Transition.wp Try.prog (retQ [(1, none)] k) (env0 args 2) h) : CallE Try.prog fn_impl_clone_impl_Transition args h k := enter Try.func158 rfl IR_impl_clone_impl_Transition hargs hw

def H_slices_Clip_S_bool_bool : Hint := ⟨[(0, false), (2, false)], []⟩
def K189_1 : C := .seq (.pl <| .st (.ext 2 6) <|
    .st (.act none (.px (some 2) (.mv (.v 0)))) <|
    .st (.act none (.px (some 3) (.mv (.v 0)))) <|
    .st (.act none (.px (some 4) (.lenV (.v 3)))) <|
    .st (.act none (.px (some 5) (.mv (.v 0)))) <|
    .st (.act none (.px (some 6) (.lenV (.v 5)))) <|
    .st (.act none (.px (some 7) (.sliceV 1 (.v 2) none (some (.v 4)) (some (.v 6))))) <|
    .st (.act none (.px (some 1) (.mv (.v 7)))) .done) (.ret)
@[simp] def W189_1 := @C.wpe _ _ K189_1.eq_1
def B_slices_Clip_S_bool_bool : C := .seq (.pl <| .st (.ext 2 0) <|
    .st (.act none (.px (some 1) (.mv (.c (.slice none 0 0))))) .done) K189_1
@[simp] def WB_slices_Clip_S_bool_bool := @C.wpe _ _ B_slices_Clip_S_bool_bool.eq_1
def R_slices_Clip_S_bool_bool : FIR := ⟨B_slices_Clip_S_bool_bool, 2, [(1, none)]⟩
theorem IR_slices_Clip_S_bool_bool : cfun Try.prog H_slices_Clip_S_bool_bool Try.f189 = some R_slices_Clip_S_bool_bool := by kernel_rfl
theorem EN_slices_Clip_S_bool_bool {args : List Value} {h : Heap} {k : Value → Heap → Prop} (hargs : args.length = 1) (hw : B_slices_Clip_S_bool_bool.wp Try.prog (retQ [(1, none)] k) (env0 args 2) h) : CallE Try.prog fn_slices_Clip_S_bool_bool args h k := enter Try.func189 rfl IR_slices_Clip_S_bool_bool hargs hw

def H_slices_Clip_S_impl_Transition_impl_Transition : Hint := ⟨[(0, false), (2, false)], []⟩
def K191_1 : C := .seq (.pl <| .st (.ext 2 6) <|
    .st (.act none (.px (some 2) (.mv (.v 0)))) <|
    .st (.act none (.px (some 3) (.mv (.v 0)))) <|
    .st (.act none (.px (some 4) (.lenV (.v 3)))) <|
    .st (.act none (.px (some 5) (.mv (.v 0)))) <|
    .st (.act none (.px (some 6) (.lenV (.v 5)))) <|
    .st (.act none (.px (some 7) (.sliceV 4 (.v 2) none (some (.v 4)) (some (.v 6))))) <|
    .st (.act none (.px (some 1) (.mv (.v 7)))) .done) (.ret)
@[simp] def W191_1 := @C.wpe _ _ K191_1.eq_1
def B_slices_Clip_S_impl_Transition_impl_Transition : C := .seq (.pl <| .st (.ext 2 0) <|
    .st (.act none (.px (some 1) (.mv (.c (.slice none 0 0))))) .done) K191_1
@[simp] def WB_slices_Clip_S_impl_Transition_impl_Transition := @C.wpe _ _ B_slices_Clip_S_impl_Transition_impl_Transition.eq_1
def R_slices_Clip_S_impl_Transition_impl_Transition : FIR := ⟨B_slices_Clip_S_impl_Transition_impl_Transition, 2, [(1, none)]⟩
theorem IR_slices_Clip_S_impl_Transition_impl_Transition : cfun Try.prog H_slices_Clip_S_impl_Transition_impl_Transition Try.f191 = some R_slices_Clip_S_impl_Transition_impl_Transition := by kernel_rfl
theorem EN_slices_Clip_S_impl_Transition_impl_Transition {args : List Value} {h : Heap} {k : Value → Heap → Prop} (hargs : args.length = 1) (hw : B_slices_Clip_S_impl_Transition_impl_Transition.wp Try.prog (retQ [(1, none)] k) (env0 args 2) h) : CallE Try.prog fn_slices_Clip_S_impl_Transition_impl_Transition args h k := enter Try.func191 rfl IR_slices_Clip_S_impl_Transition_impl_Transition hargs hw

def H_slices_Clone_S_bool_bool : Hint := ⟨[(0, false), (2, false)], []⟩
def K190_1 : Pl := .st (.act none (.px (some 1) (.mv (.v 4)))) .done
@[simp] def W190_1 := @Pl.wpe _ _ K190_1.eq_1
def K190_2 : C := .seq (.pl <| .st (.ext 2 3) <|
    .st (.act none (.psl 2 [] [])) <|
    .st (.act none (.px (some 3) (.mv (.v 0)))) <|
    .st (.act none (.ex (some 4) (.app 1 1 [.bool false] (.p 0 2) (.o (.v 3))))) K190_1) (.ret)
@[simp] def W190_2 := @C.wpe _ _ K190_2.eq_1
def K190_3 : C := .seq (.pl <| .st (.ext 2 0) <|
    .st (.act none (.px (some 1) (.mv (.c (.slice none 0 0))))) .done) (.ret)
@[simp] def W190_3 := @C.wpe _ _ K190_3.eq_1
def K190_4 : C := .cond 2 (.v 3) K190_3 (.skip)
@[simp] def W190_4 := @C.wpe _ _ K190_4.eq_1
def K190_5 : C := .seq (.seq (.pl <| .st (.ext 2 2) <|
    .st (.act none (.px (some 2) (.mv (.v 0)))) <|
    .st (.act none (.px (some 3) (.isNil false (.v 2)))) .done) K190_4) K190_2
@[simp] def W190_5 := @C.wpe _ _ K190_5.eq_1
def B_slices_Clone_S_bool_bool : C := .seq (.pl <| .st (.ext 2 0) <|
    .st (.act none (.px (some 1) (.mv (.c (.slice none 0 0))))) .done) K190_5
@[simp] def WB_slices_Clone_S_bool_bool := @C.wpe _ _ B_slices_Clone_S_bool_bool.eq_1
def R_slices_Clone_S_bool_bool : FIR := ⟨B_slices_Clone_S_bool_bool, 2, [(1, none)]⟩
theorem IR_slices_Clone_S_bool_bool : cfun Try.prog H_slices_Clone_S_bool_bool Try.f190 = some R_slices_Clone_S_bool_bool := by kernel_rfl
theorem EN_slices_Clone_S_bool_bool {args : List Value} {h : Heap} {k : Value → Heap → Prop} (hargs : args.length = 1) (hw : B_slices_Clone_S_bool_bool.wp Try.prog (retQ [(1, none)] k) (env0 args 2) h) : CallE Try.prog fn_slices_Clone_S_bool_bool args h k := enter Try.func190 rfl IR_slices_Clone_S_bool_bool hargs hw

def H_slices_Clone_S_impl_Transition_impl_Transition : Hint := ⟨[(0, false), (2, false)], []⟩
def K192_1 : Pl := .st (.act none (.px (some 1) (.mv (.v 4)))) .done
@[simp] def W192_1 := @Pl.wpe _ _ K192_1.eq_1
def K192_2 : C := .seq (.pl <| .st (.ext 2 3) <|
    .st (.act none (.psl 2 [] [])) <|
    .st (.act none (.px (some 3) (.mv (.v 0)))) <|
    .st (.act none (.ex (some 4) (.app 32 4 [.int .i64 0, .int .i64 0, .int .i64 0, .int .i64 0] (.p 0 2) (.o (.v 3))))) K192_1) (.ret)
@[simp] def W192_2 := @C.wpe _ _ K192_2.eq_1
def K192_3 : C := .seq (.pl <| .st (.ext 2 0) <|
    .st (.act none (.px (some 1) (.mv (.c (.slice none 0 0))))) .done) (.ret)
@[simp] def W192_3 := @C.wpe _ _ K192_3.eq_1
def K192_4 : C := .cond 2 (.v 3) K192_3 (.skip)
@[simp] def W192_4 := @C.wpe _ _ K192_4.eq_1
def K192_5 : C := .seq (.seq (.pl <| .st (.ext 2 2) <|
    .st (.act none (.px (some 2) (.mv (.v 0)))) <|
    .st (.act none (.px (some 3) (.isNil false (.v 2)))) .done) K192_4) K192_2
@[simp] def W192_5 := @C.wpe _ _ K192_5.eq_1
def B_slices_Clone_S_impl_Transition_impl_Transition : C := .seq (.pl <| .st (.ext 2 0) <|
    .st (.act none (.px (some 1) (.mv (.c (.slice none 0 0))))) .done) K192_5
@[simp] def WB_slices_Clone_S_impl_Transition_impl_Transition := @C.wpe _ _ B_slices_Clone_S_impl_Transition_impl_Transition.eq_1
def R_slices_Clone_S_impl_Transition_impl_Transition : FIR := ⟨B_slices_Clone_S_impl_Transition_impl_Transition, 2, [(1, none)]⟩
theorem IR_slices_Clone_S_impl_Transition_impl_Transition : cfun Try.prog H_slices_Clone_S_impl_Transition_impl_Transition Try.f192 = some R_slices_Clone_S_impl_Transition_impl_Transition := by kernel_rfl
theorem EN_slices_Clone_S_impl_Transition_impl_Transition {args : List Value} {h : Heap} {k : Value → Heap → Prop} (hargs : args.length = 1) (hw : B_slices_Clone_S_impl_Transition_impl_Transition.wp Try.prog (retQ [(1, none)] k) (env0 args 2) h) : CallE Try.prog fn_slices_Clone_S_impl_Transition_impl_Transition args h k := enter Try.func192 rfl IR_slices_Clone_S_impl_Transition_impl_Transition hargs hw


end Go.Proofs.Ytglnelcmcimljaa

/-
  Bodies of functions in the small language, as a program printed them, and that each is what the translation gives.
-/
namespace Go.Proofs.Ytglnelcmcimljaa
open Go
set_option linter.all false
set_option linter.defProp false
set_option maxRecDepth 1000000

def H_impl_clone_int : Hint := ⟨[(0, false), (2, false)], []⟩
def K129_1 : Pl := .st (.act none (.px (some 1) (.mv (.v 4)))) .done
@[simp] def W129_1 := @Pl.wpe _ _ K129_1.eq_1
def K129_2 : Pl := .st (.act none (.ex (some 4) (.call fn_slices_Clip_S_int_int [.v 3]))) K129_1
@[simp] def W129_2 := @Pl.wpe _ _ K129_2.eq_1
def K129_3 : C := .seq (.pl <| .st (.ext 2 3) <|
    .st (.act none (.px (some 2) (.mv (.v 0)))) <|
    .st (.act none (.ex (some 3) (.call fn_slices_Clone_S_int_int [.v 2]))) K129_2) (.ret)
@[simp] def W129_3 := @C.wpe _ _ K129_3.eq_1
def B_impl_clone_int : C := .seq (.pl <| .st (.ext 2 0) <|
    .st (.act none (.px (some 1) (.mv (.c (.slice none 0 0))))) .done) K129_3
@[simp] def WB_impl_clone_int := @C.wpe _ _ B_impl_clone_int.eq_1
def R_impl_clone_int : FIR := ⟨B_impl_clone_int, 2, [(1, none)]⟩
theorem IR_impl_clone_int : cfun Try.prog H_impl_clone_int Try.f129 = some R_impl_clone_int := by kernel_rfl
theorem EN_impl_clone_int {args : List Value} {h : Heap} {k : Value → Heap → Prop} (hargs : args.length = 1) (hw : B_impl_clone_int.wp Try.prog (retQ [(1, none)] k) (env0 args 2) h) : CallE Try.prog fn_impl_clone_int args h k := enter Try.func129 rfl IR_impl_clone_int hargs hw

def H_slices_Clip_S_int_int : Hint := ⟨[(0, false), (2, false)], []⟩
def K72_1 : C := .seq (.pl <| .st (.ext 2 6) <|
    .st (.act none (.px (some 2) (.mv (.v 0)))) <|
    .st (.act none (.px (some 3) (.mv (.v 0)))) <|
    .st (.act none (.px (some 4) (.lenV (.v 3)))) <|
    .st (.act none (.px (some 5) (.mv (.v 0)))) <|
    .st (.act none (.px (some 6) (.lenV (.v 5)))) <|
    .st (.act none (.px (some 7) (.sliceV 1 (.v 2) none (some (.v 4)) (some (.v 6))))) <|
    .st (.act none (.px (some 1) (.mv (.v 7)))) .done) (.ret)
@[simp] def W72_1 := @C.wpe _ _ K72_1.eq_1
def B_slices_Clip_S_int_int : C := .seq (.pl <| .st (.ext 2 0) <|
    .st (.act none (.px (some 1) (.mv (.c (.slice none 0 0))))) .done) K72_1
@[simp] def WB_slices_Clip_S_int_int := @C.wpe _ _ B_slices_Clip_S_int_int.eq_1
def R_slices_Clip_S_int_int : FIR := ⟨B_slices_Clip_S_int_int, 2, [(1, none)]⟩
theorem IR_slices_Clip_S_int_int : cfun Try.prog H_slices_Clip_S_int_int Try.f72 = some R_slices_Clip_S_int_int := by kernel_rfl
theorem EN_slices_Clip_S_int_int {args : List Value} {h : Heap} {k : Value → Heap → Prop} (hargs : args.length = 1) (hw : B_slices_Clip_S_int_int.wp Try.prog (retQ [(1, none)] k) (env0 args 2) h) : CallE Try.prog fn_slices_Clip_S_int_int args h k := enter Try.func72 rfl IR_slices_Clip_S_int_int hargs hw

def H_slices_Clone_S_int_int : Hint := ⟨[(0, false), (2, false)], []⟩
def K164_1 : Pl := .st (.act none (.px (some 1) (.mv (.v 4)))) .done
@[simp] def W164_1 := @Pl.wpe _ _ K164_1.eq_1
def K164_2 : C := .seq (.pl <| .st (.ext 2 3) <|
    .st (.act none (.psl 2 [] [])) <|
    .st (.act none (.px (some 3) (.mv (.v 0)))) <|
    .st (.act none (.ex (some 4) (.app 8 1 [.int .i64 0] (.p 0 2) (.o (.v 3))))) K164_1) (.ret)
@[simp] def W164_2 := @C.wpe _ _ K164_2.eq_1
def K164_3 : C := .seq (.pl <| .st (.ext 2 0) <|
    .st (.act none (.px (some 1) (.mv (.c (.slice none 0 0))))) .done) (.ret)
@[simp] def W164_3 := @C.wpe _ _ K164_3.eq_1
def K164_4 : C := .cond 2 (.v 3) K164_3 (.skip)
@[simp] def W164_4 := @C.wpe _ _ K164_4.eq_1
def K164_5 : C := .seq (.seq (.pl <| .st (.ext 2 2) <|
    .st (.act none (.px (some 2) (.mv (.v 0)))) <|
    .st (.act none (.px (some 3) (.isNil false (.v 2)))) .done) K164_4) K164_2
@[simp] def W164_5 := @C.wpe _ _ K164_5.eq_1
def B_slices_Clone_S_int_int : C := .seq (.pl <| .st (.ext 2 0) <|
    .st (.act none (.px (some 1) (.mv (.c (.slice none 0 0))))) .done) K164_5
@[simp] def WB_slices_Clone_S_int_int := @C.wpe _ _ B_slices_Clone_S_int_int.eq_1
def R_slices_Clone_S_int_int : FIR := ⟨B_slices_Clone_S_int_int, 2, [(1, none)]⟩
theorem IR_slices_Clone_S_int_int : cfun Try.prog H_slices_Clone_S_int_int Try.f164 = some R_slices_Clone_S_int_int := by kernel_rfl
theorem EN_slices_Clone_S_int_int {args : List Value} {h : Heap} {k : Value → Heap → Prop} (hargs : args.length = 1) (hw : B_slices_Clone_S_int_int.wp Try.prog (retQ [(1, none)] k) (env0 args 2) h) : CallE Try.prog fn_slices_Clone_S_int_int args h k := enter Try.func164 rfl IR_slices_Clone_S_int_int hargs hw


end Go.Proofs.Ytglnelcmcimljaa

/-
  Bodies of functions in the small language, as a program printed them, and that each is what the translation gives.
-/
namespace Go.Proofs.Ytglnelcmcimljaa
open Go
set_option linter.all false
set_option linter.defProp false
set_option maxRecDepth 1000000

end Go.Proofs.Ytglnelcmcimljaa

/-
  Bodies of functions in the small language, as a program printed them, and that each is what the translation gives.
-/
namespace Go.Proofs.Ytglnelcmcimljaa
open Go
set_option linter.all false
set_option linter.defProp false
set_option maxRecDepth 1000000

end Go.Proofs.Ytglnelcmcimljaa

/-
  What the helpers of the laws do: copying, counting, comparing, marking. Printed by a program.
-/
namespace Go.Proofs.Ytglnelcmcimljaa
open Go
set_option linter.all false
set_option linter.unusedVariables false
set_option linter.unusedSimpArgs false
set_option linter.defProp false
set_option maxRecDepth 1000000

end Go.Proofs.Ytglnelcmcimljaa

/-
  Instances of functions over slices: copies, and whether some element meets a condition. Printed by a program.
-/
namespace Go.Proofs.Ytglnelcmcimljaa
open Go
set_option linter.all false
set_option linter.unusedVariables false
set_option linter.unusedSimpArgs false
set_option linter.defProp false
set_option maxRecDepth 1000000

theorem c_Clone_int {h : Heap} {a : Value} {x : List Int} (Ra : Rep h a x) (hs : x.length ≤ 1073741824) : CallE Try.prog fn_slices_Clone_S_int_int [a] h (fun v h' => HS h [ow v x] h') := by
  refine CallE.gen fun k hk => EN_slices_Clone_S_int_int rfl ?_
  obtain ⟨b, hb, hb2⟩ := Ra.isNil
  simp -implicitDefEqProofs (disch := first | omega | (simp only [LnZ]; omega)) [wrap64, hb]
  refine IteW.mk (fun h1 => ?_) (fun h1 => ?_)
  · simp -implicitDefEqProofs (disch := first | omega | (simp only [LnZ]; omega)) [wrap64]
    have h2 : x = [] := hb2 h1
    subst h2
    exact RetK.keep (hk _ _ HS.init.nil_ow)
  · simp -implicitDefEqProofs (disch := first | omega | (simp only [LnZ]; omega)) [wrap64]
    refine HS.init.appPL (α := Int) (l2 := x) (u := a) rfl rfl Ra rfl rfl (by omega) fun v h1 H => ?_
    simp -implicitDefEqProofs (disch := first | omega | (simp only [LnZ]; omega)) [wrap64]
    exact RetK.keep (hk _ _ H)

theorem c_Clip_int {g h : Heap} {Γ : List HP} {a : Value} {x : List Int} (H : HS g (ow a x :: Γ) h) : CallE Try.prog fn_slices_Clip_S_int_int [a] h (fun v h' => HS g (ow v x :: Γ) h') := by
  refine CallE.gen fun k hk => EN_slices_Clip_S_int_int rfl ?_
  obtain ⟨v', h1, h2⟩ := H.clip (esz := 1) (k := .i64)
  simp -implicitDefEqProofs (disch := first | omega | (simp only [LnZ]; omega)) [wrap64, H.rep.I, h1]
  exact RetK.keep (hk _ _ h2)

theorem c_clone_int {h : Heap} {a : Value} {x : List Int} (Ra : Rep h a x) (hs : x.length ≤ 1073741824) : CallE Try.prog fn_impl_clone_int [a] h (fun v h' => HS h [ow v x] h') := by
  refine CallE.gen fun k hk => EN_impl_clone_int rfl ?_
  simp -implicitDefEqProofs (disch := first | omega | (simp only [LnZ]; omega)) [wrap64]
  refine (c_Clone_int Ra hs).go ?_
  intro v h1 H
  simp -implicitDefEqProofs (disch := first | omega | (simp only [LnZ]; omega)) [wrap64]
  refine (c_Clip_int H).go ?_
  intro v' h2 H
  simp -implicitDefEqProofs (disch := first | omega | (simp only [LnZ]; omega)) [wrap64]
  exact RetK.keep (hk _ _ H)

theorem c_Clone_bool {h : Heap} {a : Value} {x : List Bool} (Ra : Rep h a x) (hs : x.length ≤ 1073741824) : CallE Try.prog fn_slices_Clone_S_bool_bool [a] h (fun v h' => HS h [ow v x] h') := by
  refine CallE.gen fun k hk => EN_slices_Clone_S_bool_bool rfl ?_
  obtain ⟨b, hb, hb2⟩ := Ra.isNil
  simp -implicitDefEqProofs (disch := first | omega | (simp only [LnZ]; omega)) [wrap64, hb]
  refine IteW.mk (fun h1 => ?_) (fun h1 => ?_)
  · simp -implicitDefEqProofs (disch := first | omega | (simp only [LnZ]; omega)) [wrap64]
    have h2 : x = [] := hb2 h1
    subst h2
    exact RetK.keep (hk _ _ HS.init.nil_ow)
  · simp -implicitDefEqProofs (disch := first | omega | (simp only [LnZ]; omega)) [wrap64]
    refine HS.init.appPL (α := Bool) (l2 := x) (u := a) rfl rfl Ra rfl rfl (by omega) fun v h1 H => ?_
    simp -implicitDefEqProofs (disch := first | omega | (simp only [LnZ]; omega)) [wrap64]
    exact RetK.keep (hk _ _ H)

theorem c_Clip_bool {g h : Heap} {Γ : List HP} {a : Value} {x : List Bool} (H : HS g (ow a x :: Γ) h) : CallE Try.prog fn_slices_Clip_S_bool_bool [a] h (fun v h' => HS g (ow v x :: Γ) h') := by
  refine CallE.gen fun k hk => EN_slices_Clip_S_bool_bool rfl ?_
  obtain ⟨v', h1, h2⟩ := H.clip (esz := 1) (k := .i64)
  simp -implicitDefEqProofs (disch := first | omega | (simp only [LnZ]; omega)) [wrap64, H.rep.B, h1]
  exact RetK.keep (hk _ _ h2)

theorem c_clone_bool {h : Heap} {a : Value} {x : List Bool} (Ra : Rep h a x) (hs : x.length ≤ 1073741824) : CallE Try.prog fn_impl_clone_bool [a] h (fun v h' => HS h [ow v x] h') := by
  refine CallE.gen fun k hk => EN_impl_clone_bool rfl ?_
  simp -implicitDefEqProofs (disch := first | omega | (simp only [LnZ]; omega)) [wrap64]
  refine (c_Clone_bool Ra hs).go ?_
  intro v h1 H
  simp -implicitDefEqProofs (disch := first | omega | (simp only [LnZ]; omega)) [wrap64]
  refine (c_Clip_bool H).go ?_
  intro v' h2 H
  simp -implicitDefEqProofs (disch := first | omega | (simp only [LnZ]; omega)) [wrap64]
  exact RetK.keep (hk _ _ H)

theorem c_Clone_impl_Transition {h : Heap} {a : Value} {x : List Tr} (Ra : Rep h a x) (hs : x.length ≤ 1073741824) : CallE Try.prog fn_slices_Clone_S_impl_Transition_impl_Transition [a] h (fun v h' => HS h [ow v x] h') := by
  refine CallE.gen fun k hk => EN_slices_Clone_S_impl_Transition_impl_Transition rfl ?_
  obtain ⟨b, hb, hb2⟩ := Ra.isNil
  simp -implicitDefEqProofs (disch := first | omega | (simp only [LnZ]; omega)) [wrap64, hb]
  refine IteW.mk (fun h1 => ?_) (fun h1 => ?_)
  · simp -implicitDefEqProofs (disch := first | omega | (simp only [LnZ]; omega)) [wrap64]
    have h2 : x = [] := hb2 h1
    subst h2
    exact RetK.keep (hk _ _ HS.init.nil_ow)
  · simp -implicitDefEqProofs (disch := first | omega | (simp only [LnZ]; omega)) [wrap64]
    refine HS.init.appPL (α := Tr) (l2 := x) (u := a) rfl rfl Ra rfl rfl (by omega) fun v h1 H => ?_
    simp -implicitDefEqProofs (disch := first | omega | (simp only [LnZ]; omega)) [wrap64]
    exact RetK.keep (hk _ _ H)

theorem c_Clip_impl_Transition {g h : Heap} {Γ : List HP} {a : Value} {x : List Tr} (H : HS g (ow a x :: Γ) h) : CallE Try.prog fn_slices_Clip_S_impl_Transition_impl_Transition [a] h (fun v h' => HS g (ow v x :: Γ) h') := by
  refine CallE.gen fun k hk => EN_slices_Clip_S_impl_Transition_impl_Transition rfl ?_
  obtain ⟨v', h1, h2⟩ := H.clip (esz := 4) (k := .i64)
  simp -implicitDefEqProofs (disch := first | omega | (simp only [LnZ]; omega)) [wrap64, H.rep.xTr, h1]
  exact RetK.keep (hk _ _ h2)

theorem c_clone_impl_Transition {h : Heap} {a : Value} {x : List Tr} (Ra : Rep h a x) (hs : x.length ≤ 1073741824) : CallE Try.prog fn_impl_clone_impl_Transition [a] h (fun v h' => HS h [ow v x] h') := by
  refine CallE.gen fun k hk => EN_impl_clone_impl_Transition rfl ?_
  simp -implicitDefEqProofs (disch := first | omega | (simp only [LnZ]; omega)) [wrap64]
  refine (c_Clone_impl_Transition Ra hs).go ?_
  intro v h1 H
  simp -implicitDefEqProofs (disch := first | omega | (simp only [LnZ]; omega)) [wrap64]
  refine (c_Clip_impl_Transition H).go ?_
  intro v' h2 H
  simp -implicitDefEqProofs (disch := first | omega | (simp only [LnZ]; omega)) [wrap64]
  exact RetK.keep (hk _ _ H)

theorem c_IndexFunc_impl_Transition {h : Heap} {a fv : Value} {x : List Tr} (Ra : Rep h a x) {f : FuncId} {c1 c2 : List Value} (hf : fnOf fv = some (f, c1, c2)) (p : Tr → Bool)
    (hp : ∀ h1, h.le h1 → ∀ (i : Nat) (hi : i < x.length) (u : Value), Rep h1 u x[i] → CallE Try.prog f (c1 ++ u :: c2) h1 (fun v h' => h1.le h' ∧ v = .bool (p x[i]))) :
    CallE Try.prog fn_slices_IndexFunc_S_impl_Transition_impl_Transition [a, fv] h (fun v h' => h.le h' ∧ v = .int .i64 (match x.findIdx? p with | some i => (i : Int) | none => -1)) := by
  refine CallE.gen fun k hk => EN_slices_IndexFunc_S_impl_Transition_impl_Transition rfl ?_
  have hL := Ra.lt
  simp -implicitDefEqProofs (disch := first | omega | (simp only [LnZ]; omega)) [wrap64, Ra.len]
  refine wp_count x.length (fun i e h' => e = [some a, some fv, none, none, some (.int .i64 x.length), some (.int .i64 i)] ∧ h.le h' ∧ ∀ (j : Nat) (hj : j < x.length), j < i → p x[j] = false) ⟨rfl, Heap.le.refl h, fun j _ hj => absurd hj (Nat.not_lt_zero j)⟩ ?_
  rintro J i _ h1 hJ hi ⟨rfl, hl, hn⟩
  simp -implicitDefEqProofs (disch := first | omega | (simp only [LnZ]; omega)) [wrap64]
  refine IteW.mk (fun hlt => ?_) (fun hge => ?_)
  · have hlx : i < x.length := by omega
    obtain ⟨u, hu, Ru⟩ := (Ra.le hl).ld hlx
    change hload _ (some (elp 4 a i)) (some 4) = some u at hu
    simp -implicitDefEqProofs (disch := first | omega | (simp only [LnZ]; omega)) [wrap64, (Ra.le hl).X (n := 4) rfl, hu, hf]
    refine (hp h1 hl i hlx u Ru).go ?_
    rintro _ h2 ⟨hl2, rfl⟩
    simp -implicitDefEqProofs (disch := first | omega | (simp only [LnZ]; omega)) [wrap64]
    refine IteW.mk (fun hq => ?_) (fun hq => ?_)
    · simp -implicitDefEqProofs (disch := first | omega | (simp only [LnZ]; omega)) [wrap64]
      refine RetK.keep (hk _ _ ⟨hl.trans hl2, ?_⟩)
      have h3 : x.findIdx? p = some i := by
        rw [List.findIdx?_eq_some_iff_getElem]
        exact ⟨hlx, hq, fun j hj => by rw [hn j (by omega) hj]; simp⟩
      rw [h3]
    · simp -implicitDefEqProofs (disch := first | omega | (simp only [LnZ]; omega)) [wrap64]
      refine hJ _ _ hlx ⟨rfl, hl.trans hl2, fun j hj hji => ?_⟩
      by_cases hji2 : j = i
      · subst hji2; simpa using hq
      · exact hn j hj (by omega)
  · simp -implicitDefEqProofs (disch := first | omega | (simp only [LnZ]; omega)) [wrap64]
    refine RetK.keep (hk _ _ ⟨hl, ?_⟩)
    have h3 : x.findIdx? p = none := by
      rw [List.findIdx?_eq_none_iff]
      intro y hy
      obtain ⟨j, hj, rfl⟩ := List.mem_iff_getElem.1 hy
      exact hn j hj (by omega)
    rw [h3]

theorem c_ContainsFunc_impl_Transition {h : Heap} {a fv : Value} {x : List Tr} (Ra : Rep h a x) {f : FuncId} {c1 c2 : List Value} (hf : fnOf fv = some (f, c1, c2)) (p : Tr → Bool)
    (hp : ∀ h1, h.le h1 → ∀ (i : Nat) (hi : i < x.length) (u : Value), Rep h1 u x[i] → CallE Try.prog f (c1 ++ u :: c2) h1 (fun v h' => h1.le h' ∧ v = .bool (p x[i]))) :
    CallE Try.prog fn_slices_ContainsFunc_S_impl_Transition_impl_Transition [a, fv] h (fun v h' => h.le h' ∧ v = .bool (x.any p)) := by
  refine CallE.gen fun k hk => EN_slices_ContainsFunc_S_impl_Transition_impl_Transition rfl ?_
  simp -implicitDefEqProofs (disch := first | omega | (simp only [LnZ]; omega)) [wrap64]
  refine (c_IndexFunc_impl_Transition Ra hf p hp).go ?_
  rintro _ h1 ⟨hl, rfl⟩
  simp -implicitDefEqProofs (disch := first | omega | (simp only [LnZ]; omega)) [wrap64]
  refine RetK.keep (hk _ _ ⟨hl, ?_⟩)
  congr 1
  rw [← List.findIdx?_isSome]
  cases x.findIdx? p <;> simp

end Go.Proofs.Ytglnelcmcimljaa

/-
  Automata: copies, validity, unions, by the program and by the reference.
-/
namespace Go.Proofs.Ytglnelcmcimljaa
open Go
set_option linter.all false
set_option linter.unusedVariables false
set_option linter.unusedSimpArgs false
set_option linter.defProp false
set_option maxRecDepth 1000000

theorem empty_ow {g h : Heap} {Γ : List HP} (H : HS g Γ h) : HS g (ow (.agg #[.slice none 0 0, .slice none 0 0, .slice none 0 0]) Aut.empty :: Γ) h :=
  HS.mkAut (a := Aut.empty) H.nil_ow.nil_ow.nil_ow

theorem c_copyOf {h : Heap} {v : Value} {a : Aut} (Ra : Rep h v a) (h1 : a.init.length ≤ 1073741824) (h2 : a.acc.length ≤ 1073741824) (h3 : a.edges.length ≤ 1073741824) : CallE Try.prog fn_impl_Automaton_copyOf [v] h (fun v h' => HS h [ow v a] h') := by
  obtain ⟨v1, v2, v3, rfl, R1, R2, R3⟩ := Rep_Aut.1 Ra
  refine CallE.gen fun k hk => EN_impl_Automaton_copyOf rfl ?_
  simp -implicitDefEqProofs (disch := first | omega | (simp only [LnZ]; omega)) [wrap64]
  refine (c_clone_int R1 h1).go ?_
  intro u1 m1 H
  simp -implicitDefEqProofs (disch := first | omega | (simp only [LnZ]; omega)) [wrap64]
  refine (c_clone_bool (R2.on H) h2).go ?_
  intro u2 m2 H2
  have H := H2.app H
  simp -implicitDefEqProofs (disch := first | omega | (simp only [LnZ]; omega)) [wrap64]
  refine (c_clone_impl_Transition (R3.on H) h3).go ?_
  intro u3 m3 H3
  have H := H3.app H
  simp -implicitDefEqProofs (disch := first | omega | (simp only [LnZ]; omega)) [wrap64, H.rep.cells, H.rep.one, H.sw1.rep.cells, H.sw1.rep.one, H.sw2.rep.cells, H.sw2.rep.one, setC]
  exact RetK.keep (hk _ _ (HS.mkAut H.sw1.sw2))

theorem c_in {h : Heap} {n lo hi : Int} : CallE Try.prog fn_impl_in [.int .i64 n, .int .i64 lo, .int .i64 hi] h (fun u h' => h' = h ∧ u = .bool (decide (lo ≤ n ∧ n ≤ hi))) := by
  refine CallE.gen fun k hk => EN_impl_in rfl ?_
  by_cases h1 : lo ≤ n
  · simp -implicitDefEqProofs (disch := first | omega | (simp only [LnZ]; omega)) [wrap64, h1]
    exact RetK.keep (hk _ _ ⟨rfl, by simp [h1]⟩)
  · simp -implicitDefEqProofs (disch := first | omega | (simp only [LnZ]; omega)) [wrap64, h1]
    exact RetK.keep (hk _ _ ⟨rfl, by simp [h1]⟩)

theorem c_l7Edge {h : Heap} {v : Value} {t : Tr} (Rt : Rep h v t) {n : Int} : CallE Try.prog fn_spec_l7Edge [v, .int .i64 n] h (fun u h' => h' = h ∧ u = .bool (decide (t.Ok n))) := by
  rw [(Rep_Tr.1 Rt).1]
  refine CallE.gen fun k hk => EN_spec_l7Edge rfl ?_
  unfold Tr.Ok at hk
  by_cases h1 : 0 ≤ t.frm
  case neg => simp -implicitDefEqProofs (disch := first | omega | (simp only [LnZ]; omega)) [wrap64, Tr.v, h1]; exact RetK.keep (hk _ _ ⟨rfl, by simp [h1]⟩)
  by_cases h2 : t.frm < n
  case neg => simp -implicitDefEqProofs (disch := first | omega | (simp only [LnZ]; omega)) [wrap64, Tr.v, h1, h2]; exact RetK.keep (hk _ _ ⟨rfl, by simp [h2]⟩)
  by_cases h3 : 0 ≤ t.to
  case neg => simp -implicitDefEqProofs (disch := first | omega | (simp only [LnZ]; omega)) [wrap64, Tr.v, h1, h2, h3]; exact RetK.keep (hk _ _ ⟨rfl, by simp [h3]⟩)
  by_cases h4 : t.to < n
  case neg => simp -implicitDefEqProofs (disch := first | omega | (simp only [LnZ]; omega)) [wrap64, Tr.v, h1, h2, h3, h4]; exact RetK.keep (hk _ _ ⟨rfl, by simp [h4]⟩)
  by_cases h5 : 0 ≤ t.care
  case neg => simp -implicitDefEqProofs (disch := first | omega | (simp only [LnZ]; omega)) [wrap64, Tr.v, h1, h2, h3, h4, h5]; exact RetK.keep (hk _ _ ⟨rfl, by simp [h5]⟩)
  by_cases h6 : t.care ≤ 7
  case neg => simp -implicitDefEqProofs (disch := first | omega | (simp only [LnZ]; omega)) [wrap64, Tr.v, h1, h2, h3, h4, h5, h6]; exact RetK.keep (hk _ _ ⟨rfl, by simp [h6]⟩)
  by_cases h7 : 0 ≤ t.value
  case neg => simp -implicitDefEqProofs (disch := first | omega | (simp only [LnZ]; omega)) [wrap64, Tr.v, h1, h2, h3, h4, h5, h6, h7]; exact RetK.keep (hk _ _ ⟨rfl, by simp [h7]⟩)
  simp -implicitDefEqProofs (disch := first | omega | (simp only [LnZ]; omega)) [wrap64, Tr.v, h1, h2, h3, h4, h5, h6, h7]
  exact RetK.keep (hk _ _ ⟨rfl, by simp [h1, h2, h3, h4, h5, h6, h7]⟩)

end Go.Proofs.Ytglnelcmcimljaa

/-
  Which automata are valid, by the program and by the reference.
-/
namespace Go.Proofs.Ytglnelcmcimljaa
open Go
set_option linter.all false
set_option linter.unusedVariables false
set_option linter.unusedSimpArgs false
set_option linter.defProp false
set_option maxRecDepth 1000000

/-- the two ways to say that a number's bits are among another's -/
theorem i64_toInt (x : BitVec 64) : IntKind.i64.wrap (x.toNat : Int) = x.toInt := by
  rw [IntKind.wrap_i64, BitVec.toInt_eq_toNat_bmod, Int.bmod_def]
  have := x.isLt
  split <;> omega
theorem ofInt_toInt {v : Int} (h1 : -9223372036854775808 ≤ v) (h2 : v < 9223372036854775808) : (BitVec.ofInt 64 v).toInt = v := by
  rw [BitVec.toInt_ofInt, Int.bmod_def]; split <;> omega
theorem bits_in {v c : Int} (h1 : -9223372036854775808 ≤ v) (h2 : v < 9223372036854775808) : andNotI .i64 v c = 0 ↔ andI .i64 v c = v := by
  show IntKind.i64.wrap ((BitVec.ofInt 64 v &&& ~~~ BitVec.ofInt 64 c).toNat : Int) = 0 ↔ IntKind.i64.wrap ((BitVec.ofInt 64 v &&& BitVec.ofInt 64 c).toNat : Int) = v
  have hv := ofInt_toInt h1 h2
  rw [i64_toInt, i64_toInt]
  generalize BitVec.ofInt 64 v = x at *
  generalize BitVec.ofInt 64 c = y at *
  subst hv
  rw [BitVec.toInt_inj, show (0 : Int) = (0#64).toInt from rfl, BitVec.toInt_inj]
  constructor
  · intro h
    apply BitVec.eq_of_getLsbD_eq
    intro i hi
    have h3 := congrArg (fun z => z.getLsbD i) h
    simp only [BitVec.getLsbD_and, BitVec.getLsbD_not, hi, decide_true, Bool.true_and, BitVec.getLsbD_zero] at h3
    rw [BitVec.getLsbD_and]
    cases h4 : x.getLsbD i <;> cases h5 : y.getLsbD i <;> simp_all
  · intro h
    apply BitVec.eq_of_getLsbD_eq
    intro i hi
    have h3 := congrArg (fun z => z.getLsbD i) h
    simp only [BitVec.getLsbD_and] at h3
    rw [BitVec.getLsbD_and, BitVec.getLsbD_not, BitVec.getLsbD_zero]
    cases h4 : x.getLsbD i <;> cases h5 : y.getLsbD i <;> simp_all

theorem c_AutomatonValid_1 {h : Heap} {v : Value} {t : Tr} (Rt : Rep h v t) {b : Nat} {n : Int} (hn : 1 ≤ n ∧ n < 4611686018427387904) (hb : hload h (some (.pointer (some ⟨b, 0, none⟩))) none = some (.int .i64 n)) :
    CallE Try.prog fn_impl_AutomatonValid_1 [v, .pointer (some ⟨b, 0, none⟩)] h (fun u h' => h' = h ∧ u = .bool (!decide (t.Ok n))) := by
  have ht := (Rep_Tr.1 Rt).2
  rw [(Rep_Tr.1 Rt).1]
  have e0 := ht.value
  refine CallE.gen fun k hk => EN_impl_AutomatonValid_1 rfl ?_
  simp -implicitDefEqProofs (disch := first | omega | (simp only [LnZ]; omega)) [wrap64, Tr.v, hb]
  refine c_in.go ?_
  rintro _ _ ⟨rfl, rfl⟩
  by_cases h1 : 0 ≤ t.frm ∧ t.frm ≤ n - 1
  case neg =>
    simp -implicitDefEqProofs (disch := first | omega | (simp only [LnZ]; omega)) [wrap64, h1]
    have hno : ¬ t.Ok n := fun ho => h1 (by unfold Tr.Ok at ho; omega)
    exact RetK.keep (hk _ _ ⟨rfl, by simp [hno]⟩)
  simp -implicitDefEqProofs (disch := first | omega | (simp only [LnZ]; omega)) [wrap64, h1, hb]
  refine c_in.go ?_
  rintro _ _ ⟨rfl, rfl⟩
  by_cases h2 : 0 ≤ t.to ∧ t.to ≤ n - 1
  case neg =>
    simp -implicitDefEqProofs (disch := first | omega | (simp only [LnZ]; omega)) [wrap64, h2]
    have hno : ¬ t.Ok n := fun ho => h2 (by unfold Tr.Ok at ho; omega)
    exact RetK.keep (hk _ _ ⟨rfl, by simp [hno]⟩)
  simp -implicitDefEqProofs (disch := first | omega | (simp only [LnZ]; omega)) [wrap64, h2]
  refine c_in.go ?_
  rintro _ _ ⟨rfl, rfl⟩
  by_cases h3 : 0 ≤ t.care ∧ t.care ≤ 7
  case neg =>
    simp -implicitDefEqProofs (disch := first | omega | (simp only [LnZ]; omega)) [wrap64, h3]
    have hno : ¬ t.Ok n := fun ho => h3 (by unfold Tr.Ok at ho; omega)
    exact RetK.keep (hk _ _ ⟨rfl, by simp [hno]⟩)
  by_cases h4 : t.value < 0
  case pos =>
    simp -implicitDefEqProofs (disch := first | omega | (simp only [LnZ]; omega)) [wrap64, h3, h4]
    have hno : ¬ t.Ok n := fun ho => by unfold Tr.Ok at ho; omega
    exact RetK.keep (hk _ _ ⟨rfl, by simp [hno]⟩)
  simp -implicitDefEqProofs (disch := first | omega | (simp only [LnZ]; omega)) [wrap64, h3, h4]
  refine RetK.keep (hk _ _ ⟨rfl, ?_⟩)
  have h5 := bits_in (c := t.care) e0.1 e0.2
  by_cases h6 : andNotI .i64 t.value t.care = 0
  · have hyes : t.Ok n := ⟨by omega, by omega, by omega, by omega, by omega, by omega, by omega, h5.1 h6⟩
    simp [h6, hyes]
  · have hno : ¬ t.Ok n := fun h => h6 (h5.2 h.2.2.2.2.2.2.2)
    simp [h6, hno]

theorem drop_cons {α : Type} {l : List α} {i : Nat} (hi : i < l.length) : l.drop i = l[i] :: l.drop (i + 1) := List.drop_eq_getElem_cons hi

theorem incr_cons {n lo x : Int} {l : List Int} : incr n lo (x :: l) ↔ lo < x ∧ x < n ∧ incr n x l := Iff.rfl

theorem c_AutomatonValid {h : Heap} {v : Value} {a : Aut} (Ra : Rep h v a) : CallE Try.prog fn_impl_AutomatonValid [v] h (fun u h' => h.le h' ∧ u = .bool (decide a.Ok)) := by
  obtain ⟨v1, v2, v3, rfl, R1, R2, R3⟩ := Rep_Aut.1 Ra
  refine CallE.gen fun k hk => EN_impl_AutomatonValid rfl ?_
  have l1 := R1.lt
  have l2 := R2.lt
  simp -implicitDefEqProofs (disch := first | omega | (simp only [LnZ]; omega)) [wrap64, R1.len, R2.len, R3.len]
  refine HS.init.alloc rfl fun b h1 H => ?_
  simp -implicitDefEqProofs (disch := first | omega | (simp only [LnZ]; omega)) [wrap64]
  refine H.bxst (u := .int .i64 a.acc.length) rfl rfl rfl rfl (by simp) fun h2 H => ?_
  simp only [setC, cells_int, List.take_zero, List.nil_append] at H
  simp -implicitDefEqProofs (disch := first | omega | (simp only [LnZ]; omega)) [wrap64, R1.len, R2.len, R3.len]
  have H : HS h [bx b [.int .i64 a.acc.length]] h2 := H
  refine wp_count a.init.length (fun i e h' => h' = h2 ∧ ∃ last : Int, e = [none, some (.agg #[v1, v2, v3]), none, some (.pointer (some ⟨b, 0, none⟩)), some (.int .i64 last), none, some v1, some (.int .i64 a.init.length), some (.int .i64 i)] ∧
      -1 ≤ last ∧ last < 4611686018427387904 ∧ (incr a.acc.length (-1) a.init ↔ incr a.acc.length last (a.init.drop i))) ⟨rfl, -1, rfl, by omega, by omega, by simp⟩ ?_
  rintro J i _ _ hJ hi ⟨rfl, last, rfl, hl1, hl2, hin⟩
  simp -implicitDefEqProofs (disch := first | omega | (simp only [LnZ]; omega)) [wrap64]
  refine IteW.mk (fun hlt => ?_) (fun hge => ?_)
  · have hlx : i < a.init.length := by omega
    simp -implicitDefEqProofs (disch := first | omega | (simp only [LnZ]; omega)) [wrap64, (R1.on H).I, H.bxld0]
    refine c_in.go ?_
    rintro _ _ ⟨rfl, rfl⟩
    simp -implicitDefEqProofs (disch := first | omega | (simp only [LnZ]; omega)) [wrap64]
    rw [drop_cons hlx, incr_cons] at hin
    refine IteW.mk (fun hn => ?_) (fun hn => ?_)
    · simp -implicitDefEqProofs (disch := first | omega | (simp only [LnZ]; omega)) [wrap64]
      refine RetK.keep (hk _ _ ⟨H.base, ?_⟩)
      have : ¬ a.Ok := by
        intro ho
        have := hin.1 ho.i
        omega
      simp [this]
    · simp -implicitDefEqProofs (disch := first | omega | (simp only [LnZ]; omega)) [wrap64]
      exact hJ _ _ hlx ⟨rfl, _, rfl, by omega, by omega, hin.trans ⟨fun h => h.2.2, fun h => ⟨by omega, by omega, h⟩⟩⟩
  · simp -implicitDefEqProofs (disch := first | omega | (simp only [LnZ]; omega)) [wrap64, H.bxld0]
    have hin : incr a.acc.length (-1) a.init := hin.2 (by rw [List.drop_eq_nil_of_le (by omega)]; trivial)
    refine c_in.go ?_
    rintro _ _ ⟨rfl, rfl⟩
    by_cases hn : 1 ≤ (a.acc.length : Int) ∧ (a.acc.length : Int) ≤ 64
    case neg =>
      simp -implicitDefEqProofs (disch := first | omega | (simp only [LnZ]; omega)) [wrap64, hn]
      refine RetK.keep (hk _ _ ⟨H.base, ?_⟩)
      have : ¬ a.Ok := fun ho => hn (by have := ho.n; omega)
      simp [this]
    by_cases he : (a.edges.length : Int) ≤ 2048
    case neg =>
      simp -implicitDefEqProofs (disch := first | omega | (simp only [LnZ]; omega)) [wrap64, hn, he, R3.len]
      refine RetK.keep (hk _ _ ⟨H.base, ?_⟩)
      have : ¬ a.Ok := fun ho => he (by have := ho.e; omega)
      simp [this]
    simp -implicitDefEqProofs (disch := first | omega | (simp only [LnZ]; omega)) [wrap64, hn, he, R3.len]
    refine (c_ContainsFunc_impl_Transition (R3.on H) (c1 := []) (fnOf_func) (fun t => !decide (t.Ok a.acc.length)) ?_).go ?_
    · intro h3 hl j hj u Ru
      exact (c_AutomatonValid_1 Ru (by omega) (hload_le hl H.bxld0)).to fun _ _ ⟨h4, h5⟩ => ⟨h4 ▸ Heap.le.refl _, h5⟩
    · rintro _ h3 ⟨hl, rfl⟩
      simp -implicitDefEqProofs (disch := first | omega | (simp only [LnZ]; omega)) [wrap64]
      refine RetK.keep (hk _ _ ⟨H.base.trans hl, ?_⟩)
      congr 1
      have hnn : 1 ≤ a.acc.length ∧ a.acc.length ≤ 64 := by omega
      have hee : a.edges.length ≤ 2048 := by omega
      simp only [Aut.Ok, hnn, hee, hin, true_and]
      rw [Bool.eq_iff_iff]
      simp

theorem c_spec_AutomatonValid {h : Heap} {v : Value} {a : Aut} (Ra : Rep h v a) : CallE Try.prog fn_spec_AutomatonValid [v] h (fun u h' => h' = h ∧ u = .bool (decide a.Ok)) := by
  obtain ⟨v1, v2, v3, rfl, R1, R2, R3⟩ := Rep_Aut.1 Ra
  refine CallE.gen fun k hk => EN_spec_AutomatonValid rfl ?_
  have l1 := R1.lt
  have l2 := R2.lt
  have l3 := R3.lt
  simp -implicitDefEqProofs (disch := first | omega | (simp only [LnZ]; omega)) [wrap64, R1.len, R2.len, R3.len]
  by_cases h1 : (a.acc.length : Int) < 1
  case pos =>
    simp -implicitDefEqProofs (disch := first | omega | (simp only [LnZ]; omega)) [wrap64, h1]
    have hno : ¬ a.Ok := fun ho => by have := ho.n; omega
    exact RetK.keep (hk _ _ ⟨rfl, by simp [hno]⟩)
  by_cases h2 : 64 < (a.acc.length : Int)
  case pos =>
    simp -implicitDefEqProofs (disch := first | omega | (simp only [LnZ]; omega)) [wrap64, h1, h2]
    have hno : ¬ a.Ok := fun ho => by have := ho.n; omega
    exact RetK.keep (hk _ _ ⟨rfl, by simp [hno]⟩)
  by_cases h3 : (a.acc.length : Int) < a.init.length
  case pos =>
    simp -implicitDefEqProofs (disch := first | omega | (simp only [LnZ]; omega)) [wrap64, h1, h2, R1.len, h3]
    have hno : ¬ a.Ok := fun ho => by
      have h1 := incr_len ho.i (by have := ho.n; omega)
      omega
    exact RetK.keep (hk _ _ ⟨rfl, by simp [hno]⟩)
  by_cases h4 : 2048 < (a.edges.length : Int)
  case pos =>
    simp -implicitDefEqProofs (disch := first | omega | (simp only [LnZ]; omega)) [wrap64, h1, h2, R1.len, h3, R3.len, h4]
    have hno : ¬ a.Ok := fun ho => by have := ho.e; omega
    exact RetK.keep (hk _ _ ⟨rfl, by simp [hno]⟩)
  simp -implicitDefEqProofs (disch := first | omega | (simp only [LnZ]; omega)) [wrap64, h1, h2, R1.len, h3, R3.len, h4]
  refine wp_count a.init.length (fun i e h' => h' = h ∧ e = [none, some (.agg #[v1, v2, v3]), none, some (.int .i64 a.acc.length), some (.int .i64 i), none] ∧
      (incr a.acc.length (-1) a.init ↔ incr a.acc.length (if i = 0 then -1 else a.init.getD (i - 1) 0) (a.init.drop i))) ⟨rfl, rfl, by simp⟩ ?_
  rintro J i _ _ hJ hi ⟨rfl, rfl, hin⟩
  simp -implicitDefEqProofs (disch := first | omega | (simp only [LnZ]; omega)) [wrap64, R1.len]
  refine IteW.mk (fun hlt => ?_) (fun hge => ?_)
  · have hlx : i < a.init.length := by omega
    rw [drop_cons hlx, incr_cons] at hin
    have hgd : a.init.getD (i + 1 - 1) 0 = a.init[i] := by simp [hlx]
    by_cases h5 : a.init[i] < 0
    case pos =>
      simp -implicitDefEqProofs (disch := first | omega | (simp only [LnZ]; omega)) [wrap64, R1.I, h5]
      have hno : ¬ a.Ok := fun ho => by have := ho.im hlx; omega
      exact RetK.keep (hk _ _ ⟨rfl, by simp [hno]⟩)
    by_cases h6 : (a.acc.length : Int) ≤ a.init[i]
    case pos =>
      simp -implicitDefEqProofs (disch := first | omega | (simp only [LnZ]; omega)) [wrap64, R1.I, h5, h6]
      have hno : ¬ a.Ok := fun ho => by have := ho.im hlx; omega
      exact RetK.keep (hk _ _ ⟨rfl, by simp [hno]⟩)
    by_cases h7 : 0 < i
    · have hj : i - 1 < a.init.length := by omega
      have hii : (i : Int) - 1 = ((i - 1 : Nat) : Int) := by omega
      have hw : IntKind.i64.wrap ((i : Int) - 1) = ((i - 1 : Nat) : Int) := by rw [wrap64 (by omega) (by omega), hii]
      have hgd2 : a.init.getD (i - 1) 0 = a.init[i - 1] := by simp [hj]
      rw [if_neg (by omega), hgd2] at hin
      simp -implicitDefEqProofs (disch := first | omega | (simp only [LnZ]; omega)) [wrap64, R1.I, h5, h6, h7, hw]
      refine IteW.mk (fun h8 => ?_) (fun h8 => ?_)
      · simp -implicitDefEqProofs (disch := first | omega | (simp only [LnZ]; omega)) [wrap64]
        have hno : ¬ a.Ok := fun ho => by have := (hin.1 ho.i).1; omega
        exact RetK.keep (hk _ _ ⟨rfl, by simp [hno]⟩)
      · simp -implicitDefEqProofs (disch := first | omega | (simp only [LnZ]; omega)) [wrap64]
        exact hJ _ _ hlx ⟨rfl, rfl, by rw [if_neg (by omega), hgd]; exact hin.trans ⟨fun h => h.2.2, fun h => ⟨by omega, by omega, h⟩⟩⟩
    · have h0 : i = 0 := by omega
      subst h0
      rw [if_pos rfl] at hin
      simp -implicitDefEqProofs (disch := first | omega | (simp only [LnZ]; omega)) [wrap64, R1.I, h5, h6]
      exact hJ _ _ hlx ⟨rfl, rfl, by rw [if_neg (by omega), hgd]; exact hin.trans ⟨fun h => h.2.2, fun h => ⟨by omega, by omega, h⟩⟩⟩
  · have hin : incr a.acc.length (-1) a.init := hin.2 (by rw [List.drop_eq_nil_of_le (by omega)]; trivial)
    simp -implicitDefEqProofs (disch := first | omega | (simp only [LnZ]; omega)) [wrap64]
    refine wp_count a.edges.length (fun i e h' => h' = _ ∧ e = [none, some (.agg #[v1, v2, v3]), none, some (.int .i64 a.acc.length), none, some (.int .i64 i)] ∧
      ∀ (j : Nat) (hj : j < a.edges.length), j < i → a.edges[j].Ok a.acc.length) ⟨rfl, rfl, fun j _ hj => absurd hj (Nat.not_lt_zero j)⟩ ?_
    rintro J i _ _ hJ hi ⟨rfl, rfl, hn⟩
    simp -implicitDefEqProofs (disch := first | omega | (simp only [LnZ]; omega)) [wrap64, R3.len]
    refine IteW.mk (fun hlt => ?_) (fun hge => ?_)
    · have hlx : i < a.edges.length := by omega
      simp -implicitDefEqProofs (disch := first | omega | (simp only [LnZ]; omega)) [wrap64, R3.xTr]
      refine (c_l7Edge (Rep_Tr.2 ⟨rfl, R3.okTr hlx⟩)).go ?_
      rintro _ _ ⟨rfl, rfl⟩
      simp -implicitDefEqProofs (disch := first | omega | (simp only [LnZ]; omega)) [wrap64]
      refine IteW.mkr (fun h8 => ?_) (fun h8 => ?_)
      · simp -implicitDefEqProofs (disch := first | omega | (simp only [LnZ]; omega)) [wrap64]
        have hno : ¬ a.Ok := fun ho => h8 (ho.t hlx)
        exact RetK.keep (hk _ _ ⟨rfl, by simp [hno]⟩)
      · simp -implicitDefEqProofs (disch := first | omega | (simp only [LnZ]; omega)) [wrap64]
        refine hJ _ _ hlx ⟨rfl, rfl, fun j hj hji => ?_⟩
        by_cases hji2 : j = i
        · subst hji2; exact h8
        · exact hn j hj (by omega)
    · simp -implicitDefEqProofs (disch := first | omega | (simp only [LnZ]; omega)) [wrap64]
      have hyes : a.Ok := ⟨by omega, by omega, hin, fun t ht => by
        obtain ⟨j, hj, rfl⟩ := List.mem_iff_getElem.1 ht
        exact hn j hj (by omega)⟩
      exact RetK.keep (hk _ _ ⟨rfl, by simp [hyes]⟩)
end Go.Proofs.Ytglnelcmcimljaa

/-
  Search in slices; lists of successors; what can be reached.
-/
namespace Go.Proofs.Ytglnelcmcimljaa
open Go
set_option linter.all false
set_option linter.unusedVariables false
set_option linter.unusedSimpArgs false
set_option linter.defProp false
set_option maxRecDepth 1000000

section
variable {α : Type} [Ty α] {g h : Heap} {Γ : List HP} {v u : Value} {l : List α}
/-- the elements behind a place are given up -/
theorem HS.cut (H : HS g (ow v l :: Γ) h) {n esz : Nat} {k : IntKind} (hn : n ≤ l.length) : ∃ v', sliceVV esz v none (some (some (.int k n))) none = some v' ∧ HS g (ow v' (l.take n) :: Γ) h := by
  obtain ⟨g', r, rfl, d, O, H⟩ := H
  rcases Own_list.1 O with ⟨p, rfl, rfl, rfl, hp⟩ | ⟨b, off, cap, cells, el, r', rfl, ⟨h1, hM⟩, h2, rfl, h4, h5⟩
  · have hn0 : n = 0 := by simpa using hn
    subst hn0
    exact ⟨.slice p 0 0, by simp [sliceVV, bndV], g', Heap.nil, rfl, d, Own_list.2 (.inl ⟨p, rfl, by simp, rfl, hp⟩), H⟩
  · rw [← List.take_append_drop n l] at h5
    obtain ⟨r1, r2, rfl, d2, h6, h7⟩ := ownL_split h5
    obtain ⟨d3, d4⟩ := Dj_add.1 d
    obtain ⟨d5, d6⟩ := Dj_add.1 d4
    obtain ⟨n1, n2⟩ : r1 b = none ∧ r2 b = none := by simpa [Heap.add] using h4
    refine ⟨.slice (some ⟨b, off, none⟩) n cap, ?_, g'.add r2, (Heap.one b (.cells cells.toArray el (0, 0))).add r1, by ac_rfl, ?_, ?_, H.le (le_add d6)⟩
    · have : n ≤ cap := by omega
      simp [sliceVV, bndV, add_none, this]
    · exact Dj_add.2 ⟨add_Dj.2 ⟨d3, (Dj_one.2 n2)⟩, add_Dj.2 ⟨d5, d2.symm⟩⟩
    · have hl : (l.take n).length = n := by simp; omega
      exact Own_list.2 (.inr ⟨b, off, cap, cells, el, r1, by rw [hl], ⟨by omega, by omega⟩, h2, rfl, n1, h6⟩)
end

theorem c_Index_int {h : Heap} {a : Value} {x : List Int} (Ra : Rep h a x) {n : Int} : CallE Try.prog fn_slices_Index_S_int_int [a, .int .i64 n] h (fun v h' => h' = h ∧ ∃ r : Int, v = .int .i64 r ∧ (0 ≤ r ↔ n ∈ x)) := by
  refine CallE.gen fun k hk => EN_slices_Index_S_int_int rfl ?_
  have hL := Ra.lt
  simp -implicitDefEqProofs (disch := first | omega | (simp only [LnZ]; omega)) [wrap64, Ra.len]
  refine wp_count x.length (fun i e h' => e = [some a, some (.int .i64 n), none, none, some (.int .i64 x.length), some (.int .i64 i)] ∧ h' = h ∧ ∀ (j : Nat) (hj : j < x.length), j < i → x[j] ≠ n) ⟨rfl, rfl, fun j _ hj => absurd hj (Nat.not_lt_zero j)⟩ ?_
  rintro J i _ h1 hJ hi ⟨rfl, rfl, hn⟩
  simp -implicitDefEqProofs (disch := first | omega | (simp only [LnZ]; omega)) [wrap64]
  refine IteW.mk (fun hlt => ?_) (fun hge => ?_)
  · have hlx : i < x.length := by omega
    simp -implicitDefEqProofs (disch := first | omega | (simp only [LnZ]; omega)) [wrap64, Ra.I]
    refine IteW.mk (fun hq => ?_) (fun hq => ?_)
    · simp -implicitDefEqProofs (disch := first | omega | (simp only [LnZ]; omega)) [wrap64]
      exact RetK.keep (hk _ _ ⟨rfl, i, rfl, by simp only [Int.natCast_nonneg, true_iff]; rw [hq]; exact List.getElem_mem hlx⟩)
    · simp -implicitDefEqProofs (disch := first | omega | (simp only [LnZ]; omega)) [wrap64]
      refine hJ _ _ hlx ⟨rfl, rfl, fun j hj hji => ?_⟩
      by_cases hji2 : j = i
      · subst hji2; exact fun e => hq e.symm
      · exact hn j hj (by omega)
  · simp -implicitDefEqProofs (disch := first | omega | (simp only [LnZ]; omega)) [wrap64]
    refine RetK.keep (hk _ _ ⟨rfl, -1, rfl, ?_⟩)
    simp only [show ¬ (0 : Int) ≤ -1 by decide, false_iff]
    intro hm
    obtain ⟨j, hj, h1⟩ := List.mem_iff_getElem.1 hm
    exact hn j hj (by omega) h1

theorem c_Contains_int {h : Heap} {a : Value} {x : List Int} (Ra : Rep h a x) {n : Int} : CallE Try.prog fn_slices_Contains_S_int_int [a, .int .i64 n] h (fun v h' => h' = h ∧ v = .bool (decide (n ∈ x))) := by
  refine CallE.gen fun k hk => EN_slices_Contains_S_int_int rfl ?_
  simp -implicitDefEqProofs (disch := first | omega | (simp only [LnZ]; omega)) [wrap64]
  refine (c_Index_int Ra).go ?_
  rintro _ h1 ⟨rfl, r, rfl, hr⟩
  simp -implicitDefEqProofs (disch := first | omega | (simp only [LnZ]; omega)) [wrap64]
  exact RetK.keep (hk _ _ ⟨rfl, by congr 1; rw [Bool.eq_iff_iff]; simp [hr]⟩)

theorem c_l4In {h : Heap} {a : Value} {x : List Int} (Ra : Rep h a x) {n : Int} : CallE Try.prog fn_spec_l4In [a, .int .i64 n] h (fun v h' => h' = h ∧ v = .bool (decide (n ∈ x))) := by
  refine CallE.gen fun k hk => EN_spec_l4In rfl ?_
  have hL := Ra.lt
  simp -implicitDefEqProofs (disch := first | omega | (simp only [LnZ]; omega)) [wrap64]
  refine wp_count x.length (fun i e h' => e = [some a, some (.int .i64 n), none, some (.int .i64 i)] ∧ h' = h ∧ ∀ (j : Nat) (hj : j < x.length), j < i → x[j] ≠ n) ⟨rfl, rfl, fun j _ hj => absurd hj (Nat.not_lt_zero j)⟩ ?_
  rintro J i _ h1 hJ hi ⟨rfl, rfl, hn⟩
  simp -implicitDefEqProofs (disch := first | omega | (simp only [LnZ]; omega)) [wrap64, Ra.len]
  refine IteW.mk (fun hlt => ?_) (fun hge => ?_)
  · have hlx : i < x.length := by omega
    simp -implicitDefEqProofs (disch := first | omega | (simp only [LnZ]; omega)) [wrap64, Ra.I]
    refine IteW.mk (fun hq => ?_) (fun hq => ?_)
    · simp -implicitDefEqProofs (disch := first | omega | (simp only [LnZ]; omega)) [wrap64]
      exact RetK.keep (hk _ _ ⟨rfl, by congr 1; rw [eq_comm, decide_eq_true_iff, ← hq]; exact List.getElem_mem hlx⟩)
    · simp -implicitDefEqProofs (disch := first | omega | (simp only [LnZ]; omega)) [wrap64]
      refine hJ _ _ hlx ⟨rfl, rfl, fun j hj hji => ?_⟩
      by_cases hji2 : j = i
      · subst hji2; exact hq
      · exact hn j hj (by omega)
  · simp -implicitDefEqProofs (disch := first | omega | (simp only [LnZ]; omega)) [wrap64]
    refine RetK.keep (hk _ _ ⟨rfl, ?_⟩)
    congr 1
    rw [eq_comm, decide_eq_false_iff_not]
    intro hm
    obtain ⟨j, hj, h1⟩ := List.mem_iff_getElem.1 hm
    exact hn j hj (by omega) h1

theorem c_next {h : Heap} {v : Value} {a : Aut} (Ra : Rep h v a) (ha : a.Ok) : CallE Try.prog fn_impl_Automaton_next [v] h (fun u h' => ∃ G, HS h [ow u G] h' ∧ Adj a.E G ∧ G.length = a.acc.length) := by
  obtain ⟨v1, v2, v3, rfl, R1, R2, R3⟩ := Rep_Aut.1 Ra
  refine CallE.gen fun k hk => EN_impl_Automaton_next rfl ?_
  have hn := ha.n
  have he := ha.e
  simp -implicitDefEqProofs (disch := first | omega | (simp only [LnZ]; omega)) [wrap64, R2.len]
  refine HS.init.mks (α := List Int) (z := []) rfl rfl own_nils (Nat.le_refl _) (by omega) (by omega) fun w h1 H => ?_
  simp -implicitDefEqProofs (disch := first | omega | (simp only [LnZ]; omega)) [wrap64, (R3.on H).len]
  refine wp_count a.edges.length (fun i e h' => ∃ G, e = [none, none, none, some w, none, some v3, some (.int .i64 a.edges.length), some (.int .i64 i)] ∧ HS h [ow w G] h' ∧ NextI a i G) ⟨_, by simp, H, NextI.zero⟩ ?_
  rintro J i _ h2 hJ hi ⟨G, rfl, H, hG⟩
  simp -implicitDefEqProofs (disch := first | omega | (simp only [LnZ]; omega)) [wrap64]
  refine IteW.mk (fun hlt => ?_) (fun hge => ?_)
  · have hlx : i < a.edges.length := by omega
    have hx := ha.t hlx
    unfold Tr.Ok at hx
    obtain ⟨f, hf⟩ : ∃ f : Nat, a.edges[i].frm = f := ⟨a.edges[i].frm.toNat, by omega⟩
    obtain ⟨t, ht⟩ : ∃ t : Nat, a.edges[i].to = t := ⟨a.edges[i].to.toNat, by omega⟩
    have hfG : f < G.length := by rw [hG.len]; omega
    have hle := hG.le f hfG
    have R3' := R3.on H
    obtain ⟨u, hu, H⟩ := H.take hfG
    change hload _ (some (elp 1 w f)) none = some u at hu
    simp -implicitDefEqProofs (disch := first | omega | (simp only [LnZ]; omega)) [wrap64, R3'.xTr, Tr.v, setC, hf, ht, H.sw1.holeia (n := 1) rfl, hu]
    refine H.app1 (t : Int) rfl rfl rfl ⟨by omega, by omega⟩ rfl rfl (by omega) (by omega) fun u' h3 H => ?_
    simp -implicitDefEqProofs (disch := first | omega | (simp only [LnZ]; omega)) [wrap64, H.sw1.holeia (n := 1) rfl]
    refine H.storeH rfl rfl rfl fun h4 H => ?_
    simp -implicitDefEqProofs (disch := first | omega | (simp only [LnZ]; omega)) [wrap64]
    exact hJ _ _ hlx ⟨_, rfl, H, hG.step hlx hf ht hfG⟩
  · simp -implicitDefEqProofs (disch := first | omega | (simp only [LnZ]; omega)) [wrap64]
    exact RetK.keep (hk _ _ ⟨G, H, hG.done ha (by omega), hG.len⟩)

theorem c_l7Next {h : Heap} {v : Value} {a : Aut} (Ra : Rep h v a) (ha : a.Ok) : CallE Try.prog fn_spec_l7Next [v] h (fun u h' => ∃ G, HS h [ow u G] h' ∧ Adj a.E G ∧ G.length = a.acc.length ∧ ∀ x (hx : x < G.length), G[x].length ≤ 2048) := by
  obtain ⟨v1, v2, v3, rfl, R1, R2, R3⟩ := Rep_Aut.1 Ra
  refine CallE.gen fun k hk => EN_spec_l7Next rfl ?_
  have hn := ha.n
  have he := ha.e
  simp -implicitDefEqProofs (disch := first | omega | (simp only [LnZ]; omega)) [wrap64, R2.len]
  refine HS.init.mks (α := List Int) (z := []) rfl rfl own_nils (Nat.le_refl _) (by omega) (by omega) fun w h1 H => ?_
  simp -implicitDefEqProofs (disch := first | omega | (simp only [LnZ]; omega)) [wrap64]
  refine wp_count a.edges.length (fun i e h' => ∃ G, e = [none, some (.agg #[v1, v2, v3]), none, some w, some (.int .i64 i), none] ∧ HS h [ow w G] h' ∧ NextI a i G) ⟨_, by simp, H, NextI.zero⟩ ?_
  rintro J i _ h2 hJ hi ⟨G, rfl, H, hG⟩
  simp -implicitDefEqProofs (disch := first | omega | (simp only [LnZ]; omega)) [wrap64, (R3.on H).len]
  refine IteW.mk (fun hlt => ?_) (fun hge => ?_)
  · have hlx : i < a.edges.length := by omega
    have hx := ha.t hlx
    unfold Tr.Ok at hx
    obtain ⟨f, hf⟩ : ∃ f : Nat, a.edges[i].frm = f := ⟨a.edges[i].frm.toNat, by omega⟩
    obtain ⟨t, ht⟩ : ∃ t : Nat, a.edges[i].to = t := ⟨a.edges[i].to.toNat, by omega⟩
    have hfG : f < G.length := by rw [hG.len]; omega
    have hle := hG.le f hfG
    have R3' := R3.on H
    obtain ⟨u, hu, Ru⟩ := H.rep.ldL hfG
    simp -implicitDefEqProofs (disch := first | omega | (simp only [LnZ]; omega)) [wrap64, R3'.xTr, Tr.v, setC, hf, ht, H.rep.X (n := 1) rfl, hu]
    refine (c_l4In Ru).go ?_
    rintro _ _ ⟨rfl, rfl⟩
    by_cases hm : (t : Int) ∈ G[f]
    · simp -implicitDefEqProofs (disch := first | omega | (simp only [LnZ]; omega)) [wrap64, hm]
      exact hJ _ _ hlx ⟨_, by simp, H, hG.skip hlx hf ht hfG hm⟩
    · obtain ⟨u, hu, H⟩ := H.take hfG
      change hload _ (some (elp 1 w f)) none = some u at hu
      simp -implicitDefEqProofs (disch := first | omega | (simp only [LnZ]; omega)) [wrap64, hm, hf, ht, H.sw1.holeia (n := 1) rfl, hu]
      refine H.app1 (t : Int) rfl rfl rfl ⟨by omega, by omega⟩ rfl rfl (by omega) (by omega) fun u' h3 H => ?_
      simp -implicitDefEqProofs (disch := first | omega | (simp only [LnZ]; omega)) [wrap64, H.sw1.holeia (n := 1) rfl]
      refine H.storeH rfl rfl rfl fun h4 H => ?_
      simp -implicitDefEqProofs (disch := first | omega | (simp only [LnZ]; omega)) [wrap64]
      exact hJ _ _ hlx ⟨_, by simp, H, hG.step hlx hf ht hfG⟩
  · simp -implicitDefEqProofs (disch := first | omega | (simp only [LnZ]; omega)) [wrap64]
    exact RetK.keep (hk _ _ ⟨G, H, hG.done ha (by omega), hG.len, fun x hx => by have := hG.le x hx; omega⟩)
end Go.Proofs.Ytglnelcmcimljaa
