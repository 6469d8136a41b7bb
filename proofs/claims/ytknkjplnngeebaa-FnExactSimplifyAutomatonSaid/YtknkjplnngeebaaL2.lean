/-
  Plain laws of the tables by which the program and the reference search for the greatest simulation.
-/
import Derived.Test.YtknkjplnngeebaaL1
import Derived.Test.YtknkjplnngeebaaGD
namespace Go.Proofs.Ytknkjplnngeebaa
open Go
set_option linter.all false
set_option linter.unusedVariables false
set_option linter.unusedSimpArgs false
set_option linter.defProp false
set_option maxRecDepth 1000000

/-- an edge from i to j that takes the letter l -/
def EdgeB (es : List Tr) (i l j : Nat) : Prop := ∃ e ∈ es, e.frm = i ∧ e.to = j ∧ e.on l = true
theorem ans_iff {a : Aut} (ha : a.Ok) {R : Rl} {i j : Nat} : Ans a R i j ↔ ∀ l < 8, ∀ t < a.acc.length, EdgeB a.edges i l t → ∃ k < a.acc.length, EdgeB a.edges j l k ∧ R t k = true := by
  constructor
  · rintro h l hl t ht ⟨e, he, h1, h2, h3⟩
    obtain ⟨f, hf, g1, g2, g3⟩ := h l hl e he h1 h3
    have hq := ha.2.2.2 f hf
    unfold Tr.Ok at hq
    refine ⟨f.to.toNat, by omega, ⟨f, hf, g1, by omega, g2⟩, ?_⟩
    rw [h2] at g3; simpa using g3
  · rintro h l hl e he h1 h3
    have hq := ha.2.2.2 e he
    unfold Tr.Ok at hq
    obtain ⟨k, hk, ⟨f, hf, g1, g2, g3⟩, g4⟩ := h l hl e.to.toNat (by omega) ⟨e, he, h1, by omega, h3⟩
    refine ⟨f, hf, g1, g3, ?_⟩
    rw [g2]; simpa using g4

/- bits -/
def bitR (B : List (BitVec 64)) : Rl := fun i j => (B.getD i 0).getLsbD j
theorem bitR_clr {B : List (BitVec 64)} {i j : Nat} (hi : i < B.length) (hj : j < 64) : bitR (B.set i (clrB B[i] j)) = (bitR B).rem i j := by
  funext x y
  simp only [bitR, Rl.rem, List.getD_eq_getElem?_getD, List.getElem?_set]
  by_cases hx : i = x
  · subst hx
    simp [hi, clrB_get hj]
  · have : ¬ x = i := fun h => hx h.symm
    simp [hx, this]
theorem bitR_set {B : List (BitVec 64)} {i j x y : Nat} (hi : i < B.length) (hj : j < 64) : bitR (B.set i (setB B[i] j)) x y = (bitR B x y || (decide (x = i) && decide (y = j))) := by
  simp only [bitR, List.getD_eq_getElem?_getD, List.getElem?_set]
  by_cases hx : i = x
  · subst hx
    simp [hi, setB_get hj]
  · have : ¬ x = i := fun h => hx h.symm
    simp [hx, this]
theorem bitR_get {B : List (BitVec 64)} {i j : Nat} (hi : i < B.length) : bitR B i j = B[i].getLsbD j := by
  simp [bitR, hi]

/-- rows of truth values -/
def matR (M : List (List Bool)) : Rl := fun i j => (M.getD i []).getD j false
theorem matR_get {M : List (List Bool)} {i j : Nat} (hi : i < M.length) (hj : j < M[i].length) : matR M i j = M[i][j] := by
  simp [matR, hi, hj]
theorem matR_clr {M : List (List Bool)} {i j : Nat} (hi : i < M.length) (hj : j < M[i].length) : matR (M.set i (M[i].set j false)) = (matR M).rem i j := by
  funext x y
  simp only [matR, Rl.rem, List.getD_eq_getElem?_getD, List.getElem?_set]
  by_cases hx : i = x
  · subst hx
    by_cases hy : j = y
    · subst hy; simp [hi, hj]
    · have : ¬ y = j := fun h => hy h.symm
      simp [hi, hy, this]
  · have : ¬ x = i := fun h => hx h.symm
    simp [hx, this]

/-- the table of edges, by letters -/
def Tab (es : List Tr) (n : Nat) (T : List W8) : Prop := T.length = n ∧ ∀ i l k, i < n → l < 8 → k < 64 → (((T.getD i W8.zero).at l).getLsbD k = true ↔ EdgeB es i l k)
/-- the same, while an edge is being entered -/
def Tab2 (es : List Tr) (e : Tr) (m : Nat) (n : Nat) (T : List W8) : Prop := T.length = n ∧ ∀ i l k, i < n → l < 8 → k < 64 → (((T.getD i W8.zero).at l).getLsbD k = true ↔ EdgeB es i l k ∨ (l < m ∧ e.frm = i ∧ e.to = k ∧ e.on l = true))
theorem Tab.zero (n : Nat) : Tab [] n (List.replicate n W8.zero) := by
  refine ⟨by simp, fun i l k hi hl hk => ?_⟩
  have h1 : (List.replicate n W8.zero).getD i W8.zero = W8.zero := by
    rw [List.getD_eq_getElem?_getD, List.getElem?_replicate]; split <;> rfl
  rw [h1]
  have h2 : W8.zero.at l = 0 := by
    simp only [W8.at, W8.zero, List.getD_eq_getElem?_getD, List.getElem?_replicate]; split <;> rfl
  rw [h2]
  simp [EdgeB]
theorem Tab.start {es : List Tr} {n : Nat} {T : List W8} (h : Tab es n T) (e : Tr) : Tab2 es e 0 n T :=
  ⟨h.1, fun i l k hi hl hk => by rw [h.2 i l k hi hl hk]; simp⟩
theorem Tab2.skip {es : List Tr} {n m : Nat} {T : List W8} {e : Tr} (h : Tab2 es e m n T) (ho : e.on m = false) : Tab2 es e (m + 1) n T := by
  refine ⟨h.1, fun i l k hi hl hk => ?_⟩
  rw [h.2 i l k hi hl hk]
  by_cases hm : l = m
  · subst hm; simp [ho]
  · have : l < m ↔ l < m + 1 := by omega
    rw [this]
theorem Tab2.put {es : List Tr} {n m : Nat} {T : List W8} {e : Tr} (h : Tab2 es e m n T) (ho : e.on m = true) (hm : m < 8) {f t : Nat} (hf : e.frm = f) (ht : e.to = t) (hfn : f < n) (htn : t < 64) :
    Tab2 es e (m + 1) n (T.set f ((T[f]'(h.1 ▸ hfn)).put m (setB ((T[f]'(h.1 ▸ hfn)).at m) t))) := by
  have hfl : f < T.length := h.1 ▸ hfn
  refine ⟨by simpa using h.1, fun i l k hi hl hk => ?_⟩
  have h1 := h.2 i l k hi hl hk
  rw [List.getD_eq_getElem?_getD, List.getElem?_set]
  rw [List.getD_eq_getElem?_getD] at h1
  by_cases hfi : f = i
  · subst hfi
    simp only [hfl, List.getElem?_eq_getElem, Option.getD_some, if_true] at h1 ⊢
    rw [W8.put_at _ hm]
    by_cases hlm : l = m
    · subst hlm
      rw [if_pos rfl, setB_get htn]
      simp only [Bool.or_eq_true, h1, decide_eq_true_eq]
      have : l < l + 1 := by omega
      constructor
      · rintro ((h2 | h2) | h2)
        · exact .inl h2
        · omega
        · exact .inr ⟨this, hf, by rw [ht, h2], ho⟩
      · rintro (h2 | ⟨_, _, h2, _⟩)
        · exact .inl (.inl h2)
        · exact .inr (by rw [ht] at h2; omega)
    · rw [if_neg hlm, h1]
      have : l < m ↔ l < m + 1 := by omega
      rw [this]
  · rw [if_neg hfi, h1]
    constructor
    · rintro (h2 | ⟨h3, h4, h5⟩)
      · exact .inl h2
      · exact .inr ⟨by omega, h4, h5⟩
    · rintro (h2 | ⟨h3, h4, h5⟩)
      · exact .inl h2
      · rw [hf] at h4; omega
theorem Tab2.done {es : List Tr} {n : Nat} {T : List W8} {k : Nat} (hk : k < es.length) (h : Tab2 (es.take k) es[k] 8 n T) : Tab (es.take (k + 1)) n T := by
  refine ⟨h.1, fun i l j hi hl hj => ?_⟩
  rw [h.2 i l j hi hl hj, List.take_add_one, List.getElem?_eq_getElem hk]
  simp only [EdgeB, List.mem_append, Option.toList_some, List.mem_singleton]
  constructor
  · rintro (⟨e, h1, h2⟩ | ⟨_, h2⟩)
    · exact ⟨e, .inl h1, h2⟩
    · exact ⟨_, .inr rfl, h2⟩
  · rintro ⟨e, h1 | rfl, h2⟩
    · exact .inl ⟨e, h1, h2⟩
    · exact .inr ⟨hl, h2⟩
end Go.Proofs.Ytknkjplnngeebaa
